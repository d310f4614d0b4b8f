/- Texts of one proof, put together: R7, R8, R9, R10, B0, B1. -/
import Derived.Test.YtciahnkkncahjaaDoorM3
import Derived.Test.YtciahnkkncahjaaDoorM2
import Derived.Test.YtciahnkkncahjaaDoorRows
import Derived.ProofKit
import Derived.Below
import Derived.ChangeSame
import Derived.Handed
import Derived.KernelRfl
import Derived.LaidMore
import Derived.MakeChecks
import Derived.LaidHandle
namespace Go.VL
set_option maxRecDepth 20000
abbrev Stk := List (Nat × Nat)
abbrev timesB : List UInt8 := [116, 105, 109, 101, 115]
abbrev endB : List UInt8 := [101, 110, 100]
/-- What a line does: a code, the next line, the acts, and what is open. -/
def stepW (w0 : List UInt8) (wr : List (List UInt8)) (i : Nat) (acs : List AD) (os : Stk) : Int × Nat × List AD × Stk :=
  if w0 = timesB then match wr with
    | [w] => if wh 3 w then (if 1 ≤ nineV w ∧ nineV w ≤ 16 then (if os.length = 2 then (3, i, acs, os) else (0, i + 1, acs, os ++ [(i + 1, (nineV w - 1).toNat)])) else (2, i, acs, os)) else (5, i, acs, os)
    | _ => (5, i, acs, os)
  else if w0 = endB then
    if wr = [] then match os.getLast? with
      | none => (4, i, acs, os)
      | some o => if 0 < o.2 then (0, o.1, acs, os.dropLast ++ [(o.1, o.2 - 1)]) else (0, i + 1, acs, os.dropLast)
    else (5, i, acs, os)
  else match rdA w0 wr with
    | none => (5, i, acs, os)
    | some a => if acs.length = 120 then (3, i, acs, os) else (0, i + 1, acs ++ [a], os)
def step (l : List UInt8) (i : Nat) (acs : List AD) (os : Stk) : Int × Nat × List AD × Stk := match splitB 32 l with
  | [] => (5, i, acs, os)
  | w0 :: wr => stepW w0 wr i acs os
abbrev Res := List AD × Nat × Int
inductive Runs (ls : List (List UInt8)) : Nat → Nat → List AD → Stk → Res → Prop
  | stop {i : Nat} {acs : List AD} (h : ls.length ≤ i) : Runs ls 0 i acs [] (acs, 0, 0)
  | left {i : Nat} {acs : List AD} {os : Stk} (h : ls.length ≤ i) (ho : os ≠ []) : Runs ls 0 i acs os ([], ls.length, 4)
  | err {i j : Nat} {acs bs : List AD} {os qs : Stk} {c : Int} (h : i < ls.length) (hs : step ls[i] i acs os = (c, j, bs, qs)) (hc : c ≠ 0) : Runs ls 0 i acs os ([], i, c)
  | go {n i j : Nat} {acs bs : List AD} {os qs : Stk} {R : Res} (h : i < ls.length) (hs : step ls[i] i acs os = (0, j, bs, qs)) (hr : Runs ls n j bs qs R) : Runs ls (n + 1) i acs os R
section
variable {ls : List (List UInt8)} {n i : Nat} {acs : List AD} {os : Stk} {R : Res}
theorem Runs.at_stop (hr : Runs ls n i acs [] R) (h : ls.length ≤ i) : R = (acs, 0, 0) := by
  cases hr with
  | stop h' => rfl
  | left h' ho => exact absurd rfl ho
  | err h' hs hc => omega
  | go h' hs hr => omega
theorem Runs.at_left (hr : Runs ls n i acs os R) (h : ls.length ≤ i) (ho : os ≠ []) : R = ([], ls.length, 4) := by
  cases hr with
  | stop h' => exact absurd rfl ho
  | left h' ho => rfl
  | err h' hs hc => omega
  | go h' hs hr => omega
theorem Runs.at_err (hr : Runs ls n i acs os R) (h : i < ls.length) {c : Int} {x : Nat × List AD × Stk} (e : step ls[i] i acs os = (c, x)) (hc : c ≠ 0) : R = ([], i, c) := by
  cases hr with
  | stop h' => omega
  | left h' ho => omega
  | err h' hs hc' =>
    rw [e] at hs
    obtain ⟨rfl, -⟩ := Prod.mk.inj hs
    rfl
  | go h' hs hr =>
    rw [e] at hs
    obtain ⟨rfl, -⟩ := Prod.mk.inj hs
    exact absurd rfl hc
theorem Runs.at_go (hr : Runs ls n i acs os R) (h : i < ls.length) {j : Nat} {bs : List AD} {qs : Stk} (e : step ls[i] i acs os = (0, j, bs, qs)) : ∃ m, m < n ∧ Runs ls m j bs qs R := by
  cases hr with
  | stop h' => omega
  | left h' ho => omega
  | err h' hs hc' =>
    rw [e] at hs
    obtain ⟨rfl, -⟩ := Prod.mk.inj hs
    exact absurd rfl hc'
  | go h' hs hr =>
    rw [e] at hs
    simp only [Prod.mk.injEq, true_and] at hs
    obtain ⟨rfl, rfl, rfl⟩ := hs
    exact ⟨_, Nat.lt_succ_self _, hr⟩
end
theorem snoc_of {α : Type} {os : List α} (h : os ≠ []) : ∃ o1 o, os = o1 ++ [o] := ⟨os.dropLast, os.getLast h, (List.dropLast_concat_getLast h).symm⟩
/-- The ways that a line may go. -/
theorem step_ways (l : List UInt8) (i : Nat) (acs : List AD) (os : Stk) {c : Int} {j : Nat} {bs : List AD} {qs : Stk} (e : step l i acs os = (c, j, bs, qs)) : c ≠ 0 ∨ (j = i + 1 ∧ qs = os) ∨ (∃ n, os.length ≠ 2 ∧ j = i + 1 ∧ qs = os ++ [(i + 1, n)]) ∨
    ∃ o1 f n, os = o1 ++ [(f, n)] ∧ ((0 < n ∧ j = f ∧ qs = o1 ++ [(f, n - 1)]) ∨ (j = i + 1 ∧ qs = o1)) := by
  have no : ∀ {c' : Int}, (c', i, acs, os) = (c, j, bs, qs) → c' ≠ 0 → c ≠ 0 := fun h hc => by
    obtain ⟨rfl, -⟩ := Prod.mk.inj h
    exact hc
  unfold step at e
  split at e
  · exact .inl (no e (by decide))
  · unfold stepW at e
    split at e
    · split at e
      · split at e
        · split at e
          · split at e
            · exact .inl (no e (by decide))
            · rename_i h2
              simp only [Prod.mk.injEq] at e
              obtain ⟨rfl, rfl, rfl, rfl⟩ := e
              exact .inr (.inr (.inl ⟨_, h2, rfl, rfl⟩))
          · exact .inl (no e (by decide))
        · exact .inl (no e (by decide))
      · exact .inl (no e (by decide))
    · split at e
      · split at e
        · split at e
          · exact .inl (no e (by decide))
          · rename_i o ho
            have hne : os ≠ [] := by rintro rfl; simp at ho
            obtain ⟨o1, o2, rfl⟩ := snoc_of hne
            obtain rfl : o2 = o := by simpa using ho
            obtain ⟨f, n⟩ := o2
            rw [List.dropLast_concat] at e
            refine .inr (.inr (.inr ⟨o1, f, n, rfl, ?_⟩))
            split at e
            · rename_i h0
              simp only [Prod.mk.injEq] at e
              obtain ⟨-, rfl, -, rfl⟩ := e
              exact .inl ⟨h0, rfl, rfl⟩
            · simp only [Prod.mk.injEq] at e
              obtain ⟨-, rfl, -, rfl⟩ := e
              exact .inr ⟨rfl, rfl⟩
        · exact .inl (no e (by decide))
      · split at e
        · exact .inl (no e (by decide))
        · split at e
          · exact .inl (no e (by decide))
          · simp only [Prod.mk.injEq] at e
            obtain ⟨-, rfl, -, rfl⟩ := e
            exact .inr (.inl ⟨rfl, rfl⟩)
abbrev Ends (ls : List (List UInt8)) (i : Nat) (acs : List AD) (os : Stk) : Prop := ∃ n R, Runs ls n i acs os R
theorem ends_of {ls : List (List UInt8)} {i : Nat} {acs : List AD} {os : Stk} (h : ∀ hi : i < ls.length, ∀ j bs qs, step ls[i] i acs os = (0, j, bs, qs) → Ends ls j bs qs) : Ends ls i acs os := by
  by_cases hi : i < ls.length
  · rcases e : step ls[i] i acs os with ⟨c, j, bs, qs⟩
    by_cases hc : c = 0
    · subst hc
      obtain ⟨n, R, hr⟩ := h hi j bs qs e
      exact ⟨_, _, .go hi e hr⟩
    · exact ⟨_, _, .err hi e hc⟩
  · cases os with
    | nil => exact ⟨_, _, .stop (by omega)⟩
    | cons o r => exact ⟨_, _, .left (by omega) (by simp)⟩
theorem ends2 {ls : List (List UInt8)} {p : Nat × Nat} {f : Nat} (H : ∀ i acs, f < i → Ends ls i acs [p]) : ∀ (n d i : Nat) (acs : List AD), ls.length - i ≤ d → f ≤ i → Ends ls i acs [p, (f, n)] := by
  intro n
  induction n with
  | zero =>
    intro d
    induction d with
    | zero => intro i acs hd hf; exact ends_of fun hi => by omega
    | succ d ih =>
      intro i acs hd hf
      refine ends_of fun hi j bs qs e => ?_
      rcases step_ways _ _ _ _ e with h | ⟨rfl, rfl⟩ | ⟨n, h, -⟩ | ⟨o1, g, m, h1, h2⟩
      · exact absurd rfl h
      · exact ih _ _ (by omega) (by omega)
      · exact absurd rfl h
      · have h1' : [p] ++ [(f, 0)] = o1 ++ [(g, m)] := h1
        obtain ⟨h3, h4⟩ := List.append_inj' h1' rfl
        simp only [List.cons.injEq, Prod.mk.injEq, and_true] at h4
        obtain ⟨rfl, rfl⟩ := h4
        subst h3
        rcases h2 with ⟨h0, -⟩ | ⟨rfl, rfl⟩
        · omega
        · exact H _ _ (by omega)
  | succ n ihn =>
    intro d
    induction d with
    | zero => intro i acs hd hf; exact ends_of fun hi => by omega
    | succ d ih =>
      intro i acs hd hf
      refine ends_of fun hi j bs qs e => ?_
      rcases step_ways _ _ _ _ e with h | ⟨rfl, rfl⟩ | ⟨n, h, -⟩ | ⟨o1, g, m, h1, h2⟩
      · exact absurd rfl h
      · exact ih _ _ (by omega) (by omega)
      · exact absurd rfl h
      · have h1' : [p] ++ [(f, n + 1)] = o1 ++ [(g, m)] := h1
        obtain ⟨h3, h4⟩ := List.append_inj' h1' rfl
        simp only [List.cons.injEq, Prod.mk.injEq, and_true] at h4
        obtain ⟨rfl, rfl⟩ := h4
        subst h3
        rcases h2 with ⟨h0, rfl, rfl⟩ | ⟨rfl, rfl⟩
        · exact ihn _ _ _ (Nat.le_refl _) (Nat.le_refl _)
        · exact H _ _ (by omega)
theorem ends1 {ls : List (List UInt8)} {f : Nat} (H : ∀ i acs, f < i → Ends ls i acs []) : ∀ (n d i : Nat) (acs : List AD), ls.length - i ≤ d → f ≤ i → Ends ls i acs [(f, n)] := by
  have snoc1 : ∀ {x y : Nat × Nat} {o1 : Stk}, [x] = o1 ++ [y] → o1 = [] ∧ x = y := fun {x y o1} h => by
    have h' : [] ++ [x] = o1 ++ [y] := h
    obtain ⟨h3, h4⟩ := List.append_inj' h' rfl
    exact ⟨h3.symm, by simpa using h4⟩
  intro n
  induction n with
  | zero =>
    intro d
    induction d with
    | zero => intro i acs hd hf; exact ends_of fun hi => by omega
    | succ d ih =>
      intro i acs hd hf
      refine ends_of fun hi j bs qs e => ?_
      rcases step_ways _ _ _ _ e with h | ⟨rfl, rfl⟩ | ⟨m, h, rfl, rfl⟩ | ⟨o1, g, m, h1, h2⟩
      · exact absurd rfl h
      · exact ih _ _ (by omega) (by omega)
      · exact ends2 (p := (f, 0)) (f := i + 1) (fun i' acs' hi' => by
          by_cases hl : ls.length ≤ i'
          · exact ends_of fun hi => by omega
          · exact ih i' acs' (by omega) (by omega)) m _ _ _ (Nat.le_refl _) (Nat.le_refl _)
      · obtain ⟨rfl, h4⟩ := snoc1 h1
        simp only [Prod.mk.injEq] at h4
        obtain ⟨rfl, rfl⟩ := h4
        rcases h2 with ⟨h0, -⟩ | ⟨rfl, rfl⟩
        · omega
        · exact H _ _ (by omega)
  | succ n ihn =>
    intro d
    induction d with
    | zero => intro i acs hd hf; exact ends_of fun hi => by omega
    | succ d ih =>
      intro i acs hd hf
      refine ends_of fun hi j bs qs e => ?_
      rcases step_ways _ _ _ _ e with h | ⟨rfl, rfl⟩ | ⟨m, h, rfl, rfl⟩ | ⟨o1, g, m, h1, h2⟩
      · exact absurd rfl h
      · exact ih _ _ (by omega) (by omega)
      · exact ends2 (p := (f, n + 1)) (f := i + 1) (fun i' acs' hi' => by
          by_cases hl : ls.length ≤ i'
          · exact ends_of fun hi => by omega
          · exact ih i' acs' (by omega) (by omega)) m _ _ _ (Nat.le_refl _) (Nat.le_refl _)
      · obtain ⟨rfl, h4⟩ := snoc1 h1
        simp only [Prod.mk.injEq] at h4
        obtain ⟨rfl, rfl⟩ := h4
        rcases h2 with ⟨h0, rfl, rfl⟩ | ⟨rfl, rfl⟩
        · exact ihn _ _ _ (Nat.le_refl _) (Nat.le_refl _)
        · exact H _ _ (by omega)
theorem ends0 {ls : List (List UInt8)} : ∀ (d i : Nat) (acs : List AD), ls.length - i ≤ d → Ends ls i acs [] := by
  intro d
  induction d with
  | zero => intro i acs hd; exact ends_of fun hi => by omega
  | succ d ih =>
    intro i acs hd
    refine ends_of fun hi j bs qs e => ?_
    rcases step_ways _ _ _ _ e with h | ⟨rfl, rfl⟩ | ⟨m, h, rfl, rfl⟩ | ⟨o1, g, m, h1, h2⟩
    · exact absurd rfl h
    · exact ih _ _ (by omega)
    · exact ends1 (f := i + 1) (fun i' acs' hi' => by
        by_cases hl : ls.length ≤ i'
        · exact ends_of fun hi => by omega
        · exact ih i' acs' (by omega)) m _ _ _ (Nat.le_refl _) (Nat.le_refl _)
    · simp at h1
/-- The lines of a text. -/
def lnsOf (L : List (List UInt8)) : List (List UInt8) := if L.getLast? = some [] then (L.take (L.length - 1)).drop 0 else L
end Go.VL
namespace Go.VL
open Go.RowKit
set_option maxRecDepth 20000
set_option maxHeartbeats 8000000
abbrev frS (os : Stk) : List Int := os.map fun o => (o.1 : Int)
abbrev lfS (os : Stk) : List Int := os.map fun o => (o.2 : Int)
abbrev gA (w0 : List UInt8) (wr : List (List UInt8)) : AD := (rdA w0 wr).getD noA
abbrev cmpV (R : Res) : V := .tup [.c (.sl true R.1.length 5 (flat acE R.1)), .c (.v (.int .i64 (R.2.1 : Int))), .c (.v (.int .i64 R.2.2))]
def cmpR (s : List UInt8) (ls : List (List UInt8)) (R : Res) : Res := if 3000 < s.length ∨ 120 < ls.length then ([], 0, 2) else R
theorem cmpR_long {s : List UInt8} {ls : List (List UInt8)} {R : Res} (h : 3000 < s.length ∨ 120 < ls.length) : cmpR s ls R = ([], 0, 2) := by unfold cmpR; rw [if_pos h]
theorem cmpR_ok {s : List UInt8} {ls : List (List UInt8)} {R : Res} (h : ¬ (3000 < s.length ∨ 120 < ls.length)) : cmpR s ls R = R := by unfold cmpR; rw [if_neg h]
theorem splitB_cons (c : UInt8) (l : List UInt8) : ∃ w0 wr, splitB c l = w0 :: wr := by
  cases h : splitB c l with
  | nil => exact absurd h (splitB_ne c l)
  | cons a b => exact ⟨a, b, rfl⟩
theorem getLast_at {L : List (List UInt8)} (hb : L.length - 1 < L.length) : L.getLast? = some L[L.length - 1] := by
  rw [List.getLast?_eq_getElem?, List.getElem?_eq_getElem hb]
theorem lns_cut {L ls : List (List UInt8)} (h : lnsOf L = ls) (hb : L.length - 1 < L.length) (e : L[L.length - 1] = []) : (L.take (L.length - 1)).drop 0 = ls ∧ L.length - 1 - 0 = ls.length := by
  unfold lnsOf at h
  rw [getLast_at hb, e, if_pos rfl] at h
  subst h
  refine ⟨rfl, ?_⟩
  rw [List.length_drop, List.length_take]
  omega
theorem lns_all {L ls : List (List UInt8)} (h : lnsOf L = ls) (hb : L.length - 1 < L.length) (e : ¬ L[L.length - 1] = []) : L = ls ∧ L.length = ls.length := by
  unfold lnsOf at h
  rw [getLast_at hb, if_neg (by simpa using e)] at h
  subst h
  exact ⟨rfl, rfl⟩
theorem lns_part {c : UInt8} {s : List UInt8} {ls : List (List UInt8)} (h : lnsOf (splitB c s) = ls) : ∀ l ∈ ls, l.length ≤ s.length := fun l hl => by
  refine splitB_part c s l ?_
  unfold lnsOf at h
  subst h
  split at hl
  · exact List.mem_of_mem_take (List.mem_of_mem_drop hl)
  · exact hl
theorem tr_sle {H : List Ob} {g : List (Option Nat)} {b : Bool} {n n' k : Nat} {cs cs' : List C} (hn : n = n') (hc : cs = cs') : TrV H g (.c (.sl b n k cs)) (.c (.sl b n' k cs')) := by
  subst hn hc
  exact tr_sl
theorem lfS_last {o1 : Stk} {f l : Nat} (h : o1.length < (lfS (o1 ++ [(f, l)])).length) : (lfS (o1 ++ [(f, l)]))[o1.length] = (l : Int) := by simp [lfS]
theorem frS_last {o1 : Stk} {f l : Nat} (h : o1.length < (frS (o1 ++ [(f, l)])).length) : (frS (o1 ++ [(f, l)]))[o1.length] = (f : Int) := by simp [frS]
theorem lfS_dec {o1 : Stk} {f l : Nat} (hl : 0 < l) {x : Int} (hx : x = (l : Int) - 1) : (lfS (o1 ++ [(f, l)])).set o1.length x = lfS (o1 ++ [(f, l - 1)]) := by
  subst hx
  simp only [lfS, List.map_append, List.map_cons, List.map_nil]
  rw [List.set_append_right _ _ (by simp), List.length_map, Nat.sub_self, List.set_cons_zero]
  congr 2
  omega
theorem frS_same {o1 : Stk} {f l m : Nat} : frS (o1 ++ [(f, l)]) = frS (o1 ++ [(f, m)]) := by simp [frS]
theorem trc_all {H : List Ob} {g : List (Option Nat)} {cs cs' : List C} (h : TrC H g cs cs') : TrC H g (cs.take cs.length) cs' := by
  rw [List.take_length]
  exact h
theorem fr_cut {H : List Ob} {g : List (Option Nat)} {o1 : Stk} {x : Nat × Nat} : TrC H g ((flat int (frS (o1 ++ [x]))).take (o1.length * 1)) (flat int (frS o1)) := by
  rw [flat_take int_len]
  refine trc_flat int_sc (congrArg (flat int) ?_)
  simp [frS]
theorem lf_cut {H : List Ob} {g : List (Option Nat)} {o1 : Stk} {x : Nat × Nat} : TrC H g ((flat int (lfS (o1 ++ [x]))).take (o1.length * 1)) (flat int (lfS o1)) := by
  rw [flat_take int_len]
  refine trc_flat int_sc (congrArg (flat int) ?_)
  simp [lfS]
theorem a_res {H : List Ob} {r0 : V} {s : List UInt8} {ls : List (List UInt8)} {R R' : Res} (e : cmpR s ls R = R') (h : TrV H [] r0 (cmpV R')) : TrV H [] r0 (cmpV (cmpR s ls R)) := by rw [e]; exact h
section
variable {l w0 w : List UInt8} {wr : List (List UInt8)} {i : Nat} {acs : List AD} {os o1 : Stk} {f n : Nat}
theorem step_at (h : splitB 32 l = w0 :: wr) : step l i acs os = stepW w0 wr i acs os := by unfold step; rw [h]
theorem sw_t0 (h : w0 = timesB) (h1 : wr.length ≠ 1) : stepW w0 wr i acs os = (5, i, acs, os) := by
  unfold stepW
  rw [if_pos h]
  rcases wr with _ | ⟨a, _ | ⟨b, r⟩⟩
  · rfl
  · exact absurd rfl h1
  · rfl
theorem sw_t1 (h : w0 = timesB) (h1 : ¬ wh 3 w) : stepW w0 [w] i acs os = (5, i, acs, os) := by
  unfold stepW
  rw [if_pos h]
  simp only
  rw [if_neg h1]
theorem sw_t2 (h : w0 = timesB) (h1 : wh 3 w) (h2 : ¬ (1 ≤ nineV w ∧ nineV w ≤ 16)) : stepW w0 [w] i acs os = (2, i, acs, os) := by
  unfold stepW
  rw [if_pos h]
  simp only
  rw [if_pos h1, if_neg h2]
theorem sw_t3 (h : w0 = timesB) (h1 : wh 3 w) (h2 : 1 ≤ nineV w ∧ nineV w ≤ 16) (h3 : os.length = 2) : stepW w0 [w] i acs os = (3, i, acs, os) := by
  unfold stepW
  rw [if_pos h]
  simp only
  rw [if_pos h1, if_pos h2, if_pos h3]
theorem sw_t (h : w0 = timesB) (h1 : wh 3 w) (h2 : 1 ≤ nineV w ∧ nineV w ≤ 16) (h3 : ¬ os.length = 2) : stepW w0 [w] i acs os = (0, i + 1, acs, os ++ [(i + 1, (nineV w - 1).toNat)]) := by
  unfold stepW
  rw [if_pos h]
  simp only
  rw [if_pos h1, if_pos h2, if_neg h3]
theorem sw_e0 (h0 : ¬ w0 = timesB) (h : w0 = endB) (h1 : ¬ wr = []) : stepW w0 wr i acs os = (5, i, acs, os) := by
  unfold stepW
  rw [if_neg h0, if_pos h, if_neg h1]
theorem sw_e1 (h0 : ¬ w0 = timesB) (h : w0 = endB) (h1 : wr = []) (h2 : os = []) : stepW w0 wr i acs os = (4, i, acs, os) := by
  subst h2
  unfold stepW
  rw [if_neg h0, if_pos h, if_pos h1]
  rfl
theorem sw_e2 (h0 : ¬ w0 = timesB) (h : w0 = endB) (h1 : wr = []) (h2 : 0 < n) : stepW w0 wr i acs (o1 ++ [(f, n)]) = (0, f, acs, o1 ++ [(f, n - 1)]) := by
  unfold stepW
  rw [if_neg h0, if_pos h, if_pos h1, List.getLast?_concat]
  simp only
  rw [if_pos h2, List.dropLast_concat]
theorem sw_e3 (h0 : ¬ w0 = timesB) (h : w0 = endB) (h1 : wr = []) (h2 : ¬ 0 < n) : stepW w0 wr i acs (o1 ++ [(f, n)]) = (0, i + 1, acs, o1) := by
  unfold stepW
  rw [if_neg h0, if_pos h, if_pos h1, List.getLast?_concat]
  simp only
  rw [if_neg h2, List.dropLast_concat]
theorem sw_a0 (h0 : ¬ w0 = timesB) (h : ¬ w0 = endB) (h1 : ¬ (rdA w0 wr).isSome = true) : stepW w0 wr i acs os = (5, i, acs, os) := by
  unfold stepW
  rw [if_neg h0, if_neg h]
  cases e : rdA w0 wr with
  | none => rfl
  | some a => rw [e] at h1; exact absurd rfl h1
theorem sw_a1 (h0 : ¬ w0 = timesB) (h : ¬ w0 = endB) (h1 : (rdA w0 wr).isSome = true) (h2 : acs.length = 120) : stepW w0 wr i acs os = (3, i, acs, os) := by
  unfold stepW
  rw [if_neg h0, if_neg h]
  cases e : rdA w0 wr with
  | none => rw [e] at h1; cases h1
  | some a => simp only; rw [if_pos h2]
theorem sw_a (h0 : ¬ w0 = timesB) (h : ¬ w0 = endB) (h1 : (rdA w0 wr).isSome = true) (h2 : ¬ acs.length = 120) : stepW w0 wr i acs os = (0, i + 1, acs ++ [gA w0 wr], os) := by
  unfold stepW
  rw [if_neg h0, if_neg h]
  unfold gA
  cases e : rdA w0 wr with
  | none => rw [e] at h1; cases h1
  | some a => simp only; rw [if_neg h2]; rfl
end
theorem stk_snoc {os : Stk} (h : 0 < os.length) : ∃ (o1 : Stk) (f n : Nat), os = o1 ++ [(f, n)] := by
  obtain ⟨o1, ⟨f, n⟩, rfl⟩ := snoc_of (os := os) (by rintro rfl; simp at h)
  exact ⟨o1, f, n, rfl⟩
variable [Inhabited Env]
theorem cRdST {w0 : List UInt8} {wr : List (List UInt8)} (hs : ∀ w ∈ w0 :: wr, w.length ≤ 1048576) (hwl : wr.length ≤ 2 ^ 30) (h : (rdA w0 wr).isSome = true) : PureC X 16 [.c (.sl false (w0 :: wr).length 1 (flat st (w0 :: wr)))] (.tup [.agg (acE (gA w0 wr)), cB true]) := by
  have := cRdAS w0 wr hs hwl
  unfold rA at this
  rwa [h] at this
theorem cRdSTF {w0 : List UInt8} {wr : List (List UInt8)} (hs : ∀ w ∈ w0 :: wr, w.length ≤ 1048576) (hwl : wr.length ≤ 2 ^ 30) (h : ¬ (rdA w0 wr).isSome = true) : PureC X 16 [.c (.sl false (w0 :: wr).length 1 (flat st (w0 :: wr)))] (.tup [.agg (acE (gA w0 wr)), cB false]) := by
  have := cRdAS w0 wr hs hwl
  unfold rA at this
  rwa [eq_false_of_ne_true h] at this

theorem cRdIT {w0 : List UInt8} {wr : List (List UInt8)} (hs : ∀ w ∈ w0 :: wr, w.length ≤ 1048576) (hwl : wr.length ≤ 2 ^ 30) (h : (rdA w0 wr).isSome = true) : PureC X 20 [.c (.sl false (w0 :: wr).length 1 (flat st (w0 :: wr)))] (.tup [.agg (acE (gA w0 wr)), cB true]) := by
  have := cRdAI w0 wr hs hwl
  unfold rA at this
  rwa [h] at this
theorem cRdITF {w0 : List UInt8} {wr : List (List UInt8)} (hs : ∀ w ∈ w0 :: wr, w.length ≤ 1048576) (hwl : wr.length ≤ 2 ^ 30) (h : ¬ (rdA w0 wr).isSome = true) : PureC X 20 [.c (.sl false (w0 :: wr).length 1 (flat st (w0 :: wr)))] (.tup [.agg (acE (gA w0 wr)), cB false]) := by
  have := cRdAI w0 wr hs hwl
  unfold rA at this
  rwa [eq_false_of_ne_true h] at this

theorem cCmpS1 (s : List UInt8) (hs : s.length ≤ 1048576) (ls : List (List UInt8)) (hls : lnsOf (splitB 10 s) = ls) (R : Res) (n0 : Nat) (hR : Runs ls n0 0 [] [] R) : PureC X 4 [cS s] (cmpV (cmpR s ls R)) := by
  refine PureC.of_body (drawD_ok X) (fun _ _ => Go.Proofs.Tryd.call4 _ _) Go.Proofs.Tryd.func4 rfl (n := 69) rfl ?_
  have h0 : (tx s).size = s.length := rfl
  have hlp : ∀ l ∈ ls, l.length ≤ s.length := lns_part hls
  have hc := splitB_len 10 s
  have hbd : (splitB 10 s).length - 1 < (splitB 10 s).length := by omega
  have hc2 := splitB_le 10 s
  refine w_seq ?_
  refine w_reg rfl ?_
  refine v_assign rfl ?_
  refine v_assign (c := .v (.int .i64 0)) rfl ?_
  refine v_assign (c := .v (.int .i64 0)) rfl ?_
  refine v_nil ?_
  refine q_n ?_
  refine w_seq ?_
  refine w_reg rfl ?_
  refine v_move rfl ?_
  refine v_call (cSplitS s 10 hs) rfl rfl rfl (.cons vw_v (.cons vw_v .nil)) ?_
  refine v_assign rfl ?_
  refine v_nil ?_
  refine q_n ?_
  refine w_seq ?_
  refine w_seq ?_
  refine w_reg rfl ?_
  refine v_move rfl ?_
  refine v_move rfl ?_
  refine v_len_sl lay28 rfl ?_
  refine v_sub lay3 rfl rfl (i64r (by omega)) ?_
  refine v_idx_e (k := 1) ((splitB 10 s).length - 1) st_len lay28 lay9 rfl rfl rfl (rfl) rfl (by omega) (hbd) ?_
  refine v_load_vw (.c (.v _)) lay9 rfl rfl rfl ?_
  refine v_seql lay9 rfl rfl (fun h2 => ?_) (fun h2 => ?_)
  rotate_left
  · obtain ⟨hE, hn⟩ := lns_all hls hbd h2
    refine v_nil ?_
    refine q_n ?_
    refine w_f rfl ?_
    refine w_skip ?_
    refine q_n ?_
    refine w_seq ?_
    refine w_seq ?_
    refine w_reg rfl ?_
    refine v_move rfl ?_
    refine v_len_s lay9 rfl ?_
    refine v_gtr lay3 rfl rfl (fun h37 => ?_) (fun h37 => ?_)
    · refine v_move rfl ?_
      refine v_guard_off rfl rfl rfl ?_
      refine v_guard_off rfl rfl rfl ?_
      refine v_guard_off rfl rfl rfl ?_
      refine v_pick_t (v := .v (.bool true)) rfl rfl ?_
      refine v_nil ?_
      refine q_n ?_
      refine w_t rfl ?_
      refine w_seq ?_
      refine w_reg rfl ?_
      refine v_lit (flat acE []) (H' := [_]) lay22 lay46 rfl rfl ⟨by decide, by decide⟩ rfl rfl ?_
      refine v_assign rfl ?_
      refine v_assign (c := .v (.int .i64 0)) rfl ?_
      refine v_assign (c := .v (.int .i64 2)) rfl ?_
      refine v_nil ?_
      refine q_n ?_
      refine w_ret (q_r ?_)
      refine r_r rfl ?_
      exact a_res (cmpR_long (s := s) (ls := ls) (by omega)) (a_tup (.cons (a_flat (xs := ([] : List AD)) acE_sc acE_len rfl rfl) (.cons tr_v (.cons tr_v .nil))))
    refine v_move rfl ?_
    refine v_guard_on rfl rfl ?_
    refine v_move rfl ?_
    refine v_guard_on rfl rfl ?_
    refine v_len_sl lay28 rfl ?_
    refine v_guard_on rfl rfl ?_
    refine v_gtr lay3 rfl rfl (fun h38 => ?_) (fun h38 => ?_)
    · refine v_pick_f rfl rfl ?_
      refine v_nil ?_
      refine q_n ?_
      refine w_t rfl ?_
      refine w_seq ?_
      refine w_reg rfl ?_
      refine v_lit (flat acE []) (H' := [_]) lay22 lay46 rfl rfl ⟨by decide, by decide⟩ rfl rfl ?_
      refine v_assign rfl ?_
      refine v_assign (c := .v (.int .i64 0)) rfl ?_
      refine v_assign (c := .v (.int .i64 2)) rfl ?_
      refine v_nil ?_
      refine q_n ?_
      refine w_ret (q_r ?_)
      refine r_r rfl ?_
      exact a_res (cmpR_long (s := s) (ls := ls) (by omega)) (a_tup (.cons (a_flat (xs := ([] : List AD)) acE_sc acE_len rfl rfl) (.cons tr_v (.cons tr_v .nil))))
    refine v_pick_f rfl rfl ?_
    refine v_nil ?_
    refine q_n ?_
    refine w_f rfl ?_
    refine w_skip ?_
    refine q_n ?_
    refine w_seq ?_
    refine w_reg rfl ?_
    refine v_lit (flat acE []) (H' := [_]) lay22 lay46 rfl rfl ⟨by decide, by decide⟩ rfl rfl ?_
    refine v_build [(0, 1), (1, 1), (2, 1)] [_, .v _, .v _] lay34 rfl rfl ?_
    refine v_box (m := 1) (H' := [_, _]) lay34 rfl rfl rfl ?_
    refine v_assign rfl ?_
    refine v_nil ?_
    refine q_n ?_
    refine w_seq ?_
    refine w_seq ?_
    refine w_reg rfl ?_
    refine v_assign (c := .v (.int .i64 0)) rfl ?_
    refine v_nil ?_
    refine q_n ?_
    refine w_block ?_
    refine w_loop (fun k sl H => ∃ (i : Nat) (acs : List AD) (os : Stk), Runs ls k i acs os R ∧ i ≤ ls.length ∧ acs.length ≤ 120 ∧ os.length ≤ 2 ∧ (∀ o ∈ os, o.1 ≤ ls.length ∧ o.2 ≤ 15) ∧ sl = sls [(5, .c (.sl true ls.length 1 (flat st ls))), (6, .c (.pt 0 0)), (7, cI i)] ∧ H = [⟨[.mu 1 0 acs.length 5, .mu 2 0 os.length 1, .mu 3 0 os.length 1], 34, true⟩, ⟨flat acE acs, 46, true⟩, ⟨flat int (frS os), 3, true⟩, ⟨flat int (lfS os), 2, true⟩]) ?_ ?_
    · have hok : ¬ (3000 < s.length ∨ 120 < ls.length) := by omega
      refine ⟨_, _, _, ?_, 0, [], [], hR, Nat.zero_le _, Nat.zero_le _, Nat.zero_le _, (fun o hq => by cases hq), rfl, rfl⟩
      exact turn [some 1, some 0, none, none] rfl rfl rfl ⟨⟨_, rfl, .cons (tr_mu rfl) (.cons (tr_nil rfl) (.cons (tr_nil rfl) .nil))⟩, ⟨_, rfl, trc_flat acE_sc (xs := []) rfl⟩, rfl, rfl, trivial⟩ ⟨tr_sle hn (congrArg (flat st) hE), tr_pt rfl, tr_v, trivial⟩
    rintro k sl H ⟨i, acs, os, hr, hi, ha, ho, hb, rfl, rfl⟩
    have hok : ¬ (3000 < s.length ∨ 120 < ls.length) := by omega
    refine w_seq ?_
    refine w_seq ?_
    refine w_reg rfl ?_
    refine v_move rfl ?_
    refine v_move rfl ?_
    refine v_len_sl lay28 rfl ?_
    refine v_lss lay3 rfl rfl (fun h39 => ?_) (fun h39 => ?_)
    rotate_left
    · refine v_nil ?_
      refine q_n ?_
      refine w_f rfl ?_
      refine w_exit ?_
      refine q_e ?_
      refine q_e ?_
      refine q_hit ?_
      refine q_n ?_
      refine w_seq ?_
      refine w_seq ?_
      refine w_reg rfl ?_
      refine v_move rfl ?_
      refine v_nil_pt rfl ?_
      refine v_fa_pt (off' := 1) lay34 rfl rfl rfl ?_
      refine v_load_pt (.c _) lay31 rfl rfl rfl rfl ?_
      refine v_len_mu lay31 rfl ?_
      refine v_gtr lay3 rfl rfl (fun h70 => ?_) (fun h70 => ?_)
      · refine v_nil ?_
        refine q_n ?_
        refine w_t rfl ?_
        refine w_seq ?_
        refine w_reg rfl ?_
        refine v_lit (flat acE []) (H' := [_, _, _, _, _]) lay22 lay46 rfl rfl ⟨by decide, by decide⟩ rfl rfl ?_
        refine v_move rfl ?_
        refine v_len_sl lay28 rfl ?_
        refine v_assign rfl ?_
        refine v_assign rfl ?_
        refine v_assign (c := .v (.int .i64 4)) rfl ?_
        refine v_nil ?_
        refine q_n ?_
        refine w_ret (q_r ?_)
        refine r_r rfl ?_
        exact a_res ((cmpR_ok hok).trans (hr.at_left (by omega) (by rintro rfl; simp at *))) (a_tup (.cons (a_flat (xs := ([] : List AD)) acE_sc acE_len rfl rfl) (.cons tr_v (.cons tr_v .nil))))
      refine v_nil ?_
      refine q_n ?_
      refine w_f rfl ?_
      refine w_skip ?_
      refine q_n ?_
      refine w_seq ?_
      refine w_reg rfl ?_
      refine v_move rfl ?_
      refine v_nil_pt rfl ?_
      refine v_fa_pt (off' := 0) lay34 rfl rfl rfl ?_
      refine v_load_pt (.c _) lay22 rfl rfl rfl rfl ?_
      refine v_assign rfl ?_
      refine v_assign (c := .v (.int .i64 0)) rfl ?_
      refine v_assign (c := .v (.int .i64 0)) rfl ?_
      refine v_nil ?_
      refine q_n ?_
      refine w_ret ?_
      refine r_r rfl ?_
      obtain rfl : os = [] := List.eq_nil_of_length_eq_zero (by omega)
      exact a_res ((cmpR_ok hok).trans (hr.at_stop (by omega))) (a_tup (.cons (a_flat acE_sc acE_len rfl rfl) (.cons tr_v (.cons tr_v .nil))))
    have hi1 : i < ls.length := by omega
    obtain ⟨w0, wr, hws⟩ := splitB_cons 32 (ls[i]'hi1)
    have hll := hlp _ (List.getElem_mem hi1)
    have hlen : (w0 :: wr).length = wr.length + 1 := rfl
    have hwp : ∀ w ∈ w0 :: wr, w.length ≤ 1048576 := fun w hw => Nat.le_trans (splitB_part 32 (ls[i]'hi1) w (by rw [hws]; exact hw)) (by omega)
    have hwl : wr.length ≤ 2 ^ 30 := by have := splitB_le 32 (ls[i]'hi1); rw [hws] at this; omega
    have hsp : PureC X 9 [cS (ls[i]'hi1), .c (.v (.int .u8 32))] (.c (.sl true (w0 :: wr).length 1 (flat st (w0 :: wr)))) := hws ▸ cSplitS (ls[i]'hi1) 32 (by omega)
    refine v_nil ?_
    refine q_n ?_
    refine w_t rfl ?_
    refine w_skip ?_
    refine q_n ?_
    refine w_block ?_
    refine w_seq ?_
    refine w_reg rfl ?_
    refine v_move rfl ?_
    refine v_move rfl ?_
    refine v_move rfl ?_
    refine v_idx_e (k := 1) (i) st_len lay28 lay9 rfl rfl rfl (rfl) rfl (rfl) (hi1) ?_
    refine v_load_vw (.c (.v _)) lay9 rfl rfl rfl ?_
    refine v_move rfl ?_
    refine v_inl (n := 156) (drawD_ok X) (fun _ _ => Go.Proofs.Tryd.call10 _ _) Go.Proofs.Tryd.func10 rfl rfl rfl rfl ?_
    refine w_seq ?_
    refine w_reg rfl ?_
    refine v_assign (c := .v (.int .i64 0)) rfl ?_
    refine v_assign (c := .v (.int .i64 0)) rfl ?_
    refine v_nil ?_
    refine q_n ?_
    refine w_seq ?_
    refine w_reg rfl ?_
    refine v_move rfl ?_
    refine v_call (hsp) rfl rfl rfl (.cons vw_v (.cons vw_v .nil)) ?_
    refine v_assign rfl ?_
    refine v_nil ?_
    refine q_n ?_
    refine w_seq ?_
    refine w_seq ?_
    refine w_reg rfl ?_
    refine v_move rfl ?_
    refine v_idx_e (k := 1) (0) st_len lay28 lay9 rfl rfl rfl (rfl) rfl (rfl) (by simp) ?_
    refine v_load_vw (cS w0) lay9 rfl rfl rfl ?_
    refine v_nil ?_
    refine q_n ?_
    refine w_block ?_
    refine w_seq ?_
    refine w_reg rfl ?_
    refine v_seql lay9 rfl rfl (fun h42 => ?_) (fun h42 => ?_)
    · have hw0 : w0 = timesB := h42
      refine v_assign rfl ?_
      refine v_nil ?_
      refine q_n ?_
      refine w_t rfl ?_
      refine w_seq ?_
      refine w_seq ?_
      refine w_reg rfl ?_
      refine v_move rfl ?_
      refine v_len_sl lay28 rfl ?_
      refine v_neq lay3 rfl rfl (fun h43 => ?_) (fun h43 => ?_)
      · refine v_nil ?_
        refine q_n ?_
        refine w_t rfl ?_
        refine w_seq ?_
        refine w_reg rfl ?_
        refine v_move rfl ?_
        refine v_assign rfl ?_
        refine v_assign (c := .v (.int .i64 5)) rfl ?_
        refine v_nil ?_
        refine q_n ?_
        refine w_ret (q_r (q_br (q_r ?_)))
        refine r_r rfl ?_
        refine v_move_t rfl ?_
        refine v_extract_c rfl rfl ?_
        refine v_extract_c rfl rfl ?_
        refine v_assign rfl ?_
        refine v_assign rfl ?_
        refine v_nil ?_
        refine q_n ?_
        refine w_seq ?_
        refine w_seq ?_
        refine w_reg rfl ?_
        refine v_move rfl ?_
        refine v_neq lay2 rfl rfl (fun h44 => ?_) (fun h44 => ?_)
        rotate_left
        · exact absurd h44 (by decide)
        refine v_nil ?_
        refine q_n ?_
        refine w_t rfl ?_
        refine w_seq ?_
        refine w_reg rfl ?_
        refine v_lit (flat acE []) (H' := [_, _, _, _, _]) lay22 lay46 rfl rfl ⟨by decide, by decide⟩ rfl rfl ?_
        refine v_move rfl ?_
        refine v_move rfl ?_
        refine v_assign rfl ?_
        refine v_assign rfl ?_
        refine v_assign rfl ?_
        refine v_nil ?_
        refine q_n ?_
        refine w_ret (q_r (q_br (q_r (q_br (q_r ?_)))))
        refine r_r rfl ?_
        have hst : step (ls[i]'hi1) i acs os = (5, i, acs, os) := (step_at hws).trans (by first | exact sw_t0 hw0 (by omega) | exact sw_t1 hw0 (by assumption) | exact sw_e0 hw0 hwe (fun e => by subst e; have h1 : [w0].length = 1 := rfl; omega) | exact sw_a0 hw0 hwe (by assumption))
        exact a_res ((cmpR_ok hok).trans (hr.at_err hi1 hst (by decide))) (a_tup (.cons (a_flat (xs := ([] : List AD)) acE_sc acE_len rfl rfl) (.cons tr_v (.cons tr_v .nil))))
      obtain ⟨w, rfl⟩ : ∃ w, wr = [w] := len_one (by omega)
      refine v_nil ?_
      refine q_n ?_
      refine w_f rfl ?_
      refine w_skip ?_
      refine q_n ?_
      refine w_seq ?_
      refine w_reg rfl ?_
      refine v_move rfl ?_
      refine v_idx_e (k := 1) (1) st_len lay28 lay9 rfl rfl rfl (rfl) rfl (rfl) (Nat.le_refl 2) ?_
      refine v_load_vw (cS w) lay9 rfl rfl rfl ?_
      refine dec_split (p := wh 3 w) (fun h46 => ?_) (fun h46 => ?_)
      rotate_left
      · refine v_call (cWhF h46) rfl rfl rfl (.cons vw_v (.cons vw_v .nil)) ?_
        refine v_move_t rfl ?_
        refine v_extract_c rfl rfl ?_
        refine v_extract_c rfl rfl ?_
        refine v_assign rfl ?_
        refine v_assign rfl ?_
        refine v_nil ?_
        refine q_n ?_
        refine w_seq ?_
        refine w_seq ?_
        refine w_reg rfl ?_
        refine v_move rfl ?_
        refine v_not true rfl rfl ?_
        refine v_nil ?_
        refine q_n ?_
        refine w_t rfl ?_
        refine w_seq ?_
        refine w_reg rfl ?_
        refine v_move rfl ?_
        refine v_assign rfl ?_
        refine v_assign (c := .v (.int .i64 5)) rfl ?_
        refine v_nil ?_
        refine q_n ?_
        refine w_ret (q_r (q_br (q_r ?_)))
        refine r_r rfl ?_
        refine v_move_t rfl ?_
        refine v_extract_c rfl rfl ?_
        refine v_extract_c rfl rfl ?_
        refine v_assign rfl ?_
        refine v_assign rfl ?_
        refine v_nil ?_
        refine q_n ?_
        refine w_seq ?_
        refine w_seq ?_
        refine w_reg rfl ?_
        refine v_move rfl ?_
        refine v_neq lay2 rfl rfl (fun h52 => ?_) (fun h52 => ?_)
        rotate_left
        · exact absurd h52 (by decide)
        refine v_nil ?_
        refine q_n ?_
        refine w_t rfl ?_
        refine w_seq ?_
        refine w_reg rfl ?_
        refine v_lit (flat acE []) (H' := [_, _, _, _, _]) lay22 lay46 rfl rfl ⟨by decide, by decide⟩ rfl rfl ?_
        refine v_move rfl ?_
        refine v_move rfl ?_
        refine v_assign rfl ?_
        refine v_assign rfl ?_
        refine v_assign rfl ?_
        refine v_nil ?_
        refine q_n ?_
        refine w_ret (q_r (q_br (q_r (q_br (q_r ?_)))))
        refine r_r rfl ?_
        have hst : step (ls[i]'hi1) i acs os = (5, i, acs, os) := (step_at hws).trans (by first | exact sw_t0 hw0 (by omega) | exact sw_t1 hw0 (by assumption) | exact sw_e0 hw0 hwe (fun e => by subst e; have h1 : [w0].length = 1 := rfl; omega) | exact sw_a0 hw0 hwe (by assumption))
        exact a_res ((cmpR_ok hok).trans (hr.at_err hi1 hst (by decide))) (a_tup (.cons (a_flat (xs := ([] : List AD)) acE_sc acE_len rfl rfl) (.cons tr_v (.cons tr_v .nil))))
      refine v_call (cWhT h46) rfl rfl rfl (.cons vw_v (.cons vw_v .nil)) ?_
      refine v_move_t rfl ?_
      refine v_extract_c rfl rfl ?_
      refine v_extract_c rfl rfl ?_
      refine v_assign rfl ?_
      refine v_assign rfl ?_
      refine v_nil ?_
      refine q_n ?_
      refine w_seq ?_
      refine w_seq ?_
      refine w_reg rfl ?_
      refine v_move rfl ?_
      refine v_not false rfl rfl ?_
      refine v_nil ?_
      refine q_n ?_
      refine w_f rfl ?_
      refine w_skip ?_
      refine q_n ?_
      refine w_seq ?_
      refine w_seq ?_
      refine w_reg rfl ?_
      refine v_move rfl ?_
      refine v_callb (cIn _ _ _) rfl rfl (.cons vw_v (.cons vw_v (.cons vw_v .nil))) (fun h47 => ?_) (fun h47 => ?_)
      rotate_left
      · refine v_not true rfl rfl ?_
        refine v_nil ?_
        refine q_n ?_
        refine w_t rfl ?_
        refine w_seq ?_
        refine w_reg rfl ?_
        refine v_move rfl ?_
        refine v_assign rfl ?_
        refine v_assign (c := .v (.int .i64 2)) rfl ?_
        refine v_nil ?_
        refine q_n ?_
        refine w_ret (q_r (q_br (q_r ?_)))
        refine r_r rfl ?_
        refine v_move_t rfl ?_
        refine v_extract_c rfl rfl ?_
        refine v_extract_c rfl rfl ?_
        refine v_assign rfl ?_
        refine v_assign rfl ?_
        refine v_nil ?_
        refine q_n ?_
        refine w_seq ?_
        refine w_seq ?_
        refine w_reg rfl ?_
        refine v_move rfl ?_
        refine v_neq lay2 rfl rfl (fun h51 => ?_) (fun h51 => ?_)
        rotate_left
        · exact absurd h51 (by decide)
        refine v_nil ?_
        refine q_n ?_
        refine w_t rfl ?_
        refine w_seq ?_
        refine w_reg rfl ?_
        refine v_lit (flat acE []) (H' := [_, _, _, _, _]) lay22 lay46 rfl rfl ⟨by decide, by decide⟩ rfl rfl ?_
        refine v_move rfl ?_
        refine v_move rfl ?_
        refine v_assign rfl ?_
        refine v_assign rfl ?_
        refine v_assign rfl ?_
        refine v_nil ?_
        refine q_n ?_
        refine w_ret (q_r (q_br (q_r (q_br (q_r ?_)))))
        refine r_r rfl ?_
        have hst : step (ls[i]'hi1) i acs os = (2, i, acs, os) := (step_at hws).trans (by first | exact sw_t2 hw0 (by assumption) (by omega))
        exact a_res ((cmpR_ok hok).trans (hr.at_err hi1 hst (by decide))) (a_tup (.cons (a_flat (xs := ([] : List AD)) acE_sc acE_len rfl rfl) (.cons tr_v (.cons tr_v .nil))))
      refine v_not false rfl rfl ?_
      refine v_nil ?_
      refine q_n ?_
      refine w_f rfl ?_
      refine w_skip ?_
      refine q_n ?_
      refine w_seq ?_
      refine w_seq ?_
      refine w_reg rfl ?_
      refine v_move rfl ?_
      refine v_nil_pt rfl ?_
      refine v_fa_pt (off' := 1) lay34 rfl rfl rfl ?_
      refine v_load_pt (.c _) lay31 rfl rfl rfl rfl ?_
      refine v_len_mu lay31 rfl ?_
      refine v_eql lay3 rfl rfl (fun h48 => ?_) (fun h48 => ?_)
      · refine v_nil ?_
        refine q_n ?_
        refine w_t rfl ?_
        refine w_seq ?_
        refine w_reg rfl ?_
        refine v_move rfl ?_
        refine v_assign rfl ?_
        refine v_assign (c := .v (.int .i64 3)) rfl ?_
        refine v_nil ?_
        refine q_n ?_
        refine w_ret (q_r (q_br (q_r ?_)))
        refine r_r rfl ?_
        refine v_move_t rfl ?_
        refine v_extract_c rfl rfl ?_
        refine v_extract_c rfl rfl ?_
        refine v_assign rfl ?_
        refine v_assign rfl ?_
        refine v_nil ?_
        refine q_n ?_
        refine w_seq ?_
        refine w_seq ?_
        refine w_reg rfl ?_
        refine v_move rfl ?_
        refine v_neq lay2 rfl rfl (fun h49 => ?_) (fun h49 => ?_)
        rotate_left
        · exact absurd h49 (by decide)
        refine v_nil ?_
        refine q_n ?_
        refine w_t rfl ?_
        refine w_seq ?_
        refine w_reg rfl ?_
        refine v_lit (flat acE []) (H' := [_, _, _, _, _]) lay22 lay46 rfl rfl ⟨by decide, by decide⟩ rfl rfl ?_
        refine v_move rfl ?_
        refine v_move rfl ?_
        refine v_assign rfl ?_
        refine v_assign rfl ?_
        refine v_assign rfl ?_
        refine v_nil ?_
        refine q_n ?_
        refine w_ret (q_r (q_br (q_r (q_br (q_r ?_)))))
        refine r_r rfl ?_
        have hst : step (ls[i]'hi1) i acs os = (3, i, acs, os) := (step_at hws).trans (by first | exact sw_t3 hw0 (by assumption) (by omega) (by omega) | exact sw_a1 hw0 hwe (by assumption) (by omega))
        exact a_res ((cmpR_ok hok).trans (hr.at_err hi1 hst (by decide))) (a_tup (.cons (a_flat (xs := ([] : List AD)) acE_sc acE_len rfl rfl) (.cons tr_v (.cons tr_v .nil))))
      refine v_nil ?_
      refine q_n ?_
      refine w_f rfl ?_
      refine w_skip ?_
      refine q_n ?_
      refine w_seq ?_
      refine w_reg rfl ?_
      refine v_move rfl ?_
      refine v_move rfl ?_
      refine v_nil_pt rfl ?_
      refine v_fa_pt (off' := 1) lay34 rfl rfl rfl ?_
      refine v_load_pt (.c _) lay31 rfl rfl rfl rfl ?_
      refine v_move rfl ?_
      refine v_add lay3 rfl rfl (i64r (by omega)) ?_
      refine v_lit (flat int [_]) (H' := [_, _, _, _, _]) lay31 lay3 rfl rfl ⟨by decide, by decide⟩ rfl rfl ?_
      refine v_app_flat (H' := [_, _, _, _, _, _]) int_sc int_len lay31 lay3 rfl rfl (by first | rfl | (simp [frS, lfS]; done)) rfl rfl (by first | rfl | (simp; done)) rfl rfl (by unfold maxLen; simp only []; omega) rfl rfl ?_
      refine v_nil_pt rfl ?_
      refine v_fa_pt (off' := 1) lay34 rfl rfl rfl ?_
      refine v_store (H' := [⟨[_, _, _], 34, true⟩, _, _, _, _, _]) lay31 rfl rfl rfl rfl rfl rfl ?_
      refine v_nil ?_
      refine q_n ?_
      refine w_seq ?_
      refine w_reg rfl ?_
      refine v_move rfl ?_
      refine v_move rfl ?_
      refine v_nil_pt rfl ?_
      refine v_fa_pt (off' := 2) lay34 rfl rfl rfl ?_
      refine v_load_pt (.c _) lay32 rfl rfl rfl rfl ?_
      refine v_move rfl ?_
      refine v_sub lay2 rfl rfl (i64r (by omega)) ?_
      refine v_lit (flat int [_]) (H' := [_, _, _, _, _, _, _]) lay32 lay2 rfl rfl ⟨by decide, by decide⟩ rfl rfl ?_
      refine v_app_flat (H' := [_, _, _, _, _, _, _, _]) int_sc int_len lay32 lay2 rfl rfl (by first | rfl | (simp [frS, lfS]; done)) rfl rfl (by first | rfl | (simp; done)) rfl rfl (by unfold maxLen; simp only []; omega) rfl rfl ?_
      refine v_nil_pt rfl ?_
      refine v_fa_pt (off' := 2) lay34 rfl rfl rfl ?_
      refine v_store (H' := [⟨[_, _, _], 34, true⟩, _, _, _, _, _, _, _]) lay32 rfl rfl rfl rfl rfl rfl ?_
      refine v_nil ?_
      refine q_n ?_
      refine w_seq ?_
      refine w_reg rfl ?_
      refine v_move rfl ?_
      refine v_add lay3 rfl rfl (i64r (by omega)) ?_
      refine v_assign rfl ?_
      refine v_assign (c := .v (.int .i64 0)) rfl ?_
      refine v_nil ?_
      refine q_n ?_
      refine w_ret (q_br (q_r ?_))
      refine r_r rfl ?_
      refine v_move_t rfl ?_
      refine v_extract_c rfl rfl ?_
      refine v_extract_c rfl rfl ?_
      refine v_assign rfl ?_
      refine v_assign rfl ?_
      refine v_nil ?_
      refine q_n ?_
      refine w_seq ?_
      refine w_seq ?_
      refine w_reg rfl ?_
      refine v_move rfl ?_
      refine v_neq lay2 rfl rfl (fun h50 => ?_) (fun h50 => ?_)
      · exact absurd (by decide) h50
      refine v_nil ?_
      refine q_n ?_
      refine w_f rfl ?_
      refine w_skip ?_
      refine q_n ?_
      refine w_reg rfl ?_
      refine v_move rfl ?_
      refine v_assign rfl ?_
      refine v_nil ?_
      refine q_bn ?_
      refine q_n ?_
      obtain ⟨m, hlt, hm⟩ := hr.at_go hi1 ((step_at hws).trans (sw_t hw0 (by assumption) (by omega) (by omega)))
      refine ⟨_, _, _, ?_, ⟨i + 1, acs, os ++ [(i + 1, (nineV w - 1).toNat)], hm, by omega, ha, by rw [List.length_append]; show os.length + 1 ≤ 2; omega, ?_, rfl, rfl⟩, hlt⟩
      · exact turn [some 0, some 1, some 5, some 7] rfl rfl rfl ⟨⟨_, rfl, .cons (tr_mu rfl) (.cons (tr_mun rfl (by simp)) (.cons (tr_mun rfl (by simp)) .nil))⟩, ⟨_, rfl, trc_flat acE_sc rfl⟩, ⟨_, rfl, trc_flat int_sc (congrArg (flat int) (by simp [frS]))⟩, ⟨_, rfl, trc_flat int_sc (congrArg (flat int) (by simp [lfS]; omega))⟩, trivial⟩ ⟨tr_sl, tr_pt rfl, tr_v, trivial⟩
      · intro o hq
        rcases List.mem_append.1 hq with hq | hq
        · exact hb o hq
        · obtain rfl : o = (i + 1, (nineV w - 1).toNat) := by simpa using hq
          exact ⟨by show i + 1 ≤ ls.length; omega, by show (nineV w - 1).toNat ≤ 15; omega⟩
    have hw0 : ¬ w0 = timesB := h42
    refine v_assign rfl ?_
    refine v_nil ?_
    refine q_n ?_
    refine w_f rfl ?_
    refine w_seq ?_
    refine w_reg rfl ?_
    refine v_seql lay9 rfl rfl (fun h53 => ?_) (fun h53 => ?_)
    rotate_left
    · have hwe : ¬ w0 = endB := h53
      refine v_assign rfl ?_
      refine v_nil ?_
      refine q_n ?_
      refine w_f rfl ?_
      refine w_skip ?_
      refine q_bn ?_
      refine q_n ?_
      refine w_seq ?_
      refine w_reg rfl ?_
      refine v_move rfl ?_
      refine dec_split (p := (rdA w0 wr).isSome = true) (fun h65 => ?_) (fun h65 => ?_)
      rotate_left
      · refine v_call (cRdSTF hwp hwl h65) rfl rfl rfl (.cons vw_sl .nil) ?_
        refine v_move_t rfl ?_
        refine v_extract_a rfl rfl ?_
        refine v_extract_c rfl rfl ?_
        refine v_alloc (m := 4) (H' := [_, _, _, _, ⟨[.v _, .v _, .v _, .v _, .f _ _], 46, true⟩]) lay46 rfl rfl ?_
        refine v_store (H' := [_, _, _, _, ⟨[_, _, _, _, _], 46, true⟩]) lay46 rfl rfl rfl rfl rfl rfl ?_
        refine v_assign rfl ?_
        refine v_nil ?_
        refine q_n ?_
        refine w_seq ?_
        refine w_seq ?_
        refine w_reg rfl ?_
        refine v_move rfl ?_
        refine v_not true rfl rfl ?_
        refine v_nil ?_
        refine q_n ?_
        refine w_t rfl ?_
        refine w_seq ?_
        refine w_reg rfl ?_
        refine v_move rfl ?_
        refine v_assign rfl ?_
        refine v_assign (c := .v (.int .i64 5)) rfl ?_
        refine v_nil ?_
        refine q_n ?_
        refine w_ret (q_r ?_)
        refine r_r rfl ?_
        refine v_move_t rfl ?_
        refine v_extract_c rfl rfl ?_
        refine v_extract_c rfl rfl ?_
        refine v_assign rfl ?_
        refine v_assign rfl ?_
        refine v_nil ?_
        refine q_n ?_
        refine w_seq ?_
        refine w_seq ?_
        refine w_reg rfl ?_
        refine v_move rfl ?_
        refine v_neq lay2 rfl rfl (fun h69 => ?_) (fun h69 => ?_)
        rotate_left
        · exact absurd h69 (by decide)
        refine v_nil ?_
        refine q_n ?_
        refine w_t rfl ?_
        refine w_seq ?_
        refine w_reg rfl ?_
        refine v_lit (flat acE []) (H' := [_, _, _, _, _, _]) lay22 lay46 rfl rfl ⟨by decide, by decide⟩ rfl rfl ?_
        refine v_move rfl ?_
        refine v_move rfl ?_
        refine v_assign rfl ?_
        refine v_assign rfl ?_
        refine v_assign rfl ?_
        refine v_nil ?_
        refine q_n ?_
        refine w_ret (q_r (q_br (q_r (q_br (q_r ?_)))))
        refine r_r rfl ?_
        have hst : step (ls[i]'hi1) i acs os = (5, i, acs, os) := (step_at hws).trans (by first | exact sw_t0 hw0 (by omega) | exact sw_t1 hw0 (by assumption) | exact sw_e0 hw0 hwe (fun e => by subst e; have h1 : [w0].length = 1 := rfl; omega) | exact sw_a0 hw0 hwe (by assumption))
        exact a_res ((cmpR_ok hok).trans (hr.at_err hi1 hst (by decide))) (a_tup (.cons (a_flat (xs := ([] : List AD)) acE_sc acE_len rfl rfl) (.cons tr_v (.cons tr_v .nil))))
      refine v_call (cRdST hwp hwl h65) rfl rfl rfl (.cons vw_sl .nil) ?_
      refine v_move_t rfl ?_
      refine v_extract_a rfl rfl ?_
      refine v_extract_c rfl rfl ?_
      refine v_alloc (m := 4) (H' := [_, _, _, _, ⟨[.v _, .v _, .v _, .v _, .f _ _], 46, true⟩]) lay46 rfl rfl ?_
      refine v_store (H' := [_, _, _, _, ⟨[_, _, _, _, _], 46, true⟩]) lay46 rfl rfl rfl rfl rfl rfl ?_
      refine v_assign rfl ?_
      refine v_nil ?_
      refine q_n ?_
      refine w_seq ?_
      refine w_seq ?_
      refine w_reg rfl ?_
      refine v_move rfl ?_
      refine v_not false rfl rfl ?_
      refine v_nil ?_
      refine q_n ?_
      refine w_f rfl ?_
      refine w_skip ?_
      refine q_n ?_
      refine w_seq ?_
      refine w_seq ?_
      refine w_reg rfl ?_
      refine v_move rfl ?_
      refine v_nil_pt rfl ?_
      refine v_fa_pt (off' := 0) lay34 rfl rfl rfl ?_
      refine v_load_pt (.c _) lay22 rfl rfl rfl rfl ?_
      refine v_len_mu lay22 rfl ?_
      refine v_eql lay3 rfl rfl (fun h66 => ?_) (fun h66 => ?_)
      · refine v_nil ?_
        refine q_n ?_
        refine w_t rfl ?_
        refine w_seq ?_
        refine w_reg rfl ?_
        refine v_move rfl ?_
        refine v_assign rfl ?_
        refine v_assign (c := .v (.int .i64 3)) rfl ?_
        refine v_nil ?_
        refine q_n ?_
        refine w_ret (q_r ?_)
        refine r_r rfl ?_
        refine v_move_t rfl ?_
        refine v_extract_c rfl rfl ?_
        refine v_extract_c rfl rfl ?_
        refine v_assign rfl ?_
        refine v_assign rfl ?_
        refine v_nil ?_
        refine q_n ?_
        refine w_seq ?_
        refine w_seq ?_
        refine w_reg rfl ?_
        refine v_move rfl ?_
        refine v_neq lay2 rfl rfl (fun h67 => ?_) (fun h67 => ?_)
        rotate_left
        · exact absurd h67 (by decide)
        refine v_nil ?_
        refine q_n ?_
        refine w_t rfl ?_
        refine w_seq ?_
        refine w_reg rfl ?_
        refine v_lit (flat acE []) (H' := [_, _, _, _, _, _]) lay22 lay46 rfl rfl ⟨by decide, by decide⟩ rfl rfl ?_
        refine v_move rfl ?_
        refine v_move rfl ?_
        refine v_assign rfl ?_
        refine v_assign rfl ?_
        refine v_assign rfl ?_
        refine v_nil ?_
        refine q_n ?_
        refine w_ret (q_r (q_br (q_r (q_br (q_r ?_)))))
        refine r_r rfl ?_
        have hst : step (ls[i]'hi1) i acs os = (3, i, acs, os) := (step_at hws).trans (by first | exact sw_t3 hw0 (by assumption) (by omega) (by omega) | exact sw_a1 hw0 hwe (by assumption) (by omega))
        exact a_res ((cmpR_ok hok).trans (hr.at_err hi1 hst (by decide))) (a_tup (.cons (a_flat (xs := ([] : List AD)) acE_sc acE_len rfl rfl) (.cons tr_v (.cons tr_v .nil))))
      refine v_nil ?_
      refine q_n ?_
      refine w_f rfl ?_
      refine w_skip ?_
      refine q_n ?_
      refine w_seq ?_
      refine w_draw [0, 0, 2, 6, 14, 0, 32, 126, 255, 511, 1023] [⟨0, 0, []⟩, ⟨1, 0, []⟩, ⟨2, 0, []⟩, ⟨3, 0, []⟩, ⟨4, 0, []⟩, ⟨5, 0, []⟩, ⟨6, 2, []⟩, ⟨7, 1, []⟩, ⟨8, 0, []⟩, ⟨9, 0, []⟩, ⟨10, 1, []⟩] rfl rfl ?_
      refine d_q rfl rfl rfl rfl rfl ?_
      refine v_move rfl ?_
      refine v_nil ?_
      refine d_q rfl rfl rfl rfl rfl ?_
      refine v_move rfl ?_
      refine v_nil ?_
      refine d_q rfl rfl rfl rfl rfl ?_
      refine v_nil_pt rfl ?_
      refine v_nil ?_
      refine d_q rfl rfl rfl rfl rfl ?_
      refine v_fa_pt (off' := 0) lay34 rfl rfl rfl ?_
      refine v_nil ?_
      refine d_q rfl rfl rfl rfl rfl ?_
      refine v_load_pt (.c _) lay22 rfl rfl rfl rfl ?_
      refine v_nil ?_
      refine d_q rfl rfl rfl rfl rfl ?_
      refine v_load_pt (.agg [_, _, _, _, _]) lay46 rfl rfl rfl rfl ?_
      refine v_nil ?_
      refine d_z (.c (.sl true 1 5 (flat acE [gA w0 wr]))) rfl rfl rfl ?_
      refine d_e rfl rfl rfl ?_
      refine v_app_flat_sl (H' := [_, _, _, _, _, _]) acE_sc acE_len lay22 lay46 rfl rfl (by first | rfl | (simp [frS, lfS]; done)) rfl rfl rfl (by unfold maxLen; simp only []; omega) rfl rfl ?_
      refine v_nil ⟨again_nil, ?_⟩
      refine d_q rfl rfl rfl rfl rfl ?_
      refine v_nil_pt rfl ?_
      refine v_nil ?_
      refine d_q rfl rfl rfl rfl rfl ?_
      refine v_fa_pt (off' := 0) lay34 rfl rfl rfl ?_
      refine v_nil ?_
      refine d_e rfl rfl rfl ?_
      refine v_store (H' := [⟨[_, _, _], 34, true⟩, _, _, _, _, _]) lay22 rfl rfl rfl rfl rfl rfl ?_
      refine v_nil ⟨again_nil, ?_⟩
      refine d_nil ?_
      refine q_n ?_
      refine w_seq ?_
      refine w_reg rfl ?_
      refine v_move rfl ?_
      refine v_add lay3 rfl rfl (i64r (by omega)) ?_
      refine v_assign rfl ?_
      refine v_assign (c := .v (.int .i64 0)) rfl ?_
      refine v_nil ?_
      refine q_n ?_
      refine w_ret ?_
      refine r_r rfl ?_
      refine v_move_t rfl ?_
      refine v_extract_c rfl rfl ?_
      refine v_extract_c rfl rfl ?_
      refine v_assign rfl ?_
      refine v_assign rfl ?_
      refine v_nil ?_
      refine q_n ?_
      refine w_seq ?_
      refine w_seq ?_
      refine w_reg rfl ?_
      refine v_move rfl ?_
      refine v_neq lay2 rfl rfl (fun h68 => ?_) (fun h68 => ?_)
      · exact absurd (by decide) h68
      refine v_nil ?_
      refine q_n ?_
      refine w_f rfl ?_
      refine w_skip ?_
      refine q_n ?_
      refine w_reg rfl ?_
      refine v_move rfl ?_
      refine v_assign rfl ?_
      refine v_nil ?_
      refine q_bn ?_
      refine q_n ?_
      obtain ⟨m, hlt, hm⟩ := hr.at_go hi1 ((step_at hws).trans (sw_a hw0 hwe (by assumption) (by omega)))
      refine ⟨_, _, _, ?_, ⟨i + 1, acs ++ [gA w0 wr], os, hm, by omega, by rw [List.length_append]; show acs.length + 1 ≤ 120; omega, ho, hb, rfl, rfl⟩, hlt⟩
      exact turn [some 0, some 5, some 2, some 3] rfl rfl rfl ⟨⟨_, rfl, .cons (tr_mun rfl (by simp)) (.cons (tr_mu rfl) (.cons (tr_mu rfl) .nil))⟩, ⟨_, rfl, trc_flat acE_sc rfl⟩, ⟨_, rfl, trc_flat int_sc rfl⟩, ⟨_, rfl, trc_flat int_sc rfl⟩, trivial⟩ ⟨tr_sl, tr_pt rfl, tr_v, trivial⟩
    have hwe : w0 = endB := h53
    refine v_assign rfl ?_
    refine v_nil ?_
    refine q_n ?_
    refine w_t rfl ?_
    refine w_seq ?_
    refine w_seq ?_
    refine w_reg rfl ?_
    refine v_move rfl ?_
    refine v_len_sl lay28 rfl ?_
    refine v_neq lay3 rfl rfl (fun h54 => ?_) (fun h54 => ?_)
    · refine v_nil ?_
      refine q_n ?_
      refine w_t rfl ?_
      refine w_seq ?_
      refine w_reg rfl ?_
      refine v_move rfl ?_
      refine v_assign rfl ?_
      refine v_assign (c := .v (.int .i64 5)) rfl ?_
      refine v_nil ?_
      refine q_n ?_
      refine w_ret (q_r (q_br (q_r ?_)))
      refine r_r rfl ?_
      refine v_move_t rfl ?_
      refine v_extract_c rfl rfl ?_
      refine v_extract_c rfl rfl ?_
      refine v_assign rfl ?_
      refine v_assign rfl ?_
      refine v_nil ?_
      refine q_n ?_
      refine w_seq ?_
      refine w_seq ?_
      refine w_reg rfl ?_
      refine v_move rfl ?_
      refine v_neq lay2 rfl rfl (fun h55 => ?_) (fun h55 => ?_)
      rotate_left
      · exact absurd h55 (by decide)
      refine v_nil ?_
      refine q_n ?_
      refine w_t rfl ?_
      refine w_seq ?_
      refine w_reg rfl ?_
      refine v_lit (flat acE []) (H' := [_, _, _, _, _]) lay22 lay46 rfl rfl ⟨by decide, by decide⟩ rfl rfl ?_
      refine v_move rfl ?_
      refine v_move rfl ?_
      refine v_assign rfl ?_
      refine v_assign rfl ?_
      refine v_assign rfl ?_
      refine v_nil ?_
      refine q_n ?_
      refine w_ret (q_r (q_br (q_r (q_br (q_r ?_)))))
      refine r_r rfl ?_
      have hst : step (ls[i]'hi1) i acs os = (5, i, acs, os) := (step_at hws).trans (by first | exact sw_t0 hw0 (by omega) | exact sw_t1 hw0 (by assumption) | exact sw_e0 hw0 hwe (fun e => by subst e; have h1 : [w0].length = 1 := rfl; omega) | exact sw_a0 hw0 hwe (by assumption))
      exact a_res ((cmpR_ok hok).trans (hr.at_err hi1 hst (by decide))) (a_tup (.cons (a_flat (xs := ([] : List AD)) acE_sc acE_len rfl rfl) (.cons tr_v (.cons tr_v .nil))))
    refine v_nil ?_
    refine q_n ?_
    refine w_f rfl ?_
    refine w_skip ?_
    refine q_n ?_
    refine w_seq ?_
    refine w_reg rfl ?_
    refine v_move rfl ?_
    refine v_nil_pt rfl ?_
    refine v_fa_pt (off' := 1) lay34 rfl rfl rfl ?_
    refine v_load_pt (.c _) lay31 rfl rfl rfl rfl ?_
    refine v_len_mu lay31 rfl ?_
    refine v_sub lay3 rfl rfl (i64r (by omega)) ?_
    refine v_assign rfl ?_
    refine v_nil ?_
    refine q_n ?_
    refine w_seq ?_
    refine w_seq ?_
    refine w_reg rfl ?_
    refine v_move rfl ?_
    refine v_lss lay3 rfl rfl (fun h56 => ?_) (fun h56 => ?_)
    · refine v_nil ?_
      refine q_n ?_
      refine w_t rfl ?_
      refine w_seq ?_
      refine w_reg rfl ?_
      refine v_move rfl ?_
      refine v_assign rfl ?_
      refine v_assign (c := .v (.int .i64 4)) rfl ?_
      refine v_nil ?_
      refine q_n ?_
      refine w_ret (q_r (q_br (q_r ?_)))
      refine r_r rfl ?_
      refine v_move_t rfl ?_
      refine v_extract_c rfl rfl ?_
      refine v_extract_c rfl rfl ?_
      refine v_assign rfl ?_
      refine v_assign rfl ?_
      refine v_nil ?_
      refine q_n ?_
      refine w_seq ?_
      refine w_seq ?_
      refine w_reg rfl ?_
      refine v_move rfl ?_
      refine v_neq lay2 rfl rfl (fun h57 => ?_) (fun h57 => ?_)
      rotate_left
      · exact absurd h57 (by decide)
      refine v_nil ?_
      refine q_n ?_
      refine w_t rfl ?_
      refine w_seq ?_
      refine w_reg rfl ?_
      refine v_lit (flat acE []) (H' := [_, _, _, _, _]) lay22 lay46 rfl rfl ⟨by decide, by decide⟩ rfl rfl ?_
      refine v_move rfl ?_
      refine v_move rfl ?_
      refine v_assign rfl ?_
      refine v_assign rfl ?_
      refine v_assign rfl ?_
      refine v_nil ?_
      refine q_n ?_
      refine w_ret (q_r (q_br (q_r (q_br (q_r ?_)))))
      refine r_r rfl ?_
      have hst : step (ls[i]'hi1) i acs os = (4, i, acs, os) := (step_at hws).trans (by first | exact sw_e1 hw0 hwe (List.eq_nil_of_length_eq_zero (by omega)) (List.eq_nil_of_length_eq_zero (by omega)))
      exact a_res ((cmpR_ok hok).trans (hr.at_err hi1 hst (by decide))) (a_tup (.cons (a_flat (xs := ([] : List AD)) acE_sc acE_len rfl rfl) (.cons tr_v (.cons tr_v .nil))))
    obtain ⟨o1, f, n, rfl⟩ := stk_snoc (os := os) (by omega)
    have hol : (o1 ++ [(f, n)]).length = o1.length + 1 := by simp
    have hfi := (hb (f, n) (by simp)).1
    have hnb := (hb (f, n) (by simp)).2
    refine v_nil ?_
    refine q_n ?_
    refine w_f rfl ?_
    refine w_skip ?_
    refine q_n ?_
    refine w_seq ?_
    refine w_seq ?_
    refine w_reg rfl ?_
    refine v_move rfl ?_
    refine v_nil_pt rfl ?_
    refine v_fa_pt (off' := 2) lay34 rfl rfl rfl ?_
    refine v_load_pt (.c _) lay32 rfl rfl rfl rfl ?_
    refine v_move rfl ?_
    refine v_idx_mu_e (k := 1) (off := 0) (o1.length) lay32 lay2 rfl rfl rfl (by omega) (by omega) ?_
    refine v_load_flat o1.length 0 (.c (.v _)) int_len lay2 rfl rfl (by omega) (by simp [frS, lfS]) rfl rfl ?_
    refine v_gtr lay2 rfl rfl (fun h59 => ?_) (fun h59 => ?_)
    rotate_left
    · have hl0 : ¬ 0 < n := by have hq := h59; rw [lfS_last] at hq; omega
      refine v_nil ?_
      refine q_n ?_
      refine w_f rfl ?_
      refine w_skip ?_
      refine q_n ?_
      refine w_seq ?_
      refine w_reg rfl ?_
      refine v_move rfl ?_
      refine v_move rfl ?_
      refine v_nil_pt rfl ?_
      refine v_fa_pt (off' := 1) lay34 rfl rfl rfl ?_
      refine v_load_pt (.c _) lay31 rfl rfl rfl rfl ?_
      refine v_move rfl ?_
      refine v_slice_mu (0) (o1.length) lay31 lay3 rfl rfl rfl rfl (rfl) (by omega) (⟨by omega, by omega⟩) (.inl rfl) ?_
      refine v_nil_pt rfl ?_
      refine v_fa_pt (off' := 1) lay34 rfl rfl rfl ?_
      refine v_store (H' := [⟨[_, _, _], 34, true⟩, _, _, _]) lay31 rfl rfl rfl rfl rfl rfl ?_
      refine v_nil ?_
      refine q_n ?_
      refine w_seq ?_
      refine w_reg rfl ?_
      refine v_move rfl ?_
      refine v_move rfl ?_
      refine v_nil_pt rfl ?_
      refine v_fa_pt (off' := 2) lay34 rfl rfl rfl ?_
      refine v_load_pt (.c _) lay32 rfl rfl rfl rfl ?_
      refine v_move rfl ?_
      refine v_slice_mu (0) (o1.length) lay32 lay2 rfl rfl rfl rfl (rfl) (by omega) (⟨by omega, by omega⟩) (.inl rfl) ?_
      refine v_nil_pt rfl ?_
      refine v_fa_pt (off' := 2) lay34 rfl rfl rfl ?_
      refine v_store (H' := [⟨[_, _, _], 34, true⟩, _, _, _]) lay32 rfl rfl rfl rfl rfl rfl ?_
      refine v_nil ?_
      refine q_n ?_
      refine w_seq ?_
      refine w_reg rfl ?_
      refine v_move rfl ?_
      refine v_add lay3 rfl rfl (i64r (by omega)) ?_
      refine v_assign rfl ?_
      refine v_assign (c := .v (.int .i64 0)) rfl ?_
      refine v_nil ?_
      refine q_n ?_
      refine w_ret (q_br (q_r ?_))
      refine r_r rfl ?_
      refine v_move_t rfl ?_
      refine v_extract_c rfl rfl ?_
      refine v_extract_c rfl rfl ?_
      refine v_assign rfl ?_
      refine v_assign rfl ?_
      refine v_nil ?_
      refine q_n ?_
      refine w_seq ?_
      refine w_seq ?_
      refine w_reg rfl ?_
      refine v_move rfl ?_
      refine v_neq lay2 rfl rfl (fun h64 => ?_) (fun h64 => ?_)
      · exact absurd (by decide) h64
      refine v_nil ?_
      refine q_n ?_
      refine w_f rfl ?_
      refine w_skip ?_
      refine q_n ?_
      refine w_reg rfl ?_
      refine v_move rfl ?_
      refine v_assign rfl ?_
      refine v_nil ?_
      refine q_bn ?_
      refine q_n ?_
      obtain ⟨m, hlt, hm⟩ := hr.at_go hi1 ((step_at hws).trans (sw_e3 hw0 hwe (List.eq_nil_of_length_eq_zero (by omega)) hl0))
      refine ⟨_, _, _, ?_, ⟨i + 1, acs, o1, hm, by omega, ha, by omega, fun o hq => hb o (List.mem_append_left _ hq), rfl, rfl⟩, hlt⟩
      exact turn_t [some 0, some 1, some 2, some 3] rfl rfl rfl ⟨⟨_, 3, rfl, .cons (tr_mu rfl) (.cons (tr_mun rfl (by omega)) (.cons (tr_mun rfl (by omega)) .nil))⟩, ⟨_, _, rfl, trc_all (trc_flat acE_sc rfl)⟩, ⟨_, _, rfl, fr_cut⟩, ⟨_, _, rfl, lf_cut⟩, trivial⟩ ⟨tr_sl, tr_pt rfl, tr_v, trivial⟩
    have hl0 : 0 < n := by have hq := h59; rw [lfS_last] at hq; omega
    refine v_nil ?_
    refine q_n ?_
    refine w_t rfl ?_
    refine w_seq ?_
    refine w_reg rfl ?_
    refine v_move rfl ?_
    refine v_nil_pt rfl ?_
    refine v_fa_pt (off' := 2) lay34 rfl rfl rfl ?_
    refine v_load_pt (.c _) lay32 rfl rfl rfl rfl ?_
    refine v_move rfl ?_
    refine v_idx_mu_e (k := 1) (off := 0) (o1.length) lay32 lay2 rfl rfl rfl (by omega) (by omega) ?_
    refine v_load_flat o1.length 0 (.c (.v _)) int_len lay2 rfl rfl (by omega) (by simp [frS, lfS]) rfl rfl ?_
    refine v_sub lay2 rfl rfl (i64r (by rw [lfS_last]; omega)) ?_
    refine v_idx_mu_e (k := 1) (off := 0) (o1.length) lay32 lay2 rfl rfl rfl (by omega) (by omega) ?_
    refine v_store_flat (H' := [_, _, _, _]) o1.length 0 (_) int_len lay2 rfl rfl rfl (by omega) (by simp [frS, lfS]) rfl rfl (rfl) rfl ?_
    refine v_nil ?_
    refine q_n ?_
    refine w_seq ?_
    refine w_reg rfl ?_
    refine v_move rfl ?_
    refine v_nil_pt rfl ?_
    refine v_fa_pt (off' := 1) lay34 rfl rfl rfl ?_
    refine v_load_pt (.c _) lay31 rfl rfl rfl rfl ?_
    refine v_move rfl ?_
    refine v_idx_mu_e (k := 1) (off := 0) (o1.length) lay31 lay3 rfl rfl rfl (by omega) (by omega) ?_
    refine v_load_flat o1.length 0 (.c (.v _)) int_len lay3 rfl rfl (by omega) (by simp [frS, lfS]) rfl rfl ?_
    refine v_assign rfl ?_
    refine v_assign (c := .v (.int .i64 0)) rfl ?_
    refine v_nil ?_
    refine q_n ?_
    refine w_ret (q_r (q_br (q_r ?_)))
    refine r_r rfl ?_
    refine v_move_t rfl ?_
    refine v_extract_c rfl rfl ?_
    refine v_extract_c rfl rfl ?_
    refine v_assign rfl ?_
    refine v_assign rfl ?_
    refine v_nil ?_
    refine q_n ?_
    refine w_seq ?_
    refine w_seq ?_
    refine w_reg rfl ?_
    refine v_move rfl ?_
    refine v_neq lay2 rfl rfl (fun h63 => ?_) (fun h63 => ?_)
    · exact absurd (by decide) h63
    refine v_nil ?_
    refine q_n ?_
    refine w_f rfl ?_
    refine w_skip ?_
    refine q_n ?_
    refine w_reg rfl ?_
    refine v_move rfl ?_
    refine v_assign rfl ?_
    refine v_nil ?_
    refine q_bn ?_
    refine q_n ?_
    obtain ⟨m, hlt, hm⟩ := hr.at_go hi1 ((step_at hws).trans (sw_e2 hw0 hwe (List.eq_nil_of_length_eq_zero (by omega)) hl0))
    have hbl := hb (f, n) (by simp)
    refine ⟨_, _, _, ?_, ⟨f, acs, o1 ++ [(f, n - 1)], hm, hfi, ha, by simp only [List.length_append, List.length_cons, List.length_nil]; omega, ?_, rfl, rfl⟩, hlt⟩
    · exact turn [some 0, some 1, some 2, some 3] rfl rfl rfl ⟨⟨_, rfl, .cons (tr_mu rfl) (.cons (tr_mun rfl (by simp)) (.cons (tr_mun rfl (by simp)) .nil))⟩, ⟨_, rfl, trc_flat acE_sc rfl⟩, ⟨_, rfl, trc_flat int_sc (congrArg (flat int) frS_same)⟩, ⟨_, rfl, trc_flat int_sc (congrArg (flat int) (lfS_dec hl0 (by rw [lfS_last])))⟩, trivial⟩ ⟨tr_sl, tr_pt rfl, tr_i (frS_last _), trivial⟩
    · intro o hq
      rcases List.mem_append.1 hq with hq | hq
      · exact hb o (List.mem_append_left _ hq)
      · obtain rfl : o = (f, n - 1) := by simpa using hq
        exact ⟨hbl.1, by show n - 1 ≤ 15; have := hbl.2; omega⟩
  obtain ⟨hE, hn⟩ := lns_cut hls hbd h2
  refine v_nil ?_
  refine q_n ?_
  refine w_t rfl ?_
  refine w_reg rfl ?_
  refine v_move rfl ?_
  refine v_move rfl ?_
  refine v_len_sl lay28 rfl ?_
  refine v_sub lay3 rfl rfl (i64r (by omega)) ?_
  refine v_slice_sl (0) ((splitB 10 s).length - 1) st_len lay28 lay9 rfl rfl rfl rfl rfl (rfl) (by omega) (⟨by omega, by omega⟩) ?_
  refine v_assign rfl ?_
  refine v_nil ?_
  refine q_n ?_
  refine w_seq ?_
  refine w_seq ?_
  refine w_reg rfl ?_
  refine v_move rfl ?_
  refine v_len_s lay9 rfl ?_
  refine v_gtr lay3 rfl rfl (fun h3 => ?_) (fun h3 => ?_)
  · refine v_move rfl ?_
    refine v_guard_off rfl rfl rfl ?_
    refine v_guard_off rfl rfl rfl ?_
    refine v_guard_off rfl rfl rfl ?_
    refine v_pick_t (v := .v (.bool true)) rfl rfl ?_
    refine v_nil ?_
    refine q_n ?_
    refine w_t rfl ?_
    refine w_seq ?_
    refine w_reg rfl ?_
    refine v_lit (flat acE []) (H' := [_]) lay22 lay46 rfl rfl ⟨by decide, by decide⟩ rfl rfl ?_
    refine v_assign rfl ?_
    refine v_assign (c := .v (.int .i64 0)) rfl ?_
    refine v_assign (c := .v (.int .i64 2)) rfl ?_
    refine v_nil ?_
    refine q_n ?_
    refine w_ret (q_r ?_)
    refine r_r rfl ?_
    exact a_res (cmpR_long (s := s) (ls := ls) (by omega)) (a_tup (.cons (a_flat (xs := ([] : List AD)) acE_sc acE_len rfl rfl) (.cons tr_v (.cons tr_v .nil))))
  refine v_move rfl ?_
  refine v_guard_on rfl rfl ?_
  refine v_move rfl ?_
  refine v_guard_on rfl rfl ?_
  refine v_len_sl lay28 rfl ?_
  refine v_guard_on rfl rfl ?_
  refine v_gtr lay3 rfl rfl (fun h4 => ?_) (fun h4 => ?_)
  · refine v_pick_f rfl rfl ?_
    refine v_nil ?_
    refine q_n ?_
    refine w_t rfl ?_
    refine w_seq ?_
    refine w_reg rfl ?_
    refine v_lit (flat acE []) (H' := [_]) lay22 lay46 rfl rfl ⟨by decide, by decide⟩ rfl rfl ?_
    refine v_assign rfl ?_
    refine v_assign (c := .v (.int .i64 0)) rfl ?_
    refine v_assign (c := .v (.int .i64 2)) rfl ?_
    refine v_nil ?_
    refine q_n ?_
    refine w_ret (q_r ?_)
    refine r_r rfl ?_
    exact a_res (cmpR_long (s := s) (ls := ls) (by omega)) (a_tup (.cons (a_flat (xs := ([] : List AD)) acE_sc acE_len rfl rfl) (.cons tr_v (.cons tr_v .nil))))
  refine v_pick_f rfl rfl ?_
  refine v_nil ?_
  refine q_n ?_
  refine w_f rfl ?_
  refine w_skip ?_
  refine q_n ?_
  refine w_seq ?_
  refine w_reg rfl ?_
  refine v_lit (flat acE []) (H' := [_]) lay22 lay46 rfl rfl ⟨by decide, by decide⟩ rfl rfl ?_
  refine v_build [(0, 1), (1, 1), (2, 1)] [_, .v _, .v _] lay34 rfl rfl ?_
  refine v_box (m := 1) (H' := [_, _]) lay34 rfl rfl rfl ?_
  refine v_assign rfl ?_
  refine v_nil ?_
  refine q_n ?_
  refine w_seq ?_
  refine w_seq ?_
  refine w_reg rfl ?_
  refine v_assign (c := .v (.int .i64 0)) rfl ?_
  refine v_nil ?_
  refine q_n ?_
  refine w_block ?_
  refine w_loop (fun k sl H => ∃ (i : Nat) (acs : List AD) (os : Stk), Runs ls k i acs os R ∧ i ≤ ls.length ∧ acs.length ≤ 120 ∧ os.length ≤ 2 ∧ (∀ o ∈ os, o.1 ≤ ls.length ∧ o.2 ≤ 15) ∧ sl = sls [(5, .c (.sl true ls.length 1 (flat st ls))), (6, .c (.pt 0 0)), (7, cI i)] ∧ H = [⟨[.mu 1 0 acs.length 5, .mu 2 0 os.length 1, .mu 3 0 os.length 1], 34, true⟩, ⟨flat acE acs, 46, true⟩, ⟨flat int (frS os), 3, true⟩, ⟨flat int (lfS os), 2, true⟩]) ?_ ?_
  · have hok : ¬ (3000 < s.length ∨ 120 < ls.length) := by omega
    refine ⟨_, _, _, ?_, 0, [], [], hR, Nat.zero_le _, Nat.zero_le _, Nat.zero_le _, (fun o hq => by cases hq), rfl, rfl⟩
    exact turn [some 1, some 0, none, none] rfl rfl rfl ⟨⟨_, rfl, .cons (tr_mu rfl) (.cons (tr_nil rfl) (.cons (tr_nil rfl) .nil))⟩, ⟨_, rfl, trc_flat acE_sc (xs := []) rfl⟩, rfl, rfl, trivial⟩ ⟨tr_sle hn (congrArg (flat st) hE), tr_pt rfl, tr_v, trivial⟩
  rintro k sl H ⟨i, acs, os, hr, hi, ha, ho, hb, rfl, rfl⟩
  have hok : ¬ (3000 < s.length ∨ 120 < ls.length) := by omega
  refine w_seq ?_
  refine w_seq ?_
  refine w_reg rfl ?_
  refine v_move rfl ?_
  refine v_move rfl ?_
  refine v_len_sl lay28 rfl ?_
  refine v_lss lay3 rfl rfl (fun h5 => ?_) (fun h5 => ?_)
  rotate_left
  · refine v_nil ?_
    refine q_n ?_
    refine w_f rfl ?_
    refine w_exit ?_
    refine q_e ?_
    refine q_e ?_
    refine q_hit ?_
    refine q_n ?_
    refine w_seq ?_
    refine w_seq ?_
    refine w_reg rfl ?_
    refine v_move rfl ?_
    refine v_nil_pt rfl ?_
    refine v_fa_pt (off' := 1) lay34 rfl rfl rfl ?_
    refine v_load_pt (.c _) lay31 rfl rfl rfl rfl ?_
    refine v_len_mu lay31 rfl ?_
    refine v_gtr lay3 rfl rfl (fun h36 => ?_) (fun h36 => ?_)
    · refine v_nil ?_
      refine q_n ?_
      refine w_t rfl ?_
      refine w_seq ?_
      refine w_reg rfl ?_
      refine v_lit (flat acE []) (H' := [_, _, _, _, _]) lay22 lay46 rfl rfl ⟨by decide, by decide⟩ rfl rfl ?_
      refine v_move rfl ?_
      refine v_len_sl lay28 rfl ?_
      refine v_assign rfl ?_
      refine v_assign rfl ?_
      refine v_assign (c := .v (.int .i64 4)) rfl ?_
      refine v_nil ?_
      refine q_n ?_
      refine w_ret (q_r ?_)
      refine r_r rfl ?_
      exact a_res ((cmpR_ok hok).trans (hr.at_left (by omega) (by rintro rfl; simp at *))) (a_tup (.cons (a_flat (xs := ([] : List AD)) acE_sc acE_len rfl rfl) (.cons tr_v (.cons tr_v .nil))))
    refine v_nil ?_
    refine q_n ?_
    refine w_f rfl ?_
    refine w_skip ?_
    refine q_n ?_
    refine w_seq ?_
    refine w_reg rfl ?_
    refine v_move rfl ?_
    refine v_nil_pt rfl ?_
    refine v_fa_pt (off' := 0) lay34 rfl rfl rfl ?_
    refine v_load_pt (.c _) lay22 rfl rfl rfl rfl ?_
    refine v_assign rfl ?_
    refine v_assign (c := .v (.int .i64 0)) rfl ?_
    refine v_assign (c := .v (.int .i64 0)) rfl ?_
    refine v_nil ?_
    refine q_n ?_
    refine w_ret ?_
    refine r_r rfl ?_
    obtain rfl : os = [] := List.eq_nil_of_length_eq_zero (by omega)
    exact a_res ((cmpR_ok hok).trans (hr.at_stop (by omega))) (a_tup (.cons (a_flat acE_sc acE_len rfl rfl) (.cons tr_v (.cons tr_v .nil))))
  have hi1 : i < ls.length := by omega
  obtain ⟨w0, wr, hws⟩ := splitB_cons 32 (ls[i]'hi1)
  have hll := hlp _ (List.getElem_mem hi1)
  have hlen : (w0 :: wr).length = wr.length + 1 := rfl
  have hwp : ∀ w ∈ w0 :: wr, w.length ≤ 1048576 := fun w hw => Nat.le_trans (splitB_part 32 (ls[i]'hi1) w (by rw [hws]; exact hw)) (by omega)
  have hwl : wr.length ≤ 2 ^ 30 := by have := splitB_le 32 (ls[i]'hi1); rw [hws] at this; omega
  have hsp : PureC X 9 [cS (ls[i]'hi1), .c (.v (.int .u8 32))] (.c (.sl true (w0 :: wr).length 1 (flat st (w0 :: wr)))) := hws ▸ cSplitS (ls[i]'hi1) 32 (by omega)
  refine v_nil ?_
  refine q_n ?_
  refine w_t rfl ?_
  refine w_skip ?_
  refine q_n ?_
  refine w_block ?_
  refine w_seq ?_
  refine w_reg rfl ?_
  refine v_move rfl ?_
  refine v_move rfl ?_
  refine v_move rfl ?_
  refine v_idx_e (k := 1) (i) st_len lay28 lay9 rfl rfl rfl (rfl) rfl (rfl) (hi1) ?_
  refine v_load_vw (.c (.v _)) lay9 rfl rfl rfl ?_
  refine v_move rfl ?_
  refine v_inl (n := 156) (drawD_ok X) (fun _ _ => Go.Proofs.Tryd.call10 _ _) Go.Proofs.Tryd.func10 rfl rfl rfl rfl ?_
  refine w_seq ?_
  refine w_reg rfl ?_
  refine v_assign (c := .v (.int .i64 0)) rfl ?_
  refine v_assign (c := .v (.int .i64 0)) rfl ?_
  refine v_nil ?_
  refine q_n ?_
  refine w_seq ?_
  refine w_reg rfl ?_
  refine v_move rfl ?_
  refine v_call (hsp) rfl rfl rfl (.cons vw_v (.cons vw_v .nil)) ?_
  refine v_assign rfl ?_
  refine v_nil ?_
  refine q_n ?_
  refine w_seq ?_
  refine w_seq ?_
  refine w_reg rfl ?_
  refine v_move rfl ?_
  refine v_idx_e (k := 1) (0) st_len lay28 lay9 rfl rfl rfl (rfl) rfl (rfl) (by simp) ?_
  refine v_load_vw (cS w0) lay9 rfl rfl rfl ?_
  refine v_nil ?_
  refine q_n ?_
  refine w_block ?_
  refine w_seq ?_
  refine w_reg rfl ?_
  refine v_seql lay9 rfl rfl (fun h8 => ?_) (fun h8 => ?_)
  · have hw0 : w0 = timesB := h8
    refine v_assign rfl ?_
    refine v_nil ?_
    refine q_n ?_
    refine w_t rfl ?_
    refine w_seq ?_
    refine w_seq ?_
    refine w_reg rfl ?_
    refine v_move rfl ?_
    refine v_len_sl lay28 rfl ?_
    refine v_neq lay3 rfl rfl (fun h9 => ?_) (fun h9 => ?_)
    · refine v_nil ?_
      refine q_n ?_
      refine w_t rfl ?_
      refine w_seq ?_
      refine w_reg rfl ?_
      refine v_move rfl ?_
      refine v_assign rfl ?_
      refine v_assign (c := .v (.int .i64 5)) rfl ?_
      refine v_nil ?_
      refine q_n ?_
      refine w_ret (q_r (q_br (q_r ?_)))
      refine r_r rfl ?_
      refine v_move_t rfl ?_
      refine v_extract_c rfl rfl ?_
      refine v_extract_c rfl rfl ?_
      refine v_assign rfl ?_
      refine v_assign rfl ?_
      refine v_nil ?_
      refine q_n ?_
      refine w_seq ?_
      refine w_seq ?_
      refine w_reg rfl ?_
      refine v_move rfl ?_
      refine v_neq lay2 rfl rfl (fun h10 => ?_) (fun h10 => ?_)
      rotate_left
      · exact absurd h10 (by decide)
      refine v_nil ?_
      refine q_n ?_
      refine w_t rfl ?_
      refine w_seq ?_
      refine w_reg rfl ?_
      refine v_lit (flat acE []) (H' := [_, _, _, _, _]) lay22 lay46 rfl rfl ⟨by decide, by decide⟩ rfl rfl ?_
      refine v_move rfl ?_
      refine v_move rfl ?_
      refine v_assign rfl ?_
      refine v_assign rfl ?_
      refine v_assign rfl ?_
      refine v_nil ?_
      refine q_n ?_
      refine w_ret (q_r (q_br (q_r (q_br (q_r ?_)))))
      refine r_r rfl ?_
      have hst : step (ls[i]'hi1) i acs os = (5, i, acs, os) := (step_at hws).trans (by first | exact sw_t0 hw0 (by omega) | exact sw_t1 hw0 (by assumption) | exact sw_e0 hw0 hwe (fun e => by subst e; have h1 : [w0].length = 1 := rfl; omega) | exact sw_a0 hw0 hwe (by assumption))
      exact a_res ((cmpR_ok hok).trans (hr.at_err hi1 hst (by decide))) (a_tup (.cons (a_flat (xs := ([] : List AD)) acE_sc acE_len rfl rfl) (.cons tr_v (.cons tr_v .nil))))
    obtain ⟨w, rfl⟩ : ∃ w, wr = [w] := len_one (by omega)
    refine v_nil ?_
    refine q_n ?_
    refine w_f rfl ?_
    refine w_skip ?_
    refine q_n ?_
    refine w_seq ?_
    refine w_reg rfl ?_
    refine v_move rfl ?_
    refine v_idx_e (k := 1) (1) st_len lay28 lay9 rfl rfl rfl (rfl) rfl (rfl) (Nat.le_refl 2) ?_
    refine v_load_vw (cS w) lay9 rfl rfl rfl ?_
    refine dec_split (p := wh 3 w) (fun h12 => ?_) (fun h12 => ?_)
    rotate_left
    · refine v_call (cWhF h12) rfl rfl rfl (.cons vw_v (.cons vw_v .nil)) ?_
      refine v_move_t rfl ?_
      refine v_extract_c rfl rfl ?_
      refine v_extract_c rfl rfl ?_
      refine v_assign rfl ?_
      refine v_assign rfl ?_
      refine v_nil ?_
      refine q_n ?_
      refine w_seq ?_
      refine w_seq ?_
      refine w_reg rfl ?_
      refine v_move rfl ?_
      refine v_not true rfl rfl ?_
      refine v_nil ?_
      refine q_n ?_
      refine w_t rfl ?_
      refine w_seq ?_
      refine w_reg rfl ?_
      refine v_move rfl ?_
      refine v_assign rfl ?_
      refine v_assign (c := .v (.int .i64 5)) rfl ?_
      refine v_nil ?_
      refine q_n ?_
      refine w_ret (q_r (q_br (q_r ?_)))
      refine r_r rfl ?_
      refine v_move_t rfl ?_
      refine v_extract_c rfl rfl ?_
      refine v_extract_c rfl rfl ?_
      refine v_assign rfl ?_
      refine v_assign rfl ?_
      refine v_nil ?_
      refine q_n ?_
      refine w_seq ?_
      refine w_seq ?_
      refine w_reg rfl ?_
      refine v_move rfl ?_
      refine v_neq lay2 rfl rfl (fun h18 => ?_) (fun h18 => ?_)
      rotate_left
      · exact absurd h18 (by decide)
      refine v_nil ?_
      refine q_n ?_
      refine w_t rfl ?_
      refine w_seq ?_
      refine w_reg rfl ?_
      refine v_lit (flat acE []) (H' := [_, _, _, _, _]) lay22 lay46 rfl rfl ⟨by decide, by decide⟩ rfl rfl ?_
      refine v_move rfl ?_
      refine v_move rfl ?_
      refine v_assign rfl ?_
      refine v_assign rfl ?_
      refine v_assign rfl ?_
      refine v_nil ?_
      refine q_n ?_
      refine w_ret (q_r (q_br (q_r (q_br (q_r ?_)))))
      refine r_r rfl ?_
      have hst : step (ls[i]'hi1) i acs os = (5, i, acs, os) := (step_at hws).trans (by first | exact sw_t0 hw0 (by omega) | exact sw_t1 hw0 (by assumption) | exact sw_e0 hw0 hwe (fun e => by subst e; have h1 : [w0].length = 1 := rfl; omega) | exact sw_a0 hw0 hwe (by assumption))
      exact a_res ((cmpR_ok hok).trans (hr.at_err hi1 hst (by decide))) (a_tup (.cons (a_flat (xs := ([] : List AD)) acE_sc acE_len rfl rfl) (.cons tr_v (.cons tr_v .nil))))
    refine v_call (cWhT h12) rfl rfl rfl (.cons vw_v (.cons vw_v .nil)) ?_
    refine v_move_t rfl ?_
    refine v_extract_c rfl rfl ?_
    refine v_extract_c rfl rfl ?_
    refine v_assign rfl ?_
    refine v_assign rfl ?_
    refine v_nil ?_
    refine q_n ?_
    refine w_seq ?_
    refine w_seq ?_
    refine w_reg rfl ?_
    refine v_move rfl ?_
    refine v_not false rfl rfl ?_
    refine v_nil ?_
    refine q_n ?_
    refine w_f rfl ?_
    refine w_skip ?_
    refine q_n ?_
    refine w_seq ?_
    refine w_seq ?_
    refine w_reg rfl ?_
    refine v_move rfl ?_
    refine v_callb (cIn _ _ _) rfl rfl (.cons vw_v (.cons vw_v (.cons vw_v .nil))) (fun h13 => ?_) (fun h13 => ?_)
    rotate_left
    · refine v_not true rfl rfl ?_
      refine v_nil ?_
      refine q_n ?_
      refine w_t rfl ?_
      refine w_seq ?_
      refine w_reg rfl ?_
      refine v_move rfl ?_
      refine v_assign rfl ?_
      refine v_assign (c := .v (.int .i64 2)) rfl ?_
      refine v_nil ?_
      refine q_n ?_
      refine w_ret (q_r (q_br (q_r ?_)))
      refine r_r rfl ?_
      refine v_move_t rfl ?_
      refine v_extract_c rfl rfl ?_
      refine v_extract_c rfl rfl ?_
      refine v_assign rfl ?_
      refine v_assign rfl ?_
      refine v_nil ?_
      refine q_n ?_
      refine w_seq ?_
      refine w_seq ?_
      refine w_reg rfl ?_
      refine v_move rfl ?_
      refine v_neq lay2 rfl rfl (fun h17 => ?_) (fun h17 => ?_)
      rotate_left
      · exact absurd h17 (by decide)
      refine v_nil ?_
      refine q_n ?_
      refine w_t rfl ?_
      refine w_seq ?_
      refine w_reg rfl ?_
      refine v_lit (flat acE []) (H' := [_, _, _, _, _]) lay22 lay46 rfl rfl ⟨by decide, by decide⟩ rfl rfl ?_
      refine v_move rfl ?_
      refine v_move rfl ?_
      refine v_assign rfl ?_
      refine v_assign rfl ?_
      refine v_assign rfl ?_
      refine v_nil ?_
      refine q_n ?_
      refine w_ret (q_r (q_br (q_r (q_br (q_r ?_)))))
      refine r_r rfl ?_
      have hst : step (ls[i]'hi1) i acs os = (2, i, acs, os) := (step_at hws).trans (by first | exact sw_t2 hw0 (by assumption) (by omega))
      exact a_res ((cmpR_ok hok).trans (hr.at_err hi1 hst (by decide))) (a_tup (.cons (a_flat (xs := ([] : List AD)) acE_sc acE_len rfl rfl) (.cons tr_v (.cons tr_v .nil))))
    refine v_not false rfl rfl ?_
    refine v_nil ?_
    refine q_n ?_
    refine w_f rfl ?_
    refine w_skip ?_
    refine q_n ?_
    refine w_seq ?_
    refine w_seq ?_
    refine w_reg rfl ?_
    refine v_move rfl ?_
    refine v_nil_pt rfl ?_
    refine v_fa_pt (off' := 1) lay34 rfl rfl rfl ?_
    refine v_load_pt (.c _) lay31 rfl rfl rfl rfl ?_
    refine v_len_mu lay31 rfl ?_
    refine v_eql lay3 rfl rfl (fun h14 => ?_) (fun h14 => ?_)
    · refine v_nil ?_
      refine q_n ?_
      refine w_t rfl ?_
      refine w_seq ?_
      refine w_reg rfl ?_
      refine v_move rfl ?_
      refine v_assign rfl ?_
      refine v_assign (c := .v (.int .i64 3)) rfl ?_
      refine v_nil ?_
      refine q_n ?_
      refine w_ret (q_r (q_br (q_r ?_)))
      refine r_r rfl ?_
      refine v_move_t rfl ?_
      refine v_extract_c rfl rfl ?_
      refine v_extract_c rfl rfl ?_
      refine v_assign rfl ?_
      refine v_assign rfl ?_
      refine v_nil ?_
      refine q_n ?_
      refine w_seq ?_
      refine w_seq ?_
      refine w_reg rfl ?_
      refine v_move rfl ?_
      refine v_neq lay2 rfl rfl (fun h15 => ?_) (fun h15 => ?_)
      rotate_left
      · exact absurd h15 (by decide)
      refine v_nil ?_
      refine q_n ?_
      refine w_t rfl ?_
      refine w_seq ?_
      refine w_reg rfl ?_
      refine v_lit (flat acE []) (H' := [_, _, _, _, _]) lay22 lay46 rfl rfl ⟨by decide, by decide⟩ rfl rfl ?_
      refine v_move rfl ?_
      refine v_move rfl ?_
      refine v_assign rfl ?_
      refine v_assign rfl ?_
      refine v_assign rfl ?_
      refine v_nil ?_
      refine q_n ?_
      refine w_ret (q_r (q_br (q_r (q_br (q_r ?_)))))
      refine r_r rfl ?_
      have hst : step (ls[i]'hi1) i acs os = (3, i, acs, os) := (step_at hws).trans (by first | exact sw_t3 hw0 (by assumption) (by omega) (by omega) | exact sw_a1 hw0 hwe (by assumption) (by omega))
      exact a_res ((cmpR_ok hok).trans (hr.at_err hi1 hst (by decide))) (a_tup (.cons (a_flat (xs := ([] : List AD)) acE_sc acE_len rfl rfl) (.cons tr_v (.cons tr_v .nil))))
    refine v_nil ?_
    refine q_n ?_
    refine w_f rfl ?_
    refine w_skip ?_
    refine q_n ?_
    refine w_seq ?_
    refine w_reg rfl ?_
    refine v_move rfl ?_
    refine v_move rfl ?_
    refine v_nil_pt rfl ?_
    refine v_fa_pt (off' := 1) lay34 rfl rfl rfl ?_
    refine v_load_pt (.c _) lay31 rfl rfl rfl rfl ?_
    refine v_move rfl ?_
    refine v_add lay3 rfl rfl (i64r (by omega)) ?_
    refine v_lit (flat int [_]) (H' := [_, _, _, _, _]) lay31 lay3 rfl rfl ⟨by decide, by decide⟩ rfl rfl ?_
    refine v_app_flat (H' := [_, _, _, _, _, _]) int_sc int_len lay31 lay3 rfl rfl (by first | rfl | (simp [frS, lfS]; done)) rfl rfl (by first | rfl | (simp; done)) rfl rfl (by unfold maxLen; simp only []; omega) rfl rfl ?_
    refine v_nil_pt rfl ?_
    refine v_fa_pt (off' := 1) lay34 rfl rfl rfl ?_
    refine v_store (H' := [⟨[_, _, _], 34, true⟩, _, _, _, _, _]) lay31 rfl rfl rfl rfl rfl rfl ?_
    refine v_nil ?_
    refine q_n ?_
    refine w_seq ?_
    refine w_reg rfl ?_
    refine v_move rfl ?_
    refine v_move rfl ?_
    refine v_nil_pt rfl ?_
    refine v_fa_pt (off' := 2) lay34 rfl rfl rfl ?_
    refine v_load_pt (.c _) lay32 rfl rfl rfl rfl ?_
    refine v_move rfl ?_
    refine v_sub lay2 rfl rfl (i64r (by omega)) ?_
    refine v_lit (flat int [_]) (H' := [_, _, _, _, _, _, _]) lay32 lay2 rfl rfl ⟨by decide, by decide⟩ rfl rfl ?_
    refine v_app_flat (H' := [_, _, _, _, _, _, _, _]) int_sc int_len lay32 lay2 rfl rfl (by first | rfl | (simp [frS, lfS]; done)) rfl rfl (by first | rfl | (simp; done)) rfl rfl (by unfold maxLen; simp only []; omega) rfl rfl ?_
    refine v_nil_pt rfl ?_
    refine v_fa_pt (off' := 2) lay34 rfl rfl rfl ?_
    refine v_store (H' := [⟨[_, _, _], 34, true⟩, _, _, _, _, _, _, _]) lay32 rfl rfl rfl rfl rfl rfl ?_
    refine v_nil ?_
    refine q_n ?_
    refine w_seq ?_
    refine w_reg rfl ?_
    refine v_move rfl ?_
    refine v_add lay3 rfl rfl (i64r (by omega)) ?_
    refine v_assign rfl ?_
    refine v_assign (c := .v (.int .i64 0)) rfl ?_
    refine v_nil ?_
    refine q_n ?_
    refine w_ret (q_br (q_r ?_))
    refine r_r rfl ?_
    refine v_move_t rfl ?_
    refine v_extract_c rfl rfl ?_
    refine v_extract_c rfl rfl ?_
    refine v_assign rfl ?_
    refine v_assign rfl ?_
    refine v_nil ?_
    refine q_n ?_
    refine w_seq ?_
    refine w_seq ?_
    refine w_reg rfl ?_
    refine v_move rfl ?_
    refine v_neq lay2 rfl rfl (fun h16 => ?_) (fun h16 => ?_)
    · exact absurd (by decide) h16
    refine v_nil ?_
    refine q_n ?_
    refine w_f rfl ?_
    refine w_skip ?_
    refine q_n ?_
    refine w_reg rfl ?_
    refine v_move rfl ?_
    refine v_assign rfl ?_
    refine v_nil ?_
    refine q_bn ?_
    refine q_n ?_
    obtain ⟨m, hlt, hm⟩ := hr.at_go hi1 ((step_at hws).trans (sw_t hw0 (by assumption) (by omega) (by omega)))
    refine ⟨_, _, _, ?_, ⟨i + 1, acs, os ++ [(i + 1, (nineV w - 1).toNat)], hm, by omega, ha, by rw [List.length_append]; show os.length + 1 ≤ 2; omega, ?_, rfl, rfl⟩, hlt⟩
    · exact turn [some 0, some 1, some 5, some 7] rfl rfl rfl ⟨⟨_, rfl, .cons (tr_mu rfl) (.cons (tr_mun rfl (by simp)) (.cons (tr_mun rfl (by simp)) .nil))⟩, ⟨_, rfl, trc_flat acE_sc rfl⟩, ⟨_, rfl, trc_flat int_sc (congrArg (flat int) (by simp [frS]))⟩, ⟨_, rfl, trc_flat int_sc (congrArg (flat int) (by simp [lfS]; omega))⟩, trivial⟩ ⟨tr_sl, tr_pt rfl, tr_v, trivial⟩
    · intro o hq
      rcases List.mem_append.1 hq with hq | hq
      · exact hb o hq
      · obtain rfl : o = (i + 1, (nineV w - 1).toNat) := by simpa using hq
        exact ⟨by show i + 1 ≤ ls.length; omega, by show (nineV w - 1).toNat ≤ 15; omega⟩
  have hw0 : ¬ w0 = timesB := h8
  refine v_assign rfl ?_
  refine v_nil ?_
  refine q_n ?_
  refine w_f rfl ?_
  refine w_seq ?_
  refine w_reg rfl ?_
  refine v_seql lay9 rfl rfl (fun h19 => ?_) (fun h19 => ?_)
  rotate_left
  · have hwe : ¬ w0 = endB := h19
    refine v_assign rfl ?_
    refine v_nil ?_
    refine q_n ?_
    refine w_f rfl ?_
    refine w_skip ?_
    refine q_bn ?_
    refine q_n ?_
    refine w_seq ?_
    refine w_reg rfl ?_
    refine v_move rfl ?_
    refine dec_split (p := (rdA w0 wr).isSome = true) (fun h31 => ?_) (fun h31 => ?_)
    rotate_left
    · refine v_call (cRdSTF hwp hwl h31) rfl rfl rfl (.cons vw_sl .nil) ?_
      refine v_move_t rfl ?_
      refine v_extract_a rfl rfl ?_
      refine v_extract_c rfl rfl ?_
      refine v_alloc (m := 4) (H' := [_, _, _, _, ⟨[.v _, .v _, .v _, .v _, .f _ _], 46, true⟩]) lay46 rfl rfl ?_
      refine v_store (H' := [_, _, _, _, ⟨[_, _, _, _, _], 46, true⟩]) lay46 rfl rfl rfl rfl rfl rfl ?_
      refine v_assign rfl ?_
      refine v_nil ?_
      refine q_n ?_
      refine w_seq ?_
      refine w_seq ?_
      refine w_reg rfl ?_
      refine v_move rfl ?_
      refine v_not true rfl rfl ?_
      refine v_nil ?_
      refine q_n ?_
      refine w_t rfl ?_
      refine w_seq ?_
      refine w_reg rfl ?_
      refine v_move rfl ?_
      refine v_assign rfl ?_
      refine v_assign (c := .v (.int .i64 5)) rfl ?_
      refine v_nil ?_
      refine q_n ?_
      refine w_ret (q_r ?_)
      refine r_r rfl ?_
      refine v_move_t rfl ?_
      refine v_extract_c rfl rfl ?_
      refine v_extract_c rfl rfl ?_
      refine v_assign rfl ?_
      refine v_assign rfl ?_
      refine v_nil ?_
      refine q_n ?_
      refine w_seq ?_
      refine w_seq ?_
      refine w_reg rfl ?_
      refine v_move rfl ?_
      refine v_neq lay2 rfl rfl (fun h35 => ?_) (fun h35 => ?_)
      rotate_left
      · exact absurd h35 (by decide)
      refine v_nil ?_
      refine q_n ?_
      refine w_t rfl ?_
      refine w_seq ?_
      refine w_reg rfl ?_
      refine v_lit (flat acE []) (H' := [_, _, _, _, _, _]) lay22 lay46 rfl rfl ⟨by decide, by decide⟩ rfl rfl ?_
      refine v_move rfl ?_
      refine v_move rfl ?_
      refine v_assign rfl ?_
      refine v_assign rfl ?_
      refine v_assign rfl ?_
      refine v_nil ?_
      refine q_n ?_
      refine w_ret (q_r (q_br (q_r (q_br (q_r ?_)))))
      refine r_r rfl ?_
      have hst : step (ls[i]'hi1) i acs os = (5, i, acs, os) := (step_at hws).trans (by first | exact sw_t0 hw0 (by omega) | exact sw_t1 hw0 (by assumption) | exact sw_e0 hw0 hwe (fun e => by subst e; have h1 : [w0].length = 1 := rfl; omega) | exact sw_a0 hw0 hwe (by assumption))
      exact a_res ((cmpR_ok hok).trans (hr.at_err hi1 hst (by decide))) (a_tup (.cons (a_flat (xs := ([] : List AD)) acE_sc acE_len rfl rfl) (.cons tr_v (.cons tr_v .nil))))
    refine v_call (cRdST hwp hwl h31) rfl rfl rfl (.cons vw_sl .nil) ?_
    refine v_move_t rfl ?_
    refine v_extract_a rfl rfl ?_
    refine v_extract_c rfl rfl ?_
    refine v_alloc (m := 4) (H' := [_, _, _, _, ⟨[.v _, .v _, .v _, .v _, .f _ _], 46, true⟩]) lay46 rfl rfl ?_
    refine v_store (H' := [_, _, _, _, ⟨[_, _, _, _, _], 46, true⟩]) lay46 rfl rfl rfl rfl rfl rfl ?_
    refine v_assign rfl ?_
    refine v_nil ?_
    refine q_n ?_
    refine w_seq ?_
    refine w_seq ?_
    refine w_reg rfl ?_
    refine v_move rfl ?_
    refine v_not false rfl rfl ?_
    refine v_nil ?_
    refine q_n ?_
    refine w_f rfl ?_
    refine w_skip ?_
    refine q_n ?_
    refine w_seq ?_
    refine w_seq ?_
    refine w_reg rfl ?_
    refine v_move rfl ?_
    refine v_nil_pt rfl ?_
    refine v_fa_pt (off' := 0) lay34 rfl rfl rfl ?_
    refine v_load_pt (.c _) lay22 rfl rfl rfl rfl ?_
    refine v_len_mu lay22 rfl ?_
    refine v_eql lay3 rfl rfl (fun h32 => ?_) (fun h32 => ?_)
    · refine v_nil ?_
      refine q_n ?_
      refine w_t rfl ?_
      refine w_seq ?_
      refine w_reg rfl ?_
      refine v_move rfl ?_
      refine v_assign rfl ?_
      refine v_assign (c := .v (.int .i64 3)) rfl ?_
      refine v_nil ?_
      refine q_n ?_
      refine w_ret (q_r ?_)
      refine r_r rfl ?_
      refine v_move_t rfl ?_
      refine v_extract_c rfl rfl ?_
      refine v_extract_c rfl rfl ?_
      refine v_assign rfl ?_
      refine v_assign rfl ?_
      refine v_nil ?_
      refine q_n ?_
      refine w_seq ?_
      refine w_seq ?_
      refine w_reg rfl ?_
      refine v_move rfl ?_
      refine v_neq lay2 rfl rfl (fun h33 => ?_) (fun h33 => ?_)
      rotate_left
      · exact absurd h33 (by decide)
      refine v_nil ?_
      refine q_n ?_
      refine w_t rfl ?_
      refine w_seq ?_
      refine w_reg rfl ?_
      refine v_lit (flat acE []) (H' := [_, _, _, _, _, _]) lay22 lay46 rfl rfl ⟨by decide, by decide⟩ rfl rfl ?_
      refine v_move rfl ?_
      refine v_move rfl ?_
      refine v_assign rfl ?_
      refine v_assign rfl ?_
      refine v_assign rfl ?_
      refine v_nil ?_
      refine q_n ?_
      refine w_ret (q_r (q_br (q_r (q_br (q_r ?_)))))
      refine r_r rfl ?_
      have hst : step (ls[i]'hi1) i acs os = (3, i, acs, os) := (step_at hws).trans (by first | exact sw_t3 hw0 (by assumption) (by omega) (by omega) | exact sw_a1 hw0 hwe (by assumption) (by omega))
      exact a_res ((cmpR_ok hok).trans (hr.at_err hi1 hst (by decide))) (a_tup (.cons (a_flat (xs := ([] : List AD)) acE_sc acE_len rfl rfl) (.cons tr_v (.cons tr_v .nil))))
    refine v_nil ?_
    refine q_n ?_
    refine w_f rfl ?_
    refine w_skip ?_
    refine q_n ?_
    refine w_seq ?_
    refine w_draw [0, 0, 2, 6, 14, 0, 32, 126, 255, 511, 1023] [⟨0, 0, []⟩, ⟨1, 0, []⟩, ⟨2, 0, []⟩, ⟨3, 0, []⟩, ⟨4, 0, []⟩, ⟨5, 0, []⟩, ⟨6, 2, []⟩, ⟨7, 1, []⟩, ⟨8, 0, []⟩, ⟨9, 0, []⟩, ⟨10, 1, []⟩] rfl rfl ?_
    refine d_q rfl rfl rfl rfl rfl ?_
    refine v_move rfl ?_
    refine v_nil ?_
    refine d_q rfl rfl rfl rfl rfl ?_
    refine v_move rfl ?_
    refine v_nil ?_
    refine d_q rfl rfl rfl rfl rfl ?_
    refine v_nil_pt rfl ?_
    refine v_nil ?_
    refine d_q rfl rfl rfl rfl rfl ?_
    refine v_fa_pt (off' := 0) lay34 rfl rfl rfl ?_
    refine v_nil ?_
    refine d_q rfl rfl rfl rfl rfl ?_
    refine v_load_pt (.c _) lay22 rfl rfl rfl rfl ?_
    refine v_nil ?_
    refine d_q rfl rfl rfl rfl rfl ?_
    refine v_load_pt (.agg [_, _, _, _, _]) lay46 rfl rfl rfl rfl ?_
    refine v_nil ?_
    refine d_z (.c (.sl true 1 5 (flat acE [gA w0 wr]))) rfl rfl rfl ?_
    refine d_e rfl rfl rfl ?_
    refine v_app_flat_sl (H' := [_, _, _, _, _, _]) acE_sc acE_len lay22 lay46 rfl rfl (by first | rfl | (simp [frS, lfS]; done)) rfl rfl rfl (by unfold maxLen; simp only []; omega) rfl rfl ?_
    refine v_nil ⟨again_nil, ?_⟩
    refine d_q rfl rfl rfl rfl rfl ?_
    refine v_nil_pt rfl ?_
    refine v_nil ?_
    refine d_q rfl rfl rfl rfl rfl ?_
    refine v_fa_pt (off' := 0) lay34 rfl rfl rfl ?_
    refine v_nil ?_
    refine d_e rfl rfl rfl ?_
    refine v_store (H' := [⟨[_, _, _], 34, true⟩, _, _, _, _, _]) lay22 rfl rfl rfl rfl rfl rfl ?_
    refine v_nil ⟨again_nil, ?_⟩
    refine d_nil ?_
    refine q_n ?_
    refine w_seq ?_
    refine w_reg rfl ?_
    refine v_move rfl ?_
    refine v_add lay3 rfl rfl (i64r (by omega)) ?_
    refine v_assign rfl ?_
    refine v_assign (c := .v (.int .i64 0)) rfl ?_
    refine v_nil ?_
    refine q_n ?_
    refine w_ret ?_
    refine r_r rfl ?_
    refine v_move_t rfl ?_
    refine v_extract_c rfl rfl ?_
    refine v_extract_c rfl rfl ?_
    refine v_assign rfl ?_
    refine v_assign rfl ?_
    refine v_nil ?_
    refine q_n ?_
    refine w_seq ?_
    refine w_seq ?_
    refine w_reg rfl ?_
    refine v_move rfl ?_
    refine v_neq lay2 rfl rfl (fun h34 => ?_) (fun h34 => ?_)
    · exact absurd (by decide) h34
    refine v_nil ?_
    refine q_n ?_
    refine w_f rfl ?_
    refine w_skip ?_
    refine q_n ?_
    refine w_reg rfl ?_
    refine v_move rfl ?_
    refine v_assign rfl ?_
    refine v_nil ?_
    refine q_bn ?_
    refine q_n ?_
    obtain ⟨m, hlt, hm⟩ := hr.at_go hi1 ((step_at hws).trans (sw_a hw0 hwe (by assumption) (by omega)))
    refine ⟨_, _, _, ?_, ⟨i + 1, acs ++ [gA w0 wr], os, hm, by omega, by rw [List.length_append]; show acs.length + 1 ≤ 120; omega, ho, hb, rfl, rfl⟩, hlt⟩
    exact turn [some 0, some 5, some 2, some 3] rfl rfl rfl ⟨⟨_, rfl, .cons (tr_mun rfl (by simp)) (.cons (tr_mu rfl) (.cons (tr_mu rfl) .nil))⟩, ⟨_, rfl, trc_flat acE_sc rfl⟩, ⟨_, rfl, trc_flat int_sc rfl⟩, ⟨_, rfl, trc_flat int_sc rfl⟩, trivial⟩ ⟨tr_sl, tr_pt rfl, tr_v, trivial⟩
  have hwe : w0 = endB := h19
  refine v_assign rfl ?_
  refine v_nil ?_
  refine q_n ?_
  refine w_t rfl ?_
  refine w_seq ?_
  refine w_seq ?_
  refine w_reg rfl ?_
  refine v_move rfl ?_
  refine v_len_sl lay28 rfl ?_
  refine v_neq lay3 rfl rfl (fun h20 => ?_) (fun h20 => ?_)
  · refine v_nil ?_
    refine q_n ?_
    refine w_t rfl ?_
    refine w_seq ?_
    refine w_reg rfl ?_
    refine v_move rfl ?_
    refine v_assign rfl ?_
    refine v_assign (c := .v (.int .i64 5)) rfl ?_
    refine v_nil ?_
    refine q_n ?_
    refine w_ret (q_r (q_br (q_r ?_)))
    refine r_r rfl ?_
    refine v_move_t rfl ?_
    refine v_extract_c rfl rfl ?_
    refine v_extract_c rfl rfl ?_
    refine v_assign rfl ?_
    refine v_assign rfl ?_
    refine v_nil ?_
    refine q_n ?_
    refine w_seq ?_
    refine w_seq ?_
    refine w_reg rfl ?_
    refine v_move rfl ?_
    refine v_neq lay2 rfl rfl (fun h21 => ?_) (fun h21 => ?_)
    rotate_left
    · exact absurd h21 (by decide)
    refine v_nil ?_
    refine q_n ?_
    refine w_t rfl ?_
    refine w_seq ?_
    refine w_reg rfl ?_
    refine v_lit (flat acE []) (H' := [_, _, _, _, _]) lay22 lay46 rfl rfl ⟨by decide, by decide⟩ rfl rfl ?_
    refine v_move rfl ?_
    refine v_move rfl ?_
    refine v_assign rfl ?_
    refine v_assign rfl ?_
    refine v_assign rfl ?_
    refine v_nil ?_
    refine q_n ?_
    refine w_ret (q_r (q_br (q_r (q_br (q_r ?_)))))
    refine r_r rfl ?_
    have hst : step (ls[i]'hi1) i acs os = (5, i, acs, os) := (step_at hws).trans (by first | exact sw_t0 hw0 (by omega) | exact sw_t1 hw0 (by assumption) | exact sw_e0 hw0 hwe (fun e => by subst e; have h1 : [w0].length = 1 := rfl; omega) | exact sw_a0 hw0 hwe (by assumption))
    exact a_res ((cmpR_ok hok).trans (hr.at_err hi1 hst (by decide))) (a_tup (.cons (a_flat (xs := ([] : List AD)) acE_sc acE_len rfl rfl) (.cons tr_v (.cons tr_v .nil))))
  refine v_nil ?_
  refine q_n ?_
  refine w_f rfl ?_
  refine w_skip ?_
  refine q_n ?_
  refine w_seq ?_
  refine w_reg rfl ?_
  refine v_move rfl ?_
  refine v_nil_pt rfl ?_
  refine v_fa_pt (off' := 1) lay34 rfl rfl rfl ?_
  refine v_load_pt (.c _) lay31 rfl rfl rfl rfl ?_
  refine v_len_mu lay31 rfl ?_
  refine v_sub lay3 rfl rfl (i64r (by omega)) ?_
  refine v_assign rfl ?_
  refine v_nil ?_
  refine q_n ?_
  refine w_seq ?_
  refine w_seq ?_
  refine w_reg rfl ?_
  refine v_move rfl ?_
  refine v_lss lay3 rfl rfl (fun h22 => ?_) (fun h22 => ?_)
  · refine v_nil ?_
    refine q_n ?_
    refine w_t rfl ?_
    refine w_seq ?_
    refine w_reg rfl ?_
    refine v_move rfl ?_
    refine v_assign rfl ?_
    refine v_assign (c := .v (.int .i64 4)) rfl ?_
    refine v_nil ?_
    refine q_n ?_
    refine w_ret (q_r (q_br (q_r ?_)))
    refine r_r rfl ?_
    refine v_move_t rfl ?_
    refine v_extract_c rfl rfl ?_
    refine v_extract_c rfl rfl ?_
    refine v_assign rfl ?_
    refine v_assign rfl ?_
    refine v_nil ?_
    refine q_n ?_
    refine w_seq ?_
    refine w_seq ?_
    refine w_reg rfl ?_
    refine v_move rfl ?_
    refine v_neq lay2 rfl rfl (fun h23 => ?_) (fun h23 => ?_)
    rotate_left
    · exact absurd h23 (by decide)
    refine v_nil ?_
    refine q_n ?_
    refine w_t rfl ?_
    refine w_seq ?_
    refine w_reg rfl ?_
    refine v_lit (flat acE []) (H' := [_, _, _, _, _]) lay22 lay46 rfl rfl ⟨by decide, by decide⟩ rfl rfl ?_
    refine v_move rfl ?_
    refine v_move rfl ?_
    refine v_assign rfl ?_
    refine v_assign rfl ?_
    refine v_assign rfl ?_
    refine v_nil ?_
    refine q_n ?_
    refine w_ret (q_r (q_br (q_r (q_br (q_r ?_)))))
    refine r_r rfl ?_
    have hst : step (ls[i]'hi1) i acs os = (4, i, acs, os) := (step_at hws).trans (by first | exact sw_e1 hw0 hwe (List.eq_nil_of_length_eq_zero (by omega)) (List.eq_nil_of_length_eq_zero (by omega)))
    exact a_res ((cmpR_ok hok).trans (hr.at_err hi1 hst (by decide))) (a_tup (.cons (a_flat (xs := ([] : List AD)) acE_sc acE_len rfl rfl) (.cons tr_v (.cons tr_v .nil))))
  obtain ⟨o1, f, n, rfl⟩ := stk_snoc (os := os) (by omega)
  have hol : (o1 ++ [(f, n)]).length = o1.length + 1 := by simp
  have hfi := (hb (f, n) (by simp)).1
  have hnb := (hb (f, n) (by simp)).2
  refine v_nil ?_
  refine q_n ?_
  refine w_f rfl ?_
  refine w_skip ?_
  refine q_n ?_
  refine w_seq ?_
  refine w_seq ?_
  refine w_reg rfl ?_
  refine v_move rfl ?_
  refine v_nil_pt rfl ?_
  refine v_fa_pt (off' := 2) lay34 rfl rfl rfl ?_
  refine v_load_pt (.c _) lay32 rfl rfl rfl rfl ?_
  refine v_move rfl ?_
  refine v_idx_mu_e (k := 1) (off := 0) (o1.length) lay32 lay2 rfl rfl rfl (by omega) (by omega) ?_
  refine v_load_flat o1.length 0 (.c (.v _)) int_len lay2 rfl rfl (by omega) (by simp [frS, lfS]) rfl rfl ?_
  refine v_gtr lay2 rfl rfl (fun h25 => ?_) (fun h25 => ?_)
  rotate_left
  · have hl0 : ¬ 0 < n := by have hq := h25; rw [lfS_last] at hq; omega
    refine v_nil ?_
    refine q_n ?_
    refine w_f rfl ?_
    refine w_skip ?_
    refine q_n ?_
    refine w_seq ?_
    refine w_reg rfl ?_
    refine v_move rfl ?_
    refine v_move rfl ?_
    refine v_nil_pt rfl ?_
    refine v_fa_pt (off' := 1) lay34 rfl rfl rfl ?_
    refine v_load_pt (.c _) lay31 rfl rfl rfl rfl ?_
    refine v_move rfl ?_
    refine v_slice_mu (0) (o1.length) lay31 lay3 rfl rfl rfl rfl (rfl) (by omega) (⟨by omega, by omega⟩) (.inl rfl) ?_
    refine v_nil_pt rfl ?_
    refine v_fa_pt (off' := 1) lay34 rfl rfl rfl ?_
    refine v_store (H' := [⟨[_, _, _], 34, true⟩, _, _, _]) lay31 rfl rfl rfl rfl rfl rfl ?_
    refine v_nil ?_
    refine q_n ?_
    refine w_seq ?_
    refine w_reg rfl ?_
    refine v_move rfl ?_
    refine v_move rfl ?_
    refine v_nil_pt rfl ?_
    refine v_fa_pt (off' := 2) lay34 rfl rfl rfl ?_
    refine v_load_pt (.c _) lay32 rfl rfl rfl rfl ?_
    refine v_move rfl ?_
    refine v_slice_mu (0) (o1.length) lay32 lay2 rfl rfl rfl rfl (rfl) (by omega) (⟨by omega, by omega⟩) (.inl rfl) ?_
    refine v_nil_pt rfl ?_
    refine v_fa_pt (off' := 2) lay34 rfl rfl rfl ?_
    refine v_store (H' := [⟨[_, _, _], 34, true⟩, _, _, _]) lay32 rfl rfl rfl rfl rfl rfl ?_
    refine v_nil ?_
    refine q_n ?_
    refine w_seq ?_
    refine w_reg rfl ?_
    refine v_move rfl ?_
    refine v_add lay3 rfl rfl (i64r (by omega)) ?_
    refine v_assign rfl ?_
    refine v_assign (c := .v (.int .i64 0)) rfl ?_
    refine v_nil ?_
    refine q_n ?_
    refine w_ret (q_br (q_r ?_))
    refine r_r rfl ?_
    refine v_move_t rfl ?_
    refine v_extract_c rfl rfl ?_
    refine v_extract_c rfl rfl ?_
    refine v_assign rfl ?_
    refine v_assign rfl ?_
    refine v_nil ?_
    refine q_n ?_
    refine w_seq ?_
    refine w_seq ?_
    refine w_reg rfl ?_
    refine v_move rfl ?_
    refine v_neq lay2 rfl rfl (fun h30 => ?_) (fun h30 => ?_)
    · exact absurd (by decide) h30
    refine v_nil ?_
    refine q_n ?_
    refine w_f rfl ?_
    refine w_skip ?_
    refine q_n ?_
    refine w_reg rfl ?_
    refine v_move rfl ?_
    refine v_assign rfl ?_
    refine v_nil ?_
    refine q_bn ?_
    refine q_n ?_
    obtain ⟨m, hlt, hm⟩ := hr.at_go hi1 ((step_at hws).trans (sw_e3 hw0 hwe (List.eq_nil_of_length_eq_zero (by omega)) hl0))
    refine ⟨_, _, _, ?_, ⟨i + 1, acs, o1, hm, by omega, ha, by omega, fun o hq => hb o (List.mem_append_left _ hq), rfl, rfl⟩, hlt⟩
    exact turn_t [some 0, some 1, some 2, some 3] rfl rfl rfl ⟨⟨_, 3, rfl, .cons (tr_mu rfl) (.cons (tr_mun rfl (by omega)) (.cons (tr_mun rfl (by omega)) .nil))⟩, ⟨_, _, rfl, trc_all (trc_flat acE_sc rfl)⟩, ⟨_, _, rfl, fr_cut⟩, ⟨_, _, rfl, lf_cut⟩, trivial⟩ ⟨tr_sl, tr_pt rfl, tr_v, trivial⟩
  have hl0 : 0 < n := by have hq := h25; rw [lfS_last] at hq; omega
  refine v_nil ?_
  refine q_n ?_
  refine w_t rfl ?_
  refine w_seq ?_
  refine w_reg rfl ?_
  refine v_move rfl ?_
  refine v_nil_pt rfl ?_
  refine v_fa_pt (off' := 2) lay34 rfl rfl rfl ?_
  refine v_load_pt (.c _) lay32 rfl rfl rfl rfl ?_
  refine v_move rfl ?_
  refine v_idx_mu_e (k := 1) (off := 0) (o1.length) lay32 lay2 rfl rfl rfl (by omega) (by omega) ?_
  refine v_load_flat o1.length 0 (.c (.v _)) int_len lay2 rfl rfl (by omega) (by simp [frS, lfS]) rfl rfl ?_
  refine v_sub lay2 rfl rfl (i64r (by rw [lfS_last]; omega)) ?_
  refine v_idx_mu_e (k := 1) (off := 0) (o1.length) lay32 lay2 rfl rfl rfl (by omega) (by omega) ?_
  refine v_store_flat (H' := [_, _, _, _]) o1.length 0 (_) int_len lay2 rfl rfl rfl (by omega) (by simp [frS, lfS]) rfl rfl (rfl) rfl ?_
  refine v_nil ?_
  refine q_n ?_
  refine w_seq ?_
  refine w_reg rfl ?_
  refine v_move rfl ?_
  refine v_nil_pt rfl ?_
  refine v_fa_pt (off' := 1) lay34 rfl rfl rfl ?_
  refine v_load_pt (.c _) lay31 rfl rfl rfl rfl ?_
  refine v_move rfl ?_
  refine v_idx_mu_e (k := 1) (off := 0) (o1.length) lay31 lay3 rfl rfl rfl (by omega) (by omega) ?_
  refine v_load_flat o1.length 0 (.c (.v _)) int_len lay3 rfl rfl (by omega) (by simp [frS, lfS]) rfl rfl ?_
  refine v_assign rfl ?_
  refine v_assign (c := .v (.int .i64 0)) rfl ?_
  refine v_nil ?_
  refine q_n ?_
  refine w_ret (q_r (q_br (q_r ?_)))
  refine r_r rfl ?_
  refine v_move_t rfl ?_
  refine v_extract_c rfl rfl ?_
  refine v_extract_c rfl rfl ?_
  refine v_assign rfl ?_
  refine v_assign rfl ?_
  refine v_nil ?_
  refine q_n ?_
  refine w_seq ?_
  refine w_seq ?_
  refine w_reg rfl ?_
  refine v_move rfl ?_
  refine v_neq lay2 rfl rfl (fun h29 => ?_) (fun h29 => ?_)
  · exact absurd (by decide) h29
  refine v_nil ?_
  refine q_n ?_
  refine w_f rfl ?_
  refine w_skip ?_
  refine q_n ?_
  refine w_reg rfl ?_
  refine v_move rfl ?_
  refine v_assign rfl ?_
  refine v_nil ?_
  refine q_bn ?_
  refine q_n ?_
  obtain ⟨m, hlt, hm⟩ := hr.at_go hi1 ((step_at hws).trans (sw_e2 hw0 hwe (List.eq_nil_of_length_eq_zero (by omega)) hl0))
  have hbl := hb (f, n) (by simp)
  refine ⟨_, _, _, ?_, ⟨f, acs, o1 ++ [(f, n - 1)], hm, hfi, ha, by simp only [List.length_append, List.length_cons, List.length_nil]; omega, ?_, rfl, rfl⟩, hlt⟩
  · exact turn [some 0, some 1, some 2, some 3] rfl rfl rfl ⟨⟨_, rfl, .cons (tr_mu rfl) (.cons (tr_mun rfl (by simp)) (.cons (tr_mun rfl (by simp)) .nil))⟩, ⟨_, rfl, trc_flat acE_sc rfl⟩, ⟨_, rfl, trc_flat int_sc (congrArg (flat int) frS_same)⟩, ⟨_, rfl, trc_flat int_sc (congrArg (flat int) (lfS_dec hl0 (by rw [lfS_last])))⟩, trivial⟩ ⟨tr_sl, tr_pt rfl, tr_i (frS_last _), trivial⟩
  · intro o hq
    rcases List.mem_append.1 hq with hq | hq
    · exact hb o (List.mem_append_left _ hq)
    · obtain rfl : o = (f, n - 1) := by simpa using hq
      exact ⟨hbl.1, by show n - 1 ≤ 15; have := hbl.2; omega⟩
end Go.VL
namespace Go.VL
open Go.RowKit
set_option maxRecDepth 20000
set_option maxHeartbeats 8000000
def opI (p : Int × Int) : List C := [.v (.int .i64 p.1), .v (.int .i64 p.2)]
theorem opI_len (p : Int × Int) : (opI p).length = 2 := rfl
theorem opI_sc (p : Int × Int) : (opI p).all sc = true := rfl
abbrev opL (os : Stk) : List (Int × Int) := os.map fun o => ((o.1 : Int), (o.2 : Int) + 1)
theorem op_last {o1 : Stk} {f n : Nat} (h : o1.length < (opL (o1 ++ [(f, n)])).length) : (opL (o1 ++ [(f, n)]))[o1.length] = ((f : Int), (n : Int) + 1) := by simp [opL]
theorem op_dec {o1 : Stk} {f n : Nat} (hn : 0 < n) {x : Int × Int} (hx : x = ((f : Int), (n : Int))) : (opL (o1 ++ [(f, n)])).set o1.length x = opL (o1 ++ [(f, n - 1)]) := by
  subst hx
  simp only [opL, List.map_append, List.map_cons, List.map_nil]
  rw [List.set_append_right _ _ (by simp), List.length_map, Nat.sub_self, List.set_cons_zero]
  congr 3
  omega
theorem op_cut {H : List Ob} {g : List (Option Nat)} {o1 : Stk} {x : Nat × Nat} {y : Int × Int} : TrC H g ((flat opI ((opL (o1 ++ [x])).set o1.length y)).take (o1.length * 2)) (flat opI (opL o1)) := by
  rw [flat_take opI_len]
  refine trc_flat opI_sc (congrArg (flat opI) ?_)
  simp [opL]
theorem end_no {wr : List (List UInt8)} : rdA endB wr = none := rdA_k (by decide)
theorem end_is {l w0 : List UInt8} {wr : List (List UInt8)} (h : splitB 32 l = w0 :: wr) (e : l = endB) : w0 = endB ∧ wr = [] := by
  subst e
  have h2 : splitB 32 endB = [endB] := by decide
  rw [h2] at h
  simp only [List.cons.injEq] at h
  exact ⟨h.1.symm, h.2.symm⟩
theorem end_not {l w0 : List UInt8} {wr : List (List UInt8)} (h : splitB 32 l = w0 :: wr) (e : ¬ l = endB) (h0 : w0 = endB) : ¬ wr = [] := fun hw => by
  subst h0 hw
  have := (splitB_one h).1
  exact e this
theorem sw_n0 {w0 : List UInt8} {wr : List (List UInt8)} {i : Nat} {acs : List AD} {os : Stk} (h0 : ¬ w0 = timesB) (h : w0 = endB → ¬ wr = []) (h1 : ¬ (rdA w0 wr).isSome = true) : stepW w0 wr i acs os = (5, i, acs, os) := by
  by_cases hw : w0 = endB
  · exact sw_e0 h0 hw (h hw)
  · exact sw_a0 h0 hw h1
theorem some_no {w0 : List UInt8} {wr : List (List UInt8)} (h : (rdA w0 wr).isSome = true) : ¬ w0 = endB := fun e => by
  subst e
  rw [end_no] at h
  cases h
theorem st_cut {H : List Ob} {g : List (Option Nat)} {L ls : List (List UInt8)} (h : (L.take (L.length - 1)).drop 0 = ls) : TrC H g ((flat st L).take ((L.length - 1) * 1)) (flat st ls) := by
  rw [flat_take st_len]
  exact trc_flat st_sc (congrArg (flat st) h)
abbrev cmpL (R : Res) : V := .tup [.c (.mu 0 0 R.1.length 5), .c (.v (.int .i64 (R.2.1 : Int))), .c (.v (.int .i64 R.2.2))]
variable [Inhabited Env]
theorem cCmpI1 (s : List UInt8) (hs : s.length ≤ 1048576) (ls : List (List UInt8)) (hls : lnsOf (splitB 10 s) = ls) (R : Res) (n0 : Nat) (hR : Runs ls n0 0 [] [] R) : LiveC X 5 [cS s] (cmpL (cmpR s ls R)) [⟨flat acE (cmpR s ls R).1, 46, true⟩] := by
  refine LiveC.of_body (drawD_ok X) (fun _ _ => Go.Proofs.Tryd.call5 _ _) Go.Proofs.Tryd.func5 rfl (n := 61) rfl ?_
  have h0 : (tx s).size = s.length := rfl
  have hlp : ∀ l ∈ ls, l.length ≤ s.length := lns_part hls
  have hc := splitB_len 10 s
  have hbd : (splitB 10 s).length - 1 < (splitB 10 s).length := by omega
  have hc2 := splitB_le 10 s
  refine w_seq ?_
  refine w_reg rfl ?_
  refine v_assign rfl ?_
  refine v_assign (c := .v (.int .i64 0)) rfl ?_
  refine v_assign (c := .v (.int .i64 0)) rfl ?_
  refine v_nil ?_
  refine q_n ?_
  refine w_seq ?_
  refine w_reg rfl ?_
  refine v_move rfl ?_
  refine v_inl (n := 19) (drawD_ok X) (fun _ _ => Go.Proofs.Tryd.call11 _ _) Go.Proofs.Tryd.func11 rfl rfl rfl rfl ?_
  refine w_seq ?_
  refine w_reg rfl ?_
  refine v_assign rfl ?_
  refine v_nil ?_
  refine q_n ?_
  refine w_seq ?_
  refine w_reg rfl ?_
  refine v_move rfl ?_
  refine v_live1 (N := 0) (H' := [_]) (cSplit s 10 hs) (sc_flat st_sc _) rfl rfl rfl rfl rfl rfl (.cons vw_v (.cons vw_v .nil)) ?_
  refine v_assign rfl ?_
  refine v_nil ?_
  refine q_n ?_
  refine w_seq ?_
  refine w_seq ?_
  refine w_reg rfl ?_
  refine v_move rfl ?_
  refine v_move rfl ?_
  refine v_len_mu lay28 rfl ?_
  refine v_sub lay3 rfl rfl (i64r (by omega)) ?_
  refine v_idx_mu_e (k := 1) (off := 0) (((splitB 10 s).length - 1)) lay28 lay9 rfl rfl rfl (by omega) (hbd) ?_
  refine v_load_flat ((splitB 10 s).length - 1) 0 (.c (.v _)) st_len lay9 rfl rfl (by omega) (by first | exact hbd | exact hi1 | (simp [opL]; done)) rfl rfl ?_
  refine v_seql lay9 rfl rfl (fun h2 => ?_) (fun h2 => ?_)
  rotate_left
  · obtain ⟨hE, hn⟩ := lns_all hls hbd h2
    refine v_nil ?_
    refine q_n ?_
    refine w_f rfl ?_
    refine w_skip ?_
    refine q_n ?_
    refine w_seq ?_
    refine w_reg rfl ?_
    refine v_move rfl ?_
    refine v_assign rfl ?_
    refine v_nil ?_
    refine q_n ?_
    refine w_ret ?_
    refine r_r rfl ?_
    refine v_assign rfl ?_
    refine v_nil ?_
    refine q_n ?_
    refine w_seq ?_
    refine w_seq ?_
    refine w_reg rfl ?_
    refine v_move rfl ?_
    refine v_len_s lay9 rfl ?_
    refine v_gtr lay3 rfl rfl (fun h51 => ?_) (fun h51 => ?_)
    · refine v_move rfl ?_
      refine v_guard_off rfl rfl rfl ?_
      refine v_guard_off rfl rfl rfl ?_
      refine v_guard_off rfl rfl rfl ?_
      refine v_pick_t (v := .v (.bool true)) rfl rfl ?_
      refine v_nil ?_
      refine q_n ?_
      refine w_t rfl ?_
      refine w_seq ?_
      refine w_reg rfl ?_
      refine v_assign rfl ?_
      refine v_assign (c := .v (.int .i64 0)) rfl ?_
      refine v_assign (c := .v (.int .i64 2)) rfl ?_
      refine v_nil ?_
      refine q_n ?_
      refine w_ret (q_r ?_)
      refine r_r rfl ?_
      rw [cmpR_long (s := s) (ls := ls) (by omega)]
      exact l_ans [none] rfl rfl ⟨rfl, trivial⟩ (a_tup (.cons (tr_nil rfl) (.cons tr_v (.cons tr_v .nil))))
    refine v_move rfl ?_
    refine v_guard_on rfl rfl ?_
    refine v_move rfl ?_
    refine v_guard_on rfl rfl ?_
    refine v_len_mu lay28 rfl ?_
    refine v_guard_on rfl rfl ?_
    refine v_gtr lay3 rfl rfl (fun h52 => ?_) (fun h52 => ?_)
    · refine v_pick_f rfl rfl ?_
      refine v_nil ?_
      refine q_n ?_
      refine w_t rfl ?_
      refine w_seq ?_
      refine w_reg rfl ?_
      refine v_assign rfl ?_
      refine v_assign (c := .v (.int .i64 0)) rfl ?_
      refine v_assign (c := .v (.int .i64 2)) rfl ?_
      refine v_nil ?_
      refine q_n ?_
      refine w_ret (q_r ?_)
      refine r_r rfl ?_
      rw [cmpR_long (s := s) (ls := ls) (by omega)]
      exact l_ans [none] rfl rfl ⟨rfl, trivial⟩ (a_tup (.cons (tr_nil rfl) (.cons tr_v (.cons tr_v .nil))))
    refine v_pick_f rfl rfl ?_
    refine v_nil ?_
    refine q_n ?_
    refine w_f rfl ?_
    refine w_skip ?_
    refine q_n ?_
    refine w_seq ?_
    refine w_reg rfl ?_
    refine v_build [(0, 1), (1, 1), (2, 1)] [.v _, .v _, .v _] lay41 rfl rfl ?_
    refine v_box (m := 1) (H' := [_, _]) lay41 rfl rfl rfl ?_
    refine v_assign rfl ?_
    refine v_nil ?_
    refine q_n ?_
    refine w_seq ?_
    refine w_block ?_
    refine w_loop (fun k sl H => ∃ (i : Nat) (acs : List AD) (os : Stk), Runs ls k i acs os R ∧ i ≤ ls.length ∧ acs.length ≤ 120 ∧ os.length ≤ 2 ∧ (∀ o ∈ os, o.1 ≤ ls.length ∧ o.2 ≤ 15) ∧ sl = sls [(5, .c (.mu 3 0 ls.length 1)), (6, .c (.pt 0 0))] ∧ H = [⟨[.mu 1 0 acs.length 5, .mu 2 0 os.length 2, .v (.int .i64 (i : Int))], 41, true⟩, ⟨flat acE acs, 46, true⟩, ⟨flat opI (opL os), 68, true⟩, ⟨flat st ls, 9, true⟩]) ?_ ?_
    · have hok : ¬ (3000 < s.length ∨ 120 < ls.length) := by omega
      refine ⟨_, _, _, ?_, 0, [], [], hR, Nat.zero_le _, Nat.zero_le _, Nat.zero_le _, (fun o hq => by cases hq), rfl, rfl⟩
      exact turn_t [some 1, none, none, some 0] rfl rfl rfl ⟨⟨_, 3, rfl, .cons (tr_nil rfl) (.cons (tr_nil rfl) (.cons tr_v .nil))⟩, rfl, rfl, ⟨_, _, rfl, trc_all (trc_flat st_sc (congrArg (flat st) hE))⟩, trivial⟩ ⟨tr_mun rfl hn, tr_pt rfl, trivial⟩
    rintro k sl H ⟨i, acs, os, hr, hi, ha, ho, hb, rfl, rfl⟩
    have hok : ¬ (3000 < s.length ∨ 120 < ls.length) := by omega
    refine w_seq ?_
    refine w_seq ?_
    refine w_reg rfl ?_
    refine v_move rfl ?_
    refine v_nil_pt rfl ?_
    refine v_fa_pt (off' := 2) lay41 rfl rfl rfl ?_
    refine v_load_pt (.c _) lay3 rfl rfl rfl rfl ?_
    refine v_move rfl ?_
    refine v_len_mu lay28 rfl ?_
    refine v_lss lay3 rfl rfl (fun h53 => ?_) (fun h53 => ?_)
    rotate_left
    · refine v_nil ?_
      refine q_n ?_
      refine w_f rfl ?_
      refine w_exit ?_
      refine q_e ?_
      refine q_e ?_
      refine q_hit ?_
      refine q_n ?_
      refine w_seq ?_
      refine w_seq ?_
      refine w_reg rfl ?_
      refine v_move rfl ?_
      refine v_nil_pt rfl ?_
      refine v_fa_pt (off' := 1) lay41 rfl rfl rfl ?_
      refine v_load_pt (.c _) lay39 rfl rfl rfl rfl ?_
      refine v_len_mu lay39 rfl ?_
      refine v_gtr lay3 rfl rfl (fun h98 => ?_) (fun h98 => ?_)
      · refine v_nil ?_
        refine q_n ?_
        refine w_t rfl ?_
        refine w_seq ?_
        refine w_reg rfl ?_
        refine v_move rfl ?_
        refine v_len_mu lay28 rfl ?_
        refine v_assign rfl ?_
        refine v_assign rfl ?_
        refine v_assign (c := .v (.int .i64 4)) rfl ?_
        refine v_nil ?_
        refine q_n ?_
        refine w_ret (q_r ?_)
        refine r_r rfl ?_
        rw [(cmpR_ok hok).trans (hr.at_left (by omega) (by rintro rfl; simp at *))]
        exact l_ans [none] rfl rfl ⟨rfl, trivial⟩ (a_tup (.cons (tr_nil rfl) (.cons tr_v (.cons tr_v .nil))))
      refine v_nil ?_
      refine q_n ?_
      refine w_f rfl ?_
      refine w_skip ?_
      refine q_n ?_
      refine w_seq ?_
      refine w_reg rfl ?_
      refine v_move rfl ?_
      refine v_nil_pt rfl ?_
      refine v_fa_pt (off' := 0) lay41 rfl rfl rfl ?_
      refine v_load_pt (.c _) lay22 rfl rfl rfl rfl ?_
      refine v_assign rfl ?_
      refine v_assign (c := .v (.int .i64 0)) rfl ?_
      refine v_assign (c := .v (.int .i64 0)) rfl ?_
      refine v_nil ?_
      refine q_n ?_
      refine w_ret ?_
      refine r_r rfl ?_
      obtain rfl : os = [] := List.eq_nil_of_length_eq_zero (by omega)
      rw [(cmpR_ok hok).trans (hr.at_stop (by omega))]
      exact l_ans [some 1] rfl rfl ⟨⟨_, rfl, trc_flat acE_sc rfl⟩, trivial⟩ (a_tup (.cons (tr_mu rfl) (.cons tr_v (.cons tr_v .nil))))
    have hi1 : i < ls.length := by omega
    obtain ⟨w0, wr, hws⟩ := splitB_cons 32 (ls[i]'hi1)
    have hll := hlp _ (List.getElem_mem hi1)
    have hlen : (w0 :: wr).length = wr.length + 1 := rfl
    have hwp : ∀ w ∈ w0 :: wr, w.length ≤ 1048576 := fun w hw => Nat.le_trans (splitB_part 32 (ls[i]'hi1) w (by rw [hws]; exact hw)) (by omega)
    have hwl : wr.length ≤ 2 ^ 30 := by have := splitB_le 32 (ls[i]'hi1); rw [hws] at this; omega
    have hsp : LiveC X 17 [cS (ls[i]'hi1), cS [32]] (.c (.mu 0 0 (w0 :: wr).length 1)) [⟨flat st (w0 :: wr), 9, true⟩] := hws ▸ cSplit (ls[i]'hi1) 32 (by omega)
    refine v_nil ?_
    refine q_n ?_
    refine w_t rfl ?_
    refine w_skip ?_
    refine q_n ?_
    refine w_block ?_
    refine w_seq ?_
    refine w_reg rfl ?_
    refine v_move rfl ?_
    refine v_nil_pt rfl ?_
    refine v_fa_pt (off' := 2) lay41 rfl rfl rfl ?_
    refine v_load_pt (.c _) lay3 rfl rfl rfl rfl ?_
    refine v_assign rfl ?_
    refine v_nil ?_
    refine q_n ?_
    refine w_seq ?_
    refine w_reg rfl ?_
    refine v_move rfl ?_
    refine v_nil_pt rfl ?_
    refine v_fa_pt (off' := 2) lay41 rfl rfl rfl ?_
    refine v_load_pt (.c _) lay3 rfl rfl rfl rfl ?_
    refine v_add lay3 rfl rfl (i64r (by omega)) ?_
    refine v_nil_pt rfl ?_
    refine v_fa_pt (off' := 2) lay41 rfl rfl rfl ?_
    refine v_store (H' := [⟨[_, _, _], 41, true⟩, _, _, _]) lay3 rfl rfl rfl rfl rfl rfl ?_
    refine v_nil ?_
    refine q_n ?_
    refine w_seq ?_
    refine w_reg rfl ?_
    refine v_move rfl ?_
    refine v_move rfl ?_
    refine v_move rfl ?_
    refine v_idx_mu_e (k := 1) (off := 0) (i) lay28 lay9 rfl rfl rfl (rfl) (hi1) ?_
    refine v_load_flat i 0 (.c (.v _)) st_len lay9 rfl rfl (by omega) (by first | exact hbd | exact hi1 | (simp [opL]; done)) rfl rfl ?_
    refine v_inl (n := 48) (drawD_ok X) (fun _ _ => Go.Proofs.Tryd.call12 _ _) Go.Proofs.Tryd.func12 rfl rfl rfl rfl ?_
    refine w_seq ?_
    refine w_reg rfl ?_
    refine v_assign (c := .v (.int .i64 0)) rfl ?_
    refine v_nil ?_
    refine q_n ?_
    refine w_seq ?_
    refine w_reg rfl ?_
    refine v_move rfl ?_
    refine v_live1 (N := 4) (H' := [_, _, _, _, _]) (hsp) (sc_flat st_sc _) rfl rfl rfl rfl rfl rfl (.cons vw_v (.cons vw_v .nil)) ?_
    refine v_assign rfl ?_
    refine v_nil ?_
    refine q_n ?_
    refine w_seq ?_
    refine w_block ?_
    refine w_seq ?_
    refine w_reg rfl ?_
    refine v_move rfl ?_
    refine v_idx_mu_e (k := 1) (off := 0) (0) lay28 lay9 rfl rfl rfl (rfl) (by simp) ?_
    refine v_load_flat 0 0 (cS w0) st_len lay9 rfl rfl (by omega) (by simp) rfl rfl ?_
    refine v_seql lay9 rfl rfl (fun h56 => ?_) (fun h56 => ?_)
    rotate_left
    · have hw0 : ¬ w0 = timesB := h56
      refine v_assign rfl ?_
      refine v_nil ?_
      refine q_n ?_
      refine w_f rfl ?_
      refine w_seq ?_
      refine w_reg rfl ?_
      refine v_move rfl ?_
      refine v_seql lay9 rfl rfl (fun h83 => ?_) (fun h83 => ?_)
      rotate_left
      · have hwe : ¬ ls[i]'hi1 = endB := h83
        refine v_assign rfl ?_
        refine v_nil ?_
        refine q_n ?_
        refine w_f rfl ?_
        refine w_skip ?_
        refine q_bn ?_
        refine q_n ?_
        refine w_seq ?_
        refine w_reg rfl ?_
        refine v_move rfl ?_
        refine dec_split (p := (rdA w0 wr).isSome = true) (fun h93 => ?_) (fun h93 => ?_)
        rotate_left
        · refine v_call (cRdITF hwp hwl h93) rfl rfl rfl (.cons (vw_mu2 st_sc st_len rfl (by first | (simp; done) | (simp; omega))) .nil) ?_
          refine v_move_t rfl ?_
          refine v_extract_a rfl rfl ?_
          refine v_extract_c rfl rfl ?_
          refine v_alloc (m := 5) (H' := [_, _, _, _, _, ⟨[.v _, .v _, .v _, .v _, .f _ _], 46, true⟩]) lay46 rfl rfl ?_
          refine v_store (H' := [_, _, _, _, _, ⟨[_, _, _, _, _], 46, true⟩]) lay46 rfl rfl rfl rfl rfl rfl ?_
          refine v_assign rfl ?_
          refine v_nil ?_
          refine q_n ?_
          refine w_seq ?_
          refine w_block ?_
          refine w_seq ?_
          refine w_reg rfl ?_
          refine v_move rfl ?_
          refine v_not true rfl rfl ?_
          refine v_assign rfl ?_
          refine v_nil ?_
          refine q_n ?_
          refine w_t rfl ?_
          refine w_seq ?_
          refine w_reg rfl ?_
          refine v_assign (c := .v (.int .i64 5)) rfl ?_
          refine v_nil ?_
          refine q_n ?_
          refine w_ret (q_br (q_r ?_))
          refine r_r rfl ?_
          refine v_assign rfl ?_
          refine v_nil ?_
          refine q_n ?_
          refine w_seq ?_
          refine w_reg rfl ?_
          refine v_move rfl ?_
          refine v_neq lay2 rfl rfl (fun h97 => ?_) (fun h97 => ?_)
          rotate_left
          · exact absurd h97 (by decide)
          refine v_nil ?_
          refine q_n ?_
          refine w_t rfl ?_
          refine w_seq ?_
          refine w_reg rfl ?_
          refine v_move rfl ?_
          refine v_move rfl ?_
          refine v_assign rfl ?_
          refine v_assign rfl ?_
          refine v_assign rfl ?_
          refine v_nil ?_
          refine q_n ?_
          refine w_ret (q_br (q_r (q_br (q_r ?_))))
          refine r_r rfl ?_
          have hst : step (ls[i]'hi1) i acs os = (5, i, acs, os) := (step_at hws).trans (by first | exact sw_t0 hw0 (by omega) | exact sw_t1 hw0 (by assumption) | exact sw_n0 hw0 (end_not hws hwe) (by assumption))
          rw [(cmpR_ok hok).trans (hr.at_err hi1 hst (by decide))]
          exact l_ans [none] rfl rfl ⟨rfl, trivial⟩ (a_tup (.cons (tr_nil rfl) (.cons tr_v (.cons tr_v .nil))))
        refine v_call (cRdIT hwp hwl h93) rfl rfl rfl (.cons (vw_mu2 st_sc st_len rfl (by first | (simp; done) | (simp; omega))) .nil) ?_
        refine v_move_t rfl ?_
        refine v_extract_a rfl rfl ?_
        refine v_extract_c rfl rfl ?_
        refine v_alloc (m := 5) (H' := [_, _, _, _, _, ⟨[.v _, .v _, .v _, .v _, .f _ _], 46, true⟩]) lay46 rfl rfl ?_
        refine v_store (H' := [_, _, _, _, _, ⟨[_, _, _, _, _], 46, true⟩]) lay46 rfl rfl rfl rfl rfl rfl ?_
        refine v_assign rfl ?_
        refine v_nil ?_
        refine q_n ?_
        refine w_seq ?_
        refine w_block ?_
        refine w_seq ?_
        refine w_reg rfl ?_
        refine v_move rfl ?_
        refine v_not false rfl rfl ?_
        refine v_assign rfl ?_
        refine v_nil ?_
        refine q_n ?_
        refine w_f rfl ?_
        refine w_seq ?_
        refine w_reg rfl ?_
        refine v_move rfl ?_
        refine v_nil_pt rfl ?_
        refine v_fa_pt (off' := 0) lay41 rfl rfl rfl ?_
        refine v_load_pt (.c _) lay22 rfl rfl rfl rfl ?_
        refine v_len_mu lay22 rfl ?_
        refine v_eql lay3 rfl rfl (fun h94 => ?_) (fun h94 => ?_)
        · refine v_assign rfl ?_
          refine v_nil ?_
          refine q_n ?_
          refine w_t rfl ?_
          refine w_seq ?_
          refine w_reg rfl ?_
          refine v_assign (c := .v (.int .i64 3)) rfl ?_
          refine v_nil ?_
          refine q_n ?_
          refine w_ret (q_br (q_r ?_))
          refine r_r rfl ?_
          refine v_assign rfl ?_
          refine v_nil ?_
          refine q_n ?_
          refine w_seq ?_
          refine w_reg rfl ?_
          refine v_move rfl ?_
          refine v_neq lay2 rfl rfl (fun h95 => ?_) (fun h95 => ?_)
          rotate_left
          · exact absurd h95 (by decide)
          refine v_nil ?_
          refine q_n ?_
          refine w_t rfl ?_
          refine w_seq ?_
          refine w_reg rfl ?_
          refine v_move rfl ?_
          refine v_move rfl ?_
          refine v_assign rfl ?_
          refine v_assign rfl ?_
          refine v_assign rfl ?_
          refine v_nil ?_
          refine q_n ?_
          refine w_ret (q_br (q_r (q_br (q_r ?_))))
          refine r_r rfl ?_
          have hst : step (ls[i]'hi1) i acs os = (3, i, acs, os) := (step_at hws).trans (by first | exact sw_t3 hw0 (by assumption) (by omega) (by omega) | exact sw_a1 hw0 (some_no (by assumption)) (by assumption) (by omega))
          rw [(cmpR_ok hok).trans (hr.at_err hi1 hst (by decide))]
          exact l_ans [none] rfl rfl ⟨rfl, trivial⟩ (a_tup (.cons (tr_nil rfl) (.cons tr_v (.cons tr_v .nil))))
        refine v_assign rfl ?_
        refine v_nil ?_
        refine q_n ?_
        refine w_f rfl ?_
        refine w_skip ?_
        refine q_bn ?_
        refine q_n ?_
        refine w_seq ?_
        refine w_draw [0, 0, 2, 6, 14, 0, 32, 126, 255, 511, 1023] [⟨0, 0, []⟩, ⟨1, 0, []⟩, ⟨2, 0, []⟩, ⟨3, 0, []⟩, ⟨4, 0, []⟩, ⟨5, 0, []⟩, ⟨6, 2, []⟩, ⟨7, 1, []⟩, ⟨8, 0, []⟩, ⟨9, 0, []⟩, ⟨10, 1, []⟩] rfl rfl ?_
        refine d_q rfl rfl rfl rfl rfl ?_
        refine v_move rfl ?_
        refine v_nil ?_
        refine d_q rfl rfl rfl rfl rfl ?_
        refine v_move rfl ?_
        refine v_nil ?_
        refine d_q rfl rfl rfl rfl rfl ?_
        refine v_nil_pt rfl ?_
        refine v_nil ?_
        refine d_q rfl rfl rfl rfl rfl ?_
        refine v_fa_pt (off' := 0) lay41 rfl rfl rfl ?_
        refine v_nil ?_
        refine d_q rfl rfl rfl rfl rfl ?_
        refine v_load_pt (.c _) lay22 rfl rfl rfl rfl ?_
        refine v_nil ?_
        refine d_q rfl rfl rfl rfl rfl ?_
        refine v_load_pt (.agg [_, _, _, _, _]) lay46 rfl rfl rfl rfl ?_
        refine v_nil ?_
        refine d_z (.c (.sl true 1 5 (flat acE [gA w0 wr]))) rfl rfl rfl ?_
        refine d_e rfl rfl rfl ?_
        refine v_app_flat_sl (H' := [_, _, _, _, _, _, _]) acE_sc acE_len lay22 lay46 rfl rfl (by first | rfl | (simp [opL]; done)) rfl rfl rfl (by unfold maxLen; simp only []; omega) rfl rfl ?_
        refine v_nil ⟨again_nil, ?_⟩
        refine d_q rfl rfl rfl rfl rfl ?_
        refine v_nil_pt rfl ?_
        refine v_nil ?_
        refine d_q rfl rfl rfl rfl rfl ?_
        refine v_fa_pt (off' := 0) lay41 rfl rfl rfl ?_
        refine v_nil ?_
        refine d_e rfl rfl rfl ?_
        refine v_store (H' := [⟨[_, _, _], 41, true⟩, _, _, _, _, _, _]) lay22 rfl rfl rfl rfl rfl rfl ?_
        refine v_nil ⟨again_nil, ?_⟩
        refine d_nil ?_
        refine q_n ?_
        refine w_seq ?_
        refine w_reg rfl ?_
        refine v_assign (c := .v (.int .i64 0)) rfl ?_
        refine v_nil ?_
        refine q_n ?_
        refine w_ret ?_
        refine r_r rfl ?_
        refine v_assign rfl ?_
        refine v_nil ?_
        refine q_n ?_
        refine w_seq ?_
        refine w_reg rfl ?_
        refine v_move rfl ?_
        refine v_neq lay2 rfl rfl (fun h96 => ?_) (fun h96 => ?_)
        · exact absurd (by decide) h96
        refine v_nil ?_
        refine q_n ?_
        refine w_f rfl ?_
        refine w_skip ?_
        refine q_bn ?_
        refine q_n ?_
        obtain ⟨m, hlt, hm⟩ := hr.at_go hi1 ((step_at hws).trans (sw_a hw0 (some_no (by assumption)) (by assumption) (by omega)))
        refine ⟨_, _, _, ?_, ⟨i + 1, acs ++ [gA w0 wr], os, hm, by omega, by rw [List.length_append]; show acs.length + 1 ≤ 120; omega, ho, hb, rfl, rfl⟩, hlt⟩
        exact turn [some 0, some 6, some 2, some 3] rfl rfl rfl ⟨⟨_, rfl, .cons (tr_mun rfl (by simp)) (.cons (tr_mu rfl) (.cons tr_v .nil))⟩, ⟨_, rfl, trc_flat acE_sc rfl⟩, ⟨_, rfl, trc_flat opI_sc rfl⟩, ⟨_, rfl, trc_flat st_sc rfl⟩, trivial⟩ ⟨tr_mu rfl, tr_pt rfl, trivial⟩
      have hwe := end_is hws h83
      refine v_assign rfl ?_
      refine v_nil ?_
      refine q_n ?_
      refine w_t rfl ?_
      refine w_seq ?_
      refine w_reg rfl ?_
      refine v_move rfl ?_
      refine v_inl (n := 52) (drawD_ok X) (fun _ _ => Go.Proofs.Tryd.call19 _ _) Go.Proofs.Tryd.func19 rfl rfl rfl rfl ?_
      refine w_seq ?_
      refine w_reg rfl ?_
      refine v_assign (c := .v (.int .i64 0)) rfl ?_
      refine v_nil ?_
      refine q_n ?_
      refine w_seq ?_
      refine w_reg rfl ?_
      refine v_move rfl ?_
      refine v_nil_pt rfl ?_
      refine v_fa_pt (off' := 1) lay41 rfl rfl rfl ?_
      refine v_load_pt (.c _) lay39 rfl rfl rfl rfl ?_
      refine v_len_mu lay39 rfl ?_
      refine v_sub lay3 rfl rfl (i64r (by omega)) ?_
      refine v_assign rfl ?_
      refine v_nil ?_
      refine q_n ?_
      refine w_seq ?_
      refine w_seq ?_
      refine w_reg rfl ?_
      refine v_move rfl ?_
      refine v_lss lay3 rfl rfl (fun h84 => ?_) (fun h84 => ?_)
      · refine v_nil ?_
        refine q_n ?_
        refine w_t rfl ?_
        refine w_seq ?_
        refine w_reg rfl ?_
        refine v_assign (c := .v (.int .i64 4)) rfl ?_
        refine v_nil ?_
        refine q_n ?_
        refine w_ret (q_r ?_)
        refine r_r rfl ?_
        refine v_assign rfl ?_
        refine v_nil ?_
        refine q_n ?_
        refine w_ret (q_br (q_r ?_))
        refine r_r rfl ?_
        refine v_assign rfl ?_
        refine v_nil ?_
        refine q_n ?_
        refine w_seq ?_
        refine w_reg rfl ?_
        refine v_move rfl ?_
        refine v_neq lay2 rfl rfl (fun h85 => ?_) (fun h85 => ?_)
        rotate_left
        · exact absurd h85 (by decide)
        refine v_nil ?_
        refine q_n ?_
        refine w_t rfl ?_
        refine w_seq ?_
        refine w_reg rfl ?_
        refine v_move rfl ?_
        refine v_move rfl ?_
        refine v_assign rfl ?_
        refine v_assign rfl ?_
        refine v_assign rfl ?_
        refine v_nil ?_
        refine q_n ?_
        refine w_ret (q_br (q_r (q_br (q_r ?_))))
        refine r_r rfl ?_
        have hst : step (ls[i]'hi1) i acs os = (4, i, acs, os) := (step_at hws).trans (by first | exact sw_e1 hw0 hwe.1 hwe.2 (List.eq_nil_of_length_eq_zero (by omega)))
        rw [(cmpR_ok hok).trans (hr.at_err hi1 hst (by decide))]
        exact l_ans [none] rfl rfl ⟨rfl, trivial⟩ (a_tup (.cons (tr_nil rfl) (.cons tr_v (.cons tr_v .nil))))
      obtain ⟨o1, f, n, rfl⟩ := stk_snoc (os := os) (by omega)
      have hol : (o1 ++ [(f, n)]).length = o1.length + 1 := by simp
      have hfi := (hb (f, n) (by simp)).1
      have hnb := (hb (f, n) (by simp)).2
      have hbo : o1.length < (opL (o1 ++ [(f, n)])).length := by simp [opL]
      refine v_nil ?_
      refine q_n ?_
      refine w_f rfl ?_
      refine w_skip ?_
      refine q_n ?_
      refine w_seq ?_
      refine w_seq ?_
      refine w_reg rfl ?_
      refine v_move rfl ?_
      refine v_nil_pt rfl ?_
      refine v_fa_pt (off' := 1) lay41 rfl rfl rfl ?_
      refine v_load_pt (.c _) lay39 rfl rfl rfl rfl ?_
      refine v_move rfl ?_
      refine v_idx_mu_e (k := 2) (off := 0) (o1.length) lay39 lay68 rfl rfl rfl (by omega) (by omega) ?_
      refine v_fa_pt (off' := _) lay68 rfl rfl rfl ?_
      refine v_load_flat o1.length 1 (.c (.v _)) opI_len lay2 rfl rfl (by omega) (by first | exact hbd | exact hi1 | (simp [opL]; done)) rfl rfl ?_
      refine v_sub lay2 rfl rfl (i64r (by rw [op_last]; omega)) ?_
      refine v_idx_mu_e (k := 2) (off := 0) (o1.length) lay39 lay68 rfl rfl rfl (by omega) (by omega) ?_
      refine v_fa_pt (off' := _) lay68 rfl rfl rfl ?_
      refine v_store_flat (H' := [_, _, _, _, _]) o1.length 1 ((((opL (o1 ++ [(f, n)]))[o1.length]'hbo).1, ((opL (o1 ++ [(f, n)]))[o1.length]'hbo).2 - 1)) opI_len lay2 rfl rfl rfl (by omega) (by first | exact hbd | exact hi1 | (simp [opL]; done)) rfl rfl (rfl) rfl ?_
      refine v_nil ?_
      refine q_n ?_
      refine w_seq ?_
      refine w_reg rfl ?_
      refine v_move rfl ?_
      refine v_nil_pt rfl ?_
      refine v_fa_pt (off' := 1) lay41 rfl rfl rfl ?_
      refine v_load_pt (.c _) lay39 rfl rfl rfl rfl ?_
      refine v_move rfl ?_
      refine v_idx_mu_e (k := 2) (off := 0) (o1.length) lay39 lay68 rfl rfl rfl (by omega) (by omega) ?_
      refine v_fa_pt (off' := _) lay68 rfl rfl rfl ?_
      refine v_load_flat o1.length 1 (.c (.v _)) opI_len lay2 rfl rfl (by omega) (by first | exact hbd | exact hi1 | (simp [opL]; done)) rfl rfl ?_
      refine v_gtr lay2 rfl rfl (fun h89 => ?_) (fun h89 => ?_)
      rotate_left
      · have hl0 : ¬ 0 < n := by have hq := h89; rw [List.getElem_set_self, op_last] at hq; simp only at hq; omega
        refine v_nil ?_
        refine q_n ?_
        refine w_f rfl ?_
        refine w_reg rfl ?_
        refine v_move rfl ?_
        refine v_move rfl ?_
        refine v_nil_pt rfl ?_
        refine v_fa_pt (off' := 1) lay41 rfl rfl rfl ?_
        refine v_load_pt (.c _) lay39 rfl rfl rfl rfl ?_
        refine v_move rfl ?_
        refine v_slice_mu (0) (o1.length) lay39 lay68 rfl rfl rfl rfl (rfl) (by omega) (⟨by omega, by omega⟩) (.inl rfl) ?_
        refine v_nil_pt rfl ?_
        refine v_fa_pt (off' := 1) lay41 rfl rfl rfl ?_
        refine v_store (H' := [⟨[_, _, _], 41, true⟩, _, _, _, _]) lay39 rfl rfl rfl rfl rfl rfl ?_
        refine v_nil ?_
        refine q_n ?_
        refine w_seq ?_
        refine w_reg rfl ?_
        refine v_assign (c := .v (.int .i64 0)) rfl ?_
        refine v_nil ?_
        refine q_n ?_
        refine w_ret ?_
        refine r_r rfl ?_
        refine v_assign rfl ?_
        refine v_nil ?_
        refine q_n ?_
        refine w_ret (q_br (q_r ?_))
        refine r_r rfl ?_
        refine v_assign rfl ?_
        refine v_nil ?_
        refine q_n ?_
        refine w_seq ?_
        refine w_reg rfl ?_
        refine v_move rfl ?_
        refine v_neq lay2 rfl rfl (fun h92 => ?_) (fun h92 => ?_)
        · exact absurd (by decide) h92
        refine v_nil ?_
        refine q_n ?_
        refine w_f rfl ?_
        refine w_skip ?_
        refine q_bn ?_
        refine q_n ?_
        obtain ⟨m, hlt, hm⟩ := hr.at_go hi1 ((step_at hws).trans (sw_e3 hw0 hwe.1 hwe.2 hl0))
        refine ⟨_, _, _, ?_, ⟨i + 1, acs, o1, hm, by omega, ha, by omega, fun o hq => hb o (List.mem_append_left _ hq), rfl, rfl⟩, hlt⟩
        exact turn_t [some 0, some 1, some 2, some 3] rfl rfl rfl ⟨⟨_, 3, rfl, .cons (tr_mu rfl) (.cons (tr_mun rfl (by omega)) (.cons tr_v .nil))⟩, ⟨_, _, rfl, trc_all (trc_flat acE_sc rfl)⟩, ⟨_, _, rfl, op_cut⟩, ⟨_, _, rfl, trc_all (trc_flat st_sc rfl)⟩, trivial⟩ ⟨tr_mu rfl, tr_pt rfl, trivial⟩
      have hl0 : 0 < n := by have hq := h89; rw [List.getElem_set_self, op_last] at hq; simp only at hq; omega
      refine v_nil ?_
      refine q_n ?_
      refine w_t rfl ?_
      refine w_reg rfl ?_
      refine v_move rfl ?_
      refine v_move rfl ?_
      refine v_nil_pt rfl ?_
      refine v_fa_pt (off' := 1) lay41 rfl rfl rfl ?_
      refine v_load_pt (.c _) lay39 rfl rfl rfl rfl ?_
      refine v_move rfl ?_
      refine v_idx_mu_e (k := 2) (off := 0) (o1.length) lay39 lay68 rfl rfl rfl (by omega) (by omega) ?_
      refine v_fa_pt (off' := _) lay68 rfl rfl rfl ?_
      refine v_load_flat o1.length 0 (.c (.v _)) opI_len lay3 rfl rfl (by omega) (by first | exact hbd | exact hi1 | (simp [opL]; done)) rfl rfl ?_
      refine v_nil_pt rfl ?_
      refine v_fa_pt (off' := 2) lay41 rfl rfl rfl ?_
      refine v_store (H' := [⟨[_, _, _], 41, true⟩, _, _, _, _]) lay3 rfl rfl rfl rfl rfl rfl ?_
      refine v_nil ?_
      refine q_n ?_
      refine w_seq ?_
      refine w_reg rfl ?_
      refine v_assign (c := .v (.int .i64 0)) rfl ?_
      refine v_nil ?_
      refine q_n ?_
      refine w_ret ?_
      refine r_r rfl ?_
      refine v_assign rfl ?_
      refine v_nil ?_
      refine q_n ?_
      refine w_ret (q_br (q_r ?_))
      refine r_r rfl ?_
      refine v_assign rfl ?_
      refine v_nil ?_
      refine q_n ?_
      refine w_seq ?_
      refine w_reg rfl ?_
      refine v_move rfl ?_
      refine v_neq lay2 rfl rfl (fun h91 => ?_) (fun h91 => ?_)
      · exact absurd (by decide) h91
      refine v_nil ?_
      refine q_n ?_
      refine w_f rfl ?_
      refine w_skip ?_
      refine q_bn ?_
      refine q_n ?_
      obtain ⟨m, hlt, hm⟩ := hr.at_go hi1 ((step_at hws).trans (sw_e2 hw0 hwe.1 hwe.2 hl0))
      have hbl := hb (f, n) (by simp)
      refine ⟨_, _, _, ?_, ⟨f, acs, o1 ++ [(f, n - 1)], hm, hfi, ha, by simp only [List.length_append, List.length_cons, List.length_nil]; omega, ?_, rfl, rfl⟩, hlt⟩
      · exact turn [some 0, some 1, some 2, some 3] rfl rfl rfl ⟨⟨_, rfl, .cons (tr_mu rfl) (.cons (tr_mun rfl (by simp)) (.cons (tr_i (by rw [List.getElem_set_self, op_last])) .nil))⟩, ⟨_, rfl, trc_flat acE_sc rfl⟩, ⟨_, rfl, trc_flat opI_sc (congrArg (flat opI) (op_dec hl0 (by rw [op_last]; simp)))⟩, ⟨_, rfl, trc_flat st_sc rfl⟩, trivial⟩ ⟨tr_mu rfl, tr_pt rfl, trivial⟩
      · intro o hq
        rcases List.mem_append.1 hq with hq | hq
        · exact hb o (List.mem_append_left _ hq)
        · obtain rfl : o = (f, n - 1) := by simpa using hq
          exact ⟨hbl.1, by show n - 1 ≤ 15; have := hbl.2; omega⟩
    have hw0 : w0 = timesB := h56
    refine v_assign rfl ?_
    refine v_nil ?_
    refine q_n ?_
    refine w_t rfl ?_
    refine w_seq ?_
    refine w_reg rfl ?_
    refine v_move rfl ?_
    refine v_move rfl ?_
    refine v_inl (n := 52) (drawD_ok X) (fun _ _ => Go.Proofs.Tryd.call18 _ _) Go.Proofs.Tryd.func18 rfl rfl rfl rfl ?_
    refine w_seq ?_
    refine w_reg rfl ?_
    refine v_assign (c := .v (.int .i64 0)) rfl ?_
    refine v_nil ?_
    refine q_n ?_
    refine w_seq ?_
    refine w_seq ?_
    refine w_reg rfl ?_
    refine v_move rfl ?_
    refine v_len_mu lay28 rfl ?_
    refine v_neq lay3 rfl rfl (fun h57 => ?_) (fun h57 => ?_)
    · refine v_nil ?_
      refine q_n ?_
      refine w_t rfl ?_
      refine w_seq ?_
      refine w_reg rfl ?_
      refine v_assign (c := .v (.int .i64 5)) rfl ?_
      refine v_nil ?_
      refine q_n ?_
      refine w_ret (q_r ?_)
      refine r_r rfl ?_
      refine v_assign rfl ?_
      refine v_nil ?_
      refine q_n ?_
      refine w_ret (q_br (q_r ?_))
      refine r_r rfl ?_
      refine v_assign rfl ?_
      refine v_nil ?_
      refine q_n ?_
      refine w_seq ?_
      refine w_reg rfl ?_
      refine v_move rfl ?_
      refine v_neq lay2 rfl rfl (fun h58 => ?_) (fun h58 => ?_)
      rotate_left
      · exact absurd h58 (by decide)
      refine v_nil ?_
      refine q_n ?_
      refine w_t rfl ?_
      refine w_seq ?_
      refine w_reg rfl ?_
      refine v_move rfl ?_
      refine v_move rfl ?_
      refine v_assign rfl ?_
      refine v_assign rfl ?_
      refine v_assign rfl ?_
      refine v_nil ?_
      refine q_n ?_
      refine w_ret (q_br (q_r (q_br (q_r ?_))))
      refine r_r rfl ?_
      have hst : step (ls[i]'hi1) i acs os = (5, i, acs, os) := (step_at hws).trans (by first | exact sw_t0 hw0 (by omega) | exact sw_t1 hw0 (by assumption) | exact sw_n0 hw0 (end_not hws hwe) (by assumption))
      rw [(cmpR_ok hok).trans (hr.at_err hi1 hst (by decide))]
      exact l_ans [none] rfl rfl ⟨rfl, trivial⟩ (a_tup (.cons (tr_nil rfl) (.cons tr_v (.cons tr_v .nil))))
    obtain ⟨w, rfl⟩ : ∃ w, wr = [w] := len_one (by omega)
    refine v_nil ?_
    refine q_n ?_
    refine w_f rfl ?_
    refine w_skip ?_
    refine q_n ?_
    refine w_seq ?_
    refine w_reg rfl ?_
    refine v_move rfl ?_
    refine v_idx_mu_e (k := 1) (off := 0) (1) lay28 lay9 rfl rfl rfl (rfl) (Nat.le_refl 2) ?_
    refine v_load_flat 1 0 (cS w) st_len lay9 rfl rfl (by omega) (by simp) rfl rfl ?_
    refine dec_split (p := wh 3 w) (fun h60 => ?_) (fun h60 => ?_)
    rotate_left
    · refine v_call (cWiF (by decide) (hwp w (by simp)) h60) rfl rfl rfl (.cons vw_v (.cons vw_v .nil)) ?_
      refine v_move_t rfl ?_
      refine v_extract_c rfl rfl ?_
      refine v_extract_c rfl rfl ?_
      refine v_assign rfl ?_
      refine v_assign rfl ?_
      refine v_nil ?_
      refine q_n ?_
      refine w_seq ?_
      refine w_seq ?_
      refine w_draw [0, 1, 3, 0, 15, 31, 63, 0, 128, 384, 896, 1920, 3968, 8191, 16383, 32767, 65535] [⟨0, 0, []⟩, ⟨1, 0, []⟩, ⟨2, 0, []⟩, ⟨3, 0, []⟩, ⟨4, 0, []⟩, ⟨5, 0, []⟩, ⟨6, 0, []⟩, ⟨7, 0, []⟩, ⟨8, 0, []⟩, ⟨9, 0, []⟩, ⟨10, 0, []⟩, ⟨11, 0, []⟩, ⟨12, 0, []⟩, ⟨13, 0, []⟩, ⟨14, 2, []⟩, ⟨15, 0, []⟩, ⟨16, 0, []⟩] rfl rfl ?_
      refine d_q rfl rfl rfl rfl rfl ?_
      refine v_move rfl ?_
      refine v_nil ?_
      refine d_q rfl rfl rfl rfl rfl ?_
      refine v_not true rfl rfl ?_
      refine v_nil ?_
      refine d_call (cCodeIf _ _) rfl rfl rfl rfl rfl (.cons vw_v (.cons vw_v .nil)) ?_
      refine d_q rfl rfl rfl rfl rfl ?_
      refine v_move rfl ?_
      refine v_nil ?_
      refine d_callb (cInR _ _ _) rfl rfl rfl rfl (.cons vw_v (.cons vw_v (.cons vw_v .nil))) (fun h72 => ?_) (fun h72 => ?_)
      rotate_left
      · refine d_q rfl rfl rfl rfl rfl ?_
        refine v_not true rfl rfl ?_
        refine v_nil ?_
        refine d_call (cCodeIf _ _) rfl rfl rfl rfl rfl (.cons vw_v (.cons vw_v .nil)) ?_
        refine d_q rfl rfl rfl rfl rfl ?_
        refine v_move rfl ?_
        refine v_nil ?_
        refine d_q rfl rfl rfl rfl rfl ?_
        refine v_nil_pt rfl ?_
        refine v_nil ?_
        refine d_q rfl rfl rfl rfl rfl ?_
        refine v_fa_pt (off' := 1) lay41 rfl rfl rfl ?_
        refine v_nil ?_
        refine d_q rfl rfl rfl rfl rfl ?_
        refine v_load_pt (.c _) lay39 rfl rfl rfl rfl ?_
        refine v_nil ?_
        refine d_q rfl rfl rfl rfl rfl ?_
        refine v_len_mu lay39 rfl ?_
        refine v_nil ?_
        refine d_q rfl rfl rfl rfl rfl ?_
        refine v_eql lay3 rfl rfl (fun h78 => ?_) (fun h78 => ?_)
        · refine v_nil ?_
          refine d_call (cCodeIf _ _) rfl rfl rfl rfl rfl (.cons vw_v (.cons vw_v .nil)) ?_
          refine d_z (.c (.sl true 3 1 (flat int [_, _, _]))) rfl rfl rfl ?_
          refine d_call (cFirst [_, _, _] (Nat.le_of_ble_eq_true rfl)) rfl rfl rfl rfl rfl (.cons vw_sl .nil) ?_
          refine d_q rfl rfl rfl rfl rfl ?_
          refine v_assign rfl ?_
          refine v_nil ?_
          refine d_nil ?_
          refine q_n ?_
          refine w_seq ?_
          refine w_reg rfl ?_
          refine v_move rfl ?_
          refine v_neq lay2 rfl rfl (fun h79 => ?_) (fun h79 => ?_)
          rotate_left
          · exact absurd h79 (by decide)
          refine v_nil ?_
          refine q_n ?_
          refine w_t rfl ?_
          refine w_seq ?_
          refine w_reg rfl ?_
          refine v_move rfl ?_
          refine v_assign rfl ?_
          refine v_nil ?_
          refine q_n ?_
          refine w_ret (q_r ?_)
          refine r_r rfl ?_
          refine v_assign rfl ?_
          refine v_nil ?_
          refine q_n ?_
          refine w_ret (q_br (q_r ?_))
          refine r_r rfl ?_
          refine v_assign rfl ?_
          refine v_nil ?_
          refine q_n ?_
          refine w_seq ?_
          refine w_reg rfl ?_
          refine v_move rfl ?_
          refine v_neq lay2 rfl rfl (fun h80 => ?_) (fun h80 => ?_)
          rotate_left
          · exact absurd h80 (by decide)
          refine v_nil ?_
          refine q_n ?_
          refine w_t rfl ?_
          refine w_seq ?_
          refine w_reg rfl ?_
          refine v_move rfl ?_
          refine v_move rfl ?_
          refine v_assign rfl ?_
          refine v_assign rfl ?_
          refine v_assign rfl ?_
          refine v_nil ?_
          refine q_n ?_
          refine w_ret (q_br (q_r (q_br (q_r ?_))))
          refine r_r rfl ?_
          have hst : step (ls[i]'hi1) i acs os = (5, i, acs, os) := (step_at hws).trans (by first | exact sw_t0 hw0 (by omega) | exact sw_t1 hw0 (by assumption) | exact sw_n0 hw0 (end_not hws hwe) (by assumption))
          rw [(cmpR_ok hok).trans (hr.at_err hi1 hst (by decide))]
          exact l_ans [none] rfl rfl ⟨rfl, trivial⟩ (a_tup (.cons (tr_nil rfl) (.cons tr_v (.cons tr_v .nil))))
        refine v_nil ?_
        refine d_call (cCodeIf _ _) rfl rfl rfl rfl rfl (.cons vw_v (.cons vw_v .nil)) ?_
        refine d_z (.c (.sl true 3 1 (flat int [_, _, _]))) rfl rfl rfl ?_
        refine d_call (cFirst [_, _, _] (Nat.le_of_ble_eq_true rfl)) rfl rfl rfl rfl rfl (.cons vw_sl .nil) ?_
        refine d_q rfl rfl rfl rfl rfl ?_
        refine v_assign rfl ?_
        refine v_nil ?_
        refine d_nil ?_
        refine q_n ?_
        refine w_seq ?_
        refine w_reg rfl ?_
        refine v_move rfl ?_
        refine v_neq lay2 rfl rfl (fun h81 => ?_) (fun h81 => ?_)
        rotate_left
        · exact absurd h81 (by decide)
        refine v_nil ?_
        refine q_n ?_
        refine w_t rfl ?_
        refine w_seq ?_
        refine w_reg rfl ?_
        refine v_move rfl ?_
        refine v_assign rfl ?_
        refine v_nil ?_
        refine q_n ?_
        refine w_ret (q_r ?_)
        refine r_r rfl ?_
        refine v_assign rfl ?_
        refine v_nil ?_
        refine q_n ?_
        refine w_ret (q_br (q_r ?_))
        refine r_r rfl ?_
        refine v_assign rfl ?_
        refine v_nil ?_
        refine q_n ?_
        refine w_seq ?_
        refine w_reg rfl ?_
        refine v_move rfl ?_
        refine v_neq lay2 rfl rfl (fun h82 => ?_) (fun h82 => ?_)
        rotate_left
        · exact absurd h82 (by decide)
        refine v_nil ?_
        refine q_n ?_
        refine w_t rfl ?_
        refine w_seq ?_
        refine w_reg rfl ?_
        refine v_move rfl ?_
        refine v_move rfl ?_
        refine v_assign rfl ?_
        refine v_assign rfl ?_
        refine v_assign rfl ?_
        refine v_nil ?_
        refine q_n ?_
        refine w_ret (q_br (q_r (q_br (q_r ?_))))
        refine r_r rfl ?_
        have hst : step (ls[i]'hi1) i acs os = (5, i, acs, os) := (step_at hws).trans (by first | exact sw_t0 hw0 (by omega) | exact sw_t1 hw0 (by assumption) | exact sw_n0 hw0 (end_not hws hwe) (by assumption))
        rw [(cmpR_ok hok).trans (hr.at_err hi1 hst (by decide))]
        exact l_ans [none] rfl rfl ⟨rfl, trivial⟩ (a_tup (.cons (tr_nil rfl) (.cons tr_v (.cons tr_v .nil))))
      refine d_q rfl rfl rfl rfl rfl ?_
      refine v_not false rfl rfl ?_
      refine v_nil ?_
      refine d_call (cCodeIf _ _) rfl rfl rfl rfl rfl (.cons vw_v (.cons vw_v .nil)) ?_
      refine d_q rfl rfl rfl rfl rfl ?_
      refine v_move rfl ?_
      refine v_nil ?_
      refine d_q rfl rfl rfl rfl rfl ?_
      refine v_nil_pt rfl ?_
      refine v_nil ?_
      refine d_q rfl rfl rfl rfl rfl ?_
      refine v_fa_pt (off' := 1) lay41 rfl rfl rfl ?_
      refine v_nil ?_
      refine d_q rfl rfl rfl rfl rfl ?_
      refine v_load_pt (.c _) lay39 rfl rfl rfl rfl ?_
      refine v_nil ?_
      refine d_q rfl rfl rfl rfl rfl ?_
      refine v_len_mu lay39 rfl ?_
      refine v_nil ?_
      refine d_q rfl rfl rfl rfl rfl ?_
      refine v_eql lay3 rfl rfl (fun h73 => ?_) (fun h73 => ?_)
      · refine v_nil ?_
        refine d_call (cCodeIf _ _) rfl rfl rfl rfl rfl (.cons vw_v (.cons vw_v .nil)) ?_
        refine d_z (.c (.sl true 3 1 (flat int [_, _, _]))) rfl rfl rfl ?_
        refine d_call (cFirst [_, _, _] (Nat.le_of_ble_eq_true rfl)) rfl rfl rfl rfl rfl (.cons vw_sl .nil) ?_
        refine d_q rfl rfl rfl rfl rfl ?_
        refine v_assign rfl ?_
        refine v_nil ?_
        refine d_nil ?_
        refine q_n ?_
        refine w_seq ?_
        refine w_reg rfl ?_
        refine v_move rfl ?_
        refine v_neq lay2 rfl rfl (fun h74 => ?_) (fun h74 => ?_)
        rotate_left
        · exact absurd h74 (by decide)
        refine v_nil ?_
        refine q_n ?_
        refine w_t rfl ?_
        refine w_seq ?_
        refine w_reg rfl ?_
        refine v_move rfl ?_
        refine v_assign rfl ?_
        refine v_nil ?_
        refine q_n ?_
        refine w_ret (q_r ?_)
        refine r_r rfl ?_
        refine v_assign rfl ?_
        refine v_nil ?_
        refine q_n ?_
        refine w_ret (q_br (q_r ?_))
        refine r_r rfl ?_
        refine v_assign rfl ?_
        refine v_nil ?_
        refine q_n ?_
        refine w_seq ?_
        refine w_reg rfl ?_
        refine v_move rfl ?_
        refine v_neq lay2 rfl rfl (fun h75 => ?_) (fun h75 => ?_)
        rotate_left
        · exact absurd h75 (by decide)
        refine v_nil ?_
        refine q_n ?_
        refine w_t rfl ?_
        refine w_seq ?_
        refine w_reg rfl ?_
        refine v_move rfl ?_
        refine v_move rfl ?_
        refine v_assign rfl ?_
        refine v_assign rfl ?_
        refine v_assign rfl ?_
        refine v_nil ?_
        refine q_n ?_
        refine w_ret (q_br (q_r (q_br (q_r ?_))))
        refine r_r rfl ?_
        have hst : step (ls[i]'hi1) i acs os = (5, i, acs, os) := (step_at hws).trans (by first | exact sw_t0 hw0 (by omega) | exact sw_t1 hw0 (by assumption) | exact sw_n0 hw0 (end_not hws hwe) (by assumption))
        rw [(cmpR_ok hok).trans (hr.at_err hi1 hst (by decide))]
        exact l_ans [none] rfl rfl ⟨rfl, trivial⟩ (a_tup (.cons (tr_nil rfl) (.cons tr_v (.cons tr_v .nil))))
      refine v_nil ?_
      refine d_call (cCodeIf _ _) rfl rfl rfl rfl rfl (.cons vw_v (.cons vw_v .nil)) ?_
      refine d_z (.c (.sl true 3 1 (flat int [_, _, _]))) rfl rfl rfl ?_
      refine d_call (cFirst [_, _, _] (Nat.le_of_ble_eq_true rfl)) rfl rfl rfl rfl rfl (.cons vw_sl .nil) ?_
      refine d_q rfl rfl rfl rfl rfl ?_
      refine v_assign rfl ?_
      refine v_nil ?_
      refine d_nil ?_
      refine q_n ?_
      refine w_seq ?_
      refine w_reg rfl ?_
      refine v_move rfl ?_
      refine v_neq lay2 rfl rfl (fun h76 => ?_) (fun h76 => ?_)
      rotate_left
      · exact absurd h76 (by decide)
      refine v_nil ?_
      refine q_n ?_
      refine w_t rfl ?_
      refine w_seq ?_
      refine w_reg rfl ?_
      refine v_move rfl ?_
      refine v_assign rfl ?_
      refine v_nil ?_
      refine q_n ?_
      refine w_ret (q_r ?_)
      refine r_r rfl ?_
      refine v_assign rfl ?_
      refine v_nil ?_
      refine q_n ?_
      refine w_ret (q_br (q_r ?_))
      refine r_r rfl ?_
      refine v_assign rfl ?_
      refine v_nil ?_
      refine q_n ?_
      refine w_seq ?_
      refine w_reg rfl ?_
      refine v_move rfl ?_
      refine v_neq lay2 rfl rfl (fun h77 => ?_) (fun h77 => ?_)
      rotate_left
      · exact absurd h77 (by decide)
      refine v_nil ?_
      refine q_n ?_
      refine w_t rfl ?_
      refine w_seq ?_
      refine w_reg rfl ?_
      refine v_move rfl ?_
      refine v_move rfl ?_
      refine v_assign rfl ?_
      refine v_assign rfl ?_
      refine v_assign rfl ?_
      refine v_nil ?_
      refine q_n ?_
      refine w_ret (q_br (q_r (q_br (q_r ?_))))
      refine r_r rfl ?_
      have hst : step (ls[i]'hi1) i acs os = (5, i, acs, os) := (step_at hws).trans (by first | exact sw_t0 hw0 (by omega) | exact sw_t1 hw0 (by assumption) | exact sw_n0 hw0 (end_not hws hwe) (by assumption))
      rw [(cmpR_ok hok).trans (hr.at_err hi1 hst (by decide))]
      exact l_ans [none] rfl rfl ⟨rfl, trivial⟩ (a_tup (.cons (tr_nil rfl) (.cons tr_v (.cons tr_v .nil))))
    refine v_call (cWiT (by decide) (hwp w (by simp)) h60) rfl rfl rfl (.cons vw_v (.cons vw_v .nil)) ?_
    refine v_move_t rfl ?_
    refine v_extract_c rfl rfl ?_
    refine v_extract_c rfl rfl ?_
    refine v_assign rfl ?_
    refine v_assign rfl ?_
    refine v_nil ?_
    refine q_n ?_
    refine w_seq ?_
    refine w_seq ?_
    refine w_draw [0, 1, 3, 0, 15, 31, 63, 0, 128, 384, 896, 1920, 3968, 8191, 16383, 32767, 65535] [⟨0, 0, []⟩, ⟨1, 0, []⟩, ⟨2, 0, []⟩, ⟨3, 0, []⟩, ⟨4, 0, []⟩, ⟨5, 0, []⟩, ⟨6, 0, []⟩, ⟨7, 0, []⟩, ⟨8, 0, []⟩, ⟨9, 0, []⟩, ⟨10, 0, []⟩, ⟨11, 0, []⟩, ⟨12, 0, []⟩, ⟨13, 0, []⟩, ⟨14, 2, []⟩, ⟨15, 0, []⟩, ⟨16, 0, []⟩] rfl rfl ?_
    refine d_q rfl rfl rfl rfl rfl ?_
    refine v_move rfl ?_
    refine v_nil ?_
    refine d_q rfl rfl rfl rfl rfl ?_
    refine v_not false rfl rfl ?_
    refine v_nil ?_
    refine d_call (cCodeIf _ _) rfl rfl rfl rfl rfl (.cons vw_v (.cons vw_v .nil)) ?_
    refine d_q rfl rfl rfl rfl rfl ?_
    refine v_move rfl ?_
    refine v_nil ?_
    refine d_callb (cInR _ _ _) rfl rfl rfl rfl (.cons vw_v (.cons vw_v (.cons vw_v .nil))) (fun h61 => ?_) (fun h61 => ?_)
    rotate_left
    · refine d_q rfl rfl rfl rfl rfl ?_
      refine v_not true rfl rfl ?_
      refine v_nil ?_
      refine d_call (cCodeIf _ _) rfl rfl rfl rfl rfl (.cons vw_v (.cons vw_v .nil)) ?_
      refine d_q rfl rfl rfl rfl rfl ?_
      refine v_move rfl ?_
      refine v_nil ?_
      refine d_q rfl rfl rfl rfl rfl ?_
      refine v_nil_pt rfl ?_
      refine v_nil ?_
      refine d_q rfl rfl rfl rfl rfl ?_
      refine v_fa_pt (off' := 1) lay41 rfl rfl rfl ?_
      refine v_nil ?_
      refine d_q rfl rfl rfl rfl rfl ?_
      refine v_load_pt (.c _) lay39 rfl rfl rfl rfl ?_
      refine v_nil ?_
      refine d_q rfl rfl rfl rfl rfl ?_
      refine v_len_mu lay39 rfl ?_
      refine v_nil ?_
      refine d_q rfl rfl rfl rfl rfl ?_
      refine v_eql lay3 rfl rfl (fun h67 => ?_) (fun h67 => ?_)
      · refine v_nil ?_
        refine d_call (cCodeIf _ _) rfl rfl rfl rfl rfl (.cons vw_v (.cons vw_v .nil)) ?_
        refine d_z (.c (.sl true 3 1 (flat int [_, _, _]))) rfl rfl rfl ?_
        refine d_call (cFirst [_, _, _] (Nat.le_of_ble_eq_true rfl)) rfl rfl rfl rfl rfl (.cons vw_sl .nil) ?_
        refine d_q rfl rfl rfl rfl rfl ?_
        refine v_assign rfl ?_
        refine v_nil ?_
        refine d_nil ?_
        refine q_n ?_
        refine w_seq ?_
        refine w_reg rfl ?_
        refine v_move rfl ?_
        refine v_neq lay2 rfl rfl (fun h68 => ?_) (fun h68 => ?_)
        rotate_left
        · exact absurd h68 (by decide)
        refine v_nil ?_
        refine q_n ?_
        refine w_t rfl ?_
        refine w_seq ?_
        refine w_reg rfl ?_
        refine v_move rfl ?_
        refine v_assign rfl ?_
        refine v_nil ?_
        refine q_n ?_
        refine w_ret (q_r ?_)
        refine r_r rfl ?_
        refine v_assign rfl ?_
        refine v_nil ?_
        refine q_n ?_
        refine w_ret (q_br (q_r ?_))
        refine r_r rfl ?_
        refine v_assign rfl ?_
        refine v_nil ?_
        refine q_n ?_
        refine w_seq ?_
        refine w_reg rfl ?_
        refine v_move rfl ?_
        refine v_neq lay2 rfl rfl (fun h69 => ?_) (fun h69 => ?_)
        rotate_left
        · exact absurd h69 (by decide)
        refine v_nil ?_
        refine q_n ?_
        refine w_t rfl ?_
        refine w_seq ?_
        refine w_reg rfl ?_
        refine v_move rfl ?_
        refine v_move rfl ?_
        refine v_assign rfl ?_
        refine v_assign rfl ?_
        refine v_assign rfl ?_
        refine v_nil ?_
        refine q_n ?_
        refine w_ret (q_br (q_r (q_br (q_r ?_))))
        refine r_r rfl ?_
        have hst : step (ls[i]'hi1) i acs os = (2, i, acs, os) := (step_at hws).trans (by first | exact sw_t2 hw0 (by assumption) (by omega))
        rw [(cmpR_ok hok).trans (hr.at_err hi1 hst (by decide))]
        exact l_ans [none] rfl rfl ⟨rfl, trivial⟩ (a_tup (.cons (tr_nil rfl) (.cons tr_v (.cons tr_v .nil))))
      refine v_nil ?_
      refine d_call (cCodeIf _ _) rfl rfl rfl rfl rfl (.cons vw_v (.cons vw_v .nil)) ?_
      refine d_z (.c (.sl true 3 1 (flat int [_, _, _]))) rfl rfl rfl ?_
      refine d_call (cFirst [_, _, _] (Nat.le_of_ble_eq_true rfl)) rfl rfl rfl rfl rfl (.cons vw_sl .nil) ?_
      refine d_q rfl rfl rfl rfl rfl ?_
      refine v_assign rfl ?_
      refine v_nil ?_
      refine d_nil ?_
      refine q_n ?_
      refine w_seq ?_
      refine w_reg rfl ?_
      refine v_move rfl ?_
      refine v_neq lay2 rfl rfl (fun h70 => ?_) (fun h70 => ?_)
      rotate_left
      · exact absurd h70 (by decide)
      refine v_nil ?_
      refine q_n ?_
      refine w_t rfl ?_
      refine w_seq ?_
      refine w_reg rfl ?_
      refine v_move rfl ?_
      refine v_assign rfl ?_
      refine v_nil ?_
      refine q_n ?_
      refine w_ret (q_r ?_)
      refine r_r rfl ?_
      refine v_assign rfl ?_
      refine v_nil ?_
      refine q_n ?_
      refine w_ret (q_br (q_r ?_))
      refine r_r rfl ?_
      refine v_assign rfl ?_
      refine v_nil ?_
      refine q_n ?_
      refine w_seq ?_
      refine w_reg rfl ?_
      refine v_move rfl ?_
      refine v_neq lay2 rfl rfl (fun h71 => ?_) (fun h71 => ?_)
      rotate_left
      · exact absurd h71 (by decide)
      refine v_nil ?_
      refine q_n ?_
      refine w_t rfl ?_
      refine w_seq ?_
      refine w_reg rfl ?_
      refine v_move rfl ?_
      refine v_move rfl ?_
      refine v_assign rfl ?_
      refine v_assign rfl ?_
      refine v_assign rfl ?_
      refine v_nil ?_
      refine q_n ?_
      refine w_ret (q_br (q_r (q_br (q_r ?_))))
      refine r_r rfl ?_
      have hst : step (ls[i]'hi1) i acs os = (2, i, acs, os) := (step_at hws).trans (by first | exact sw_t2 hw0 (by assumption) (by omega))
      rw [(cmpR_ok hok).trans (hr.at_err hi1 hst (by decide))]
      exact l_ans [none] rfl rfl ⟨rfl, trivial⟩ (a_tup (.cons (tr_nil rfl) (.cons tr_v (.cons tr_v .nil))))
    refine d_q rfl rfl rfl rfl rfl ?_
    refine v_not false rfl rfl ?_
    refine v_nil ?_
    refine d_call (cCodeIf _ _) rfl rfl rfl rfl rfl (.cons vw_v (.cons vw_v .nil)) ?_
    refine d_q rfl rfl rfl rfl rfl ?_
    refine v_move rfl ?_
    refine v_nil ?_
    refine d_q rfl rfl rfl rfl rfl ?_
    refine v_nil_pt rfl ?_
    refine v_nil ?_
    refine d_q rfl rfl rfl rfl rfl ?_
    refine v_fa_pt (off' := 1) lay41 rfl rfl rfl ?_
    refine v_nil ?_
    refine d_q rfl rfl rfl rfl rfl ?_
    refine v_load_pt (.c _) lay39 rfl rfl rfl rfl ?_
    refine v_nil ?_
    refine d_q rfl rfl rfl rfl rfl ?_
    refine v_len_mu lay39 rfl ?_
    refine v_nil ?_
    refine d_q rfl rfl rfl rfl rfl ?_
    refine v_eql lay3 rfl rfl (fun h62 => ?_) (fun h62 => ?_)
    · refine v_nil ?_
      refine d_call (cCodeIf _ _) rfl rfl rfl rfl rfl (.cons vw_v (.cons vw_v .nil)) ?_
      refine d_z (.c (.sl true 3 1 (flat int [_, _, _]))) rfl rfl rfl ?_
      refine d_call (cFirst [_, _, _] (Nat.le_of_ble_eq_true rfl)) rfl rfl rfl rfl rfl (.cons vw_sl .nil) ?_
      refine d_q rfl rfl rfl rfl rfl ?_
      refine v_assign rfl ?_
      refine v_nil ?_
      refine d_nil ?_
      refine q_n ?_
      refine w_seq ?_
      refine w_reg rfl ?_
      refine v_move rfl ?_
      refine v_neq lay2 rfl rfl (fun h63 => ?_) (fun h63 => ?_)
      rotate_left
      · exact absurd h63 (by decide)
      refine v_nil ?_
      refine q_n ?_
      refine w_t rfl ?_
      refine w_seq ?_
      refine w_reg rfl ?_
      refine v_move rfl ?_
      refine v_assign rfl ?_
      refine v_nil ?_
      refine q_n ?_
      refine w_ret (q_r ?_)
      refine r_r rfl ?_
      refine v_assign rfl ?_
      refine v_nil ?_
      refine q_n ?_
      refine w_ret (q_br (q_r ?_))
      refine r_r rfl ?_
      refine v_assign rfl ?_
      refine v_nil ?_
      refine q_n ?_
      refine w_seq ?_
      refine w_reg rfl ?_
      refine v_move rfl ?_
      refine v_neq lay2 rfl rfl (fun h64 => ?_) (fun h64 => ?_)
      rotate_left
      · exact absurd h64 (by decide)
      refine v_nil ?_
      refine q_n ?_
      refine w_t rfl ?_
      refine w_seq ?_
      refine w_reg rfl ?_
      refine v_move rfl ?_
      refine v_move rfl ?_
      refine v_assign rfl ?_
      refine v_assign rfl ?_
      refine v_assign rfl ?_
      refine v_nil ?_
      refine q_n ?_
      refine w_ret (q_br (q_r (q_br (q_r ?_))))
      refine r_r rfl ?_
      have hst : step (ls[i]'hi1) i acs os = (3, i, acs, os) := (step_at hws).trans (by first | exact sw_t3 hw0 (by assumption) (by omega) (by omega) | exact sw_a1 hw0 (some_no (by assumption)) (by assumption) (by omega))
      rw [(cmpR_ok hok).trans (hr.at_err hi1 hst (by decide))]
      exact l_ans [none] rfl rfl ⟨rfl, trivial⟩ (a_tup (.cons (tr_nil rfl) (.cons tr_v (.cons tr_v .nil))))
    refine v_nil ?_
    refine d_call (cCodeIf _ _) rfl rfl rfl rfl rfl (.cons vw_v (.cons vw_v .nil)) ?_
    refine d_z (.c (.sl true 3 1 (flat int [_, _, _]))) rfl rfl rfl ?_
    refine d_call (cFirst [_, _, _] (Nat.le_of_ble_eq_true rfl)) rfl rfl rfl rfl rfl (.cons vw_sl .nil) ?_
    refine d_q rfl rfl rfl rfl rfl ?_
    refine v_assign rfl ?_
    refine v_nil ?_
    refine d_nil ?_
    refine q_n ?_
    refine w_seq ?_
    refine w_reg rfl ?_
    refine v_move rfl ?_
    refine v_neq lay2 rfl rfl (fun h65 => ?_) (fun h65 => ?_)
    · exact absurd (by decide) h65
    refine v_nil ?_
    refine q_n ?_
    refine w_f rfl ?_
    refine w_skip ?_
    refine q_n ?_
    refine w_seq ?_
    refine w_draw [0, 0, 2, 6, 14, 0, 32, 96, 224, 0, 992, 2016, 4094, 8191, 16383, 32767] [⟨0, 0, []⟩, ⟨1, 0, []⟩, ⟨2, 0, []⟩, ⟨3, 0, []⟩, ⟨4, 0, []⟩, ⟨5, 0, []⟩, ⟨6, 0, []⟩, ⟨7, 0, []⟩, ⟨8, 0, []⟩, ⟨9, 0, []⟩, ⟨10, 0, []⟩, ⟨11, 2, []⟩, ⟨12, 1, []⟩, ⟨13, 0, []⟩, ⟨14, 0, []⟩, ⟨15, 1, []⟩] rfl rfl ?_
    refine d_q rfl rfl rfl rfl rfl ?_
    refine v_move rfl ?_
    refine v_nil ?_
    refine d_q rfl rfl rfl rfl rfl ?_
    refine v_move rfl ?_
    refine v_nil ?_
    refine d_q rfl rfl rfl rfl rfl ?_
    refine v_nil_pt rfl ?_
    refine v_nil ?_
    refine d_q rfl rfl rfl rfl rfl ?_
    refine v_fa_pt (off' := 1) lay41 rfl rfl rfl ?_
    refine v_nil ?_
    refine d_q rfl rfl rfl rfl rfl ?_
    refine v_load_pt (.c _) lay39 rfl rfl rfl rfl ?_
    refine v_nil ?_
    refine d_q rfl rfl rfl rfl rfl ?_
    refine v_move rfl ?_
    refine v_nil ?_
    refine d_q rfl rfl rfl rfl rfl ?_
    refine v_nil_pt rfl ?_
    refine v_nil ?_
    refine d_q rfl rfl rfl rfl rfl ?_
    refine v_fa_pt (off' := 2) lay41 rfl rfl rfl ?_
    refine v_nil ?_
    refine d_q rfl rfl rfl rfl rfl ?_
    refine v_load_pt (.c _) lay3 rfl rfl rfl rfl ?_
    refine v_nil ?_
    refine d_q rfl rfl rfl rfl rfl ?_
    refine v_move rfl ?_
    refine v_nil ?_
    refine d_q rfl rfl rfl rfl rfl ?_
    refine v_build [(0, 1), (1, 1)] [.v _, .v _] lay68 rfl rfl ?_
    refine v_nil ?_
    refine d_z (.c (.sl true 1 2 (flat opI [((i : Int) + 1, nineV w)]))) rfl rfl rfl ?_
    refine d_e rfl rfl rfl ?_
    refine v_app_flat_sl (H' := [_, _, _, _, _, _]) opI_sc opI_len lay39 lay68 rfl rfl (by first | rfl | (simp [opL]; done)) rfl rfl rfl (by unfold maxLen; simp only []; omega) rfl rfl ?_
    refine v_nil ⟨again_nil, ?_⟩
    refine d_q rfl rfl rfl rfl rfl ?_
    refine v_nil_pt rfl ?_
    refine v_nil ?_
    refine d_q rfl rfl rfl rfl rfl ?_
    refine v_fa_pt (off' := 1) lay41 rfl rfl rfl ?_
    refine v_nil ?_
    refine d_e rfl rfl rfl ?_
    refine v_store (H' := [⟨[_, _, _], 41, true⟩, _, _, _, _, _]) lay39 rfl rfl rfl rfl rfl rfl ?_
    refine v_nil ⟨again_nil, ?_⟩
    refine d_nil ?_
    refine q_n ?_
    refine w_seq ?_
    refine w_reg rfl ?_
    refine v_assign (c := .v (.int .i64 0)) rfl ?_
    refine v_nil ?_
    refine q_n ?_
    refine w_ret ?_
    refine r_r rfl ?_
    refine v_assign rfl ?_
    refine v_nil ?_
    refine q_n ?_
    refine w_ret (q_br (q_r ?_))
    refine r_r rfl ?_
    refine v_assign rfl ?_
    refine v_nil ?_
    refine q_n ?_
    refine w_seq ?_
    refine w_reg rfl ?_
    refine v_move rfl ?_
    refine v_neq lay2 rfl rfl (fun h66 => ?_) (fun h66 => ?_)
    · exact absurd (by decide) h66
    refine v_nil ?_
    refine q_n ?_
    refine w_f rfl ?_
    refine w_skip ?_
    refine q_bn ?_
    refine q_n ?_
    obtain ⟨m, hlt, hm⟩ := hr.at_go hi1 ((step_at hws).trans (sw_t hw0 (by assumption) (by omega) (by omega)))
    refine ⟨_, _, _, ?_, ⟨i + 1, acs, os ++ [(i + 1, (nineV w - 1).toNat)], hm, by omega, ha, by rw [List.length_append]; show os.length + 1 ≤ 2; omega, ?_, rfl, rfl⟩, hlt⟩
    · exact turn [some 0, some 1, some 5, some 3] rfl rfl rfl ⟨⟨_, rfl, .cons (tr_mu rfl) (.cons (tr_mun rfl (by simp)) (.cons tr_v .nil))⟩, ⟨_, rfl, trc_flat acE_sc rfl⟩, ⟨_, rfl, trc_flat opI_sc (congrArg (flat opI) (by simp [opL]; omega))⟩, ⟨_, rfl, trc_flat st_sc rfl⟩, trivial⟩ ⟨tr_mu rfl, tr_pt rfl, trivial⟩
    · intro o hq
      rcases List.mem_append.1 hq with hq | hq
      · exact hb o hq
      · obtain rfl : o = (i + 1, (nineV w - 1).toNat) := by simpa using hq
        exact ⟨by show i + 1 ≤ ls.length; omega, by show (nineV w - 1).toNat ≤ 15; omega⟩
  obtain ⟨hE, hn⟩ := lns_cut hls hbd h2
  refine v_nil ?_
  refine q_n ?_
  refine w_t rfl ?_
  refine w_reg rfl ?_
  refine v_move rfl ?_
  refine v_move rfl ?_
  refine v_len_mu lay28 rfl ?_
  refine v_sub lay3 rfl rfl (i64r (by omega)) ?_
  refine v_slice_mu (0) ((splitB 10 s).length - 1) lay28 lay9 rfl rfl rfl rfl (rfl) (by omega) (⟨by omega, by omega⟩) (.inl rfl) ?_
  refine v_assign rfl ?_
  refine v_nil ?_
  refine q_n ?_
  refine w_seq ?_
  refine w_reg rfl ?_
  refine v_move rfl ?_
  refine v_assign rfl ?_
  refine v_nil ?_
  refine q_n ?_
  refine w_ret ?_
  refine r_r rfl ?_
  refine v_assign rfl ?_
  refine v_nil ?_
  refine q_n ?_
  refine w_seq ?_
  refine w_seq ?_
  refine w_reg rfl ?_
  refine v_move rfl ?_
  refine v_len_s lay9 rfl ?_
  refine v_gtr lay3 rfl rfl (fun h3 => ?_) (fun h3 => ?_)
  · refine v_move rfl ?_
    refine v_guard_off rfl rfl rfl ?_
    refine v_guard_off rfl rfl rfl ?_
    refine v_guard_off rfl rfl rfl ?_
    refine v_pick_t (v := .v (.bool true)) rfl rfl ?_
    refine v_nil ?_
    refine q_n ?_
    refine w_t rfl ?_
    refine w_seq ?_
    refine w_reg rfl ?_
    refine v_assign rfl ?_
    refine v_assign (c := .v (.int .i64 0)) rfl ?_
    refine v_assign (c := .v (.int .i64 2)) rfl ?_
    refine v_nil ?_
    refine q_n ?_
    refine w_ret (q_r ?_)
    refine r_r rfl ?_
    rw [cmpR_long (s := s) (ls := ls) (by omega)]
    exact l_ans [none] rfl rfl ⟨rfl, trivial⟩ (a_tup (.cons (tr_nil rfl) (.cons tr_v (.cons tr_v .nil))))
  refine v_move rfl ?_
  refine v_guard_on rfl rfl ?_
  refine v_move rfl ?_
  refine v_guard_on rfl rfl ?_
  refine v_len_mu lay28 rfl ?_
  refine v_guard_on rfl rfl ?_
  refine v_gtr lay3 rfl rfl (fun h4 => ?_) (fun h4 => ?_)
  · refine v_pick_f rfl rfl ?_
    refine v_nil ?_
    refine q_n ?_
    refine w_t rfl ?_
    refine w_seq ?_
    refine w_reg rfl ?_
    refine v_assign rfl ?_
    refine v_assign (c := .v (.int .i64 0)) rfl ?_
    refine v_assign (c := .v (.int .i64 2)) rfl ?_
    refine v_nil ?_
    refine q_n ?_
    refine w_ret (q_r ?_)
    refine r_r rfl ?_
    rw [cmpR_long (s := s) (ls := ls) (by omega)]
    exact l_ans [none] rfl rfl ⟨rfl, trivial⟩ (a_tup (.cons (tr_nil rfl) (.cons tr_v (.cons tr_v .nil))))
  refine v_pick_f rfl rfl ?_
  refine v_nil ?_
  refine q_n ?_
  refine w_f rfl ?_
  refine w_skip ?_
  refine q_n ?_
  refine w_seq ?_
  refine w_reg rfl ?_
  refine v_build [(0, 1), (1, 1), (2, 1)] [.v _, .v _, .v _] lay41 rfl rfl ?_
  refine v_box (m := 1) (H' := [_, _]) lay41 rfl rfl rfl ?_
  refine v_assign rfl ?_
  refine v_nil ?_
  refine q_n ?_
  refine w_seq ?_
  refine w_block ?_
  refine w_loop (fun k sl H => ∃ (i : Nat) (acs : List AD) (os : Stk), Runs ls k i acs os R ∧ i ≤ ls.length ∧ acs.length ≤ 120 ∧ os.length ≤ 2 ∧ (∀ o ∈ os, o.1 ≤ ls.length ∧ o.2 ≤ 15) ∧ sl = sls [(5, .c (.mu 3 0 ls.length 1)), (6, .c (.pt 0 0))] ∧ H = [⟨[.mu 1 0 acs.length 5, .mu 2 0 os.length 2, .v (.int .i64 (i : Int))], 41, true⟩, ⟨flat acE acs, 46, true⟩, ⟨flat opI (opL os), 68, true⟩, ⟨flat st ls, 9, true⟩]) ?_ ?_
  · have hok : ¬ (3000 < s.length ∨ 120 < ls.length) := by omega
    refine ⟨_, _, _, ?_, 0, [], [], hR, Nat.zero_le _, Nat.zero_le _, Nat.zero_le _, (fun o hq => by cases hq), rfl, rfl⟩
    exact turn_t [some 1, none, none, some 0] rfl rfl rfl ⟨⟨_, 3, rfl, .cons (tr_nil rfl) (.cons (tr_nil rfl) (.cons tr_v .nil))⟩, rfl, rfl, ⟨_, _, rfl, st_cut hE⟩, trivial⟩ ⟨tr_mun rfl hn, tr_pt rfl, trivial⟩
  rintro k sl H ⟨i, acs, os, hr, hi, ha, ho, hb, rfl, rfl⟩
  have hok : ¬ (3000 < s.length ∨ 120 < ls.length) := by omega
  refine w_seq ?_
  refine w_seq ?_
  refine w_reg rfl ?_
  refine v_move rfl ?_
  refine v_nil_pt rfl ?_
  refine v_fa_pt (off' := 2) lay41 rfl rfl rfl ?_
  refine v_load_pt (.c _) lay3 rfl rfl rfl rfl ?_
  refine v_move rfl ?_
  refine v_len_mu lay28 rfl ?_
  refine v_lss lay3 rfl rfl (fun h5 => ?_) (fun h5 => ?_)
  rotate_left
  · refine v_nil ?_
    refine q_n ?_
    refine w_f rfl ?_
    refine w_exit ?_
    refine q_e ?_
    refine q_e ?_
    refine q_hit ?_
    refine q_n ?_
    refine w_seq ?_
    refine w_seq ?_
    refine w_reg rfl ?_
    refine v_move rfl ?_
    refine v_nil_pt rfl ?_
    refine v_fa_pt (off' := 1) lay41 rfl rfl rfl ?_
    refine v_load_pt (.c _) lay39 rfl rfl rfl rfl ?_
    refine v_len_mu lay39 rfl ?_
    refine v_gtr lay3 rfl rfl (fun h50 => ?_) (fun h50 => ?_)
    · refine v_nil ?_
      refine q_n ?_
      refine w_t rfl ?_
      refine w_seq ?_
      refine w_reg rfl ?_
      refine v_move rfl ?_
      refine v_len_mu lay28 rfl ?_
      refine v_assign rfl ?_
      refine v_assign rfl ?_
      refine v_assign (c := .v (.int .i64 4)) rfl ?_
      refine v_nil ?_
      refine q_n ?_
      refine w_ret (q_r ?_)
      refine r_r rfl ?_
      rw [(cmpR_ok hok).trans (hr.at_left (by omega) (by rintro rfl; simp at *))]
      exact l_ans [none] rfl rfl ⟨rfl, trivial⟩ (a_tup (.cons (tr_nil rfl) (.cons tr_v (.cons tr_v .nil))))
    refine v_nil ?_
    refine q_n ?_
    refine w_f rfl ?_
    refine w_skip ?_
    refine q_n ?_
    refine w_seq ?_
    refine w_reg rfl ?_
    refine v_move rfl ?_
    refine v_nil_pt rfl ?_
    refine v_fa_pt (off' := 0) lay41 rfl rfl rfl ?_
    refine v_load_pt (.c _) lay22 rfl rfl rfl rfl ?_
    refine v_assign rfl ?_
    refine v_assign (c := .v (.int .i64 0)) rfl ?_
    refine v_assign (c := .v (.int .i64 0)) rfl ?_
    refine v_nil ?_
    refine q_n ?_
    refine w_ret ?_
    refine r_r rfl ?_
    obtain rfl : os = [] := List.eq_nil_of_length_eq_zero (by omega)
    rw [(cmpR_ok hok).trans (hr.at_stop (by omega))]
    exact l_ans [some 1] rfl rfl ⟨⟨_, rfl, trc_flat acE_sc rfl⟩, trivial⟩ (a_tup (.cons (tr_mu rfl) (.cons tr_v (.cons tr_v .nil))))
  have hi1 : i < ls.length := by omega
  obtain ⟨w0, wr, hws⟩ := splitB_cons 32 (ls[i]'hi1)
  have hll := hlp _ (List.getElem_mem hi1)
  have hlen : (w0 :: wr).length = wr.length + 1 := rfl
  have hwp : ∀ w ∈ w0 :: wr, w.length ≤ 1048576 := fun w hw => Nat.le_trans (splitB_part 32 (ls[i]'hi1) w (by rw [hws]; exact hw)) (by omega)
  have hwl : wr.length ≤ 2 ^ 30 := by have := splitB_le 32 (ls[i]'hi1); rw [hws] at this; omega
  have hsp : LiveC X 17 [cS (ls[i]'hi1), cS [32]] (.c (.mu 0 0 (w0 :: wr).length 1)) [⟨flat st (w0 :: wr), 9, true⟩] := hws ▸ cSplit (ls[i]'hi1) 32 (by omega)
  refine v_nil ?_
  refine q_n ?_
  refine w_t rfl ?_
  refine w_skip ?_
  refine q_n ?_
  refine w_block ?_
  refine w_seq ?_
  refine w_reg rfl ?_
  refine v_move rfl ?_
  refine v_nil_pt rfl ?_
  refine v_fa_pt (off' := 2) lay41 rfl rfl rfl ?_
  refine v_load_pt (.c _) lay3 rfl rfl rfl rfl ?_
  refine v_assign rfl ?_
  refine v_nil ?_
  refine q_n ?_
  refine w_seq ?_
  refine w_reg rfl ?_
  refine v_move rfl ?_
  refine v_nil_pt rfl ?_
  refine v_fa_pt (off' := 2) lay41 rfl rfl rfl ?_
  refine v_load_pt (.c _) lay3 rfl rfl rfl rfl ?_
  refine v_add lay3 rfl rfl (i64r (by omega)) ?_
  refine v_nil_pt rfl ?_
  refine v_fa_pt (off' := 2) lay41 rfl rfl rfl ?_
  refine v_store (H' := [⟨[_, _, _], 41, true⟩, _, _, _]) lay3 rfl rfl rfl rfl rfl rfl ?_
  refine v_nil ?_
  refine q_n ?_
  refine w_seq ?_
  refine w_reg rfl ?_
  refine v_move rfl ?_
  refine v_move rfl ?_
  refine v_move rfl ?_
  refine v_idx_mu_e (k := 1) (off := 0) (i) lay28 lay9 rfl rfl rfl (rfl) (hi1) ?_
  refine v_load_flat i 0 (.c (.v _)) st_len lay9 rfl rfl (by omega) (by first | exact hbd | exact hi1 | (simp [opL]; done)) rfl rfl ?_
  refine v_inl (n := 48) (drawD_ok X) (fun _ _ => Go.Proofs.Tryd.call12 _ _) Go.Proofs.Tryd.func12 rfl rfl rfl rfl ?_
  refine w_seq ?_
  refine w_reg rfl ?_
  refine v_assign (c := .v (.int .i64 0)) rfl ?_
  refine v_nil ?_
  refine q_n ?_
  refine w_seq ?_
  refine w_reg rfl ?_
  refine v_move rfl ?_
  refine v_live1 (N := 4) (H' := [_, _, _, _, _]) (hsp) (sc_flat st_sc _) rfl rfl rfl rfl rfl rfl (.cons vw_v (.cons vw_v .nil)) ?_
  refine v_assign rfl ?_
  refine v_nil ?_
  refine q_n ?_
  refine w_seq ?_
  refine w_block ?_
  refine w_seq ?_
  refine w_reg rfl ?_
  refine v_move rfl ?_
  refine v_idx_mu_e (k := 1) (off := 0) (0) lay28 lay9 rfl rfl rfl (rfl) (by simp) ?_
  refine v_load_flat 0 0 (cS w0) st_len lay9 rfl rfl (by omega) (by simp) rfl rfl ?_
  refine v_seql lay9 rfl rfl (fun h8 => ?_) (fun h8 => ?_)
  rotate_left
  · have hw0 : ¬ w0 = timesB := h8
    refine v_assign rfl ?_
    refine v_nil ?_
    refine q_n ?_
    refine w_f rfl ?_
    refine w_seq ?_
    refine w_reg rfl ?_
    refine v_move rfl ?_
    refine v_seql lay9 rfl rfl (fun h35 => ?_) (fun h35 => ?_)
    rotate_left
    · have hwe : ¬ ls[i]'hi1 = endB := h35
      refine v_assign rfl ?_
      refine v_nil ?_
      refine q_n ?_
      refine w_f rfl ?_
      refine w_skip ?_
      refine q_bn ?_
      refine q_n ?_
      refine w_seq ?_
      refine w_reg rfl ?_
      refine v_move rfl ?_
      refine dec_split (p := (rdA w0 wr).isSome = true) (fun h45 => ?_) (fun h45 => ?_)
      rotate_left
      · refine v_call (cRdITF hwp hwl h45) rfl rfl rfl (.cons (vw_mu2 st_sc st_len rfl (by first | (simp; done) | (simp; omega))) .nil) ?_
        refine v_move_t rfl ?_
        refine v_extract_a rfl rfl ?_
        refine v_extract_c rfl rfl ?_
        refine v_alloc (m := 5) (H' := [_, _, _, _, _, ⟨[.v _, .v _, .v _, .v _, .f _ _], 46, true⟩]) lay46 rfl rfl ?_
        refine v_store (H' := [_, _, _, _, _, ⟨[_, _, _, _, _], 46, true⟩]) lay46 rfl rfl rfl rfl rfl rfl ?_
        refine v_assign rfl ?_
        refine v_nil ?_
        refine q_n ?_
        refine w_seq ?_
        refine w_block ?_
        refine w_seq ?_
        refine w_reg rfl ?_
        refine v_move rfl ?_
        refine v_not true rfl rfl ?_
        refine v_assign rfl ?_
        refine v_nil ?_
        refine q_n ?_
        refine w_t rfl ?_
        refine w_seq ?_
        refine w_reg rfl ?_
        refine v_assign (c := .v (.int .i64 5)) rfl ?_
        refine v_nil ?_
        refine q_n ?_
        refine w_ret (q_br (q_r ?_))
        refine r_r rfl ?_
        refine v_assign rfl ?_
        refine v_nil ?_
        refine q_n ?_
        refine w_seq ?_
        refine w_reg rfl ?_
        refine v_move rfl ?_
        refine v_neq lay2 rfl rfl (fun h49 => ?_) (fun h49 => ?_)
        rotate_left
        · exact absurd h49 (by decide)
        refine v_nil ?_
        refine q_n ?_
        refine w_t rfl ?_
        refine w_seq ?_
        refine w_reg rfl ?_
        refine v_move rfl ?_
        refine v_move rfl ?_
        refine v_assign rfl ?_
        refine v_assign rfl ?_
        refine v_assign rfl ?_
        refine v_nil ?_
        refine q_n ?_
        refine w_ret (q_br (q_r (q_br (q_r ?_))))
        refine r_r rfl ?_
        have hst : step (ls[i]'hi1) i acs os = (5, i, acs, os) := (step_at hws).trans (by first | exact sw_t0 hw0 (by omega) | exact sw_t1 hw0 (by assumption) | exact sw_n0 hw0 (end_not hws hwe) (by assumption))
        rw [(cmpR_ok hok).trans (hr.at_err hi1 hst (by decide))]
        exact l_ans [none] rfl rfl ⟨rfl, trivial⟩ (a_tup (.cons (tr_nil rfl) (.cons tr_v (.cons tr_v .nil))))
      refine v_call (cRdIT hwp hwl h45) rfl rfl rfl (.cons (vw_mu2 st_sc st_len rfl (by first | (simp; done) | (simp; omega))) .nil) ?_
      refine v_move_t rfl ?_
      refine v_extract_a rfl rfl ?_
      refine v_extract_c rfl rfl ?_
      refine v_alloc (m := 5) (H' := [_, _, _, _, _, ⟨[.v _, .v _, .v _, .v _, .f _ _], 46, true⟩]) lay46 rfl rfl ?_
      refine v_store (H' := [_, _, _, _, _, ⟨[_, _, _, _, _], 46, true⟩]) lay46 rfl rfl rfl rfl rfl rfl ?_
      refine v_assign rfl ?_
      refine v_nil ?_
      refine q_n ?_
      refine w_seq ?_
      refine w_block ?_
      refine w_seq ?_
      refine w_reg rfl ?_
      refine v_move rfl ?_
      refine v_not false rfl rfl ?_
      refine v_assign rfl ?_
      refine v_nil ?_
      refine q_n ?_
      refine w_f rfl ?_
      refine w_seq ?_
      refine w_reg rfl ?_
      refine v_move rfl ?_
      refine v_nil_pt rfl ?_
      refine v_fa_pt (off' := 0) lay41 rfl rfl rfl ?_
      refine v_load_pt (.c _) lay22 rfl rfl rfl rfl ?_
      refine v_len_mu lay22 rfl ?_
      refine v_eql lay3 rfl rfl (fun h46 => ?_) (fun h46 => ?_)
      · refine v_assign rfl ?_
        refine v_nil ?_
        refine q_n ?_
        refine w_t rfl ?_
        refine w_seq ?_
        refine w_reg rfl ?_
        refine v_assign (c := .v (.int .i64 3)) rfl ?_
        refine v_nil ?_
        refine q_n ?_
        refine w_ret (q_br (q_r ?_))
        refine r_r rfl ?_
        refine v_assign rfl ?_
        refine v_nil ?_
        refine q_n ?_
        refine w_seq ?_
        refine w_reg rfl ?_
        refine v_move rfl ?_
        refine v_neq lay2 rfl rfl (fun h47 => ?_) (fun h47 => ?_)
        rotate_left
        · exact absurd h47 (by decide)
        refine v_nil ?_
        refine q_n ?_
        refine w_t rfl ?_
        refine w_seq ?_
        refine w_reg rfl ?_
        refine v_move rfl ?_
        refine v_move rfl ?_
        refine v_assign rfl ?_
        refine v_assign rfl ?_
        refine v_assign rfl ?_
        refine v_nil ?_
        refine q_n ?_
        refine w_ret (q_br (q_r (q_br (q_r ?_))))
        refine r_r rfl ?_
        have hst : step (ls[i]'hi1) i acs os = (3, i, acs, os) := (step_at hws).trans (by first | exact sw_t3 hw0 (by assumption) (by omega) (by omega) | exact sw_a1 hw0 (some_no (by assumption)) (by assumption) (by omega))
        rw [(cmpR_ok hok).trans (hr.at_err hi1 hst (by decide))]
        exact l_ans [none] rfl rfl ⟨rfl, trivial⟩ (a_tup (.cons (tr_nil rfl) (.cons tr_v (.cons tr_v .nil))))
      refine v_assign rfl ?_
      refine v_nil ?_
      refine q_n ?_
      refine w_f rfl ?_
      refine w_skip ?_
      refine q_bn ?_
      refine q_n ?_
      refine w_seq ?_
      refine w_draw [0, 0, 2, 6, 14, 0, 32, 126, 255, 511, 1023] [⟨0, 0, []⟩, ⟨1, 0, []⟩, ⟨2, 0, []⟩, ⟨3, 0, []⟩, ⟨4, 0, []⟩, ⟨5, 0, []⟩, ⟨6, 2, []⟩, ⟨7, 1, []⟩, ⟨8, 0, []⟩, ⟨9, 0, []⟩, ⟨10, 1, []⟩] rfl rfl ?_
      refine d_q rfl rfl rfl rfl rfl ?_
      refine v_move rfl ?_
      refine v_nil ?_
      refine d_q rfl rfl rfl rfl rfl ?_
      refine v_move rfl ?_
      refine v_nil ?_
      refine d_q rfl rfl rfl rfl rfl ?_
      refine v_nil_pt rfl ?_
      refine v_nil ?_
      refine d_q rfl rfl rfl rfl rfl ?_
      refine v_fa_pt (off' := 0) lay41 rfl rfl rfl ?_
      refine v_nil ?_
      refine d_q rfl rfl rfl rfl rfl ?_
      refine v_load_pt (.c _) lay22 rfl rfl rfl rfl ?_
      refine v_nil ?_
      refine d_q rfl rfl rfl rfl rfl ?_
      refine v_load_pt (.agg [_, _, _, _, _]) lay46 rfl rfl rfl rfl ?_
      refine v_nil ?_
      refine d_z (.c (.sl true 1 5 (flat acE [gA w0 wr]))) rfl rfl rfl ?_
      refine d_e rfl rfl rfl ?_
      refine v_app_flat_sl (H' := [_, _, _, _, _, _, _]) acE_sc acE_len lay22 lay46 rfl rfl (by first | rfl | (simp [opL]; done)) rfl rfl rfl (by unfold maxLen; simp only []; omega) rfl rfl ?_
      refine v_nil ⟨again_nil, ?_⟩
      refine d_q rfl rfl rfl rfl rfl ?_
      refine v_nil_pt rfl ?_
      refine v_nil ?_
      refine d_q rfl rfl rfl rfl rfl ?_
      refine v_fa_pt (off' := 0) lay41 rfl rfl rfl ?_
      refine v_nil ?_
      refine d_e rfl rfl rfl ?_
      refine v_store (H' := [⟨[_, _, _], 41, true⟩, _, _, _, _, _, _]) lay22 rfl rfl rfl rfl rfl rfl ?_
      refine v_nil ⟨again_nil, ?_⟩
      refine d_nil ?_
      refine q_n ?_
      refine w_seq ?_
      refine w_reg rfl ?_
      refine v_assign (c := .v (.int .i64 0)) rfl ?_
      refine v_nil ?_
      refine q_n ?_
      refine w_ret ?_
      refine r_r rfl ?_
      refine v_assign rfl ?_
      refine v_nil ?_
      refine q_n ?_
      refine w_seq ?_
      refine w_reg rfl ?_
      refine v_move rfl ?_
      refine v_neq lay2 rfl rfl (fun h48 => ?_) (fun h48 => ?_)
      · exact absurd (by decide) h48
      refine v_nil ?_
      refine q_n ?_
      refine w_f rfl ?_
      refine w_skip ?_
      refine q_bn ?_
      refine q_n ?_
      obtain ⟨m, hlt, hm⟩ := hr.at_go hi1 ((step_at hws).trans (sw_a hw0 (some_no (by assumption)) (by assumption) (by omega)))
      refine ⟨_, _, _, ?_, ⟨i + 1, acs ++ [gA w0 wr], os, hm, by omega, by rw [List.length_append]; show acs.length + 1 ≤ 120; omega, ho, hb, rfl, rfl⟩, hlt⟩
      exact turn [some 0, some 6, some 2, some 3] rfl rfl rfl ⟨⟨_, rfl, .cons (tr_mun rfl (by simp)) (.cons (tr_mu rfl) (.cons tr_v .nil))⟩, ⟨_, rfl, trc_flat acE_sc rfl⟩, ⟨_, rfl, trc_flat opI_sc rfl⟩, ⟨_, rfl, trc_flat st_sc rfl⟩, trivial⟩ ⟨tr_mu rfl, tr_pt rfl, trivial⟩
    have hwe := end_is hws h35
    refine v_assign rfl ?_
    refine v_nil ?_
    refine q_n ?_
    refine w_t rfl ?_
    refine w_seq ?_
    refine w_reg rfl ?_
    refine v_move rfl ?_
    refine v_inl (n := 52) (drawD_ok X) (fun _ _ => Go.Proofs.Tryd.call19 _ _) Go.Proofs.Tryd.func19 rfl rfl rfl rfl ?_
    refine w_seq ?_
    refine w_reg rfl ?_
    refine v_assign (c := .v (.int .i64 0)) rfl ?_
    refine v_nil ?_
    refine q_n ?_
    refine w_seq ?_
    refine w_reg rfl ?_
    refine v_move rfl ?_
    refine v_nil_pt rfl ?_
    refine v_fa_pt (off' := 1) lay41 rfl rfl rfl ?_
    refine v_load_pt (.c _) lay39 rfl rfl rfl rfl ?_
    refine v_len_mu lay39 rfl ?_
    refine v_sub lay3 rfl rfl (i64r (by omega)) ?_
    refine v_assign rfl ?_
    refine v_nil ?_
    refine q_n ?_
    refine w_seq ?_
    refine w_seq ?_
    refine w_reg rfl ?_
    refine v_move rfl ?_
    refine v_lss lay3 rfl rfl (fun h36 => ?_) (fun h36 => ?_)
    · refine v_nil ?_
      refine q_n ?_
      refine w_t rfl ?_
      refine w_seq ?_
      refine w_reg rfl ?_
      refine v_assign (c := .v (.int .i64 4)) rfl ?_
      refine v_nil ?_
      refine q_n ?_
      refine w_ret (q_r ?_)
      refine r_r rfl ?_
      refine v_assign rfl ?_
      refine v_nil ?_
      refine q_n ?_
      refine w_ret (q_br (q_r ?_))
      refine r_r rfl ?_
      refine v_assign rfl ?_
      refine v_nil ?_
      refine q_n ?_
      refine w_seq ?_
      refine w_reg rfl ?_
      refine v_move rfl ?_
      refine v_neq lay2 rfl rfl (fun h37 => ?_) (fun h37 => ?_)
      rotate_left
      · exact absurd h37 (by decide)
      refine v_nil ?_
      refine q_n ?_
      refine w_t rfl ?_
      refine w_seq ?_
      refine w_reg rfl ?_
      refine v_move rfl ?_
      refine v_move rfl ?_
      refine v_assign rfl ?_
      refine v_assign rfl ?_
      refine v_assign rfl ?_
      refine v_nil ?_
      refine q_n ?_
      refine w_ret (q_br (q_r (q_br (q_r ?_))))
      refine r_r rfl ?_
      have hst : step (ls[i]'hi1) i acs os = (4, i, acs, os) := (step_at hws).trans (by first | exact sw_e1 hw0 hwe.1 hwe.2 (List.eq_nil_of_length_eq_zero (by omega)))
      rw [(cmpR_ok hok).trans (hr.at_err hi1 hst (by decide))]
      exact l_ans [none] rfl rfl ⟨rfl, trivial⟩ (a_tup (.cons (tr_nil rfl) (.cons tr_v (.cons tr_v .nil))))
    obtain ⟨o1, f, n, rfl⟩ := stk_snoc (os := os) (by omega)
    have hol : (o1 ++ [(f, n)]).length = o1.length + 1 := by simp
    have hfi := (hb (f, n) (by simp)).1
    have hnb := (hb (f, n) (by simp)).2
    have hbo : o1.length < (opL (o1 ++ [(f, n)])).length := by simp [opL]
    refine v_nil ?_
    refine q_n ?_
    refine w_f rfl ?_
    refine w_skip ?_
    refine q_n ?_
    refine w_seq ?_
    refine w_seq ?_
    refine w_reg rfl ?_
    refine v_move rfl ?_
    refine v_nil_pt rfl ?_
    refine v_fa_pt (off' := 1) lay41 rfl rfl rfl ?_
    refine v_load_pt (.c _) lay39 rfl rfl rfl rfl ?_
    refine v_move rfl ?_
    refine v_idx_mu_e (k := 2) (off := 0) (o1.length) lay39 lay68 rfl rfl rfl (by omega) (by omega) ?_
    refine v_fa_pt (off' := _) lay68 rfl rfl rfl ?_
    refine v_load_flat o1.length 1 (.c (.v _)) opI_len lay2 rfl rfl (by omega) (by first | exact hbd | exact hi1 | (simp [opL]; done)) rfl rfl ?_
    refine v_sub lay2 rfl rfl (i64r (by rw [op_last]; omega)) ?_
    refine v_idx_mu_e (k := 2) (off := 0) (o1.length) lay39 lay68 rfl rfl rfl (by omega) (by omega) ?_
    refine v_fa_pt (off' := _) lay68 rfl rfl rfl ?_
    refine v_store_flat (H' := [_, _, _, _, _]) o1.length 1 ((((opL (o1 ++ [(f, n)]))[o1.length]'hbo).1, ((opL (o1 ++ [(f, n)]))[o1.length]'hbo).2 - 1)) opI_len lay2 rfl rfl rfl (by omega) (by first | exact hbd | exact hi1 | (simp [opL]; done)) rfl rfl (rfl) rfl ?_
    refine v_nil ?_
    refine q_n ?_
    refine w_seq ?_
    refine w_reg rfl ?_
    refine v_move rfl ?_
    refine v_nil_pt rfl ?_
    refine v_fa_pt (off' := 1) lay41 rfl rfl rfl ?_
    refine v_load_pt (.c _) lay39 rfl rfl rfl rfl ?_
    refine v_move rfl ?_
    refine v_idx_mu_e (k := 2) (off := 0) (o1.length) lay39 lay68 rfl rfl rfl (by omega) (by omega) ?_
    refine v_fa_pt (off' := _) lay68 rfl rfl rfl ?_
    refine v_load_flat o1.length 1 (.c (.v _)) opI_len lay2 rfl rfl (by omega) (by first | exact hbd | exact hi1 | (simp [opL]; done)) rfl rfl ?_
    refine v_gtr lay2 rfl rfl (fun h41 => ?_) (fun h41 => ?_)
    rotate_left
    · have hl0 : ¬ 0 < n := by have hq := h41; rw [List.getElem_set_self, op_last] at hq; simp only at hq; omega
      refine v_nil ?_
      refine q_n ?_
      refine w_f rfl ?_
      refine w_reg rfl ?_
      refine v_move rfl ?_
      refine v_move rfl ?_
      refine v_nil_pt rfl ?_
      refine v_fa_pt (off' := 1) lay41 rfl rfl rfl ?_
      refine v_load_pt (.c _) lay39 rfl rfl rfl rfl ?_
      refine v_move rfl ?_
      refine v_slice_mu (0) (o1.length) lay39 lay68 rfl rfl rfl rfl (rfl) (by omega) (⟨by omega, by omega⟩) (.inl rfl) ?_
      refine v_nil_pt rfl ?_
      refine v_fa_pt (off' := 1) lay41 rfl rfl rfl ?_
      refine v_store (H' := [⟨[_, _, _], 41, true⟩, _, _, _, _]) lay39 rfl rfl rfl rfl rfl rfl ?_
      refine v_nil ?_
      refine q_n ?_
      refine w_seq ?_
      refine w_reg rfl ?_
      refine v_assign (c := .v (.int .i64 0)) rfl ?_
      refine v_nil ?_
      refine q_n ?_
      refine w_ret ?_
      refine r_r rfl ?_
      refine v_assign rfl ?_
      refine v_nil ?_
      refine q_n ?_
      refine w_ret (q_br (q_r ?_))
      refine r_r rfl ?_
      refine v_assign rfl ?_
      refine v_nil ?_
      refine q_n ?_
      refine w_seq ?_
      refine w_reg rfl ?_
      refine v_move rfl ?_
      refine v_neq lay2 rfl rfl (fun h44 => ?_) (fun h44 => ?_)
      · exact absurd (by decide) h44
      refine v_nil ?_
      refine q_n ?_
      refine w_f rfl ?_
      refine w_skip ?_
      refine q_bn ?_
      refine q_n ?_
      obtain ⟨m, hlt, hm⟩ := hr.at_go hi1 ((step_at hws).trans (sw_e3 hw0 hwe.1 hwe.2 hl0))
      refine ⟨_, _, _, ?_, ⟨i + 1, acs, o1, hm, by omega, ha, by omega, fun o hq => hb o (List.mem_append_left _ hq), rfl, rfl⟩, hlt⟩
      exact turn_t [some 0, some 1, some 2, some 3] rfl rfl rfl ⟨⟨_, 3, rfl, .cons (tr_mu rfl) (.cons (tr_mun rfl (by omega)) (.cons tr_v .nil))⟩, ⟨_, _, rfl, trc_all (trc_flat acE_sc rfl)⟩, ⟨_, _, rfl, op_cut⟩, ⟨_, _, rfl, trc_all (trc_flat st_sc rfl)⟩, trivial⟩ ⟨tr_mu rfl, tr_pt rfl, trivial⟩
    have hl0 : 0 < n := by have hq := h41; rw [List.getElem_set_self, op_last] at hq; simp only at hq; omega
    refine v_nil ?_
    refine q_n ?_
    refine w_t rfl ?_
    refine w_reg rfl ?_
    refine v_move rfl ?_
    refine v_move rfl ?_
    refine v_nil_pt rfl ?_
    refine v_fa_pt (off' := 1) lay41 rfl rfl rfl ?_
    refine v_load_pt (.c _) lay39 rfl rfl rfl rfl ?_
    refine v_move rfl ?_
    refine v_idx_mu_e (k := 2) (off := 0) (o1.length) lay39 lay68 rfl rfl rfl (by omega) (by omega) ?_
    refine v_fa_pt (off' := _) lay68 rfl rfl rfl ?_
    refine v_load_flat o1.length 0 (.c (.v _)) opI_len lay3 rfl rfl (by omega) (by first | exact hbd | exact hi1 | (simp [opL]; done)) rfl rfl ?_
    refine v_nil_pt rfl ?_
    refine v_fa_pt (off' := 2) lay41 rfl rfl rfl ?_
    refine v_store (H' := [⟨[_, _, _], 41, true⟩, _, _, _, _]) lay3 rfl rfl rfl rfl rfl rfl ?_
    refine v_nil ?_
    refine q_n ?_
    refine w_seq ?_
    refine w_reg rfl ?_
    refine v_assign (c := .v (.int .i64 0)) rfl ?_
    refine v_nil ?_
    refine q_n ?_
    refine w_ret ?_
    refine r_r rfl ?_
    refine v_assign rfl ?_
    refine v_nil ?_
    refine q_n ?_
    refine w_ret (q_br (q_r ?_))
    refine r_r rfl ?_
    refine v_assign rfl ?_
    refine v_nil ?_
    refine q_n ?_
    refine w_seq ?_
    refine w_reg rfl ?_
    refine v_move rfl ?_
    refine v_neq lay2 rfl rfl (fun h43 => ?_) (fun h43 => ?_)
    · exact absurd (by decide) h43
    refine v_nil ?_
    refine q_n ?_
    refine w_f rfl ?_
    refine w_skip ?_
    refine q_bn ?_
    refine q_n ?_
    obtain ⟨m, hlt, hm⟩ := hr.at_go hi1 ((step_at hws).trans (sw_e2 hw0 hwe.1 hwe.2 hl0))
    have hbl := hb (f, n) (by simp)
    refine ⟨_, _, _, ?_, ⟨f, acs, o1 ++ [(f, n - 1)], hm, hfi, ha, by simp only [List.length_append, List.length_cons, List.length_nil]; omega, ?_, rfl, rfl⟩, hlt⟩
    · exact turn [some 0, some 1, some 2, some 3] rfl rfl rfl ⟨⟨_, rfl, .cons (tr_mu rfl) (.cons (tr_mun rfl (by simp)) (.cons (tr_i (by rw [List.getElem_set_self, op_last])) .nil))⟩, ⟨_, rfl, trc_flat acE_sc rfl⟩, ⟨_, rfl, trc_flat opI_sc (congrArg (flat opI) (op_dec hl0 (by rw [op_last]; simp)))⟩, ⟨_, rfl, trc_flat st_sc rfl⟩, trivial⟩ ⟨tr_mu rfl, tr_pt rfl, trivial⟩
    · intro o hq
      rcases List.mem_append.1 hq with hq | hq
      · exact hb o (List.mem_append_left _ hq)
      · obtain rfl : o = (f, n - 1) := by simpa using hq
        exact ⟨hbl.1, by show n - 1 ≤ 15; have := hbl.2; omega⟩
  have hw0 : w0 = timesB := h8
  refine v_assign rfl ?_
  refine v_nil ?_
  refine q_n ?_
  refine w_t rfl ?_
  refine w_seq ?_
  refine w_reg rfl ?_
  refine v_move rfl ?_
  refine v_move rfl ?_
  refine v_inl (n := 52) (drawD_ok X) (fun _ _ => Go.Proofs.Tryd.call18 _ _) Go.Proofs.Tryd.func18 rfl rfl rfl rfl ?_
  refine w_seq ?_
  refine w_reg rfl ?_
  refine v_assign (c := .v (.int .i64 0)) rfl ?_
  refine v_nil ?_
  refine q_n ?_
  refine w_seq ?_
  refine w_seq ?_
  refine w_reg rfl ?_
  refine v_move rfl ?_
  refine v_len_mu lay28 rfl ?_
  refine v_neq lay3 rfl rfl (fun h9 => ?_) (fun h9 => ?_)
  · refine v_nil ?_
    refine q_n ?_
    refine w_t rfl ?_
    refine w_seq ?_
    refine w_reg rfl ?_
    refine v_assign (c := .v (.int .i64 5)) rfl ?_
    refine v_nil ?_
    refine q_n ?_
    refine w_ret (q_r ?_)
    refine r_r rfl ?_
    refine v_assign rfl ?_
    refine v_nil ?_
    refine q_n ?_
    refine w_ret (q_br (q_r ?_))
    refine r_r rfl ?_
    refine v_assign rfl ?_
    refine v_nil ?_
    refine q_n ?_
    refine w_seq ?_
    refine w_reg rfl ?_
    refine v_move rfl ?_
    refine v_neq lay2 rfl rfl (fun h10 => ?_) (fun h10 => ?_)
    rotate_left
    · exact absurd h10 (by decide)
    refine v_nil ?_
    refine q_n ?_
    refine w_t rfl ?_
    refine w_seq ?_
    refine w_reg rfl ?_
    refine v_move rfl ?_
    refine v_move rfl ?_
    refine v_assign rfl ?_
    refine v_assign rfl ?_
    refine v_assign rfl ?_
    refine v_nil ?_
    refine q_n ?_
    refine w_ret (q_br (q_r (q_br (q_r ?_))))
    refine r_r rfl ?_
    have hst : step (ls[i]'hi1) i acs os = (5, i, acs, os) := (step_at hws).trans (by first | exact sw_t0 hw0 (by omega) | exact sw_t1 hw0 (by assumption) | exact sw_n0 hw0 (end_not hws hwe) (by assumption))
    rw [(cmpR_ok hok).trans (hr.at_err hi1 hst (by decide))]
    exact l_ans [none] rfl rfl ⟨rfl, trivial⟩ (a_tup (.cons (tr_nil rfl) (.cons tr_v (.cons tr_v .nil))))
  obtain ⟨w, rfl⟩ : ∃ w, wr = [w] := len_one (by omega)
  refine v_nil ?_
  refine q_n ?_
  refine w_f rfl ?_
  refine w_skip ?_
  refine q_n ?_
  refine w_seq ?_
  refine w_reg rfl ?_
  refine v_move rfl ?_
  refine v_idx_mu_e (k := 1) (off := 0) (1) lay28 lay9 rfl rfl rfl (rfl) (Nat.le_refl 2) ?_
  refine v_load_flat 1 0 (cS w) st_len lay9 rfl rfl (by omega) (by simp) rfl rfl ?_
  refine dec_split (p := wh 3 w) (fun h12 => ?_) (fun h12 => ?_)
  rotate_left
  · refine v_call (cWiF (by decide) (hwp w (by simp)) h12) rfl rfl rfl (.cons vw_v (.cons vw_v .nil)) ?_
    refine v_move_t rfl ?_
    refine v_extract_c rfl rfl ?_
    refine v_extract_c rfl rfl ?_
    refine v_assign rfl ?_
    refine v_assign rfl ?_
    refine v_nil ?_
    refine q_n ?_
    refine w_seq ?_
    refine w_seq ?_
    refine w_draw [0, 1, 3, 0, 15, 31, 63, 0, 128, 384, 896, 1920, 3968, 8191, 16383, 32767, 65535] [⟨0, 0, []⟩, ⟨1, 0, []⟩, ⟨2, 0, []⟩, ⟨3, 0, []⟩, ⟨4, 0, []⟩, ⟨5, 0, []⟩, ⟨6, 0, []⟩, ⟨7, 0, []⟩, ⟨8, 0, []⟩, ⟨9, 0, []⟩, ⟨10, 0, []⟩, ⟨11, 0, []⟩, ⟨12, 0, []⟩, ⟨13, 0, []⟩, ⟨14, 2, []⟩, ⟨15, 0, []⟩, ⟨16, 0, []⟩] rfl rfl ?_
    refine d_q rfl rfl rfl rfl rfl ?_
    refine v_move rfl ?_
    refine v_nil ?_
    refine d_q rfl rfl rfl rfl rfl ?_
    refine v_not true rfl rfl ?_
    refine v_nil ?_
    refine d_call (cCodeIf _ _) rfl rfl rfl rfl rfl (.cons vw_v (.cons vw_v .nil)) ?_
    refine d_q rfl rfl rfl rfl rfl ?_
    refine v_move rfl ?_
    refine v_nil ?_
    refine d_callb (cInR _ _ _) rfl rfl rfl rfl (.cons vw_v (.cons vw_v (.cons vw_v .nil))) (fun h24 => ?_) (fun h24 => ?_)
    rotate_left
    · refine d_q rfl rfl rfl rfl rfl ?_
      refine v_not true rfl rfl ?_
      refine v_nil ?_
      refine d_call (cCodeIf _ _) rfl rfl rfl rfl rfl (.cons vw_v (.cons vw_v .nil)) ?_
      refine d_q rfl rfl rfl rfl rfl ?_
      refine v_move rfl ?_
      refine v_nil ?_
      refine d_q rfl rfl rfl rfl rfl ?_
      refine v_nil_pt rfl ?_
      refine v_nil ?_
      refine d_q rfl rfl rfl rfl rfl ?_
      refine v_fa_pt (off' := 1) lay41 rfl rfl rfl ?_
      refine v_nil ?_
      refine d_q rfl rfl rfl rfl rfl ?_
      refine v_load_pt (.c _) lay39 rfl rfl rfl rfl ?_
      refine v_nil ?_
      refine d_q rfl rfl rfl rfl rfl ?_
      refine v_len_mu lay39 rfl ?_
      refine v_nil ?_
      refine d_q rfl rfl rfl rfl rfl ?_
      refine v_eql lay3 rfl rfl (fun h30 => ?_) (fun h30 => ?_)
      · refine v_nil ?_
        refine d_call (cCodeIf _ _) rfl rfl rfl rfl rfl (.cons vw_v (.cons vw_v .nil)) ?_
        refine d_z (.c (.sl true 3 1 (flat int [_, _, _]))) rfl rfl rfl ?_
        refine d_call (cFirst [_, _, _] (Nat.le_of_ble_eq_true rfl)) rfl rfl rfl rfl rfl (.cons vw_sl .nil) ?_
        refine d_q rfl rfl rfl rfl rfl ?_
        refine v_assign rfl ?_
        refine v_nil ?_
        refine d_nil ?_
        refine q_n ?_
        refine w_seq ?_
        refine w_reg rfl ?_
        refine v_move rfl ?_
        refine v_neq lay2 rfl rfl (fun h31 => ?_) (fun h31 => ?_)
        rotate_left
        · exact absurd h31 (by decide)
        refine v_nil ?_
        refine q_n ?_
        refine w_t rfl ?_
        refine w_seq ?_
        refine w_reg rfl ?_
        refine v_move rfl ?_
        refine v_assign rfl ?_
        refine v_nil ?_
        refine q_n ?_
        refine w_ret (q_r ?_)
        refine r_r rfl ?_
        refine v_assign rfl ?_
        refine v_nil ?_
        refine q_n ?_
        refine w_ret (q_br (q_r ?_))
        refine r_r rfl ?_
        refine v_assign rfl ?_
        refine v_nil ?_
        refine q_n ?_
        refine w_seq ?_
        refine w_reg rfl ?_
        refine v_move rfl ?_
        refine v_neq lay2 rfl rfl (fun h32 => ?_) (fun h32 => ?_)
        rotate_left
        · exact absurd h32 (by decide)
        refine v_nil ?_
        refine q_n ?_
        refine w_t rfl ?_
        refine w_seq ?_
        refine w_reg rfl ?_
        refine v_move rfl ?_
        refine v_move rfl ?_
        refine v_assign rfl ?_
        refine v_assign rfl ?_
        refine v_assign rfl ?_
        refine v_nil ?_
        refine q_n ?_
        refine w_ret (q_br (q_r (q_br (q_r ?_))))
        refine r_r rfl ?_
        have hst : step (ls[i]'hi1) i acs os = (5, i, acs, os) := (step_at hws).trans (by first | exact sw_t0 hw0 (by omega) | exact sw_t1 hw0 (by assumption) | exact sw_n0 hw0 (end_not hws hwe) (by assumption))
        rw [(cmpR_ok hok).trans (hr.at_err hi1 hst (by decide))]
        exact l_ans [none] rfl rfl ⟨rfl, trivial⟩ (a_tup (.cons (tr_nil rfl) (.cons tr_v (.cons tr_v .nil))))
      refine v_nil ?_
      refine d_call (cCodeIf _ _) rfl rfl rfl rfl rfl (.cons vw_v (.cons vw_v .nil)) ?_
      refine d_z (.c (.sl true 3 1 (flat int [_, _, _]))) rfl rfl rfl ?_
      refine d_call (cFirst [_, _, _] (Nat.le_of_ble_eq_true rfl)) rfl rfl rfl rfl rfl (.cons vw_sl .nil) ?_
      refine d_q rfl rfl rfl rfl rfl ?_
      refine v_assign rfl ?_
      refine v_nil ?_
      refine d_nil ?_
      refine q_n ?_
      refine w_seq ?_
      refine w_reg rfl ?_
      refine v_move rfl ?_
      refine v_neq lay2 rfl rfl (fun h33 => ?_) (fun h33 => ?_)
      rotate_left
      · exact absurd h33 (by decide)
      refine v_nil ?_
      refine q_n ?_
      refine w_t rfl ?_
      refine w_seq ?_
      refine w_reg rfl ?_
      refine v_move rfl ?_
      refine v_assign rfl ?_
      refine v_nil ?_
      refine q_n ?_
      refine w_ret (q_r ?_)
      refine r_r rfl ?_
      refine v_assign rfl ?_
      refine v_nil ?_
      refine q_n ?_
      refine w_ret (q_br (q_r ?_))
      refine r_r rfl ?_
      refine v_assign rfl ?_
      refine v_nil ?_
      refine q_n ?_
      refine w_seq ?_
      refine w_reg rfl ?_
      refine v_move rfl ?_
      refine v_neq lay2 rfl rfl (fun h34 => ?_) (fun h34 => ?_)
      rotate_left
      · exact absurd h34 (by decide)
      refine v_nil ?_
      refine q_n ?_
      refine w_t rfl ?_
      refine w_seq ?_
      refine w_reg rfl ?_
      refine v_move rfl ?_
      refine v_move rfl ?_
      refine v_assign rfl ?_
      refine v_assign rfl ?_
      refine v_assign rfl ?_
      refine v_nil ?_
      refine q_n ?_
      refine w_ret (q_br (q_r (q_br (q_r ?_))))
      refine r_r rfl ?_
      have hst : step (ls[i]'hi1) i acs os = (5, i, acs, os) := (step_at hws).trans (by first | exact sw_t0 hw0 (by omega) | exact sw_t1 hw0 (by assumption) | exact sw_n0 hw0 (end_not hws hwe) (by assumption))
      rw [(cmpR_ok hok).trans (hr.at_err hi1 hst (by decide))]
      exact l_ans [none] rfl rfl ⟨rfl, trivial⟩ (a_tup (.cons (tr_nil rfl) (.cons tr_v (.cons tr_v .nil))))
    refine d_q rfl rfl rfl rfl rfl ?_
    refine v_not false rfl rfl ?_
    refine v_nil ?_
    refine d_call (cCodeIf _ _) rfl rfl rfl rfl rfl (.cons vw_v (.cons vw_v .nil)) ?_
    refine d_q rfl rfl rfl rfl rfl ?_
    refine v_move rfl ?_
    refine v_nil ?_
    refine d_q rfl rfl rfl rfl rfl ?_
    refine v_nil_pt rfl ?_
    refine v_nil ?_
    refine d_q rfl rfl rfl rfl rfl ?_
    refine v_fa_pt (off' := 1) lay41 rfl rfl rfl ?_
    refine v_nil ?_
    refine d_q rfl rfl rfl rfl rfl ?_
    refine v_load_pt (.c _) lay39 rfl rfl rfl rfl ?_
    refine v_nil ?_
    refine d_q rfl rfl rfl rfl rfl ?_
    refine v_len_mu lay39 rfl ?_
    refine v_nil ?_
    refine d_q rfl rfl rfl rfl rfl ?_
    refine v_eql lay3 rfl rfl (fun h25 => ?_) (fun h25 => ?_)
    · refine v_nil ?_
      refine d_call (cCodeIf _ _) rfl rfl rfl rfl rfl (.cons vw_v (.cons vw_v .nil)) ?_
      refine d_z (.c (.sl true 3 1 (flat int [_, _, _]))) rfl rfl rfl ?_
      refine d_call (cFirst [_, _, _] (Nat.le_of_ble_eq_true rfl)) rfl rfl rfl rfl rfl (.cons vw_sl .nil) ?_
      refine d_q rfl rfl rfl rfl rfl ?_
      refine v_assign rfl ?_
      refine v_nil ?_
      refine d_nil ?_
      refine q_n ?_
      refine w_seq ?_
      refine w_reg rfl ?_
      refine v_move rfl ?_
      refine v_neq lay2 rfl rfl (fun h26 => ?_) (fun h26 => ?_)
      rotate_left
      · exact absurd h26 (by decide)
      refine v_nil ?_
      refine q_n ?_
      refine w_t rfl ?_
      refine w_seq ?_
      refine w_reg rfl ?_
      refine v_move rfl ?_
      refine v_assign rfl ?_
      refine v_nil ?_
      refine q_n ?_
      refine w_ret (q_r ?_)
      refine r_r rfl ?_
      refine v_assign rfl ?_
      refine v_nil ?_
      refine q_n ?_
      refine w_ret (q_br (q_r ?_))
      refine r_r rfl ?_
      refine v_assign rfl ?_
      refine v_nil ?_
      refine q_n ?_
      refine w_seq ?_
      refine w_reg rfl ?_
      refine v_move rfl ?_
      refine v_neq lay2 rfl rfl (fun h27 => ?_) (fun h27 => ?_)
      rotate_left
      · exact absurd h27 (by decide)
      refine v_nil ?_
      refine q_n ?_
      refine w_t rfl ?_
      refine w_seq ?_
      refine w_reg rfl ?_
      refine v_move rfl ?_
      refine v_move rfl ?_
      refine v_assign rfl ?_
      refine v_assign rfl ?_
      refine v_assign rfl ?_
      refine v_nil ?_
      refine q_n ?_
      refine w_ret (q_br (q_r (q_br (q_r ?_))))
      refine r_r rfl ?_
      have hst : step (ls[i]'hi1) i acs os = (5, i, acs, os) := (step_at hws).trans (by first | exact sw_t0 hw0 (by omega) | exact sw_t1 hw0 (by assumption) | exact sw_n0 hw0 (end_not hws hwe) (by assumption))
      rw [(cmpR_ok hok).trans (hr.at_err hi1 hst (by decide))]
      exact l_ans [none] rfl rfl ⟨rfl, trivial⟩ (a_tup (.cons (tr_nil rfl) (.cons tr_v (.cons tr_v .nil))))
    refine v_nil ?_
    refine d_call (cCodeIf _ _) rfl rfl rfl rfl rfl (.cons vw_v (.cons vw_v .nil)) ?_
    refine d_z (.c (.sl true 3 1 (flat int [_, _, _]))) rfl rfl rfl ?_
    refine d_call (cFirst [_, _, _] (Nat.le_of_ble_eq_true rfl)) rfl rfl rfl rfl rfl (.cons vw_sl .nil) ?_
    refine d_q rfl rfl rfl rfl rfl ?_
    refine v_assign rfl ?_
    refine v_nil ?_
    refine d_nil ?_
    refine q_n ?_
    refine w_seq ?_
    refine w_reg rfl ?_
    refine v_move rfl ?_
    refine v_neq lay2 rfl rfl (fun h28 => ?_) (fun h28 => ?_)
    rotate_left
    · exact absurd h28 (by decide)
    refine v_nil ?_
    refine q_n ?_
    refine w_t rfl ?_
    refine w_seq ?_
    refine w_reg rfl ?_
    refine v_move rfl ?_
    refine v_assign rfl ?_
    refine v_nil ?_
    refine q_n ?_
    refine w_ret (q_r ?_)
    refine r_r rfl ?_
    refine v_assign rfl ?_
    refine v_nil ?_
    refine q_n ?_
    refine w_ret (q_br (q_r ?_))
    refine r_r rfl ?_
    refine v_assign rfl ?_
    refine v_nil ?_
    refine q_n ?_
    refine w_seq ?_
    refine w_reg rfl ?_
    refine v_move rfl ?_
    refine v_neq lay2 rfl rfl (fun h29 => ?_) (fun h29 => ?_)
    rotate_left
    · exact absurd h29 (by decide)
    refine v_nil ?_
    refine q_n ?_
    refine w_t rfl ?_
    refine w_seq ?_
    refine w_reg rfl ?_
    refine v_move rfl ?_
    refine v_move rfl ?_
    refine v_assign rfl ?_
    refine v_assign rfl ?_
    refine v_assign rfl ?_
    refine v_nil ?_
    refine q_n ?_
    refine w_ret (q_br (q_r (q_br (q_r ?_))))
    refine r_r rfl ?_
    have hst : step (ls[i]'hi1) i acs os = (5, i, acs, os) := (step_at hws).trans (by first | exact sw_t0 hw0 (by omega) | exact sw_t1 hw0 (by assumption) | exact sw_n0 hw0 (end_not hws hwe) (by assumption))
    rw [(cmpR_ok hok).trans (hr.at_err hi1 hst (by decide))]
    exact l_ans [none] rfl rfl ⟨rfl, trivial⟩ (a_tup (.cons (tr_nil rfl) (.cons tr_v (.cons tr_v .nil))))
  refine v_call (cWiT (by decide) (hwp w (by simp)) h12) rfl rfl rfl (.cons vw_v (.cons vw_v .nil)) ?_
  refine v_move_t rfl ?_
  refine v_extract_c rfl rfl ?_
  refine v_extract_c rfl rfl ?_
  refine v_assign rfl ?_
  refine v_assign rfl ?_
  refine v_nil ?_
  refine q_n ?_
  refine w_seq ?_
  refine w_seq ?_
  refine w_draw [0, 1, 3, 0, 15, 31, 63, 0, 128, 384, 896, 1920, 3968, 8191, 16383, 32767, 65535] [⟨0, 0, []⟩, ⟨1, 0, []⟩, ⟨2, 0, []⟩, ⟨3, 0, []⟩, ⟨4, 0, []⟩, ⟨5, 0, []⟩, ⟨6, 0, []⟩, ⟨7, 0, []⟩, ⟨8, 0, []⟩, ⟨9, 0, []⟩, ⟨10, 0, []⟩, ⟨11, 0, []⟩, ⟨12, 0, []⟩, ⟨13, 0, []⟩, ⟨14, 2, []⟩, ⟨15, 0, []⟩, ⟨16, 0, []⟩] rfl rfl ?_
  refine d_q rfl rfl rfl rfl rfl ?_
  refine v_move rfl ?_
  refine v_nil ?_
  refine d_q rfl rfl rfl rfl rfl ?_
  refine v_not false rfl rfl ?_
  refine v_nil ?_
  refine d_call (cCodeIf _ _) rfl rfl rfl rfl rfl (.cons vw_v (.cons vw_v .nil)) ?_
  refine d_q rfl rfl rfl rfl rfl ?_
  refine v_move rfl ?_
  refine v_nil ?_
  refine d_callb (cInR _ _ _) rfl rfl rfl rfl (.cons vw_v (.cons vw_v (.cons vw_v .nil))) (fun h13 => ?_) (fun h13 => ?_)
  rotate_left
  · refine d_q rfl rfl rfl rfl rfl ?_
    refine v_not true rfl rfl ?_
    refine v_nil ?_
    refine d_call (cCodeIf _ _) rfl rfl rfl rfl rfl (.cons vw_v (.cons vw_v .nil)) ?_
    refine d_q rfl rfl rfl rfl rfl ?_
    refine v_move rfl ?_
    refine v_nil ?_
    refine d_q rfl rfl rfl rfl rfl ?_
    refine v_nil_pt rfl ?_
    refine v_nil ?_
    refine d_q rfl rfl rfl rfl rfl ?_
    refine v_fa_pt (off' := 1) lay41 rfl rfl rfl ?_
    refine v_nil ?_
    refine d_q rfl rfl rfl rfl rfl ?_
    refine v_load_pt (.c _) lay39 rfl rfl rfl rfl ?_
    refine v_nil ?_
    refine d_q rfl rfl rfl rfl rfl ?_
    refine v_len_mu lay39 rfl ?_
    refine v_nil ?_
    refine d_q rfl rfl rfl rfl rfl ?_
    refine v_eql lay3 rfl rfl (fun h19 => ?_) (fun h19 => ?_)
    · refine v_nil ?_
      refine d_call (cCodeIf _ _) rfl rfl rfl rfl rfl (.cons vw_v (.cons vw_v .nil)) ?_
      refine d_z (.c (.sl true 3 1 (flat int [_, _, _]))) rfl rfl rfl ?_
      refine d_call (cFirst [_, _, _] (Nat.le_of_ble_eq_true rfl)) rfl rfl rfl rfl rfl (.cons vw_sl .nil) ?_
      refine d_q rfl rfl rfl rfl rfl ?_
      refine v_assign rfl ?_
      refine v_nil ?_
      refine d_nil ?_
      refine q_n ?_
      refine w_seq ?_
      refine w_reg rfl ?_
      refine v_move rfl ?_
      refine v_neq lay2 rfl rfl (fun h20 => ?_) (fun h20 => ?_)
      rotate_left
      · exact absurd h20 (by decide)
      refine v_nil ?_
      refine q_n ?_
      refine w_t rfl ?_
      refine w_seq ?_
      refine w_reg rfl ?_
      refine v_move rfl ?_
      refine v_assign rfl ?_
      refine v_nil ?_
      refine q_n ?_
      refine w_ret (q_r ?_)
      refine r_r rfl ?_
      refine v_assign rfl ?_
      refine v_nil ?_
      refine q_n ?_
      refine w_ret (q_br (q_r ?_))
      refine r_r rfl ?_
      refine v_assign rfl ?_
      refine v_nil ?_
      refine q_n ?_
      refine w_seq ?_
      refine w_reg rfl ?_
      refine v_move rfl ?_
      refine v_neq lay2 rfl rfl (fun h21 => ?_) (fun h21 => ?_)
      rotate_left
      · exact absurd h21 (by decide)
      refine v_nil ?_
      refine q_n ?_
      refine w_t rfl ?_
      refine w_seq ?_
      refine w_reg rfl ?_
      refine v_move rfl ?_
      refine v_move rfl ?_
      refine v_assign rfl ?_
      refine v_assign rfl ?_
      refine v_assign rfl ?_
      refine v_nil ?_
      refine q_n ?_
      refine w_ret (q_br (q_r (q_br (q_r ?_))))
      refine r_r rfl ?_
      have hst : step (ls[i]'hi1) i acs os = (2, i, acs, os) := (step_at hws).trans (by first | exact sw_t2 hw0 (by assumption) (by omega))
      rw [(cmpR_ok hok).trans (hr.at_err hi1 hst (by decide))]
      exact l_ans [none] rfl rfl ⟨rfl, trivial⟩ (a_tup (.cons (tr_nil rfl) (.cons tr_v (.cons tr_v .nil))))
    refine v_nil ?_
    refine d_call (cCodeIf _ _) rfl rfl rfl rfl rfl (.cons vw_v (.cons vw_v .nil)) ?_
    refine d_z (.c (.sl true 3 1 (flat int [_, _, _]))) rfl rfl rfl ?_
    refine d_call (cFirst [_, _, _] (Nat.le_of_ble_eq_true rfl)) rfl rfl rfl rfl rfl (.cons vw_sl .nil) ?_
    refine d_q rfl rfl rfl rfl rfl ?_
    refine v_assign rfl ?_
    refine v_nil ?_
    refine d_nil ?_
    refine q_n ?_
    refine w_seq ?_
    refine w_reg rfl ?_
    refine v_move rfl ?_
    refine v_neq lay2 rfl rfl (fun h22 => ?_) (fun h22 => ?_)
    rotate_left
    · exact absurd h22 (by decide)
    refine v_nil ?_
    refine q_n ?_
    refine w_t rfl ?_
    refine w_seq ?_
    refine w_reg rfl ?_
    refine v_move rfl ?_
    refine v_assign rfl ?_
    refine v_nil ?_
    refine q_n ?_
    refine w_ret (q_r ?_)
    refine r_r rfl ?_
    refine v_assign rfl ?_
    refine v_nil ?_
    refine q_n ?_
    refine w_ret (q_br (q_r ?_))
    refine r_r rfl ?_
    refine v_assign rfl ?_
    refine v_nil ?_
    refine q_n ?_
    refine w_seq ?_
    refine w_reg rfl ?_
    refine v_move rfl ?_
    refine v_neq lay2 rfl rfl (fun h23 => ?_) (fun h23 => ?_)
    rotate_left
    · exact absurd h23 (by decide)
    refine v_nil ?_
    refine q_n ?_
    refine w_t rfl ?_
    refine w_seq ?_
    refine w_reg rfl ?_
    refine v_move rfl ?_
    refine v_move rfl ?_
    refine v_assign rfl ?_
    refine v_assign rfl ?_
    refine v_assign rfl ?_
    refine v_nil ?_
    refine q_n ?_
    refine w_ret (q_br (q_r (q_br (q_r ?_))))
    refine r_r rfl ?_
    have hst : step (ls[i]'hi1) i acs os = (2, i, acs, os) := (step_at hws).trans (by first | exact sw_t2 hw0 (by assumption) (by omega))
    rw [(cmpR_ok hok).trans (hr.at_err hi1 hst (by decide))]
    exact l_ans [none] rfl rfl ⟨rfl, trivial⟩ (a_tup (.cons (tr_nil rfl) (.cons tr_v (.cons tr_v .nil))))
  refine d_q rfl rfl rfl rfl rfl ?_
  refine v_not false rfl rfl ?_
  refine v_nil ?_
  refine d_call (cCodeIf _ _) rfl rfl rfl rfl rfl (.cons vw_v (.cons vw_v .nil)) ?_
  refine d_q rfl rfl rfl rfl rfl ?_
  refine v_move rfl ?_
  refine v_nil ?_
  refine d_q rfl rfl rfl rfl rfl ?_
  refine v_nil_pt rfl ?_
  refine v_nil ?_
  refine d_q rfl rfl rfl rfl rfl ?_
  refine v_fa_pt (off' := 1) lay41 rfl rfl rfl ?_
  refine v_nil ?_
  refine d_q rfl rfl rfl rfl rfl ?_
  refine v_load_pt (.c _) lay39 rfl rfl rfl rfl ?_
  refine v_nil ?_
  refine d_q rfl rfl rfl rfl rfl ?_
  refine v_len_mu lay39 rfl ?_
  refine v_nil ?_
  refine d_q rfl rfl rfl rfl rfl ?_
  refine v_eql lay3 rfl rfl (fun h14 => ?_) (fun h14 => ?_)
  · refine v_nil ?_
    refine d_call (cCodeIf _ _) rfl rfl rfl rfl rfl (.cons vw_v (.cons vw_v .nil)) ?_
    refine d_z (.c (.sl true 3 1 (flat int [_, _, _]))) rfl rfl rfl ?_
    refine d_call (cFirst [_, _, _] (Nat.le_of_ble_eq_true rfl)) rfl rfl rfl rfl rfl (.cons vw_sl .nil) ?_
    refine d_q rfl rfl rfl rfl rfl ?_
    refine v_assign rfl ?_
    refine v_nil ?_
    refine d_nil ?_
    refine q_n ?_
    refine w_seq ?_
    refine w_reg rfl ?_
    refine v_move rfl ?_
    refine v_neq lay2 rfl rfl (fun h15 => ?_) (fun h15 => ?_)
    rotate_left
    · exact absurd h15 (by decide)
    refine v_nil ?_
    refine q_n ?_
    refine w_t rfl ?_
    refine w_seq ?_
    refine w_reg rfl ?_
    refine v_move rfl ?_
    refine v_assign rfl ?_
    refine v_nil ?_
    refine q_n ?_
    refine w_ret (q_r ?_)
    refine r_r rfl ?_
    refine v_assign rfl ?_
    refine v_nil ?_
    refine q_n ?_
    refine w_ret (q_br (q_r ?_))
    refine r_r rfl ?_
    refine v_assign rfl ?_
    refine v_nil ?_
    refine q_n ?_
    refine w_seq ?_
    refine w_reg rfl ?_
    refine v_move rfl ?_
    refine v_neq lay2 rfl rfl (fun h16 => ?_) (fun h16 => ?_)
    rotate_left
    · exact absurd h16 (by decide)
    refine v_nil ?_
    refine q_n ?_
    refine w_t rfl ?_
    refine w_seq ?_
    refine w_reg rfl ?_
    refine v_move rfl ?_
    refine v_move rfl ?_
    refine v_assign rfl ?_
    refine v_assign rfl ?_
    refine v_assign rfl ?_
    refine v_nil ?_
    refine q_n ?_
    refine w_ret (q_br (q_r (q_br (q_r ?_))))
    refine r_r rfl ?_
    have hst : step (ls[i]'hi1) i acs os = (3, i, acs, os) := (step_at hws).trans (by first | exact sw_t3 hw0 (by assumption) (by omega) (by omega) | exact sw_a1 hw0 (some_no (by assumption)) (by assumption) (by omega))
    rw [(cmpR_ok hok).trans (hr.at_err hi1 hst (by decide))]
    exact l_ans [none] rfl rfl ⟨rfl, trivial⟩ (a_tup (.cons (tr_nil rfl) (.cons tr_v (.cons tr_v .nil))))
  refine v_nil ?_
  refine d_call (cCodeIf _ _) rfl rfl rfl rfl rfl (.cons vw_v (.cons vw_v .nil)) ?_
  refine d_z (.c (.sl true 3 1 (flat int [_, _, _]))) rfl rfl rfl ?_
  refine d_call (cFirst [_, _, _] (Nat.le_of_ble_eq_true rfl)) rfl rfl rfl rfl rfl (.cons vw_sl .nil) ?_
  refine d_q rfl rfl rfl rfl rfl ?_
  refine v_assign rfl ?_
  refine v_nil ?_
  refine d_nil ?_
  refine q_n ?_
  refine w_seq ?_
  refine w_reg rfl ?_
  refine v_move rfl ?_
  refine v_neq lay2 rfl rfl (fun h17 => ?_) (fun h17 => ?_)
  · exact absurd (by decide) h17
  refine v_nil ?_
  refine q_n ?_
  refine w_f rfl ?_
  refine w_skip ?_
  refine q_n ?_
  refine w_seq ?_
  refine w_draw [0, 0, 2, 6, 14, 0, 32, 96, 224, 0, 992, 2016, 4094, 8191, 16383, 32767] [⟨0, 0, []⟩, ⟨1, 0, []⟩, ⟨2, 0, []⟩, ⟨3, 0, []⟩, ⟨4, 0, []⟩, ⟨5, 0, []⟩, ⟨6, 0, []⟩, ⟨7, 0, []⟩, ⟨8, 0, []⟩, ⟨9, 0, []⟩, ⟨10, 0, []⟩, ⟨11, 2, []⟩, ⟨12, 1, []⟩, ⟨13, 0, []⟩, ⟨14, 0, []⟩, ⟨15, 1, []⟩] rfl rfl ?_
  refine d_q rfl rfl rfl rfl rfl ?_
  refine v_move rfl ?_
  refine v_nil ?_
  refine d_q rfl rfl rfl rfl rfl ?_
  refine v_move rfl ?_
  refine v_nil ?_
  refine d_q rfl rfl rfl rfl rfl ?_
  refine v_nil_pt rfl ?_
  refine v_nil ?_
  refine d_q rfl rfl rfl rfl rfl ?_
  refine v_fa_pt (off' := 1) lay41 rfl rfl rfl ?_
  refine v_nil ?_
  refine d_q rfl rfl rfl rfl rfl ?_
  refine v_load_pt (.c _) lay39 rfl rfl rfl rfl ?_
  refine v_nil ?_
  refine d_q rfl rfl rfl rfl rfl ?_
  refine v_move rfl ?_
  refine v_nil ?_
  refine d_q rfl rfl rfl rfl rfl ?_
  refine v_nil_pt rfl ?_
  refine v_nil ?_
  refine d_q rfl rfl rfl rfl rfl ?_
  refine v_fa_pt (off' := 2) lay41 rfl rfl rfl ?_
  refine v_nil ?_
  refine d_q rfl rfl rfl rfl rfl ?_
  refine v_load_pt (.c _) lay3 rfl rfl rfl rfl ?_
  refine v_nil ?_
  refine d_q rfl rfl rfl rfl rfl ?_
  refine v_move rfl ?_
  refine v_nil ?_
  refine d_q rfl rfl rfl rfl rfl ?_
  refine v_build [(0, 1), (1, 1)] [.v _, .v _] lay68 rfl rfl ?_
  refine v_nil ?_
  refine d_z (.c (.sl true 1 2 (flat opI [((i : Int) + 1, nineV w)]))) rfl rfl rfl ?_
  refine d_e rfl rfl rfl ?_
  refine v_app_flat_sl (H' := [_, _, _, _, _, _]) opI_sc opI_len lay39 lay68 rfl rfl (by first | rfl | (simp [opL]; done)) rfl rfl rfl (by unfold maxLen; simp only []; omega) rfl rfl ?_
  refine v_nil ⟨again_nil, ?_⟩
  refine d_q rfl rfl rfl rfl rfl ?_
  refine v_nil_pt rfl ?_
  refine v_nil ?_
  refine d_q rfl rfl rfl rfl rfl ?_
  refine v_fa_pt (off' := 1) lay41 rfl rfl rfl ?_
  refine v_nil ?_
  refine d_e rfl rfl rfl ?_
  refine v_store (H' := [⟨[_, _, _], 41, true⟩, _, _, _, _, _]) lay39 rfl rfl rfl rfl rfl rfl ?_
  refine v_nil ⟨again_nil, ?_⟩
  refine d_nil ?_
  refine q_n ?_
  refine w_seq ?_
  refine w_reg rfl ?_
  refine v_assign (c := .v (.int .i64 0)) rfl ?_
  refine v_nil ?_
  refine q_n ?_
  refine w_ret ?_
  refine r_r rfl ?_
  refine v_assign rfl ?_
  refine v_nil ?_
  refine q_n ?_
  refine w_ret (q_br (q_r ?_))
  refine r_r rfl ?_
  refine v_assign rfl ?_
  refine v_nil ?_
  refine q_n ?_
  refine w_seq ?_
  refine w_reg rfl ?_
  refine v_move rfl ?_
  refine v_neq lay2 rfl rfl (fun h18 => ?_) (fun h18 => ?_)
  · exact absurd (by decide) h18
  refine v_nil ?_
  refine q_n ?_
  refine w_f rfl ?_
  refine w_skip ?_
  refine q_bn ?_
  refine q_n ?_
  obtain ⟨m, hlt, hm⟩ := hr.at_go hi1 ((step_at hws).trans (sw_t hw0 (by assumption) (by omega) (by omega)))
  refine ⟨_, _, _, ?_, ⟨i + 1, acs, os ++ [(i + 1, (nineV w - 1).toNat)], hm, by omega, ha, by rw [List.length_append]; show os.length + 1 ≤ 2; omega, ?_, rfl, rfl⟩, hlt⟩
  · exact turn [some 0, some 1, some 5, some 3] rfl rfl rfl ⟨⟨_, rfl, .cons (tr_mu rfl) (.cons (tr_mun rfl (by simp)) (.cons tr_v .nil))⟩, ⟨_, rfl, trc_flat acE_sc rfl⟩, ⟨_, rfl, trc_flat opI_sc (congrArg (flat opI) (by simp [opL]; omega))⟩, ⟨_, rfl, trc_flat st_sc rfl⟩, trivial⟩ ⟨tr_mu rfl, tr_pt rfl, trivial⟩
  · intro o hq
    rcases List.mem_append.1 hq with hq | hq
    · exact hb o hq
    · obtain rfl : o = (i + 1, (nineV w - 1).toNat) := by simpa using hq
      exact ⟨by show i + 1 ≤ ls.length; omega, by show (nineV w - 1).toNat ≤ 15; omega⟩
end Go.VL
namespace Go.VL
open Go.RowKit
set_option maxRecDepth 20000
set_option maxHeartbeats 8000000
theorem fop_ok {op : BinOp} {k : FloatKind} {x y : Option Nat} : okF k (fop op k x y) := fun c h => by
  cases x with
  | none => cases h
  | some a => cases y with
    | none => cases h
    | some b => exact fbin_num (op := op) (a := a) (b := b) (by cases op <;> first | exact h | cases h)
theorem frv_ok (s : List UInt8) : okF .f32 (frv s) := by
  unfold frv
  split
  · exact fop_ok
  · exact okF_fOf 0
def acOk (a : AD) : Prop := okF .f32 a.2.2.2.2
theorem rdA_ok {w0 : List UInt8} {wr : List (List UInt8)} : acOk (gA w0 wr) := by
  unfold gA rdA
  have h0 : acOk noA := okF_fOf 0
  repeat' (first | exact h0 | exact frv_ok _ | exact okF_fOf 0 | split)
theorem stepW_acts {w0 : List UInt8} {wr : List (List UInt8)} {i : Nat} {acs : List AD} {os : Stk} {c : Int} {j : Nat} {bs : List AD} {qs : Stk} (e : stepW w0 wr i acs os = (c, j, bs, qs)) : bs = acs ∨ (acs.length ≠ 120 ∧ bs = acs ++ [gA w0 wr]) := by
  have no : ∀ {c' : Int} {j' : Nat} {qs' : Stk}, (c', j', acs, qs') = (c, j, bs, qs) → bs = acs := fun h => by
    simp only [Prod.mk.injEq] at h
    exact h.2.2.1.symm
  unfold stepW at e
  split at e
  · split at e
    · split at e
      · split at e
        · split at e
          · exact .inl (no e)
          · exact .inl (no e)
        · exact .inl (no e)
      · exact .inl (no e)
    · exact .inl (no e)
  · split at e
    · split at e
      · split at e
        · exact .inl (no e)
        · split at e
          · exact .inl (no e)
          · exact .inl (no e)
      · exact .inl (no e)
    · cases hr : rdA w0 wr with
      | none => rw [hr] at e; exact .inl (no e)
      | some a =>
        rw [hr] at e
        simp only at e
        split at e
        · exact .inl (no e)
        · rename_i h1
          simp only [Prod.mk.injEq] at e
          refine .inr ⟨h1, e.2.2.1.symm.trans ?_⟩
          unfold gA
          rw [hr]
          rfl
def acsOk (l : List AD) : Prop := l.length ≤ 120 ∧ ∀ a ∈ l, acOk a
theorem acsOk_nil : acsOk [] := ⟨by decide, fun a h => by cases h⟩
theorem step_acts {l : List UInt8} {i : Nat} {acs : List AD} {os : Stk} {c : Int} {j : Nat} {bs : List AD} {qs : Stk} (e : step l i acs os = (c, j, bs, qs)) (h : acsOk acs) : acsOk bs := by
  unfold step at e
  split at e
  · simp only [Prod.mk.injEq] at e
    obtain ⟨-, -, rfl, -⟩ := e
    exact h
  · rcases stepW_acts e with rfl | ⟨h1, rfl⟩
    · exact h
    · refine ⟨?_, fun a ha => ?_⟩
      · rw [List.length_append]
        have := h.1
        show acs.length + 1 ≤ 120
        omega
      · rcases List.mem_append.1 ha with ha | ha
        · exact h.2 a ha
        · obtain rfl := List.mem_singleton.1 ha
          exact rdA_ok
theorem Runs.acts {ls : List (List UInt8)} {n i : Nat} {acs : List AD} {os : Stk} {R : Res} (hr : Runs ls n i acs os R) (h : acsOk acs) : acsOk R.1 := by
  induction hr with
  | stop h' => exact h
  | left h' ho => exact acsOk_nil
  | err h' hs hc => exact acsOk_nil
  | go h' hs hr ih => exact ih (step_acts hs h)
theorem cmp_acts {s : List UInt8} {ls : List (List UInt8)} {n : Nat} {R : Res} (hr : Runs ls n 0 [] [] R) : acsOk (cmpR s ls R).1 := by
  unfold cmpR
  split
  · exact acsOk_nil
  · exact hr.acts acsOk_nil
def fl (x : Int) : Option Nat := some (FloatKind.f32.nearest x)
theorem fl_ne {x : Option Nat} {y z : Int} (h : x = fl y) (e : y = z) : (ford .f32 x (some (FloatKind.f32.nearest z)) != some .eq) = false := by
  subst h e
  show (ford .f32 (some _) (some _) != some .eq) = false
  rw [ford_self (okF_near y)]
  rfl
def amark (a : Int) (i : Nat) : AD := (a + 5 * i, a + 5 * i + 1, a + 5 * i + 2, a + 5 * i + 3, fl (a + 5 * i + 4))
theorem marks_at {α : Type} {f : Nat → α} {i : Nat} {xs : List α} (h : i < xs.length) (h' : i < (marks f i xs).length) : (marks f i xs)[i] = xs[i] := by
  have e : (marks f i xs)[i]? = some xs[i] := by
    unfold marks
    rw [List.getElem?_append_right (by simp)]
    simp [h]
  exact Option.some.inj ((List.getElem?_eq_getElem h').symm.trans e)
theorem am_step {a : Int} {i : Nat} {xs : List AD} {e0 e1 e2 e3 e4 : AD} (hi : i < xs.length) (h : e4 = amark a i) : (((((marks (amark a) i xs).set i e0).set i e1).set i e2).set i e3).set i e4 = marks (amark a) (i + 1) xs := by
  rw [List.set_set, List.set_set, List.set_set, List.set_set, h]
  exact marks_step hi
theorem am_eq {a : Int} {i : Nat} {b c d e : Int} (h1 : b = a + 5 * i + 1) (h2 : c = a + 5 * i + 2) (h3 : d = a + 5 * i + 3) (h4 : e = a + 5 * i + 4) : ((a + 5 * i, b, c, d, fl e) : AD) = amark a i := by
  subst h1 h2 h3 h4
  rfl
theorem am_at {a : Int} {n i : Nat} (h : i < ((List.range n).map (amark a)).length) : ((List.range n).map (amark a))[i] = amark a i := by simp
variable [Inhabited Env]
theorem cSFs (b : Nat) (hx : okF .f64 (some b)) : PureC X 21 [.c (.f .f64 (some b)), .c (.f .f64 (some b))] (cB (decide True)) := by
  refine PureC.of_body (drawD_ok X) (fun _ _ => Go.Proofs.Tryd.call21 _ _) Go.Proofs.Tryd.func21 rfl (n := 37) rfl ?_
  refine w_seq ?_
  refine w_reg rfl ?_
  refine v_assign (c := .v (.bool false)) rfl ?_
  refine v_nil ?_
  refine q_n ?_
  refine w_seq ?_
  refine w_seq ?_
  refine w_reg rfl ?_
  refine v_move rfl ?_
  refine v_move rfl ?_
  refine v_binb lay56 rfl rfl rfl (fun h1 => ?_) (fun h1 => ?_)
  · exact absurd h1 (by rw [ford_self hx]; decide)
  refine v_move rfl ?_
  refine v_guard_on rfl rfl ?_
  refine v_move rfl ?_
  refine v_guard_on rfl rfl ?_
  refine v_move rfl ?_
  refine v_guard_on rfl rfl ?_
  refine v_binb lay56 rfl rfl rfl (fun h2 => ?_) (fun h2 => ?_)
  · exact absurd h2 (by rw [ford_self hx]; decide)
  refine v_pick_f rfl rfl ?_
  refine v_nil ?_
  refine q_n ?_
  refine w_f rfl ?_
  refine w_skip ?_
  refine q_n ?_
  refine w_seq ?_
  refine w_seq ?_
  refine w_reg rfl ?_
  refine v_move rfl ?_
  refine v_binb lay56 rfl rfl rfl (fun h3 => ?_) (fun h3 => ?_)
  rotate_left
  · refine v_move rfl ?_
    refine v_guard_off rfl rfl rfl ?_
    refine v_guard_off rfl rfl rfl ?_
    refine v_pick_f (v := .v (.bool false)) rfl rfl ?_
    refine v_nil ?_
    refine q_n ?_
    refine w_f rfl ?_
    refine w_skip ?_
    refine q_n ?_
    refine w_seq ?_
    refine w_reg rfl ?_
    refine v_move rfl ?_
    refine v_move rfl ?_
    refine v_binb lay56 rfl rfl rfl (fun h8 => ?_) (fun h8 => ?_)
    rotate_left
    · exact absurd h8 (by rw [ford_self hx]; decide)
    refine v_assign rfl ?_
    refine v_nil ?_
    refine q_n ?_
    refine w_ret ?_
    refine r_r rfl ?_
    exact a_b ⟨fun _ => trivial, fun _ => rfl⟩
  refine v_move rfl ?_
  refine v_guard_on rfl rfl ?_
  refine v_move rfl ?_
  refine v_guard_on rfl rfl ?_
  refine v_binb lay56 rfl rfl rfl (fun h4 => ?_) (fun h4 => ?_)
  rotate_left
  · exact absurd (h3.symm.trans h4) (by decide)
  refine v_pick_t rfl rfl ?_
  refine v_nil ?_
  refine q_n ?_
  refine w_t rfl ?_
  refine w_seq ?_
  refine w_reg rfl ?_
  refine v_move rfl ?_
  refine v_bin (c := .f _ _) lay56 rfl rfl rfl ?_
  refine v_binb lay56 rfl rfl rfl (fun h5 => ?_) (fun h5 => ?_)
  rotate_left
  · refine v_move rfl ?_
    refine v_bin (c := .f _ _) lay56 rfl rfl rfl ?_
    refine v_binb lay56 rfl rfl rfl (fun h7 => ?_) (fun h7 => ?_)
    · exact absurd (h7.symm.trans h5) (by decide)
    refine v_bin (c := .v (.bool true)) lay4 rfl rfl rfl ?_
    refine v_assign rfl ?_
    refine v_nil ?_
    refine q_n ?_
    refine w_ret (q_r ?_)
    refine r_r rfl ?_
    exact a_b ⟨fun _ => trivial, fun _ => rfl⟩
  refine v_move rfl ?_
  refine v_bin (c := .f _ _) lay56 rfl rfl rfl ?_
  refine v_binb lay56 rfl rfl rfl (fun h6 => ?_) (fun h6 => ?_)
  rotate_left
  · exact absurd (h5.symm.trans h6) (by decide)
  refine v_bin (c := .v (.bool true)) lay4 rfl rfl rfl ?_
  refine v_assign rfl ?_
  refine v_nil ?_
  refine q_n ?_
  refine w_ret (q_r ?_)
  refine r_r rfl ?_
  exact a_b ⟨fun _ => trivial, fun _ => rfl⟩

theorem cSFn : PureC X 21 [.c (.f .f64 none), .c (.f .f64 none)] (cB (decide True)) := by
  refine PureC.of_body (drawD_ok X) (fun _ _ => Go.Proofs.Tryd.call21 _ _) Go.Proofs.Tryd.func21 rfl (n := 37) rfl ?_
  refine w_seq ?_
  refine w_reg rfl ?_
  refine v_assign (c := .v (.bool false)) rfl ?_
  refine v_nil ?_
  refine q_n ?_
  refine w_seq ?_
  refine w_seq ?_
  refine w_reg rfl ?_
  refine v_move rfl ?_
  refine v_move rfl ?_
  refine v_binb lay56 rfl rfl rfl (fun h1 => ?_) (fun h1 => ?_)
  rotate_left
  · exact absurd h1 (by decide)
  refine v_move rfl ?_
  refine v_guard_off rfl rfl rfl ?_
  refine v_guard_off rfl rfl rfl ?_
  refine v_guard_off rfl rfl rfl ?_
  refine v_pick_t (v := .v (.bool true)) rfl rfl ?_
  refine v_nil ?_
  refine q_n ?_
  refine w_t rfl ?_
  refine w_seq ?_
  refine w_reg rfl ?_
  refine v_move rfl ?_
  refine v_move rfl ?_
  refine v_binb lay56 rfl rfl rfl (fun h2 => ?_) (fun h2 => ?_)
  rotate_left
  · exact absurd h2 (by decide)
  refine v_move rfl ?_
  refine v_guard_on rfl rfl ?_
  refine v_move rfl ?_
  refine v_guard_on rfl rfl ?_
  refine v_move rfl ?_
  refine v_guard_on rfl rfl ?_
  refine v_binb lay56 rfl rfl rfl (fun h3 => ?_) (fun h3 => ?_)
  rotate_left
  · exact absurd h3 (by decide)
  refine v_pick_t rfl rfl ?_
  refine v_assign rfl ?_
  refine v_nil ?_
  refine q_n ?_
  refine w_ret (q_r ?_)
  refine r_r rfl ?_
  exact a_b ⟨fun _ => trivial, fun _ => rfl⟩

theorem cSF (x : Option Nat) (hx : okF .f64 x) : PureC X 21 [.c (.f .f64 x), .c (.f .f64 x)] (cB (decide True)) := by
  cases x with
  | none => exact cSFn
  | some b => exact cSFs b hx

theorem cEqA (x : AD) (hx : acOk x) : PureC X 13 [.agg (acE x), .agg (acE x)] (cB (decide True)) := by
  refine PureC.of_body (drawD_ok X) (fun _ _ => Go.Proofs.Tryd.call13 _ _) Go.Proofs.Tryd.func13 rfl (n := 33) rfl ?_
  refine w_seq ?_
  refine w_reg rfl ?_
  refine v_box (m := 0) (H' := [_]) lay46 rfl rfl rfl ?_
  refine v_box (m := 1) (H' := [_, _]) lay46 rfl rfl rfl ?_
  refine v_assign (c := .v (.bool false)) rfl ?_
  refine v_nil ?_
  refine q_n ?_
  refine w_seq ?_
  refine w_seq ?_
  refine w_reg rfl ?_
  refine v_fa_pt (off' := 0) lay46 rfl rfl rfl ?_
  refine v_load_pt (.c _) lay2 rfl rfl rfl rfl ?_
  refine v_fa_pt (off' := 0) lay46 rfl rfl rfl ?_
  refine v_load_pt (.c _) lay2 rfl rfl rfl rfl ?_
  refine v_neq lay2 rfl rfl (fun h1 => ?_) (fun h1 => ?_)
  · exact absurd rfl h1
  refine v_nil ?_
  refine q_n ?_
  refine w_f rfl ?_
  refine w_skip ?_
  refine q_n ?_
  refine w_seq ?_
  refine w_seq ?_
  refine w_reg rfl ?_
  refine v_fa_pt (off' := 1) lay46 rfl rfl rfl ?_
  refine v_load_pt (.c _) lay2 rfl rfl rfl rfl ?_
  refine v_fa_pt (off' := 1) lay46 rfl rfl rfl ?_
  refine v_load_pt (.c _) lay2 rfl rfl rfl rfl ?_
  refine v_neq lay2 rfl rfl (fun h2 => ?_) (fun h2 => ?_)
  · exact absurd rfl h2
  refine v_nil ?_
  refine q_n ?_
  refine w_f rfl ?_
  refine w_skip ?_
  refine q_n ?_
  refine w_seq ?_
  refine w_seq ?_
  refine w_reg rfl ?_
  refine v_fa_pt (off' := 2) lay46 rfl rfl rfl ?_
  refine v_load_pt (.c _) lay2 rfl rfl rfl rfl ?_
  refine v_fa_pt (off' := 2) lay46 rfl rfl rfl ?_
  refine v_load_pt (.c _) lay2 rfl rfl rfl rfl ?_
  refine v_neq lay2 rfl rfl (fun h3 => ?_) (fun h3 => ?_)
  · exact absurd rfl h3
  refine v_nil ?_
  refine q_n ?_
  refine w_f rfl ?_
  refine w_skip ?_
  refine q_n ?_
  refine w_seq ?_
  refine w_seq ?_
  refine w_reg rfl ?_
  refine v_fa_pt (off' := 3) lay46 rfl rfl rfl ?_
  refine v_load_pt (.c _) lay2 rfl rfl rfl rfl ?_
  refine v_fa_pt (off' := 3) lay46 rfl rfl rfl ?_
  refine v_load_pt (.c _) lay2 rfl rfl rfl rfl ?_
  refine v_neq lay2 rfl rfl (fun h4 => ?_) (fun h4 => ?_)
  · exact absurd rfl h4
  refine v_nil ?_
  refine q_n ?_
  refine w_f rfl ?_
  refine w_skip ?_
  refine q_n ?_
  refine w_seq ?_
  refine w_seq ?_
  refine w_reg rfl ?_
  refine v_fa_pt (off' := 4) lay46 rfl rfl rfl ?_
  refine v_load_pt (.c _) lay44 rfl rfl rfl rfl ?_
  refine v_conv_ff _ lay44 lay56 rfl (convF_single hx) ?_
  refine v_fa_pt (off' := 4) lay46 rfl rfl rfl ?_
  refine v_load_pt (.c _) lay44 rfl rfl rfl rfl ?_
  refine v_conv_ff _ lay44 lay56 rfl (convF_single hx) ?_
  refine v_callb (cSF _ (wide_ok hx)) rfl rfl (.cons vw_f (.cons vw_f .nil)) (fun h5 => ?_) (fun h5 => ?_)
  rotate_left
  · exact absurd trivial h5
  refine v_not false rfl rfl ?_
  refine v_nil ?_
  refine q_n ?_
  refine w_f rfl ?_
  refine w_skip ?_
  refine q_n ?_
  refine w_seq ?_
  refine w_reg rfl ?_
  refine v_assign (c := .v (.bool true)) rfl ?_
  refine v_nil ?_
  refine q_n ?_
  refine w_ret ?_
  refine r_r rfl ?_
  exact a_b ⟨fun _ => trivial, fun _ => rfl⟩

theorem cEqS (xs : List AD) (hx : xs.length ≤ 2 ^ 40) (hf : ∀ x ∈ xs, acOk x) : PureC X 6 [.c (.sl false xs.length 5 (flat acE xs)), .c (.sl false xs.length 5 (flat acE xs))] (cB (decide True)) := by
  refine PureC.of_body (drawD_ok X) (fun _ _ => Go.Proofs.Tryd.call6 _ _) Go.Proofs.Tryd.func6 rfl (n := 27) rfl ?_
  refine w_seq ?_
  refine w_reg rfl ?_
  refine v_assign (c := .v (.bool false)) rfl ?_
  refine v_nil ?_
  refine q_n ?_
  refine w_seq ?_
  refine w_seq ?_
  refine w_reg rfl ?_
  refine v_move rfl ?_
  refine v_len_sl lay22 rfl ?_
  refine v_move rfl ?_
  refine v_len_sl lay22 rfl ?_
  refine v_neq lay3 rfl rfl (fun h1 => ?_) (fun h1 => ?_)
  · exact absurd rfl h1
  refine v_nil ?_
  refine q_n ?_
  refine w_f rfl ?_
  refine w_skip ?_
  refine q_n ?_
  refine w_seq ?_
  refine w_seq ?_
  refine w_reg rfl ?_
  refine v_assign (c := .v (.int .i64 0)) rfl ?_
  refine v_nil ?_
  refine q_n ?_
  refine w_block ?_
  refine w_loop (fun k sl H => ∃ i : Nat, k = xs.length - i ∧ i ≤ xs.length ∧ sl = sls [(0, .c (.sl false xs.length 5 (flat acE xs))), (1, .c (.sl false xs.length 5 (flat acE xs))), (5, cI i)] ∧ H = []) ?_ ?_
  · refine ⟨_, _, _, ?_, 0, rfl, Nat.zero_le _, rfl, rfl⟩
    exact turn0 ⟨tr_sl, tr_sl, tr_v, trivial⟩
  rintro k sl H ⟨i, rfl, hi, rfl, rfl⟩
  refine w_seq ?_
  refine w_seq ?_
  refine w_reg rfl ?_
  refine v_move rfl ?_
  refine v_move rfl ?_
  refine v_len_sl lay22 rfl ?_
  refine v_lss lay3 rfl rfl (fun h2 => ?_) (fun h2 => ?_)
  rotate_left
  · refine v_nil ?_
    refine q_n ?_
    refine w_f rfl ?_
    refine w_exit ?_
    refine q_e ?_
    refine q_e ?_
    refine q_hit ?_
    refine q_n ?_
    refine w_seq ?_
    refine w_reg rfl ?_
    refine v_assign (c := .v (.bool true)) rfl ?_
    refine v_nil ?_
    refine q_n ?_
    refine w_ret ?_
    refine r_r rfl ?_
    exact a_b ⟨fun _ => trivial, fun _ => rfl⟩
  have hi1 : i < xs.length := by omega
  refine v_nil ?_
  refine q_n ?_
  refine w_t rfl ?_
  refine w_skip ?_
  refine q_n ?_
  refine w_seq ?_
  refine w_block ?_
  refine w_seq ?_
  refine w_draw [0, 0, 3, 7, 0, 0, 48, 112, 255, 511] [⟨0, 0, []⟩, ⟨1, 0, []⟩, ⟨2, 0, []⟩, ⟨3, 0, []⟩, ⟨4, 0, []⟩, ⟨5, 0, []⟩, ⟨6, 0, []⟩, ⟨7, 0, []⟩, ⟨8, 0, []⟩, ⟨9, 0, []⟩] rfl rfl ?_
  refine d_q rfl rfl rfl rfl rfl ?_
  refine v_move rfl ?_
  refine v_nil ?_
  refine d_q rfl rfl rfl rfl rfl ?_
  refine v_move rfl ?_
  refine v_nil ?_
  refine d_q rfl rfl rfl rfl rfl ?_
  refine v_idx_e (k := 5) (i) acE_len lay22 lay46 rfl rfl rfl (rfl) rfl (rfl) (hi1) ?_
  refine v_nil ?_
  refine d_q rfl rfl rfl rfl rfl ?_
  refine v_load_vw (.agg [.v _, .v _, .v _, .v _, .f _ _]) lay46 rfl rfl rfl ?_
  refine v_nil ?_
  refine d_q rfl rfl rfl rfl rfl ?_
  refine v_move rfl ?_
  refine v_nil ?_
  refine d_q rfl rfl rfl rfl rfl ?_
  refine v_move rfl ?_
  refine v_nil ?_
  refine d_q rfl rfl rfl rfl rfl ?_
  refine v_idx_e (k := 5) (i) acE_len lay22 lay46 rfl rfl rfl (rfl) rfl (rfl) (hi1) ?_
  refine v_nil ?_
  refine d_q rfl rfl rfl rfl rfl ?_
  refine v_load_vw (.agg [.v _, .v _, .v _, .v _, .f _ _]) lay46 rfl rfl rfl ?_
  refine v_nil ?_
  refine d_callb (cEqA _ (hf _ (List.getElem_mem hi1))) rfl rfl rfl rfl (.cons (vw_agg (.cons vw_v (.cons vw_v (.cons vw_v (.cons vw_v (.cons vw_f .nil)))))) (.cons (vw_agg (.cons vw_v (.cons vw_v (.cons vw_v (.cons vw_v (.cons vw_f .nil)))))) .nil)) (fun h5 => ?_) (fun h5 => ?_)
  rotate_left
  · exact absurd trivial h5
  refine d_q rfl rfl rfl rfl rfl ?_
  refine v_not false rfl rfl ?_
  refine v_nil ?_
  refine d_nil ?_
  refine q_n ?_
  refine w_f rfl ?_
  refine w_skip ?_
  refine q_bn ?_
  refine q_n ?_
  refine w_reg rfl ?_
  refine v_move rfl ?_
  refine v_add lay3 rfl rfl (i64r (by omega)) ?_
  refine v_assign rfl ?_
  refine v_nil ?_
  refine q_n ?_
  refine ⟨_, _, _, ?_, ⟨i + 1, rfl, by omega, rfl, rfl⟩, by omega⟩
  exact turn0 ⟨tr_sl, tr_sl, tr_v, trivial⟩

theorem cMkA (xs : List AD) (a : Int) (hx : xs.length ≤ 2 ^ 40) (ha : 0 ≤ a ∧ a ≤ 2 ^ 50) : MarkC X 7 xs.length 5 46 (flat acE xs) (.int .i64 a) (.int .i64 (a + 5 * xs.length)) (flat acE ((List.range xs.length).map (amark a))) := by
  refine MarkC.of_body (drawD_ok X) (fun _ _ => Go.Proofs.Tryd.call7 _ _) Go.Proofs.Tryd.func7 rfl (sc_flat acE_sc _) (q := 49) rfl ?_
  refine w_seq ?_
  refine w_reg rfl ?_
  refine v_assign (c := .v (.int .i64 0)) rfl ?_
  refine v_nil ?_
  refine q_n ?_
  refine w_seq ?_
  refine w_seq ?_
  refine w_reg rfl ?_
  refine v_assign (c := .v (.int .i64 0)) rfl ?_
  refine v_nil ?_
  refine q_n ?_
  refine w_block ?_
  refine w_loop (fun k sl H => ∃ i : Nat, k = xs.length - i ∧ i ≤ xs.length ∧ sl = sls [(0, .c (.mu 0 0 xs.length 5)), (1, cI (a + 5 * i)), (5, cI i)] ∧ H = [⟨flat acE (marks (amark a) i xs), 46, true⟩]) ?_ ?_
  · refine ⟨_, _, _, ?_, 0, rfl, Nat.zero_le _, rfl, rfl⟩
    exact turn [some 0] rfl rfl rfl ⟨⟨_, rfl, trc_flat acE_sc rfl⟩, trivial⟩ ⟨tr_mu rfl, tr_i (by simp), tr_v, trivial⟩
  rintro k sl H ⟨i, rfl, hi, rfl, rfl⟩
  refine w_seq ?_
  refine w_seq ?_
  refine w_reg rfl ?_
  refine v_move rfl ?_
  refine v_move rfl ?_
  refine v_len_mu lay22 rfl ?_
  refine v_lss lay3 rfl rfl (fun h1 => ?_) (fun h1 => ?_)
  rotate_left
  · refine v_nil ?_
    refine q_n ?_
    refine w_f rfl ?_
    refine w_exit ?_
    refine q_e ?_
    refine q_e ?_
    refine q_hit ?_
    refine q_n ?_
    refine w_seq ?_
    refine w_reg rfl ?_
    refine v_move rfl ?_
    refine v_assign rfl ?_
    refine v_nil ?_
    refine q_n ?_
    refine w_ret ?_
    refine r_r rfl ?_
    obtain rfl : i = xs.length := by omega
    exact ⟨rfl, [], by rw [← marks_all]⟩
  have hi1 : i < xs.length := by omega
  refine v_nil ?_
  refine q_n ?_
  refine w_t rfl ?_
  refine w_skip ?_
  refine q_n ?_
  refine w_seq ?_
  refine w_block ?_
  refine w_seq ?_
  refine w_reg rfl ?_
  refine v_move rfl ?_
  refine v_move rfl ?_
  refine v_move rfl ?_
  refine v_idx_mu_e (k := 5) (off := 0) (i) lay22 lay46 rfl rfl rfl (rfl) (hi1) ?_
  refine v_fa_pt (off' := _) lay46 rfl rfl rfl ?_
  refine v_store_flat (H' := [_]) i 0 ((a + 5 * (i : Int), (xs[i]).2)) acE_len lay2 rfl rfl rfl (by omega) (by first | (simp only [List.length_set, marks_len (Nat.le_of_lt hi1)]; exact hi1) | (simp only [marks_len (Nat.le_of_lt hi1)]; exact hi1)) rfl rfl (by rw [marks_at hi1]; rfl) rfl ?_
  refine v_nil ?_
  refine q_n ?_
  refine w_seq ?_
  refine w_reg rfl ?_
  refine v_move rfl ?_
  refine v_add lay3 rfl rfl (i64r (by omega)) ?_
  refine v_assign rfl ?_
  refine v_nil ?_
  refine q_n ?_
  refine w_seq ?_
  refine w_reg rfl ?_
  refine v_move rfl ?_
  refine v_move rfl ?_
  refine v_move rfl ?_
  refine v_idx_mu_e (k := 5) (off := 0) (i) lay22 lay46 rfl rfl rfl (rfl) (hi1) ?_
  refine v_fa_pt (off' := _) lay46 rfl rfl rfl ?_
  refine v_store_flat (H' := [_]) i 1 ((a + 5 * (i : Int), a + 5 * (i : Int) + 1, (xs[i]).2.2)) acE_len lay2 rfl rfl rfl (by omega) (by first | (simp only [List.length_set, marks_len (Nat.le_of_lt hi1)]; exact hi1) | (simp only [marks_len (Nat.le_of_lt hi1)]; exact hi1)) rfl rfl (by rw [List.getElem_set_self]; rfl) rfl ?_
  refine v_nil ?_
  refine q_n ?_
  refine w_seq ?_
  refine w_reg rfl ?_
  refine v_move rfl ?_
  refine v_add lay3 rfl rfl (i64r (by omega)) ?_
  refine v_assign rfl ?_
  refine v_nil ?_
  refine q_n ?_
  refine w_seq ?_
  refine w_reg rfl ?_
  refine v_move rfl ?_
  refine v_move rfl ?_
  refine v_move rfl ?_
  refine v_idx_mu_e (k := 5) (off := 0) (i) lay22 lay46 rfl rfl rfl (rfl) (hi1) ?_
  refine v_fa_pt (off' := _) lay46 rfl rfl rfl ?_
  refine v_store_flat (H' := [_]) i 2 ((a + 5 * (i : Int), a + 5 * (i : Int) + 1, a + 5 * (i : Int) + 1 + 1, (xs[i]).2.2.2)) acE_len lay2 rfl rfl rfl (by omega) (by first | (simp only [List.length_set, marks_len (Nat.le_of_lt hi1)]; exact hi1) | (simp only [marks_len (Nat.le_of_lt hi1)]; exact hi1)) rfl rfl (by rw [List.getElem_set_self]; rfl) rfl ?_
  refine v_nil ?_
  refine q_n ?_
  refine w_seq ?_
  refine w_reg rfl ?_
  refine v_move rfl ?_
  refine v_add lay3 rfl rfl (i64r (by omega)) ?_
  refine v_assign rfl ?_
  refine v_nil ?_
  refine q_n ?_
  refine w_seq ?_
  refine w_reg rfl ?_
  refine v_move rfl ?_
  refine v_move rfl ?_
  refine v_move rfl ?_
  refine v_idx_mu_e (k := 5) (off := 0) (i) lay22 lay46 rfl rfl rfl (rfl) (hi1) ?_
  refine v_fa_pt (off' := _) lay46 rfl rfl rfl ?_
  refine v_store_flat (H' := [_]) i 3 ((a + 5 * (i : Int), a + 5 * (i : Int) + 1, a + 5 * (i : Int) + 1 + 1, a + 5 * (i : Int) + 1 + 1 + 1, (xs[i]).2.2.2.2)) acE_len lay2 rfl rfl rfl (by omega) (by first | (simp only [List.length_set, marks_len (Nat.le_of_lt hi1)]; exact hi1) | (simp only [marks_len (Nat.le_of_lt hi1)]; exact hi1)) rfl rfl (by rw [List.getElem_set_self]; rfl) rfl ?_
  refine v_nil ?_
  refine q_n ?_
  refine w_seq ?_
  refine w_reg rfl ?_
  refine v_move rfl ?_
  refine v_add lay3 rfl rfl (i64r (by omega)) ?_
  refine v_assign rfl ?_
  refine v_nil ?_
  refine q_n ?_
  refine w_seq ?_
  refine w_reg rfl ?_
  refine v_move rfl ?_
  refine v_move rfl ?_
  refine v_move rfl ?_
  refine v_conv_if lay3 lay44 rfl ?_
  refine v_idx_mu_e (k := 5) (off := 0) (i) lay22 lay46 rfl rfl rfl (rfl) (hi1) ?_
  refine v_fa_pt (off' := _) lay46 rfl rfl rfl ?_
  refine v_store_flat (H' := [_]) i 4 ((a + 5 * (i : Int), a + 5 * (i : Int) + 1, a + 5 * (i : Int) + 1 + 1, a + 5 * (i : Int) + 1 + 1 + 1, fl (a + 5 * (i : Int) + 1 + 1 + 1 + 1))) acE_len lay44 rfl rfl rfl (by omega) (by first | (simp only [List.length_set, marks_len (Nat.le_of_lt hi1)]; exact hi1) | (simp only [marks_len (Nat.le_of_lt hi1)]; exact hi1)) rfl rfl (by rw [List.getElem_set_self]; rfl) rfl ?_
  refine v_nil ?_
  refine q_n ?_
  refine w_reg rfl ?_
  refine v_move rfl ?_
  refine v_add lay3 rfl rfl (i64r (by omega)) ?_
  refine v_assign rfl ?_
  refine v_nil ?_
  refine q_bn ?_
  refine q_n ?_
  refine w_reg rfl ?_
  refine v_move rfl ?_
  refine v_add lay3 rfl rfl (i64r (by omega)) ?_
  refine v_assign rfl ?_
  refine v_nil ?_
  refine q_n ?_
  refine ⟨_, _, _, ?_, ⟨i + 1, rfl, by omega, rfl, rfl⟩, by omega⟩
  exact turn [some 0] rfl rfl rfl ⟨⟨_, rfl, trc_flat acE_sc (congrArg (flat acE) (am_step hi1 (am_eq (by omega) (by omega) (by omega) (by omega))))⟩, trivial⟩ ⟨tr_mu rfl, tr_i (by push_cast; omega), tr_v, trivial⟩

theorem cHdA (n : Nat) (a : Int) (hx : n ≤ 2 ^ 40) (ha : 0 ≤ a ∧ a ≤ 2 ^ 50) : PureC X 8 [.c (.sl false n 5 (flat acE ((List.range n).map (amark a)))), cI a] (cI (a + 5 * n)) := by
  refine PureC.of_body (drawD_ok X) (fun _ _ => Go.Proofs.Tryd.call8 _ _) Go.Proofs.Tryd.func8 rfl (n := 59) rfl ?_
  have hl : ((List.range n).map (amark a)).length = n := by simp
  refine w_seq ?_
  refine w_reg rfl ?_
  refine v_assign (c := .v (.int .i64 0)) rfl ?_
  refine v_nil ?_
  refine q_n ?_
  refine w_seq ?_
  refine w_seq ?_
  refine w_reg rfl ?_
  refine v_assign (c := .v (.int .i64 0)) rfl ?_
  refine v_nil ?_
  refine q_n ?_
  refine w_block ?_
  refine w_loop (fun k sl H => ∃ i : Nat, k = n - i ∧ i ≤ n ∧ sl = sls [(0, .c (.sl false n 5 (flat acE ((List.range n).map (amark a))))), (1, cI (a + 5 * i)), (5, cI i)] ∧ H = []) ?_ ?_
  · refine ⟨_, _, _, ?_, 0, rfl, Nat.zero_le _, rfl, rfl⟩
    exact turn0 ⟨tr_sl, tr_i (by simp), tr_v, trivial⟩
  rintro k sl H ⟨i, rfl, hi, rfl, rfl⟩
  refine w_seq ?_
  refine w_seq ?_
  refine w_reg rfl ?_
  refine v_move rfl ?_
  refine v_move rfl ?_
  refine v_len_sl lay22 rfl ?_
  refine v_lss lay3 rfl rfl (fun h1 => ?_) (fun h1 => ?_)
  rotate_left
  · refine v_nil ?_
    refine q_n ?_
    refine w_f rfl ?_
    refine w_exit ?_
    refine q_e ?_
    refine q_e ?_
    refine q_hit ?_
    refine q_n ?_
    refine w_seq ?_
    refine w_reg rfl ?_
    refine v_move rfl ?_
    refine v_assign rfl ?_
    refine v_nil ?_
    refine q_n ?_
    refine w_ret ?_
    refine r_r rfl ?_
    obtain rfl : i = n := by omega
    exact tr_v
  have hi1 : i < n := by omega
  have hi2 : i < ((List.range n).map (amark a)).length := by rw [hl]; exact hi1
  refine v_nil ?_
  refine q_n ?_
  refine w_t rfl ?_
  refine w_skip ?_
  refine q_n ?_
  refine w_seq ?_
  refine w_block ?_
  refine w_seq ?_
  refine w_seq ?_
  refine w_reg rfl ?_
  refine v_move rfl ?_
  refine v_move rfl ?_
  refine v_idx_e (k := 5) (i) acE_len lay22 lay46 rfl rfl rfl (hl.symm) rfl (rfl) (hi2) ?_
  refine v_fa_vw (off' := 0) lay46 rfl rfl rfl ?_
  refine v_load_vw (.c (.v _)) lay2 rfl rfl rfl ?_
  refine v_move rfl ?_
  refine v_neq lay2 rfl rfl (fun h3 => ?_) (fun h3 => ?_)
  · exact absurd (by rw [am_at]; first | rfl | (simp only [amark]; omega)) h3
  refine v_nil ?_
  refine q_n ?_
  refine w_f rfl ?_
  refine w_skip ?_
  refine q_n ?_
  refine w_seq ?_
  refine w_reg rfl ?_
  refine v_move rfl ?_
  refine v_add lay3 rfl rfl (i64r (by omega)) ?_
  refine v_assign rfl ?_
  refine v_nil ?_
  refine q_n ?_
  refine w_seq ?_
  refine w_seq ?_
  refine w_reg rfl ?_
  refine v_move rfl ?_
  refine v_move rfl ?_
  refine v_idx_e (k := 5) (i) acE_len lay22 lay46 rfl rfl rfl (hl.symm) rfl (rfl) (hi2) ?_
  refine v_fa_vw (off' := 1) lay46 rfl rfl rfl ?_
  refine v_load_vw (.c (.v _)) lay2 rfl rfl rfl ?_
  refine v_move rfl ?_
  refine v_neq lay2 rfl rfl (fun h5 => ?_) (fun h5 => ?_)
  · exact absurd (by rw [am_at]; first | rfl | (simp only [amark]; omega)) h5
  refine v_nil ?_
  refine q_n ?_
  refine w_f rfl ?_
  refine w_skip ?_
  refine q_n ?_
  refine w_seq ?_
  refine w_reg rfl ?_
  refine v_move rfl ?_
  refine v_add lay3 rfl rfl (i64r (by omega)) ?_
  refine v_assign rfl ?_
  refine v_nil ?_
  refine q_n ?_
  refine w_seq ?_
  refine w_seq ?_
  refine w_reg rfl ?_
  refine v_move rfl ?_
  refine v_move rfl ?_
  refine v_idx_e (k := 5) (i) acE_len lay22 lay46 rfl rfl rfl (hl.symm) rfl (rfl) (hi2) ?_
  refine v_fa_vw (off' := 2) lay46 rfl rfl rfl ?_
  refine v_load_vw (.c (.v _)) lay2 rfl rfl rfl ?_
  refine v_move rfl ?_
  refine v_neq lay2 rfl rfl (fun h7 => ?_) (fun h7 => ?_)
  · exact absurd (by rw [am_at]; first | rfl | (simp only [amark]; omega)) h7
  refine v_nil ?_
  refine q_n ?_
  refine w_f rfl ?_
  refine w_skip ?_
  refine q_n ?_
  refine w_seq ?_
  refine w_reg rfl ?_
  refine v_move rfl ?_
  refine v_add lay3 rfl rfl (i64r (by omega)) ?_
  refine v_assign rfl ?_
  refine v_nil ?_
  refine q_n ?_
  refine w_seq ?_
  refine w_seq ?_
  refine w_reg rfl ?_
  refine v_move rfl ?_
  refine v_move rfl ?_
  refine v_idx_e (k := 5) (i) acE_len lay22 lay46 rfl rfl rfl (hl.symm) rfl (rfl) (hi2) ?_
  refine v_fa_vw (off' := 3) lay46 rfl rfl rfl ?_
  refine v_load_vw (.c (.v _)) lay2 rfl rfl rfl ?_
  refine v_move rfl ?_
  refine v_neq lay2 rfl rfl (fun h9 => ?_) (fun h9 => ?_)
  · exact absurd (by rw [am_at]; first | rfl | (simp only [amark]; omega)) h9
  refine v_nil ?_
  refine q_n ?_
  refine w_f rfl ?_
  refine w_skip ?_
  refine q_n ?_
  refine w_seq ?_
  refine w_reg rfl ?_
  refine v_move rfl ?_
  refine v_add lay3 rfl rfl (i64r (by omega)) ?_
  refine v_assign rfl ?_
  refine v_nil ?_
  refine q_n ?_
  refine w_seq ?_
  refine w_seq ?_
  refine w_reg rfl ?_
  refine v_move rfl ?_
  refine v_move rfl ?_
  refine v_idx_e (k := 5) (i) acE_len lay22 lay46 rfl rfl rfl (hl.symm) rfl (rfl) (hi2) ?_
  refine v_fa_vw (off' := 4) lay46 rfl rfl rfl ?_
  refine v_load_vw (.c (.f _ _)) lay44 rfl rfl rfl ?_
  refine v_move rfl ?_
  refine v_conv_if lay3 lay44 rfl ?_
  refine v_binb lay44 rfl rfl rfl (fun h11 => ?_) (fun h11 => ?_)
  · exact absurd (h11.symm.trans (fl_ne (y := a + 5 * i + 4) (by rw [am_at]; rfl) (by omega))) (by decide)
  refine v_nil ?_
  refine q_n ?_
  refine w_f rfl ?_
  refine w_skip ?_
  refine q_n ?_
  refine w_reg rfl ?_
  refine v_move rfl ?_
  refine v_add lay3 rfl rfl (i64r (by omega)) ?_
  refine v_assign rfl ?_
  refine v_nil ?_
  refine q_bn ?_
  refine q_n ?_
  refine w_reg rfl ?_
  refine v_move rfl ?_
  refine v_add lay3 rfl rfl (i64r (by omega)) ?_
  refine v_assign rfl ?_
  refine v_nil ?_
  refine q_n ?_
  refine ⟨_, _, _, ?_, ⟨i + 1, rfl, by omega, rfl, rfl⟩, by omega⟩
  exact turn0 ⟨tr_sl, tr_i (by push_cast; omega), tr_v, trivial⟩

theorem cLaw3 (s : List UInt8) : PureC X 3 [cS s] (cB true) := by
  refine PureC.of_body (drawD_ok X) (fun _ _ => Go.Proofs.Tryd.call3 _ _) Go.Proofs.Tryd.func3 rfl (n := 82) rfl ?_
  refine w_seq ?_
  refine w_reg rfl ?_
  refine v_assign (c := .v (.bool false)) rfl ?_
  refine v_nil ?_
  refine q_n ?_
  refine w_seq ?_
  refine w_seq ?_
  refine w_reg rfl ?_
  refine v_move rfl ?_
  refine v_len_s lay9 rfl ?_
  refine v_gtr lay3 rfl rfl (fun h1 => ?_) (fun h1 => ?_)
  · refine v_nil ?_
    refine q_n ?_
    refine w_t rfl ?_
    refine w_seq ?_
    refine w_reg rfl ?_
    refine v_assign (c := .v (.bool true)) rfl ?_
    refine v_nil ?_
    refine q_n ?_
    refine w_ret (q_r ?_)
    refine r_r rfl ?_
    exact tr_v
  have hs : s.length ≤ 1048576 := by have := h1; have h0 : (tx s).size = s.length := rfl; omega
  obtain ⟨n0, R, hR⟩ := ends0 (ls := lnsOf (splitB 10 s)) _ 0 [] (Nat.le_refl _)
  have hq := cmp_acts (s := s) hR
  refine v_nil ?_
  refine q_n ?_
  refine w_f rfl ?_
  refine w_skip ?_
  refine q_n ?_
  refine w_seq ?_
  refine w_reg rfl ?_
  refine v_move rfl ?_
  refine v_call (cCmpS1 s hs _ rfl R n0 hR) rfl rfl rfl (.cons vw_v .nil) ?_
  refine v_move_t rfl ?_
  refine v_extract_c rfl rfl ?_
  refine v_extract_c rfl rfl ?_
  refine v_extract_c rfl rfl ?_
  refine v_assign rfl ?_
  refine v_assign rfl ?_
  refine v_assign rfl ?_
  refine v_nil ?_
  refine q_n ?_
  refine w_seq ?_
  refine w_reg rfl ?_
  refine v_move rfl ?_
  refine v_live1 (N := 0) (H' := [_]) (cCmpI1 s hs _ rfl R n0 hR) (sc_flat acE_sc _) rfl rfl rfl rfl rfl rfl (.cons vw_v .nil) ?_
  refine v_move_t rfl ?_
  refine v_extract_c rfl rfl ?_
  refine v_extract_c rfl rfl ?_
  refine v_extract_c rfl rfl ?_
  refine v_assign rfl ?_
  refine v_assign rfl ?_
  refine v_assign rfl ?_
  refine v_nil ?_
  refine q_n ?_
  refine w_seq ?_
  refine w_seq ?_
  refine w_reg rfl ?_
  refine v_move rfl ?_
  refine v_move rfl ?_
  refine v_callb (cEqS _ (by have := hq.1; omega) hq.2) rfl rfl (.cons (vw_mu2 acE_sc acE_len rfl (by first | (simp; done) | (simp; omega))) (.cons vw_sl .nil)) (fun h2 => ?_) (fun h2 => ?_)
  rotate_left
  · exact absurd trivial h2
  refine v_not false rfl rfl ?_
  refine v_move rfl ?_
  refine v_guard_on rfl rfl ?_
  refine v_move rfl ?_
  refine v_guard_on rfl rfl ?_
  refine v_move rfl ?_
  refine v_guard_on rfl rfl ?_
  refine v_neq lay2 rfl rfl (fun h3 => ?_) (fun h3 => ?_)
  · exact absurd rfl h3
  refine v_pick_f rfl rfl ?_
  refine v_move rfl ?_
  refine v_guard_on rfl rfl ?_
  refine v_move rfl ?_
  refine v_guard_on rfl rfl ?_
  refine v_move rfl ?_
  refine v_guard_on rfl rfl ?_
  refine v_neq lay2 rfl rfl (fun h4 => ?_) (fun h4 => ?_)
  · exact absurd rfl h4
  refine v_pick_f rfl rfl ?_
  refine v_nil ?_
  refine q_n ?_
  refine w_f rfl ?_
  refine w_skip ?_
  refine q_n ?_
  refine w_seq ?_
  refine w_reg rfl ?_
  refine v_assign (c := .v (.int .i64 1)) rfl ?_
  refine v_nil ?_
  refine q_n ?_
  refine w_seq ?_
  refine w_reg rfl ?_
  refine v_move rfl ?_
  refine v_move rfl ?_
  refine v_mark (H' := [_]) (cMkA _ 1 (by have := hq.1; omega) (by omega)) rfl (sc_flat acE_sc _) (sc_flat acE_sc _) rfl rfl rfl rfl ?_
  refine v_assign rfl ?_
  refine v_nil ?_
  refine q_n ?_
  refine w_seq ?_
  refine w_reg rfl ?_
  refine v_assign (c := .v (.int .i64 1)) rfl ?_
  refine v_nil ?_
  refine q_n ?_
  refine w_seq ?_
  refine w_reg rfl ?_
  refine v_move rfl ?_
  refine v_move rfl ?_
  refine v_call (cHdA _ 1 (by have := hq.1; omega) (by omega)) rfl rfl rfl (.cons (vw_mu2 acE_sc acE_len rfl (by first | (simp; done) | (simp; omega))) (.cons vw_v .nil)) ?_
  refine v_assign rfl ?_
  refine v_nil ?_
  refine q_n ?_
  refine w_seq ?_
  refine w_seq ?_
  refine w_reg rfl ?_
  refine v_move rfl ?_
  refine v_lss lay3 rfl rfl (fun h5 => ?_) (fun h5 => ?_)
  · exfalso; omega
  refine v_nil ?_
  refine q_n ?_
  refine w_f rfl ?_
  refine w_skip ?_
  refine q_n ?_
  refine w_seq ?_
  refine w_seq ?_
  refine w_reg rfl ?_
  refine v_move rfl ?_
  refine v_move rfl ?_
  refine v_neq lay3 rfl rfl (fun h6 => ?_) (fun h6 => ?_)
  · exact absurd rfl h6
  refine v_nil ?_
  refine q_n ?_
  refine w_f rfl ?_
  refine w_skip ?_
  refine q_n ?_
  refine w_seq ?_
  refine w_reg rfl ?_
  refine v_move rfl ?_
  refine v_live1 (N := 1) (H' := [_, _]) (cCmpI1 s hs _ rfl R n0 hR) (sc_flat acE_sc _) rfl rfl rfl rfl rfl rfl (.cons vw_v .nil) ?_
  refine v_move_t rfl ?_
  refine v_extract_c rfl rfl ?_
  refine v_extract_c rfl rfl ?_
  refine v_extract_c rfl rfl ?_
  refine v_assign rfl ?_
  refine v_assign rfl ?_
  refine v_assign rfl ?_
  refine v_nil ?_
  refine q_n ?_
  refine w_seq ?_
  refine w_seq ?_
  refine w_reg rfl ?_
  refine v_move rfl ?_
  refine v_move rfl ?_
  refine v_callb (cEqS _ (by have := hq.1; omega) hq.2) rfl rfl (.cons (vw_mu2 acE_sc acE_len rfl (by first | (simp; done) | (simp; omega))) (.cons vw_sl .nil)) (fun h7 => ?_) (fun h7 => ?_)
  rotate_left
  · exact absurd trivial h7
  refine v_not false rfl rfl ?_
  refine v_move rfl ?_
  refine v_guard_on rfl rfl ?_
  refine v_move rfl ?_
  refine v_guard_on rfl rfl ?_
  refine v_move rfl ?_
  refine v_guard_on rfl rfl ?_
  refine v_neq lay2 rfl rfl (fun h8 => ?_) (fun h8 => ?_)
  · exact absurd rfl h8
  refine v_pick_f rfl rfl ?_
  refine v_move rfl ?_
  refine v_guard_on rfl rfl ?_
  refine v_move rfl ?_
  refine v_guard_on rfl rfl ?_
  refine v_move rfl ?_
  refine v_guard_on rfl rfl ?_
  refine v_neq lay2 rfl rfl (fun h9 => ?_) (fun h9 => ?_)
  · exact absurd rfl h9
  refine v_pick_f rfl rfl ?_
  refine v_nil ?_
  refine q_n ?_
  refine w_f rfl ?_
  refine w_skip ?_
  refine q_n ?_
  refine w_seq ?_
  refine w_reg rfl ?_
  refine v_assign (c := .v (.int .i64 1)) rfl ?_
  refine v_nil ?_
  refine q_n ?_
  refine w_seq ?_
  refine w_reg rfl ?_
  refine v_move rfl ?_
  refine v_move rfl ?_
  refine v_call (cHdA _ 1 (by have := hq.1; omega) (by omega)) rfl rfl rfl (.cons (vw_mu2 acE_sc acE_len rfl (by first | (simp; done) | (simp; omega))) (.cons vw_v .nil)) ?_
  refine v_assign rfl ?_
  refine v_nil ?_
  refine q_n ?_
  refine w_seq ?_
  refine w_seq ?_
  refine w_reg rfl ?_
  refine v_move rfl ?_
  refine v_lss lay3 rfl rfl (fun h10 => ?_) (fun h10 => ?_)
  · exfalso; omega
  refine v_nil ?_
  refine q_n ?_
  refine w_f rfl ?_
  refine w_skip ?_
  refine q_n ?_
  refine w_seq ?_
  refine w_seq ?_
  refine w_reg rfl ?_
  refine v_move rfl ?_
  refine v_move rfl ?_
  refine v_neq lay3 rfl rfl (fun h11 => ?_) (fun h11 => ?_)
  · exact absurd rfl h11
  refine v_nil ?_
  refine q_n ?_
  refine w_f rfl ?_
  refine w_skip ?_
  refine q_n ?_
  refine w_seq ?_
  refine w_reg rfl ?_
  refine v_assign (c := .v (.bool true)) rfl ?_
  refine v_nil ?_
  refine q_n ?_
  refine w_ret ?_
  refine r_r rfl ?_
  exact tr_v
end Go.VL
namespace Go.Proofs.YtciahnkkncahjaaDoor
namespace B0
open Go.RowKit Go.WideShapes Go.ChangeShapes Go.ChangeAt
section
variable {H : Type} {enc : TypeId × Value → H} {P : Program}

theorem post_of_below {f : Func} {s : ChangeSpec} {apart fresh handsOn again : Bool} {W W' : World} {args : Array Value} {v : Value} {ds gs : List (DataW H)} {before pa pv : List MemPlace}
    (hW : DataW.Whole enc P f.params.toList s.vars apart W args.toList ds gs before)
    (hres : ∀ (b : Nat) (sp : Nat → Bool) (hd : Bool), DataW.TrodAll enc P W' b sp hd f.resultTypes.toList (v.resultList f.resultTypes.size) (s.fn H (ds ++ gs)).results [])
    (hargs : ∀ sp : Nat → Bool, (∀ p ∈ before, sp p.block = true) → DataW.TrodAll enc P W' 0 sp true f.params.toList args.toList (s.fn H (ds ++ gs)).args pa)
    (hvars : ∀ sp : Nat → Bool, (∀ p ∈ before, sp p.block = true) → DataW.TrodVars enc P W' sp s.vars (s.fn H (ds ++ gs)).vars pv)
    (hps : before = pa ++ pv) (hb : Below W.heap.size W W')
    (hok : ∀ (j : Nat) (t : TypeId) (r : Value), f.resultTypes[j]? = some t → (v.resultList f.resultTypes.size)[j]? = some r → Value.okWide P W' .any 0 t r) :
    s.post enc P f apart fresh handsOn again W args v W' := by
  have hlt : ∀ p ∈ before, p.block < W.heap.size := fun p hp => hW.lt p hp
  have hold : ∀ p ∈ before, (fun b => decide (b < W.heap.size)) p.block = true := fun p hp => by simpa using hlt p hp
  refine ⟨ds, gs, before, [], pa, pv, hW, hres _ _ _, hargs _ hold, hvars _ hold, World.keptBut_mono (fun p hp => ⟨hp, ?_⟩) (hb.frame (· ∈ before)), fun _ => ?_⟩
  · rw [hps, List.mem_append] at hp
    exact Or.inr hp
  · obtain ⟨_, _, _, _, _, hz, hn⟩ := hW
    refine ⟨hok, _, _, ([] ++ pa) ++ pv, ⟨[] ++ pa, pv, trodAll_append (hargs _ (fun _ _ => rfl)) (hres _ _ _), hvars _ (fun _ _ => rfl), rfl, ?_, ?_⟩, ?_⟩
    · intro b off hp
      have hin : MemPlace.cell b off ∈ before := by rw [hps]; simpa using hp
      rw [hb.frozen (hlt _ hin)]
      exact hz b off hin
    · intro ha
      have := hn ha
      rw [hps] at this
      simpa using this
    · intro p hp _
      rw [hps]
      simpa using hp

theorem trodAll_stays (hl : laidOutB P = true) {W W' : World} {sp' : Nat → Bool} : ∀ {ts : List TypeId} {vs : List Value} {ds : List (DataW H)} {ps : List MemPlace},
    (∀ t ∈ ts, P.readableRec t = true ∧ t < P.types.size) → DataW.TrodAll enc P W 0 (fun _ => true) true ts vs ds ps → (∀ p ∈ ps, W.sameAt W' p) → (∀ p ∈ ps, sp' p.block = true) →
    DataW.TrodAll enc P W' 0 sp' true ts vs ds ps
  | [], vs, ds, ps, _, h, _, _ => by
    obtain ⟨rfl, rfl, rfl⟩ := trodAll_nil h
    exact rfl
  | t :: ts, vs, ds, ps, ht, h, hsame, hsp => by
    obtain ⟨v, vs', d, ds', p, q, rfl, rfl, rfl, h0, h1⟩ := trodAll_cons h
    exact ⟨p, q, Go.WideElems.Trod_stays hl (ht t (by simp)).1 (ht t (by simp)).2 h0 (fun x hx => hsame x (by simp [hx])) (fun x hx => hsp x (by simp [hx])),
      trodAll_stays hl (fun u hu => ht u (by simp [hu])) h1 (fun x hx => hsame x (by simp [hx])) (fun x hx => hsp x (by simp [hx])), rfl⟩

end
end B0
end Go.Proofs.YtciahnkkncahjaaDoor
namespace Go.Proofs.YtciahnkkncahjaaDoor
namespace B0
open Go.RowKit Go.WideShapes Go.ChangeShapes Go.ChangeAt Go.WideElems
section
variable {H : Type} {enc : TypeId × Value → H} {P : Program}

/-- The named variables' types can be read. -/
def rowed (P : Program) (ns : List String) : Bool := ns.all fun n => ((P.globalNamed n).bind (P.globals[·]?)).all fun gl => P.readableRec gl.type && decide (gl.type < P.types.size)

theorem trodVars_stays (hl : laidOutB P = true) {W W' : World} {sp' : Nat → Bool} (hb : Below W.heap.size W W') :
    ∀ {ns : List String} {gs : List (DataW H)} {ps : List MemPlace}, rowed P ns = true → DataW.TrodVars enc P W (fun _ => true) ns gs ps → (∀ p ∈ ps, sp' p.block = true) → DataW.TrodVars enc P W' sp' ns gs ps
  | [], [], _, _, h, _ => h
  | [], _ :: _, _, _, h, _ => h.elim
  | _ :: _, [], _, _, h, _ => h.elim
  | n :: ns, d :: ds, ps, hv, h, hsp => by
    have hlt := h.lt
    obtain ⟨g, t, cs, fuel, p, q, h1, h2, h3, h4, hs, e⟩ := h
    simp only [rowed, List.all_cons, Bool.and_eq_true] at hv
    have ht : P.readableRec t = true ∧ t < P.types.size := by
      have := hv.1
      rw [h1] at this
      cases hg : P.globals[g]? with
      | none => rw [hg] at h2; cases h2
      | some gl =>
        rw [hg] at h2
        obtain rfl : gl.type = t := Option.some.inj h2
        simpa [hg] using this
    have hp : ∀ x ∈ p, x.block < W.heap.size := fun x hx => hlt x (by rw [e]; simp [hx])
    have h3' : W'.var? P n = some cs := by
      unfold World.var? at h3 ⊢
      rw [h1] at h3 ⊢
      simp only [Option.bind_some] at h3 ⊢
      have hg : g < W.heap.size := by
        cases hh : W.heap[g]? with
        | none => rw [hh] at h3; cases h3
        | some o => exact (Array.getElem?_eq_some_iff.1 hh).1
      rw [hb.block g hg]; exact h3
    exact ⟨g, t, cs, fuel, p, q, h1, h2, h3', DataW.trod_stays (kids_book hl ht.1) (book_sized ht.1) (fun h => by cases h) ⟨ht.2, book_self t⟩ h4 (fun x hx => hb.same (hp x hx)) (fun x hx => hsp x (by rw [e]; simp [hx])),
      trodVars_stays hl hb (by simpa [rowed] using hv.2) hs (fun x hx => hsp x (by rw [e]; simp [hx])), e⟩

/-- A law over listed variables: whatever the arguments, the call returns true and turns nothing that was there. -/
theorem liftL {C : Checked} {os : Os} {f : FuncId} {fn : Func} {s : ChangeSpec} {conds : List PathCond} {tb : TypeId} {laid : List (String × DataW Unit)}
    (own : ownKnob C.prog.godebug = none) (started : os.Started) (noInit : C.prog.inits.idxOf? f = none) (hfn : C.prog.funcs[f]? = some fn)
    (witness : ∃ (w : World) (tape : Tape) (i : Input), w.os = os ∧ (w.forCall tape i).Shaped C.prog ∧ i.vars = [] ∧ Input.okWide C.prog (w.forCall tape i) .any w.heap.size f i ∧
      ((s.pre enc C.prog fn conds false (w.forCall tape i).memory i.args ∧ laidMetH C.prog laid (w.forCall tape i).memory) ∧ sizedMet enc C.prog fn (OpenSpec.ofChange s) false (w.forCall tape i).memory i.args) ∧ ({} : Assume).holds C.prog (lone (Frame.enter C.prog f i.args .normal) [] (w.forCall tape i)))
    (hl : laidOutB C.prog = true) (hp : (fn.params.toList.all fun t => C.prog.readableRec t && decide (t < C.prog.types.size)) = true)
    (hv : rowed C.prog s.vars = true) (hr : fn.resultTypes = #[tb]) (htb : C.prog.underlying tb = some .bool) (hplain : (laid.all fun x => x.2.handleName?.isNone) = true)
    (hs : ∀ ds gs : List (DataW H), ds.length = fn.params.toList.length → gs.length = s.vars.length → s.fn H (ds ++ gs) = { results := [.lit (.bool true)], args := ds, vars := gs })
    (contract : ∀ (W : World) (base : Nat) (args : Array Value) (ds : List (DataW H)) (p : List MemPlace), laidMet C.prog laid W →
      (∀ (j : Nat) t v, fn.params[j]? = some t → args[j]? = some v → Value.okWide C.prog W .any base t v) →
      DataW.TrodAll enc C.prog W 0 (fun _ => true) true fn.params.toList args.toList ds p →
      Calls C.prog f args W fun e W' => e = .returned (.bool true) ∧ Below W.heap.size W W') :
    ReturnsInHanded {} C os f .any (fun w args => (s.pre enc C.prog fn conds false w args ∧ laidMetH C.prog laid w) ∧ sizedMet enc C.prog fn (OpenSpec.ofChange s) false w args) (s.post enc C.prog fn false true false false) := by
  refine returnsInHanded_of_change_and (X := fun w _ => laidMetH C.prog laid w) (fun _ _ _ hh h => by rw [MakeChecks.laidMetH_plain _ _ _ hplain] at h ⊢; exact laidMet.of_heap hh h) own started noInit hfn witness ?_
  intro W base args ds gs before hval hW _ _ hL _
  rw [MakeChecks.laidMetH_plain _ _ _ hplain] at hL
  have hW' := hW
  obtain ⟨p, q, hA, hV, rfl, hfz, hnd⟩ := hW
  have hlen : ∀ {ts : List TypeId} {vs : List Value} {ds : List (DataW H)} {ps : List MemPlace}, DataW.TrodAll enc C.prog W 0 (fun _ => true) true ts vs ds ps → ds.length = ts.length := by
    intro ts
    induction ts with
    | nil => intro vs ds ps h; obtain ⟨rfl, rfl, rfl⟩ := trodAll_nil h; rfl
    | cons t ts ih => intro vs ds ps h; obtain ⟨v, vs', d, ds', p, q, rfl, rfl, rfl, h0, h1⟩ := trodAll_cons h; simp [ih h1]
  have hlenV : ∀ {ns : List String} {gs : List (DataW H)} {ps : List MemPlace}, DataW.TrodVars enc C.prog W (fun _ => true) ns gs ps → gs.length = ns.length := by
    intro ns
    induction ns with
    | nil =>
      intro gs ps h
      cases gs with
      | nil => rfl
      | cons _ _ => exact h.elim
    | cons n ns ih =>
      intro gs ps h
      cases gs with
      | nil => exact h.elim
      | cons d gs =>
        obtain ⟨g, t, cs, fuel, p, q, -, -, -, -, h5, -⟩ := h
        simp [ih h5]
  have hsd := hs ds gs (hlen hA) (hlenV hV)
  have hp' : ∀ t ∈ fn.params.toList, C.prog.readableRec t = true ∧ t < C.prog.types.size := fun t ht => by simpa using List.all_eq_true.1 hp t ht
  refine (contract W base args ds p hL hval hA).mono fun e W' ⟨he, hb⟩ => ?_
  refine ⟨.bool true, he, post_of_below (pa := p) (pv := q) hW' ?_ ?_ ?_ rfl hb ?_⟩
  · intro b sp hd
    rw [hsd, hr]
    exact trodAll_mk1 ⟨1, by simp [DataW.trod, Value.cells, htb]⟩
  · intro sp hsp
    rw [hsd]
    exact trodAll_stays hl hp' hA (fun x hx => hb.same (hW'.lt x (by simp [hx]))) (fun x hx => hsp x (by simp [hx]))
  · intro sp hsp
    rw [hsd]
    exact trodVars_stays hl hb hv hV (fun x hx => hsp x (by simp [hx]))
  · exact ok_one hr rfl (okWide_bool_mk htb true)
end
end B0
end Go.Proofs.YtciahnkkncahjaaDoor
