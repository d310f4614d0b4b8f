/- Walks over lists of tallies. -/
import Derived.Test.YtenaamehifbfeaaC1
import Derived.Test.YtenaamehifbfeaaV27
namespace Go.VL
open Go.RowKit
set_option maxRecDepth 20000
abbrev Tal := Int × Int × Int
def te (t : Tal) : List C := tal t.1 t.2.1 t.2.2
theorem te_len (t : Tal) : (te t).length = 3 := rfl
theorem te_sc (t : Tal) : (te t).all sc = true := rfl
abbrev tals (o : Bool) (xs : List Tal) : C := .sl o xs.length 3 (flat te xs)
def szr (n : Nat) (l : Int) : Int := if l - n < 0 then -1 else l - n
theorem szr_in {n : Nat} {l : Int} (h : ¬ szr n l < 0) : szr n l = l - n ∧ 0 ≤ l - n := by
  unfold szr at *
  split at h
  · exact absurd (by decide) h
  · rename_i h1
    rw [if_neg h1]; exact ⟨rfl, by omega⟩
theorem tal_ext {a b : Tal} (h : a.1 = b.1 ∧ a.2.1 = b.2.1 ∧ a.2.2 = b.2.2) : a = b := by
  obtain ⟨a1, a2, a3⟩ := a
  obtain ⟨b1, b2, b3⟩ := b
  obtain ⟨h1, h2, h3⟩ := h
  simp only at h1 h2 h3
  rw [h1, h2, h3]
/-- Numbers of sixteen bits. -/
def T16 (xs : List Tal) : Prop := ∀ t ∈ xs, (-32768 ≤ t.2.1 ∧ t.2.1 ≤ 32767) ∧ -32768 ≤ t.2.2 ∧ t.2.2 ≤ 32767
/-- A tally that is right where it stands. -/
def okAt (xs : List Tal) (i : Nat) (hi : i < xs.length) : Prop := (0 ≤ xs[i].1 ∧ xs[i].1 ≤ 65535) ∧ 0 ≤ xs[i].2.1 ∧ 0 ≤ xs[i].2.2 ∧ xs[i].2.2 ≤ 1000 ∧ ∀ q (hq : q < xs.length), i = q + 1 → xs[q].1 < xs[i].1
/-- A list of tallies that is valid. -/
def okL (xs : List Tal) : Prop := xs.length ≤ 96 ∧ ∀ i (hi : i < xs.length), okAt xs i hi
theorem tr_fn0 {H : List Ob} {gg : List (Option Nat)} {g : FuncId} : TrV H gg (.c (.fn g [])) (.c (.fn g [])) := .c (.fn rfl (fun j c c' h => by simp at h))
def cmp3 (a b : Int) : Int := if a < b then -1 else if b < a then 1 else 0
theorem cmp3_lt {a b : Int} : cmp3 a b < 0 ↔ a < b := by
  unfold cmp3
  split
  · simp [*]
  · split <;> simp [*]
theorem cmp3_eq {a b : Int} : cmp3 a b = 0 ↔ a = b := by
  unfold cmp3
  split
  · simp; omega
  · split <;> simp <;> omega
/-- The first tally of a turn: where it stands, or -1. -/
def fnd (ys : List Tal) (t : Int) : Int := match ys.findIdx? (fun y => decide (y.1 = t)) with
  | some i => (i : Int)
  | none => -1
theorem fnd_none {xs : List Tal} {t : Int} (h : ∀ x ∈ xs, ¬ x.1 = t) : fnd xs t = -1 := by
  unfold fnd
  rw [List.findIdx?_eq_none_iff.2 (by simpa using h)]
theorem fnd_hit {xs : List Tal} {t : Int} {i : Nat} (hi : i < xs.length) (h : ∀ x ∈ xs.take i, ¬ x.1 = t) (h1 : xs[i].1 = t) : fnd xs t = i := by
  unfold fnd
  rw [List.findIdx?_eq_some_iff_getElem.2 ⟨hi, by simpa using h1, fun j hj => by
    simpa using h xs[j] (by rw [List.mem_take_iff_getElem]; exact ⟨j, by omega, rfl⟩)⟩]
theorem fnd_ge {xs : List Tal} {t : Int} : 0 ≤ fnd xs t ↔ ∃ x ∈ xs, x.1 = t := by
  unfold fnd
  cases h : xs.findIdx? (fun x => decide (x.1 = t)) with
  | none =>
    have := List.findIdx?_eq_none_iff.1 h
    simp only [decide_eq_false_iff_not] at this
    constructor
    · intro h; exact absurd (show (0 : Int) ≤ -1 from h) (by decide)
    · rintro ⟨x, h1, h2⟩; exact absurd h2 (this x h1)
  | some i =>
    obtain ⟨h1, h2, -⟩ := List.findIdx?_eq_some_iff_getElem.1 h
    exact ⟨fun _ => ⟨_, List.getElem_mem h1, by simpa using h2⟩, fun _ => by simp only []; omega⟩
theorem fnd_at {xs : List Tal} {t : Int} (h : 0 ≤ fnd xs t) : ∃ (q : Nat) (hq : q < xs.length), fnd xs t = q ∧ xs[q].1 = t := by
  unfold fnd at h ⊢
  cases hf : xs.findIdx? (fun x => decide (x.1 = t)) with
  | none => rw [hf] at h; exact absurd h (by decide)
  | some i =>
    obtain ⟨h1, h2, -⟩ := List.findIdx?_eq_some_iff_getElem.1 hf
    exact ⟨i, h1, rfl, by simpa using h2⟩
theorem fnd_lt {xs : List Tal} {t : Int} (h : 0 ≤ fnd xs t) : fnd xs t < xs.length := by
  obtain ⟨q, hq, he, -⟩ := fnd_at h
  omega
/-- Turns that grow. -/
def srt (ys : List Tal) : Prop := ∀ (a b : Nat) (hb : b < ys.length) (hab : a < b), (ys[a]'(by omega)).1 < ys[b].1
theorem srt_lt {ys : List Tal} (hs : srt ys) {q : Nat} (hq : q < ys.length) {t : Int} (h : ys[q].1 < t) {a : Nat} (ha : a ≤ q) : (ys[a]'(by omega)).1 < t := by
  rcases Nat.lt_or_eq_of_le ha with h1 | rfl
  · have := hs a q hq h1; omega
  · exact h
theorem srt_ge {ys : List Tal} (hs : srt ys) {q : Nat} (hq : q < ys.length) {t : Int} (h : ¬ ys[q].1 < t) {a : Nat} (ha : a < ys.length) (hqa : q ≤ a) : t ≤ ys[a].1 := by
  rcases Nat.lt_or_eq_of_le hqa with h1 | rfl
  · have := hs q a ha h1; omega
  · omega
theorem srt_no {ys : List Tal} (hs : srt ys) {q : Nat} (hq : q < ys.length) {t : Int} (h1 : ∀ a (ha : a < ys.length), a < q → ys[a].1 < t) (h2 : t ≤ ys[q].1) (h3 : ¬ ys[q].1 = t) : ¬ ∃ y ∈ ys, y.1 = t := fun ⟨y, hy, he⟩ => by
  obtain ⟨a, ha, rfl⟩ := List.getElem_of_mem hy
  rcases Nat.lt_trichotomy a q with h | rfl | h
  · have := h1 a ha h; omega
  · exact h3 he
  · have := hs q a ha h; omega
def lowb (ys : List Tal) (t : Int) : Nat := ys.findIdx (fun y => decide (t ≤ y.1))
theorem lowb_eq {ys : List Tal} {t : Int} {i : Nat} (hi : i ≤ ys.length) (h1 : ∀ a (ha : a < ys.length), a < i → ys[a].1 < t) (h2 : ∀ ha : i < ys.length, t ≤ ys[i].1) : lowb ys t = i := by
  unfold lowb
  rcases Nat.lt_or_eq_of_le hi with h | rfl
  · exact (List.findIdx_eq h).2 ⟨by simpa using h2 h, fun j hj => by simpa using h1 j (by omega) hj⟩
  · refine List.findIdx_eq_length.2 fun y hy => ?_
    obtain ⟨a, ha, rfl⟩ := List.getElem_of_mem hy
    simpa using h1 a ha ha
theorem lowb_fnd {ys : List Tal} {t : Int} (hs : srt ys) (h : 0 ≤ fnd ys t) : ((lowb ys t : Nat) : Int) = fnd ys t := by
  obtain ⟨q, hq, he, ht⟩ := fnd_at h
  rw [lowb_eq (t := t) (Nat.le_of_lt hq) (fun a ha hlt => by have := hs a q hq hlt; omega) (fun _ => by omega), he]
noncomputable instance (xs : List Tal) : Decidable (okL xs) := Classical.propDecidable _
theorem ok_step {xs : List Tal} {i : Nat} {hi : i < xs.length} (hp : ∀ j (hj : j < xs.length), j < i → okAt xs j hj) (h : okAt xs i hi) : ∀ j (hj : j < xs.length), j < i + 1 → okAt xs j hj := fun j hj hlt => by
  by_cases he : j = i
  · subst he; exact h
  · exact hp j hj (by omega)
theorem c20 (xs : List Tal) (l : Int) (hl : 0 ≤ l ∧ l ≤ 2 ^ 20) (hx : xs.length ≤ maxLen) : PureC X 20 [.c (tals false xs), cI l] (cI (szr xs.length l)) := by
  refine PureC.of_body (drawD_ok X) (fun _ _ => Go.Proofs.Try.call20 _ _) Go.Proofs.Try.func20 rfl (n := 12) rfl ?_
  refine w_seq ?_
  refine w_reg rfl ?_
  refine v_assign (c := .v (.int .i64 0)) rfl ?_
  refine v_nil ?_
  refine q_n ?_
  refine w_seq ?_
  refine w_reg rfl ?_
  refine v_move rfl ?_
  refine v_move rfl ?_
  refine v_len_sl lay35 rfl ?_
  refine v_sub lay3 rfl rfl (i64r (by unfold maxLen at hx; omega)) ?_
  refine v_assign rfl ?_
  refine v_nil ?_
  refine q_n ?_
  refine w_seq ?_
  refine w_seq ?_
  refine w_reg rfl ?_
  refine v_move rfl ?_
  refine v_lss lay3 rfl rfl (fun h1 => ?_) (fun h1 => ?_)
  · skip
    refine v_nil ?_
    refine q_n ?_
    refine w_t rfl ?_
    refine w_seq ?_
    refine w_reg rfl ?_
    refine v_assign (c := .v (.int .i64 (-1))) rfl ?_
    refine v_nil ?_
    refine q_n ?_
    refine w_ret (q_r ?_)
    refine r_r rfl ?_
    exact a_i (by unfold szr; rw [if_pos h1])
  · skip
    refine v_nil ?_
    refine q_n ?_
    refine w_f rfl ?_
    refine w_skip ?_
    refine q_n ?_
    refine w_seq ?_
    refine w_reg rfl ?_
    refine v_move rfl ?_
    refine v_assign rfl ?_
    refine v_nil ?_
    refine q_n ?_
    refine w_ret ?_
    refine r_r rfl ?_
    exact a_i (by unfold szr; rw [if_neg h1])

theorem c72 (t c f : Int) : PureC X 72 [.agg (tal t c f)] (.agg (tal t c f)) := by
  refine PureC.of_body (drawD_ok X) (fun _ _ => Go.Proofs.Try.call72 _ _) Go.Proofs.Try.func72 rfl (n := 14) rfl ?_
  refine w_seq ?_
  refine w_reg rfl ?_
  refine v_box (m := 0) (H' := [_]) lay88 rfl rfl rfl ?_
  refine v_alloc (m := 1) (H' := [_, ⟨[.v _, .v _, .v _], 27, true⟩]) lay27 rfl rfl ?_
  refine v_nil ?_
  refine q_n ?_
  refine w_seq ?_
  refine w_reg rfl ?_
  refine v_alloc (m := 2) (H' := [_, _, ⟨[.v _, .v _, .v _], 27, true⟩]) lay27 rfl rfl ?_
  refine v_nil ?_
  refine q_n ?_
  refine w_seq ?_
  refine w_reg rfl ?_
  refine v_fa_pt (off' := 0) lay88 rfl rfl rfl ?_
  refine v_load_pt (.c _) lay2 rfl rfl rfl rfl ?_
  refine v_fa_pt (off' := 0) lay27 rfl rfl rfl ?_
  refine v_store (H' := [_, _, ⟨[_, _, _], 27, true⟩]) lay2 rfl rfl rfl rfl rfl rfl ?_
  refine v_nil ?_
  refine q_n ?_
  refine w_seq ?_
  refine w_reg rfl ?_
  refine v_fa_pt (off' := 1) lay88 rfl rfl rfl ?_
  refine v_load_pt (.c _) lay23 rfl rfl rfl rfl ?_
  refine v_fa_pt (off' := 1) lay27 rfl rfl rfl ?_
  refine v_store (H' := [_, _, ⟨[_, _, _], 27, true⟩]) lay23 rfl rfl rfl rfl rfl rfl ?_
  refine v_nil ?_
  refine q_n ?_
  refine w_seq ?_
  refine w_reg rfl ?_
  refine v_fa_pt (off' := 2) lay88 rfl rfl rfl ?_
  refine v_load_pt (.c _) lay23 rfl rfl rfl rfl ?_
  refine v_fa_pt (off' := 2) lay27 rfl rfl rfl ?_
  refine v_store (H' := [_, _, ⟨[_, _, _], 27, true⟩]) lay23 rfl rfl rfl rfl rfl rfl ?_
  refine v_nil ?_
  refine q_n ?_
  refine w_seq ?_
  refine w_reg rfl ?_
  refine v_load_pt (.agg [_, _, _]) lay27 rfl rfl rfl rfl ?_
  refine v_store (H' := [_, ⟨[_, _, _], 27, true⟩, _]) lay27 rfl rfl rfl rfl rfl rfl ?_
  refine v_nil ?_
  refine q_n ?_
  refine w_ret ?_
  refine r_r rfl ?_
  exact a_agg (.cons tr_v (.cons tr_v (.cons tr_v .nil)))

theorem c22 (xs : List Tal) (hx : xs.length ≤ 2 ^ 40) : PureC X 22 [.c (tals false xs)] (.c (tals true xs)) := by
  refine PureC.of_body (drawD_ok X) (fun _ _ => Go.Proofs.Try.call22 _ _) Go.Proofs.Try.func22 rfl (n := 23) rfl ?_
  refine w_seq ?_
  refine w_reg rfl ?_
  refine v_assign rfl ?_
  refine v_nil ?_
  refine q_n ?_
  refine w_seq ?_
  refine w_reg rfl ?_
  refine v_move rfl ?_
  refine v_len_sl lay35 rfl ?_
  refine v_make (enc := te) (a0 := ((0, 0, 0) : Tal)) (m := 0) (H' := [_]) rfl lay40 lay27 rfl rfl rfl rfl (xs.length) (rfl) (by unfold maxLen; simp only []; omega) rfl rfl ?_
  refine v_assign rfl ?_
  refine v_nil ?_
  refine q_n ?_
  refine w_seq ?_
  refine w_seq ?_
  refine w_reg rfl ?_
  refine v_assign (c := .v (.int .i64 0)) rfl ?_
  refine v_nil ?_
  refine q_n ?_
  refine w_block ?_
  refine w_loop (fun k sl H => ∃ i : Nat, k = xs.length - i ∧ i ≤ xs.length ∧ sl = sls [(0, .c (tals false xs)), (3, .c (.mu 0 0 xs.length 3)), (4, cI i)] ∧ H = [⟨flat te (xs.take i ++ List.replicate (xs.length - i) (0, 0, 0)), 27, true⟩]) ?_ ?_
  · refine ⟨_, _, _, ?_, 0, rfl, Nat.zero_le _, rfl, rfl⟩
    exact turn [some 0] rfl rfl rfl ⟨⟨_, rfl, .stay (stays_flat te_sc _)⟩, trivial⟩ ⟨tr_sl, tr_mu rfl, tr_v, trivial⟩
  · rintro k sl H ⟨i, rfl, hi, rfl, rfl⟩
    refine w_seq ?_
    refine w_seq ?_
    refine w_reg rfl ?_
    refine v_move rfl ?_
    refine v_move rfl ?_
    refine v_len_sl lay35 rfl ?_
    refine v_lss lay3 rfl rfl (fun h1 => ?_) (fun h1 => ?_)
    · skip
      refine v_nil ?_
      refine q_n ?_
      refine w_t rfl ?_
      refine w_skip ?_
      refine q_n ?_
      refine w_seq ?_
      refine w_block ?_
      refine w_reg rfl ?_
      refine v_move rfl ?_
      refine v_move rfl ?_
      refine v_move rfl ?_
      refine v_move rfl ?_
      refine v_idx (k := 3) te_len lay35 lay88 rfl rfl rfl rfl rfl (by omega) (fun q2 hq2 e2 => ?_)
      obtain rfl : i = q2 := by omega
      refine v_load_vw (.agg [.v _, .v _, .v _]) lay88 rfl rfl rfl ?_
      refine v_call (c72 _ _ _) rfl rfl rfl (.cons (vw_agg (.cons vw_v (.cons vw_v (.cons vw_v .nil)))) .nil) ?_
      refine v_idx_mu (k := 3) (off := 0) lay40 lay27 rfl rfl rfl (by omega) (fun q3 hq3 e3 => ?_)
      obtain rfl : i = q3 := by omega
      refine v_store_flat (H' := [_]) i 0 (xs[i]) te_len lay27 rfl rfl rfl (by omega) (by simp; omega) rfl rfl rfl rfl ?_
      refine v_nil ?_
      refine q_bn ?_
      refine q_n ?_
      refine w_reg rfl ?_
      refine v_move rfl ?_
      refine v_add lay3 rfl rfl (i64r (by omega)) ?_
      refine v_assign rfl ?_
      refine v_nil ?_
      refine q_n ?_
      refine ⟨_, _, _, ?_, ⟨i + 1, rfl, by omega, rfl, rfl⟩, by omega⟩
      exact turn [some 0] rfl rfl rfl ⟨⟨_, rfl, by rw [fill_step hq2]; exact .stay (stays_flat te_sc _)⟩, trivial⟩ ⟨tr_sl, tr_mu rfl, tr_v, trivial⟩
    · skip
      refine v_nil ?_
      refine q_n ?_
      refine w_f rfl ?_
      refine w_exit ?_
      refine q_e ?_
      refine q_e ?_
      refine q_hit ?_
      refine q_n ?_
      refine w_seq ?_
      refine w_reg rfl ?_
      refine v_move rfl ?_
      refine v_assign rfl ?_
      refine v_nil ?_
      refine q_n ?_
      refine w_ret ?_
      refine r_r rfl ?_
      obtain rfl : i = xs.length := by omega
      exact a_flat (t := 27) te_sc te_len (by simp) rfl

theorem c25 (xs ys : List Tal) (hx : xs.length ≤ 2 ^ 40) : PureC X 25 [.c (tals false xs), .c (tals false ys)] (cB (decide (xs = ys))) := by
  refine PureC.of_body (drawD_ok X) (fun _ _ => Go.Proofs.Try.call25 _ _) Go.Proofs.Try.func25 rfl (n := 27) rfl ?_
  refine w_seq ?_
  refine w_reg rfl ?_
  refine v_assign (c := .v (.bool false)) rfl ?_
  refine v_nil ?_
  refine q_n ?_
  refine w_seq ?_
  refine w_seq ?_
  refine w_reg rfl ?_
  refine v_move rfl ?_
  refine v_len_sl lay40 rfl ?_
  refine v_move rfl ?_
  refine v_len_sl lay40 rfl ?_
  refine v_neq lay3 rfl rfl (fun h1 => ?_) (fun h1 => ?_)
  · skip
    refine v_nil ?_
    refine q_n ?_
    refine w_t rfl ?_
    refine w_seq ?_
    refine w_reg rfl ?_
    refine v_assign (c := .v (.bool false)) rfl ?_
    refine v_nil ?_
    refine q_n ?_
    refine w_ret (q_r ?_)
    refine r_r rfl ?_
    exact a_b (by simp only [Bool.false_eq_true, false_iff]; rintro rfl; exact h1 rfl)
  · skip
    refine v_nil ?_
    refine q_n ?_
    refine w_f rfl ?_
    refine w_skip ?_
    refine q_n ?_
    refine w_seq ?_
    refine w_seq ?_
    refine w_reg rfl ?_
    refine v_assign (c := .v (.int .i64 0)) rfl ?_
    refine v_nil ?_
    refine q_n ?_
    refine w_block ?_
    refine w_loop (fun k sl H => ∃ i : Nat, k = xs.length - i ∧ i ≤ xs.length ∧ xs.take i = ys.take i ∧ sl = sls [(0, .c (tals false xs)), (1, .c (tals false ys)), (5, cI i)] ∧ H = []) ?_ ?_
    · refine ⟨_, _, _, ?_, 0, rfl, Nat.zero_le _, rfl, rfl, rfl⟩
      exact turn0 ⟨tr_sl, tr_sl, tr_v, trivial⟩
    · rintro k sl H ⟨i, rfl, hi, hp, rfl, rfl⟩
      refine w_seq ?_
      refine w_seq ?_
      refine w_reg rfl ?_
      refine v_move rfl ?_
      refine v_move rfl ?_
      refine v_len_sl lay40 rfl ?_
      refine v_lss lay3 rfl rfl (fun h2 => ?_) (fun h2 => ?_)
      · skip
        refine v_nil ?_
        refine q_n ?_
        refine w_t rfl ?_
        refine w_skip ?_
        refine q_n ?_
        refine w_seq ?_
        refine w_block ?_
        refine w_seq ?_
        refine w_draw [0, 0, 3, 7, 0, 0, 48, 112, 255, 511] [⟨0, 0, []⟩, ⟨1, 0, []⟩, ⟨2, 0, []⟩, ⟨3, 0, []⟩, ⟨4, 0, []⟩, ⟨5, 0, []⟩, ⟨6, 0, []⟩, ⟨7, 0, []⟩, ⟨8, 0, []⟩, ⟨9, 0, []⟩] rfl rfl ?_
        refine d_q rfl rfl rfl rfl rfl ?_
        refine v_move rfl ?_
        refine v_nil ?_
        refine d_q rfl rfl rfl rfl rfl ?_
        refine v_move rfl ?_
        refine v_nil ?_
        refine d_q rfl rfl rfl rfl rfl ?_
        refine v_idx (k := 3) te_len lay40 lay27 rfl rfl rfl rfl rfl (by omega) (fun q3 hq3 e3 => ?_)
        obtain rfl : i = q3 := by omega
        refine v_nil ?_
        refine d_q rfl rfl rfl rfl rfl ?_
        refine v_load_vw (.agg [.v _, .v _, .v _]) lay27 rfl rfl rfl ?_
        refine v_nil ?_
        refine d_q rfl rfl rfl rfl rfl ?_
        refine v_move rfl ?_
        refine v_nil ?_
        refine d_q rfl rfl rfl rfl rfl ?_
        refine v_move rfl ?_
        refine v_nil ?_
        refine d_q rfl rfl rfl rfl rfl ?_
        refine v_idx (k := 3) te_len lay40 lay27 rfl rfl rfl rfl rfl (by omega) (fun q4 hq4 e4 => ?_)
        obtain rfl : i = q4 := by omega
        refine v_nil ?_
        refine d_q rfl rfl rfl rfl rfl ?_
        refine v_load_vw (.agg [.v _, .v _, .v _]) lay27 rfl rfl rfl ?_
        refine v_nil ?_
        refine d_callb (c18 _ _ _ _ _ _) rfl rfl rfl rfl (.cons (vw_agg (.cons vw_v (.cons vw_v (.cons vw_v .nil)))) (.cons (vw_agg (.cons vw_v (.cons vw_v (.cons vw_v .nil)))) .nil)) (fun h5 => ?_) (fun h5 => ?_)
        · skip
          refine d_q rfl rfl rfl rfl rfl ?_
          refine v_not false rfl rfl ?_
          refine v_nil ?_
          refine d_nil ?_
          refine q_n ?_
          refine w_f rfl ?_
          refine w_skip ?_
          refine q_bn ?_
          refine q_n ?_
          refine w_reg rfl ?_
          refine v_move rfl ?_
          refine v_add lay3 rfl rfl (i64r (by omega)) ?_
          refine v_assign rfl ?_
          refine v_nil ?_
          refine q_n ?_
          refine ⟨_, _, _, ?_, ⟨i + 1, rfl, by omega, ?_, rfl, rfl⟩, by omega⟩
          · exact turn0 ⟨tr_sl, tr_sl, tr_v, trivial⟩
          · rw [List.take_succ_eq_append_getElem hq3, List.take_succ_eq_append_getElem hq4, hp, tal_ext h5]
        · skip
          refine d_q rfl rfl rfl rfl rfl ?_
          refine v_not true rfl rfl ?_
          refine v_nil ?_
          refine d_nil ?_
          refine q_n ?_
          refine w_t rfl ?_
          refine w_seq ?_
          refine w_reg rfl ?_
          refine v_assign (c := .v (.bool false)) rfl ?_
          refine v_nil ?_
          refine q_n ?_
          refine w_ret (q_br (q_r (q_r (q_br (q_r ?_)))))
          refine r_r rfl ?_
          exact a_b (by simp only [Bool.false_eq_true, false_iff]; rintro rfl; exact h5 ⟨rfl, rfl, rfl⟩)
      · skip
        refine v_nil ?_
        refine q_n ?_
        refine w_f rfl ?_
        refine w_exit ?_
        refine q_e ?_
        refine q_e ?_
        refine q_hit ?_
        refine q_n ?_
        refine w_seq ?_
        refine w_reg rfl ?_
        refine v_assign (c := .v (.bool true)) rfl ?_
        refine v_nil ?_
        refine q_n ?_
        refine w_ret ?_
        refine r_r rfl ?_
        have he : i = xs.length := by omega
        have hl : ys.length = xs.length := by omega
        rw [he, List.take_length, ← hl, List.take_length] at hp
        exact a_b (by simp only [true_iff]; exact hp)

theorem c70 (xs : List Tal) (hx : xs.length ≤ 2 ^ 40) : PureC X 70 [.c (tals false xs)] (cB (decide (okL xs))) := by
  refine PureC.of_body (drawD_ok X) (fun _ _ => Go.Proofs.Try.call70 _ _) Go.Proofs.Try.func70 rfl (n := 61) rfl ?_
  refine w_seq ?_
  refine w_reg rfl ?_
  refine v_assign (c := .v (.bool false)) rfl ?_
  refine v_nil ?_
  refine q_n ?_
  refine w_seq ?_
  refine w_seq ?_
  refine w_reg rfl ?_
  refine v_assign (c := .v (.int .i64 0)) rfl ?_
  refine v_nil ?_
  refine q_n ?_
  refine w_block ?_
  refine w_loop (fun k sl H => ∃ i : Nat, k = xs.length - i ∧ i ≤ xs.length ∧ (∀ j (hj : j < xs.length), j < i → okAt xs j hj) ∧ sl = sls [(0, .c (tals false xs)), (3, cI i)] ∧ H = []) ?_ ?_
  · refine ⟨_, _, _, ?_, 0, rfl, Nat.zero_le _, fun j hj h => absurd h (Nat.not_lt_zero _), rfl, rfl⟩
    exact turn0 ⟨tr_sl, tr_v, trivial⟩
  · rintro k sl H ⟨i, rfl, hi, hp, rfl, rfl⟩
    refine w_seq ?_
    refine w_seq ?_
    refine w_reg rfl ?_
    refine v_move rfl ?_
    refine v_move rfl ?_
    refine v_len_sl lay40 rfl ?_
    refine v_lss lay3 rfl rfl (fun h1 => ?_) (fun h1 => ?_)
    · skip
      refine v_nil ?_
      refine q_n ?_
      refine w_t rfl ?_
      refine w_skip ?_
      refine q_n ?_
      refine w_seq ?_
      refine w_block ?_
      refine w_seq ?_
      refine w_reg rfl ?_
      refine v_move rfl ?_
      refine v_move rfl ?_
      refine v_idx (k := 3) te_len lay40 lay27 rfl rfl rfl rfl rfl (by omega) (fun q2 hq2 e2 => ?_)
      obtain rfl : i = q2 := by omega
      refine v_assign rfl ?_
      refine v_nil ?_
      refine q_n ?_
      refine w_seq ?_
      refine w_draw [0, 1, 3, 7, 15, 31, 63, 127, 255, 511, 1023, 2047, 4095, 8191, 16383, 32767, 65535, 131071, 262143, 524287, 1048575, 2097151, 4194303, 8388607, 16777215, 33554431, 67108863, 134217727, 268435455, 536870911, 1073741823, 2147483647, 2147483647, 6442450943, 17179869183, 34359738367, 68719476735, 2147483647, 139586437119, 414464344063, 964220157951, 2199023255551, 4398046511103, 8796093022207] [⟨0, 0, []⟩, ⟨1, 0, []⟩, ⟨2, 0, []⟩, ⟨3, 0, []⟩, ⟨4, 0, []⟩, ⟨5, 0, []⟩, ⟨6, 0, []⟩, ⟨7, 0, []⟩, ⟨8, 0, []⟩, ⟨9, 0, []⟩, ⟨10, 0, []⟩, ⟨11, 0, []⟩, ⟨12, 0, []⟩, ⟨13, 0, []⟩, ⟨14, 0, []⟩, ⟨15, 0, []⟩, ⟨16, 0, []⟩, ⟨17, 0, []⟩, ⟨18, 0, []⟩, ⟨19, 0, []⟩, ⟨20, 0, []⟩, ⟨21, 0, []⟩, ⟨22, 0, []⟩, ⟨23, 0, []⟩, ⟨24, 0, []⟩, ⟨25, 0, []⟩, ⟨26, 0, []⟩, ⟨27, 0, []⟩, ⟨28, 0, []⟩, ⟨29, 0, []⟩, ⟨30, 0, []⟩, ⟨31, 0, []⟩, ⟨32, 0, []⟩, ⟨33, 0, []⟩, ⟨34, 0, []⟩, ⟨35, 0, []⟩, ⟨36, 0, []⟩, ⟨37, 0, []⟩, ⟨38, 0, []⟩, ⟨39, 0, []⟩, ⟨40, 0, []⟩, ⟨41, 0, []⟩, ⟨42, 0, []⟩, ⟨43, 0, []⟩] rfl rfl ?_
      refine d_q rfl rfl rfl rfl rfl ?_
      refine v_move rfl ?_
      refine v_nil ?_
      refine d_q rfl rfl rfl rfl rfl ?_
      refine v_nil_vw rfl ?_
      refine v_nil ?_
      refine d_q rfl rfl rfl rfl rfl ?_
      refine v_fa_vw (off' := 0) lay27 rfl rfl rfl ?_
      refine v_nil ?_
      refine d_q rfl rfl rfl rfl rfl ?_
      refine v_load_vw (.c (.v _)) lay2 rfl rfl rfl ?_
      refine v_nil ?_
      refine d_callb (c62 _) rfl rfl rfl rfl (.cons vw_v .nil) (fun h3 => ?_) (fun h3 => ?_)
      · skip
        refine d_q rfl rfl rfl rfl rfl ?_
        refine v_not false rfl rfl ?_
        refine v_nil ?_
        refine d_q rfl rfl rfl rfl rfl ?_
        refine v_move rfl ?_
        refine v_nil ?_
        refine d_q rfl rfl rfl rfl rfl ?_
        refine v_move rfl ?_
        refine v_nil ?_
        refine d_q rfl rfl rfl rfl rfl ?_
        refine v_nil_vw rfl ?_
        refine v_nil ?_
        refine d_q rfl rfl rfl rfl rfl ?_
        refine v_fa_vw (off' := 1) lay27 rfl rfl rfl ?_
        refine v_nil ?_
        refine d_q rfl rfl rfl rfl rfl ?_
        refine v_load_vw (.c (.v _)) lay23 rfl rfl rfl ?_
        refine v_nil ?_
        refine d_q rfl rfl rfl rfl rfl ?_
        refine v_lss lay23 rfl rfl (fun h4 => ?_) (fun h4 => ?_)
        · skip
          refine v_nil ?_
          refine d_q rfl rfl rfl rfl rfl ?_
          refine v_pick_f rfl rfl ?_
          refine v_nil ?_
          refine d_q rfl rfl rfl rfl rfl ?_
          refine v_move rfl ?_
          refine v_nil ?_
          refine d_off rfl rfl ?_
          refine d_off rfl rfl ?_
          refine d_off rfl rfl ?_
          refine d_off rfl rfl ?_
          refine d_off rfl rfl ?_
          refine d_q rfl rfl rfl rfl rfl ?_
          refine v_pick_t (v := .v (.bool true)) rfl rfl ?_
          refine v_nil ?_
          refine d_q rfl rfl rfl rfl rfl ?_
          refine v_move rfl ?_
          refine v_nil ?_
          refine d_off rfl rfl ?_
          refine d_off rfl rfl ?_
          refine d_off rfl rfl ?_
          refine d_off rfl rfl ?_
          refine d_off rfl rfl ?_
          refine d_q rfl rfl rfl rfl rfl ?_
          refine v_pick_t (v := .v (.bool true)) rfl rfl ?_
          refine v_nil ?_
          refine d_q rfl rfl rfl rfl rfl ?_
          refine v_move rfl ?_
          refine v_nil ?_
          refine d_off rfl rfl ?_
          refine d_off rfl rfl ?_
          refine d_off rfl rfl ?_
          refine d_off rfl rfl ?_
          refine d_off rfl rfl ?_
          refine d_off rfl rfl ?_
          refine d_off rfl rfl ?_
          refine d_off rfl rfl ?_
          refine d_off rfl rfl ?_
          refine d_off rfl rfl ?_
          refine d_off rfl rfl ?_
          refine d_off rfl rfl ?_
          refine d_off rfl rfl ?_
          refine d_off rfl rfl ?_
          refine d_off rfl rfl ?_
          refine d_q rfl rfl rfl rfl rfl ?_
          refine v_pick_t (v := .v (.bool true)) rfl rfl ?_
          refine v_nil ?_
          refine d_nil ?_
          refine q_n ?_
          refine w_t rfl ?_
          refine w_seq ?_
          refine w_reg rfl ?_
          refine v_assign (c := .v (.bool false)) rfl ?_
          refine v_nil ?_
          refine q_n ?_
          refine w_ret (q_br (q_r (q_r (q_br (q_r ?_)))))
          refine r_r rfl ?_
          exact a_b (by simp only [Bool.false_eq_true, false_iff]; exact fun h => by have h := h.2 i hq2; have := h.2.1; omega)
        · skip
          refine v_nil ?_
          refine d_q rfl rfl rfl rfl rfl ?_
          refine v_pick_f rfl rfl ?_
          refine v_nil ?_
          refine d_q rfl rfl rfl rfl rfl ?_
          refine v_move rfl ?_
          refine v_nil ?_
          refine d_q rfl rfl rfl rfl rfl ?_
          refine v_move rfl ?_
          refine v_nil ?_
          refine d_q rfl rfl rfl rfl rfl ?_
          refine v_nil_vw rfl ?_
          refine v_nil ?_
          refine d_q rfl rfl rfl rfl rfl ?_
          refine v_fa_vw (off' := 2) lay27 rfl rfl rfl ?_
          refine v_nil ?_
          refine d_q rfl rfl rfl rfl rfl ?_
          refine v_load_vw (.c (.v _)) lay23 rfl rfl rfl ?_
          refine v_nil ?_
          refine d_q rfl rfl rfl rfl rfl ?_
          refine v_lss lay23 rfl rfl (fun h5 => ?_) (fun h5 => ?_)
          · skip
            refine v_nil ?_
            refine d_q rfl rfl rfl rfl rfl ?_
            refine v_pick_f rfl rfl ?_
            refine v_nil ?_
            refine d_q rfl rfl rfl rfl rfl ?_
            refine v_move rfl ?_
            refine v_nil ?_
            refine d_off rfl rfl ?_
            refine d_off rfl rfl ?_
            refine d_off rfl rfl ?_
            refine d_off rfl rfl ?_
            refine d_off rfl rfl ?_
            refine d_q rfl rfl rfl rfl rfl ?_
            refine v_pick_t (v := .v (.bool true)) rfl rfl ?_
            refine v_nil ?_
            refine d_q rfl rfl rfl rfl rfl ?_
            refine v_move rfl ?_
            refine v_nil ?_
            refine d_off rfl rfl ?_
            refine d_off rfl rfl ?_
            refine d_off rfl rfl ?_
            refine d_off rfl rfl ?_
            refine d_off rfl rfl ?_
            refine d_off rfl rfl ?_
            refine d_off rfl rfl ?_
            refine d_off rfl rfl ?_
            refine d_off rfl rfl ?_
            refine d_off rfl rfl ?_
            refine d_off rfl rfl ?_
            refine d_off rfl rfl ?_
            refine d_off rfl rfl ?_
            refine d_off rfl rfl ?_
            refine d_off rfl rfl ?_
            refine d_q rfl rfl rfl rfl rfl ?_
            refine v_pick_t (v := .v (.bool true)) rfl rfl ?_
            refine v_nil ?_
            refine d_nil ?_
            refine q_n ?_
            refine w_t rfl ?_
            refine w_seq ?_
            refine w_reg rfl ?_
            refine v_assign (c := .v (.bool false)) rfl ?_
            refine v_nil ?_
            refine q_n ?_
            refine w_ret (q_br (q_r (q_r (q_br (q_r ?_)))))
            refine r_r rfl ?_
            exact a_b (by simp only [Bool.false_eq_true, false_iff]; exact fun h => by have h := h.2 i hq2; have := h.2.2.1; omega)
          · skip
            refine v_nil ?_
            refine d_q rfl rfl rfl rfl rfl ?_
            refine v_pick_f rfl rfl ?_
            refine v_nil ?_
            refine d_q rfl rfl rfl rfl rfl ?_
            refine v_move rfl ?_
            refine v_nil ?_
            refine d_q rfl rfl rfl rfl rfl ?_
            refine v_move rfl ?_
            refine v_nil ?_
            refine d_q rfl rfl rfl rfl rfl ?_
            refine v_nil_vw rfl ?_
            refine v_nil ?_
            refine d_q rfl rfl rfl rfl rfl ?_
            refine v_fa_vw (off' := 2) lay27 rfl rfl rfl ?_
            refine v_nil ?_
            refine d_q rfl rfl rfl rfl rfl ?_
            refine v_load_vw (.c (.v _)) lay23 rfl rfl rfl ?_
            refine v_nil ?_
            refine d_q rfl rfl rfl rfl rfl ?_
            refine v_gtr lay23 rfl rfl (fun h6 => ?_) (fun h6 => ?_)
            · skip
              refine v_nil ?_
              refine d_q rfl rfl rfl rfl rfl ?_
              refine v_pick_f rfl rfl ?_
              refine v_nil ?_
              refine d_q rfl rfl rfl rfl rfl ?_
              refine v_move rfl ?_
              refine v_nil ?_
              refine d_off rfl rfl ?_
              refine d_off rfl rfl ?_
              refine d_off rfl rfl ?_
              refine d_off rfl rfl ?_
              refine d_off rfl rfl ?_
              refine d_off rfl rfl ?_
              refine d_off rfl rfl ?_
              refine d_off rfl rfl ?_
              refine d_off rfl rfl ?_
              refine d_off rfl rfl ?_
              refine d_off rfl rfl ?_
              refine d_off rfl rfl ?_
              refine d_off rfl rfl ?_
              refine d_off rfl rfl ?_
              refine d_off rfl rfl ?_
              refine d_q rfl rfl rfl rfl rfl ?_
              refine v_pick_t (v := .v (.bool true)) rfl rfl ?_
              refine v_nil ?_
              refine d_nil ?_
              refine q_n ?_
              refine w_t rfl ?_
              refine w_seq ?_
              refine w_reg rfl ?_
              refine v_assign (c := .v (.bool false)) rfl ?_
              refine v_nil ?_
              refine q_n ?_
              refine w_ret (q_br (q_r (q_r (q_br (q_r ?_)))))
              refine r_r rfl ?_
              exact a_b (by simp only [Bool.false_eq_true, false_iff]; exact fun h => by have h := h.2 i hq2; have := h.2.2.2.1; omega)
            · skip
              refine v_nil ?_
              refine d_q rfl rfl rfl rfl rfl ?_
              refine v_pick_f rfl rfl ?_
              refine v_nil ?_
              refine d_q rfl rfl rfl rfl rfl ?_
              refine v_move rfl ?_
              refine v_nil ?_
              refine d_q rfl rfl rfl rfl rfl ?_
              refine v_move rfl ?_
              refine v_nil ?_
              refine d_q rfl rfl rfl rfl rfl ?_
              refine v_gtr lay3 rfl rfl (fun h7 => ?_) (fun h7 => ?_)
              · skip
                refine v_nil ?_
                refine d_q rfl rfl rfl rfl rfl ?_
                refine v_move rfl ?_
                refine v_nil ?_
                refine d_q rfl rfl rfl rfl rfl ?_
                refine v_move rfl ?_
                refine v_nil ?_
                refine d_q rfl rfl rfl rfl rfl ?_
                refine v_move rfl ?_
                refine v_nil ?_
                refine d_q rfl rfl rfl rfl rfl ?_
                refine v_sub lay3 rfl rfl (i64r (by omega)) ?_
                refine v_nil ?_
                refine d_q rfl rfl rfl rfl rfl ?_
                refine v_idx (k := 3) te_len lay40 lay27 rfl rfl rfl rfl rfl (by omega) (fun q8 hq8 e8 => ?_)
                refine v_nil ?_
                refine d_q rfl rfl rfl rfl rfl ?_
                refine v_fa_vw (off' := 0) lay27 rfl rfl rfl ?_
                refine v_nil ?_
                refine d_q rfl rfl rfl rfl rfl ?_
                refine v_load_vw (.c (.v _)) lay2 rfl rfl rfl ?_
                refine v_nil ?_
                refine d_q rfl rfl rfl rfl rfl ?_
                refine v_move rfl ?_
                refine v_nil ?_
                refine d_q rfl rfl rfl rfl rfl ?_
                refine v_nil_vw rfl ?_
                refine v_nil ?_
                refine d_q rfl rfl rfl rfl rfl ?_
                refine v_fa_vw (off' := 0) lay27 rfl rfl rfl ?_
                refine v_nil ?_
                refine d_q rfl rfl rfl rfl rfl ?_
                refine v_load_vw (.c (.v _)) lay2 rfl rfl rfl ?_
                refine v_nil ?_
                refine d_q rfl rfl rfl rfl rfl ?_
                refine v_geq lay2 rfl rfl (fun h9 => ?_) (fun h9 => ?_)
                · skip
                  refine v_nil ?_
                  refine d_q rfl rfl rfl rfl rfl ?_
                  refine v_pick_t rfl rfl ?_
                  refine v_nil ?_
                  refine d_q rfl rfl rfl rfl rfl ?_
                  refine v_pick_f rfl rfl ?_
                  refine v_nil ?_
                  refine d_nil ?_
                  refine q_n ?_
                  refine w_t rfl ?_
                  refine w_seq ?_
                  refine w_reg rfl ?_
                  refine v_assign (c := .v (.bool false)) rfl ?_
                  refine v_nil ?_
                  refine q_n ?_
                  refine w_ret (q_br (q_r (q_r (q_br (q_r ?_)))))
                  refine r_r rfl ?_
                  exact a_b (by simp only [Bool.false_eq_true, false_iff]; exact fun h => by have h := h.2 i hq2; have := h.2.2.2.2 q8 hq8 (by omega); omega)
                · skip
                  refine v_nil ?_
                  refine d_q rfl rfl rfl rfl rfl ?_
                  refine v_pick_t rfl rfl ?_
                  refine v_nil ?_
                  refine d_q rfl rfl rfl rfl rfl ?_
                  refine v_pick_f rfl rfl ?_
                  refine v_nil ?_
                  refine d_nil ?_
                  refine q_n ?_
                  refine w_f rfl ?_
                  refine w_skip ?_
                  refine q_bn ?_
                  refine q_n ?_
                  refine w_reg rfl ?_
                  refine v_move rfl ?_
                  refine v_add lay3 rfl rfl (i64r (by omega)) ?_
                  refine v_assign rfl ?_
                  refine v_nil ?_
                  refine q_n ?_
                  refine ⟨_, _, _, ?_, ⟨i + 1, rfl, by omega, ok_step hp ⟨h3, by omega, by omega, by omega, fun p hp2 he => by
                      obtain rfl : p = q8 := by omega
                      omega⟩, rfl, rfl⟩, by omega⟩
                  exact turn0 ⟨tr_sl, tr_v, trivial⟩
              · skip
                refine v_nil ?_
                refine d_q rfl rfl rfl rfl rfl ?_
                refine v_move rfl ?_
                refine v_nil ?_
                refine d_off rfl rfl ?_
                refine d_off rfl rfl ?_
                refine d_off rfl rfl ?_
                refine d_off rfl rfl ?_
                refine d_off rfl rfl ?_
                refine d_off rfl rfl ?_
                refine d_off rfl rfl ?_
                refine d_off rfl rfl ?_
                refine d_off rfl rfl ?_
                refine d_off rfl rfl ?_
                refine d_off rfl rfl ?_
                refine d_q rfl rfl rfl rfl rfl ?_
                refine v_pick_f (v := .v (.bool false)) rfl rfl ?_
                refine v_nil ?_
                refine d_q rfl rfl rfl rfl rfl ?_
                refine v_pick_f rfl rfl ?_
                refine v_nil ?_
                refine d_nil ?_
                refine q_n ?_
                refine w_f rfl ?_
                refine w_skip ?_
                refine q_bn ?_
                refine q_n ?_
                refine w_reg rfl ?_
                refine v_move rfl ?_
                refine v_add lay3 rfl rfl (i64r (by omega)) ?_
                refine v_assign rfl ?_
                refine v_nil ?_
                refine q_n ?_
                refine ⟨_, _, _, ?_, ⟨i + 1, rfl, by omega, ok_step hp ⟨h3, by omega, by omega, by omega, fun p hp2 he => absurd he (by omega)⟩, rfl, rfl⟩, by omega⟩
                exact turn0 ⟨tr_sl, tr_v, trivial⟩
      · skip
        refine d_q rfl rfl rfl rfl rfl ?_
        refine v_not true rfl rfl ?_
        refine v_nil ?_
        refine d_q rfl rfl rfl rfl rfl ?_
        refine v_move rfl ?_
        refine v_nil ?_
        refine d_off rfl rfl ?_
        refine d_off rfl rfl ?_
        refine d_off rfl rfl ?_
        refine d_off rfl rfl ?_
        refine d_off rfl rfl ?_
        refine d_q rfl rfl rfl rfl rfl ?_
        refine v_pick_t (v := .v (.bool true)) rfl rfl ?_
        refine v_nil ?_
        refine d_q rfl rfl rfl rfl rfl ?_
        refine v_move rfl ?_
        refine v_nil ?_
        refine d_off rfl rfl ?_
        refine d_off rfl rfl ?_
        refine d_off rfl rfl ?_
        refine d_off rfl rfl ?_
        refine d_off rfl rfl ?_
        refine d_q rfl rfl rfl rfl rfl ?_
        refine v_pick_t (v := .v (.bool true)) rfl rfl ?_
        refine v_nil ?_
        refine d_q rfl rfl rfl rfl rfl ?_
        refine v_move rfl ?_
        refine v_nil ?_
        refine d_off rfl rfl ?_
        refine d_off rfl rfl ?_
        refine d_off rfl rfl ?_
        refine d_off rfl rfl ?_
        refine d_off rfl rfl ?_
        refine d_q rfl rfl rfl rfl rfl ?_
        refine v_pick_t (v := .v (.bool true)) rfl rfl ?_
        refine v_nil ?_
        refine d_q rfl rfl rfl rfl rfl ?_
        refine v_move rfl ?_
        refine v_nil ?_
        refine d_off rfl rfl ?_
        refine d_off rfl rfl ?_
        refine d_off rfl rfl ?_
        refine d_off rfl rfl ?_
        refine d_off rfl rfl ?_
        refine d_off rfl rfl ?_
        refine d_off rfl rfl ?_
        refine d_off rfl rfl ?_
        refine d_off rfl rfl ?_
        refine d_off rfl rfl ?_
        refine d_off rfl rfl ?_
        refine d_off rfl rfl ?_
        refine d_off rfl rfl ?_
        refine d_off rfl rfl ?_
        refine d_off rfl rfl ?_
        refine d_q rfl rfl rfl rfl rfl ?_
        refine v_pick_t (v := .v (.bool true)) rfl rfl ?_
        refine v_nil ?_
        refine d_nil ?_
        refine q_n ?_
        refine w_t rfl ?_
        refine w_seq ?_
        refine w_reg rfl ?_
        refine v_assign (c := .v (.bool false)) rfl ?_
        refine v_nil ?_
        refine q_n ?_
        refine w_ret (q_br (q_r (q_r (q_br (q_r ?_)))))
        refine r_r rfl ?_
        exact a_b (by simp only [Bool.false_eq_true, false_iff]; exact fun h => by have h := h.2 i hq2; exact absurd h.1 h3)
    · skip
      refine v_nil ?_
      refine q_n ?_
      refine w_f rfl ?_
      refine w_exit ?_
      refine q_e ?_
      refine q_e ?_
      refine q_hit ?_
      refine q_n ?_
      refine w_seq ?_
      refine w_reg rfl ?_
      refine v_move rfl ?_
      refine v_len_sl lay40 rfl ?_
      refine v_leq lay3 rfl rfl (fun h10 => ?_) (fun h10 => ?_)
      · skip
        refine v_assign rfl ?_
        refine v_nil ?_
        refine q_n ?_
        refine w_ret ?_
        refine r_r rfl ?_
        have he : i = xs.length := by omega
        exact a_b (by simp only [true_iff]; exact ⟨by omega, fun j hj => hp j hj (by omega)⟩)
      · skip
        refine v_assign rfl ?_
        refine v_nil ?_
        refine q_n ?_
        refine w_ret ?_
        refine r_r rfl ?_
        exact a_b (by simp only [Bool.false_eq_true, false_iff]; exact fun h => by have := h.1; omega)

theorem c58 (xs : List Tal) (hx : xs.length ≤ 2 ^ 40) (hb : T16 xs) : PureC X 58 [.c (tals false xs)] (cB (decide (okL xs))) := by
  refine PureC.of_body (drawD_ok X) (fun _ _ => Go.Proofs.Try.call58 _ _) Go.Proofs.Try.func58 rfl (n := 47) rfl ?_
  refine w_seq ?_
  refine w_reg rfl ?_
  refine v_assign (c := .v (.bool false)) rfl ?_
  refine v_nil ?_
  refine q_n ?_
  refine w_seq ?_
  refine w_seq ?_
  refine w_reg rfl ?_
  refine v_move rfl ?_
  refine v_len_sl lay40 rfl ?_
  refine v_move (c := .v (.int .i64 0)) rfl ?_
  refine v_nil ?_
  refine q_n ?_
  refine w_block ?_
  refine w_loop (fun k sl H => ∃ i : Nat, k = xs.length - i ∧ i ≤ xs.length ∧ (∀ j (hj : j < xs.length), j < i → okAt xs j hj) ∧ sl = sls [(0, .c (tals false xs)), (5, .c (tals false xs)), (6, cI xs.length), (7, cI i)] ∧ H = []) ?_ ?_
  · refine ⟨_, _, _, ?_, 0, rfl, Nat.zero_le _, fun j hj h => absurd h (Nat.not_lt_zero _), rfl, rfl⟩
    exact turn0 ⟨tr_sl, tr_sl, tr_v, tr_v, trivial⟩
  · rintro k sl H ⟨i, rfl, hi, hp, rfl, rfl⟩
    refine w_seq ?_
    refine w_reg rfl ?_
    refine v_lss lay3 rfl rfl (fun h1 => ?_) (fun h1 => ?_)
    · skip
      refine v_nil ?_
      refine q_n ?_
      refine w_seq ?_
      refine w_t rfl ?_
      refine w_skip ?_
      refine q_n ?_
      refine w_seq ?_
      refine w_block ?_
      refine w_seq ?_
      refine w_reg rfl ?_
      refine v_move rfl ?_
      refine v_idx (k := 3) te_len lay40 lay27 rfl rfl rfl rfl rfl (by omega) (fun q2 hq2 e2 => ?_)
      obtain rfl : i = q2 := by omega
      refine v_load_vw (.agg [.v _, .v _, .v _]) lay27 rfl rfl rfl ?_
      refine v_alloc (m := 0) (H' := [⟨[.v _, .v _, .v _], 27, true⟩]) lay27 rfl rfl ?_
      refine v_assign rfl ?_
      refine v_store (H' := [⟨[_, _, _], 27, true⟩]) lay27 rfl rfl rfl rfl rfl rfl ?_
      refine v_nil ?_
      refine q_n ?_
      refine w_seq ?_
      refine w_draw [0, 1, 3, 7, 15, 31, 63, 127, 255, 255, 767, 2047, 4095, 8191, 255, 16639, 65535, 131071, 262143, 524287, 1048575, 2097151, 4194303, 8388607, 16777215, 33554431, 67108863, 134217727, 268435455, 536870911, 1073741823] [⟨0, 0, []⟩, ⟨1, 0, []⟩, ⟨2, 0, []⟩, ⟨3, 0, []⟩, ⟨4, 0, []⟩, ⟨5, 0, []⟩, ⟨6, 0, []⟩, ⟨7, 0, []⟩, ⟨8, 0, []⟩, ⟨9, 0, []⟩, ⟨10, 0, []⟩, ⟨11, 0, []⟩, ⟨12, 0, []⟩, ⟨13, 0, []⟩, ⟨14, 0, []⟩, ⟨15, 0, []⟩, ⟨16, 0, []⟩, ⟨17, 0, []⟩, ⟨18, 0, []⟩, ⟨19, 0, []⟩, ⟨20, 0, []⟩, ⟨21, 0, []⟩, ⟨22, 0, []⟩, ⟨23, 0, []⟩, ⟨24, 0, []⟩, ⟨25, 0, []⟩, ⟨26, 0, []⟩, ⟨27, 0, []⟩, ⟨28, 0, []⟩, ⟨29, 0, []⟩, ⟨30, 0, []⟩] rfl rfl ?_
      refine d_q rfl rfl rfl rfl rfl ?_
      refine v_fa_pt (off' := 0) lay27 rfl rfl rfl ?_
      refine v_nil ?_
      refine d_q rfl rfl rfl rfl rfl ?_
      refine v_load_pt (.c _) lay2 rfl rfl rfl rfl ?_
      refine v_nil ?_
      refine d_callb (c67 _ _ _) rfl rfl rfl rfl (.cons vw_v (.cons vw_v (.cons vw_v .nil))) (fun h3 => ?_) (fun h3 => ?_)
      · skip
        refine d_q rfl rfl rfl rfl rfl ?_
        refine v_not false rfl rfl ?_
        refine v_nil ?_
        refine d_q rfl rfl rfl rfl rfl ?_
        refine v_move rfl ?_
        refine v_nil ?_
        refine d_q rfl rfl rfl rfl rfl ?_
        refine v_move rfl ?_
        refine v_nil ?_
        refine d_q rfl rfl rfl rfl rfl ?_
        refine v_gtr lay3 rfl rfl (fun h4 => ?_) (fun h4 => ?_)
        · skip
          refine v_nil ?_
          refine d_q rfl rfl rfl rfl rfl ?_
          refine v_move rfl ?_
          refine v_nil ?_
          refine d_q rfl rfl rfl rfl rfl ?_
          refine v_move rfl ?_
          refine v_nil ?_
          refine d_q rfl rfl rfl rfl rfl ?_
          refine v_move rfl ?_
          refine v_nil ?_
          refine d_q rfl rfl rfl rfl rfl ?_
          refine v_sub lay3 rfl rfl (i64r (by omega)) ?_
          refine v_nil ?_
          refine d_q rfl rfl rfl rfl rfl ?_
          refine v_idx (k := 3) te_len lay40 lay27 rfl rfl rfl rfl rfl (by omega) (fun q5 hq5 e5 => ?_)
          refine v_nil ?_
          refine d_q rfl rfl rfl rfl rfl ?_
          refine v_fa_vw (off' := 0) lay27 rfl rfl rfl ?_
          refine v_nil ?_
          refine d_q rfl rfl rfl rfl rfl ?_
          refine v_load_vw (.c (.v _)) lay2 rfl rfl rfl ?_
          refine v_nil ?_
          refine d_q rfl rfl rfl rfl rfl ?_
          refine v_fa_pt (off' := 0) lay27 rfl rfl rfl ?_
          refine v_nil ?_
          refine d_q rfl rfl rfl rfl rfl ?_
          refine v_load_pt (.c _) lay2 rfl rfl rfl rfl ?_
          refine v_nil ?_
          refine d_q rfl rfl rfl rfl rfl ?_
          refine v_geq lay2 rfl rfl (fun h6 => ?_) (fun h6 => ?_)
          · skip
            refine v_nil ?_
            refine d_q rfl rfl rfl rfl rfl ?_
            refine v_pick_t rfl rfl ?_
            refine v_nil ?_
            refine d_q rfl rfl rfl rfl rfl ?_
            refine v_pick_f rfl rfl ?_
            refine v_nil ?_
            refine d_q rfl rfl rfl rfl rfl ?_
            refine v_move rfl ?_
            refine v_nil ?_
            refine d_off rfl rfl ?_
            refine d_off rfl rfl ?_
            refine d_off rfl rfl ?_
            refine d_q rfl rfl rfl rfl rfl ?_
            refine v_pick_t (v := .v (.bool true)) rfl rfl ?_
            refine v_nil ?_
            refine d_q rfl rfl rfl rfl rfl ?_
            refine v_move rfl ?_
            refine v_nil ?_
            refine d_off rfl rfl ?_
            refine d_off rfl rfl ?_
            refine d_off rfl rfl ?_
            refine d_off rfl rfl ?_
            refine d_off rfl rfl ?_
            refine d_q rfl rfl rfl rfl rfl ?_
            refine v_pick_t (v := .v (.bool true)) rfl rfl ?_
            refine v_nil ?_
            refine d_nil ?_
            refine q_n ?_
            refine w_t rfl ?_
            refine w_seq ?_
            refine w_reg rfl ?_
            refine v_assign (c := .v (.bool false)) rfl ?_
            refine v_nil ?_
            refine q_n ?_
            refine w_ret (q_br (q_r (q_r (q_br (q_r ?_)))))
            refine r_r rfl ?_
            exact a_b (by simp only [Bool.false_eq_true, false_iff]; exact fun h => by have h := h.2 i hq2; have := h.2.2.2.2 q5 hq5 (by omega); omega)
          · skip
            refine v_nil ?_
            refine d_q rfl rfl rfl rfl rfl ?_
            refine v_pick_t rfl rfl ?_
            refine v_nil ?_
            refine d_q rfl rfl rfl rfl rfl ?_
            refine v_pick_f rfl rfl ?_
            refine v_nil ?_
            refine d_q rfl rfl rfl rfl rfl ?_
            refine v_move rfl ?_
            refine v_nil ?_
            refine d_q rfl rfl rfl rfl rfl ?_
            refine v_fa_pt (off' := 1) lay27 rfl rfl rfl ?_
            refine v_nil ?_
            refine d_q rfl rfl rfl rfl rfl ?_
            refine v_load_pt (.c _) lay23 rfl rfl rfl rfl ?_
            refine v_nil ?_
            refine d_q rfl rfl rfl rfl rfl ?_
            refine v_lss lay23 rfl rfl (fun h7 => ?_) (fun h7 => ?_)
            · skip
              refine v_nil ?_
              refine d_q rfl rfl rfl rfl rfl ?_
              refine v_pick_f rfl rfl ?_
              refine v_nil ?_
              refine d_q rfl rfl rfl rfl rfl ?_
              refine v_move rfl ?_
              refine v_nil ?_
              refine d_off rfl rfl ?_
              refine d_off rfl rfl ?_
              refine d_off rfl rfl ?_
              refine d_off rfl rfl ?_
              refine d_off rfl rfl ?_
              refine d_q rfl rfl rfl rfl rfl ?_
              refine v_pick_t (v := .v (.bool true)) rfl rfl ?_
              refine v_nil ?_
              refine d_nil ?_
              refine q_n ?_
              refine w_t rfl ?_
              refine w_seq ?_
              refine w_reg rfl ?_
              refine v_assign (c := .v (.bool false)) rfl ?_
              refine v_nil ?_
              refine q_n ?_
              refine w_ret (q_br (q_r (q_r (q_br (q_r ?_)))))
              refine r_r rfl ?_
              exact a_b (by simp only [Bool.false_eq_true, false_iff]; exact fun h => by have h := h.2 i hq2; have := h.2.1; omega)
            · skip
              refine v_nil ?_
              refine d_q rfl rfl rfl rfl rfl ?_
              refine v_pick_f rfl rfl ?_
              refine v_nil ?_
              refine d_q rfl rfl rfl rfl rfl ?_
              refine v_move rfl ?_
              refine v_nil ?_
              refine d_q rfl rfl rfl rfl rfl ?_
              refine v_fa_pt (off' := 2) lay27 rfl rfl rfl ?_
              refine v_nil ?_
              refine d_q rfl rfl rfl rfl rfl ?_
              refine v_load_pt (.c _) lay23 rfl rfl rfl rfl ?_
              refine v_nil ?_
              refine d_q rfl rfl rfl rfl rfl ?_
              refine v_conv_ii lay23 lay2 rfl (i64r (by have := hb _ (List.getElem_mem hq2); omega)) ?_
              refine v_nil ?_
              refine d_callb (c67 _ _ _) rfl rfl rfl rfl (.cons vw_v (.cons vw_v (.cons vw_v .nil))) (fun h8 => ?_) (fun h8 => ?_)
              · skip
                refine d_q rfl rfl rfl rfl rfl ?_
                refine v_not false rfl rfl ?_
                refine v_nil ?_
                refine d_q rfl rfl rfl rfl rfl ?_
                refine v_pick_f rfl rfl ?_
                refine v_nil ?_
                refine d_nil ?_
                refine q_n ?_
                refine w_f rfl ?_
                refine w_skip ?_
                refine q_bn ?_
                refine q_n ?_
                refine w_reg rfl ?_
                refine v_add lay3 rfl rfl (i64r (by omega)) ?_
                refine v_move rfl ?_
                refine v_nil ?_
                refine q_n ?_
                refine ⟨_, _, _, ?_, ⟨i + 1, rfl, by omega, ok_step hp ⟨h3, by omega, h8.1, h8.2, fun p hp2 he => by
                    obtain rfl : p = q5 := by omega
                    omega⟩, rfl, rfl⟩, by omega⟩
                exact turn0 ⟨tr_sl, tr_sl, tr_v, tr_v, trivial⟩
              · skip
                refine d_q rfl rfl rfl rfl rfl ?_
                refine v_not true rfl rfl ?_
                refine v_nil ?_
                refine d_q rfl rfl rfl rfl rfl ?_
                refine v_pick_f rfl rfl ?_
                refine v_nil ?_
                refine d_nil ?_
                refine q_n ?_
                refine w_t rfl ?_
                refine w_seq ?_
                refine w_reg rfl ?_
                refine v_assign (c := .v (.bool false)) rfl ?_
                refine v_nil ?_
                refine q_n ?_
                refine w_ret (q_br (q_r (q_r (q_br (q_r ?_)))))
                refine r_r rfl ?_
                exact a_b (by simp only [Bool.false_eq_true, false_iff]; exact fun h => by have h := h.2 i hq2; exact absurd ⟨h.2.2.1, h.2.2.2.1⟩ h8)
        · skip
          refine v_nil ?_
          refine d_q rfl rfl rfl rfl rfl ?_
          refine v_move rfl ?_
          refine v_nil ?_
          refine d_off rfl rfl ?_
          refine d_off rfl rfl ?_
          refine d_off rfl rfl ?_
          refine d_off rfl rfl ?_
          refine d_off rfl rfl ?_
          refine d_off rfl rfl ?_
          refine d_off rfl rfl ?_
          refine d_off rfl rfl ?_
          refine d_off rfl rfl ?_
          refine d_q rfl rfl rfl rfl rfl ?_
          refine v_pick_f (v := .v (.bool false)) rfl rfl ?_
          refine v_nil ?_
          refine d_q rfl rfl rfl rfl rfl ?_
          refine v_pick_f rfl rfl ?_
          refine v_nil ?_
          refine d_q rfl rfl rfl rfl rfl ?_
          refine v_move rfl ?_
          refine v_nil ?_
          refine d_q rfl rfl rfl rfl rfl ?_
          refine v_fa_pt (off' := 1) lay27 rfl rfl rfl ?_
          refine v_nil ?_
          refine d_q rfl rfl rfl rfl rfl ?_
          refine v_load_pt (.c _) lay23 rfl rfl rfl rfl ?_
          refine v_nil ?_
          refine d_q rfl rfl rfl rfl rfl ?_
          refine v_lss lay23 rfl rfl (fun h9 => ?_) (fun h9 => ?_)
          · skip
            refine v_nil ?_
            refine d_q rfl rfl rfl rfl rfl ?_
            refine v_pick_f rfl rfl ?_
            refine v_nil ?_
            refine d_q rfl rfl rfl rfl rfl ?_
            refine v_move rfl ?_
            refine v_nil ?_
            refine d_off rfl rfl ?_
            refine d_off rfl rfl ?_
            refine d_off rfl rfl ?_
            refine d_off rfl rfl ?_
            refine d_off rfl rfl ?_
            refine d_q rfl rfl rfl rfl rfl ?_
            refine v_pick_t (v := .v (.bool true)) rfl rfl ?_
            refine v_nil ?_
            refine d_nil ?_
            refine q_n ?_
            refine w_t rfl ?_
            refine w_seq ?_
            refine w_reg rfl ?_
            refine v_assign (c := .v (.bool false)) rfl ?_
            refine v_nil ?_
            refine q_n ?_
            refine w_ret (q_br (q_r (q_r (q_br (q_r ?_)))))
            refine r_r rfl ?_
            exact a_b (by simp only [Bool.false_eq_true, false_iff]; exact fun h => by have h := h.2 i hq2; have := h.2.1; omega)
          · skip
            refine v_nil ?_
            refine d_q rfl rfl rfl rfl rfl ?_
            refine v_pick_f rfl rfl ?_
            refine v_nil ?_
            refine d_q rfl rfl rfl rfl rfl ?_
            refine v_move rfl ?_
            refine v_nil ?_
            refine d_q rfl rfl rfl rfl rfl ?_
            refine v_fa_pt (off' := 2) lay27 rfl rfl rfl ?_
            refine v_nil ?_
            refine d_q rfl rfl rfl rfl rfl ?_
            refine v_load_pt (.c _) lay23 rfl rfl rfl rfl ?_
            refine v_nil ?_
            refine d_q rfl rfl rfl rfl rfl ?_
            refine v_conv_ii lay23 lay2 rfl (i64r (by have := hb _ (List.getElem_mem hq2); omega)) ?_
            refine v_nil ?_
            refine d_callb (c67 _ _ _) rfl rfl rfl rfl (.cons vw_v (.cons vw_v (.cons vw_v .nil))) (fun h10 => ?_) (fun h10 => ?_)
            · skip
              refine d_q rfl rfl rfl rfl rfl ?_
              refine v_not false rfl rfl ?_
              refine v_nil ?_
              refine d_q rfl rfl rfl rfl rfl ?_
              refine v_pick_f rfl rfl ?_
              refine v_nil ?_
              refine d_nil ?_
              refine q_n ?_
              refine w_f rfl ?_
              refine w_skip ?_
              refine q_bn ?_
              refine q_n ?_
              refine w_reg rfl ?_
              refine v_add lay3 rfl rfl (i64r (by omega)) ?_
              refine v_move rfl ?_
              refine v_nil ?_
              refine q_n ?_
              refine ⟨_, _, _, ?_, ⟨i + 1, rfl, by omega, ok_step hp ⟨h3, by omega, h10.1, h10.2, fun p hp2 he => absurd he (by omega)⟩, rfl, rfl⟩, by omega⟩
              exact turn0 ⟨tr_sl, tr_sl, tr_v, tr_v, trivial⟩
            · skip
              refine d_q rfl rfl rfl rfl rfl ?_
              refine v_not true rfl rfl ?_
              refine v_nil ?_
              refine d_q rfl rfl rfl rfl rfl ?_
              refine v_pick_f rfl rfl ?_
              refine v_nil ?_
              refine d_nil ?_
              refine q_n ?_
              refine w_t rfl ?_
              refine w_seq ?_
              refine w_reg rfl ?_
              refine v_assign (c := .v (.bool false)) rfl ?_
              refine v_nil ?_
              refine q_n ?_
              refine w_ret (q_br (q_r (q_r (q_br (q_r ?_)))))
              refine r_r rfl ?_
              exact a_b (by simp only [Bool.false_eq_true, false_iff]; exact fun h => by have h := h.2 i hq2; exact absurd ⟨h.2.2.1, h.2.2.2.1⟩ h10)
      · skip
        refine d_q rfl rfl rfl rfl rfl ?_
        refine v_not true rfl rfl ?_
        refine v_nil ?_
        refine d_q rfl rfl rfl rfl rfl ?_
        refine v_move rfl ?_
        refine v_nil ?_
        refine d_off rfl rfl ?_
        refine d_off rfl rfl ?_
        refine d_off rfl rfl ?_
        refine d_off rfl rfl ?_
        refine d_off rfl rfl ?_
        refine d_off rfl rfl ?_
        refine d_off rfl rfl ?_
        refine d_off rfl rfl ?_
        refine d_off rfl rfl ?_
        refine d_off rfl rfl ?_
        refine d_off rfl rfl ?_
        refine d_off rfl rfl ?_
        refine d_off rfl rfl ?_
        refine d_q rfl rfl rfl rfl rfl ?_
        refine v_pick_t (v := .v (.bool true)) rfl rfl ?_
        refine v_nil ?_
        refine d_q rfl rfl rfl rfl rfl ?_
        refine v_move rfl ?_
        refine v_nil ?_
        refine d_off rfl rfl ?_
        refine d_off rfl rfl ?_
        refine d_off rfl rfl ?_
        refine d_q rfl rfl rfl rfl rfl ?_
        refine v_pick_t (v := .v (.bool true)) rfl rfl ?_
        refine v_nil ?_
        refine d_q rfl rfl rfl rfl rfl ?_
        refine v_move rfl ?_
        refine v_nil ?_
        refine d_off rfl rfl ?_
        refine d_off rfl rfl ?_
        refine d_off rfl rfl ?_
        refine d_off rfl rfl ?_
        refine d_off rfl rfl ?_
        refine d_q rfl rfl rfl rfl rfl ?_
        refine v_pick_t (v := .v (.bool true)) rfl rfl ?_
        refine v_nil ?_
        refine d_nil ?_
        refine q_n ?_
        refine w_t rfl ?_
        refine w_seq ?_
        refine w_reg rfl ?_
        refine v_assign (c := .v (.bool false)) rfl ?_
        refine v_nil ?_
        refine q_n ?_
        refine w_ret (q_br (q_r (q_r (q_br (q_r ?_)))))
        refine r_r rfl ?_
        exact a_b (by simp only [Bool.false_eq_true, false_iff]; exact fun h => by have h := h.2 i hq2; exact absurd h.1 h3)
    · skip
      refine v_nil ?_
      refine q_n ?_
      refine w_seq ?_
      refine w_f rfl ?_
      refine w_exit ?_
      refine q_e ?_
      refine q_e ?_
      refine q_hit ?_
      refine q_n ?_
      refine w_seq ?_
      refine w_reg rfl ?_
      refine v_move rfl ?_
      refine v_len_sl lay40 rfl ?_
      refine v_leq lay3 rfl rfl (fun h11 => ?_) (fun h11 => ?_)
      · skip
        refine v_assign rfl ?_
        refine v_nil ?_
        refine q_n ?_
        refine w_ret ?_
        refine r_r rfl ?_
        have he : i = xs.length := by omega
        exact a_b (by simp only [true_iff]; exact ⟨by omega, fun j hj => hp j hj (by omega)⟩)
      · skip
        refine v_assign rfl ?_
        refine v_nil ?_
        refine q_n ?_
        refine w_ret ?_
        refine r_r rfl ?_
        exact a_b (by simp only [Bool.false_eq_true, false_iff]; exact fun h => by have := h.1; omega)

/-- A share: an amount that is not above one. -/
def shOk (x : Option Nat) : Prop := amtB x = true ∧ (ford .f32 x (fOf .f32 1065353216) == some .lt || ford .f32 x (fOf .f32 1065353216) == some .eq) = true
instance (x : Option Nat) : Decidable (shOk x) := by unfold shOk; infer_instance

theorem c71 (x : Option Nat) : PureC X 71 [.c (.f .f32 x)] (cB (decide (shOk x))) := by
  refine PureC.of_body (drawD_ok X) (fun _ _ => Go.Proofs.Try.call71 _ _) Go.Proofs.Try.func71 rfl (n := 9) rfl ?_
  refine w_seq ?_
  refine w_reg rfl ?_
  refine v_assign (c := .v (.bool false)) rfl ?_
  refine v_nil ?_
  refine q_n ?_
  refine w_seq ?_
  refine w_reg rfl ?_
  refine v_move rfl ?_
  refine v_callb (c77 _) rfl rfl (.cons vw_f .nil) (fun h1 => ?_) (fun h1 => ?_)
  · skip
    refine v_move rfl ?_
    refine v_guard_on rfl rfl ?_
    refine v_move rfl ?_
    refine v_guard_on rfl rfl ?_
    refine v_binb lay22 rfl rfl rfl (fun h2 => ?_) (fun h2 => ?_)
    · skip
      refine v_pick_t rfl rfl ?_
      refine v_assign rfl ?_
      refine v_nil ?_
      refine q_n ?_
      refine w_ret ?_
      refine r_r rfl ?_
      exact a_b ⟨fun _ => ⟨h1, h2⟩, fun _ => rfl⟩
    · skip
      refine v_pick_t rfl rfl ?_
      refine v_assign rfl ?_
      refine v_nil ?_
      refine q_n ?_
      refine w_ret ?_
      refine r_r rfl ?_
      exact a_b ⟨fun h => (by cases h), fun h => absurd (h2.symm.trans h.2) (by decide)⟩
  · skip
    refine v_move rfl ?_
    refine v_guard_off rfl rfl rfl ?_
    refine v_guard_off rfl rfl rfl ?_
    refine v_pick_f (v := .v (.bool false)) rfl rfl ?_
    refine v_assign rfl ?_
    refine v_nil ?_
    refine q_n ?_
    refine w_ret ?_
    refine r_r rfl ?_
    exact a_b ⟨fun h => (by cases h), fun h => absurd h.1 h1⟩

theorem c73 (x : Option Nat) (hx : Sg x) : PureC X 73 [.c (.f .f32 x)] (cB (decide (shOk x))) := by
  refine PureC.of_body (drawD_ok X) (fun _ _ => Go.Proofs.Try.call73 _ _) Go.Proofs.Try.func73 rfl (n := 9) rfl ?_
  refine w_seq ?_
  refine w_reg rfl ?_
  refine v_assign (c := .v (.bool false)) rfl ?_
  refine v_nil ?_
  refine q_n ?_
  refine w_seq ?_
  refine w_reg rfl ?_
  refine v_move rfl ?_
  refine v_callb (c80 _ (by assumption)) rfl rfl (.cons vw_f .nil) (fun h1 => ?_) (fun h1 => ?_)
  · skip
    refine v_move rfl ?_
    refine v_guard_on rfl rfl ?_
    refine v_move rfl ?_
    refine v_guard_on rfl rfl ?_
    refine v_binb lay22 rfl rfl rfl (fun h2 => ?_) (fun h2 => ?_)
    · skip
      refine v_pick_t rfl rfl ?_
      refine v_assign rfl ?_
      refine v_nil ?_
      refine q_n ?_
      refine w_ret ?_
      refine r_r rfl ?_
      exact a_b ⟨fun _ => ⟨h1, h2⟩, fun _ => rfl⟩
    · skip
      refine v_pick_t rfl rfl ?_
      refine v_assign rfl ?_
      refine v_nil ?_
      refine q_n ?_
      refine w_ret ?_
      refine r_r rfl ?_
      exact a_b ⟨fun h => (by cases h), fun h => absurd (h2.symm.trans h.2) (by decide)⟩
  · skip
    refine v_move rfl ?_
    refine v_guard_off rfl rfl rfl ?_
    refine v_guard_off rfl rfl rfl ?_
    refine v_pick_f (v := .v (.bool false)) rfl rfl ?_
    refine v_assign rfl ?_
    refine v_nil ?_
    refine q_n ?_
    refine w_ret ?_
    refine r_r rfl ?_
    exact a_b ⟨fun h => (by cases h), fun h => absurd h.1 h1⟩

theorem c78 (a : Int) : PureC X 78 [cI a] (cB (decide (1 ≤ a ∧ a ≤ 96))) := by
  refine PureC.of_body (drawD_ok X) (fun _ _ => Go.Proofs.Try.call78 _ _) Go.Proofs.Try.func78 rfl (n := 5) rfl ?_
  refine w_seq ?_
  refine w_reg rfl ?_
  refine v_assign (c := .v (.bool false)) rfl ?_
  refine v_nil ?_
  refine q_n ?_
  refine w_seq ?_
  refine w_reg rfl ?_
  refine v_move rfl ?_
  refine v_callb (c104 _ _ _) rfl rfl (.cons vw_v (.cons vw_v (.cons vw_v .nil))) (fun h1 => ?_) (fun h1 => ?_)
  · skip
    refine v_assign rfl ?_
    refine v_nil ?_
    refine q_n ?_
    refine w_ret ?_
    refine r_r rfl ?_
    exact a_b (by simp_all)
  · skip
    refine v_assign rfl ?_
    refine v_nil ?_
    refine q_n ?_
    refine w_ret ?_
    refine r_r rfl ?_
    exact a_b (by simp_all)

theorem c81 (a : Int) : PureC X 81 [cI a] (cB (decide (1 ≤ a ∧ a ≤ 96))) := by
  refine PureC.of_body (drawD_ok X) (fun _ _ => Go.Proofs.Try.call81 _ _) Go.Proofs.Try.func81 rfl (n := 5) rfl ?_
  refine w_seq ?_
  refine w_reg rfl ?_
  refine v_assign (c := .v (.bool false)) rfl ?_
  refine v_nil ?_
  refine q_n ?_
  refine w_seq ?_
  refine w_reg rfl ?_
  refine v_move rfl ?_
  refine v_callb (c67 _ _ _) rfl rfl (.cons vw_v (.cons vw_v (.cons vw_v .nil))) (fun h1 => ?_) (fun h1 => ?_)
  · skip
    refine v_assign rfl ?_
    refine v_nil ?_
    refine q_n ?_
    refine w_ret ?_
    refine r_r rfl ?_
    exact a_b (by simp_all)
  · skip
    refine v_assign rfl ?_
    refine v_nil ?_
    refine q_n ?_
    refine w_ret ?_
    refine r_r rfl ?_
    exact a_b (by simp_all)

theorem c127 (a : Int) : PureC X 127 [cI a] (cB (decide False)) := by
  refine PureC.of_body (drawD_ok X) (fun _ _ => Go.Proofs.Try.call127 _ _) Go.Proofs.Try.func127 rfl (n := 6) rfl ?_
  refine w_seq ?_
  refine w_reg rfl ?_
  refine v_assign (c := .v (.bool false)) rfl ?_
  refine v_nil ?_
  refine q_n ?_
  refine w_seq ?_
  refine w_reg rfl ?_
  refine v_move rfl ?_
  refine v_move rfl ?_
  refine v_neq lay2 rfl rfl (fun h1 => ?_) (fun h1 => ?_)
  · skip
    exact absurd rfl h1
  · skip
    refine v_assign rfl ?_
    refine v_nil ?_
    refine q_n ?_
    refine w_ret ?_
    refine r_r rfl ?_
    exact a_b ⟨fun h => (by cases h), False.elim⟩

theorem c115 (a b : Int) : PureC X 115 [cI a, cI b] (cI (cmp3 a b)) := by
  refine PureC.of_body (drawD_ok X) (fun _ _ => Go.Proofs.Try.call115 _ _) Go.Proofs.Try.func115 rfl (n := 20) rfl ?_
  refine w_seq ?_
  refine w_reg rfl ?_
  refine v_assign (c := .v (.int .i64 0)) rfl ?_
  refine v_nil ?_
  refine q_n ?_
  refine w_seq ?_
  refine w_reg rfl ?_
  refine v_move rfl ?_
  refine v_callb (c127 _) rfl rfl (.cons vw_v .nil) (fun h1 => ?_) (fun h1 => ?_)
  · skip
    exact h1.elim
  · skip
    refine v_assign rfl ?_
    refine v_nil ?_
    refine q_n ?_
    refine w_seq ?_
    refine w_reg rfl ?_
    refine v_move rfl ?_
    refine v_callb (c127 _) rfl rfl (.cons vw_v .nil) (fun h2 => ?_) (fun h2 => ?_)
    · skip
      exact h2.elim
    · skip
      refine v_assign rfl ?_
      refine v_nil ?_
      refine q_n ?_
      refine w_seq ?_
      refine w_seq ?_
      refine w_reg rfl ?_
      refine v_move rfl ?_
      refine v_nil ?_
      refine q_n ?_
      refine w_f rfl ?_
      refine w_skip ?_
      refine q_n ?_
      refine w_seq ?_
      refine w_seq ?_
      refine w_reg rfl ?_
      refine v_move rfl ?_
      refine v_nil ?_
      refine q_n ?_
      refine w_f rfl ?_
      refine w_skip ?_
      refine q_n ?_
      refine w_seq ?_
      refine w_seq ?_
      refine w_reg rfl ?_
      refine v_move rfl ?_
      refine v_move rfl ?_
      refine v_lss lay2 rfl rfl (fun h3 => ?_) (fun h3 => ?_)
      · skip
        refine v_nil ?_
        refine q_n ?_
        refine w_t rfl ?_
        refine w_seq ?_
        refine w_reg rfl ?_
        refine v_assign (c := .v (.int .i64 (-1))) rfl ?_
        refine v_nil ?_
        refine q_n ?_
        refine w_ret (q_r ?_)
        refine r_r rfl ?_
        exact a_i (by unfold cmp3; rw [if_pos h3])
      · skip
        refine v_nil ?_
        refine q_n ?_
        refine w_f rfl ?_
        refine w_skip ?_
        refine q_n ?_
        refine w_seq ?_
        refine w_seq ?_
        refine w_reg rfl ?_
        refine v_move rfl ?_
        refine v_move rfl ?_
        refine v_gtr lay2 rfl rfl (fun h4 => ?_) (fun h4 => ?_)
        · skip
          refine v_nil ?_
          refine q_n ?_
          refine w_t rfl ?_
          refine w_seq ?_
          refine w_reg rfl ?_
          refine v_assign (c := .v (.int .i64 1)) rfl ?_
          refine v_nil ?_
          refine q_n ?_
          refine w_ret (q_r ?_)
          refine r_r rfl ?_
          exact a_i (by unfold cmp3; rw [if_neg h3, if_pos (by omega)])
        · skip
          refine v_nil ?_
          refine q_n ?_
          refine w_f rfl ?_
          refine w_skip ?_
          refine q_n ?_
          refine w_seq ?_
          refine w_reg rfl ?_
          refine v_assign (c := .v (.int .i64 0)) rfl ?_
          refine v_nil ?_
          refine q_n ?_
          refine w_ret ?_
          refine r_r rfl ?_
          exact a_i (by unfold cmp3; rw [if_neg h3, if_neg (by omega)])

theorem c114 (t c f b : Int) : PureC X 114 [.agg (tal t c f), cI b] (cI (cmp3 t b)) := by
  refine PureC.of_body (drawD_ok X) (fun _ _ => Go.Proofs.Try.call114 _ _) Go.Proofs.Try.func114 rfl (n := 9) rfl ?_
  refine w_seq ?_
  refine w_reg rfl ?_
  refine v_box (m := 0) (H' := [_]) lay27 rfl rfl rfl ?_
  refine v_assign (c := .v (.int .i64 0)) rfl ?_
  refine v_nil ?_
  refine q_n ?_
  refine w_seq ?_
  refine w_reg rfl ?_
  refine v_fa_pt (off' := 0) lay27 rfl rfl rfl ?_
  refine v_load_pt (.c _) lay2 rfl rfl rfl rfl ?_
  refine v_move rfl ?_
  refine v_call (c115 _ _) rfl rfl rfl (.cons vw_v (.cons vw_v .nil)) ?_
  refine v_assign rfl ?_
  refine v_nil ?_
  refine q_n ?_
  refine w_ret ?_
  refine r_r rfl ?_
  exact a_i rfl

theorem c79 (xs : List Tal) (t : Int) (hx : xs.length ≤ 2 ^ 40) : PureC X 79 [.c (tals false xs), cI t] (cI (fnd xs t)) := by
  refine PureC.of_body (drawD_ok X) (fun _ _ => Go.Proofs.Try.call79 _ _) Go.Proofs.Try.func79 rfl (n := 20) rfl ?_
  refine w_seq ?_
  refine w_reg rfl ?_
  refine v_assign (c := .v (.int .i64 0)) rfl ?_
  refine v_nil ?_
  refine q_n ?_
  refine w_seq ?_
  refine w_seq ?_
  refine w_reg rfl ?_
  refine v_assign (c := .v (.int .i64 0)) rfl ?_
  refine v_nil ?_
  refine q_n ?_
  refine w_block ?_
  refine w_loop (fun k sl H => ∃ i : Nat, k = xs.length - i ∧ i ≤ xs.length ∧ (∀ x ∈ xs.take i, ¬ x.1 = t) ∧ sl = sls [(0, .c (tals false xs)), (1, cI t), (5, cI i)] ∧ H = []) ?_ ?_
  · refine ⟨_, _, _, ?_, 0, rfl, Nat.zero_le _, by simp, rfl, rfl⟩
    exact turn0 ⟨tr_sl, tr_v, tr_v, trivial⟩
  · rintro k sl H ⟨i, rfl, hi, hp, rfl, rfl⟩
    refine w_seq ?_
    refine w_seq ?_
    refine w_reg rfl ?_
    refine v_move rfl ?_
    refine v_move rfl ?_
    refine v_len_sl lay40 rfl ?_
    refine v_lss lay3 rfl rfl (fun h1 => ?_) (fun h1 => ?_)
    · skip
      refine v_nil ?_
      refine q_n ?_
      refine w_t rfl ?_
      refine w_skip ?_
      refine q_n ?_
      refine w_seq ?_
      refine w_block ?_
      refine w_seq ?_
      refine w_reg rfl ?_
      refine v_move rfl ?_
      refine v_move rfl ?_
      refine v_idx (k := 3) te_len lay40 lay27 rfl rfl rfl rfl rfl (by omega) (fun q2 hq2 e2 => ?_)
      obtain rfl : i = q2 := by omega
      refine v_fa_vw (off' := 0) lay27 rfl rfl rfl ?_
      refine v_load_vw (.c (.v _)) lay2 rfl rfl rfl ?_
      refine v_move rfl ?_
      refine v_eql lay2 rfl rfl (fun h3 => ?_) (fun h3 => ?_)
      · skip
        refine v_nil ?_
        refine q_n ?_
        refine w_t rfl ?_
        refine w_seq ?_
        refine w_reg rfl ?_
        refine v_move rfl ?_
        refine v_assign rfl ?_
        refine v_nil ?_
        refine q_n ?_
        refine w_ret (q_br (q_r (q_r (q_br (q_r ?_)))))
        refine r_r rfl ?_
        exact a_i (fnd_hit hq2 hp h3).symm
      · skip
        refine v_nil ?_
        refine q_n ?_
        refine w_f rfl ?_
        refine w_skip ?_
        refine q_bn ?_
        refine q_n ?_
        refine w_reg rfl ?_
        refine v_move rfl ?_
        refine v_add lay3 rfl rfl (i64r (by omega)) ?_
        refine v_assign rfl ?_
        refine v_nil ?_
        refine q_n ?_
        refine ⟨_, _, _, ?_, ⟨i + 1, rfl, by omega, all_step hq2 hp h3, rfl, rfl⟩, by omega⟩
        exact turn0 ⟨tr_sl, tr_v, tr_v, trivial⟩
    · skip
      refine v_nil ?_
      refine q_n ?_
      refine w_f rfl ?_
      refine w_exit ?_
      refine q_e ?_
      refine q_e ?_
      refine q_hit ?_
      refine q_n ?_
      refine w_seq ?_
      refine w_reg rfl ?_
      refine v_assign (c := .v (.int .i64 (-1))) rfl ?_
      refine v_nil ?_
      refine q_n ?_
      refine w_ret ?_
      refine r_r rfl ?_
      obtain rfl : i = xs.length := by omega
      rw [List.take_length] at hp
      exact a_i (fnd_none hp).symm

theorem c113 (ys : List Tal) (t : Int) (hx : ys.length ≤ 2 ^ 40) (hs : srt ys) : PureC X 113 [.c (tals false ys), cI t, .c (.fn 114 [])] (.tup [cI (lowb ys t), cB (decide (0 ≤ fnd ys t))]) := by
  refine PureC.of_body (drawD_ok X) (fun _ _ => Go.Proofs.Try.call113 _ _) Go.Proofs.Try.func113 rfl (n := 49) rfl ?_
  refine w_seq ?_
  refine w_reg rfl ?_
  refine v_assign (c := .v (.int .i64 0)) rfl ?_
  refine v_assign (c := .v (.bool false)) rfl ?_
  refine v_nil ?_
  refine q_n ?_
  refine w_seq ?_
  refine w_reg rfl ?_
  refine v_move rfl ?_
  refine v_len_sl lay40 rfl ?_
  refine v_assign rfl ?_
  refine v_nil ?_
  refine q_n ?_
  refine w_seq ?_
  refine w_reg rfl ?_
  refine v_move rfl ?_
  refine v_assign (c := .v (.int .i64 0)) rfl ?_
  refine v_assign rfl ?_
  refine v_nil ?_
  refine q_n ?_
  refine w_seq ?_
  refine w_block ?_
  refine w_loop (fun k sl H => ∃ i j : Nat, k = j - i ∧ i ≤ j ∧ j ≤ ys.length ∧ (∀ a (ha : a < ys.length), a < i → ys[a].1 < t) ∧ (∀ a (ha : a < ys.length), j ≤ a → t ≤ ys[a].1) ∧ sl = sls [(0, .c (tals false ys)), (1, cI t), (2, .c (.fn 114 [])), (8, cI ys.length), (9, cI i), (10, cI j)] ∧ H = []) ?_ ?_
  · refine ⟨_, _, _, ?_, 0, ys.length, rfl, Nat.zero_le _, Nat.le_refl _, fun a ha h => absurd h (Nat.not_lt_zero _), fun a ha h => absurd ha (by omega), rfl, rfl⟩
    exact turn0 ⟨tr_sl, tr_v, tr_fn0, tr_v, tr_v, tr_v, trivial⟩
  · rintro k sl H ⟨i, j, rfl, hij, hj, hlo, hhi, rfl, rfl⟩
    refine w_seq ?_
    refine w_seq ?_
    refine w_reg rfl ?_
    refine v_move rfl ?_
    refine v_move rfl ?_
    refine v_lss lay3 rfl rfl (fun h1 => ?_) (fun h1 => ?_)
    · skip
      refine v_nil ?_
      refine q_n ?_
      refine w_t rfl ?_
      refine w_skip ?_
      refine q_n ?_
      refine w_block ?_
      refine w_seq ?_
      refine w_reg rfl ?_
      refine v_move rfl ?_
      refine v_move rfl ?_
      refine v_add lay3 rfl rfl (i64r (by omega)) ?_
      refine v_conv_ii lay3 lay129 rfl (by first | exact i64r (by omega) | exact u64r (by omega)) ?_
      refine v_shr lay129 rfl rfl (shr1) (by decide) ?_
      refine v_conv_ii lay129 lay3 rfl (by first | exact i64r (by omega) | exact u64r (by omega)) ?_
      refine v_assign rfl ?_
      refine v_nil ?_
      refine q_n ?_
      refine w_seq ?_
      refine w_reg rfl ?_
      refine v_move rfl ?_
      refine v_move rfl ?_
      refine v_move rfl ?_
      refine v_idx (k := 3) te_len lay40 lay27 rfl rfl rfl rfl rfl (by omega) (fun q2 hq2 e2 => ?_)
      refine v_load_vw (.agg [.v _, .v _, .v _]) lay27 rfl rfl rfl ?_
      refine v_move rfl ?_
      refine v_call (c114 _ _ _ _) rfl rfl rfl (.cons (vw_agg (.cons vw_v (.cons vw_v (.cons vw_v .nil)))) (.cons vw_v .nil)) ?_
      refine v_lss lay3 rfl rfl (fun h3 => ?_) (fun h3 => ?_)
      · skip
        refine v_nil ?_
        refine q_n ?_
        refine w_t rfl ?_
        refine w_reg rfl ?_
        refine v_move rfl ?_
        refine v_add lay3 rfl rfl (i64r (by omega)) ?_
        refine v_assign rfl ?_
        refine v_nil ?_
        refine q_bn ?_
        refine q_n ?_
        refine ⟨_, _, _, ?_, ⟨q2 + 1, j, rfl, by omega, hj, fun a ha h => srt_lt hs hq2 (cmp3_lt.1 h3) (by omega), hhi, rfl, rfl⟩, by omega⟩
        exact turn0 ⟨tr_sl, tr_v, tr_fn0, tr_v, a_i (by omega), tr_v, trivial⟩
      · skip
        refine v_nil ?_
        refine q_n ?_
        refine w_f rfl ?_
        refine w_reg rfl ?_
        refine v_move rfl ?_
        refine v_assign rfl ?_
        refine v_nil ?_
        refine q_bn ?_
        refine q_n ?_
        refine ⟨_, _, _, ?_, ⟨i, q2, rfl, by omega, by omega, hlo, fun a ha h => srt_ge hs hq2 (fun hn => h3 (cmp3_lt.2 hn)) ha h, rfl, rfl⟩, by omega⟩
        exact turn0 ⟨tr_sl, tr_v, tr_fn0, tr_v, tr_v, a_i (by omega), trivial⟩
    · skip
      refine v_nil ?_
      refine q_n ?_
      refine w_f rfl ?_
      refine w_exit ?_
      refine q_e ?_
      refine q_e ?_
      refine q_hit ?_
      refine q_n ?_
      refine w_seq ?_
      refine w_reg rfl ?_
      refine v_move rfl ?_
      refine v_move rfl ?_
      refine v_move rfl ?_
      refine v_lss lay3 rfl rfl (fun h4 => ?_) (fun h4 => ?_)
      · skip
        refine v_move rfl ?_
        refine v_guard_on rfl rfl ?_
        refine v_move rfl ?_
        refine v_guard_on rfl rfl ?_
        refine v_move rfl ?_
        refine v_guard_on rfl rfl ?_
        refine v_move rfl ?_
        refine v_guard_on rfl rfl ?_
        refine v_idx (k := 3) te_len lay40 lay27 rfl rfl rfl rfl rfl (by omega) (fun q5 hq5 e5 => ?_)
        obtain rfl : i = q5 := by omega
        refine v_guard_on rfl rfl ?_
        refine v_load_vw (.agg [.v _, .v _, .v _]) lay27 rfl rfl rfl ?_
        refine v_guard_on rfl rfl ?_
        refine v_move rfl ?_
        refine v_guard_on rfl rfl ?_
        refine v_call (c114 _ _ _ _) rfl rfl rfl (.cons (vw_agg (.cons vw_v (.cons vw_v (.cons vw_v .nil)))) (.cons vw_v .nil)) ?_
        refine v_guard_on rfl rfl ?_
        refine v_eql lay3 rfl rfl (fun h6 => ?_) (fun h6 => ?_)
        · skip
          refine v_pick_t rfl rfl ?_
          refine v_assign rfl ?_
          refine v_assign rfl ?_
          refine v_nil ?_
          refine q_n ?_
          refine w_ret ?_
          refine r_r rfl ?_
          have hl := lowb_eq (t := t) (by omega) hlo (fun ha => hhi i ha (by omega))
          exact a_tup (.cons (a_i (by rw [hl])) (.cons (a_b ⟨fun _ => fnd_ge.2 ⟨_, List.getElem_mem hq5, cmp3_eq.1 h6⟩, fun _ => rfl⟩) .nil))
        · skip
          refine v_pick_t rfl rfl ?_
          refine v_assign rfl ?_
          refine v_assign rfl ?_
          refine v_nil ?_
          refine q_n ?_
          refine w_ret ?_
          refine r_r rfl ?_
          have hl := lowb_eq (t := t) (by omega) hlo (fun ha => hhi i ha (by omega))
          exact a_tup (.cons (a_i (by rw [hl])) (.cons (a_b ⟨fun h => (by cases h), fun h => absurd (fnd_ge.1 h) (srt_no hs hq5 hlo (hhi i hq5 (by omega)) (fun hn => h6 (cmp3_eq.2 hn)))⟩) .nil))
      · skip
        refine v_move rfl ?_
        refine v_guard_off rfl rfl rfl ?_
        refine v_guard_off rfl rfl rfl ?_
        refine v_guard_off rfl rfl rfl ?_
        refine v_guard_off rfl rfl rfl ?_
        refine v_guard_off rfl rfl rfl ?_
        refine v_guard_off rfl rfl rfl ?_
        refine v_guard_off rfl rfl rfl ?_
        refine v_guard_off rfl rfl rfl ?_
        refine v_pick_f (v := .v (.bool false)) rfl rfl ?_
        refine v_assign rfl ?_
        refine v_assign rfl ?_
        refine v_nil ?_
        refine q_n ?_
        refine w_ret ?_
        refine r_r rfl ?_
        have hl := lowb_eq (t := t) (by omega) hlo (fun ha => hhi i ha (by omega))
        exact a_tup (.cons (a_i (by rw [hl])) (.cons (a_b ⟨fun h => (by cases h), fun h => absurd (fnd_ge.1 h) (fun ⟨y, hy, he⟩ => by
          obtain ⟨a, ha, rfl⟩ := List.getElem_of_mem hy
          have := hlo a ha (by omega)
          omega)⟩) .nil))

theorem c82 (ys : List Tal) (t : Int) (hx : ys.length ≤ 2 ^ 40) (hs : srt ys) : PureC X 82 [.c (tals false ys), cI t] (.tup [cI (lowb ys t), cB (decide (0 ≤ fnd ys t))]) := by
  refine PureC.of_body (drawD_ok X) (fun _ _ => Go.Proofs.Try.call82 _ _) Go.Proofs.Try.func82 rfl (n := 11) rfl ?_
  refine w_seq ?_
  refine w_reg rfl ?_
  refine v_assign (c := .v (.int .i64 0)) rfl ?_
  refine v_assign (c := .v (.bool false)) rfl ?_
  refine v_nil ?_
  refine q_n ?_
  refine w_seq ?_
  refine w_reg rfl ?_
  refine v_move rfl ?_
  refine v_move rfl ?_
  refine v_call (c113 _ _ (by omega) (by assumption)) rfl rfl rfl (.cons vw_sl (.cons vw_v (.cons (vw_fn .nil) .nil))) ?_
  refine v_extract_c rfl rfl ?_
  refine v_extract_c rfl rfl ?_
  refine v_assign rfl ?_
  refine v_assign rfl ?_
  refine v_nil ?_
  refine q_n ?_
  refine w_ret ?_
  refine r_r rfl ?_
  exact a_tup (.cons tr_v (.cons tr_v .nil))

theorem c82t (ys : List Tal) (t : Int) (hx : ys.length ≤ 2 ^ 40) (hs : srt ys) (h : 0 ≤ fnd ys t) : PureC X 82 [.c (tals false ys), cI t] (.tup [cI (fnd ys t), cB true]) := by
  have h1 := c82 ys t hx hs
  rw [lowb_fnd hs h, show decide (0 ≤ fnd ys t) = true by simp [h]] at h1
  exact h1
theorem c82f (ys : List Tal) (t : Int) (hx : ys.length ≤ 2 ^ 40) (hs : srt ys) (h : ¬ 0 ≤ fnd ys t) : PureC X 82 [.c (tals false ys), cI t] (.tup [cI (lowb ys t), cB false]) := by
  have h1 := c82 ys t hx hs
  rw [show decide (0 ≤ fnd ys t) = false by simp [h]] at h1
  exact h1
end Go.VL
