/- Walks: gaps filled. -/
import Derived.Test.YtenaamehifbfeaaC4
import Derived.Test.YtenaamehifbfeaaV30
namespace Go.VL
open Go.RowKit
set_option maxRecDepth 20000
/-- A number between two others. -/
def btw (a b : Int) (q : Option Nat) : Int := countOf (fop .add .f32 (fl2 a) (fop .mul .f32 (fl2 (b - a)) q))
theorem along_eq {a b : Int} {q : Option Nat} (ha : -32768 ≤ a ∧ a ≤ 32767) (hb : -32768 ≤ b ∧ b ≤ 32767) : countOf (fop .add .f32 (fl2 a) (fop .mul .f32 (fop .sub .f32 (fl2 b) (fl2 a)) q)) = btw a b q := by
  unfold btw
  have hd : fop .sub .f32 (fl2 b) (fl2 a) = fl2 (b - a) := sub_int (by omega) (by omega) (by omega)
  rw [hd]
/-- The tally of a gap. -/
def gapAt (a b : Tal) (j : Nat) : Tal := (a.1 + 1 + j, btw a.2.1 b.2.1 (fop .quo .f32 (fl2 (a.1 + 1 + j - a.1)) (fl2 (b.1 - a.1))), btw a.2.2 b.2.2 (fop .quo .f32 (fl2 (a.1 + 1 + j - a.1)) (fl2 (b.1 - a.1))))
def gapN (a b : Tal) : Nat := (b.1 - a.1 - 1).toNat
def z3 : Tal := (0, 0, 0)
/-- A tally with the gap before it, filled. -/
def fills (xs : List Tal) : Nat → List Tal
  | 0 => [xs.getD 0 (0, 0, 0)]
  | i + 1 => (List.range (gapN (xs.getD i (0, 0, 0)) (xs.getD (i + 1) (0, 0, 0)))).map (gapAt (xs.getD i (0, 0, 0)) (xs.getD (i + 1) (0, 0, 0))) ++ [xs.getD (i + 1) (0, 0, 0)]
def outs (xs : List Tal) : Nat → List Tal
  | 0 => []
  | i + 1 => outs xs i ++ fills xs i
def gOk (xs : List Tal) : Prop := ∀ a b (hb : b < xs.length), (hab : b = a + 1) → xs[b].1 - (xs[a]'(by omega)).1 ≤ 13
noncomputable instance (xs : List Tal) : Decidable (gOk xs) := Classical.propDecidable _
noncomputable def fgR (xs : List Tal) : List Tal × Int := if okL xs then if gOk xs then if 96 < (outs xs xs.length).length then ([], 3) else (outs xs xs.length, 0) else ([], 4) else ([], 1)
section
variable {xs : List Tal}
theorem fg_1 (h1 : ¬ okL xs) : fgR xs = ([], 1) := by unfold fgR; rw [if_neg h1]
theorem fg_4 (h1 : okL xs) {i q : Nat} (hi : i < xs.length) (hq : q < xs.length) (e : (i : Int) - 1 = q) (h : ¬ xs[i].1 - xs[q].1 ≤ 13) : fgR xs = ([], 4) := by
  unfold fgR
  rw [if_pos h1, if_neg fun hg => h (hg q i hi (by omega))]
theorem fg_3 (h1 : okL xs) (h2 : gOk xs) (h : 96 < (outs xs xs.length).length) : fgR xs = ([], 3) := by
  unfold fgR
  rw [if_pos h1, if_pos h2, if_pos h]
theorem fg_0 (h1 : okL xs) (h2 : gOk xs) (h : ¬ 96 < (outs xs xs.length).length) : fgR xs = (outs xs xs.length, 0) := by
  unfold fgR
  rw [if_pos h1, if_pos h2, if_neg h]
theorem turnT (h : okL xs) {q : Nat} (hq : q < xs.length) : 0 ≤ xs[q].1 ∧ xs[q].1 ≤ 65535 := (h.2 q hq).1
theorem gap_grow {i q : Nat} (hp : ∀ a b (hb : b < xs.length), b < i → (hab : b = a + 1) → xs[b].1 - (xs[a]'(by omega)).1 ≤ 13) (hi : i < xs.length) (hq : q < xs.length) (e : (i : Int) - 1 = q) (h : xs[i].1 - xs[q].1 ≤ 13) : ∀ a b (hb : b < xs.length), b < i + 1 → (hab : b = a + 1) → xs[b].1 - (xs[a]'(by omega)).1 ≤ 13 := fun a b hb hlt hab => by
  by_cases he : b = i
  · subst he
    obtain rfl : a = q := by omega
    exact h
  · exact hp a b hb (by omega) hab
theorem gapN_eq (h : okL xs) {i q : Nat} (hi : i < xs.length) (hq : q < xs.length) (e : i = q + 1) : (gapN xs[q] xs[i] : Int) = xs[i].1 - xs[q].1 - 1 := by
  have := (h.2 i hi).2.2.2.2 q hq e
  unfold gapN
  omega
theorem outs_first {i : Nat} (hi : i < xs.length) (h : ¬ (0 : Int) < i) : outs xs (i + 1) = outs xs i ++ [xs[i]] := by
  obtain rfl : i = 0 := by omega
  simp only [outs, fills, getD_at hi]
theorem outs_next {i q : Nat} (hi : i < xs.length) (e : (i : Int) - 1 = q) (hq : q < xs.length) : outs xs (i + 1) = (outs xs i ++ (List.range (gapN xs[q] xs[i])).map (gapAt xs[q] xs[i])) ++ [xs[i]] := by
  obtain rfl : i = q + 1 := by omega
  show outs xs (q + 1) ++ fills xs (q + 1) = _
  simp only [fills, getD_at hi, getD_at hq, List.append_assoc]
theorem outs_len (hg : gOk xs) : ∀ i, i ≤ xs.length → (outs xs i).length ≤ 14 * i
  | 0, _ => by simp [outs]
  | i + 1, hi => by
    have ih := outs_len hg i (by omega)
    by_cases h0 : (0 : Int) < i
    · have hq : i - 1 < xs.length := by omega
      rw [outs_next (q := i - 1) (by omega) (by omega) hq]
      have := hg (i - 1) i (by omega) (by omega)
      have hn : gapN xs[i - 1] xs[i] ≤ 12 := by unfold gapN; omega
      simp; omega
    · rw [outs_first (by omega) h0]
      simp; omega
end
theorem fg_len (xs : List Tal) : (fgR xs).1.length ≤ 96 := by
  unfold fgR
  split
  · split
    · split
      · simp
      · simp only []; omega
    · simp
  · simp
theorem stay_te (x : Tal) : ∀ c ∈ te x, stays c = true := fun c hc => by
  simp only [te, List.mem_cons, List.not_mem_nil, or_false] at hc
  rcases hc with rfl | rfl | rfl <;> rfl
theorem gap_step {L : List Tal} {f : Nat → Tal} {j : Nat} {x : Tal} (h : x = f j) : (L ++ (List.range j).map f) ++ [x] = L ++ (List.range (j + 1)).map f := by
  rw [range_step, h, List.append_assoc]
theorem c83 (a b : Int) (q : Option Nat) (ha : -32768 ≤ a ∧ a ≤ 32767) (hb : -32768 ≤ b ∧ b ≤ 32767) : PureC X 83 [.c (.v (.int .i16 a)), .c (.v (.int .i16 b)), .c (.f .f32 q)] (.c (.v (.int .i16 (btw a b q)))) := by
  refine PureC.of_body (drawD_ok X) (fun _ _ => Go.Proofs.Try.call83 _ _) Go.Proofs.Try.func83 rfl (n := 19) rfl ?_
  refine w_seq ?_
  refine w_reg rfl ?_
  refine v_assign (c := .v (.int .i16 0)) rfl ?_
  refine v_nil ?_
  refine q_n ?_
  refine w_seq ?_
  refine w_reg rfl ?_
  refine v_move rfl ?_
  refine v_conv_if lay23 lay22 rfl ?_
  refine v_move rfl ?_
  refine v_conv_ii lay23 lay2 rfl (i64r (by omega)) ?_
  refine v_move rfl ?_
  refine v_conv_ii lay23 lay2 rfl (i64r (by omega)) ?_
  refine v_sub lay2 rfl rfl (i64r (by omega)) ?_
  refine v_conv_if lay2 lay22 rfl ?_
  refine v_move rfl ?_
  refine v_bin (c := .f _ _) lay22 rfl rfl rfl ?_
  refine v_bin (c := .f _ _) lay22 rfl rfl rfl ?_
  refine v_call (c63 _ fop_ok) rfl rfl rfl (.cons vw_f .nil) ?_
  refine v_assign rfl ?_
  refine v_nil ?_
  refine q_n ?_
  refine w_ret ?_
  refine r_r rfl ?_
  exact a_16 rfl

theorem c84 (a b : Int) (q : Option Nat) (ha : -32768 ≤ a ∧ a ≤ 32767) (hb : -32768 ≤ b ∧ b ≤ 32767) : PureC X 84 [.c (.v (.int .i16 a)), .c (.v (.int .i16 b)), .c (.f .f32 q)] (.c (.v (.int .i16 (btw a b q)))) := by
  refine PureC.of_body (drawD_ok X) (fun _ _ => Go.Proofs.Try.call84 _ _) Go.Proofs.Try.func84 rfl (n := 18) rfl ?_
  refine w_seq ?_
  refine w_reg rfl ?_
  refine v_assign (c := .v (.int .i16 0)) rfl ?_
  refine v_nil ?_
  refine q_n ?_
  refine w_seq ?_
  refine w_reg rfl ?_
  refine v_move rfl ?_
  refine v_conv_if lay23 lay22 rfl ?_
  refine v_move rfl ?_
  refine v_conv_if lay23 lay22 rfl ?_
  refine v_move rfl ?_
  refine v_conv_if lay23 lay22 rfl ?_
  refine v_bin (c := .f _ _) lay22 rfl rfl rfl ?_
  refine v_move rfl ?_
  refine v_bin (c := .f _ _) lay22 rfl rfl rfl ?_
  refine v_bin (c := .f _ _) lay22 rfl rfl rfl ?_
  refine v_call (c68 _ fop_ok) rfl rfl rfl (.cons vw_f .nil) ?_
  refine v_assign rfl ?_
  refine v_nil ?_
  refine q_n ?_
  refine w_ret ?_
  refine r_r rfl ?_
  exact a_16 (along_eq ha hb)

theorem c36 (xs : List Tal) (hx : xs.length ≤ 2 ^ 40) (hb : T16 xs) : PureC X 36 [.c (tals false xs)] (.tup [.c (tals true (fgR xs).1), cI (fgR xs).2]) := by
  refine PureC.of_body (drawD_ok X) (fun _ _ => Go.Proofs.Try.call36 _ _) Go.Proofs.Try.func36 rfl (n := 119) rfl ?_
  refine w_seq ?_
  refine w_reg rfl ?_
  refine v_assign rfl ?_
  refine v_assign (c := .v (.int .i64 0)) rfl ?_
  refine v_nil ?_
  refine q_n ?_
  refine w_seq ?_
  refine w_seq ?_
  refine w_reg rfl ?_
  refine v_move rfl ?_
  refine v_callb (c70 _ (by omega)) rfl rfl (.cons vw_sl .nil) (fun h1 => ?_) (fun h1 => ?_)
  · skip
    refine v_not false rfl rfl ?_
    refine v_nil ?_
    refine q_n ?_
    refine w_f rfl ?_
    refine w_skip ?_
    refine q_n ?_
    refine w_seq ?_
    refine w_seq ?_
    refine w_reg rfl ?_
    refine v_assign (c := .v (.int .i64 1)) rfl ?_
    refine v_nil ?_
    refine q_n ?_
    refine w_block ?_
    refine w_loop (fun k sl H => ∃ i : Nat, k = xs.length - i ∧ 1 ≤ i ∧ i ≤ xs.length + 1 ∧ (∀ a b (hb : b < xs.length), b < i → (hab : b = a + 1) → xs[b].1 - (xs[a]'(by omega)).1 ≤ 13) ∧ sl = sls [(0, .c (tals false xs)), (4, cI i)] ∧ H = []) ?_ ?_
    · refine ⟨_, _, _, ?_, 1, rfl, by omega, by omega, fun a b hb h hab => absurd h (by omega), rfl, rfl⟩
      exact turn0 ⟨tr_sl, tr_v, trivial⟩
    · rintro k sl H ⟨i, rfl, hi0, hi, hp, rfl, rfl⟩
      refine w_seq ?_
      refine w_seq ?_
      refine w_reg rfl ?_
      refine v_move rfl ?_
      refine v_move rfl ?_
      refine v_len_sl lay40 rfl ?_
      refine v_lss lay3 rfl rfl (fun h2 => ?_) (fun h2 => ?_)
      · skip
        refine v_nil ?_
        refine q_n ?_
        refine w_t rfl ?_
        refine w_skip ?_
        refine q_n ?_
        refine w_seq ?_
        refine w_block ?_
        refine w_seq ?_
        refine w_draw [0, 0, 3, 7, 15, 0, 0, 64, 224, 480, 992, 2047, 4095] [⟨0, 0, []⟩, ⟨1, 0, []⟩, ⟨2, 0, []⟩, ⟨3, 0, []⟩, ⟨4, 0, []⟩, ⟨5, 0, []⟩, ⟨6, 0, []⟩, ⟨7, 0, []⟩, ⟨8, 0, []⟩, ⟨9, 0, []⟩, ⟨10, 0, []⟩, ⟨11, 0, []⟩, ⟨12, 0, []⟩] rfl rfl ?_
        refine d_q rfl rfl rfl rfl rfl ?_
        refine v_move rfl ?_
        refine v_nil ?_
        refine d_q rfl rfl rfl rfl rfl ?_
        refine v_move rfl ?_
        refine v_nil ?_
        refine d_q rfl rfl rfl rfl rfl ?_
        refine v_idx (k := 3) te_len lay40 lay27 rfl rfl rfl (rfl) rfl (by omega) (fun q3 hq3 e3 => ?_)
        obtain rfl : i = q3 := by omega
        refine v_nil ?_
        refine d_q rfl rfl rfl rfl rfl ?_
        refine v_fa_vw (off' := 0) lay27 rfl rfl rfl ?_
        refine v_nil ?_
        refine d_q rfl rfl rfl rfl rfl ?_
        refine v_load_vw (.c (.v _)) lay2 rfl rfl rfl ?_
        refine v_nil ?_
        refine d_q rfl rfl rfl rfl rfl ?_
        refine v_move rfl ?_
        refine v_nil ?_
        refine d_q rfl rfl rfl rfl rfl ?_
        refine v_move rfl ?_
        refine v_nil ?_
        refine d_q rfl rfl rfl rfl rfl ?_
        refine v_sub lay3 rfl rfl (by first | exact i64r (by omega) | exact i64r (by have b1 := turnT h1 hq3; have b2 := turnT h1 hq4; omega)) ?_
        refine v_nil ?_
        refine d_q rfl rfl rfl rfl rfl ?_
        refine v_idx (k := 3) te_len lay40 lay27 rfl rfl rfl (rfl) rfl (by omega) (fun q4 hq4 e4 => ?_)
        refine v_nil ?_
        refine d_q rfl rfl rfl rfl rfl ?_
        refine v_fa_vw (off' := 0) lay27 rfl rfl rfl ?_
        refine v_nil ?_
        refine d_q rfl rfl rfl rfl rfl ?_
        refine v_load_vw (.c (.v _)) lay2 rfl rfl rfl ?_
        refine v_nil ?_
        refine d_q rfl rfl rfl rfl rfl ?_
        refine v_sub lay2 rfl rfl (by first | exact i64r (by omega) | exact i64r (by have b1 := turnT h1 hq3; have b2 := turnT h1 hq4; omega)) ?_
        refine v_nil ?_
        refine d_q rfl rfl rfl rfl rfl ?_
        refine v_gtr lay2 rfl rfl (fun h5 => ?_) (fun h5 => ?_)
        · skip
          refine v_nil ?_
          refine d_nil ?_
          refine q_n ?_
          refine w_t rfl ?_
          refine w_seq ?_
          refine w_reg rfl ?_
          refine v_lit (flat te []) (H' := [_]) lay40 lay27 rfl rfl ⟨by decide, by decide⟩ rfl rfl ?_
          refine v_assign rfl ?_
          refine v_assign (c := .v (.int .i64 4)) rfl ?_
          refine v_nil ?_
          refine q_n ?_
          refine w_ret (q_br (q_r (q_r (q_br (q_r ?_)))))
          refine r_r rfl ?_
          rw [fg_4 h1 hq3 hq4 e4 (by omega)]
          exact a_tup (.cons (a_flat2 te_sc te_len rfl rfl rfl rfl) (.cons tr_v .nil))
        · skip
          refine v_nil ?_
          refine d_nil ?_
          refine q_n ?_
          refine w_f rfl ?_
          refine w_skip ?_
          refine q_bn ?_
          refine q_n ?_
          refine w_reg rfl ?_
          refine v_move rfl ?_
          refine v_add lay3 rfl rfl (i64r (by omega)) ?_
          refine v_assign rfl ?_
          refine v_nil ?_
          refine q_n ?_
          refine ⟨_, _, _, ?_, ⟨i + 1, rfl, by omega, by omega, gap_grow hp hq3 hq4 e4 (by omega), rfl, rfl⟩, by omega⟩
          exact turn0 ⟨tr_sl, tr_v, trivial⟩
      · skip
        refine v_nil ?_
        refine q_n ?_
        refine w_f rfl ?_
        refine w_exit ?_
        refine q_e ?_
        refine q_e ?_
        refine q_hit ?_
        refine q_n ?_
        refine w_seq ?_
        refine w_reg rfl ?_
        refine v_lit (flat te []) (H' := [_]) lay40 lay27 rfl rfl ⟨by decide, by decide⟩ rfl rfl ?_
        refine v_assign rfl ?_
        refine v_nil ?_
        refine q_n ?_
        refine w_seq ?_
        refine w_seq ?_
        refine w_reg rfl ?_
        refine v_assign (c := .v (.int .i64 0)) rfl ?_
        refine v_nil ?_
        refine q_n ?_
        refine w_block ?_
        refine w_loop (fun k sl H => ∃ i : Nat, k = xs.length - i ∧ i ≤ xs.length ∧ sl = sls [(0, .c (tals false xs)), (5, .c (.mu 0 0 (outs xs i).length 3)), (6, cI i)] ∧ H = [⟨flat te (outs xs i), 27, true⟩]) ?_ ?_
        · have hgk : gOk xs := fun a b hb hab => hp a b hb (by omega) hab
          refine ⟨_, _, _, ?_, 0, rfl, Nat.zero_le _, rfl, rfl⟩
          exact turn [some 0] rfl rfl rfl ⟨⟨_, rfl, trc_flat te_sc rfl⟩, trivial⟩ ⟨tr_sl, tr_mu rfl, tr_v, trivial⟩
        · rintro k sl H ⟨i, rfl, hi, rfl, rfl⟩
          have hgk : gOk xs := fun a b hb hab => hp a b hb (by omega) hab
          refine w_seq ?_
          refine w_seq ?_
          refine w_reg rfl ?_
          refine v_move rfl ?_
          refine v_move rfl ?_
          refine v_len_sl lay40 rfl ?_
          refine v_lss lay3 rfl rfl (fun h6 => ?_) (fun h6 => ?_)
          · skip
            refine v_nil ?_
            refine q_n ?_
            refine w_t rfl ?_
            refine w_skip ?_
            refine q_n ?_
            refine w_seq ?_
            refine w_block ?_
            refine w_seq ?_
            refine w_seq ?_
            refine w_reg rfl ?_
            refine v_move rfl ?_
            refine v_gtr lay3 rfl rfl (fun h7 => ?_) (fun h7 => ?_)
            · skip
              refine v_nil ?_
              refine q_n ?_
              refine w_t rfl ?_
              refine w_seq ?_
              refine w_reg rfl ?_
              refine v_move rfl ?_
              refine v_move rfl ?_
              refine v_sub lay3 rfl rfl (i64r (by omega)) ?_
              refine v_idx (k := 3) te_len lay40 lay27 rfl rfl rfl (rfl) rfl (by omega) (fun q8 hq8 e8 => ?_)
              refine v_assign rfl ?_
              refine v_nil ?_
              refine q_n ?_
              refine w_seq ?_
              refine w_reg rfl ?_
              refine v_move rfl ?_
              refine v_move rfl ?_
              refine v_idx (k := 3) te_len lay40 lay27 rfl rfl rfl (rfl) rfl (by omega) (fun q9 hq9 e9 => ?_)
              obtain rfl : i = q9 := by omega
              refine v_assign rfl ?_
              refine v_nil ?_
              refine q_n ?_
              refine w_seq ?_
              refine w_reg rfl ?_
              refine v_move rfl ?_
              refine v_nil_vw rfl ?_
              refine v_fa_vw (off' := 0) lay27 rfl rfl rfl ?_
              refine v_load_vw (.c (.v _)) lay2 rfl rfl rfl ?_
              refine v_add lay2 rfl rfl (by first | exact i64r (by have b1 := turnT h1 hq8; omega) | exact i64r (by omega)) ?_
              refine v_assign rfl ?_
              refine v_nil ?_
              refine q_n ?_
              refine w_block ?_
              refine w_loop (fun k sl H => ∃ j : Nat, k = gapN xs[q8] xs[i] - j ∧ j ≤ gapN xs[q8] xs[i] ∧ sl = sls [(0, .c (tals false xs)), (5, .c (.mu 0 0 ((outs xs i).length + j) 3)), (6, cI i), (7, .c (.vw false (te xs[q8]) 0)), (8, .c (.vw false (te xs[i]) 0)), (9, cI (xs[q8].1 + 1 + j))] ∧ H = [⟨flat te (outs xs i ++ (List.range j).map (gapAt xs[q8] xs[i])), 27, true⟩]) ?_ ?_
              · have hgn := gapN_eq h1 hq9 hq8 (by omega)
                have hgl := hgk q8 i hq9 (by omega)
                refine ⟨_, _, _, ?_, 0, rfl, Nat.zero_le _, rfl, rfl⟩
                exact turn [some 0] rfl rfl rfl ⟨⟨_, rfl, trc_flat te_sc (by simp)⟩, trivial⟩ ⟨tr_sl, tr_mun rfl rfl, tr_v, tr_vw, tr_vw, tr_i (by simp), trivial⟩
              · rintro k sl H ⟨j, rfl, hj, rfl, rfl⟩
                have hgn := gapN_eq h1 hq9 hq8 (by omega)
                have hgl := hgk q8 i hq9 (by omega)
                have b1 := turnT h1 hq8
                have b2 := turnT h1 hq9
                refine w_seq ?_
                refine w_seq ?_
                refine w_reg rfl ?_
                refine v_move rfl ?_
                refine v_move rfl ?_
                refine v_nil_vw rfl ?_
                refine v_fa_vw (off' := 0) lay27 rfl rfl rfl ?_
                refine v_load_vw (.c (.v _)) lay2 rfl rfl rfl ?_
                refine v_lss lay2 rfl rfl (fun h10 => ?_) (fun h10 => ?_)
                · skip
                  refine v_nil ?_
                  refine q_n ?_
                  refine w_t rfl ?_
                  refine w_skip ?_
                  refine q_n ?_
                  refine w_seq ?_
                  refine w_block ?_
                  refine w_seq ?_
                  refine w_draw [0, 0, 2, 6, 14, 31, 63, 0, 128, 384, 896, 0, 2048, 6144, 14336, 32640, 65408, 131071, 262143] [⟨0, 0, []⟩, ⟨1, 0, []⟩, ⟨2, 0, []⟩, ⟨3, 0, []⟩, ⟨4, 0, []⟩, ⟨5, 0, []⟩, ⟨6, 0, []⟩, ⟨7, 0, []⟩, ⟨8, 0, []⟩, ⟨9, 0, []⟩, ⟨10, 0, []⟩, ⟨11, 0, []⟩, ⟨12, 0, []⟩, ⟨13, 0, []⟩, ⟨14, 0, []⟩, ⟨15, 0, []⟩, ⟨16, 0, []⟩, ⟨17, 0, []⟩, ⟨18, 0, []⟩] rfl rfl ?_
                  refine d_q rfl rfl rfl rfl rfl ?_
                  refine v_move rfl ?_
                  refine v_nil ?_
                  refine d_q rfl rfl rfl rfl rfl ?_
                  refine v_move rfl ?_
                  refine v_nil ?_
                  refine d_q rfl rfl rfl rfl rfl ?_
                  refine v_nil_vw rfl ?_
                  refine v_nil ?_
                  refine d_q rfl rfl rfl rfl rfl ?_
                  refine v_fa_vw (off' := 0) lay27 rfl rfl rfl ?_
                  refine v_nil ?_
                  refine d_q rfl rfl rfl rfl rfl ?_
                  refine v_load_vw (.c (.v _)) lay2 rfl rfl rfl ?_
                  refine v_nil ?_
                  refine d_q rfl rfl rfl rfl rfl ?_
                  refine v_sub lay2 rfl rfl (i64r (by omega)) ?_
                  refine v_nil ?_
                  refine d_q rfl rfl rfl rfl rfl ?_
                  refine v_conv_if lay2 lay22 rfl ?_
                  refine v_nil ?_
                  refine d_q rfl rfl rfl rfl rfl ?_
                  refine v_move rfl ?_
                  refine v_nil ?_
                  refine d_q rfl rfl rfl rfl rfl ?_
                  refine v_nil_vw rfl ?_
                  refine v_nil ?_
                  refine d_q rfl rfl rfl rfl rfl ?_
                  refine v_fa_vw (off' := 0) lay27 rfl rfl rfl ?_
                  refine v_nil ?_
                  refine d_q rfl rfl rfl rfl rfl ?_
                  refine v_load_vw (.c (.v _)) lay2 rfl rfl rfl ?_
                  refine v_nil ?_
                  refine d_q rfl rfl rfl rfl rfl ?_
                  refine v_move rfl ?_
                  refine v_nil ?_
                  refine d_q rfl rfl rfl rfl rfl ?_
                  refine v_nil_vw rfl ?_
                  refine v_nil ?_
                  refine d_q rfl rfl rfl rfl rfl ?_
                  refine v_fa_vw (off' := 0) lay27 rfl rfl rfl ?_
                  refine v_nil ?_
                  refine d_q rfl rfl rfl rfl rfl ?_
                  refine v_load_vw (.c (.v _)) lay2 rfl rfl rfl ?_
                  refine v_nil ?_
                  refine d_q rfl rfl rfl rfl rfl ?_
                  refine v_sub lay2 rfl rfl (i64r (by omega)) ?_
                  refine v_nil ?_
                  refine d_q rfl rfl rfl rfl rfl ?_
                  refine v_conv_if lay2 lay22 rfl ?_
                  refine v_nil ?_
                  refine d_q rfl rfl rfl rfl rfl ?_
                  refine v_bin (c := .f _ _) lay22 rfl rfl rfl ?_
                  refine v_nil ?_
                  refine d_q rfl rfl rfl rfl rfl ?_
                  refine v_assign rfl ?_
                  refine v_nil ?_
                  refine d_nil ?_
                  refine q_n ?_
                  refine w_draw [0, 0, 0, 4, 12, 28, 0, 64, 192, 448, 0, 2044, 0, 4096, 12288, 28672, 0, 65536, 196608, 458752, 0, 2097148, 4194302, 8388606, 16777215, 33554431] [⟨0, 0, []⟩, ⟨1, 0, []⟩, ⟨2, 0, []⟩, ⟨3, 0, []⟩, ⟨4, 0, []⟩, ⟨5, 0, []⟩, ⟨6, 0, []⟩, ⟨7, 0, []⟩, ⟨8, 0, []⟩, ⟨9, 0, []⟩, ⟨10, 0, []⟩, ⟨11, 0, []⟩, ⟨12, 0, []⟩, ⟨13, 0, []⟩, ⟨14, 0, []⟩, ⟨15, 0, []⟩, ⟨16, 0, []⟩, ⟨17, 0, []⟩, ⟨18, 0, []⟩, ⟨19, 0, []⟩, ⟨20, 0, []⟩, ⟨21, 0, []⟩, ⟨22, 0, []⟩, ⟨23, 2, []⟩, ⟨24, 1, []⟩, ⟨25, 0, []⟩] rfl rfl ?_
                  refine d_q rfl rfl rfl rfl rfl ?_
                  refine v_move rfl ?_
                  refine v_nil ?_
                  refine d_q rfl rfl rfl rfl rfl ?_
                  refine v_move rfl ?_
                  refine v_nil ?_
                  refine d_q rfl rfl rfl rfl rfl ?_
                  refine v_move rfl ?_
                  refine v_nil ?_
                  refine d_q rfl rfl rfl rfl rfl ?_
                  refine v_nil_vw rfl ?_
                  refine v_nil ?_
                  refine d_q rfl rfl rfl rfl rfl ?_
                  refine v_fa_vw (off' := 1) lay27 rfl rfl rfl ?_
                  refine v_nil ?_
                  refine d_q rfl rfl rfl rfl rfl ?_
                  refine v_load_vw (.c (.v _)) lay23 rfl rfl rfl ?_
                  refine v_nil ?_
                  refine d_q rfl rfl rfl rfl rfl ?_
                  refine v_move rfl ?_
                  refine v_nil ?_
                  refine d_q rfl rfl rfl rfl rfl ?_
                  refine v_nil_vw rfl ?_
                  refine v_nil ?_
                  refine d_q rfl rfl rfl rfl rfl ?_
                  refine v_fa_vw (off' := 1) lay27 rfl rfl rfl ?_
                  refine v_nil ?_
                  refine d_q rfl rfl rfl rfl rfl ?_
                  refine v_load_vw (.c (.v _)) lay23 rfl rfl rfl ?_
                  refine v_nil ?_
                  refine d_q rfl rfl rfl rfl rfl ?_
                  refine v_move rfl ?_
                  refine v_nil ?_
                  refine d_call (c83 _ _ _ (by first | exact (hb _ (List.getElem_mem hq8)).1 | exact (hb _ (List.getElem_mem hq8)).2) (by first | exact (hb _ (List.getElem_mem hq9)).1 | exact (hb _ (List.getElem_mem hq9)).2)) rfl rfl rfl rfl rfl (.cons vw_v (.cons vw_v (.cons vw_f .nil))) ?_
                  refine d_q rfl rfl rfl rfl rfl ?_
                  refine v_move rfl ?_
                  refine v_nil ?_
                  refine d_q rfl rfl rfl rfl rfl ?_
                  refine v_nil_vw rfl ?_
                  refine v_nil ?_
                  refine d_q rfl rfl rfl rfl rfl ?_
                  refine v_fa_vw (off' := 2) lay27 rfl rfl rfl ?_
                  refine v_nil ?_
                  refine d_q rfl rfl rfl rfl rfl ?_
                  refine v_load_vw (.c (.v _)) lay23 rfl rfl rfl ?_
                  refine v_nil ?_
                  refine d_q rfl rfl rfl rfl rfl ?_
                  refine v_move rfl ?_
                  refine v_nil ?_
                  refine d_q rfl rfl rfl rfl rfl ?_
                  refine v_nil_vw rfl ?_
                  refine v_nil ?_
                  refine d_q rfl rfl rfl rfl rfl ?_
                  refine v_fa_vw (off' := 2) lay27 rfl rfl rfl ?_
                  refine v_nil ?_
                  refine d_q rfl rfl rfl rfl rfl ?_
                  refine v_load_vw (.c (.v _)) lay23 rfl rfl rfl ?_
                  refine v_nil ?_
                  refine d_q rfl rfl rfl rfl rfl ?_
                  refine v_move rfl ?_
                  refine v_nil ?_
                  refine d_call (c83 _ _ _ (by first | exact (hb _ (List.getElem_mem hq8)).1 | exact (hb _ (List.getElem_mem hq8)).2) (by first | exact (hb _ (List.getElem_mem hq9)).1 | exact (hb _ (List.getElem_mem hq9)).2)) rfl rfl rfl rfl rfl (.cons vw_v (.cons vw_v (.cons vw_f .nil))) ?_
                  refine d_q rfl rfl rfl rfl rfl ?_
                  refine v_build [(0, 1), (1, 1), (2, 1)] [.v _, .v _, .v _] lay27 rfl rfl ?_
                  refine v_nil ?_
                  refine d_z (.c (.sl true 1 3 (flat te [(_, _, _)]))) rfl rfl rfl ?_
                  refine d_e rfl rfl rfl ?_
                  refine v_app_flat_sl (H' := [_, _]) te_sc te_len lay40 lay27 rfl rfl (by simp) rfl rfl rfl (by have hol := outs_len hgk i (by omega); have hl96 := h1.1; unfold maxLen; simp only []; omega) rfl rfl ?_
                  refine v_nil ⟨again_nil, ?_⟩
                  refine d_q rfl rfl rfl rfl rfl ?_
                  refine v_assign rfl ?_
                  refine v_nil ?_
                  refine d_nil ?_
                  refine q_bn ?_
                  refine q_n ?_
                  refine w_reg rfl ?_
                  refine v_move rfl ?_
                  refine v_add lay2 rfl rfl (by first | exact i64r (by have b1 := turnT h1 hq8; omega) | exact i64r (by omega)) ?_
                  refine v_assign rfl ?_
                  refine v_nil ?_
                  refine q_n ?_
                  refine ⟨_, _, _, ?_, ⟨j + 1, rfl, by omega, rfl, rfl⟩, by omega⟩
                  exact turn [some 1] rfl rfl rfl ⟨⟨_, rfl, trc_flat te_sc (congrArg (flat te) (gap_step rfl))⟩, trivial⟩ ⟨tr_sl, tr_mun rfl (by omega), tr_v, tr_vw, tr_vw, tr_i (by push_cast; omega), trivial⟩
                · skip
                  refine v_nil ?_
                  refine q_n ?_
                  refine w_f rfl ?_
                  refine w_exit ?_
                  refine q_e ?_
                  refine q_e ?_
                  refine q_hit ?_
                  refine q_n ?_
                  refine w_reg rfl ?_
                  refine v_move rfl ?_
                  refine v_move rfl ?_
                  refine v_move rfl ?_
                  refine v_idx (k := 3) te_len lay40 lay27 rfl rfl rfl (rfl) rfl (by omega) (fun q11 hq11 e11 => ?_)
                  obtain rfl : i = q11 := by omega
                  refine v_load_vw (.agg [.v _, .v _, .v _]) lay27 rfl rfl rfl ?_
                  refine v_lit (flat te [xs[i]]) (H' := [_, _]) lay40 lay27 rfl rfl ⟨by decide, by decide⟩ rfl rfl ?_
                  refine v_app_flat (H' := [_, _, _]) te_sc te_len lay40 lay27 rfl rfl (by simp) rfl rfl (by simp) rfl rfl (by have hol := outs_len hgk i (by omega); have hl96 := h1.1; unfold maxLen; simp only []; omega) rfl rfl ?_
                  refine v_assign rfl ?_
                  refine v_nil ?_
                  refine q_bn ?_
                  refine q_n ?_
                  refine w_reg rfl ?_
                  refine v_move rfl ?_
                  refine v_add lay3 rfl rfl (i64r (by omega)) ?_
                  refine v_assign rfl ?_
                  refine v_nil ?_
                  refine q_n ?_
                  have hon : outs xs (i + 1) = (outs xs i ++ (List.range j).map (gapAt xs[q8] xs[i])) ++ [xs[i]] := by
                    have hje : j = gapN xs[q8] xs[i] := by omega
                    rw [hje]
                    exact outs_next hq9 e8 hq8
                  refine ⟨_, _, _, ?_, ⟨i + 1, rfl, by omega, rfl, rfl⟩, by omega⟩
                  exact turn [some 2] rfl rfl rfl ⟨⟨_, rfl, trc_flat te_sc (congrArg (flat te) hon.symm)⟩, trivial⟩ ⟨tr_sl, tr_mun rfl (by rw [hon]; simp; omega), tr_v, trivial⟩
            · skip
              refine v_nil ?_
              refine q_n ?_
              refine w_f rfl ?_
              refine w_skip ?_
              refine q_n ?_
              refine w_reg rfl ?_
              refine v_move rfl ?_
              refine v_move rfl ?_
              refine v_move rfl ?_
              refine v_idx (k := 3) te_len lay40 lay27 rfl rfl rfl (rfl) rfl (by omega) (fun q12 hq12 e12 => ?_)
              obtain rfl : i = q12 := by omega
              refine v_load_vw (.agg [.v _, .v _, .v _]) lay27 rfl rfl rfl ?_
              refine v_lit (flat te [xs[i]]) (H' := [_, _]) lay40 lay27 rfl rfl ⟨by decide, by decide⟩ rfl rfl ?_
              refine v_app_flat (H' := [_, _, _]) te_sc te_len lay40 lay27 rfl rfl (by simp) rfl rfl (by simp) rfl rfl (by have hol := outs_len hgk i (by omega); have hl96 := h1.1; unfold maxLen; simp only []; omega) rfl rfl ?_
              refine v_assign rfl ?_
              refine v_nil ?_
              refine q_bn ?_
              refine q_n ?_
              refine w_reg rfl ?_
              refine v_move rfl ?_
              refine v_add lay3 rfl rfl (i64r (by omega)) ?_
              refine v_assign rfl ?_
              refine v_nil ?_
              refine q_n ?_
              have hon := outs_first hq12 h7
              refine ⟨_, _, _, ?_, ⟨i + 1, rfl, by omega, rfl, rfl⟩, by omega⟩
              exact turn [some 2] rfl rfl rfl ⟨⟨_, rfl, trc_flat te_sc (congrArg (flat te) hon.symm)⟩, trivial⟩ ⟨tr_sl, tr_mun rfl (by rw [hon]; simp), tr_v, trivial⟩
          · skip
            refine v_nil ?_
            refine q_n ?_
            refine w_f rfl ?_
            refine w_exit ?_
            refine q_e ?_
            refine q_e ?_
            refine q_hit ?_
            refine q_n ?_
            refine w_seq ?_
            refine w_seq ?_
            refine w_reg rfl ?_
            refine v_move rfl ?_
            refine v_len_mu lay40 rfl ?_
            refine v_gtr lay3 rfl rfl (fun h13 => ?_) (fun h13 => ?_)
            · skip
              refine v_nil ?_
              refine q_n ?_
              refine w_t rfl ?_
              refine w_seq ?_
              refine w_reg rfl ?_
              refine v_lit (flat te []) (H' := [_, _]) lay40 lay27 rfl rfl ⟨by decide, by decide⟩ rfl rfl ?_
              refine v_assign rfl ?_
              refine v_assign (c := .v (.int .i64 3)) rfl ?_
              refine v_nil ?_
              refine q_n ?_
              refine w_ret (q_r ?_)
              refine r_r rfl ?_
              have he : i = xs.length := by omega
              subst he
              rw [fg_3 h1 hgk (by omega)]
              exact a_tup (.cons (a_flat2 te_sc te_len rfl rfl rfl rfl) (.cons tr_v .nil))
            · skip
              refine v_nil ?_
              refine q_n ?_
              refine w_f rfl ?_
              refine w_skip ?_
              refine q_n ?_
              refine w_seq ?_
              refine w_reg rfl ?_
              refine v_move rfl ?_
              refine v_assign rfl ?_
              refine v_assign (c := .v (.int .i64 0)) rfl ?_
              refine v_nil ?_
              refine q_n ?_
              refine w_ret ?_
              refine r_r rfl ?_
              have he : i = xs.length := by omega
              subst he
              rw [fg_0 h1 hgk (by omega)]
              exact a_tup (.cons (a_flat2 te_sc te_len rfl rfl rfl rfl) (.cons tr_v .nil))
  · skip
    refine v_not true rfl rfl ?_
    refine v_nil ?_
    refine q_n ?_
    refine w_t rfl ?_
    refine w_seq ?_
    refine w_reg rfl ?_
    refine v_lit (flat te []) (H' := [_]) lay40 lay27 rfl rfl ⟨by decide, by decide⟩ rfl rfl ?_
    refine v_assign rfl ?_
    refine v_assign (c := .v (.int .i64 1)) rfl ?_
    refine v_nil ?_
    refine q_n ?_
    refine w_ret (q_r ?_)
    refine r_r rfl ?_
    rw [fg_1 h1]
    exact a_tup (.cons (a_flat2 te_sc te_len rfl rfl rfl rfl) (.cons tr_v .nil))

theorem c37l (xs : List Tal) (hx : xs.length ≤ 2 ^ 40) (hb : T16 xs) : LiveC X 37 [.c (tals false xs)] (.tup [.c (.mu 0 0 (fgR xs).1.length 3), cI (fgR xs).2]) [⟨flat te (fgR xs).1, 27, true⟩] := by
  refine LiveC.of_body (drawD_ok X) (fun _ _ => Go.Proofs.Try.call37 _ _) Go.Proofs.Try.func37 rfl (n := 96) rfl ?_
  refine w_seq ?_
  refine w_reg rfl ?_
  refine v_assign rfl ?_
  refine v_assign (c := .v (.int .i64 0)) rfl ?_
  refine v_nil ?_
  refine q_n ?_
  refine w_seq ?_
  refine w_seq ?_
  refine w_reg rfl ?_
  refine v_move rfl ?_
  refine v_callb (c58 _ (by omega) (by assumption)) rfl rfl (.cons vw_sl .nil) (fun h1 => ?_) (fun h1 => ?_)
  · skip
    refine v_not false rfl rfl ?_
    refine v_nil ?_
    refine q_n ?_
    refine w_f rfl ?_
    refine w_skip ?_
    refine q_n ?_
    refine w_seq ?_
    refine w_seq ?_
    refine w_reg rfl ?_
    refine v_assign (c := .v (.int .i64 1)) rfl ?_
    refine v_nil ?_
    refine q_n ?_
    refine w_block ?_
    refine w_loop (fun k sl H => ∃ i : Nat, k = xs.length - i ∧ 1 ≤ i ∧ i ≤ xs.length + 1 ∧ (∀ a b (hb : b < xs.length), b < i → (hab : b = a + 1) → xs[b].1 - (xs[a]'(by omega)).1 ≤ 13) ∧ sl = sls [(0, .c (tals false xs)), (4, cI i)] ∧ H = []) ?_ ?_
    · refine ⟨_, _, _, ?_, 1, rfl, by omega, by omega, fun a b hb h hab => absurd h (by omega), rfl, rfl⟩
      exact turn0 ⟨tr_sl, tr_v, trivial⟩
    · rintro k sl H ⟨i, rfl, hi0, hi, hp, rfl, rfl⟩
      refine w_seq ?_
      refine w_seq ?_
      refine w_reg rfl ?_
      refine v_move rfl ?_
      refine v_move rfl ?_
      refine v_len_sl lay40 rfl ?_
      refine v_lss lay3 rfl rfl (fun h2 => ?_) (fun h2 => ?_)
      · skip
        refine v_nil ?_
        refine q_n ?_
        refine w_t rfl ?_
        refine w_skip ?_
        refine q_n ?_
        refine w_seq ?_
        refine w_block ?_
        refine w_seq ?_
        refine w_draw [0, 0, 3, 7, 15, 0, 0, 64, 224, 480, 992, 2047, 4095, 8191] [⟨0, 0, []⟩, ⟨1, 0, []⟩, ⟨2, 0, []⟩, ⟨3, 0, []⟩, ⟨4, 0, []⟩, ⟨5, 0, []⟩, ⟨6, 0, []⟩, ⟨7, 0, []⟩, ⟨8, 0, []⟩, ⟨9, 0, []⟩, ⟨10, 0, []⟩, ⟨11, 0, []⟩, ⟨12, 0, []⟩, ⟨13, 0, []⟩] rfl rfl ?_
        refine d_q rfl rfl rfl rfl rfl ?_
        refine v_move rfl ?_
        refine v_nil ?_
        refine d_q rfl rfl rfl rfl rfl ?_
        refine v_move rfl ?_
        refine v_nil ?_
        refine d_q rfl rfl rfl rfl rfl ?_
        refine v_idx (k := 3) te_len lay40 lay27 rfl rfl rfl (rfl) rfl (by omega) (fun q3 hq3 e3 => ?_)
        obtain rfl : i = q3 := by omega
        refine v_nil ?_
        refine d_q rfl rfl rfl rfl rfl ?_
        refine v_fa_vw (off' := 0) lay27 rfl rfl rfl ?_
        refine v_nil ?_
        refine d_q rfl rfl rfl rfl rfl ?_
        refine v_load_vw (.c (.v _)) lay2 rfl rfl rfl ?_
        refine v_nil ?_
        refine d_q rfl rfl rfl rfl rfl ?_
        refine v_move rfl ?_
        refine v_nil ?_
        refine d_q rfl rfl rfl rfl rfl ?_
        refine v_move rfl ?_
        refine v_nil ?_
        refine d_q rfl rfl rfl rfl rfl ?_
        refine v_sub lay3 rfl rfl (by first | exact i64r (by omega) | exact i64r (by have b1 := turnT h1 hq3; have b2 := turnT h1 hq4; omega)) ?_
        refine v_nil ?_
        refine d_q rfl rfl rfl rfl rfl ?_
        refine v_idx (k := 3) te_len lay40 lay27 rfl rfl rfl (rfl) rfl (by omega) (fun q4 hq4 e4 => ?_)
        refine v_nil ?_
        refine d_q rfl rfl rfl rfl rfl ?_
        refine v_fa_vw (off' := 0) lay27 rfl rfl rfl ?_
        refine v_nil ?_
        refine d_q rfl rfl rfl rfl rfl ?_
        refine v_load_vw (.c (.v _)) lay2 rfl rfl rfl ?_
        refine v_nil ?_
        refine d_q rfl rfl rfl rfl rfl ?_
        refine v_sub lay2 rfl rfl (by first | exact i64r (by omega) | exact i64r (by have b1 := turnT h1 hq3; have b2 := turnT h1 hq4; omega)) ?_
        refine v_nil ?_
        refine d_q rfl rfl rfl rfl rfl ?_
        refine v_sub lay2 rfl rfl (by first | exact i64r (by omega) | exact i64r (by have b1 := turnT h1 hq3; have b2 := turnT h1 hq4; omega)) ?_
        refine v_nil ?_
        refine d_q rfl rfl rfl rfl rfl ?_
        refine v_gtr lay2 rfl rfl (fun h5 => ?_) (fun h5 => ?_)
        · skip
          refine v_nil ?_
          refine d_nil ?_
          refine q_n ?_
          refine w_t rfl ?_
          refine w_seq ?_
          refine w_reg rfl ?_
          refine v_assign rfl ?_
          refine v_assign (c := .v (.int .i64 4)) rfl ?_
          refine v_nil ?_
          refine q_n ?_
          refine w_ret (q_br (q_r (q_r (q_br (q_r ?_)))))
          refine r_r rfl ?_
          rw [fg_4 h1 hq3 hq4 e4 (by omega)]
          exact l_ans [none] rfl rfl ⟨rfl, trivial⟩ (a_tup (.cons (tr_nil rfl) (.cons tr_v .nil)))
        · skip
          refine v_nil ?_
          refine d_nil ?_
          refine q_n ?_
          refine w_f rfl ?_
          refine w_skip ?_
          refine q_bn ?_
          refine q_n ?_
          refine w_reg rfl ?_
          refine v_move rfl ?_
          refine v_add lay3 rfl rfl (i64r (by omega)) ?_
          refine v_assign rfl ?_
          refine v_nil ?_
          refine q_n ?_
          refine ⟨_, _, _, ?_, ⟨i + 1, rfl, by omega, by omega, gap_grow hp hq3 hq4 e4 (by omega), rfl, rfl⟩, by omega⟩
          exact turn0 ⟨tr_sl, tr_v, trivial⟩
      · skip
        refine v_nil ?_
        refine q_n ?_
        refine w_f rfl ?_
        refine w_exit ?_
        refine q_e ?_
        refine q_e ?_
        refine q_hit ?_
        refine q_n ?_
        refine w_seq ?_
        refine w_reg rfl ?_
        refine v_lit (flat te []) (H' := [_]) lay40 lay27 rfl rfl ⟨by decide, by decide⟩ rfl rfl ?_
        refine v_assign rfl ?_
        refine v_nil ?_
        refine q_n ?_
        refine w_seq ?_
        refine w_seq ?_
        refine w_reg rfl ?_
        refine v_move rfl ?_
        refine v_len_sl lay40 rfl ?_
        refine v_move (c := .v (.int .i64 0)) rfl ?_
        refine v_nil ?_
        refine q_n ?_
        refine w_block ?_
        refine w_loop (fun k sl H => ∃ i : Nat, k = xs.length - i ∧ i ≤ xs.length ∧ sl = sls [(0, .c (tals false xs)), (5, .c (.mu 0 0 (outs xs i).length 3)), (35, .c (tals false xs)), (36, cI xs.length), (37, cI i)] ∧ H = [⟨flat te (outs xs i), 27, true⟩]) ?_ ?_
        · have hgk : gOk xs := fun a b hb hab => hp a b hb (by omega) hab
          refine ⟨_, _, _, ?_, 0, rfl, Nat.zero_le _, rfl, rfl⟩
          exact turn [some 0] rfl rfl rfl ⟨⟨_, rfl, trc_flat te_sc rfl⟩, trivial⟩ ⟨tr_sl, tr_mu rfl, tr_sl, tr_v, tr_v, trivial⟩
        · rintro k sl H ⟨i, rfl, hi, rfl, rfl⟩
          have hgk : gOk xs := fun a b hb hab => hp a b hb (by omega) hab
          refine w_seq ?_
          refine w_reg rfl ?_
          refine v_lss lay3 rfl rfl (fun h6 => ?_) (fun h6 => ?_)
          · skip
            refine v_nil ?_
            refine q_n ?_
            refine w_seq ?_
            refine w_t rfl ?_
            refine w_skip ?_
            refine q_n ?_
            refine w_seq ?_
            refine w_block ?_
            refine w_seq ?_
            refine w_reg rfl ?_
            refine v_move rfl ?_
            refine v_idx (k := 3) te_len lay40 lay27 rfl rfl rfl (rfl) rfl (by omega) (fun q7 hq7 e7 => ?_)
            obtain rfl : i = q7 := by omega
            refine v_load_vw (.agg [.v _, .v _, .v _]) lay27 rfl rfl rfl ?_
            refine v_alloc (m := 1) (H' := [_, ⟨[.v _, .v _, .v _], 27, true⟩]) lay27 rfl rfl ?_
            refine v_assign rfl ?_
            refine v_store (H' := [_, ⟨[_, _, _], 27, true⟩]) lay27 rfl rfl rfl rfl rfl rfl ?_
            refine v_nil ?_
            refine q_n ?_
            refine w_seq ?_
            refine w_seq ?_
            refine w_reg rfl ?_
            refine v_move rfl ?_
            refine v_gtr lay3 rfl rfl (fun h8 => ?_) (fun h8 => ?_)
            · skip
              refine v_nil ?_
              refine q_n ?_
              refine w_t rfl ?_
              refine w_seq ?_
              refine w_reg rfl ?_
              refine v_move rfl ?_
              refine v_move rfl ?_
              refine v_sub lay3 rfl rfl (i64r (by omega)) ?_
              refine v_idx (k := 3) te_len lay40 lay27 rfl rfl rfl (rfl) rfl (by omega) (fun q9 hq9 e9 => ?_)
              refine v_load_vw (.agg [.v _, .v _, .v _]) lay27 rfl rfl rfl ?_
              refine v_alloc (m := 2) (H' := [_, _, ⟨[.v _, .v _, .v _], 27, true⟩]) lay27 rfl rfl ?_
              refine v_store (H' := [_, _, ⟨[_, _, _], 27, true⟩]) lay27 rfl rfl rfl rfl rfl rfl ?_
              refine v_nil ?_
              refine q_n ?_
              refine w_seq ?_
              refine w_reg rfl ?_
              refine v_fa_pt (off' := 0) lay27 rfl rfl rfl ?_
              refine v_load_pt (.c _) lay2 rfl rfl rfl rfl ?_
              refine v_add lay2 rfl rfl (by first | exact i64r (by have b1 := turnT h1 hq9; omega) | exact i64r (by omega)) ?_
              refine v_assign rfl ?_
              refine v_nil ?_
              refine q_n ?_
              refine w_block ?_
              refine w_loop (fun k sl H => ∃ j : Nat, k = gapN xs[q9] xs[i] - j ∧ j ≤ gapN xs[q9] xs[i] ∧ sl = sls [(0, .c (tals false xs)), (5, .c (.mu 0 0 ((outs xs i).length + j) 3)), (35, .c (tals false xs)), (36, cI xs.length), (37, cI i), (7, .c (.pt 1 0)), (8, .c (.pt 2 0)), (9, cI (xs[q9].1 + 1 + j))] ∧ H = [⟨flat te (outs xs i ++ (List.range j).map (gapAt xs[q9] xs[i])), 27, true⟩, ⟨te xs[i], 27, true⟩, ⟨te xs[q9], 27, true⟩]) ?_ ?_
              · have hgn := gapN_eq h1 hq7 hq9 (by omega)
                have hgl := hgk q9 i hq7 (by omega)
                refine ⟨_, _, _, ?_, 0, rfl, Nat.zero_le _, rfl, rfl⟩
                exact turn [some 0, some 1, some 2] rfl rfl rfl ⟨⟨_, rfl, trc_flat te_sc (by simp)⟩, ⟨_, rfl, .stay (stay_te _)⟩, ⟨_, rfl, .stay (stay_te _)⟩, trivial⟩ ⟨tr_sl, tr_mun rfl rfl, tr_sl, tr_v, tr_v, tr_pt rfl, tr_pt rfl, tr_i (by simp), trivial⟩
              · rintro k sl H ⟨j, rfl, hj, rfl, rfl⟩
                have hgn := gapN_eq h1 hq7 hq9 (by omega)
                have hgl := hgk q9 i hq7 (by omega)
                have b1 := turnT h1 hq7
                have b2 := turnT h1 hq9
                refine w_seq ?_
                refine w_seq ?_
                refine w_reg rfl ?_
                refine v_move rfl ?_
                refine v_fa_pt (off' := 0) lay27 rfl rfl rfl ?_
                refine v_load_pt (.c _) lay2 rfl rfl rfl rfl ?_
                refine v_lss lay2 rfl rfl (fun h10 => ?_) (fun h10 => ?_)
                · skip
                  refine v_nil ?_
                  refine q_n ?_
                  refine w_t rfl ?_
                  refine w_skip ?_
                  refine q_n ?_
                  refine w_seq ?_
                  refine w_block ?_
                  refine w_seq ?_
                  refine w_reg rfl ?_
                  refine v_move rfl ?_
                  refine v_fa_pt (off' := 0) lay27 rfl rfl rfl ?_
                  refine v_load_pt (.c _) lay2 rfl rfl rfl rfl ?_
                  refine v_sub lay2 rfl rfl (i64r (by omega)) ?_
                  refine v_conv_if lay2 lay22 rfl ?_
                  refine v_fa_pt (off' := 0) lay27 rfl rfl rfl ?_
                  refine v_load_pt (.c _) lay2 rfl rfl rfl rfl ?_
                  refine v_fa_pt (off' := 0) lay27 rfl rfl rfl ?_
                  refine v_load_pt (.c _) lay2 rfl rfl rfl rfl ?_
                  refine v_sub lay2 rfl rfl (i64r (by omega)) ?_
                  refine v_conv_if lay2 lay22 rfl ?_
                  refine v_bin (c := .f _ _) lay22 rfl rfl rfl ?_
                  refine v_assign rfl ?_
                  refine v_nil ?_
                  refine q_n ?_
                  refine w_draw [0, 0, 0, 4, 0, 16, 0, 124, 0, 256, 0, 1024, 0, 8188, 16382, 32766, 65535, 131071] [⟨0, 0, []⟩, ⟨1, 0, []⟩, ⟨2, 0, []⟩, ⟨3, 0, []⟩, ⟨4, 0, []⟩, ⟨5, 0, []⟩, ⟨6, 0, []⟩, ⟨7, 0, []⟩, ⟨8, 0, []⟩, ⟨9, 0, []⟩, ⟨10, 0, []⟩, ⟨11, 0, []⟩, ⟨12, 0, []⟩, ⟨13, 0, []⟩, ⟨14, 0, []⟩, ⟨15, 2, []⟩, ⟨16, 1, []⟩, ⟨17, 0, []⟩] rfl rfl ?_
                  refine d_q rfl rfl rfl rfl rfl ?_
                  refine v_move rfl ?_
                  refine v_nil ?_
                  refine d_q rfl rfl rfl rfl rfl ?_
                  refine v_move rfl ?_
                  refine v_nil ?_
                  refine d_q rfl rfl rfl rfl rfl ?_
                  refine v_fa_pt (off' := 1) lay27 rfl rfl rfl ?_
                  refine v_nil ?_
                  refine d_q rfl rfl rfl rfl rfl ?_
                  refine v_load_pt (.c _) lay23 rfl rfl rfl rfl ?_
                  refine v_nil ?_
                  refine d_q rfl rfl rfl rfl rfl ?_
                  refine v_fa_pt (off' := 1) lay27 rfl rfl rfl ?_
                  refine v_nil ?_
                  refine d_q rfl rfl rfl rfl rfl ?_
                  refine v_load_pt (.c _) lay23 rfl rfl rfl rfl ?_
                  refine v_nil ?_
                  refine d_q rfl rfl rfl rfl rfl ?_
                  refine v_move rfl ?_
                  refine v_nil ?_
                  refine d_call (c84 _ _ _ (by first | exact (hb _ (List.getElem_mem hq9)).1 | exact (hb _ (List.getElem_mem hq9)).2) (by first | exact (hb _ (List.getElem_mem hq7)).1 | exact (hb _ (List.getElem_mem hq7)).2)) rfl rfl rfl rfl rfl (.cons vw_v (.cons vw_v (.cons vw_f .nil))) ?_
                  refine d_q rfl rfl rfl rfl rfl ?_
                  refine v_fa_pt (off' := 2) lay27 rfl rfl rfl ?_
                  refine v_nil ?_
                  refine d_q rfl rfl rfl rfl rfl ?_
                  refine v_load_pt (.c _) lay23 rfl rfl rfl rfl ?_
                  refine v_nil ?_
                  refine d_q rfl rfl rfl rfl rfl ?_
                  refine v_fa_pt (off' := 2) lay27 rfl rfl rfl ?_
                  refine v_nil ?_
                  refine d_q rfl rfl rfl rfl rfl ?_
                  refine v_load_pt (.c _) lay23 rfl rfl rfl rfl ?_
                  refine v_nil ?_
                  refine d_q rfl rfl rfl rfl rfl ?_
                  refine v_move rfl ?_
                  refine v_nil ?_
                  refine d_call (c84 _ _ _ (by first | exact (hb _ (List.getElem_mem hq9)).1 | exact (hb _ (List.getElem_mem hq9)).2) (by first | exact (hb _ (List.getElem_mem hq7)).1 | exact (hb _ (List.getElem_mem hq7)).2)) rfl rfl rfl rfl rfl (.cons vw_v (.cons vw_v (.cons vw_f .nil))) ?_
                  refine d_q rfl rfl rfl rfl rfl ?_
                  refine v_build [(0, 1), (1, 1), (2, 1)] [.v _, .v _, .v _] lay27 rfl rfl ?_
                  refine v_nil ?_
                  refine d_z (.c (.sl true 1 3 (flat te [(_, _, _)]))) rfl rfl rfl ?_
                  refine d_e rfl rfl rfl ?_
                  refine v_app_flat_sl (H' := [_, _, _, _]) te_sc te_len lay40 lay27 rfl rfl (by simp) rfl rfl rfl (by have hol := outs_len hgk i (by omega); have hl96 := h1.1; unfold maxLen; simp only []; omega) rfl rfl ?_
                  refine v_nil ⟨again_nil, ?_⟩
                  refine d_q rfl rfl rfl rfl rfl ?_
                  refine v_assign rfl ?_
                  refine v_nil ?_
                  refine d_nil ?_
                  refine q_bn ?_
                  refine q_n ?_
                  refine w_reg rfl ?_
                  refine v_move rfl ?_
                  refine v_add lay2 rfl rfl (by first | exact i64r (by have b1 := turnT h1 hq9; omega) | exact i64r (by omega)) ?_
                  refine v_assign rfl ?_
                  refine v_nil ?_
                  refine q_n ?_
                  refine ⟨_, _, _, ?_, ⟨j + 1, rfl, by omega, rfl, rfl⟩, by omega⟩
                  exact turn [some 3, some 1, some 2] rfl rfl rfl ⟨⟨_, rfl, trc_flat te_sc (congrArg (flat te) (gap_step rfl))⟩, ⟨_, rfl, .stay (stay_te _)⟩, ⟨_, rfl, .stay (stay_te _)⟩, trivial⟩ ⟨tr_sl, tr_mun rfl (by omega), tr_sl, tr_v, tr_v, tr_pt rfl, tr_pt rfl, tr_i (by push_cast; omega), trivial⟩
                · skip
                  refine v_nil ?_
                  refine q_n ?_
                  refine w_f rfl ?_
                  refine w_exit ?_
                  refine q_e ?_
                  refine q_e ?_
                  refine q_hit ?_
                  refine q_n ?_
                  refine w_reg rfl ?_
                  refine v_move rfl ?_
                  refine v_load_pt (.agg [_, _, _]) lay27 rfl rfl rfl rfl ?_
                  refine v_lit (flat te [xs[i]]) (H' := [_, _, _, _]) lay40 lay27 rfl rfl ⟨by decide, by decide⟩ rfl rfl ?_
                  refine v_app_flat (H' := [_, _, _, _, _]) te_sc te_len lay40 lay27 rfl rfl (by simp) rfl rfl (by simp) rfl rfl (by have hol := outs_len hgk i (by omega); have hl96 := h1.1; unfold maxLen; simp only []; omega) rfl rfl ?_
                  refine v_assign rfl ?_
                  refine v_nil ?_
                  refine q_bn ?_
                  refine q_n ?_
                  refine w_reg rfl ?_
                  refine v_add lay3 rfl rfl (i64r (by omega)) ?_
                  refine v_move rfl ?_
                  refine v_nil ?_
                  refine q_n ?_
                  have hon : outs xs (i + 1) = (outs xs i ++ (List.range j).map (gapAt xs[q9] xs[i])) ++ [xs[i]] := by
                    have hje : j = gapN xs[q9] xs[i] := by omega
                    rw [hje]
                    exact outs_next hq7 e9 hq9
                  refine ⟨_, _, _, ?_, ⟨i + 1, rfl, by omega, rfl, rfl⟩, by omega⟩
                  exact turn [some 4] rfl rfl rfl ⟨⟨_, rfl, trc_flat te_sc (congrArg (flat te) hon.symm)⟩, trivial⟩ ⟨tr_sl, tr_mun rfl (by rw [hon]; simp; omega), tr_sl, tr_v, tr_v, trivial⟩
            · skip
              refine v_nil ?_
              refine q_n ?_
              refine w_f rfl ?_
              refine w_skip ?_
              refine q_n ?_
              refine w_reg rfl ?_
              refine v_move rfl ?_
              refine v_load_pt (.agg [_, _, _]) lay27 rfl rfl rfl rfl ?_
              refine v_lit (flat te [xs[i]]) (H' := [_, _, _]) lay40 lay27 rfl rfl ⟨by decide, by decide⟩ rfl rfl ?_
              refine v_app_flat (H' := [_, _, _, _]) te_sc te_len lay40 lay27 rfl rfl (by simp) rfl rfl (by simp) rfl rfl (by have hol := outs_len hgk i (by omega); have hl96 := h1.1; unfold maxLen; simp only []; omega) rfl rfl ?_
              refine v_assign rfl ?_
              refine v_nil ?_
              refine q_bn ?_
              refine q_n ?_
              refine w_reg rfl ?_
              refine v_add lay3 rfl rfl (i64r (by omega)) ?_
              refine v_move rfl ?_
              refine v_nil ?_
              refine q_n ?_
              have hon := outs_first hq7 h8
              refine ⟨_, _, _, ?_, ⟨i + 1, rfl, by omega, rfl, rfl⟩, by omega⟩
              exact turn [some 3] rfl rfl rfl ⟨⟨_, rfl, trc_flat te_sc (congrArg (flat te) hon.symm)⟩, trivial⟩ ⟨tr_sl, tr_mun rfl (by rw [hon]; simp), tr_sl, tr_v, tr_v, trivial⟩
          · skip
            refine v_nil ?_
            refine q_n ?_
            refine w_seq ?_
            refine w_f rfl ?_
            refine w_exit ?_
            refine q_e ?_
            refine q_e ?_
            refine q_hit ?_
            refine q_n ?_
            refine w_seq ?_
            refine w_seq ?_
            refine w_reg rfl ?_
            refine v_move rfl ?_
            refine v_len_mu lay40 rfl ?_
            refine v_gtr lay3 rfl rfl (fun h11 => ?_) (fun h11 => ?_)
            · skip
              refine v_nil ?_
              refine q_n ?_
              refine w_t rfl ?_
              refine w_seq ?_
              refine w_reg rfl ?_
              refine v_assign rfl ?_
              refine v_assign (c := .v (.int .i64 3)) rfl ?_
              refine v_nil ?_
              refine q_n ?_
              refine w_ret (q_r ?_)
              refine r_r rfl ?_
              have he : i = xs.length := by omega
              subst he
              rw [fg_3 h1 hgk (by omega)]
              exact l_ans [none] rfl rfl ⟨rfl, trivial⟩ (a_tup (.cons (tr_nil rfl) (.cons tr_v .nil)))
            · skip
              refine v_nil ?_
              refine q_n ?_
              refine w_f rfl ?_
              refine w_skip ?_
              refine q_n ?_
              refine w_seq ?_
              refine w_reg rfl ?_
              refine v_move rfl ?_
              refine v_assign rfl ?_
              refine v_assign (c := .v (.int .i64 0)) rfl ?_
              refine v_nil ?_
              refine q_n ?_
              refine w_ret ?_
              refine r_r rfl ?_
              have he : i = xs.length := by omega
              subst he
              rw [fg_0 h1 hgk (by omega)]
              exact l_ans [some 0] rfl rfl ⟨⟨_, rfl, trc_flat te_sc rfl⟩, trivial⟩ (a_tup (.cons (tr_mun rfl rfl) (.cons tr_v .nil)))
  · skip
    refine v_not true rfl rfl ?_
    refine v_nil ?_
    refine q_n ?_
    refine w_t rfl ?_
    refine w_seq ?_
    refine w_reg rfl ?_
    refine v_assign rfl ?_
    refine v_assign (c := .v (.int .i64 1)) rfl ?_
    refine v_nil ?_
    refine q_n ?_
    refine w_ret (q_r ?_)
    refine r_r rfl ?_
    rw [fg_1 h1]
    exact l_ans [none] rfl rfl ⟨rfl, trivial⟩ (a_tup (.cons (tr_nil rfl) (.cons tr_v .nil)))

theorem c37 (xs : List Tal) (hx : xs.length ≤ 2 ^ 40) (hb : T16 xs) : PureC X 37 [.c (tals false xs)] (.tup [.c (tals true (fgR xs).1), cI (fgR xs).2]) :=
  (c37l xs hx hb).pure (a_tup (.cons (a_flat te_sc te_len rfl rfl) (.cons tr_v .nil)))

theorem c38 (n : Nat) (a : Int) (hx : n ≤ 2 ^ 40) (ha : 0 ≤ a ∧ a ≤ 2 ^ 20) : PureC X 38 [.c (.sl false n 3 (flat te ((List.range n).map (tmark a)))), cI a] (cI (a + 3 * n)) := by
  refine PureC.of_body (drawD_ok X) (fun _ _ => Go.Proofs.Try.call38 _ _) Go.Proofs.Try.func38 rfl (n := 42) rfl ?_
  refine w_seq ?_
  refine w_reg rfl ?_
  refine v_assign (c := .v (.int .i64 0)) rfl ?_
  refine v_nil ?_
  refine q_n ?_
  refine w_seq ?_
  refine w_seq ?_
  refine w_reg rfl ?_
  refine v_assign (c := .v (.int .i64 0)) rfl ?_
  refine v_nil ?_
  refine q_n ?_
  refine w_block ?_
  refine w_loop (fun k sl H => ∃ i : Nat, k = n - i ∧ i ≤ n ∧ sl = sls [(0, .c (.sl false n 3 (flat te ((List.range n).map (tmark a))))), (1, cI (a + 3 * i)), (5, cI i)] ∧ H = []) ?_ ?_
  · refine ⟨_, _, _, ?_, 0, rfl, Nat.zero_le _, rfl, rfl⟩
    exact turn0 ⟨tr_sl, tr_i (by simp), tr_v, trivial⟩
  · rintro k sl H ⟨i, rfl, hi, rfl, rfl⟩
    refine w_seq ?_
    refine w_seq ?_
    refine w_reg rfl ?_
    refine v_move rfl ?_
    refine v_move rfl ?_
    refine v_len_sl lay40 rfl ?_
    refine v_lss lay3 rfl rfl (fun h1 => ?_) (fun h1 => ?_)
    · skip
      refine v_nil ?_
      refine q_n ?_
      refine w_t rfl ?_
      refine w_skip ?_
      refine q_n ?_
      refine w_seq ?_
      refine w_block ?_
      refine w_seq ?_
      refine w_seq ?_
      refine w_reg rfl ?_
      refine v_move rfl ?_
      refine v_move rfl ?_
      refine v_idx (k := 3) te_len lay40 lay27 rfl rfl rfl (by simp) rfl (by rw [List.length_map, List.length_range]; omega) (fun q2 hq2 e2 => ?_)
      obtain rfl : i = q2 := by omega
      refine v_fa_vw (off' := 0) lay27 rfl rfl rfl ?_
      refine v_load_vw (.c (.v _)) lay2 rfl rfl rfl ?_
      refine v_move rfl ?_
      refine v_neq lay2 rfl rfl (fun h3 => ?_) (fun h3 => ?_)
      · skip
        exact absurd (by rw [List.getElem_map, List.getElem_range]; rfl) h3
      · skip
        refine v_nil ?_
        refine q_n ?_
        refine w_f rfl ?_
        refine w_skip ?_
        refine q_n ?_
        refine w_seq ?_
        refine w_reg rfl ?_
        refine v_move rfl ?_
        refine v_add lay3 rfl rfl (i64r (by omega)) ?_
        refine v_assign rfl ?_
        refine v_nil ?_
        refine q_n ?_
        refine w_seq ?_
        refine w_seq ?_
        refine w_reg rfl ?_
        refine v_move rfl ?_
        refine v_move rfl ?_
        refine v_idx (k := 3) te_len lay40 lay27 rfl rfl rfl (by simp) rfl (by rw [List.length_map, List.length_range]; omega) (fun q4 hq4 e4 => ?_)
        obtain rfl : i = q4 := by omega
        refine v_fa_vw (off' := 1) lay27 rfl rfl rfl ?_
        refine v_load_vw (.c (.v _)) lay23 rfl rfl rfl ?_
        refine v_move rfl ?_
        refine v_conv_iw lay3 lay23 rfl ?_
        refine v_neq lay23 rfl rfl (fun h5 => ?_) (fun h5 => ?_)
        · skip
          exact absurd (by rw [List.getElem_map, List.getElem_range]; rfl) h5
        · skip
          refine v_nil ?_
          refine q_n ?_
          refine w_f rfl ?_
          refine w_skip ?_
          refine q_n ?_
          refine w_seq ?_
          refine w_reg rfl ?_
          refine v_move rfl ?_
          refine v_add lay3 rfl rfl (i64r (by omega)) ?_
          refine v_assign rfl ?_
          refine v_nil ?_
          refine q_n ?_
          refine w_seq ?_
          refine w_seq ?_
          refine w_reg rfl ?_
          refine v_move rfl ?_
          refine v_move rfl ?_
          refine v_idx (k := 3) te_len lay40 lay27 rfl rfl rfl (by simp) rfl (by rw [List.length_map, List.length_range]; omega) (fun q6 hq6 e6 => ?_)
          obtain rfl : i = q6 := by omega
          refine v_fa_vw (off' := 2) lay27 rfl rfl rfl ?_
          refine v_load_vw (.c (.v _)) lay23 rfl rfl rfl ?_
          refine v_move rfl ?_
          refine v_conv_iw lay3 lay23 rfl ?_
          refine v_neq lay23 rfl rfl (fun h7 => ?_) (fun h7 => ?_)
          · skip
            exact absurd (by rw [List.getElem_map, List.getElem_range]; rfl) h7
          · skip
            refine v_nil ?_
            refine q_n ?_
            refine w_f rfl ?_
            refine w_skip ?_
            refine q_n ?_
            refine w_reg rfl ?_
            refine v_move rfl ?_
            refine v_add lay3 rfl rfl (i64r (by omega)) ?_
            refine v_assign rfl ?_
            refine v_nil ?_
            refine q_bn ?_
            refine q_n ?_
            refine w_reg rfl ?_
            refine v_move rfl ?_
            refine v_add lay3 rfl rfl (i64r (by omega)) ?_
            refine v_assign rfl ?_
            refine v_nil ?_
            refine q_n ?_
            refine ⟨_, _, _, ?_, ⟨i + 1, rfl, by omega, rfl, rfl⟩, by omega⟩
            exact turn0 ⟨tr_sl, tr_i (by push_cast; omega), tr_v, trivial⟩
    · skip
      refine v_nil ?_
      refine q_n ?_
      refine w_f rfl ?_
      refine w_exit ?_
      refine q_e ?_
      refine q_e ?_
      refine q_hit ?_
      refine q_n ?_
      refine w_seq ?_
      refine w_reg rfl ?_
      refine v_move rfl ?_
      refine v_assign rfl ?_
      refine v_nil ?_
      refine q_n ?_
      refine w_ret ?_
      refine r_r rfl ?_
      obtain rfl : i = n := by omega
      exact a_i rfl

theorem c7 (xs : List Tal) (hx : xs.length ≤ maxLen) (hb : T16 xs) : PureC X 7 [.c (tals false xs)] (cB true) := by
  refine PureC.of_body (drawD_ok X) (fun _ _ => Go.Proofs.Try.call7 _ _) Go.Proofs.Try.func7 rfl (n := 96) rfl ?_
  refine w_seq ?_
  refine w_reg rfl ?_
  refine v_assign (c := .v (.bool false)) rfl ?_
  refine v_nil ?_
  refine q_n ?_
  refine w_seq ?_
  refine w_reg rfl ?_
  refine v_assign (c := .v (.int .i64 1048576)) rfl ?_
  refine v_nil ?_
  refine q_n ?_
  refine w_seq ?_
  refine w_reg rfl ?_
  refine v_move rfl ?_
  refine v_move rfl ?_
  refine v_call (c20 _ _ (by omega) (by assumption)) rfl rfl rfl (.cons vw_sl (.cons vw_v .nil)) ?_
  refine v_assign rfl ?_
  refine v_nil ?_
  refine q_n ?_
  refine w_seq ?_
  refine w_seq ?_
  refine w_reg rfl ?_
  refine v_move rfl ?_
  refine v_lss lay3 rfl rfl (fun h1 => ?_) (fun h1 => ?_)
  · skip
    refine v_nil ?_
    refine q_n ?_
    refine w_t rfl ?_
    refine w_seq ?_
    refine w_reg rfl ?_
    refine v_assign (c := .v (.bool true)) rfl ?_
    refine v_nil ?_
    refine q_n ?_
    refine w_ret (q_r ?_)
    refine r_r rfl ?_
    exact tr_v
  · skip
    have hs1 := szr_in h1
    have hln := fg_len xs
    refine v_nil ?_
    refine q_n ?_
    refine w_f rfl ?_
    refine w_skip ?_
    refine q_n ?_
    refine w_seq ?_
    refine w_reg rfl ?_
    refine v_move rfl ?_
    refine v_call (c22 _ (by omega)) rfl rfl rfl (.cons vw_sl .nil) ?_
    refine v_call (c36 _ (by omega) (by assumption)) rfl rfl rfl (.cons vw_sl .nil) ?_
    refine v_move_t rfl ?_
    refine v_extract_c rfl rfl ?_
    refine v_extract_c rfl rfl ?_
    refine v_assign rfl ?_
    refine v_assign rfl ?_
    refine v_nil ?_
    refine q_n ?_
    refine w_seq ?_
    refine w_reg rfl ?_
    refine v_move rfl ?_
    refine v_live1 (N := 0) (H' := [_]) (c22l _ (by omega)) (sc_flat te_sc _) rfl rfl rfl rfl rfl rfl (.cons vw_sl .nil) ?_
    refine v_assign rfl ?_
    refine v_nil ?_
    refine q_n ?_
    refine w_seq ?_
    refine w_reg rfl ?_
    refine v_move rfl ?_
    refine v_live1 (N := 1) (H' := [_, _]) (c37l _ (by omega) (by assumption)) (sc_flat te_sc _) rfl rfl rfl rfl rfl rfl (.cons (vw_mu2 te_sc te_len rfl (by simp)) .nil) ?_
    refine v_move_t rfl ?_
    refine v_extract_c rfl rfl ?_
    refine v_extract_c rfl rfl ?_
    refine v_assign rfl ?_
    refine v_assign rfl ?_
    refine v_nil ?_
    refine q_n ?_
    refine w_seq ?_
    refine w_seq ?_
    refine w_reg rfl ?_
    refine v_move rfl ?_
    refine v_move rfl ?_
    refine v_callb (c25 _ _ (by omega)) rfl rfl (.cons (vw_mu2 te_sc te_len rfl (by simp)) (.cons vw_sl .nil)) (fun h2 => ?_) (fun h2 => ?_)
    · skip
      refine v_not false rfl rfl ?_
      refine v_move rfl ?_
      refine v_guard_on rfl rfl ?_
      refine v_move rfl ?_
      refine v_guard_on rfl rfl ?_
      refine v_move rfl ?_
      refine v_guard_on rfl rfl ?_
      refine v_neq lay2 rfl rfl (fun h3 => ?_) (fun h3 => ?_)
      · skip
        exact absurd rfl h3
      · skip
        refine v_pick_f rfl rfl ?_
        refine v_nil ?_
        refine q_n ?_
        refine w_f rfl ?_
        refine w_skip ?_
        refine q_n ?_
        refine w_seq ?_
        refine w_seq ?_
        refine w_reg rfl ?_
        refine v_move rfl ?_
        refine v_move rfl ?_
        refine v_call (c22 _ (by omega)) rfl rfl rfl (.cons vw_sl .nil) ?_
        refine v_callb (c25 _ _ (by omega)) rfl rfl (.cons (vw_mu2 te_sc te_len rfl (by simp)) (.cons vw_sl .nil)) (fun h4 => ?_) (fun h4 => ?_)
        · skip
          refine v_not false rfl rfl ?_
          refine v_nil ?_
          refine q_n ?_
          refine w_f rfl ?_
          refine w_skip ?_
          refine q_n ?_
          refine w_seq ?_
          refine w_reg rfl ?_
          refine v_assign (c := .v (.int .i64 1)) rfl ?_
          refine v_nil ?_
          refine q_n ?_
          refine w_seq ?_
          refine w_reg rfl ?_
          refine v_move rfl ?_
          refine v_move rfl ?_
          refine v_mark (H' := [_, _]) (c26 _ _ (by omega) (by omega)) rfl (sc_flat te_sc _) (sc_flat te_sc _) rfl rfl rfl rfl ?_
          refine v_assign rfl ?_
          refine v_nil ?_
          refine q_n ?_
          refine w_seq ?_
          refine w_seq ?_
          refine w_reg rfl ?_
          refine v_move rfl ?_
          refine v_lss lay3 rfl rfl (fun h5 => ?_) (fun h5 => ?_)
          · skip
            exact absurd h5 (by omega)
          · skip
            refine v_move rfl ?_
            refine v_guard_on rfl rfl ?_
            refine v_move rfl ?_
            refine v_guard_on rfl rfl ?_
            refine v_move rfl ?_
            refine v_guard_on rfl rfl ?_
            refine v_callb (c25 _ _ (by omega)) rfl rfl (.cons (vw_mu2 te_sc te_len rfl (by simp)) (.cons vw_sl .nil)) (fun h6 => ?_) (fun h6 => ?_)
            · skip
              refine v_guard_on rfl rfl ?_
              refine v_not false rfl rfl ?_
              refine v_pick_f rfl rfl ?_
              refine v_move rfl ?_
              refine v_guard_on rfl rfl ?_
              refine v_move rfl ?_
              refine v_guard_on rfl rfl ?_
              refine v_move rfl ?_
              refine v_guard_on rfl rfl ?_
              refine v_neq lay2 rfl rfl (fun h7 => ?_) (fun h7 => ?_)
              · skip
                exact absurd rfl h7
              · skip
                refine v_pick_f rfl rfl ?_
                refine v_nil ?_
                refine q_n ?_
                refine w_f rfl ?_
                refine w_skip ?_
                refine q_n ?_
                refine w_seq ?_
                refine w_reg rfl ?_
                refine v_assign (c := .v (.int .i64 1)) rfl ?_
                refine v_nil ?_
                refine q_n ?_
                refine w_seq ?_
                refine w_reg rfl ?_
                refine v_move rfl ?_
                refine v_move rfl ?_
                refine v_mark (H' := [_, _]) (c26 _ _ (by omega) (by omega)) rfl (sc_flat te_sc _) (sc_flat te_sc _) rfl rfl rfl rfl ?_
                refine v_assign rfl ?_
                refine v_nil ?_
                refine q_n ?_
                refine w_seq ?_
                refine w_reg rfl ?_
                refine v_assign (c := .v (.int .i64 1)) rfl ?_
                refine v_nil ?_
                refine q_n ?_
                refine w_seq ?_
                refine w_reg rfl ?_
                refine v_move rfl ?_
                refine v_move rfl ?_
                refine v_call (c38 _ _ (by omega) (by omega)) rfl rfl rfl (.cons (vw_mu2 te_sc te_len rfl (by simp)) (.cons vw_v .nil)) ?_
                refine v_assign rfl ?_
                refine v_nil ?_
                refine q_n ?_
                refine w_seq ?_
                refine w_seq ?_
                refine w_reg rfl ?_
                refine v_move rfl ?_
                refine v_lss lay3 rfl rfl (fun h8 => ?_) (fun h8 => ?_)
                · skip
                  exact absurd h8 (by omega)
                · skip
                  refine v_nil ?_
                  refine q_n ?_
                  refine w_f rfl ?_
                  refine w_skip ?_
                  refine q_n ?_
                  refine w_seq ?_
                  refine w_seq ?_
                  refine w_reg rfl ?_
                  refine v_move rfl ?_
                  refine v_move rfl ?_
                  refine v_neq lay3 rfl rfl (fun h9 => ?_) (fun h9 => ?_)
                  · skip
                    exact absurd rfl h9
                  · skip
                    refine v_nil ?_
                    refine q_n ?_
                    refine w_f rfl ?_
                    refine w_skip ?_
                    refine q_n ?_
                    refine w_seq ?_
                    refine w_reg rfl ?_
                    refine v_move rfl ?_
                    refine v_call (c22 _ (by omega)) rfl rfl rfl (.cons vw_sl .nil) ?_
                    refine v_call (c37 _ (by omega) (by assumption)) rfl rfl rfl (.cons vw_sl .nil) ?_
                    refine v_move_t rfl ?_
                    refine v_extract_c rfl rfl ?_
                    refine v_extract_c rfl rfl ?_
                    refine v_assign rfl ?_
                    refine v_assign rfl ?_
                    refine v_nil ?_
                    refine q_n ?_
                    refine w_seq ?_
                    refine w_seq ?_
                    refine w_reg rfl ?_
                    refine v_move rfl ?_
                    refine v_move rfl ?_
                    refine v_callb (c25 _ _ (by omega)) rfl rfl (.cons vw_sl (.cons vw_sl .nil)) (fun h10 => ?_) (fun h10 => ?_)
                    · skip
                      refine v_not false rfl rfl ?_
                      refine v_move rfl ?_
                      refine v_guard_on rfl rfl ?_
                      refine v_move rfl ?_
                      refine v_guard_on rfl rfl ?_
                      refine v_move rfl ?_
                      refine v_guard_on rfl rfl ?_
                      refine v_neq lay2 rfl rfl (fun h11 => ?_) (fun h11 => ?_)
                      · skip
                        exact absurd rfl h11
                      · skip
                        refine v_pick_f rfl rfl ?_
                        refine v_nil ?_
                        refine q_n ?_
                        refine w_f rfl ?_
                        refine w_skip ?_
                        refine q_n ?_
                        refine w_seq ?_
                        refine w_reg rfl ?_
                        refine v_assign (c := .v (.int .i64 1)) rfl ?_
                        refine v_nil ?_
                        refine q_n ?_
                        refine w_seq ?_
                        refine w_reg rfl ?_
                        refine v_move rfl ?_
                        refine v_move rfl ?_
                        refine v_call (c38 _ _ (by omega) (by omega)) rfl rfl rfl (.cons (vw_mu2 te_sc te_len rfl (by simp)) (.cons vw_v .nil)) ?_
                        refine v_assign rfl ?_
                        refine v_nil ?_
                        refine q_n ?_
                        refine w_seq ?_
                        refine w_seq ?_
                        refine w_reg rfl ?_
                        refine v_move rfl ?_
                        refine v_lss lay3 rfl rfl (fun h12 => ?_) (fun h12 => ?_)
                        · skip
                          exact absurd h12 (by omega)
                        · skip
                          refine v_nil ?_
                          refine q_n ?_
                          refine w_f rfl ?_
                          refine w_skip ?_
                          refine q_n ?_
                          refine w_seq ?_
                          refine w_seq ?_
                          refine w_reg rfl ?_
                          refine v_move rfl ?_
                          refine v_move rfl ?_
                          refine v_neq lay3 rfl rfl (fun h13 => ?_) (fun h13 => ?_)
                          · skip
                            exact absurd rfl h13
                          · skip
                            refine v_nil ?_
                            refine q_n ?_
                            refine w_f rfl ?_
                            refine w_skip ?_
                            refine q_n ?_
                            refine w_seq ?_
                            refine w_reg rfl ?_
                            refine v_assign (c := .v (.bool true)) rfl ?_
                            refine v_nil ?_
                            refine q_n ?_
                            refine w_ret ?_
                            refine r_r rfl ?_
                            exact tr_v
                    · skip
                      exact absurd rfl h10
            · skip
              exact absurd rfl h6
        · skip
          exact absurd rfl h4
    · skip
      exact absurd rfl h2
end Go.VL
