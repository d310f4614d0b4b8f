/- Walks: the first incident. -/
import Derived.Test.YtenaamehifbfeaaC2
namespace Go.VL
open Go.RowKit
set_option maxRecDepth 20000
def fl (n : Int) : Option Nat := some (FloatKind.f32.nearest n)
def fge (x y : Option Nat) : Bool := ford .f32 x y == some .gt || ford .f32 x y == some .eq
/-- So much fuller above than below that it may be an incident. -/
def hot (most share : Option Nat) (a b : Int) : Bool := fge (fop .sub .f32 (fl a) (fl b)) most && fge (fop .sub .f32 (fl a) (fl b)) (fop .mul .f32 share (fl a))
theorem and_tt {a b : Bool} (h1 : a = true) (h2 : b = true) : (a && b) = true := by rw [h1, h2]; rfl
theorem and_f1 {a b : Bool} (h1 : a = false) : (a && b) = false := by rw [h1]; rfl
theorem and_f2 {a b : Bool} (h2 : b = false) : (a && b) = false := by rw [h2, Bool.and_false]
/-- The first incident in the turns that are left, after so many that may be one. -/
def inc (most share : Option Nat) (times : Int) (ys : List Tal) : List Tal → Int → Int × Int
  | [], _ => (0, 6)
  | t :: r, now => if 0 ≤ fnd ys t.1 then
      if hot most share t.2.2 (ys.getD (fnd ys t.1).toNat (0, 0, 0)).2.2 = true then if now + 1 = times then (t.1, 0) else inc most share times ys r (now + 1)
      else if 0 = times then (t.1, 0) else inc most share times ys r 0
    else inc most share times ys r now
section
variable {most share : Option Nat} {times now : Int} {ys xs : List Tal} {i q : Nat}
theorem inc_skip (hi : i < xs.length) (h : ¬ 0 ≤ fnd ys xs[i].1) : inc most share times ys (xs.drop i) now = inc most share times ys (xs.drop (i + 1)) now := by
  rw [List.drop_eq_getElem_cons hi]
  simp only [inc, if_neg h]
theorem inc_hot (hi : i < xs.length) (hq : q < ys.length) (e : fnd ys xs[i].1 = q) (h : hot most share xs[i].2.2 ys[q].2.2 = true) : inc most share times ys (xs.drop i) now = if now + 1 = times then (xs[i].1, 0) else inc most share times ys (xs.drop (i + 1)) (now + 1) := by
  rw [List.drop_eq_getElem_cons hi]
  simp only [inc]
  rw [if_pos (by omega), e, Int.toNat_natCast, List.getD_eq_getElem?_getD, List.getElem?_eq_getElem hq, Option.getD_some, if_pos h]
theorem inc_cold (hi : i < xs.length) (hq : q < ys.length) (e : fnd ys xs[i].1 = q) (h : hot most share xs[i].2.2 ys[q].2.2 = false) : inc most share times ys (xs.drop i) now = if 0 = times then (xs[i].1, 0) else inc most share times ys (xs.drop (i + 1)) 0 := by
  rw [List.drop_eq_getElem_cons hi]
  simp only [inc]
  rw [if_pos (by omega), e, Int.toNat_natCast, List.getD_eq_getElem?_getD, List.getElem?_eq_getElem hq, Option.getD_some, if_neg (by rw [h]; decide)]
end
/-- The first incident of two lists, with a code. -/
noncomputable def fiR (xs ys : List Tal) (most share : Option Nat) (times : Int) : Int × Int :=
  if okL xs ∧ okL ys then if amtB most = true ∧ shOk share ∧ 1 ≤ times ∧ times ≤ 96 then inc most share times ys xs 0 else (0, 2) else (0, 1)
theorem a_2 {H : List Ob} {a b : Int} {r : Int × Int} (h : r = (a, b)) : TrV H [] (.tup [cI a, cI b]) (.tup [cI r.1, cI r.2]) := by
  rw [h]
  exact a_tup (.cons tr_v (.cons tr_v .nil))
section
variable {xs ys : List Tal} {most share : Option Nat} {times : Int}
theorem fi_0 (h1 : okL xs) (h2 : okL ys) (h3 : amtB most = true) (h4 : shOk share) (h5 : 1 ≤ times ∧ times ≤ 96) : fiR xs ys most share times = inc most share times ys xs 0 := by
  unfold fiR
  rw [if_pos ⟨h1, h2⟩, if_pos ⟨h3, h4, h5.1, h5.2⟩]
theorem fi_2 (h1 : okL xs) (h2 : okL ys) (h : ¬ (amtB most = true ∧ shOk share ∧ 1 ≤ times ∧ times ≤ 96)) : fiR xs ys most share times = (0, 2) := by
  unfold fiR
  rw [if_pos ⟨h1, h2⟩, if_neg h]
theorem fi_1 (h : ¬ (okL xs ∧ okL ys)) : fiR xs ys most share times = (0, 1) := by
  unfold fiR
  rw [if_neg h]
end
theorem srt_of {ys : List Tal} (h : okL ys) : srt ys := by
  intro a b hb hab
  induction b with
  | zero => omega
  | succ b ih =>
    have h1 := (h.2 (b + 1) hb).2.2.2.2 b (by omega) rfl
    by_cases he : a = b
    · subst he; exact h1
    · have := ih (by omega) (by omega)
      omega

theorem c34 (xs ys : List Tal) (most share : Option Nat) (times : Int) (hx : xs.length ≤ 2 ^ 40) (hy : ys.length ≤ 2 ^ 40) : PureC X 34 [.c (tals false xs), .c (tals false ys), .c (.f .f32 most), .c (.f .f32 share), cI times] (.tup [cI (fiR xs ys most share times).1, cI (fiR xs ys most share times).2]) := by
  refine PureC.of_body (drawD_ok X) (fun _ _ => Go.Proofs.Try.call34 _ _) Go.Proofs.Try.func34 rfl (n := 87) rfl ?_
  refine w_seq ?_
  refine w_reg rfl ?_
  refine v_assign (c := .v (.int .i64 0)) rfl ?_
  refine v_assign (c := .v (.int .i64 0)) rfl ?_
  refine v_nil ?_
  refine q_n ?_
  refine w_seq ?_
  refine w_seq ?_
  refine w_reg rfl ?_
  refine v_move rfl ?_
  refine v_callb (c70 _ (by omega)) rfl rfl (.cons vw_sl .nil) (fun h1 => ?_) (fun h1 => ?_)
  · skip
    refine v_not false rfl rfl ?_
    refine v_move rfl ?_
    refine v_guard_on rfl rfl ?_
    refine v_move rfl ?_
    refine v_guard_on rfl rfl ?_
    refine v_callb (c70 _ (by omega)) rfl rfl (.cons vw_sl .nil) (fun h2 => ?_) (fun h2 => ?_)
    · skip
      refine v_guard_on rfl rfl ?_
      refine v_not false rfl rfl ?_
      refine v_pick_f rfl rfl ?_
      refine v_nil ?_
      refine q_n ?_
      refine w_f rfl ?_
      refine w_skip ?_
      refine q_n ?_
      refine w_seq ?_
      refine w_seq ?_
      refine w_reg rfl ?_
      refine v_move rfl ?_
      refine v_callb (c77 _) rfl rfl (.cons vw_f .nil) (fun h3 => ?_) (fun h3 => ?_)
      · skip
        refine v_not false rfl rfl ?_
        refine v_move rfl ?_
        refine v_guard_on rfl rfl ?_
        refine v_move rfl ?_
        refine v_guard_on rfl rfl ?_
        refine v_callb (c71 _) rfl rfl (.cons vw_f .nil) (fun h4 => ?_) (fun h4 => ?_)
        · skip
          refine v_guard_on rfl rfl ?_
          refine v_not false rfl rfl ?_
          refine v_pick_f rfl rfl ?_
          refine v_move rfl ?_
          refine v_guard_on rfl rfl ?_
          refine v_move rfl ?_
          refine v_guard_on rfl rfl ?_
          refine v_callb (c78 _) rfl rfl (.cons vw_v .nil) (fun h5 => ?_) (fun h5 => ?_)
          · skip
            refine v_guard_on rfl rfl ?_
            refine v_not false rfl rfl ?_
            refine v_pick_f rfl rfl ?_
            refine v_nil ?_
            refine q_n ?_
            refine w_f rfl ?_
            refine w_skip ?_
            refine q_n ?_
            refine w_seq ?_
            refine w_reg rfl ?_
            refine v_assign (c := .v (.int .i64 0)) rfl ?_
            refine v_nil ?_
            refine q_n ?_
            refine w_seq ?_
            refine w_seq ?_
            refine w_reg rfl ?_
            refine v_assign (c := .v (.int .i64 0)) rfl ?_
            refine v_nil ?_
            refine q_n ?_
            refine w_block ?_
            refine w_loop (fun k sl H => ∃ (i : Nat) (now : Int), k = xs.length - i ∧ i ≤ xs.length ∧ 0 ≤ now ∧ now ≤ i ∧ inc most share times ys (xs.drop i) now = inc most share times ys xs 0 ∧ sl = sls [(0, .c (tals false xs)), (1, .c (tals false ys)), (2, .c (.f .f32 most)), (3, .c (.f .f32 share)), (4, cI times), (12, cI now), (13, cI i)] ∧ H = []) ?_ ?_
            · refine ⟨_, _, _, ?_, 0, 0, rfl, Nat.zero_le _, by omega, by omega, by rw [List.drop_zero], rfl, rfl⟩
              exact turn0 ⟨tr_sl, tr_sl, tr_f, tr_f, tr_v, tr_v, tr_v, trivial⟩
            · rintro k sl H ⟨i, now, rfl, hi, hn0, hn1, hp, rfl, rfl⟩
              refine w_seq ?_
              refine w_seq ?_
              refine w_reg rfl ?_
              refine v_move rfl ?_
              refine v_move rfl ?_
              refine v_len_sl lay40 rfl ?_
              refine v_lss lay3 rfl rfl (fun h6 => ?_) (fun h6 => ?_)
              · skip
                refine v_nil ?_
                refine q_n ?_
                refine w_t rfl ?_
                refine w_skip ?_
                refine q_n ?_
                refine w_seq ?_
                refine w_block ?_
                refine w_seq ?_
                refine w_reg rfl ?_
                refine v_move rfl ?_
                refine v_move rfl ?_
                refine v_move rfl ?_
                refine v_idx (k := 3) te_len lay40 lay27 rfl rfl rfl rfl rfl (by omega) (fun q7 hq7 e7 => ?_)
                obtain rfl : i = q7 := by omega
                refine v_fa_vw (off' := 0) lay27 rfl rfl rfl ?_
                refine v_load_vw (.c (.v _)) lay2 rfl rfl rfl ?_
                refine v_call (c79 _ _ (by omega)) rfl rfl rfl (.cons vw_sl (.cons vw_v .nil)) ?_
                refine v_assign rfl ?_
                refine v_nil ?_
                refine q_n ?_
                refine w_seq ?_
                refine w_seq ?_
                refine w_reg rfl ?_
                refine v_move rfl ?_
                refine v_lss lay3 rfl rfl (fun h8 => ?_) (fun h8 => ?_)
                · skip
                  refine v_nil ?_
                  refine q_n ?_
                  refine w_t rfl ?_
                  refine w_exit ?_
                  refine q_e ?_
                  refine q_hit ?_
                  refine q_n ?_
                  refine w_reg rfl ?_
                  refine v_move rfl ?_
                  refine v_add lay3 rfl rfl (i64r (by omega)) ?_
                  refine v_assign rfl ?_
                  refine v_nil ?_
                  refine q_n ?_
                  refine ⟨_, _, _, ?_, ⟨i + 1, now, rfl, by omega, by omega, by omega, ?_, rfl, rfl⟩, by omega⟩
                  · exact turn0 ⟨tr_sl, tr_sl, tr_f, tr_f, tr_v, tr_v, tr_v, trivial⟩
                  · rw [← hp, ← inc_skip hq7 (by omega)]
                · skip
                  refine v_nil ?_
                  refine q_n ?_
                  refine w_f rfl ?_
                  refine w_skip ?_
                  refine q_n ?_
                  refine w_seq ?_
                  refine w_reg rfl ?_
                  refine v_move rfl ?_
                  refine v_move rfl ?_
                  refine v_idx (k := 3) te_len lay40 lay27 rfl rfl rfl rfl rfl (by omega) (fun q9 hq9 e9 => ?_)
                  obtain rfl : i = q9 := by omega
                  refine v_fa_vw (off' := 2) lay27 rfl rfl rfl ?_
                  refine v_load_vw (.c (.v _)) lay23 rfl rfl rfl ?_
                  refine v_conv_if lay23 lay22 rfl ?_
                  refine v_assign rfl ?_
                  refine v_nil ?_
                  refine q_n ?_
                  refine w_seq ?_
                  refine w_reg rfl ?_
                  refine v_move rfl ?_
                  refine v_move rfl ?_
                  refine v_move rfl ?_
                  refine v_idx (k := 3) te_len lay40 lay27 rfl rfl rfl rfl rfl (by have hb := fnd_lt (Int.not_lt.1 h8); omega) (fun q10 hq10 e10 => ?_)
                  refine v_fa_vw (off' := 2) lay27 rfl rfl rfl ?_
                  refine v_load_vw (.c (.v _)) lay23 rfl rfl rfl ?_
                  refine v_conv_if lay23 lay22 rfl ?_
                  refine v_bin (c := .f _ _) lay22 rfl rfl rfl ?_
                  refine v_assign rfl ?_
                  refine v_nil ?_
                  refine q_n ?_
                  refine w_seq ?_
                  refine w_seq ?_
                  refine w_reg rfl ?_
                  refine v_move rfl ?_
                  refine v_move rfl ?_
                  refine v_binb lay22 rfl rfl rfl (fun h11 => ?_) (fun h11 => ?_)
                  · skip
                    refine v_move rfl ?_
                    refine v_guard_on rfl rfl ?_
                    refine v_move rfl ?_
                    refine v_guard_on rfl rfl ?_
                    refine v_move rfl ?_
                    refine v_guard_on rfl rfl ?_
                    refine v_move rfl ?_
                    refine v_guard_on rfl rfl ?_
                    refine v_bin (c := .f _ _) lay22 rfl rfl rfl ?_
                    refine v_guard_on rfl rfl ?_
                    refine v_binb lay22 rfl rfl rfl (fun h12 => ?_) (fun h12 => ?_)
                    · skip
                      refine v_pick_t rfl rfl ?_
                      refine v_nil ?_
                      refine q_n ?_
                      refine w_t rfl ?_
                      refine w_reg rfl ?_
                      refine v_move rfl ?_
                      refine v_add lay2 rfl rfl (i64r (by omega)) ?_
                      refine v_assign rfl ?_
                      refine v_nil ?_
                      refine q_n ?_
                      refine w_seq ?_
                      refine w_reg rfl ?_
                      refine v_move rfl ?_
                      refine v_move rfl ?_
                      refine v_eql lay2 rfl rfl (fun h13 => ?_) (fun h13 => ?_)
                      · skip
                        refine v_nil ?_
                        refine q_n ?_
                        refine w_t rfl ?_
                        refine w_seq ?_
                        refine w_reg rfl ?_
                        refine v_move rfl ?_
                        refine v_move rfl ?_
                        refine v_idx (k := 3) te_len lay40 lay27 rfl rfl rfl rfl rfl (by omega) (fun q14 hq14 e14 => ?_)
                        obtain rfl : i = q14 := by omega
                        refine v_fa_vw (off' := 0) lay27 rfl rfl rfl ?_
                        refine v_load_vw (.c (.v _)) lay2 rfl rfl rfl ?_
                        refine v_assign rfl ?_
                        refine v_assign (c := .v (.int .i64 0)) rfl ?_
                        refine v_nil ?_
                        refine q_n ?_
                        refine w_ret (q_br (q_r (q_r (q_br (q_r ?_)))))
                        refine r_r rfl ?_
                        exact a_2 ((fi_0 h1 h2 h3 h4 h5).trans (by rw [← hp, inc_hot hq7 hq10 e10 (and_tt h11 h12), if_pos h13]))
                      · skip
                        refine v_nil ?_
                        refine q_n ?_
                        refine w_f rfl ?_
                        refine w_skip ?_
                        refine q_bn ?_
                        refine q_n ?_
                        refine w_reg rfl ?_
                        refine v_move rfl ?_
                        refine v_add lay3 rfl rfl (i64r (by omega)) ?_
                        refine v_assign rfl ?_
                        refine v_nil ?_
                        refine q_n ?_
                        refine ⟨_, _, _, ?_, ⟨i + 1, now + 1, rfl, by omega, by omega, by omega, ?_, rfl, rfl⟩, by omega⟩
                        · exact turn0 ⟨tr_sl, tr_sl, tr_f, tr_f, tr_v, tr_v, tr_v, trivial⟩
                        · rw [← hp, inc_hot hq7 hq10 e10 (and_tt h11 h12), if_neg h13]
                    · skip
                      refine v_pick_t rfl rfl ?_
                      refine v_nil ?_
                      refine q_n ?_
                      refine w_f rfl ?_
                      refine w_reg rfl ?_
                      refine v_assign (c := .v (.int .i64 0)) rfl ?_
                      refine v_nil ?_
                      refine q_n ?_
                      refine w_seq ?_
                      refine w_reg rfl ?_
                      refine v_move rfl ?_
                      refine v_move rfl ?_
                      refine v_eql lay2 rfl rfl (fun h15 => ?_) (fun h15 => ?_)
                      · skip
                        refine v_nil ?_
                        refine q_n ?_
                        refine w_t rfl ?_
                        refine w_seq ?_
                        refine w_reg rfl ?_
                        refine v_move rfl ?_
                        refine v_move rfl ?_
                        refine v_idx (k := 3) te_len lay40 lay27 rfl rfl rfl rfl rfl (by omega) (fun q16 hq16 e16 => ?_)
                        obtain rfl : i = q16 := by omega
                        refine v_fa_vw (off' := 0) lay27 rfl rfl rfl ?_
                        refine v_load_vw (.c (.v _)) lay2 rfl rfl rfl ?_
                        refine v_assign rfl ?_
                        refine v_assign (c := .v (.int .i64 0)) rfl ?_
                        refine v_nil ?_
                        refine q_n ?_
                        refine w_ret (q_br (q_r (q_r (q_br (q_r ?_)))))
                        refine r_r rfl ?_
                        exact a_2 ((fi_0 h1 h2 h3 h4 h5).trans (by rw [← hp, inc_cold hq7 hq10 e10 (and_f2 h12), if_pos h15]))
                      · skip
                        refine v_nil ?_
                        refine q_n ?_
                        refine w_f rfl ?_
                        refine w_skip ?_
                        refine q_bn ?_
                        refine q_n ?_
                        refine w_reg rfl ?_
                        refine v_move rfl ?_
                        refine v_add lay3 rfl rfl (i64r (by omega)) ?_
                        refine v_assign rfl ?_
                        refine v_nil ?_
                        refine q_n ?_
                        refine ⟨_, _, _, ?_, ⟨i + 1, 0, rfl, by omega, by omega, by omega, ?_, rfl, rfl⟩, by omega⟩
                        · exact turn0 ⟨tr_sl, tr_sl, tr_f, tr_f, tr_v, tr_v, tr_v, trivial⟩
                        · rw [← hp, inc_cold hq7 hq10 e10 (and_f2 h12), if_neg h15]
                  · skip
                    refine v_move rfl ?_
                    refine v_guard_off rfl rfl rfl ?_
                    refine v_guard_off rfl rfl rfl ?_
                    refine v_guard_off rfl rfl rfl ?_
                    refine v_guard_off rfl rfl rfl ?_
                    refine v_guard_off rfl rfl rfl ?_
                    refine v_pick_f (v := .v (.bool false)) rfl rfl ?_
                    refine v_nil ?_
                    refine q_n ?_
                    refine w_f rfl ?_
                    refine w_reg rfl ?_
                    refine v_assign (c := .v (.int .i64 0)) rfl ?_
                    refine v_nil ?_
                    refine q_n ?_
                    refine w_seq ?_
                    refine w_reg rfl ?_
                    refine v_move rfl ?_
                    refine v_move rfl ?_
                    refine v_eql lay2 rfl rfl (fun h17 => ?_) (fun h17 => ?_)
                    · skip
                      refine v_nil ?_
                      refine q_n ?_
                      refine w_t rfl ?_
                      refine w_seq ?_
                      refine w_reg rfl ?_
                      refine v_move rfl ?_
                      refine v_move rfl ?_
                      refine v_idx (k := 3) te_len lay40 lay27 rfl rfl rfl rfl rfl (by omega) (fun q18 hq18 e18 => ?_)
                      obtain rfl : i = q18 := by omega
                      refine v_fa_vw (off' := 0) lay27 rfl rfl rfl ?_
                      refine v_load_vw (.c (.v _)) lay2 rfl rfl rfl ?_
                      refine v_assign rfl ?_
                      refine v_assign (c := .v (.int .i64 0)) rfl ?_
                      refine v_nil ?_
                      refine q_n ?_
                      refine w_ret (q_br (q_r (q_r (q_br (q_r ?_)))))
                      refine r_r rfl ?_
                      exact a_2 ((fi_0 h1 h2 h3 h4 h5).trans (by rw [← hp, inc_cold hq7 hq10 e10 (and_f1 h11), if_pos h17]))
                    · skip
                      refine v_nil ?_
                      refine q_n ?_
                      refine w_f rfl ?_
                      refine w_skip ?_
                      refine q_bn ?_
                      refine q_n ?_
                      refine w_reg rfl ?_
                      refine v_move rfl ?_
                      refine v_add lay3 rfl rfl (i64r (by omega)) ?_
                      refine v_assign rfl ?_
                      refine v_nil ?_
                      refine q_n ?_
                      refine ⟨_, _, _, ?_, ⟨i + 1, 0, rfl, by omega, by omega, by omega, ?_, rfl, rfl⟩, by omega⟩
                      · exact turn0 ⟨tr_sl, tr_sl, tr_f, tr_f, tr_v, tr_v, tr_v, trivial⟩
                      · rw [← hp, inc_cold hq7 hq10 e10 (and_f1 h11), if_neg h17]
              · skip
                refine v_nil ?_
                refine q_n ?_
                refine w_f rfl ?_
                refine w_exit ?_
                refine q_e ?_
                refine q_e ?_
                refine q_hit ?_
                refine q_n ?_
                refine w_seq ?_
                refine w_reg rfl ?_
                refine v_assign (c := .v (.int .i64 0)) rfl ?_
                refine v_assign (c := .v (.int .i64 6)) rfl ?_
                refine v_nil ?_
                refine q_n ?_
                refine w_ret ?_
                refine r_r rfl ?_
                obtain rfl : i = xs.length := by omega
                rw [List.drop_length] at hp
                exact a_2 ((fi_0 h1 h2 h3 h4 h5).trans hp.symm)
          · skip
            refine v_guard_on rfl rfl ?_
            refine v_not true rfl rfl ?_
            refine v_pick_f rfl rfl ?_
            refine v_nil ?_
            refine q_n ?_
            refine w_t rfl ?_
            refine w_seq ?_
            refine w_reg rfl ?_
            refine v_assign (c := .v (.int .i64 0)) rfl ?_
            refine v_assign (c := .v (.int .i64 2)) rfl ?_
            refine v_nil ?_
            refine q_n ?_
            refine w_ret (q_r ?_)
            refine r_r rfl ?_
            exact a_2 (fi_2 h1 h2 fun h => h5 h.2.2)
        · skip
          refine v_guard_on rfl rfl ?_
          refine v_not true rfl rfl ?_
          refine v_pick_f rfl rfl ?_
          refine v_move rfl ?_
          refine v_guard_off rfl rfl rfl ?_
          refine v_guard_off rfl rfl rfl ?_
          refine v_guard_off rfl rfl rfl ?_
          refine v_pick_t (v := .v (.bool true)) rfl rfl ?_
          refine v_nil ?_
          refine q_n ?_
          refine w_t rfl ?_
          refine w_seq ?_
          refine w_reg rfl ?_
          refine v_assign (c := .v (.int .i64 0)) rfl ?_
          refine v_assign (c := .v (.int .i64 2)) rfl ?_
          refine v_nil ?_
          refine q_n ?_
          refine w_ret (q_r ?_)
          refine r_r rfl ?_
          exact a_2 (fi_2 h1 h2 fun h => h4 h.2.1)
      · skip
        refine v_not true rfl rfl ?_
        refine v_move rfl ?_
        refine v_guard_off rfl rfl rfl ?_
        refine v_guard_off rfl rfl rfl ?_
        refine v_guard_off rfl rfl rfl ?_
        refine v_pick_t (v := .v (.bool true)) rfl rfl ?_
        refine v_move rfl ?_
        refine v_guard_off rfl rfl rfl ?_
        refine v_guard_off rfl rfl rfl ?_
        refine v_guard_off rfl rfl rfl ?_
        refine v_pick_t (v := .v (.bool true)) rfl rfl ?_
        refine v_nil ?_
        refine q_n ?_
        refine w_t rfl ?_
        refine w_seq ?_
        refine w_reg rfl ?_
        refine v_assign (c := .v (.int .i64 0)) rfl ?_
        refine v_assign (c := .v (.int .i64 2)) rfl ?_
        refine v_nil ?_
        refine q_n ?_
        refine w_ret (q_r ?_)
        refine r_r rfl ?_
        exact a_2 (fi_2 h1 h2 fun h => h3 h.1)
    · skip
      refine v_guard_on rfl rfl ?_
      refine v_not true rfl rfl ?_
      refine v_pick_f rfl rfl ?_
      refine v_nil ?_
      refine q_n ?_
      refine w_t rfl ?_
      refine w_seq ?_
      refine w_reg rfl ?_
      refine v_assign (c := .v (.int .i64 0)) rfl ?_
      refine v_assign (c := .v (.int .i64 1)) rfl ?_
      refine v_nil ?_
      refine q_n ?_
      refine w_ret (q_r ?_)
      refine r_r rfl ?_
      exact a_2 (fi_1 fun h => h2 h.2)
  · skip
    refine v_not true rfl rfl ?_
    refine v_move rfl ?_
    refine v_guard_off rfl rfl rfl ?_
    refine v_guard_off rfl rfl rfl ?_
    refine v_guard_off rfl rfl rfl ?_
    refine v_pick_t (v := .v (.bool true)) rfl rfl ?_
    refine v_nil ?_
    refine q_n ?_
    refine w_t rfl ?_
    refine w_seq ?_
    refine w_reg rfl ?_
    refine v_assign (c := .v (.int .i64 0)) rfl ?_
    refine v_assign (c := .v (.int .i64 1)) rfl ?_
    refine v_nil ?_
    refine q_n ?_
    refine w_ret (q_r ?_)
    refine r_r rfl ?_
    exact a_2 (fi_1 fun h => h1 h.1)

theorem c35 (xs ys : List Tal) (most share : Option Nat) (times : Int) (hx : xs.length ≤ 2 ^ 40) (hy : ys.length ≤ 2 ^ 40) (hb : T16 xs) (hb2 : T16 ys) (hm : Sg most) (hsh : Sg share) : PureC X 35 [.c (tals false xs), .c (tals false ys), .c (.f .f32 most), .c (.f .f32 share), cI times] (.tup [cI (fiR xs ys most share times).1, cI (fiR xs ys most share times).2]) := by
  refine PureC.of_body (drawD_ok X) (fun _ _ => Go.Proofs.Try.call35 _ _) Go.Proofs.Try.func35 rfl (n := 92) rfl ?_
  refine w_seq ?_
  refine w_reg rfl ?_
  refine v_assign (c := .v (.int .i64 0)) rfl ?_
  refine v_assign (c := .v (.int .i64 0)) rfl ?_
  refine v_nil ?_
  refine q_n ?_
  refine w_seq ?_
  refine w_seq ?_
  refine w_reg rfl ?_
  refine v_move rfl ?_
  refine v_callb (c58 _ (by omega) (by assumption)) rfl rfl (.cons vw_sl .nil) (fun h1 => ?_) (fun h1 => ?_)
  · skip
    refine v_not false rfl rfl ?_
    refine v_move rfl ?_
    refine v_guard_on rfl rfl ?_
    refine v_move rfl ?_
    refine v_guard_on rfl rfl ?_
    refine v_callb (c58 _ (by omega) (by assumption)) rfl rfl (.cons vw_sl .nil) (fun h2 => ?_) (fun h2 => ?_)
    · skip
      refine v_guard_on rfl rfl ?_
      refine v_not false rfl rfl ?_
      refine v_pick_f rfl rfl ?_
      refine v_call (c65 _ _) rfl rfl rfl (.cons vw_v (.cons vw_v .nil)) ?_
      refine v_move rfl ?_
      refine v_callb (c80 _ (by assumption)) rfl rfl (.cons vw_f .nil) (fun h3 => ?_) (fun h3 => ?_)
      · skip
        refine v_not false rfl rfl ?_
        refine v_move rfl ?_
        refine v_guard_on rfl rfl ?_
        refine v_move rfl ?_
        refine v_guard_on rfl rfl ?_
        refine v_callb (c73 _ (by assumption)) rfl rfl (.cons vw_f .nil) (fun h4 => ?_) (fun h4 => ?_)
        · skip
          refine v_guard_on rfl rfl ?_
          refine v_not false rfl rfl ?_
          refine v_pick_f rfl rfl ?_
          refine v_move rfl ?_
          refine v_guard_on rfl rfl ?_
          refine v_move rfl ?_
          refine v_guard_on rfl rfl ?_
          refine v_callb (c81 _) rfl rfl (.cons vw_v .nil) (fun h5 => ?_) (fun h5 => ?_)
          · skip
            refine v_guard_on rfl rfl ?_
            refine v_not false rfl rfl ?_
            refine v_pick_f rfl rfl ?_
            refine v_call (c65 _ _) rfl rfl rfl (.cons vw_v (.cons vw_v .nil)) ?_
            refine v_lit (flat int [_, _]) (H' := [_]) lay118 lay2 rfl rfl ⟨by decide, by decide⟩ rfl rfl ?_
            refine v_call (c64 [_, _] (Nat.le_of_ble_eq_true rfl)) rfl rfl rfl (.cons (vw_mu int_sc int_len rfl rfl) .nil) ?_
            refine v_assign rfl ?_
            refine v_nil ?_
            refine q_n ?_
            refine w_seq ?_
            refine w_reg rfl ?_
            refine v_move rfl ?_
            refine v_neq lay2 rfl rfl (fun h6 => ?_) (fun h6 => ?_)
            · skip
              exact absurd (by decide) h6
            · skip
              refine v_nil ?_
              refine q_n ?_
              refine w_f rfl ?_
              refine w_skip ?_
              refine q_n ?_
              refine w_seq ?_
              refine w_reg rfl ?_
              refine v_assign (c := .v (.int .i64 0)) rfl ?_
              refine v_nil ?_
              refine q_n ?_
              refine w_seq ?_
              refine w_seq ?_
              refine w_reg rfl ?_
              refine v_move rfl ?_
              refine v_len_sl lay40 rfl ?_
              refine v_move (c := .v (.int .i64 0)) rfl ?_
              refine v_nil ?_
              refine q_n ?_
              refine w_block ?_
              refine w_loop (fun k sl H => ∃ (i : Nat) (now : Int), k = xs.length - i ∧ i ≤ xs.length ∧ 0 ≤ now ∧ now ≤ i ∧ inc most share times ys (xs.drop i) now = inc most share times ys xs 0 ∧ sl = sls [(0, .c (tals false xs)), (1, .c (tals false ys)), (2, .c (.f .f32 most)), (3, .c (.f .f32 share)), (4, cI times), (13, cI now), (48, .c (tals false xs)), (49, cI xs.length), (50, cI i)] ∧ H = []) ?_ ?_
              · refine ⟨_, _, _, ?_, 0, 0, rfl, Nat.zero_le _, by omega, by omega, by rw [List.drop_zero], rfl, rfl⟩
                exact turn0 ⟨tr_sl, tr_sl, tr_f, tr_f, tr_v, tr_v, tr_sl, tr_v, tr_v, trivial⟩
              · rintro k sl H ⟨i, now, rfl, hi, hn0, hn1, hp, rfl, rfl⟩
                refine w_seq ?_
                refine w_reg rfl ?_
                refine v_lss lay3 rfl rfl (fun h7 => ?_) (fun h7 => ?_)
                · skip
                  refine v_nil ?_
                  refine q_n ?_
                  refine w_seq ?_
                  refine w_t rfl ?_
                  refine w_skip ?_
                  refine q_n ?_
                  refine w_seq ?_
                  refine w_block ?_
                  refine w_seq ?_
                  refine w_reg rfl ?_
                  refine v_idx (k := 3) te_len lay40 lay27 rfl rfl rfl rfl rfl (by omega) (fun q8 hq8 e8 => ?_)
                  obtain rfl : i = q8 := by omega
                  refine v_load_vw (.agg [.v _, .v _, .v _]) lay27 rfl rfl rfl ?_
                  refine v_alloc (m := 0) (H' := [⟨[.v _, .v _, .v _], 27, true⟩]) lay27 rfl rfl ?_
                  refine v_store (H' := [⟨[_, _, _], 27, true⟩]) lay27 rfl rfl rfl rfl rfl rfl ?_
                  refine v_nil ?_
                  refine q_n ?_
                  refine w_seq ?_
                  refine w_reg rfl ?_
                  refine v_move rfl ?_
                  refine v_fa_pt (off' := 0) lay27 rfl rfl rfl ?_
                  refine v_load_pt (.c _) lay2 rfl rfl rfl rfl ?_
                  refine dec_split (p := 0 ≤ fnd ys xs[i].1) (fun h9 => ?_) (fun h9 => ?_)
                  · refine v_call (c82t _ _ hy (srt_of h2) h9) rfl rfl rfl (.cons vw_sl (.cons vw_v .nil)) ?_
                    refine v_move_t rfl ?_
                    refine v_extract_c rfl rfl ?_
                    refine v_extract_c rfl rfl ?_
                    refine v_assign rfl ?_
                    refine v_assign rfl ?_
                    refine v_nil ?_
                    refine q_n ?_
                    refine w_seq ?_
                    refine w_seq ?_
                    refine w_reg rfl ?_
                    refine v_move rfl ?_
                    refine v_not false rfl rfl ?_
                    refine v_nil ?_
                    refine q_n ?_
                    refine w_f rfl ?_
                    refine w_skip ?_
                    refine q_n ?_
                    refine w_seq ?_
                    refine w_reg rfl ?_
                    refine v_fa_pt (off' := 2) lay27 rfl rfl rfl ?_
                    refine v_load_pt (.c _) lay23 rfl rfl rfl rfl ?_
                    refine v_conv_if lay23 lay22 rfl ?_
                    refine v_assign rfl ?_
                    refine v_nil ?_
                    refine q_n ?_
                    refine w_seq ?_
                    refine w_seq ?_
                    refine w_reg rfl ?_
                    refine v_move rfl ?_
                    refine v_move rfl ?_
                    refine v_move rfl ?_
                    refine v_idx (k := 3) te_len lay40 lay27 rfl rfl rfl rfl rfl (by have hb := fnd_lt h9; omega) (fun q10 hq10 e10 => ?_)
                    refine v_fa_vw (off' := 2) lay27 rfl rfl rfl ?_
                    refine v_load_vw (.c (.v _)) lay23 rfl rfl rfl ?_
                    refine v_conv_if lay23 lay22 rfl ?_
                    refine v_bin (c := .f _ _) lay22 rfl rfl rfl ?_
                    refine v_assign rfl ?_
                    refine v_nil ?_
                    refine q_n ?_
                    refine w_seq ?_
                    refine w_reg rfl ?_
                    refine v_move rfl ?_
                    refine v_move rfl ?_
                    refine v_binb lay22 rfl rfl rfl (fun h11 => ?_) (fun h11 => ?_)
                    · skip
                      refine v_move rfl ?_
                      refine v_guard_on rfl rfl ?_
                      refine v_move rfl ?_
                      refine v_guard_on rfl rfl ?_
                      refine v_move rfl ?_
                      refine v_guard_on rfl rfl ?_
                      refine v_move rfl ?_
                      refine v_guard_on rfl rfl ?_
                      refine v_bin (c := .f _ _) lay22 rfl rfl rfl ?_
                      refine v_guard_on rfl rfl ?_
                      refine v_binb lay22 rfl rfl rfl (fun h12 => ?_) (fun h12 => ?_)
                      · skip
                        refine v_pick_t rfl rfl ?_
                        refine v_nil ?_
                        refine q_n ?_
                        refine w_t rfl ?_
                        refine w_reg rfl ?_
                        refine v_move rfl ?_
                        refine v_add lay2 rfl rfl (i64r (by omega)) ?_
                        refine v_assign rfl ?_
                        refine v_nil ?_
                        refine q_n ?_
                        refine w_seq ?_
                        refine w_reg rfl ?_
                        refine v_move rfl ?_
                        refine v_move rfl ?_
                        refine v_eql lay2 rfl rfl (fun h13 => ?_) (fun h13 => ?_)
                        · skip
                          refine v_nil ?_
                          refine q_n ?_
                          refine w_t rfl ?_
                          refine w_seq ?_
                          refine w_reg rfl ?_
                          refine v_fa_pt (off' := 0) lay27 rfl rfl rfl ?_
                          refine v_load_pt (.c _) lay2 rfl rfl rfl rfl ?_
                          refine v_assign rfl ?_
                          refine v_assign (c := .v (.int .i64 0)) rfl ?_
                          refine v_nil ?_
                          refine q_n ?_
                          refine w_ret (q_br (q_r (q_r (q_br (q_r ?_)))))
                          refine r_r rfl ?_
                          exact a_2 ((fi_0 h1 h2 h3 h4 h5).trans (by rw [← hp, inc_hot hq8 hq10 e10 (and_tt h11 h12), if_pos h13]))
                        · skip
                          refine v_nil ?_
                          refine q_n ?_
                          refine w_f rfl ?_
                          refine w_skip ?_
                          refine q_bn ?_
                          refine q_n ?_
                          refine w_reg rfl ?_
                          refine v_add lay3 rfl rfl (i64r (by omega)) ?_
                          refine v_move rfl ?_
                          refine v_nil ?_
                          refine q_n ?_
                          refine ⟨_, _, _, ?_, ⟨i + 1, now + 1, rfl, by omega, by omega, by omega, ?_, rfl, rfl⟩, by omega⟩
                          · exact turn0 ⟨tr_sl, tr_sl, tr_f, tr_f, tr_v, tr_v, tr_sl, tr_v, tr_v, trivial⟩
                          · rw [← hp, inc_hot hq8 hq10 e10 (and_tt h11 h12), if_neg h13]
                      · skip
                        refine v_pick_t rfl rfl ?_
                        refine v_nil ?_
                        refine q_n ?_
                        refine w_f rfl ?_
                        refine w_reg rfl ?_
                        refine v_assign (c := .v (.int .i64 0)) rfl ?_
                        refine v_nil ?_
                        refine q_n ?_
                        refine w_seq ?_
                        refine w_reg rfl ?_
                        refine v_move rfl ?_
                        refine v_move rfl ?_
                        refine v_eql lay2 rfl rfl (fun h14 => ?_) (fun h14 => ?_)
                        · skip
                          refine v_nil ?_
                          refine q_n ?_
                          refine w_t rfl ?_
                          refine w_seq ?_
                          refine w_reg rfl ?_
                          refine v_fa_pt (off' := 0) lay27 rfl rfl rfl ?_
                          refine v_load_pt (.c _) lay2 rfl rfl rfl rfl ?_
                          refine v_assign rfl ?_
                          refine v_assign (c := .v (.int .i64 0)) rfl ?_
                          refine v_nil ?_
                          refine q_n ?_
                          refine w_ret (q_br (q_r (q_r (q_br (q_r ?_)))))
                          refine r_r rfl ?_
                          exact a_2 ((fi_0 h1 h2 h3 h4 h5).trans (by rw [← hp, inc_cold hq8 hq10 e10 (and_f2 h12), if_pos h14]))
                        · skip
                          refine v_nil ?_
                          refine q_n ?_
                          refine w_f rfl ?_
                          refine w_skip ?_
                          refine q_bn ?_
                          refine q_n ?_
                          refine w_reg rfl ?_
                          refine v_add lay3 rfl rfl (i64r (by omega)) ?_
                          refine v_move rfl ?_
                          refine v_nil ?_
                          refine q_n ?_
                          refine ⟨_, _, _, ?_, ⟨i + 1, 0, rfl, by omega, by omega, by omega, ?_, rfl, rfl⟩, by omega⟩
                          · exact turn0 ⟨tr_sl, tr_sl, tr_f, tr_f, tr_v, tr_v, tr_sl, tr_v, tr_v, trivial⟩
                          · rw [← hp, inc_cold hq8 hq10 e10 (and_f2 h12), if_neg h14]
                    · skip
                      refine v_move rfl ?_
                      refine v_guard_off rfl rfl rfl ?_
                      refine v_guard_off rfl rfl rfl ?_
                      refine v_guard_off rfl rfl rfl ?_
                      refine v_guard_off rfl rfl rfl ?_
                      refine v_guard_off rfl rfl rfl ?_
                      refine v_pick_f (v := .v (.bool false)) rfl rfl ?_
                      refine v_nil ?_
                      refine q_n ?_
                      refine w_f rfl ?_
                      refine w_reg rfl ?_
                      refine v_assign (c := .v (.int .i64 0)) rfl ?_
                      refine v_nil ?_
                      refine q_n ?_
                      refine w_seq ?_
                      refine w_reg rfl ?_
                      refine v_move rfl ?_
                      refine v_move rfl ?_
                      refine v_eql lay2 rfl rfl (fun h15 => ?_) (fun h15 => ?_)
                      · skip
                        refine v_nil ?_
                        refine q_n ?_
                        refine w_t rfl ?_
                        refine w_seq ?_
                        refine w_reg rfl ?_
                        refine v_fa_pt (off' := 0) lay27 rfl rfl rfl ?_
                        refine v_load_pt (.c _) lay2 rfl rfl rfl rfl ?_
                        refine v_assign rfl ?_
                        refine v_assign (c := .v (.int .i64 0)) rfl ?_
                        refine v_nil ?_
                        refine q_n ?_
                        refine w_ret (q_br (q_r (q_r (q_br (q_r ?_)))))
                        refine r_r rfl ?_
                        exact a_2 ((fi_0 h1 h2 h3 h4 h5).trans (by rw [← hp, inc_cold hq8 hq10 e10 (and_f1 h11), if_pos h15]))
                      · skip
                        refine v_nil ?_
                        refine q_n ?_
                        refine w_f rfl ?_
                        refine w_skip ?_
                        refine q_bn ?_
                        refine q_n ?_
                        refine w_reg rfl ?_
                        refine v_add lay3 rfl rfl (i64r (by omega)) ?_
                        refine v_move rfl ?_
                        refine v_nil ?_
                        refine q_n ?_
                        refine ⟨_, _, _, ?_, ⟨i + 1, 0, rfl, by omega, by omega, by omega, ?_, rfl, rfl⟩, by omega⟩
                        · exact turn0 ⟨tr_sl, tr_sl, tr_f, tr_f, tr_v, tr_v, tr_sl, tr_v, tr_v, trivial⟩
                        · rw [← hp, inc_cold hq8 hq10 e10 (and_f1 h11), if_neg h15]
                  · refine v_call (c82f _ _ hy (srt_of h2) h9) rfl rfl rfl (.cons vw_sl (.cons vw_v .nil)) ?_
                    refine v_move_t rfl ?_
                    refine v_extract_c rfl rfl ?_
                    refine v_extract_c rfl rfl ?_
                    refine v_assign rfl ?_
                    refine v_assign rfl ?_
                    refine v_nil ?_
                    refine q_n ?_
                    refine w_seq ?_
                    refine w_seq ?_
                    refine w_reg rfl ?_
                    refine v_move rfl ?_
                    refine v_not true rfl rfl ?_
                    refine v_nil ?_
                    refine q_n ?_
                    refine w_t rfl ?_
                    refine w_exit ?_
                    refine q_e ?_
                    refine q_hit ?_
                    refine q_n ?_
                    refine w_reg rfl ?_
                    refine v_add lay3 rfl rfl (i64r (by omega)) ?_
                    refine v_move rfl ?_
                    refine v_nil ?_
                    refine q_n ?_
                    refine ⟨_, _, _, ?_, ⟨i + 1, now, rfl, by omega, by omega, by omega, ?_, rfl, rfl⟩, by omega⟩
                    · exact turn0 ⟨tr_sl, tr_sl, tr_f, tr_f, tr_v, tr_v, tr_sl, tr_v, tr_v, trivial⟩
                    · rw [← hp, ← inc_skip hq8 h9]
                · skip
                  refine v_nil ?_
                  refine q_n ?_
                  refine w_seq ?_
                  refine w_f rfl ?_
                  refine w_exit ?_
                  refine q_e ?_
                  refine q_e ?_
                  refine q_hit ?_
                  refine q_n ?_
                  refine w_seq ?_
                  refine w_reg rfl ?_
                  refine v_assign (c := .v (.int .i64 0)) rfl ?_
                  refine v_assign (c := .v (.int .i64 6)) rfl ?_
                  refine v_nil ?_
                  refine q_n ?_
                  refine w_ret ?_
                  refine r_r rfl ?_
                  obtain rfl : i = xs.length := by omega
                  rw [List.drop_length] at hp
                  exact a_2 ((fi_0 h1 h2 h3 h4 h5).trans hp.symm)
          · skip
            refine v_guard_on rfl rfl ?_
            refine v_not true rfl rfl ?_
            refine v_pick_f rfl rfl ?_
            refine v_call (c65 _ _) rfl rfl rfl (.cons vw_v (.cons vw_v .nil)) ?_
            refine v_lit (flat int [_, _]) (H' := [_]) lay118 lay2 rfl rfl ⟨by decide, by decide⟩ rfl rfl ?_
            refine v_call (c64 [_, _] (Nat.le_of_ble_eq_true rfl)) rfl rfl rfl (.cons (vw_mu int_sc int_len rfl rfl) .nil) ?_
            refine v_assign rfl ?_
            refine v_nil ?_
            refine q_n ?_
            refine w_seq ?_
            refine w_reg rfl ?_
            refine v_move rfl ?_
            refine v_neq lay2 rfl rfl (fun h16 => ?_) (fun h16 => ?_)
            · skip
              refine v_nil ?_
              refine q_n ?_
              refine w_t rfl ?_
              refine w_seq ?_
              refine w_reg rfl ?_
              refine v_move rfl ?_
              refine v_assign (c := .v (.int .i64 0)) rfl ?_
              refine v_assign rfl ?_
              refine v_nil ?_
              refine q_n ?_
              refine w_ret (q_r ?_)
              refine r_r rfl ?_
              exact a_2 (fi_2 h1 h2 fun h => h5 h.2.2)
            · skip
              exact absurd h16 (by decide)
        · skip
          refine v_guard_on rfl rfl ?_
          refine v_not true rfl rfl ?_
          refine v_pick_f rfl rfl ?_
          refine v_move rfl ?_
          refine v_guard_off rfl rfl rfl ?_
          refine v_guard_off rfl rfl rfl ?_
          refine v_guard_off rfl rfl rfl ?_
          refine v_pick_t (v := .v (.bool true)) rfl rfl ?_
          refine v_call (c65 _ _) rfl rfl rfl (.cons vw_v (.cons vw_v .nil)) ?_
          refine v_lit (flat int [_, _]) (H' := [_]) lay118 lay2 rfl rfl ⟨by decide, by decide⟩ rfl rfl ?_
          refine v_call (c64 [_, _] (Nat.le_of_ble_eq_true rfl)) rfl rfl rfl (.cons (vw_mu int_sc int_len rfl rfl) .nil) ?_
          refine v_assign rfl ?_
          refine v_nil ?_
          refine q_n ?_
          refine w_seq ?_
          refine w_reg rfl ?_
          refine v_move rfl ?_
          refine v_neq lay2 rfl rfl (fun h17 => ?_) (fun h17 => ?_)
          · skip
            refine v_nil ?_
            refine q_n ?_
            refine w_t rfl ?_
            refine w_seq ?_
            refine w_reg rfl ?_
            refine v_move rfl ?_
            refine v_assign (c := .v (.int .i64 0)) rfl ?_
            refine v_assign rfl ?_
            refine v_nil ?_
            refine q_n ?_
            refine w_ret (q_r ?_)
            refine r_r rfl ?_
            exact a_2 (fi_2 h1 h2 fun h => h4 h.2.1)
          · skip
            exact absurd h17 (by decide)
      · skip
        refine v_not true rfl rfl ?_
        refine v_move rfl ?_
        refine v_guard_off rfl rfl rfl ?_
        refine v_guard_off rfl rfl rfl ?_
        refine v_guard_off rfl rfl rfl ?_
        refine v_pick_t (v := .v (.bool true)) rfl rfl ?_
        refine v_move rfl ?_
        refine v_guard_off rfl rfl rfl ?_
        refine v_guard_off rfl rfl rfl ?_
        refine v_guard_off rfl rfl rfl ?_
        refine v_pick_t (v := .v (.bool true)) rfl rfl ?_
        refine v_call (c65 _ _) rfl rfl rfl (.cons vw_v (.cons vw_v .nil)) ?_
        refine v_lit (flat int [_, _]) (H' := [_]) lay118 lay2 rfl rfl ⟨by decide, by decide⟩ rfl rfl ?_
        refine v_call (c64 [_, _] (Nat.le_of_ble_eq_true rfl)) rfl rfl rfl (.cons (vw_mu int_sc int_len rfl rfl) .nil) ?_
        refine v_assign rfl ?_
        refine v_nil ?_
        refine q_n ?_
        refine w_seq ?_
        refine w_reg rfl ?_
        refine v_move rfl ?_
        refine v_neq lay2 rfl rfl (fun h18 => ?_) (fun h18 => ?_)
        · skip
          refine v_nil ?_
          refine q_n ?_
          refine w_t rfl ?_
          refine w_seq ?_
          refine w_reg rfl ?_
          refine v_move rfl ?_
          refine v_assign (c := .v (.int .i64 0)) rfl ?_
          refine v_assign rfl ?_
          refine v_nil ?_
          refine q_n ?_
          refine w_ret (q_r ?_)
          refine r_r rfl ?_
          exact a_2 (fi_2 h1 h2 fun h => h3 h.1)
        · skip
          exact absurd h18 (by decide)
    · skip
      refine v_guard_on rfl rfl ?_
      refine v_not true rfl rfl ?_
      refine v_pick_f rfl rfl ?_
      refine v_call (c65 _ _) rfl rfl rfl (.cons vw_v (.cons vw_v .nil)) ?_
      refine v_move rfl ?_
      refine v_callb (c80 _ (by assumption)) rfl rfl (.cons vw_f .nil) (fun h19 => ?_) (fun h19 => ?_)
      · skip
        refine v_not false rfl rfl ?_
        refine v_move rfl ?_
        refine v_guard_on rfl rfl ?_
        refine v_move rfl ?_
        refine v_guard_on rfl rfl ?_
        refine v_callb (c73 _ (by assumption)) rfl rfl (.cons vw_f .nil) (fun h20 => ?_) (fun h20 => ?_)
        · skip
          refine v_guard_on rfl rfl ?_
          refine v_not false rfl rfl ?_
          refine v_pick_f rfl rfl ?_
          refine v_move rfl ?_
          refine v_guard_on rfl rfl ?_
          refine v_move rfl ?_
          refine v_guard_on rfl rfl ?_
          refine v_callb (c81 _) rfl rfl (.cons vw_v .nil) (fun h21 => ?_) (fun h21 => ?_)
          · skip
            refine v_guard_on rfl rfl ?_
            refine v_not false rfl rfl ?_
            refine v_pick_f rfl rfl ?_
            refine v_call (c65 _ _) rfl rfl rfl (.cons vw_v (.cons vw_v .nil)) ?_
            refine v_lit (flat int [_, _]) (H' := [_]) lay118 lay2 rfl rfl ⟨by decide, by decide⟩ rfl rfl ?_
            refine v_call (c64 [_, _] (Nat.le_of_ble_eq_true rfl)) rfl rfl rfl (.cons (vw_mu int_sc int_len rfl rfl) .nil) ?_
            refine v_assign rfl ?_
            refine v_nil ?_
            refine q_n ?_
            refine w_seq ?_
            refine w_reg rfl ?_
            refine v_move rfl ?_
            refine v_neq lay2 rfl rfl (fun h22 => ?_) (fun h22 => ?_)
            · skip
              refine v_nil ?_
              refine q_n ?_
              refine w_t rfl ?_
              refine w_seq ?_
              refine w_reg rfl ?_
              refine v_move rfl ?_
              refine v_assign (c := .v (.int .i64 0)) rfl ?_
              refine v_assign rfl ?_
              refine v_nil ?_
              refine q_n ?_
              refine w_ret (q_r ?_)
              refine r_r rfl ?_
              exact a_2 (fi_1 fun h => h2 h.2)
            · skip
              exact absurd h22 (by decide)
          · skip
            refine v_guard_on rfl rfl ?_
            refine v_not true rfl rfl ?_
            refine v_pick_f rfl rfl ?_
            refine v_call (c65 _ _) rfl rfl rfl (.cons vw_v (.cons vw_v .nil)) ?_
            refine v_lit (flat int [_, _]) (H' := [_]) lay118 lay2 rfl rfl ⟨by decide, by decide⟩ rfl rfl ?_
            refine v_call (c64 [_, _] (Nat.le_of_ble_eq_true rfl)) rfl rfl rfl (.cons (vw_mu int_sc int_len rfl rfl) .nil) ?_
            refine v_assign rfl ?_
            refine v_nil ?_
            refine q_n ?_
            refine w_seq ?_
            refine w_reg rfl ?_
            refine v_move rfl ?_
            refine v_neq lay2 rfl rfl (fun h23 => ?_) (fun h23 => ?_)
            · skip
              refine v_nil ?_
              refine q_n ?_
              refine w_t rfl ?_
              refine w_seq ?_
              refine w_reg rfl ?_
              refine v_move rfl ?_
              refine v_assign (c := .v (.int .i64 0)) rfl ?_
              refine v_assign rfl ?_
              refine v_nil ?_
              refine q_n ?_
              refine w_ret (q_r ?_)
              refine r_r rfl ?_
              exact a_2 (fi_1 fun h => h2 h.2)
            · skip
              exact absurd h23 (by decide)
        · skip
          refine v_guard_on rfl rfl ?_
          refine v_not true rfl rfl ?_
          refine v_pick_f rfl rfl ?_
          refine v_move rfl ?_
          refine v_guard_off rfl rfl rfl ?_
          refine v_guard_off rfl rfl rfl ?_
          refine v_guard_off rfl rfl rfl ?_
          refine v_pick_t (v := .v (.bool true)) rfl rfl ?_
          refine v_call (c65 _ _) rfl rfl rfl (.cons vw_v (.cons vw_v .nil)) ?_
          refine v_lit (flat int [_, _]) (H' := [_]) lay118 lay2 rfl rfl ⟨by decide, by decide⟩ rfl rfl ?_
          refine v_call (c64 [_, _] (Nat.le_of_ble_eq_true rfl)) rfl rfl rfl (.cons (vw_mu int_sc int_len rfl rfl) .nil) ?_
          refine v_assign rfl ?_
          refine v_nil ?_
          refine q_n ?_
          refine w_seq ?_
          refine w_reg rfl ?_
          refine v_move rfl ?_
          refine v_neq lay2 rfl rfl (fun h24 => ?_) (fun h24 => ?_)
          · skip
            refine v_nil ?_
            refine q_n ?_
            refine w_t rfl ?_
            refine w_seq ?_
            refine w_reg rfl ?_
            refine v_move rfl ?_
            refine v_assign (c := .v (.int .i64 0)) rfl ?_
            refine v_assign rfl ?_
            refine v_nil ?_
            refine q_n ?_
            refine w_ret (q_r ?_)
            refine r_r rfl ?_
            exact a_2 (fi_1 fun h => h2 h.2)
          · skip
            exact absurd h24 (by decide)
      · skip
        refine v_not true rfl rfl ?_
        refine v_move rfl ?_
        refine v_guard_off rfl rfl rfl ?_
        refine v_guard_off rfl rfl rfl ?_
        refine v_guard_off rfl rfl rfl ?_
        refine v_pick_t (v := .v (.bool true)) rfl rfl ?_
        refine v_move rfl ?_
        refine v_guard_off rfl rfl rfl ?_
        refine v_guard_off rfl rfl rfl ?_
        refine v_guard_off rfl rfl rfl ?_
        refine v_pick_t (v := .v (.bool true)) rfl rfl ?_
        refine v_call (c65 _ _) rfl rfl rfl (.cons vw_v (.cons vw_v .nil)) ?_
        refine v_lit (flat int [_, _]) (H' := [_]) lay118 lay2 rfl rfl ⟨by decide, by decide⟩ rfl rfl ?_
        refine v_call (c64 [_, _] (Nat.le_of_ble_eq_true rfl)) rfl rfl rfl (.cons (vw_mu int_sc int_len rfl rfl) .nil) ?_
        refine v_assign rfl ?_
        refine v_nil ?_
        refine q_n ?_
        refine w_seq ?_
        refine w_reg rfl ?_
        refine v_move rfl ?_
        refine v_neq lay2 rfl rfl (fun h25 => ?_) (fun h25 => ?_)
        · skip
          refine v_nil ?_
          refine q_n ?_
          refine w_t rfl ?_
          refine w_seq ?_
          refine w_reg rfl ?_
          refine v_move rfl ?_
          refine v_assign (c := .v (.int .i64 0)) rfl ?_
          refine v_assign rfl ?_
          refine v_nil ?_
          refine q_n ?_
          refine w_ret (q_r ?_)
          refine r_r rfl ?_
          exact a_2 (fi_1 fun h => h2 h.2)
        · skip
          exact absurd h25 (by decide)
  · skip
    refine v_not true rfl rfl ?_
    refine v_move rfl ?_
    refine v_guard_off rfl rfl rfl ?_
    refine v_guard_off rfl rfl rfl ?_
    refine v_guard_off rfl rfl rfl ?_
    refine v_pick_t (v := .v (.bool true)) rfl rfl ?_
    refine v_call (c65 _ _) rfl rfl rfl (.cons vw_v (.cons vw_v .nil)) ?_
    refine v_move rfl ?_
    refine v_callb (c80 _ (by assumption)) rfl rfl (.cons vw_f .nil) (fun h26 => ?_) (fun h26 => ?_)
    · skip
      refine v_not false rfl rfl ?_
      refine v_move rfl ?_
      refine v_guard_on rfl rfl ?_
      refine v_move rfl ?_
      refine v_guard_on rfl rfl ?_
      refine v_callb (c73 _ (by assumption)) rfl rfl (.cons vw_f .nil) (fun h27 => ?_) (fun h27 => ?_)
      · skip
        refine v_guard_on rfl rfl ?_
        refine v_not false rfl rfl ?_
        refine v_pick_f rfl rfl ?_
        refine v_move rfl ?_
        refine v_guard_on rfl rfl ?_
        refine v_move rfl ?_
        refine v_guard_on rfl rfl ?_
        refine v_callb (c81 _) rfl rfl (.cons vw_v .nil) (fun h28 => ?_) (fun h28 => ?_)
        · skip
          refine v_guard_on rfl rfl ?_
          refine v_not false rfl rfl ?_
          refine v_pick_f rfl rfl ?_
          refine v_call (c65 _ _) rfl rfl rfl (.cons vw_v (.cons vw_v .nil)) ?_
          refine v_lit (flat int [_, _]) (H' := [_]) lay118 lay2 rfl rfl ⟨by decide, by decide⟩ rfl rfl ?_
          refine v_call (c64 [_, _] (Nat.le_of_ble_eq_true rfl)) rfl rfl rfl (.cons (vw_mu int_sc int_len rfl rfl) .nil) ?_
          refine v_assign rfl ?_
          refine v_nil ?_
          refine q_n ?_
          refine w_seq ?_
          refine w_reg rfl ?_
          refine v_move rfl ?_
          refine v_neq lay2 rfl rfl (fun h29 => ?_) (fun h29 => ?_)
          · skip
            refine v_nil ?_
            refine q_n ?_
            refine w_t rfl ?_
            refine w_seq ?_
            refine w_reg rfl ?_
            refine v_move rfl ?_
            refine v_assign (c := .v (.int .i64 0)) rfl ?_
            refine v_assign rfl ?_
            refine v_nil ?_
            refine q_n ?_
            refine w_ret (q_r ?_)
            refine r_r rfl ?_
            exact a_2 (fi_1 fun h => h1 h.1)
          · skip
            exact absurd h29 (by decide)
        · skip
          refine v_guard_on rfl rfl ?_
          refine v_not true rfl rfl ?_
          refine v_pick_f rfl rfl ?_
          refine v_call (c65 _ _) rfl rfl rfl (.cons vw_v (.cons vw_v .nil)) ?_
          refine v_lit (flat int [_, _]) (H' := [_]) lay118 lay2 rfl rfl ⟨by decide, by decide⟩ rfl rfl ?_
          refine v_call (c64 [_, _] (Nat.le_of_ble_eq_true rfl)) rfl rfl rfl (.cons (vw_mu int_sc int_len rfl rfl) .nil) ?_
          refine v_assign rfl ?_
          refine v_nil ?_
          refine q_n ?_
          refine w_seq ?_
          refine w_reg rfl ?_
          refine v_move rfl ?_
          refine v_neq lay2 rfl rfl (fun h30 => ?_) (fun h30 => ?_)
          · skip
            refine v_nil ?_
            refine q_n ?_
            refine w_t rfl ?_
            refine w_seq ?_
            refine w_reg rfl ?_
            refine v_move rfl ?_
            refine v_assign (c := .v (.int .i64 0)) rfl ?_
            refine v_assign rfl ?_
            refine v_nil ?_
            refine q_n ?_
            refine w_ret (q_r ?_)
            refine r_r rfl ?_
            exact a_2 (fi_1 fun h => h1 h.1)
          · skip
            exact absurd h30 (by decide)
      · skip
        refine v_guard_on rfl rfl ?_
        refine v_not true rfl rfl ?_
        refine v_pick_f rfl rfl ?_
        refine v_move rfl ?_
        refine v_guard_off rfl rfl rfl ?_
        refine v_guard_off rfl rfl rfl ?_
        refine v_guard_off rfl rfl rfl ?_
        refine v_pick_t (v := .v (.bool true)) rfl rfl ?_
        refine v_call (c65 _ _) rfl rfl rfl (.cons vw_v (.cons vw_v .nil)) ?_
        refine v_lit (flat int [_, _]) (H' := [_]) lay118 lay2 rfl rfl ⟨by decide, by decide⟩ rfl rfl ?_
        refine v_call (c64 [_, _] (Nat.le_of_ble_eq_true rfl)) rfl rfl rfl (.cons (vw_mu int_sc int_len rfl rfl) .nil) ?_
        refine v_assign rfl ?_
        refine v_nil ?_
        refine q_n ?_
        refine w_seq ?_
        refine w_reg rfl ?_
        refine v_move rfl ?_
        refine v_neq lay2 rfl rfl (fun h31 => ?_) (fun h31 => ?_)
        · skip
          refine v_nil ?_
          refine q_n ?_
          refine w_t rfl ?_
          refine w_seq ?_
          refine w_reg rfl ?_
          refine v_move rfl ?_
          refine v_assign (c := .v (.int .i64 0)) rfl ?_
          refine v_assign rfl ?_
          refine v_nil ?_
          refine q_n ?_
          refine w_ret (q_r ?_)
          refine r_r rfl ?_
          exact a_2 (fi_1 fun h => h1 h.1)
        · skip
          exact absurd h31 (by decide)
    · skip
      refine v_not true rfl rfl ?_
      refine v_move rfl ?_
      refine v_guard_off rfl rfl rfl ?_
      refine v_guard_off rfl rfl rfl ?_
      refine v_guard_off rfl rfl rfl ?_
      refine v_pick_t (v := .v (.bool true)) rfl rfl ?_
      refine v_move rfl ?_
      refine v_guard_off rfl rfl rfl ?_
      refine v_guard_off rfl rfl rfl ?_
      refine v_guard_off rfl rfl rfl ?_
      refine v_pick_t (v := .v (.bool true)) rfl rfl ?_
      refine v_call (c65 _ _) rfl rfl rfl (.cons vw_v (.cons vw_v .nil)) ?_
      refine v_lit (flat int [_, _]) (H' := [_]) lay118 lay2 rfl rfl ⟨by decide, by decide⟩ rfl rfl ?_
      refine v_call (c64 [_, _] (Nat.le_of_ble_eq_true rfl)) rfl rfl rfl (.cons (vw_mu int_sc int_len rfl rfl) .nil) ?_
      refine v_assign rfl ?_
      refine v_nil ?_
      refine q_n ?_
      refine w_seq ?_
      refine w_reg rfl ?_
      refine v_move rfl ?_
      refine v_neq lay2 rfl rfl (fun h32 => ?_) (fun h32 => ?_)
      · skip
        refine v_nil ?_
        refine q_n ?_
        refine w_t rfl ?_
        refine w_seq ?_
        refine w_reg rfl ?_
        refine v_move rfl ?_
        refine v_assign (c := .v (.int .i64 0)) rfl ?_
        refine v_assign rfl ?_
        refine v_nil ?_
        refine q_n ?_
        refine w_ret (q_r ?_)
        refine r_r rfl ?_
        exact a_2 (fi_1 fun h => h1 h.1)
      · skip
        exact absurd h32 (by decide)

theorem c6 (xs ys : List Tal) (most share : Option Nat) (times : Int) (hx : xs.length ≤ maxLen) (hy : ys.length ≤ maxLen) (hb : T16 xs) (hb2 : T16 ys) (hm : Sg most) (hsh : Sg share) : PureC X 6 [.c (tals false xs), .c (tals false ys), .c (.f .f32 most), .c (.f .f32 share), cI times] (cB true) := by
  refine PureC.of_body (drawD_ok X) (fun _ _ => Go.Proofs.Try.call6 _ _) Go.Proofs.Try.func6 rfl (n := 70) rfl ?_
  refine w_seq ?_
  refine w_reg rfl ?_
  refine v_assign (c := .v (.bool false)) rfl ?_
  refine v_nil ?_
  refine q_n ?_
  refine w_seq ?_
  refine w_reg rfl ?_
  refine v_assign (c := .v (.int .i64 1048576)) rfl ?_
  refine v_nil ?_
  refine q_n ?_
  refine w_seq ?_
  refine w_reg rfl ?_
  refine v_move rfl ?_
  refine v_move rfl ?_
  refine v_call (c20 _ _ (by omega) (by assumption)) rfl rfl rfl (.cons vw_sl (.cons vw_v .nil)) ?_
  refine v_assign rfl ?_
  refine v_nil ?_
  refine q_n ?_
  refine w_seq ?_
  refine w_seq ?_
  refine w_reg rfl ?_
  refine v_move rfl ?_
  refine v_lss lay3 rfl rfl (fun h1 => ?_) (fun h1 => ?_)
  · skip
    refine v_nil ?_
    refine q_n ?_
    refine w_t rfl ?_
    refine w_seq ?_
    refine w_reg rfl ?_
    refine v_assign (c := .v (.bool true)) rfl ?_
    refine v_nil ?_
    refine q_n ?_
    refine w_ret (q_r ?_)
    refine r_r rfl ?_
    exact tr_v
  · skip
    have hs1 := szr_in h1
    refine v_nil ?_
    refine q_n ?_
    refine w_f rfl ?_
    refine w_skip ?_
    refine q_n ?_
    refine w_seq ?_
    refine w_reg rfl ?_
    refine v_move rfl ?_
    refine v_move rfl ?_
    refine v_call (c20 _ _ (by omega) (by assumption)) rfl rfl rfl (.cons vw_sl (.cons vw_v .nil)) ?_
    refine v_assign rfl ?_
    refine v_nil ?_
    refine q_n ?_
    refine w_seq ?_
    refine w_seq ?_
    refine w_reg rfl ?_
    refine v_move rfl ?_
    refine v_lss lay3 rfl rfl (fun h2 => ?_) (fun h2 => ?_)
    · skip
      refine v_nil ?_
      refine q_n ?_
      refine w_t rfl ?_
      refine w_seq ?_
      refine w_reg rfl ?_
      refine v_assign (c := .v (.bool true)) rfl ?_
      refine v_nil ?_
      refine q_n ?_
      refine w_ret (q_r ?_)
      refine r_r rfl ?_
      exact tr_v
    · skip
      have hs2 := szr_in h2
      refine v_nil ?_
      refine q_n ?_
      refine w_f rfl ?_
      refine w_skip ?_
      refine q_n ?_
      refine w_seq ?_
      refine w_reg rfl ?_
      refine v_move rfl ?_
      refine v_call (c22 _ (by omega)) rfl rfl rfl (.cons vw_sl .nil) ?_
      refine v_move rfl ?_
      refine v_call (c22 _ (by omega)) rfl rfl rfl (.cons vw_sl .nil) ?_
      refine v_move rfl ?_
      refine v_move rfl ?_
      refine v_move rfl ?_
      refine v_call (c34 _ _ _ _ _ (by omega) (by omega)) rfl rfl rfl (.cons vw_sl (.cons vw_sl (.cons vw_f (.cons vw_f (.cons vw_v .nil))))) ?_
      refine v_move_t rfl ?_
      refine v_extract_c rfl rfl ?_
      refine v_extract_c rfl rfl ?_
      refine v_assign rfl ?_
      refine v_assign rfl ?_
      refine v_nil ?_
      refine q_n ?_
      refine w_seq ?_
      refine w_reg rfl ?_
      refine v_move rfl ?_
      refine v_call (c22 _ (by omega)) rfl rfl rfl (.cons vw_sl .nil) ?_
      refine v_assign rfl ?_
      refine v_nil ?_
      refine q_n ?_
      refine w_seq ?_
      refine w_reg rfl ?_
      refine v_move rfl ?_
      refine v_call (c22 _ (by omega)) rfl rfl rfl (.cons vw_sl .nil) ?_
      refine v_assign rfl ?_
      refine v_nil ?_
      refine q_n ?_
      refine w_seq ?_
      refine w_reg rfl ?_
      refine v_move rfl ?_
      refine v_move rfl ?_
      refine v_move rfl ?_
      refine v_move rfl ?_
      refine v_move rfl ?_
      refine v_call (c35 _ _ _ _ _ (by omega) (by omega) (by assumption) (by assumption) (by assumption) (by assumption)) rfl rfl rfl (.cons vw_sl (.cons vw_sl (.cons vw_f (.cons vw_f (.cons vw_v .nil))))) ?_
      refine v_move_t rfl ?_
      refine v_extract_c rfl rfl ?_
      refine v_extract_c rfl rfl ?_
      refine v_assign rfl ?_
      refine v_assign rfl ?_
      refine v_nil ?_
      refine q_n ?_
      refine w_seq ?_
      refine w_seq ?_
      refine w_reg rfl ?_
      refine v_move rfl ?_
      refine v_move rfl ?_
      refine v_neq lay2 rfl rfl (fun h3 => ?_) (fun h3 => ?_)
      · skip
        exact absurd rfl h3
      · skip
        refine v_move rfl ?_
        refine v_guard_on rfl rfl ?_
        refine v_move rfl ?_
        refine v_guard_on rfl rfl ?_
        refine v_move rfl ?_
        refine v_guard_on rfl rfl ?_
        refine v_neq lay2 rfl rfl (fun h4 => ?_) (fun h4 => ?_)
        · skip
          exact absurd rfl h4
        · skip
          refine v_pick_f rfl rfl ?_
          refine v_nil ?_
          refine q_n ?_
          refine w_f rfl ?_
          refine w_skip ?_
          refine q_n ?_
          refine w_seq ?_
          refine w_seq ?_
          refine w_reg rfl ?_
          refine v_move rfl ?_
          refine v_move rfl ?_
          refine v_call (c22 _ (by omega)) rfl rfl rfl (.cons vw_sl .nil) ?_
          refine v_callb (c25 _ _ (by omega)) rfl rfl (.cons vw_sl (.cons vw_sl .nil)) (fun h5 => ?_) (fun h5 => ?_)
          · skip
            refine v_not false rfl rfl ?_
            refine v_nil ?_
            refine q_n ?_
            refine w_f rfl ?_
            refine w_skip ?_
            refine q_n ?_
            refine w_seq ?_
            refine w_seq ?_
            refine w_reg rfl ?_
            refine v_move rfl ?_
            refine v_move rfl ?_
            refine v_call (c22 _ (by omega)) rfl rfl rfl (.cons vw_sl .nil) ?_
            refine v_callb (c25 _ _ (by omega)) rfl rfl (.cons vw_sl (.cons vw_sl .nil)) (fun h6 => ?_) (fun h6 => ?_)
            · skip
              refine v_not false rfl rfl ?_
              refine v_nil ?_
              refine q_n ?_
              refine w_f rfl ?_
              refine w_skip ?_
              refine q_n ?_
              refine w_seq ?_
              refine w_reg rfl ?_
              refine v_assign (c := .v (.bool true)) rfl ?_
              refine v_nil ?_
              refine q_n ?_
              refine w_ret ?_
              refine r_r rfl ?_
              exact tr_v
            · skip
              exact absurd rfl h6
          · skip
            exact absurd rfl h5
end Go.VL
