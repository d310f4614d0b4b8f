/- Texts of one proof, put together: W1, W2, TO, B0. -/
import Derived.Test.YtinnefdhocdmmaaM3
import Derived.Test.YtinnefdhocdmmaaRows
import Derived.ProofKit
import Derived.Below
import Derived.ChangeSame
import Derived.Handed
import Derived.KernelRfl
namespace Go.VL
open Go.RowKit
set_option maxRecDepth 20000
set_option maxHeartbeats 8000000
theorem tmp_lt_of_read {b : Nat} (hb : b < 2 ^ 32) {m : Nat} {e : Int} (hr : fS.read b = .number false m e) : b < 2139095040 := by
  refine Decidable.byContradiction fun hn => ?_
  unfold Ieee.Format.read at hr
  rw [fS_sw, fS_bi, fS_in, fS_lp] at hr
  by_cases h1 : b < 2147483648
  · have h2 : b / 2147483648 % 2 = 0 := by omega
    have h3 : b % 2147483648 = b := by omega
    simp only [h2, h3] at hr
    rw [if_neg (by omega), if_neg hn] at hr
    split at hr <;> cases hr
  · have h2 : b / 2147483648 % 2 = 1 := by omega
    simp only [h2] at hr
    split at hr
    · cases hr
    · split at hr
      · cases hr
      · split at hr <;> cases hr
/-- An amount is a rung. -/
theorem amt_rung {x : Option Nat} (hx : Sg x) (h : amtB x = true) : ∃ b, x = some b ∧ b < 2139095040 := by
  cases x with
  | none => cases h
  | some b =>
    refine ⟨b, rfl, ?_⟩
    have ha := amtB_some.1 h
    obtain ⟨s, m, e, hr⟩ := num_of_fin ha.1
    have hs := (amt_num (hx.2 b rfl) hr).1 ha
    subst hs
    exact tmp_lt_of_read (hx.2 b rfl) hr
theorem ford_cmp {a c : Nat} (ha : a < 2139095040) (hc : c < 2139095040) : ford .f32 (some a) (some c) = some (compare a c) := ford_pos ha hc
theorem share_rung {x : Option Nat} (hx : Sg x) (h : shr x) : ∃ b, x = some b ∧ b ≤ 1065353216 := by
  obtain ⟨b, rfl, hb⟩ := amt_rung hx h.1
  refine ⟨b, rfl, ?_⟩
  have h2 : fle (some b) 1065353216 := h.2
  unfold fle at h2
  rw [show fOf .f32 1065353216 = some 1065353216 by decide, ford_cmp hb (by decide)] at h2
  rcases Nat.lt_trichotomy b 1065353216 with h3 | h3 | h3
  · omega
  · omega
  · rw [Nat.compare_eq_gt.2 h3] at h2
    exact absurd h2 (by decide)
abbrev flt (x : Option Nat) (c : Nat) : Prop := (ford .f32 x (fOf .f32 c) == some .lt) = true
/-- A rung is an amount. -/
theorem rung_amt {r : Nat} (h : r < 2139095040) : amtB (some r) = true := by
  obtain ⟨m, e, h1, -⟩ := read_pos h
  exact amtB_some.2 ((amt_num (by omega) h1).2 rfl)
theorem rung_fin {r : Nat} (h : r < 2139095040) : fin (some r) = true := (amtB_some.1 (rung_amt h)).1
theorem flt_rung {r c : Nat} (hc : c < 2139095040) (h : r < c) (hf : fOf .f32 c = some c) : flt (some r) c := by
  unfold flt
  rw [hf, ford_cmp (by omega) hc, Nat.compare_eq_lt.2 h]
  decide
theorem flt_lt {r c : Nat} (hr : r < 2139095040) (hc : c < 2139095040) (hf : fOf .f32 c = some c) (h : flt (some r) c) : r < c := by
  unfold flt at h
  rw [hf, ford_cmp hr hc] at h
  rcases Nat.lt_trichotomy r c with h3 | h3 | h3
  · exact h3
  · rw [Nat.compare_eq_eq.2 h3] at h
    exact absurd h (by decide)
  · rw [Nat.compare_eq_gt.2 h3] at h
    exact absurd h (by decide)
/-- A detector: its cell, its carry, its count, how full, how many ticks. -/
abbrev Dt := Int × Option Nat × Int × Option Nat × Int
def dtc (d : Dt) : List C := [.v (.int .i64 d.1), .f .f32 d.2.1, .v (.int .i16 d.2.2.1), .f .f32 d.2.2.2.1, .v (.int .i64 d.2.2.2.2)]
def dW (d : Dt) : Prop := Sg d.2.1 ∧ Sg d.2.2.2.1 ∧ (-32768 ≤ d.2.2.1 ∧ d.2.2.1 ≤ 32767)
def zD : Dt := (0, some 0, 0, some 0, 0)
/-- A detector that is valid. -/
def dtOk (d : Dt) : Prop := (0 ≤ d.1 ∧ d.1 ≤ 14) ∧ amtB d.2.1 = true ∧ flt d.2.1 1065353216 ∧ 0 ≤ d.2.2.1 ∧ amtB d.2.2.2.1 = true ∧ (0 ≤ d.2.2.2.2 ∧ d.2.2.2.2 ≤ 1000000)
instance (d : Dt) : Decidable (dtOk d) := by unfold dtOk; infer_instance
abbrev one32 : Option Nat := fOf .f32 1065353216
theorem one32_eq : one32 = some 1065353216 := by decide
/-- A cell's share. -/
def cr (r : Rd) (c : Nat) : Option Nat := r.1 ⟨c % 16, Nat.mod_lt _ (by decide)⟩
theorem cr_eq {r : Rd} {c : Nat} (h : c < 16) : r.1 ⟨c, h⟩ = cr r c := by
  unfold cr
  exact congrArg _ (Fin.ext (Nat.mod_eq_of_lt h).symm)
def bestR (r : Rd) : Option Nat := fop .quo .f32 r.2.2.1 (fop .add .f32 r.2.1 r.2.2.1)
def mostR (r : Rd) : Option Nat := fop .mul .f32 r.2.1 (bestR r)
def sndR (r : Rd) (c : Nat) : Option Nat := lessF (fop .mul .f32 r.2.1 (cr r c)) (mostR r)
def takR (r : Rd) (c : Nat) : Option Nat := lessF (fop .mul .f32 r.2.2.1 (fop .sub .f32 one32 (cr r c))) (mostR r)
def flwR (r : Rd) (c : Nat) : Option Nat := lessF (sndR r c) (takR r (c + 1))
abbrev rl (r : Rd) : List (Option Nat) := l16 r.1 ++ [r.2.1, r.2.2.1, r.2.2.2]
theorem rl_len (r : Rd) : (rl r).length = 19 := rfl
theorem rl_ld (r : Rd) {i : Nat} (h : i < 16) (h' : i < (rl r).length) : mkV false (sub (fe ((rl r)[i]'h')) 0 1) = some (.c (.f .f32 (r.1 ⟨i, h⟩))) := by
  have e : (rl r)[i]'h' = r.1 ⟨i, h⟩ := by
    rw [List.getElem_append_left (by rw [l16_len]; exact h), l16_get r.1 h]
  rw [e]
  rfl
/-- A valid road's numbers. -/
theorem road_rung {r : Rd} (hr : rW r) (ho : roadOk r) : ∃ p b l : Nat, r.2.1 = some p ∧ r.2.2.1 = some b ∧ r.2.2.2 = some l ∧ (0 < p ∧ p ≤ 1065353216) ∧ (0 < b ∧ b ≤ 1065353216) ∧ l ≤ 1090519040 := by
  obtain ⟨p, hp, hp1⟩ := share_rung hr.2.1 ho.2.1
  obtain ⟨b, hb, hb1⟩ := share_rung hr.2.2.1 ho.2.2.1
  obtain ⟨l, hl, hl1⟩ := amt_rung hr.2.2.2 (amt_of hr.2.2.2 ho.2.2.2.2.2.1 ho.2.2.2.2.2.2)
  refine ⟨p, b, l, hp, hb, hl, ⟨?_, hp1⟩, ⟨?_, hb1⟩, ?_⟩
  · have h := ho.2.2.2.1
    rw [hp] at h
    rcases Nat.eq_zero_or_pos p with rfl | h0
    · exact absurd h (by decide)
    · exact h0
  · have h := ho.2.2.2.2.1
    rw [hb] at h
    rcases Nat.eq_zero_or_pos b with rfl | h0
    · exact absurd h (by decide)
    · exact h0
  · have h := ho.2.2.2.2.2.2
    rw [hl] at h
    unfold fle at h
    rw [show fOf .f32 1090519040 = some 1090519040 by decide, ford_cmp hl1 (by decide)] at h
    rcases Nat.lt_trichotomy l 1090519040 with h3 | h3 | h3
    · omega
    · omega
    · rw [Nat.compare_eq_gt.2 h3] at h
      exact absurd h (by decide)
theorem cr_rung {r : Rd} (hr : rW r) (ho : roadOk r) (c : Nat) : ∃ x, cr r c = some x ∧ x ≤ 1065353216 := share_rung (hr.1 _ (Nat.mod_lt _ (by decide))) (ho.1 _)
theorem most_rung {r : Rd} (hr : rW r) (ho : roadOk r) : ∃ m, mostR r = some m ∧ m ≤ 2139095040 := by
  obtain ⟨p, b, l, hp, hb, -, ⟨p0, p1⟩, ⟨b0, b1⟩, -⟩ := road_rung hr ho
  unfold mostR bestR
  rw [hp, hb]
  have e1 : fop .add .f32 (some p) (some b) = some (rung (val p + val b) (-149)) := fadd_pos (by omega) (by omega)
  have h1 : rung (val p + val b) (-149) ≤ 1073741824 := Nat.le_trans (rung_mono (Nat.add_le_add (val_le.2 p1) (val_le.2 b1))) (by decide)
  have h0 : b ≤ rung (val p + val b) (-149) := by
    have h := rung_mono (n1 := val b) (n2 := val p + val b) (p := -149) (by omega)
    rwa [val_rung (by omega)] at h
  obtain ⟨q, e2, h2⟩ := fdiv_pos (a := b) (b := rung (val p + val b) (-149)) (by omega) (by omega) (by omega)
  have e2' : fop .quo .f32 (some b) (some (rung (val p + val b) (-149))) = some q := e2
  rw [e1, e2']
  exact fmul_any (by omega) p0 h2
theorem snd_rung {r : Rd} (hr : rW r) (ho : roadOk r) (c : Nat) : ∃ x, sndR r c = some x ∧ x ≤ 1065353216 := by
  obtain ⟨p, b, l, hp, hb, -, ⟨p0, p1⟩, ⟨b0, b1⟩, -⟩ := road_rung hr ho
  obtain ⟨m, hm, hm1⟩ := most_rung hr ho
  obtain ⟨x, hx, hx1⟩ := cr_rung hr ho c
  unfold sndR
  rw [hm, hp, hx]
  obtain ⟨y, hy, hy1⟩ := mul_rung (e := 1065353216) p1 hx1 (by decide) (by decide) (Nat.le_of_ble_eq_true (by kernel_rfl))
  rw [hy]
  obtain ⟨z, hz, hz1, -⟩ := less_rung (show y < 2139095040 by omega) hm1
  exact ⟨z, hz, by omega⟩
theorem tak_rung {r : Rd} (hr : rW r) (ho : roadOk r) (c : Nat) : ∃ x, takR r c = some x ∧ x ≤ 1065353216 := by
  obtain ⟨p, b, l, hp, hb, -, ⟨p0, p1⟩, ⟨b0, b1⟩, -⟩ := road_rung hr ho
  obtain ⟨m, hm, hm1⟩ := most_rung hr ho
  obtain ⟨x, hx, hx1⟩ := cr_rung hr ho c
  unfold takR
  rw [hm, hb, hx, one32_eq]
  obtain ⟨s, hs, hs1⟩ := sub_rung hx1 (show 1065353216 < 2139095040 by decide)
  rw [hs]
  obtain ⟨y, hy, hy1⟩ := mul_rung (e := 1065353216) b1 hs1 (by decide) (by decide) (Nat.le_of_ble_eq_true (by kernel_rfl))
  rw [hy]
  obtain ⟨z, hz, hz1, -⟩ := less_rung (show y < 2139095040 by omega) hm1
  exact ⟨z, hz, by omega⟩
theorem flw_rung {r : Rd} (hr : rW r) (ho : roadOk r) (c : Nat) : ∃ x, flwR r c = some x ∧ x ≤ 1065353216 := by
  obtain ⟨x, hx, hx1⟩ := snd_rung hr ho c
  obtain ⟨y, hy, hy1⟩ := tak_rung hr ho (c + 1)
  unfold flwR
  rw [hx, hy]
  obtain ⟨z, hz, hz1, -⟩ := less_rung (show x < 2139095040 by omega) (show y ≤ 2139095040 by omega)
  exact ⟨z, hz, by omega⟩
/-- What is counted in a tick: the carry, and what flows. -/
def wA (d : Dt) (r : Rd) : Option Nat := fop .add .f32 d.2.1 (fop .mul .f32 (flwR r d.1.toNat) r.2.2.2)
theorem wA_rung {d : Dt} {r : Rd} (hd : dW d) (hr : rW r) (hk : dtOk d) (ho : roadOk r) : ∃ A, wA d r = some A ∧ A ≤ 1091567616 := by
  obtain ⟨x, hx, hx1⟩ := flw_rung hr ho d.1.toNat
  obtain ⟨p, b, l, -, -, hl, -, -, l1⟩ := road_rung hr ho
  obtain ⟨y, hy, hy1⟩ := amt_rung hd.1 hk.2.1
  have hlt := hk.2.2.1
  rw [hy] at hlt
  have hy2 := flt_lt hy1 (by decide) (by decide) hlt
  unfold wA
  rw [hx, hl, hy]
  obtain ⟨z, hz, hz1⟩ := mul_rung (e := 1090519040) hx1 l1 (by decide) (by decide) (Nat.le_of_ble_eq_true (by kernel_rfl))
  rw [hz]
  exact sum_rung (e := 1091567616) (show y ≤ 1065353216 by omega) hz1 (by decide) (by decide) (by decide)
def wN (d : Dt) (r : Rd) : Nat := val ((wA d r).getD 0) / 2 ^ 149
def wC (d : Dt) (r : Rd) : Nat := rung (val ((wA d r).getD 0) % 2 ^ 149) (-149)
/-- The detector behind a tick. -/
def wD (d : Dt) (r : Rd) : Dt := (d.1, some (wC d r), min (d.2.2.1 + (wN d r : Int)) 32767, fop .add .f32 d.2.2.2.1 (cr r d.1.toNat), d.2.2.2.2 + 1)
def wch (d : Dt) (r : Rd) : Dt × Int := if dtOk d ∧ roadOk r then (if d.2.2.2.2 + 1 ≤ 1000000 then (wD d r, 0) else (zD, 4)) else (zD, 1)
theorem wN_le {d : Dt} {r : Rd} {A : Nat} (h : wA d r = some A) (hA : A ≤ 1091567616) : wN d r ≤ 9 := by
  unfold wN
  rw [h]
  have h1 : val A ≤ val 1091567616 := val_le.2 hA
  have h2 : val 1091567616 = 9 * 2 ^ 149 := by decide
  show val A / 2 ^ 149 ≤ 9
  rw [h2] at h1
  exact Nat.div_le_of_le_mul (by rw [Nat.mul_comm]; exact h1)
/-- Small whole numbers as doubles and as singles. -/
theorem small_w : ∀ N : Nat, N ≤ 9 → (FloatKind.f64.decode (FloatKind.f64.format.nearest false N 0)).toInt .zero = some (N : Int) ∧ convF .f64 .f32 (some (FloatKind.f64.format.nearest false N 0)) = some (some (FloatKind.f32.format.nearest false N 0)) ∧ (FloatKind.f32.decode (FloatKind.f32.format.nearest false N 0)).toInt .zero = some (N : Int) ∧ val (FloatKind.f32.format.nearest false N 0) = N * 2 ^ 149 ∧ FloatKind.f32.format.nearest false N 0 < 2139095040 ∧ isNaN .f64 (FloatKind.f64.format.nearest false N 0) = false
  | 0, _ => by decide
  | 1, _ => by decide
  | 2, _ => by decide
  | 3, _ => by decide
  | 4, _ => by decide
  | 5, _ => by decide
  | 6, _ => by decide
  | 7, _ => by decide
  | 8, _ => by decide
  | 9, _ => by decide
  | n + 10, h => absurd h (by omega)
abbrev n64 (N : Nat) : Nat := FloatKind.f64.format.nearest false N 0
abbrev n32 (N : Nat) : Nat := FloatKind.f32.format.nearest false N 0
theorem wC_sub {d : Dt} {r : Rd} {A : Nat} (h : wA d r = some A) (hA : A ≤ 1091567616) : fop .sub .f32 (some A) (some (n32 (wN d r))) = some (wC d r) := by
  obtain ⟨-, -, -, h4, h5, -⟩ := small_w (wN d r) (wN_le h hA)
  have hv : wN d r = val A / 2 ^ 149 := by unfold wN; rw [h]; rfl
  have hle : n32 (wN d r) ≤ A := by
    rw [← val_le, h4, hv]
    exact Nat.div_mul_le_self _ _
  have e : fop .sub .f32 (some A) (some (n32 (wN d r))) = some (rung (val A - val (n32 (wN d r))) (-149)) := fsub_pos (by omega) hle
  rw [e, h4, hv]
  unfold wC
  rw [h]
  show some (rung (val A - val A / 2 ^ 149 * 2 ^ 149) (-149)) = some (rung (val A % 2 ^ 149) (-149))
  congr 2
  have := Nat.div_add_mod' (val A) (2 ^ 149)
  omega
theorem wC_lt {d : Dt} {r : Rd} {A : Nat} (h : wA d r = some A) (hA : A ≤ 1091567616) : wC d r < 1065353216 := by
  unfold wC
  rw [h]
  exact rest_lt (show A < 2139095040 by omega)
theorem full_rung {d : Dt} {r : Rd} (hd : dW d) (hr : rW r) (hk : dtOk d) (ho : roadOk r) : ∃ F, fop .add .f32 d.2.2.2.1 (cr r d.1.toNat) = some F ∧ F < 2139095040 := by
  obtain ⟨f, hf, hf1⟩ := amt_rung hd.2.1 hk.2.2.2.2.1
  obtain ⟨x, hx, hx1⟩ := cr_rung hr ho d.1.toNat
  rw [hf, hx]
  obtain ⟨F, h1, h2⟩ := sum_rung (c := 2139095039) (d := 1065353216) (e := 2139095039) (show f ≤ 2139095039 by omega) hx1 (by decide) (by decide) (by decide)
  exact ⟨F, h1, by omega⟩
/-- A detector behind a tick is valid just if it has not ticked too often. -/
theorem wD_ok {d : Dt} {r : Rd} (hd : dW d) (hr : rW r) (hk : dtOk d) (ho : roadOk r) : dtOk (wD d r) ↔ d.2.2.2.2 + 1 ≤ 1000000 := by
  obtain ⟨A, hA, hA1⟩ := wA_rung hd hr hk ho
  obtain ⟨F, hF, hF1⟩ := full_rung hd hr hk ho
  have h1 := wC_lt hA hA1
  have h2 := hk.2.2.2.1
  have h3 := hk.2.2.2.2.2
  unfold dtOk wD
  simp only [hF, rung_amt hF1, rung_amt (show wC d r < 2139095040 by omega), true_and]
  constructor
  · intro h
    exact h.2.2.2.2
  · intro h
    refine ⟨hk.1, flt_rung (by decide) h1 (by decide), by omega, by omega, h⟩
theorem okF_of_rung {r : Nat} (h : r < 2139095040) : okF .f32 (some r) := by
  obtain ⟨m, e, h1, -⟩ := read_pos h
  exact okF_of_read (.inl ⟨_, _, _, h1⟩)
theorem cBestS (r : Rd) : PureC X 75 [.c (.vw false (rdc r) 0)] (.c (.f .f32 (bestR r))) := by
  refine PureC.of_body (drawD_ok X) (fun _ _ => Go.Proofs.Try.call75 _ _) Go.Proofs.Try.func75 rfl (n := 17) rfl ?_
  refine w_seq ?_
  refine w_reg rfl ?_
  refine v_assign (c := .f _ _) rfl ?_
  refine v_nil ?_
  refine q_n ?_
  refine w_seq ?_
  refine w_draw [0, 1, 3, 7, 0, 16, 48, 112, 0, 256, 768, 1792, 4080, 8191, 16383] [⟨0, 0, []⟩, ⟨1, 0, []⟩, ⟨2, 0, []⟩, ⟨3, 0, []⟩, ⟨4, 0, []⟩, ⟨5, 0, []⟩, ⟨6, 0, []⟩, ⟨7, 0, []⟩, ⟨8, 0, []⟩, ⟨9, 0, []⟩, ⟨10, 0, []⟩, ⟨11, 0, []⟩, ⟨12, 0, []⟩, ⟨13, 0, []⟩, ⟨14, 0, []⟩] rfl rfl ?_
  refine d_q rfl rfl rfl rfl rfl ?_
  refine v_move rfl ?_
  refine v_nil ?_
  refine d_q rfl rfl rfl rfl rfl ?_
  refine v_nil_vw rfl ?_
  refine v_nil ?_
  refine d_q rfl rfl rfl rfl rfl ?_
  refine v_fa_vw (off' := 17) lay35 rfl rfl rfl ?_
  refine v_nil ?_
  refine d_q rfl rfl rfl rfl rfl ?_
  refine v_load_vw (.c (.f _ _)) lay22 rfl rfl rfl ?_
  refine v_nil ?_
  refine d_q rfl rfl rfl rfl rfl ?_
  refine v_move rfl ?_
  refine v_nil ?_
  refine d_q rfl rfl rfl rfl rfl ?_
  refine v_nil_vw rfl ?_
  refine v_nil ?_
  refine d_q rfl rfl rfl rfl rfl ?_
  refine v_fa_vw (off' := 16) lay35 rfl rfl rfl ?_
  refine v_nil ?_
  refine d_q rfl rfl rfl rfl rfl ?_
  refine v_load_vw (.c (.f _ _)) lay22 rfl rfl rfl ?_
  refine v_nil ?_
  refine d_q rfl rfl rfl rfl rfl ?_
  refine v_move rfl ?_
  refine v_nil ?_
  refine d_q rfl rfl rfl rfl rfl ?_
  refine v_nil_vw rfl ?_
  refine v_nil ?_
  refine d_q rfl rfl rfl rfl rfl ?_
  refine v_fa_vw (off' := 17) lay35 rfl rfl rfl ?_
  refine v_nil ?_
  refine d_q rfl rfl rfl rfl rfl ?_
  refine v_load_vw (.c (.f _ _)) lay22 rfl rfl rfl ?_
  refine v_nil ?_
  refine d_q rfl rfl rfl rfl rfl ?_
  refine v_bin (c := .f _ _) lay22 rfl rfl rfl ?_
  refine v_nil ?_
  refine d_q rfl rfl rfl rfl rfl ?_
  refine v_bin (c := .f _ _) lay22 rfl rfl rfl ?_
  refine v_nil ?_
  refine d_q rfl rfl rfl rfl rfl ?_
  refine v_assign rfl ?_
  refine v_nil ?_
  refine d_nil ?_
  refine q_n ?_
  refine w_ret ?_
  refine r_r rfl ?_
  exact tr_f
theorem cBestI (r : Rd) : PureC X 79 [.agg (rdc r)] (.c (.f .f32 (bestR r))) := by
  refine PureC.of_body (drawD_ok X) (fun _ _ => Go.Proofs.Try.call79 _ _) Go.Proofs.Try.func79 rfl (n := 11) rfl ?_
  refine w_seq ?_
  refine w_reg rfl ?_
  refine v_box (m := 0) (H' := [_]) lay35 rfl rfl rfl ?_
  refine v_assign (c := .f _ _) rfl ?_
  refine v_nil ?_
  refine q_n ?_
  refine w_seq ?_
  refine w_reg rfl ?_
  refine v_fa_pt (off' := 17) lay35 rfl rfl rfl ?_
  refine v_load_pt (.c _) lay22 rfl rfl rfl rfl ?_
  refine v_fa_pt (off' := 16) lay35 rfl rfl rfl ?_
  refine v_load_pt (.c _) lay22 rfl rfl rfl rfl ?_
  refine v_fa_pt (off' := 17) lay35 rfl rfl rfl ?_
  refine v_load_pt (.c _) lay22 rfl rfl rfl rfl ?_
  refine v_bin (c := .f _ _) lay22 rfl rfl rfl ?_
  refine v_bin (c := .f _ _) lay22 rfl rfl rfl ?_
  refine v_assign rfl ?_
  refine v_nil ?_
  refine q_n ?_
  refine w_ret ?_
  refine r_r rfl ?_
  exact tr_f
theorem cMostS (r : Rd) : PureC X 68 [.c (.vw false (rdc r) 0)] (.c (.f .f32 (mostR r))) := by
  refine PureC.of_body (drawD_ok X) (fun _ _ => Go.Proofs.Try.call68 _ _) Go.Proofs.Try.func68 rfl (n := 10) rfl ?_
  refine w_seq ?_
  refine w_reg rfl ?_
  refine v_assign (c := .f _ _) rfl ?_
  refine v_nil ?_
  refine q_n ?_
  refine w_seq ?_
  refine w_draw [0, 1, 3, 7, 0, 16, 63, 127] [⟨0, 0, []⟩, ⟨1, 0, []⟩, ⟨2, 0, []⟩, ⟨3, 0, []⟩, ⟨4, 0, []⟩, ⟨5, 0, []⟩, ⟨6, 0, []⟩, ⟨7, 0, []⟩] rfl rfl ?_
  refine d_q rfl rfl rfl rfl rfl ?_
  refine v_move rfl ?_
  refine v_nil ?_
  refine d_q rfl rfl rfl rfl rfl ?_
  refine v_nil_vw rfl ?_
  refine v_nil ?_
  refine d_q rfl rfl rfl rfl rfl ?_
  refine v_fa_vw (off' := 16) lay35 rfl rfl rfl ?_
  refine v_nil ?_
  refine d_q rfl rfl rfl rfl rfl ?_
  refine v_load_vw (.c (.f _ _)) lay22 rfl rfl rfl ?_
  refine v_nil ?_
  refine d_q rfl rfl rfl rfl rfl ?_
  refine v_move rfl ?_
  refine v_nil ?_
  refine d_call (cBestS _) rfl rfl rfl rfl rfl (.cons vw_vw .nil) ?_
  refine d_q rfl rfl rfl rfl rfl ?_
  refine v_bin (c := .f _ _) lay22 rfl rfl rfl ?_
  refine v_nil ?_
  refine d_q rfl rfl rfl rfl rfl ?_
  refine v_assign rfl ?_
  refine v_nil ?_
  refine d_nil ?_
  refine q_n ?_
  refine w_ret ?_
  refine r_r rfl ?_
  exact tr_f
theorem cMostI (r : Rd) : PureC X 72 [.agg (rdc r)] (.c (.f .f32 (mostR r))) := by
  refine PureC.of_body (drawD_ok X) (fun _ _ => Go.Proofs.Try.call72 _ _) Go.Proofs.Try.func72 rfl (n := 8) rfl ?_
  refine w_seq ?_
  refine w_reg rfl ?_
  refine v_box (m := 0) (H' := [_]) lay35 rfl rfl rfl ?_
  refine v_assign (c := .f _ _) rfl ?_
  refine v_nil ?_
  refine q_n ?_
  refine w_seq ?_
  refine w_draw [0, 1, 0, 4, 15, 31] [⟨0, 0, []⟩, ⟨1, 0, []⟩, ⟨2, 0, []⟩, ⟨3, 0, []⟩, ⟨4, 0, []⟩, ⟨5, 0, []⟩] rfl rfl ?_
  refine d_q rfl rfl rfl rfl rfl ?_
  refine v_fa_pt (off' := 16) lay35 rfl rfl rfl ?_
  refine v_nil ?_
  refine d_q rfl rfl rfl rfl rfl ?_
  refine v_load_pt (.c _) lay22 rfl rfl rfl rfl ?_
  refine v_nil ?_
  refine d_q rfl rfl rfl rfl rfl ?_
  refine v_load_pt (.agg [_, _, _, _, _, _, _, _, _, _, _, _, _, _, _, _, _, _, _]) lay35 rfl rfl rfl rfl ?_
  refine v_nil ?_
  refine d_call (cBestI _) rfl rfl rfl rfl rfl (.cons (vw_agg (.cons vw_f (.cons vw_f (.cons vw_f (.cons vw_f (.cons vw_f (.cons vw_f (.cons vw_f (.cons vw_f (.cons vw_f (.cons vw_f (.cons vw_f (.cons vw_f (.cons vw_f (.cons vw_f (.cons vw_f (.cons vw_f (.cons vw_f (.cons vw_f (.cons vw_f .nil)))))))))))))))))))) .nil) ?_
  refine d_q rfl rfl rfl rfl rfl ?_
  refine v_bin (c := .f _ _) lay22 rfl rfl rfl ?_
  refine v_nil ?_
  refine d_q rfl rfl rfl rfl rfl ?_
  refine v_assign rfl ?_
  refine v_nil ?_
  refine d_nil ?_
  refine q_n ?_
  refine w_ret ?_
  refine r_r rfl ?_
  exact tr_f
theorem cLessS (a b : Option Nat) : PureC X 50 [.c (.f .f32 a), .c (.f .f32 b)] (.c (.f .f32 (lessF a b))) := by
  refine PureC.of_body (drawD_ok X) (fun _ _ => Go.Proofs.Try.call50 _ _) Go.Proofs.Try.func50 rfl (n := 10) rfl ?_
  refine w_seq ?_
  refine w_reg rfl ?_
  refine v_assign (c := .f _ _) rfl ?_
  refine v_nil ?_
  refine q_n ?_
  refine w_seq ?_
  refine w_seq ?_
  refine w_reg rfl ?_
  refine v_move rfl ?_
  refine v_move rfl ?_
  refine v_binb lay22 rfl rfl rfl (fun h1 => ?_) (fun h1 => ?_)
  · refine v_nil ?_
    refine q_n ?_
    refine w_t rfl ?_
    refine w_seq ?_
    refine w_reg rfl ?_
    refine v_move rfl ?_
    refine v_assign rfl ?_
    refine v_nil ?_
    refine q_n ?_
    refine w_ret (q_r ?_)
    refine r_r rfl ?_
    rw [show lessF a b = b by unfold lessF; rw [if_pos h1]]
    exact tr_f
  refine v_nil ?_
  refine q_n ?_
  refine w_f rfl ?_
  refine w_skip ?_
  refine q_n ?_
  refine w_seq ?_
  refine w_reg rfl ?_
  refine v_move rfl ?_
  refine v_assign rfl ?_
  refine v_nil ?_
  refine q_n ?_
  refine w_ret ?_
  refine r_r rfl ?_
  rw [show lessF a b = a by unfold lessF; rw [if_neg (by rw [h1]; decide)]]
  exact tr_f
theorem cLessI (a b : Option Nat) : PureC X 56 [.c (.f .f32 a), .c (.f .f32 b)] (.c (.f .f32 (lessF a b))) := by
  refine PureC.of_body (drawD_ok X) (fun _ _ => Go.Proofs.Try.call56 _ _) Go.Proofs.Try.func56 rfl (n := 10) rfl ?_
  refine w_seq ?_
  refine w_reg rfl ?_
  refine v_assign (c := .f _ _) rfl ?_
  refine v_nil ?_
  refine q_n ?_
  refine w_seq ?_
  refine w_seq ?_
  refine w_reg rfl ?_
  refine v_move rfl ?_
  refine v_move rfl ?_
  refine v_binb lay22 rfl rfl rfl (fun h1 => ?_) (fun h1 => ?_)
  · refine v_nil ?_
    refine q_n ?_
    refine w_t rfl ?_
    refine w_seq ?_
    refine w_reg rfl ?_
    refine v_move rfl ?_
    refine v_assign rfl ?_
    refine v_nil ?_
    refine q_n ?_
    refine w_ret (q_r ?_)
    refine r_r rfl ?_
    rw [show lessF a b = b by unfold lessF; rw [if_pos h1]]
    exact tr_f
  refine v_nil ?_
  refine q_n ?_
  refine w_f rfl ?_
  refine w_skip ?_
  refine q_n ?_
  refine w_seq ?_
  refine w_reg rfl ?_
  refine v_move rfl ?_
  refine v_assign rfl ?_
  refine v_nil ?_
  refine q_n ?_
  refine w_ret ?_
  refine r_r rfl ?_
  rw [show lessF a b = a by unfold lessF; rw [if_neg (by rw [h1]; decide)]]
  exact tr_f
theorem cSndS (r : Rd) (a : Int) (c : Nat) (ha : a = c) (hc : c < 16) : PureC X 51 [.c (.vw false (rdc r) 0), cI a] (.c (.f .f32 (sndR r c))) := by
  refine PureC.of_body (drawD_ok X) (fun _ _ => Go.Proofs.Try.call51 _ _) Go.Proofs.Try.func51 rfl (n := 19) rfl ?_
  refine w_seq ?_
  refine w_reg rfl ?_
  refine v_assign (c := .f _ _) rfl ?_
  refine v_nil ?_
  refine q_n ?_
  refine w_seq ?_
  refine w_draw [0, 1, 3, 7, 0, 0, 16, 80, 240, 496, 1023, 0, 2048, 8191, 16383] [⟨0, 0, []⟩, ⟨1, 0, []⟩, ⟨2, 0, []⟩, ⟨3, 0, []⟩, ⟨4, 0, []⟩, ⟨5, 0, []⟩, ⟨6, 0, []⟩, ⟨7, 0, []⟩, ⟨8, 0, []⟩, ⟨9, 0, []⟩, ⟨10, 0, []⟩, ⟨11, 0, []⟩, ⟨12, 0, []⟩, ⟨13, 0, []⟩, ⟨14, 0, []⟩] rfl rfl ?_
  refine d_q rfl rfl rfl rfl rfl ?_
  refine v_move rfl ?_
  refine v_nil ?_
  refine d_q rfl rfl rfl rfl rfl ?_
  refine v_nil_vw rfl ?_
  refine v_nil ?_
  refine d_q rfl rfl rfl rfl rfl ?_
  refine v_fa_vw (off' := 16) lay35 rfl rfl rfl ?_
  refine v_nil ?_
  refine d_q rfl rfl rfl rfl rfl ?_
  refine v_load_vw (.c (.f _ _)) lay22 rfl rfl rfl ?_
  refine v_nil ?_
  refine d_q rfl rfl rfl rfl rfl ?_
  refine v_move rfl ?_
  refine v_nil ?_
  refine d_q rfl rfl rfl rfl rfl ?_
  refine v_move rfl ?_
  refine v_nil ?_
  refine d_q rfl rfl rfl rfl rfl ?_
  refine v_nil_vw rfl ?_
  refine v_nil ?_
  refine d_q rfl rfl rfl rfl rfl ?_
  refine v_fa_vw (off' := 0) lay35 rfl rfl rfl ?_
  refine v_nil ?_
  refine d_q rfl rfl rfl rfl rfl ?_
  refine v_idx_av_e (k := 1) (c) lay33 lay22 rfl rfl rfl (ha) (hc) ?_
  refine v_nil ?_
  refine d_q rfl rfl rfl rfl rfl ?_
  refine v_load_vw_e (.c (.f .f32 (r.1 ⟨c, hc⟩))) lay22 rfl (by show 0 + c * 1 + 1 ≤ 19; omega) (rd_ld7 r hc) ?_
  refine v_nil ?_
  refine d_q rfl rfl rfl rfl rfl ?_
  refine v_bin (c := .f _ _) lay22 rfl rfl rfl ?_
  refine v_nil ?_
  refine d_q rfl rfl rfl rfl rfl ?_
  refine v_move rfl ?_
  refine v_nil ?_
  refine d_call (cMostS _) rfl rfl rfl rfl rfl (.cons vw_vw .nil) ?_
  refine d_call (cLessS _ _) rfl rfl rfl rfl rfl (.cons vw_f (.cons vw_f .nil)) ?_
  refine d_q rfl rfl rfl rfl rfl ?_
  refine v_assign rfl ?_
  refine v_nil ?_
  refine d_nil ?_
  refine q_n ?_
  refine w_ret ?_
  refine r_r rfl ?_
  rw [show sndR r c = lessF (fop .mul .f32 r.2.1 (cr r c)) (mostR r) from rfl, ← cr_eq hc]
  exact tr_f
theorem cTakS (r : Rd) (a : Int) (c : Nat) (ha : a = c) (hc : c < 16) : PureC X 52 [.c (.vw false (rdc r) 0), cI a] (.c (.f .f32 (takR r c))) := by
  refine PureC.of_body (drawD_ok X) (fun _ _ => Go.Proofs.Try.call52 _ _) Go.Proofs.Try.func52 rfl (n := 20) rfl ?_
  refine w_seq ?_
  refine w_reg rfl ?_
  refine v_assign (c := .f _ _) rfl ?_
  refine v_nil ?_
  refine q_n ?_
  refine w_seq ?_
  refine w_draw [0, 1, 3, 7, 0, 0, 16, 80, 240, 496, 1008, 2047, 0, 4096, 16383, 32767] [⟨0, 0, []⟩, ⟨1, 0, []⟩, ⟨2, 0, []⟩, ⟨3, 0, []⟩, ⟨4, 0, []⟩, ⟨5, 0, []⟩, ⟨6, 0, []⟩, ⟨7, 0, []⟩, ⟨8, 0, []⟩, ⟨9, 0, []⟩, ⟨10, 0, []⟩, ⟨11, 0, []⟩, ⟨12, 0, []⟩, ⟨13, 0, []⟩, ⟨14, 0, []⟩, ⟨15, 0, []⟩] rfl rfl ?_
  refine d_q rfl rfl rfl rfl rfl ?_
  refine v_move rfl ?_
  refine v_nil ?_
  refine d_q rfl rfl rfl rfl rfl ?_
  refine v_nil_vw rfl ?_
  refine v_nil ?_
  refine d_q rfl rfl rfl rfl rfl ?_
  refine v_fa_vw (off' := 17) lay35 rfl rfl rfl ?_
  refine v_nil ?_
  refine d_q rfl rfl rfl rfl rfl ?_
  refine v_load_vw (.c (.f _ _)) lay22 rfl rfl rfl ?_
  refine v_nil ?_
  refine d_q rfl rfl rfl rfl rfl ?_
  refine v_move rfl ?_
  refine v_nil ?_
  refine d_q rfl rfl rfl rfl rfl ?_
  refine v_move rfl ?_
  refine v_nil ?_
  refine d_q rfl rfl rfl rfl rfl ?_
  refine v_nil_vw rfl ?_
  refine v_nil ?_
  refine d_q rfl rfl rfl rfl rfl ?_
  refine v_fa_vw (off' := 0) lay35 rfl rfl rfl ?_
  refine v_nil ?_
  refine d_q rfl rfl rfl rfl rfl ?_
  refine v_idx_av_e (k := 1) (c) lay33 lay22 rfl rfl rfl (ha) (hc) ?_
  refine v_nil ?_
  refine d_q rfl rfl rfl rfl rfl ?_
  refine v_load_vw_e (.c (.f .f32 (r.1 ⟨c, hc⟩))) lay22 rfl (by show 0 + c * 1 + 1 ≤ 19; omega) (rd_ld7 r hc) ?_
  refine v_nil ?_
  refine d_q rfl rfl rfl rfl rfl ?_
  refine v_bin (c := .f _ _) lay22 rfl rfl rfl ?_
  refine v_nil ?_
  refine d_q rfl rfl rfl rfl rfl ?_
  refine v_bin (c := .f _ _) lay22 rfl rfl rfl ?_
  refine v_nil ?_
  refine d_q rfl rfl rfl rfl rfl ?_
  refine v_move rfl ?_
  refine v_nil ?_
  refine d_call (cMostS _) rfl rfl rfl rfl rfl (.cons vw_vw .nil) ?_
  refine d_call (cLessS _ _) rfl rfl rfl rfl rfl (.cons vw_f (.cons vw_f .nil)) ?_
  refine d_q rfl rfl rfl rfl rfl ?_
  refine v_assign rfl ?_
  refine v_nil ?_
  refine d_nil ?_
  refine q_n ?_
  refine w_ret ?_
  refine r_r rfl ?_
  rw [show takR r c = lessF (fop .mul .f32 r.2.2.1 (fop .sub .f32 one32 (cr r c))) (mostR r) from rfl, ← cr_eq hc]
  exact tr_f
theorem cSndI (r : Rd) (a : Int) (c : Nat) (ha : a = c) (hc : c < 16) : PureC X 57 [.agg (rdc r), cI a] (.c (.f .f32 (sndR r c))) := by
  refine PureC.of_body (drawD_ok X) (fun _ _ => Go.Proofs.Try.call57 _ _) Go.Proofs.Try.func57 rfl (n := 15) rfl ?_
  refine w_seq ?_
  refine w_reg rfl ?_
  refine v_box (m := 0) (H' := [_]) lay35 rfl rfl rfl ?_
  refine v_assign (c := .f _ _) rfl ?_
  refine v_nil ?_
  refine q_n ?_
  refine w_seq ?_
  refine w_draw [0, 1, 0, 0, 12, 28, 63, 0, 128, 511, 1023] [⟨0, 0, []⟩, ⟨1, 0, []⟩, ⟨2, 0, []⟩, ⟨3, 0, []⟩, ⟨4, 0, []⟩, ⟨5, 0, []⟩, ⟨6, 0, []⟩, ⟨7, 0, []⟩, ⟨8, 0, []⟩, ⟨9, 0, []⟩, ⟨10, 0, []⟩] rfl rfl ?_
  refine d_q rfl rfl rfl rfl rfl ?_
  refine v_fa_pt (off' := 16) lay35 rfl rfl rfl ?_
  refine v_nil ?_
  refine d_q rfl rfl rfl rfl rfl ?_
  refine v_load_pt (.c _) lay22 rfl rfl rfl rfl ?_
  refine v_nil ?_
  refine d_q rfl rfl rfl rfl rfl ?_
  refine v_move rfl ?_
  refine v_nil ?_
  refine d_q rfl rfl rfl rfl rfl ?_
  refine v_fa_pt (off' := 0) lay35 rfl rfl rfl ?_
  refine v_nil ?_
  refine d_q rfl rfl rfl rfl rfl ?_
  refine v_idx_arr_e (k := 1) (c) lay33 lay22 rfl rfl rfl (ha) (hc) ?_
  refine v_nil ?_
  refine d_q rfl rfl rfl rfl rfl ?_
  refine v_load_flat_e (enc := fe) (ys := rl r) (c) 0 (.c (.f .f32 (r.1 ⟨c, hc⟩))) fe_len lay22 rfl rfl (by omega) (by rw [rl_len]; omega) (by decide) (rl_ld r hc _) ?_
  refine v_nil ?_
  refine d_q rfl rfl rfl rfl rfl ?_
  refine v_bin (c := .f _ _) lay22 rfl rfl rfl ?_
  refine v_nil ?_
  refine d_q rfl rfl rfl rfl rfl ?_
  refine v_load_pt (.agg [_, _, _, _, _, _, _, _, _, _, _, _, _, _, _, _, _, _, _]) lay35 rfl rfl rfl rfl ?_
  refine v_nil ?_
  refine d_call (cMostI _) rfl rfl rfl rfl rfl (.cons (vw_agg (.cons vw_f (.cons vw_f (.cons vw_f (.cons vw_f (.cons vw_f (.cons vw_f (.cons vw_f (.cons vw_f (.cons vw_f (.cons vw_f (.cons vw_f (.cons vw_f (.cons vw_f (.cons vw_f (.cons vw_f (.cons vw_f (.cons vw_f (.cons vw_f (.cons vw_f .nil)))))))))))))))))))) .nil) ?_
  refine d_call (cLessI _ _) rfl rfl rfl rfl rfl (.cons vw_f (.cons vw_f .nil)) ?_
  refine d_q rfl rfl rfl rfl rfl ?_
  refine v_assign rfl ?_
  refine v_nil ?_
  refine d_nil ?_
  refine q_n ?_
  refine w_ret ?_
  refine r_r rfl ?_
  rw [show sndR r c = lessF (fop .mul .f32 r.2.1 (cr r c)) (mostR r) from rfl, ← cr_eq hc]
  exact tr_f
theorem cTakI (r : Rd) (a : Int) (c : Nat) (ha : a = c) (hc : c < 16) : PureC X 58 [.agg (rdc r), cI a] (.c (.f .f32 (takR r c))) := by
  refine PureC.of_body (drawD_ok X) (fun _ _ => Go.Proofs.Try.call58 _ _) Go.Proofs.Try.func58 rfl (n := 16) rfl ?_
  refine w_seq ?_
  refine w_reg rfl ?_
  refine v_box (m := 0) (H' := [_]) lay35 rfl rfl rfl ?_
  refine v_assign (c := .f _ _) rfl ?_
  refine v_nil ?_
  refine q_n ?_
  refine w_seq ?_
  refine w_draw [0, 1, 0, 0, 12, 28, 60, 127, 0, 256, 1023, 2047] [⟨0, 0, []⟩, ⟨1, 0, []⟩, ⟨2, 0, []⟩, ⟨3, 0, []⟩, ⟨4, 0, []⟩, ⟨5, 0, []⟩, ⟨6, 0, []⟩, ⟨7, 0, []⟩, ⟨8, 0, []⟩, ⟨9, 0, []⟩, ⟨10, 0, []⟩, ⟨11, 0, []⟩] rfl rfl ?_
  refine d_q rfl rfl rfl rfl rfl ?_
  refine v_fa_pt (off' := 17) lay35 rfl rfl rfl ?_
  refine v_nil ?_
  refine d_q rfl rfl rfl rfl rfl ?_
  refine v_load_pt (.c _) lay22 rfl rfl rfl rfl ?_
  refine v_nil ?_
  refine d_q rfl rfl rfl rfl rfl ?_
  refine v_move rfl ?_
  refine v_nil ?_
  refine d_q rfl rfl rfl rfl rfl ?_
  refine v_fa_pt (off' := 0) lay35 rfl rfl rfl ?_
  refine v_nil ?_
  refine d_q rfl rfl rfl rfl rfl ?_
  refine v_idx_arr_e (k := 1) (c) lay33 lay22 rfl rfl rfl (ha) (hc) ?_
  refine v_nil ?_
  refine d_q rfl rfl rfl rfl rfl ?_
  refine v_load_flat_e (enc := fe) (ys := rl r) (c) 0 (.c (.f .f32 (r.1 ⟨c, hc⟩))) fe_len lay22 rfl rfl (by omega) (by rw [rl_len]; omega) (by decide) (rl_ld r hc _) ?_
  refine v_nil ?_
  refine d_q rfl rfl rfl rfl rfl ?_
  refine v_bin (c := .f _ _) lay22 rfl rfl rfl ?_
  refine v_nil ?_
  refine d_q rfl rfl rfl rfl rfl ?_
  refine v_bin (c := .f _ _) lay22 rfl rfl rfl ?_
  refine v_nil ?_
  refine d_q rfl rfl rfl rfl rfl ?_
  refine v_load_pt (.agg [_, _, _, _, _, _, _, _, _, _, _, _, _, _, _, _, _, _, _]) lay35 rfl rfl rfl rfl ?_
  refine v_nil ?_
  refine d_call (cMostI _) rfl rfl rfl rfl rfl (.cons (vw_agg (.cons vw_f (.cons vw_f (.cons vw_f (.cons vw_f (.cons vw_f (.cons vw_f (.cons vw_f (.cons vw_f (.cons vw_f (.cons vw_f (.cons vw_f (.cons vw_f (.cons vw_f (.cons vw_f (.cons vw_f (.cons vw_f (.cons vw_f (.cons vw_f (.cons vw_f .nil)))))))))))))))))))) .nil) ?_
  refine d_call (cLessI _ _) rfl rfl rfl rfl rfl (.cons vw_f (.cons vw_f .nil)) ?_
  refine d_q rfl rfl rfl rfl rfl ?_
  refine v_assign rfl ?_
  refine v_nil ?_
  refine d_nil ?_
  refine q_n ?_
  refine w_ret ?_
  refine r_r rfl ?_
  rw [show takR r c = lessF (fop .mul .f32 r.2.2.1 (fop .sub .f32 one32 (cr r c))) (mostR r) from rfl, ← cr_eq hc]
  exact tr_f
theorem cFlwS (r : Rd) (a : Int) (c : Nat) (ha : a = c) (hc : c < 15) : PureC X 24 [.c (.vw false (rdc r) 0), cI a] (.c (.f .f32 (flwR r c))) := by
  refine PureC.of_body (drawD_ok X) (fun _ _ => Go.Proofs.Try.call24 _ _) Go.Proofs.Try.func24 rfl (n := 13) rfl ?_
  refine w_seq ?_
  refine w_reg rfl ?_
  refine v_assign (c := .f _ _) rfl ?_
  refine v_nil ?_
  refine q_n ?_
  refine w_seq ?_
  refine w_reg rfl ?_
  refine v_move rfl ?_
  refine v_move rfl ?_
  refine v_call (cSndS r a c ha (by omega)) rfl rfl rfl (.cons vw_vw (.cons vw_v .nil)) ?_
  refine v_move rfl ?_
  refine v_move rfl ?_
  refine v_add lay2 rfl rfl (i64r (by omega)) ?_
  refine v_call (cTakS r _ (c + 1) (by push_cast; omega) (by omega)) rfl rfl rfl (.cons vw_vw (.cons vw_v .nil)) ?_
  refine v_call (cLessS _ _) rfl rfl rfl (.cons vw_f (.cons vw_f .nil)) ?_
  refine v_assign rfl ?_
  refine v_nil ?_
  refine q_n ?_
  refine w_ret ?_
  refine r_r rfl ?_
  exact tr_f
theorem cFlwI (r : Rd) (a : Int) (c : Nat) (ha : a = c) (hc : c < 15) : PureC X 29 [.agg (rdc r), cI a] (.c (.f .f32 (flwR r c))) := by
  refine PureC.of_body (drawD_ok X) (fun _ _ => Go.Proofs.Try.call29 _ _) Go.Proofs.Try.func29 rfl (n := 13) rfl ?_
  refine w_seq ?_
  refine w_reg rfl ?_
  refine v_box (m := 0) (H' := [_]) lay35 rfl rfl rfl ?_
  refine v_assign (c := .f _ _) rfl ?_
  refine v_nil ?_
  refine q_n ?_
  refine w_seq ?_
  refine w_draw [0, 0, 3, 0, 0, 16, 63, 127, 255] [⟨0, 0, []⟩, ⟨1, 0, []⟩, ⟨2, 0, []⟩, ⟨3, 0, []⟩, ⟨4, 0, []⟩, ⟨5, 0, []⟩, ⟨6, 0, []⟩, ⟨7, 0, []⟩, ⟨8, 0, []⟩] rfl rfl ?_
  refine d_q rfl rfl rfl rfl rfl ?_
  refine v_load_pt (.agg [_, _, _, _, _, _, _, _, _, _, _, _, _, _, _, _, _, _, _]) lay35 rfl rfl rfl rfl ?_
  refine v_nil ?_
  refine d_q rfl rfl rfl rfl rfl ?_
  refine v_move rfl ?_
  refine v_nil ?_
  refine d_call (cSndI r a c ha (by omega)) rfl rfl rfl rfl rfl (.cons (vw_agg (.cons vw_f (.cons vw_f (.cons vw_f (.cons vw_f (.cons vw_f (.cons vw_f (.cons vw_f (.cons vw_f (.cons vw_f (.cons vw_f (.cons vw_f (.cons vw_f (.cons vw_f (.cons vw_f (.cons vw_f (.cons vw_f (.cons vw_f (.cons vw_f (.cons vw_f .nil)))))))))))))))))))) (.cons vw_v .nil)) ?_
  refine d_q rfl rfl rfl rfl rfl ?_
  refine v_load_pt (.agg [_, _, _, _, _, _, _, _, _, _, _, _, _, _, _, _, _, _, _]) lay35 rfl rfl rfl rfl ?_
  refine v_nil ?_
  refine d_q rfl rfl rfl rfl rfl ?_
  refine v_move rfl ?_
  refine v_nil ?_
  refine d_q rfl rfl rfl rfl rfl ?_
  refine v_add lay2 rfl rfl (i64r (by omega)) ?_
  refine v_nil ?_
  refine d_call (cTakI r _ (c + 1) (by push_cast; omega) (by omega)) rfl rfl rfl rfl rfl (.cons (vw_agg (.cons vw_f (.cons vw_f (.cons vw_f (.cons vw_f (.cons vw_f (.cons vw_f (.cons vw_f (.cons vw_f (.cons vw_f (.cons vw_f (.cons vw_f (.cons vw_f (.cons vw_f (.cons vw_f (.cons vw_f (.cons vw_f (.cons vw_f (.cons vw_f (.cons vw_f .nil)))))))))))))))))))) (.cons vw_v .nil)) ?_
  refine d_call (cLessI _ _) rfl rfl rfl rfl rfl (.cons vw_f (.cons vw_f .nil)) ?_
  refine d_q rfl rfl rfl rfl rfl ?_
  refine v_assign rfl ?_
  refine v_nil ?_
  refine d_nil ?_
  refine q_n ?_
  refine w_ret ?_
  refine r_r rfl ?_
  exact tr_f
theorem cAF {b : Nat} (h : okF .f64 (some b)) : PureC X 53 [.c (.f .f64 (some b))] (.c (.f .f64 (flr (some b)))) := pure_way (name := "math.archFloor") Go.Proofs.Try.func53 (by kernel_rfl) rfl (by kernel_rfl) (by kernel_rfl) h
theorem cFlr {b : Nat} (h : okF .f64 (some b)) : PureC X 25 [.c (.f .f64 (some b))] (.c (.f .f64 (flr (some b)))) := by
  refine PureC.of_body (drawD_ok X) (fun _ _ => Go.Proofs.Try.call25 _ _) Go.Proofs.Try.func25 rfl (n := 7) rfl ?_
  refine w_seq ?_
  refine w_reg rfl ?_
  refine v_assign (c := .f _ _) rfl ?_
  refine v_nil ?_
  refine q_n ?_
  refine w_seq ?_
  refine w_t rfl ?_
  refine w_seq ?_
  refine w_reg rfl ?_
  refine v_move rfl ?_
  refine v_call (cAF h) rfl rfl rfl (.cons vw_f .nil) ?_
  refine v_assign rfl ?_
  refine v_nil ?_
  refine q_n ?_
  refine w_ret (q_r ?_)
  refine r_r rfl ?_
  exact tr_f
theorem cCellS (a : Int) : PureC X 46 [cI a] (cB (decide (0 ≤ a ∧ a ≤ 14))) := by
  refine PureC.of_body (drawD_ok X) (fun _ _ => Go.Proofs.Try.call46 _ _) Go.Proofs.Try.func46 rfl (n := 5) rfl ?_
  refine w_seq ?_
  refine w_reg rfl ?_
  refine v_assign (c := .v (.bool false)) rfl ?_
  refine v_nil ?_
  refine q_n ?_
  refine w_seq ?_
  refine w_reg rfl ?_
  refine v_move rfl ?_
  refine v_callb (cIn _ _ _) rfl rfl (.cons vw_v (.cons vw_v (.cons vw_v .nil))) (fun h1 => ?_) (fun h1 => ?_)
  · refine v_assign rfl ?_
    refine v_nil ?_
    refine q_n ?_
    refine w_ret ?_
    refine r_r rfl ?_
    exact a_b (by simp_all)
  refine v_assign rfl ?_
  refine v_nil ?_
  refine q_n ?_
  refine w_ret ?_
  refine r_r rfl ?_
  exact a_b (by simp_all)
theorem cDtS (d : Dt) : PureC X 22 [.c (.vw false (dtc d) 0)] (cB (decide (dtOk d))) := by
  refine PureC.of_body (drawD_ok X) (fun _ _ => Go.Proofs.Try.call22 _ _) Go.Proofs.Try.func22 rfl (n := 43) rfl ?_
  refine w_seq ?_
  refine w_reg rfl ?_
  refine v_assign (c := .v (.bool false)) rfl ?_
  refine v_nil ?_
  refine q_n ?_
  refine w_seq ?_
  refine w_reg rfl ?_
  refine v_move rfl ?_
  refine v_nil_vw rfl ?_
  refine v_fa_vw (off' := 0) lay29 rfl rfl rfl ?_
  refine v_load_vw (.c (.v _)) lay2 rfl rfl rfl ?_
  refine v_callb (cCellS _) rfl rfl (.cons vw_v .nil) (fun h1 => ?_) (fun h1 => ?_)
  rotate_left
  · refine v_move rfl ?_
    refine v_guard_off rfl rfl rfl ?_
    refine v_guard_off rfl rfl rfl ?_
    refine v_guard_off rfl rfl rfl ?_
    refine v_guard_off rfl rfl rfl ?_
    refine v_guard_off rfl rfl rfl ?_
    refine v_pick_f (v := .v (.bool false)) rfl rfl ?_
    refine v_move rfl ?_
    refine v_guard_off rfl rfl rfl ?_
    refine v_guard_off rfl rfl rfl ?_
    refine v_guard_off rfl rfl rfl ?_
    refine v_guard_off rfl rfl rfl ?_
    refine v_guard_off rfl rfl rfl ?_
    refine v_pick_f (v := .v (.bool false)) rfl rfl ?_
    refine v_move rfl ?_
    refine v_guard_off rfl rfl rfl ?_
    refine v_guard_off rfl rfl rfl ?_
    refine v_guard_off rfl rfl rfl ?_
    refine v_guard_off rfl rfl rfl ?_
    refine v_guard_off rfl rfl rfl ?_
    refine v_pick_f (v := .v (.bool false)) rfl rfl ?_
    refine v_move rfl ?_
    refine v_guard_off rfl rfl rfl ?_
    refine v_guard_off rfl rfl rfl ?_
    refine v_guard_off rfl rfl rfl ?_
    refine v_guard_off rfl rfl rfl ?_
    refine v_guard_off rfl rfl rfl ?_
    refine v_pick_f (v := .v (.bool false)) rfl rfl ?_
    refine v_move rfl ?_
    refine v_guard_off rfl rfl rfl ?_
    refine v_guard_off rfl rfl rfl ?_
    refine v_guard_off rfl rfl rfl ?_
    refine v_guard_off rfl rfl rfl ?_
    refine v_guard_off rfl rfl rfl ?_
    refine v_pick_f (v := .v (.bool false)) rfl rfl ?_
    refine v_assign rfl ?_
    refine v_nil ?_
    refine q_n ?_
    refine w_ret ?_
    refine r_r rfl ?_
    exact a_b (by unfold dtOk; first | (simp_all; done) | (simp_all; intros; omega))
  refine v_move rfl ?_
  refine v_guard_on rfl rfl ?_
  refine v_move rfl ?_
  refine v_guard_on rfl rfl ?_
  refine v_nil_vw rfl ?_
  refine v_guard_on rfl rfl ?_
  refine v_fa_vw (off' := 1) lay29 rfl rfl rfl ?_
  refine v_guard_on rfl rfl ?_
  refine v_load_vw (.c (.f _ _)) lay22 rfl rfl rfl ?_
  refine v_guard_on rfl rfl ?_
  refine v_callb (cAmS _) rfl rfl (.cons vw_f .nil) (fun h2 => ?_) (fun h2 => ?_)
  rotate_left
  · refine v_pick_t rfl rfl ?_
    refine v_move rfl ?_
    refine v_guard_off rfl rfl rfl ?_
    refine v_guard_off rfl rfl rfl ?_
    refine v_guard_off rfl rfl rfl ?_
    refine v_guard_off rfl rfl rfl ?_
    refine v_guard_off rfl rfl rfl ?_
    refine v_pick_f (v := .v (.bool false)) rfl rfl ?_
    refine v_move rfl ?_
    refine v_guard_off rfl rfl rfl ?_
    refine v_guard_off rfl rfl rfl ?_
    refine v_guard_off rfl rfl rfl ?_
    refine v_guard_off rfl rfl rfl ?_
    refine v_guard_off rfl rfl rfl ?_
    refine v_pick_f (v := .v (.bool false)) rfl rfl ?_
    refine v_move rfl ?_
    refine v_guard_off rfl rfl rfl ?_
    refine v_guard_off rfl rfl rfl ?_
    refine v_guard_off rfl rfl rfl ?_
    refine v_guard_off rfl rfl rfl ?_
    refine v_guard_off rfl rfl rfl ?_
    refine v_pick_f (v := .v (.bool false)) rfl rfl ?_
    refine v_move rfl ?_
    refine v_guard_off rfl rfl rfl ?_
    refine v_guard_off rfl rfl rfl ?_
    refine v_guard_off rfl rfl rfl ?_
    refine v_guard_off rfl rfl rfl ?_
    refine v_guard_off rfl rfl rfl ?_
    refine v_pick_f (v := .v (.bool false)) rfl rfl ?_
    refine v_assign rfl ?_
    refine v_nil ?_
    refine q_n ?_
    refine w_ret ?_
    refine r_r rfl ?_
    exact a_b (by unfold dtOk; first | (simp_all; done) | (simp_all; intros; omega))
  refine v_pick_t rfl rfl ?_
  refine v_move rfl ?_
  refine v_guard_on rfl rfl ?_
  refine v_move rfl ?_
  refine v_guard_on rfl rfl ?_
  refine v_nil_vw rfl ?_
  refine v_guard_on rfl rfl ?_
  refine v_fa_vw (off' := 1) lay29 rfl rfl rfl ?_
  refine v_guard_on rfl rfl ?_
  refine v_load_vw (.c (.f _ _)) lay22 rfl rfl rfl ?_
  refine v_guard_on rfl rfl ?_
  refine v_binb lay22 rfl rfl rfl (fun h3 => ?_) (fun h3 => ?_)
  rotate_left
  · have hf1 : ¬ flt d.2.1 1065353216 := fun h => absurd (h3.symm.trans h) (by decide)
    refine v_pick_t rfl rfl ?_
    refine v_move rfl ?_
    refine v_guard_off rfl rfl rfl ?_
    refine v_guard_off rfl rfl rfl ?_
    refine v_guard_off rfl rfl rfl ?_
    refine v_guard_off rfl rfl rfl ?_
    refine v_guard_off rfl rfl rfl ?_
    refine v_pick_f (v := .v (.bool false)) rfl rfl ?_
    refine v_move rfl ?_
    refine v_guard_off rfl rfl rfl ?_
    refine v_guard_off rfl rfl rfl ?_
    refine v_guard_off rfl rfl rfl ?_
    refine v_guard_off rfl rfl rfl ?_
    refine v_guard_off rfl rfl rfl ?_
    refine v_pick_f (v := .v (.bool false)) rfl rfl ?_
    refine v_move rfl ?_
    refine v_guard_off rfl rfl rfl ?_
    refine v_guard_off rfl rfl rfl ?_
    refine v_guard_off rfl rfl rfl ?_
    refine v_guard_off rfl rfl rfl ?_
    refine v_guard_off rfl rfl rfl ?_
    refine v_pick_f (v := .v (.bool false)) rfl rfl ?_
    refine v_assign rfl ?_
    refine v_nil ?_
    refine q_n ?_
    refine w_ret ?_
    refine r_r rfl ?_
    exact a_b (by unfold dtOk; first | (simp_all; done) | (simp_all; intros; omega))
  have hf1 : flt d.2.1 1065353216 := h3
  refine v_pick_t rfl rfl ?_
  refine v_move rfl ?_
  refine v_guard_on rfl rfl ?_
  refine v_move rfl ?_
  refine v_guard_on rfl rfl ?_
  refine v_nil_vw rfl ?_
  refine v_guard_on rfl rfl ?_
  refine v_fa_vw (off' := 2) lay29 rfl rfl rfl ?_
  refine v_guard_on rfl rfl ?_
  refine v_load_vw (.c (.v _)) lay23 rfl rfl rfl ?_
  refine v_guard_on rfl rfl ?_
  refine v_geq lay23 rfl rfl (fun h4 => ?_) (fun h4 => ?_)
  rotate_left
  · refine v_pick_t rfl rfl ?_
    refine v_move rfl ?_
    refine v_guard_off rfl rfl rfl ?_
    refine v_guard_off rfl rfl rfl ?_
    refine v_guard_off rfl rfl rfl ?_
    refine v_guard_off rfl rfl rfl ?_
    refine v_guard_off rfl rfl rfl ?_
    refine v_pick_f (v := .v (.bool false)) rfl rfl ?_
    refine v_move rfl ?_
    refine v_guard_off rfl rfl rfl ?_
    refine v_guard_off rfl rfl rfl ?_
    refine v_guard_off rfl rfl rfl ?_
    refine v_guard_off rfl rfl rfl ?_
    refine v_guard_off rfl rfl rfl ?_
    refine v_pick_f (v := .v (.bool false)) rfl rfl ?_
    refine v_assign rfl ?_
    refine v_nil ?_
    refine q_n ?_
    refine w_ret ?_
    refine r_r rfl ?_
    exact a_b (by unfold dtOk; first | (simp_all; done) | (simp_all; intros; omega))
  refine v_pick_t rfl rfl ?_
  refine v_move rfl ?_
  refine v_guard_on rfl rfl ?_
  refine v_move rfl ?_
  refine v_guard_on rfl rfl ?_
  refine v_nil_vw rfl ?_
  refine v_guard_on rfl rfl ?_
  refine v_fa_vw (off' := 3) lay29 rfl rfl rfl ?_
  refine v_guard_on rfl rfl ?_
  refine v_load_vw (.c (.f _ _)) lay22 rfl rfl rfl ?_
  refine v_guard_on rfl rfl ?_
  refine v_callb (cAmS _) rfl rfl (.cons vw_f .nil) (fun h5 => ?_) (fun h5 => ?_)
  rotate_left
  · refine v_pick_t rfl rfl ?_
    refine v_move rfl ?_
    refine v_guard_off rfl rfl rfl ?_
    refine v_guard_off rfl rfl rfl ?_
    refine v_guard_off rfl rfl rfl ?_
    refine v_guard_off rfl rfl rfl ?_
    refine v_guard_off rfl rfl rfl ?_
    refine v_pick_f (v := .v (.bool false)) rfl rfl ?_
    refine v_assign rfl ?_
    refine v_nil ?_
    refine q_n ?_
    refine w_ret ?_
    refine r_r rfl ?_
    exact a_b (by unfold dtOk; first | (simp_all; done) | (simp_all; intros; omega))
  refine v_pick_t rfl rfl ?_
  refine v_move rfl ?_
  refine v_guard_on rfl rfl ?_
  refine v_move rfl ?_
  refine v_guard_on rfl rfl ?_
  refine v_nil_vw rfl ?_
  refine v_guard_on rfl rfl ?_
  refine v_fa_vw (off' := 4) lay29 rfl rfl rfl ?_
  refine v_guard_on rfl rfl ?_
  refine v_load_vw (.c (.v _)) lay2 rfl rfl rfl ?_
  refine v_guard_on rfl rfl ?_
  refine v_callb (cIn _ _ _) rfl rfl (.cons vw_v (.cons vw_v (.cons vw_v .nil))) (fun h6 => ?_) (fun h6 => ?_)
  · refine v_pick_t rfl rfl ?_
    refine v_assign rfl ?_
    refine v_nil ?_
    refine q_n ?_
    refine w_ret ?_
    refine r_r rfl ?_
    exact a_b (by unfold dtOk; first | (simp_all; done) | (simp_all; intros; omega))
  refine v_pick_t rfl rfl ?_
  refine v_assign rfl ?_
  refine v_nil ?_
  refine q_n ?_
  refine w_ret ?_
  refine r_r rfl ?_
  exact a_b (by unfold dtOk; first | (simp_all; done) | (simp_all; intros; omega))
theorem cDtI (d : Dt) (hd : dW d) : PureC X 14 [.agg (dtc d)] (cB (decide (dtOk d))) := by
  refine PureC.of_body (drawD_ok X) (fun _ _ => Go.Proofs.Try.call14 _ _) Go.Proofs.Try.func14 rfl (n := 31) rfl ?_
  refine w_seq ?_
  refine w_reg rfl ?_
  refine v_box (m := 0) (H' := [_]) lay29 rfl rfl rfl ?_
  refine v_assign (c := .v (.bool false)) rfl ?_
  refine v_nil ?_
  refine q_n ?_
  refine w_seq ?_
  refine w_reg rfl ?_
  refine v_fa_pt (off' := 0) lay29 rfl rfl rfl ?_
  refine v_load_pt (.c _) lay2 rfl rfl rfl rfl ?_
  refine v_callb (cInR _ _ _) rfl rfl (.cons vw_v (.cons vw_v (.cons vw_v .nil))) (fun h1 => ?_) (fun h1 => ?_)
  rotate_left
  · refine v_move rfl ?_
    refine v_guard_off rfl rfl rfl ?_
    refine v_guard_off rfl rfl rfl ?_
    refine v_guard_off rfl rfl rfl ?_
    refine v_pick_f (v := .v (.bool false)) rfl rfl ?_
    refine v_move rfl ?_
    refine v_guard_off rfl rfl rfl ?_
    refine v_guard_off rfl rfl rfl ?_
    refine v_guard_off rfl rfl rfl ?_
    refine v_pick_f (v := .v (.bool false)) rfl rfl ?_
    refine v_move rfl ?_
    refine v_guard_off rfl rfl rfl ?_
    refine v_guard_off rfl rfl rfl ?_
    refine v_guard_off rfl rfl rfl ?_
    refine v_pick_f (v := .v (.bool false)) rfl rfl ?_
    refine v_move rfl ?_
    refine v_guard_off rfl rfl rfl ?_
    refine v_guard_off rfl rfl rfl ?_
    refine v_guard_off rfl rfl rfl ?_
    refine v_pick_f (v := .v (.bool false)) rfl rfl ?_
    refine v_move rfl ?_
    refine v_guard_off rfl rfl rfl ?_
    refine v_guard_off rfl rfl rfl ?_
    refine v_guard_off rfl rfl rfl ?_
    refine v_pick_f (v := .v (.bool false)) rfl rfl ?_
    refine v_assign rfl ?_
    refine v_nil ?_
    refine q_n ?_
    refine w_ret ?_
    refine r_r rfl ?_
    exact a_b (by unfold dtOk; first | (simp_all; done) | (simp_all; intros; omega))
  refine v_move rfl ?_
  refine v_guard_on rfl rfl ?_
  refine v_fa_pt (off' := 1) lay29 rfl rfl rfl ?_
  refine v_guard_on rfl rfl ?_
  refine v_load_pt (.c _) lay22 rfl rfl rfl rfl ?_
  refine v_guard_on rfl rfl ?_
  refine v_callb (cAmI _ (by first | exact hd.1 | exact hd.2.1)) rfl rfl (.cons vw_f .nil) (fun h2 => ?_) (fun h2 => ?_)
  rotate_left
  · refine v_pick_t rfl rfl ?_
    refine v_move rfl ?_
    refine v_guard_off rfl rfl rfl ?_
    refine v_guard_off rfl rfl rfl ?_
    refine v_guard_off rfl rfl rfl ?_
    refine v_pick_f (v := .v (.bool false)) rfl rfl ?_
    refine v_move rfl ?_
    refine v_guard_off rfl rfl rfl ?_
    refine v_guard_off rfl rfl rfl ?_
    refine v_guard_off rfl rfl rfl ?_
    refine v_pick_f (v := .v (.bool false)) rfl rfl ?_
    refine v_move rfl ?_
    refine v_guard_off rfl rfl rfl ?_
    refine v_guard_off rfl rfl rfl ?_
    refine v_guard_off rfl rfl rfl ?_
    refine v_pick_f (v := .v (.bool false)) rfl rfl ?_
    refine v_move rfl ?_
    refine v_guard_off rfl rfl rfl ?_
    refine v_guard_off rfl rfl rfl ?_
    refine v_guard_off rfl rfl rfl ?_
    refine v_pick_f (v := .v (.bool false)) rfl rfl ?_
    refine v_assign rfl ?_
    refine v_nil ?_
    refine q_n ?_
    refine w_ret ?_
    refine r_r rfl ?_
    exact a_b (by unfold dtOk; first | (simp_all; done) | (simp_all; intros; omega))
  refine v_pick_t rfl rfl ?_
  refine v_move rfl ?_
  refine v_guard_on rfl rfl ?_
  refine v_fa_pt (off' := 1) lay29 rfl rfl rfl ?_
  refine v_guard_on rfl rfl ?_
  refine v_load_pt (.c _) lay22 rfl rfl rfl rfl ?_
  refine v_guard_on rfl rfl ?_
  refine v_binb lay22 rfl rfl rfl (fun h3 => ?_) (fun h3 => ?_)
  rotate_left
  · have hf1 : ¬ flt d.2.1 1065353216 := fun h => absurd (h3.symm.trans h) (by decide)
    refine v_pick_t rfl rfl ?_
    refine v_move rfl ?_
    refine v_guard_off rfl rfl rfl ?_
    refine v_guard_off rfl rfl rfl ?_
    refine v_guard_off rfl rfl rfl ?_
    refine v_pick_f (v := .v (.bool false)) rfl rfl ?_
    refine v_move rfl ?_
    refine v_guard_off rfl rfl rfl ?_
    refine v_guard_off rfl rfl rfl ?_
    refine v_guard_off rfl rfl rfl ?_
    refine v_pick_f (v := .v (.bool false)) rfl rfl ?_
    refine v_move rfl ?_
    refine v_guard_off rfl rfl rfl ?_
    refine v_guard_off rfl rfl rfl ?_
    refine v_guard_off rfl rfl rfl ?_
    refine v_pick_f (v := .v (.bool false)) rfl rfl ?_
    refine v_assign rfl ?_
    refine v_nil ?_
    refine q_n ?_
    refine w_ret ?_
    refine r_r rfl ?_
    exact a_b (by unfold dtOk; first | (simp_all; done) | (simp_all; intros; omega))
  have hf1 : flt d.2.1 1065353216 := h3
  refine v_pick_t rfl rfl ?_
  refine v_move rfl ?_
  refine v_guard_on rfl rfl ?_
  refine v_fa_pt (off' := 2) lay29 rfl rfl rfl ?_
  refine v_guard_on rfl rfl ?_
  refine v_load_pt (.c _) lay23 rfl rfl rfl rfl ?_
  refine v_guard_on rfl rfl ?_
  refine v_geq lay23 rfl rfl (fun h4 => ?_) (fun h4 => ?_)
  rotate_left
  · refine v_pick_t rfl rfl ?_
    refine v_move rfl ?_
    refine v_guard_off rfl rfl rfl ?_
    refine v_guard_off rfl rfl rfl ?_
    refine v_guard_off rfl rfl rfl ?_
    refine v_pick_f (v := .v (.bool false)) rfl rfl ?_
    refine v_move rfl ?_
    refine v_guard_off rfl rfl rfl ?_
    refine v_guard_off rfl rfl rfl ?_
    refine v_guard_off rfl rfl rfl ?_
    refine v_pick_f (v := .v (.bool false)) rfl rfl ?_
    refine v_assign rfl ?_
    refine v_nil ?_
    refine q_n ?_
    refine w_ret ?_
    refine r_r rfl ?_
    exact a_b (by unfold dtOk; first | (simp_all; done) | (simp_all; intros; omega))
  refine v_pick_t rfl rfl ?_
  refine v_move rfl ?_
  refine v_guard_on rfl rfl ?_
  refine v_fa_pt (off' := 3) lay29 rfl rfl rfl ?_
  refine v_guard_on rfl rfl ?_
  refine v_load_pt (.c _) lay22 rfl rfl rfl rfl ?_
  refine v_guard_on rfl rfl ?_
  refine v_callb (cAmI _ (by first | exact hd.1 | exact hd.2.1)) rfl rfl (.cons vw_f .nil) (fun h5 => ?_) (fun h5 => ?_)
  rotate_left
  · refine v_pick_t rfl rfl ?_
    refine v_move rfl ?_
    refine v_guard_off rfl rfl rfl ?_
    refine v_guard_off rfl rfl rfl ?_
    refine v_guard_off rfl rfl rfl ?_
    refine v_pick_f (v := .v (.bool false)) rfl rfl ?_
    refine v_assign rfl ?_
    refine v_nil ?_
    refine q_n ?_
    refine w_ret ?_
    refine r_r rfl ?_
    exact a_b (by unfold dtOk; first | (simp_all; done) | (simp_all; intros; omega))
  refine v_pick_t rfl rfl ?_
  refine v_move rfl ?_
  refine v_guard_on rfl rfl ?_
  refine v_fa_pt (off' := 4) lay29 rfl rfl rfl ?_
  refine v_guard_on rfl rfl ?_
  refine v_load_pt (.c _) lay2 rfl rfl rfl rfl ?_
  refine v_guard_on rfl rfl ?_
  refine v_callb (cInR _ _ _) rfl rfl (.cons vw_v (.cons vw_v (.cons vw_v .nil))) (fun h6 => ?_) (fun h6 => ?_)
  · refine v_pick_t rfl rfl ?_
    refine v_assign rfl ?_
    refine v_nil ?_
    refine q_n ?_
    refine w_ret ?_
    refine r_r rfl ?_
    exact a_b (by unfold dtOk; first | (simp_all; done) | (simp_all; intros; omega))
  refine v_pick_t rfl rfl ?_
  refine v_assign rfl ?_
  refine v_nil ?_
  refine q_n ?_
  refine w_ret ?_
  refine r_r rfl ?_
  exact a_b (by unfold dtOk; first | (simp_all; done) | (simp_all; intros; omega))
theorem cAFi1 (x : Option Nat) : PureC X 60 [.c (.f .f32 x)] (cB (decide (¬ fin x = true))) := by
  refine PureC.of_body (drawD_ok X) (fun _ _ => Go.Proofs.Try.call60 _ _) Go.Proofs.Try.func60 rfl (n := 6) rfl ?_
  refine w_seq ?_
  refine w_reg rfl ?_
  refine v_assign (c := .v (.bool false)) rfl ?_
  refine v_nil ?_
  refine q_n ?_
  refine w_seq ?_
  refine w_reg rfl ?_
  refine v_move rfl ?_
  refine v_callb (cFinI _) rfl rfl (.cons vw_f .nil) (fun h1 => ?_) (fun h1 => ?_)
  rotate_left
  · refine v_not true rfl rfl ?_
    refine v_assign rfl ?_
    refine v_nil ?_
    refine q_n ?_
    refine w_ret ?_
    refine r_r rfl ?_
    exact a_b (by simp_all)
  refine v_not false rfl rfl ?_
  refine v_assign rfl ?_
  refine v_nil ?_
  refine q_n ?_
  refine w_ret ?_
  refine r_r rfl ?_
  exact a_b (by simp_all)
theorem cIFf (g : FuncId) (pr : (Option Nat) → Prop) [DecidablePred pr] (xs : List (Option Nat)) (hx : xs.length ≤ 2 ^ 40) (hF : ∀ x ∈ xs, PureC X g [.c (.f .f32 x)] (cB (decide (pr x)))) : PureC X 73 [.c (.sl false xs.length 1 (flat fe xs)), .c (.fn g [])] (cI (fix pr xs)) := by
  refine PureC.of_body (drawD_ok X) (fun _ _ => Go.Proofs.Try.call73 _ _) Go.Proofs.Try.func73 rfl (n := 19) rfl ?_
  refine w_seq ?_
  refine w_reg rfl ?_
  refine v_assign (c := .v (.int .i64 0)) rfl ?_
  refine v_nil ?_
  refine q_n ?_
  refine w_seq ?_
  refine w_seq ?_
  refine w_reg rfl ?_
  refine v_move rfl ?_
  refine v_len_sl lay80 rfl ?_
  refine v_move (c := .v (.int .i64 0)) rfl ?_
  refine v_nil ?_
  refine q_n ?_
  refine w_block ?_
  refine w_loop (fun k sl H => ∃ i : Nat, k = xs.length - i ∧ i ≤ xs.length ∧ (∀ x ∈ xs.take i, ¬ pr x) ∧ sl = sls [(0, .c (.sl false xs.length 1 (flat fe xs))), (1, .c (.fn g [])), (7, cI xs.length), (8, cI i)] ∧ H = []) ?_ ?_
  · refine ⟨_, _, _, ?_, 0, rfl, Nat.zero_le _, by simp, rfl, rfl⟩
    exact turn0 ⟨tr_sl, tr_fn0, tr_v, tr_v, trivial⟩
  rintro k sl H ⟨i, rfl, hi, hp, rfl, rfl⟩
  refine w_seq ?_
  refine w_reg rfl ?_
  refine v_lss lay3 rfl rfl (fun h1 => ?_) (fun h1 => ?_)
  rotate_left
  · refine v_nil ?_
    refine q_n ?_
    refine w_seq ?_
    refine w_f rfl ?_
    refine w_exit ?_
    refine q_e ?_
    refine q_e ?_
    refine q_hit ?_
    refine q_n ?_
    refine w_seq ?_
    refine w_reg rfl ?_
    refine v_assign (c := .v (.int .i64 (-1))) rfl ?_
    refine v_nil ?_
    refine q_n ?_
    refine w_ret ?_
    refine r_r rfl ?_
    obtain rfl : i = xs.length := by omega
    rw [List.take_length] at hp
    exact a_i (fix_none hp).symm
  have hj : i < xs.length := by omega
  refine v_nil ?_
  refine q_n ?_
  refine w_seq ?_
  refine w_t rfl ?_
  refine w_skip ?_
  refine q_n ?_
  refine w_seq ?_
  refine w_block ?_
  refine w_seq ?_
  refine w_reg rfl ?_
  refine v_move rfl ?_
  refine v_assign rfl ?_
  refine v_nil ?_
  refine q_n ?_
  refine w_seq ?_
  refine w_reg rfl ?_
  refine v_move rfl ?_
  refine v_move rfl ?_
  refine v_move rfl ?_
  refine v_idx_e (k := 1) (i) fe_len lay80 lay22 rfl rfl rfl (rfl) rfl (rfl) ((by omega : i < xs.length)) ?_
  refine v_load_vw (.c (.f _ _)) lay22 rfl rfl rfl ?_
  refine v_callb (hF _ (List.getElem_mem hj)) rfl rfl (.cons vw_f .nil) (fun h3 => ?_) (fun h3 => ?_)
  · refine v_nil ?_
    refine q_n ?_
    refine w_t rfl ?_
    refine w_seq ?_
    refine w_reg rfl ?_
    refine v_move rfl ?_
    refine v_assign rfl ?_
    refine v_nil ?_
    refine q_n ?_
    refine w_ret (q_br (q_r (q_r (q_br (q_r ?_)))))
    refine r_r rfl ?_
    exact a_i (fix_hit hj hp h3).symm
  refine v_nil ?_
  refine q_n ?_
  refine w_f rfl ?_
  refine w_skip ?_
  refine q_bn ?_
  refine q_n ?_
  refine w_reg rfl ?_
  refine v_add lay3 rfl rfl (i64r (by omega)) ?_
  refine v_move rfl ?_
  refine v_nil ?_
  refine q_n ?_
  refine ⟨_, _, _, ?_, ⟨i + 1, rfl, by omega, all_step hj hp h3, rfl, rfl⟩, by omega⟩
  exact turn0 ⟨tr_sl, tr_fn0, tr_v, tr_v, trivial⟩
theorem cCFf (g : FuncId) (pr : (Option Nat) → Prop) [DecidablePred pr] (xs : List (Option Nat)) (hx : xs.length ≤ 2 ^ 40) (hF : ∀ x ∈ xs, PureC X g [.c (.f .f32 x)] (cB (decide (pr x)))) : PureC X 59 [.c (.sl false xs.length 1 (flat fe xs)), .c (.fn g [])] (cB (decide (∃ x ∈ xs, pr x))) := by
  refine PureC.of_body (drawD_ok X) (fun _ _ => Go.Proofs.Try.call59 _ _) Go.Proofs.Try.func59 rfl (n := 9) rfl ?_
  refine w_seq ?_
  refine w_reg rfl ?_
  refine v_assign (c := .v (.bool false)) rfl ?_
  refine v_nil ?_
  refine q_n ?_
  refine w_seq ?_
  refine w_reg rfl ?_
  refine v_move rfl ?_
  refine v_move rfl ?_
  refine v_call (cIFf _ _ _ hx hF) rfl rfl rfl (.cons vw_sl (.cons (vw_fn .nil) .nil)) ?_
  refine v_geq lay3 rfl rfl (fun h1 => ?_) (fun h1 => ?_)
  · refine v_assign rfl ?_
    refine v_nil ?_
    refine q_n ?_
    refine w_ret ?_
    refine r_r rfl ?_
    exact a_b (by simp only [true_iff]; exact (fix_ge _ _).1 h1)
  refine v_assign rfl ?_
  refine v_nil ?_
  refine q_n ?_
  refine w_ret ?_
  refine r_r rfl ?_
  exact a_b (by simp only [Bool.false_eq_true, false_iff]; exact fun h => h1 ((fix_ge _ _).2 h))
theorem cFins (xs : List (Option Nat)) (hx : xs.length ≤ 2 ^ 40) : PureC X 30 [.c (flo false xs)] (cB (decide (∀ x ∈ xs, fin x = true))) := by
  refine PureC.of_body (drawD_ok X) (fun _ _ => Go.Proofs.Try.call30 _ _) Go.Proofs.Try.func30 rfl (n := 6) rfl ?_
  refine w_seq ?_
  refine w_reg rfl ?_
  refine v_assign (c := .v (.bool false)) rfl ?_
  refine v_nil ?_
  refine q_n ?_
  refine w_seq ?_
  refine w_reg rfl ?_
  refine v_move rfl ?_
  refine v_callb (cCFf 60 (fun x => ¬ fin x = true) _ hx (fun x _ => cAFi1 x)) rfl rfl (.cons vw_sl (.cons (vw_fn .nil) .nil)) (fun h1 => ?_) (fun h1 => ?_)
  rotate_left
  · refine v_not true rfl rfl ?_
    refine v_assign rfl ?_
    refine v_nil ?_
    refine q_n ?_
    refine w_ret ?_
    refine r_r rfl ?_
    exact a_b (by simp only [true_iff]; exact fun x hx1 => Decidable.byContradiction fun hn => h1 ⟨x, hx1, hn⟩)
  refine v_not false rfl rfl ?_
  refine v_assign rfl ?_
  refine v_nil ?_
  refine q_n ?_
  refine w_ret ?_
  refine r_r rfl ?_
  exact a_b (by simp only [Bool.false_eq_true, false_iff]; exact fun h => by obtain ⟨x, hx1, hn⟩ := h1; exact hn (h x hx1))
theorem cMin (a b : Int) : PureC X 26 [cI a, cI b] (cI (min a b)) := by
  refine PureC.of_body (drawD_ok X) (fun _ _ => Go.Proofs.Try.call26 _ _) Go.Proofs.Try.func26 rfl (n := 10) rfl ?_
  refine w_seq ?_
  refine w_reg rfl ?_
  refine v_assign (c := .v (.int .i64 0)) rfl ?_
  refine v_nil ?_
  refine q_n ?_
  refine w_seq ?_
  refine w_seq ?_
  refine w_reg rfl ?_
  refine v_move rfl ?_
  refine v_move rfl ?_
  refine v_lss lay2 rfl rfl (fun h1 => ?_) (fun h1 => ?_)
  · refine v_nil ?_
    refine q_n ?_
    refine w_t rfl ?_
    refine w_seq ?_
    refine w_reg rfl ?_
    refine v_move rfl ?_
    refine v_assign rfl ?_
    refine v_nil ?_
    refine q_n ?_
    refine w_ret (q_r ?_)
    refine r_r rfl ?_
    exact a_i (by omega)
  refine v_nil ?_
  refine q_n ?_
  refine w_f rfl ?_
  refine w_skip ?_
  refine q_n ?_
  refine w_seq ?_
  refine w_reg rfl ?_
  refine v_move rfl ?_
  refine v_assign rfl ?_
  refine v_nil ?_
  refine q_n ?_
  refine w_ret ?_
  refine r_r rfl ?_
  exact a_i (by omega)
theorem cWatS (d : Dt) (r : Rd) (hd : dW d) (hr : rW r) : PureC X 5 [.agg (dtc d), .agg (rdc r)] (.tup [.agg (dtc (wch d r).1), cI (wch d r).2]) := by
  refine PureC.of_body (drawD_ok X) (fun _ _ => Go.Proofs.Try.call5 _ _) Go.Proofs.Try.func5 rfl (n := 60) rfl ?_
  refine w_seq ?_
  refine w_reg rfl ?_
  refine v_box (m := 0) (H' := [_]) lay29 rfl rfl rfl ?_
  refine v_box (m := 1) (H' := [_, _]) lay35 rfl rfl rfl ?_
  refine v_alloc (m := 2) (H' := [_, _, ⟨[.v _, .f _ _, .v _, .f _ _, .v _], 29, true⟩]) lay29 rfl rfl ?_
  refine v_assign (c := .v (.int .i64 0)) rfl ?_
  refine v_nil ?_
  refine q_n ?_
  refine w_seq ?_
  refine w_seq ?_
  refine w_reg rfl ?_
  refine v_callb (cDtS _) rfl rfl (.cons (vw_pt rfl (.cons .v (.cons .f (.cons .v (.cons .f (.cons .v .nil)))))) .nil) (fun h1 => ?_) (fun h1 => ?_)
  rotate_left
  · refine v_not true rfl rfl ?_
    refine v_move rfl ?_
    refine v_guard_off rfl rfl rfl ?_
    refine v_guard_off rfl rfl rfl ?_
    refine v_pick_t (v := .v (.bool true)) rfl rfl ?_
    refine v_nil ?_
    refine q_n ?_
    refine w_t rfl ?_
    refine w_seq ?_
    refine w_reg rfl ?_
    refine v_build [(0, 1), (1, 1), (2, 1), (3, 1), (4, 1)] [.v _, .f _ _, .v _, .f _ _, .v _] lay29 rfl rfl ?_
    refine v_store (H' := [_, _, ⟨[_, _, _, _, _], 29, true⟩]) lay29 rfl rfl rfl rfl rfl rfl ?_
    refine v_assign (c := .v (.int .i64 1)) rfl ?_
    refine v_nil ?_
    refine q_n ?_
    refine w_ret (q_r ?_)
    refine r_r rfl ?_
    have e : wch d r = (zD, 1) := by unfold wch; rw [if_neg (fun h => h1 h.1)]
    rw [e]
    exact a_tup (.cons (a_agg (.cons tr_v (.cons tr_f (.cons tr_v (.cons tr_f (.cons tr_v .nil)))))) (.cons tr_v .nil))
  have hk := h1
  refine v_not false rfl rfl ?_
  refine v_move rfl ?_
  refine v_guard_on rfl rfl ?_
  refine v_callb (cRdS r hr) rfl rfl (.cons (vw_pt rfl (.cons .f (.cons .f (.cons .f (.cons .f (.cons .f (.cons .f (.cons .f (.cons .f (.cons .f (.cons .f (.cons .f (.cons .f (.cons .f (.cons .f (.cons .f (.cons .f (.cons .f (.cons .f (.cons .f .nil)))))))))))))))))))) .nil) (fun h2 => ?_) (fun h2 => ?_)
  rotate_left
  · refine v_guard_on rfl rfl ?_
    refine v_not true rfl rfl ?_
    refine v_pick_f rfl rfl ?_
    refine v_nil ?_
    refine q_n ?_
    refine w_t rfl ?_
    refine w_seq ?_
    refine w_reg rfl ?_
    refine v_build [(0, 1), (1, 1), (2, 1), (3, 1), (4, 1)] [.v _, .f _ _, .v _, .f _ _, .v _] lay29 rfl rfl ?_
    refine v_store (H' := [_, _, ⟨[_, _, _, _, _], 29, true⟩]) lay29 rfl rfl rfl rfl rfl rfl ?_
    refine v_assign (c := .v (.int .i64 1)) rfl ?_
    refine v_nil ?_
    refine q_n ?_
    refine w_ret (q_r ?_)
    refine r_r rfl ?_
    have e : wch d r = (zD, 1) := by unfold wch; rw [if_neg (fun h => h2 h.2)]
    rw [e]
    exact a_tup (.cons (a_agg (.cons tr_v (.cons tr_f (.cons tr_v (.cons tr_f (.cons tr_v .nil)))))) (.cons tr_v .nil))
  have ho := h2
  obtain ⟨A, hA, hA1⟩ := wA_rung hd hr hk ho
  have hN := wN_le hA hA1
  obtain ⟨s1, s2, s3, s4, s5, s6⟩ := small_w _ hN
  obtain ⟨w, hw, hfl⟩ := flr_wide (show A < 2139095040 by omega)
  have hwo : okF .f64 (some w) := fun b hb => by
    obtain ⟨q, e1, e2⟩ := wide_some (b := A) (okF_of_rung (by omega))
    rw [hw] at e1
    cases e1
    exact e2 b hb
  obtain ⟨hc1, hc2⟩ : (0 ≤ d.1 ∧ d.1 ≤ 14) := hk.1
  have hcn : d.1 = (d.1.toNat : Int) := by omega
  have hcl : d.1.toNat < 15 := by omega
  have hc16 : d.1.toNat < 16 := by omega
  have hk3 := hk.2.2.2.1
  have hk4 := hk.2.2.2.2.2
  have hdw := hd.2.2
  obtain ⟨F, hF, hF1⟩ := full_rung hd hr hk ho
  have hlt := wC_lt hA hA1
  have hsb := wC_sub hA hA1
  have hAd : fop .add .f32 d.2.1 (fop .mul .f32 (flwR r d.1.toNat) r.2.2.2) = some A := hA
  have hflr : flr (some w) = some (n64 (wN d r)) := hfl.trans (by unfold wN; rw [hA]; rfl)
  refine v_guard_on rfl rfl ?_
  refine v_not false rfl rfl ?_
  refine v_pick_f rfl rfl ?_
  refine v_nil ?_
  refine q_n ?_
  refine w_f rfl ?_
  refine w_skip ?_
  refine q_n ?_
  refine w_seq ?_
  refine w_draw [0, 1, 0, 4, 12, 0, 32, 124, 255, 511] [⟨0, 0, []⟩, ⟨1, 0, []⟩, ⟨2, 0, []⟩, ⟨3, 0, []⟩, ⟨4, 0, []⟩, ⟨5, 0, []⟩, ⟨6, 0, []⟩, ⟨7, 0, []⟩, ⟨8, 0, []⟩, ⟨9, 0, []⟩] rfl rfl ?_
  refine d_q rfl rfl rfl rfl rfl ?_
  refine v_fa_pt (off' := 1) lay29 rfl rfl rfl ?_
  refine v_nil ?_
  refine d_q rfl rfl rfl rfl rfl ?_
  refine v_load_pt (.c _) lay22 rfl rfl rfl rfl ?_
  refine v_nil ?_
  refine d_q rfl rfl rfl rfl rfl ?_
  refine v_fa_pt (off' := 0) lay29 rfl rfl rfl ?_
  refine v_nil ?_
  refine d_q rfl rfl rfl rfl rfl ?_
  refine v_load_pt (.c _) lay2 rfl rfl rfl rfl ?_
  refine v_nil ?_
  refine d_call (cFlwS r _ _ hcn hcl) rfl rfl rfl rfl rfl (.cons (vw_pt rfl (.cons .f (.cons .f (.cons .f (.cons .f (.cons .f (.cons .f (.cons .f (.cons .f (.cons .f (.cons .f (.cons .f (.cons .f (.cons .f (.cons .f (.cons .f (.cons .f (.cons .f (.cons .f (.cons .f .nil)))))))))))))))))))) (.cons vw_v .nil)) ?_
  refine d_q rfl rfl rfl rfl rfl ?_
  refine v_fa_pt (off' := 18) lay35 rfl rfl rfl ?_
  refine v_nil ?_
  refine d_q rfl rfl rfl rfl rfl ?_
  refine v_load_pt (.c _) lay22 rfl rfl rfl rfl ?_
  refine v_nil ?_
  refine d_q rfl rfl rfl rfl rfl ?_
  refine v_bin (c := .f _ _) lay22 rfl rfl rfl ?_
  refine v_nil ?_
  refine d_q rfl rfl rfl rfl rfl ?_
  refine v_bin (c := .f _ _) lay22 rfl rfl rfl ?_
  rw [hAd]
  refine v_nil ?_
  refine d_q rfl rfl rfl rfl rfl ?_
  refine v_assign rfl ?_
  refine v_nil ?_
  refine d_nil ?_
  refine q_n ?_
  refine w_seq ?_
  refine w_reg rfl ?_
  refine v_move rfl ?_
  refine v_conv_ff _ lay22 lay59 rfl hw ?_
  refine v_call (cFlr hwo) rfl rfl rfl (.cons vw_f .nil) ?_
  rw [hflr]
  refine v_assign rfl ?_
  refine v_nil ?_
  refine q_n ?_
  refine w_seq ?_
  refine w_reg rfl ?_
  refine v_fa_pt (off' := 2) lay29 rfl rfl rfl ?_
  refine v_load_pt (.c _) lay23 rfl rfl rfl rfl ?_
  refine v_conv_ii lay23 lay2 rfl (i64r (by omega)) ?_
  refine v_move rfl ?_
  refine v_conv_fi (wN d r : Int) lay59 lay2 rfl s1 (i64r (by omega)) ?_
  refine v_add lay2 rfl rfl (i64r (by omega)) ?_
  refine v_assign rfl ?_
  refine v_nil ?_
  refine q_n ?_
  refine w_seq ?_
  refine w_reg rfl ?_
  refine v_move rfl ?_
  refine v_move rfl ?_
  refine v_conv_ff _ lay59 lay22 rfl s2 ?_
  refine v_bin (c := .f _ _) lay22 rfl rfl rfl ?_
  rw [show fop .sub .f32 (some A) (some (n32 (wN d r))) = some (wC d r) from hsb]
  refine v_fa_pt (off' := 1) lay29 rfl rfl rfl ?_
  refine v_store (H' := [⟨[_, _, _, _, _], 29, true⟩, _, _]) lay22 rfl rfl rfl rfl rfl rfl ?_
  refine v_nil ?_
  refine q_n ?_
  refine w_seq ?_
  refine w_reg rfl ?_
  refine v_move rfl ?_
  refine v_call (cMin _ _) rfl rfl rfl (.cons vw_v (.cons vw_v .nil)) ?_
  refine v_conv_ii lay2 lay23 rfl (⟨show (-32768 : Int) ≤ _ by omega, show _ ≤ (32767 : Int) by omega⟩) ?_
  refine v_fa_pt (off' := 2) lay29 rfl rfl rfl ?_
  refine v_store (H' := [⟨[_, _, _, _, _], 29, true⟩, _, _]) lay23 rfl rfl rfl rfl rfl rfl ?_
  refine v_nil ?_
  refine q_n ?_
  refine w_seq ?_
  refine w_draw [0, 1, 0, 4, 0, 28, 60, 127, 255, 511] [⟨0, 0, []⟩, ⟨1, 0, []⟩, ⟨2, 0, []⟩, ⟨3, 0, []⟩, ⟨4, 0, []⟩, ⟨5, 0, []⟩, ⟨6, 0, []⟩, ⟨7, 0, []⟩, ⟨8, 0, []⟩, ⟨9, 1, []⟩] rfl rfl ?_
  refine d_q rfl rfl rfl rfl rfl ?_
  refine v_fa_pt (off' := 3) lay29 rfl rfl rfl ?_
  refine v_nil ?_
  refine d_q rfl rfl rfl rfl rfl ?_
  refine v_load_pt (.c _) lay22 rfl rfl rfl rfl ?_
  refine v_nil ?_
  refine d_q rfl rfl rfl rfl rfl ?_
  refine v_fa_pt (off' := 0) lay29 rfl rfl rfl ?_
  refine v_nil ?_
  refine d_q rfl rfl rfl rfl rfl ?_
  refine v_load_pt (.c _) lay2 rfl rfl rfl rfl ?_
  refine v_nil ?_
  refine d_q rfl rfl rfl rfl rfl ?_
  refine v_fa_pt (off' := 0) lay35 rfl rfl rfl ?_
  refine v_nil ?_
  refine d_q rfl rfl rfl rfl rfl ?_
  refine v_idx_arr_e (k := 1) (d.1.toNat) lay33 lay22 rfl rfl rfl (hcn) (hc16) ?_
  refine v_nil ?_
  refine d_q rfl rfl rfl rfl rfl ?_
  refine v_load_flat_e (enc := fe) (ys := rl r) (d.1.toNat) 0 (.c (.f .f32 (r.1 ⟨d.1.toNat, hc16⟩))) fe_len lay22 rfl rfl (by omega) (by rw [rl_len]; omega) (by decide) (rl_ld r hc16 _) ?_
  refine v_nil ?_
  refine d_q rfl rfl rfl rfl rfl ?_
  refine v_bin (c := .f _ _) lay22 rfl rfl rfl ?_
  rw [cr_eq hc16]
  refine v_nil ?_
  refine d_q rfl rfl rfl rfl rfl ?_
  refine v_fa_pt (off' := 3) lay29 rfl rfl rfl ?_
  refine v_nil ?_
  refine d_e rfl rfl rfl ?_
  refine v_store (H' := [⟨[_, _, _, _, _], 29, true⟩, _, _]) lay22 rfl rfl rfl rfl rfl rfl ?_
  refine v_nil ⟨again_nil, ?_⟩
  refine d_nil ?_
  refine q_n ?_
  refine w_seq ?_
  refine w_reg rfl ?_
  refine v_fa_pt (off' := 4) lay29 rfl rfl rfl ?_
  refine v_load_pt (.c _) lay2 rfl rfl rfl rfl ?_
  refine v_add lay2 rfl rfl (i64r (by omega)) ?_
  refine v_fa_pt (off' := 4) lay29 rfl rfl rfl ?_
  refine v_store (H' := [⟨[_, _, _, _, _], 29, true⟩, _, _]) lay2 rfl rfl rfl rfl rfl rfl ?_
  refine v_nil ?_
  refine q_n ?_
  refine w_seq ?_
  refine w_seq ?_
  refine w_reg rfl ?_
  refine v_callb (cDtS (wD d r)) rfl rfl (.cons (vw_pt rfl (.cons .v (.cons .f (.cons .v (.cons .f (.cons .v .nil)))))) .nil) (fun h3 => ?_) (fun h3 => ?_)
  · have h5 := (wD_ok hd hr hk ho).1 h3
    refine v_not false rfl rfl ?_
    refine v_nil ?_
    refine q_n ?_
    refine w_f rfl ?_
    refine w_skip ?_
    refine q_n ?_
    refine w_seq ?_
    refine w_reg rfl ?_
    refine v_load_pt (.agg [_, _, _, _, _]) lay29 rfl rfl rfl rfl ?_
    refine v_store (H' := [_, _, ⟨[_, _, _, _, _], 29, true⟩]) lay29 rfl rfl rfl rfl rfl rfl ?_
    refine v_assign (c := .v (.int .i64 0)) rfl ?_
    refine v_nil ?_
    refine q_n ?_
    refine w_ret ?_
    refine r_r rfl ?_
    have e : wch d r = (wD d r, 0) := by unfold wch; rw [if_pos ⟨hk, ho⟩, if_pos (by omega)]
    rw [e]
    exact a_tup (.cons (a_agg (.cons tr_v (.cons tr_f (.cons tr_v (.cons tr_f (.cons tr_v .nil)))))) (.cons tr_v .nil))
  have h5 : ¬ _ := fun h => h3 ((wD_ok hd hr hk ho).2 h)
  refine v_not true rfl rfl ?_
  refine v_nil ?_
  refine q_n ?_
  refine w_t rfl ?_
  refine w_seq ?_
  refine w_reg rfl ?_
  refine v_build [(0, 1), (1, 1), (2, 1), (3, 1), (4, 1)] [.v _, .f _ _, .v _, .f _ _, .v _] lay29 rfl rfl ?_
  refine v_store (H' := [_, _, ⟨[_, _, _, _, _], 29, true⟩]) lay29 rfl rfl rfl rfl rfl rfl ?_
  refine v_assign (c := .v (.int .i64 4)) rfl ?_
  refine v_nil ?_
  refine q_n ?_
  refine w_ret (q_r ?_)
  refine r_r rfl ?_
  have e : wch d r = (zD, 4) := by unfold wch; rw [if_pos ⟨hk, ho⟩, if_neg (by omega)]
  rw [e]
  exact a_tup (.cons (a_agg (.cons tr_v (.cons tr_f (.cons tr_v (.cons tr_f (.cons tr_v .nil)))))) (.cons tr_v .nil))
theorem cWatI (d : Dt) (r : Rd) (hd : dW d) (hr : rW r) : PureC X 8 [.agg (dtc d), .agg (rdc r)] (.tup [.agg (dtc (wch d r).1), cI (wch d r).2]) := by
  refine PureC.of_body (drawD_ok X) (fun _ _ => Go.Proofs.Try.call8 _ _) Go.Proofs.Try.func8 rfl (n := 71) rfl ?_
  refine w_seq ?_
  refine w_reg rfl ?_
  refine v_box (m := 0) (H' := [_]) lay29 rfl rfl rfl ?_
  refine v_box (m := 1) (H' := [_, _]) lay35 rfl rfl rfl ?_
  refine v_alloc (m := 2) (H' := [_, _, ⟨[.v _, .f _ _, .v _, .f _ _, .v _], 29, true⟩]) lay29 rfl rfl ?_
  refine v_assign (c := .v (.int .i64 0)) rfl ?_
  refine v_nil ?_
  refine q_n ?_
  refine w_seq ?_
  refine w_seq ?_
  refine w_reg rfl ?_
  refine v_load_pt (.agg [_, _, _, _, _]) lay29 rfl rfl rfl rfl ?_
  refine v_callb (cDtI d hd) rfl rfl (.cons (vw_agg (.cons vw_v (.cons vw_f (.cons vw_v (.cons vw_f (.cons vw_v .nil)))))) .nil) (fun h1 => ?_) (fun h1 => ?_)
  rotate_left
  · refine v_not true rfl rfl ?_
    refine v_move rfl ?_
    refine v_guard_off rfl rfl rfl ?_
    refine v_guard_off rfl rfl rfl ?_
    refine v_guard_off rfl rfl rfl ?_
    refine v_pick_t (v := .v (.bool true)) rfl rfl ?_
    refine v_nil ?_
    refine q_n ?_
    refine w_t rfl ?_
    refine w_seq ?_
    refine w_reg rfl ?_
    refine v_build [(0, 1), (1, 1), (2, 1), (3, 1), (4, 1)] [.v _, .f _ _, .v _, .f _ _, .v _] lay29 rfl rfl ?_
    refine v_store (H' := [_, _, ⟨[_, _, _, _, _], 29, true⟩]) lay29 rfl rfl rfl rfl rfl rfl ?_
    refine v_assign (c := .v (.int .i64 1)) rfl ?_
    refine v_nil ?_
    refine q_n ?_
    refine w_ret (q_r ?_)
    refine r_r rfl ?_
    have e : wch d r = (zD, 1) := by unfold wch; rw [if_neg (fun h => h1 h.1)]
    rw [e]
    exact a_tup (.cons (a_agg (.cons tr_v (.cons tr_f (.cons tr_v (.cons tr_f (.cons tr_v .nil)))))) (.cons tr_v .nil))
  have hk := h1
  refine v_not false rfl rfl ?_
  refine v_move rfl ?_
  refine v_guard_on rfl rfl ?_
  refine v_load_pt (.agg [_, _, _, _, _, _, _, _, _, _, _, _, _, _, _, _, _, _, _]) lay35 rfl rfl rfl rfl ?_
  refine v_guard_on rfl rfl ?_
  refine v_callb (cRdI r hr) rfl rfl (.cons (vw_agg (.cons vw_f (.cons vw_f (.cons vw_f (.cons vw_f (.cons vw_f (.cons vw_f (.cons vw_f (.cons vw_f (.cons vw_f (.cons vw_f (.cons vw_f (.cons vw_f (.cons vw_f (.cons vw_f (.cons vw_f (.cons vw_f (.cons vw_f (.cons vw_f (.cons vw_f .nil)))))))))))))))))))) .nil) (fun h2 => ?_) (fun h2 => ?_)
  rotate_left
  · refine v_guard_on rfl rfl ?_
    refine v_not true rfl rfl ?_
    refine v_pick_f rfl rfl ?_
    refine v_nil ?_
    refine q_n ?_
    refine w_t rfl ?_
    refine w_seq ?_
    refine w_reg rfl ?_
    refine v_build [(0, 1), (1, 1), (2, 1), (3, 1), (4, 1)] [.v _, .f _ _, .v _, .f _ _, .v _] lay29 rfl rfl ?_
    refine v_store (H' := [_, _, ⟨[_, _, _, _, _], 29, true⟩]) lay29 rfl rfl rfl rfl rfl rfl ?_
    refine v_assign (c := .v (.int .i64 1)) rfl ?_
    refine v_nil ?_
    refine q_n ?_
    refine w_ret (q_r ?_)
    refine r_r rfl ?_
    have e : wch d r = (zD, 1) := by unfold wch; rw [if_neg (fun h => h2 h.2)]
    rw [e]
    exact a_tup (.cons (a_agg (.cons tr_v (.cons tr_f (.cons tr_v (.cons tr_f (.cons tr_v .nil)))))) (.cons tr_v .nil))
  have ho := h2
  obtain ⟨A, hA, hA1⟩ := wA_rung hd hr hk ho
  have hN := wN_le hA hA1
  obtain ⟨s1, s2, s3, s4, s5, s6⟩ := small_w _ hN
  obtain ⟨w, hw, hfl⟩ := flr_wide (show A < 2139095040 by omega)
  have hwo : okF .f64 (some w) := fun b hb => by
    obtain ⟨q, e1, e2⟩ := wide_some (b := A) (okF_of_rung (by omega))
    rw [hw] at e1
    cases e1
    exact e2 b hb
  obtain ⟨hc1, hc2⟩ : (0 ≤ d.1 ∧ d.1 ≤ 14) := hk.1
  have hcn : d.1 = (d.1.toNat : Int) := by omega
  have hcl : d.1.toNat < 15 := by omega
  have hc16 : d.1.toNat < 16 := by omega
  have hk3 := hk.2.2.2.1
  have hk4 := hk.2.2.2.2.2
  have hdw := hd.2.2
  obtain ⟨F, hF, hF1⟩ := full_rung hd hr hk ho
  have hlt := wC_lt hA hA1
  have hsb := wC_sub hA hA1
  have hAd : fop .add .f32 d.2.1 (fop .mul .f32 (flwR r d.1.toNat) r.2.2.2) = some A := hA
  have hflr : flr (some w) = some (n64 (wN d r)) := hfl.trans (by unfold wN; rw [hA]; rfl)
  refine v_guard_on rfl rfl ?_
  refine v_not false rfl rfl ?_
  refine v_pick_f rfl rfl ?_
  refine v_nil ?_
  refine q_n ?_
  refine w_f rfl ?_
  refine w_skip ?_
  refine q_n ?_
  refine w_seq ?_
  refine w_draw [0, 1, 0, 0, 8, 28, 0, 64, 252, 511, 1023] [⟨0, 0, []⟩, ⟨1, 0, []⟩, ⟨2, 0, []⟩, ⟨3, 0, []⟩, ⟨4, 0, []⟩, ⟨5, 0, []⟩, ⟨6, 0, []⟩, ⟨7, 0, []⟩, ⟨8, 0, []⟩, ⟨9, 0, []⟩, ⟨10, 0, []⟩] rfl rfl ?_
  refine d_q rfl rfl rfl rfl rfl ?_
  refine v_fa_pt (off' := 1) lay29 rfl rfl rfl ?_
  refine v_nil ?_
  refine d_q rfl rfl rfl rfl rfl ?_
  refine v_load_pt (.c _) lay22 rfl rfl rfl rfl ?_
  refine v_nil ?_
  refine d_q rfl rfl rfl rfl rfl ?_
  refine v_load_pt (.agg [_, _, _, _, _, _, _, _, _, _, _, _, _, _, _, _, _, _, _]) lay35 rfl rfl rfl rfl ?_
  refine v_nil ?_
  refine d_q rfl rfl rfl rfl rfl ?_
  refine v_fa_pt (off' := 0) lay29 rfl rfl rfl ?_
  refine v_nil ?_
  refine d_q rfl rfl rfl rfl rfl ?_
  refine v_load_pt (.c _) lay2 rfl rfl rfl rfl ?_
  refine v_nil ?_
  refine d_call (cFlwI r _ _ hcn hcl) rfl rfl rfl rfl rfl (.cons (vw_agg (.cons vw_f (.cons vw_f (.cons vw_f (.cons vw_f (.cons vw_f (.cons vw_f (.cons vw_f (.cons vw_f (.cons vw_f (.cons vw_f (.cons vw_f (.cons vw_f (.cons vw_f (.cons vw_f (.cons vw_f (.cons vw_f (.cons vw_f (.cons vw_f (.cons vw_f .nil)))))))))))))))))))) (.cons vw_v .nil)) ?_
  refine d_q rfl rfl rfl rfl rfl ?_
  refine v_fa_pt (off' := 18) lay35 rfl rfl rfl ?_
  refine v_nil ?_
  refine d_q rfl rfl rfl rfl rfl ?_
  refine v_load_pt (.c _) lay22 rfl rfl rfl rfl ?_
  refine v_nil ?_
  refine d_q rfl rfl rfl rfl rfl ?_
  refine v_bin (c := .f _ _) lay22 rfl rfl rfl ?_
  refine v_nil ?_
  refine d_q rfl rfl rfl rfl rfl ?_
  refine v_bin (c := .f _ _) lay22 rfl rfl rfl ?_
  rw [hAd]
  refine v_nil ?_
  refine d_q rfl rfl rfl rfl rfl ?_
  refine v_assign rfl ?_
  refine v_nil ?_
  refine d_nil ?_
  refine q_n ?_
  refine w_seq ?_
  refine w_reg rfl ?_
  refine v_move rfl ?_
  refine v_conv_ff _ lay22 lay59 rfl hw ?_
  refine v_call (cFlr hwo) rfl rfl rfl (.cons vw_f .nil) ?_
  rw [hflr]
  refine v_conv_ff _ lay59 lay22 rfl s2 ?_
  refine v_assign rfl ?_
  refine v_nil ?_
  refine q_n ?_
  refine w_seq ?_
  refine w_reg rfl ?_
  refine v_fa_pt (off' := 2) lay29 rfl rfl rfl ?_
  refine v_load_pt (.c _) lay23 rfl rfl rfl rfl ?_
  refine v_conv_ii lay23 lay2 rfl (i64r (by omega)) ?_
  refine v_move rfl ?_
  refine v_conv_fi (wN d r : Int) lay22 lay2 rfl s3 (i64r (by omega)) ?_
  refine v_add lay2 rfl rfl (i64r (by omega)) ?_
  refine v_min rfl rfl ?_
  refine v_conv_ii lay2 lay23 rfl ⟨show (-32768 : Int) ≤ _ by omega, show _ ≤ (32767 : Int) by omega⟩ ?_
  refine v_fa_pt (off' := 2) lay29 rfl rfl rfl ?_
  refine v_store (H' := [⟨[_, _, _, _, _], 29, true⟩, _, _]) lay23 rfl rfl rfl rfl rfl rfl ?_
  refine v_nil ?_
  refine q_n ?_
  refine w_seq ?_
  refine w_reg rfl ?_
  refine v_move rfl ?_
  refine v_move rfl ?_
  refine v_bin (c := .f _ _) lay22 rfl rfl rfl ?_
  rw [show fop .sub .f32 (some A) (some (n32 (wN d r))) = some (wC d r) from hsb]
  refine v_fa_pt (off' := 1) lay29 rfl rfl rfl ?_
  refine v_store (H' := [⟨[_, _, _, _, _], 29, true⟩, _, _]) lay22 rfl rfl rfl rfl rfl rfl ?_
  refine v_nil ?_
  refine q_n ?_
  refine w_seq ?_
  refine w_draw [0, 1, 0, 4, 0, 28, 60, 127, 255, 511] [⟨0, 0, []⟩, ⟨1, 0, []⟩, ⟨2, 0, []⟩, ⟨3, 0, []⟩, ⟨4, 0, []⟩, ⟨5, 0, []⟩, ⟨6, 0, []⟩, ⟨7, 0, []⟩, ⟨8, 0, []⟩, ⟨9, 1, []⟩] rfl rfl ?_
  refine d_q rfl rfl rfl rfl rfl ?_
  refine v_fa_pt (off' := 3) lay29 rfl rfl rfl ?_
  refine v_nil ?_
  refine d_q rfl rfl rfl rfl rfl ?_
  refine v_load_pt (.c _) lay22 rfl rfl rfl rfl ?_
  refine v_nil ?_
  refine d_q rfl rfl rfl rfl rfl ?_
  refine v_fa_pt (off' := 0) lay29 rfl rfl rfl ?_
  refine v_nil ?_
  refine d_q rfl rfl rfl rfl rfl ?_
  refine v_load_pt (.c _) lay2 rfl rfl rfl rfl ?_
  refine v_nil ?_
  refine d_q rfl rfl rfl rfl rfl ?_
  refine v_fa_pt (off' := 0) lay35 rfl rfl rfl ?_
  refine v_nil ?_
  refine d_q rfl rfl rfl rfl rfl ?_
  refine v_idx_arr_e (k := 1) (d.1.toNat) lay33 lay22 rfl rfl rfl (hcn) (hc16) ?_
  refine v_nil ?_
  refine d_q rfl rfl rfl rfl rfl ?_
  refine v_load_flat_e (enc := fe) (ys := rl r) (d.1.toNat) 0 (.c (.f .f32 (r.1 ⟨d.1.toNat, hc16⟩))) fe_len lay22 rfl rfl (by omega) (by rw [rl_len]; omega) (by decide) (rl_ld r hc16 _) ?_
  refine v_nil ?_
  refine d_q rfl rfl rfl rfl rfl ?_
  refine v_bin (c := .f _ _) lay22 rfl rfl rfl ?_
  rw [cr_eq hc16, hF]
  refine v_nil ?_
  refine d_q rfl rfl rfl rfl rfl ?_
  refine v_fa_pt (off' := 3) lay29 rfl rfl rfl ?_
  refine v_nil ?_
  refine d_e rfl rfl rfl ?_
  refine v_store (H' := [⟨[_, _, _, _, _], 29, true⟩, _, _]) lay22 rfl rfl rfl rfl rfl rfl ?_
  refine v_nil ⟨again_nil, ?_⟩
  refine d_nil ?_
  refine q_n ?_
  refine w_seq ?_
  refine w_reg rfl ?_
  refine v_fa_pt (off' := 4) lay29 rfl rfl rfl ?_
  refine v_load_pt (.c _) lay2 rfl rfl rfl rfl ?_
  refine v_add lay2 rfl rfl (i64r (by omega)) ?_
  refine v_fa_pt (off' := 4) lay29 rfl rfl rfl ?_
  refine v_store (H' := [⟨[_, _, _, _, _], 29, true⟩, _, _]) lay2 rfl rfl rfl rfl rfl rfl ?_
  refine v_nil ?_
  refine q_n ?_
  refine w_seq ?_
  refine w_seq ?_
  refine w_reg rfl ?_
  refine v_fa_pt (off' := 1) lay29 rfl rfl rfl ?_
  refine v_load_pt (.c _) lay22 rfl rfl rfl rfl ?_
  refine v_fa_pt (off' := 3) lay29 rfl rfl rfl ?_
  refine v_load_pt (.c _) lay22 rfl rfl rfl rfl ?_
  refine v_lit (flat fe [_, _]) (H' := [_, _, _, _]) lay80 lay22 rfl rfl ⟨by decide, by decide⟩ rfl rfl ?_
  refine v_callb (cFins [some (wC d r), some F] (Nat.le_of_ble_eq_true rfl)) rfl rfl (.cons (vw_mu2 fe_sc fe_len rfl (by first | (simp; done) | (simp; omega))) .nil) (fun h3 => ?_) (fun h3 => ?_)
  rotate_left
  · exact absurd (fun x hx => by rcases List.mem_cons.1 hx with rfl | hx
                                 · exact rung_fin (by omega)
                                 · rw [List.mem_singleton] at hx; subst hx; exact rung_fin hF1) h3
  refine v_not false rfl rfl ?_
  refine v_move rfl ?_
  refine v_guard_on rfl rfl ?_
  refine v_fa_pt (off' := 4) lay29 rfl rfl rfl ?_
  refine v_guard_on rfl rfl ?_
  refine v_load_pt (.c _) lay2 rfl rfl rfl rfl ?_
  refine v_guard_on rfl rfl ?_
  refine v_gtr lay2 rfl rfl (fun h4 => ?_) (fun h4 => ?_)
  · refine v_pick_f rfl rfl ?_
    refine v_nil ?_
    refine q_n ?_
    refine w_t rfl ?_
    refine w_seq ?_
    refine w_reg rfl ?_
    refine v_build [(0, 1), (1, 1), (2, 1), (3, 1), (4, 1)] [.v _, .f _ _, .v _, .f _ _, .v _] lay29 rfl rfl ?_
    refine v_store (H' := [_, _, ⟨[_, _, _, _, _], 29, true⟩, _]) lay29 rfl rfl rfl rfl rfl rfl ?_
    refine v_assign (c := .v (.int .i64 4)) rfl ?_
    refine v_nil ?_
    refine q_n ?_
    refine w_ret (q_r ?_)
    refine r_r rfl ?_
    have e : wch d r = (zD, 4) := by unfold wch; rw [if_pos ⟨hk, ho⟩, if_neg (by omega)]
    rw [e]
    exact a_tup (.cons (a_agg (.cons tr_v (.cons tr_f (.cons tr_v (.cons tr_f (.cons tr_v .nil)))))) (.cons tr_v .nil))
  refine v_pick_f rfl rfl ?_
  refine v_nil ?_
  refine q_n ?_
  refine w_f rfl ?_
  refine w_skip ?_
  refine q_n ?_
  refine w_seq ?_
  refine w_reg rfl ?_
  refine v_load_pt (.agg [_, _, _, _, _]) lay29 rfl rfl rfl rfl ?_
  refine v_store (H' := [_, _, ⟨[_, _, _, _, _], 29, true⟩, _]) lay29 rfl rfl rfl rfl rfl rfl ?_
  refine v_assign (c := .v (.int .i64 0)) rfl ?_
  refine v_nil ?_
  refine q_n ?_
  refine w_ret ?_
  refine r_r rfl ?_
  have e : wch d r = (wD d r, 0) := by unfold wch; rw [if_pos ⟨hk, ho⟩, if_pos (by omega)]
  have em : min (d.2.2.1 + (wN d r : Int)) 32767 = (if 32767 < d.2.2.1 + (wN d r : Int) then 32767 else d.2.2.1 + (wN d r : Int)) := by rw [Int.min_def]; split <;> split <;> omega
  rw [e]
  unfold wD
  rw [hF, em]
  exact a_tup (.cons (a_agg (.cons tr_v (.cons tr_f (.cons tr_v (.cons tr_f (.cons tr_v .nil)))))) (.cons tr_v .nil))
end Go.VL
namespace Go.VL
open Go.RowKit
set_option maxRecDepth 20000
set_option maxHeartbeats 8000000
theorem wch_ok {d : Dt} {r : Rd} (hd : dW d) (hr : rW r) : okF .f32 (wch d r).1.2.1 ∧ okF .f32 (wch d r).1.2.2.2.1 := by
  unfold wch
  split
  · rename_i h
    split
    · obtain ⟨A, hA, hA1⟩ := wA_rung hd hr h.1 h.2
      obtain ⟨F, hF, hF1⟩ := full_rung hd hr h.1 h.2
      have h1 := wC_lt hA hA1
      refine ⟨okF_of_rung (by show wC d r < _; omega), ?_⟩
      show okF .f32 (fop .add .f32 d.2.2.2.1 (cr r d.1.toNat))
      rw [hF]
      exact okF_of_rung hF1
    · exact ⟨okF_fOf 0, okF_fOf 0⟩
  · exact ⟨okF_fOf 0, okF_fOf 0⟩
theorem cToDt (d : Dt) : PureC X 6 [.agg (dtc d)] (.agg (dtc d)) := by
  refine PureC.of_body (drawD_ok X) (fun _ _ => Go.Proofs.Try.call6 _ _) Go.Proofs.Try.func6 rfl (n := 20) rfl ?_
  refine w_seq ?_
  refine w_reg rfl ?_
  refine v_box (m := 0) (H' := [_]) lay25 rfl rfl rfl ?_
  refine v_alloc (m := 1) (H' := [_, ⟨[.v _, .f _ _, .v _, .f _ _, .v _], 29, true⟩]) lay29 rfl rfl ?_
  refine v_nil ?_
  refine q_n ?_
  refine w_seq ?_
  refine w_reg rfl ?_
  refine v_alloc (m := 2) (H' := [_, _, ⟨[.v _, .f _ _, .v _, .f _ _, .v _], 29, true⟩]) lay29 rfl rfl ?_
  refine v_nil ?_
  refine q_n ?_
  refine w_seq ?_
  refine w_reg rfl ?_
  refine v_fa_pt (off' := 0) lay25 rfl rfl rfl ?_
  refine v_load_pt (.c _) lay2 rfl rfl rfl rfl ?_
  refine v_fa_pt (off' := 0) lay29 rfl rfl rfl ?_
  refine v_store (H' := [_, _, ⟨[_, _, _, _, _], 29, true⟩]) lay2 rfl rfl rfl rfl rfl rfl ?_
  refine v_nil ?_
  refine q_n ?_
  refine w_seq ?_
  refine w_reg rfl ?_
  refine v_fa_pt (off' := 1) lay25 rfl rfl rfl ?_
  refine v_load_pt (.c _) lay22 rfl rfl rfl rfl ?_
  refine v_fa_pt (off' := 1) lay29 rfl rfl rfl ?_
  refine v_store (H' := [_, _, ⟨[_, _, _, _, _], 29, true⟩]) lay22 rfl rfl rfl rfl rfl rfl ?_
  refine v_nil ?_
  refine q_n ?_
  refine w_seq ?_
  refine w_reg rfl ?_
  refine v_fa_pt (off' := 2) lay25 rfl rfl rfl ?_
  refine v_load_pt (.c _) lay23 rfl rfl rfl rfl ?_
  refine v_fa_pt (off' := 2) lay29 rfl rfl rfl ?_
  refine v_store (H' := [_, _, ⟨[_, _, _, _, _], 29, true⟩]) lay23 rfl rfl rfl rfl rfl rfl ?_
  refine v_nil ?_
  refine q_n ?_
  refine w_seq ?_
  refine w_reg rfl ?_
  refine v_fa_pt (off' := 3) lay25 rfl rfl rfl ?_
  refine v_load_pt (.c _) lay22 rfl rfl rfl rfl ?_
  refine v_fa_pt (off' := 3) lay29 rfl rfl rfl ?_
  refine v_store (H' := [_, _, ⟨[_, _, _, _, _], 29, true⟩]) lay22 rfl rfl rfl rfl rfl rfl ?_
  refine v_nil ?_
  refine q_n ?_
  refine w_seq ?_
  refine w_reg rfl ?_
  refine v_fa_pt (off' := 4) lay25 rfl rfl rfl ?_
  refine v_load_pt (.c _) lay2 rfl rfl rfl rfl ?_
  refine v_fa_pt (off' := 4) lay29 rfl rfl rfl ?_
  refine v_store (H' := [_, _, ⟨[_, _, _, _, _], 29, true⟩]) lay2 rfl rfl rfl rfl rfl rfl ?_
  refine v_nil ?_
  refine q_n ?_
  refine w_seq ?_
  refine w_reg rfl ?_
  refine v_load_pt (.agg [_, _, _, _, _]) lay29 rfl rfl rfl rfl ?_
  refine v_store (H' := [_, ⟨[_, _, _, _, _], 29, true⟩, _]) lay29 rfl rfl rfl rfl rfl rfl ?_
  refine v_nil ?_
  refine q_n ?_
  refine w_ret ?_
  refine r_r rfl ?_
  exact a_agg (.cons tr_v (.cons tr_f (.cons tr_v (.cons tr_f (.cons tr_v .nil)))))
theorem cEqDt (d : Dt) (k1 : okF .f32 d.2.1) (k2 : okF .f32 d.2.2.2.1) : PureC X 9 [.agg (dtc d), .agg (dtc d)] (cB (decide True)) := by
  refine PureC.of_body (drawD_ok X) (fun _ _ => Go.Proofs.Try.call9 _ _) Go.Proofs.Try.func9 rfl (n := 36) rfl ?_
  refine w_seq ?_
  refine w_reg rfl ?_
  refine v_box (m := 0) (H' := [_]) lay29 rfl rfl rfl ?_
  refine v_box (m := 1) (H' := [_, _]) lay29 rfl rfl rfl ?_
  refine v_assign (c := .v (.bool false)) rfl ?_
  refine v_nil ?_
  refine q_n ?_
  refine w_seq ?_
  refine w_seq ?_
  refine w_reg rfl ?_
  refine v_fa_pt (off' := 0) lay29 rfl rfl rfl ?_
  refine v_load_pt (.c _) lay2 rfl rfl rfl rfl ?_
  refine v_fa_pt (off' := 0) lay29 rfl rfl rfl ?_
  refine v_load_pt (.c _) lay2 rfl rfl rfl rfl ?_
  refine v_neq lay2 rfl rfl (fun h1 => ?_) (fun h1 => ?_)
  · exact absurd rfl h1
  refine v_nil ?_
  refine q_n ?_
  refine w_f rfl ?_
  refine w_skip ?_
  refine q_n ?_
  refine w_seq ?_
  refine w_seq ?_
  refine w_reg rfl ?_
  refine v_fa_pt (off' := 1) lay29 rfl rfl rfl ?_
  refine v_load_pt (.c _) lay22 rfl rfl rfl rfl ?_
  refine v_conv_ff _ lay22 lay59 rfl (convF_single (by first | exact k1 | exact k2)) ?_
  refine v_fa_pt (off' := 1) lay29 rfl rfl rfl ?_
  refine v_load_pt (.c _) lay22 rfl rfl rfl rfl ?_
  refine v_conv_ff _ lay22 lay59 rfl (convF_single (by first | exact k1 | exact k2)) ?_
  refine v_callb (cSF _ (wide_ok (by first | exact k1 | exact k2))) rfl rfl (.cons vw_f (.cons vw_f .nil)) (fun h2 => ?_) (fun h2 => ?_)
  rotate_left
  · exact absurd trivial h2
  refine v_not false rfl rfl ?_
  refine v_nil ?_
  refine q_n ?_
  refine w_f rfl ?_
  refine w_skip ?_
  refine q_n ?_
  refine w_seq ?_
  refine w_seq ?_
  refine w_reg rfl ?_
  refine v_fa_pt (off' := 2) lay29 rfl rfl rfl ?_
  refine v_load_pt (.c _) lay23 rfl rfl rfl rfl ?_
  refine v_fa_pt (off' := 2) lay29 rfl rfl rfl ?_
  refine v_load_pt (.c _) lay23 rfl rfl rfl rfl ?_
  refine v_neq lay23 rfl rfl (fun h3 => ?_) (fun h3 => ?_)
  · exact absurd rfl h3
  refine v_nil ?_
  refine q_n ?_
  refine w_f rfl ?_
  refine w_skip ?_
  refine q_n ?_
  refine w_seq ?_
  refine w_seq ?_
  refine w_reg rfl ?_
  refine v_fa_pt (off' := 3) lay29 rfl rfl rfl ?_
  refine v_load_pt (.c _) lay22 rfl rfl rfl rfl ?_
  refine v_conv_ff _ lay22 lay59 rfl (convF_single (by first | exact k1 | exact k2)) ?_
  refine v_fa_pt (off' := 3) lay29 rfl rfl rfl ?_
  refine v_load_pt (.c _) lay22 rfl rfl rfl rfl ?_
  refine v_conv_ff _ lay22 lay59 rfl (convF_single (by first | exact k1 | exact k2)) ?_
  refine v_callb (cSF _ (wide_ok (by first | exact k1 | exact k2))) rfl rfl (.cons vw_f (.cons vw_f .nil)) (fun h4 => ?_) (fun h4 => ?_)
  rotate_left
  · exact absurd trivial h4
  refine v_not false rfl rfl ?_
  refine v_nil ?_
  refine q_n ?_
  refine w_f rfl ?_
  refine w_skip ?_
  refine q_n ?_
  refine w_seq ?_
  refine w_seq ?_
  refine w_reg rfl ?_
  refine v_fa_pt (off' := 4) lay29 rfl rfl rfl ?_
  refine v_load_pt (.c _) lay2 rfl rfl rfl rfl ?_
  refine v_fa_pt (off' := 4) lay29 rfl rfl rfl ?_
  refine v_load_pt (.c _) lay2 rfl rfl rfl rfl ?_
  refine v_neq lay2 rfl rfl (fun h5 => ?_) (fun h5 => ?_)
  · exact absurd rfl h5
  refine v_nil ?_
  refine q_n ?_
  refine w_f rfl ?_
  refine w_skip ?_
  refine q_n ?_
  refine w_seq ?_
  refine w_reg rfl ?_
  refine v_assign (c := .v (.bool true)) rfl ?_
  refine v_nil ?_
  refine q_n ?_
  refine w_ret ?_
  refine r_r rfl ?_
  exact a_b ⟨fun _ => trivial, fun _ => rfl⟩
theorem cLawWatch (d : Dt) (r : Rd) (hd : dW d) (hr : rW r) : PureC X 3 [.agg (dtc d), .agg (rdc r)] (cB true) := by
  refine PureC.of_body (drawD_ok X) (fun _ _ => Go.Proofs.Try.call3 _ _) Go.Proofs.Try.func3 rfl (n := 34) rfl ?_
  refine w_seq ?_
  refine w_reg rfl ?_
  refine v_box (m := 0) (H' := [_]) lay25 rfl rfl rfl ?_
  refine v_box (m := 1) (H' := [_, _]) lay28 rfl rfl rfl ?_
  refine v_assign (c := .v (.bool false)) rfl ?_
  refine v_nil ?_
  refine q_n ?_
  refine w_seq ?_
  refine w_draw [0, 1, 0, 7, 15, 31, 63, 63, 0, 383, 1023] [⟨0, 0, []⟩, ⟨1, 0, []⟩, ⟨2, 0, []⟩, ⟨3, 0, []⟩, ⟨4, 0, []⟩, ⟨5, 0, []⟩, ⟨6, 0, []⟩, ⟨7, 0, []⟩, ⟨8, 1, [0, 1, 2, 3, 4]⟩, ⟨9, 1, []⟩, ⟨10, 0, []⟩] rfl rfl ?_
  refine d_q rfl rfl rfl rfl rfl ?_
  refine v_load_pt (.agg [_, _, _, _, _]) lay25 rfl rfl rfl rfl ?_
  refine v_nil ?_
  refine d_call (cToDt _) rfl rfl rfl rfl rfl (.cons (vw_agg (.cons vw_v (.cons vw_f (.cons vw_v (.cons vw_f (.cons vw_v .nil)))))) .nil) ?_
  refine d_q rfl rfl rfl rfl rfl ?_
  refine v_load_pt (.agg [_, _, _, _, _, _, _, _, _, _, _, _, _, _, _, _, _, _, _]) lay28 rfl rfl rfl rfl ?_
  refine v_nil ?_
  refine d_call (cToRoad _) rfl rfl rfl rfl rfl (.cons (vw_agg (.cons vw_f (.cons vw_f (.cons vw_f (.cons vw_f (.cons vw_f (.cons vw_f (.cons vw_f (.cons vw_f (.cons vw_f (.cons vw_f (.cons vw_f (.cons vw_f (.cons vw_f (.cons vw_f (.cons vw_f (.cons vw_f (.cons vw_f (.cons vw_f (.cons vw_f .nil)))))))))))))))))))) .nil) ?_
  refine d_call (cWatS _ _ hd hr) rfl rfl rfl rfl rfl (.cons (vw_agg (.cons vw_v (.cons vw_f (.cons vw_v (.cons vw_f (.cons vw_v .nil)))))) (.cons (vw_agg (.cons vw_f (.cons vw_f (.cons vw_f (.cons vw_f (.cons vw_f (.cons vw_f (.cons vw_f (.cons vw_f (.cons vw_f (.cons vw_f (.cons vw_f (.cons vw_f (.cons vw_f (.cons vw_f (.cons vw_f (.cons vw_f (.cons vw_f (.cons vw_f (.cons vw_f .nil)))))))))))))))))))) .nil)) ?_
  refine d_q rfl rfl rfl rfl rfl ?_
  refine v_move_t rfl ?_
  refine v_nil ?_
  refine d_q rfl rfl rfl rfl rfl ?_
  refine v_extract_a rfl rfl ?_
  refine v_nil ?_
  refine d_q rfl rfl rfl rfl rfl ?_
  refine v_extract_c rfl rfl ?_
  refine v_nil ?_
  refine d_e rfl rfl rfl ?_
  refine v_alloc (m := 2) (H' := [_, _, ⟨[.v _, .f _ _, .v _, .f _ _, .v _], 29, true⟩]) lay29 rfl rfl ?_
  refine v_nil ⟨⟨ag_if rfl (ag_call (cWatS _ _ hd hr) rfl rfl rfl (.cons (vw_agg (.cons vw_v (.cons vw_f (.cons vw_v (.cons vw_f (.cons vw_v .nil)))))) (.cons (vw_agg (.cons vw_f (.cons vw_f (.cons vw_f (.cons vw_f (.cons vw_f (.cons vw_f (.cons vw_f (.cons vw_f (.cons vw_f (.cons vw_f (.cons vw_f (.cons vw_f (.cons vw_f (.cons vw_f (.cons vw_f (.cons vw_f (.cons vw_f (.cons vw_f (.cons vw_f .nil)))))))))))))))))))) .nil))), ⟨ag_if rfl (ag_call (cToRoad _) rfl rfl rfl (.cons (vw_agg (.cons vw_f (.cons vw_f (.cons vw_f (.cons vw_f (.cons vw_f (.cons vw_f (.cons vw_f (.cons vw_f (.cons vw_f (.cons vw_f (.cons vw_f (.cons vw_f (.cons vw_f (.cons vw_f (.cons vw_f (.cons vw_f (.cons vw_f (.cons vw_f (.cons vw_f .nil)))))))))))))))))))) .nil)), ⟨ag_load_pt (.agg [_, _, _, _, _, _, _, _, _, _, _, _, _, _, _, _, _, _, _]) lay28 rfl rfl rfl rfl, ⟨ag_if rfl (ag_call (cToDt _) rfl rfl rfl (.cons (vw_agg (.cons vw_v (.cons vw_f (.cons vw_v (.cons vw_f (.cons vw_v .nil)))))) .nil)), ⟨ag_load_pt (.agg [_, _, _, _, _]) lay25 rfl rfl rfl rfl, trivial⟩⟩⟩⟩⟩, ?_⟩
  refine d_e rfl rfl rfl ?_
  refine v_store (H' := [_, _, ⟨[_, _, _, _, _], 29, true⟩]) lay29 rfl rfl rfl rfl rfl rfl ?_
  refine v_nil ⟨again_nil, ?_⟩
  refine d_q rfl rfl rfl rfl rfl ?_
  refine v_assign rfl ?_
  refine v_nil ?_
  refine d_nil ?_
  refine q_n ?_
  refine w_seq ?_
  refine w_draw [0, 1, 0, 7, 15, 31, 63, 63, 0, 383, 1023] [⟨0, 0, []⟩, ⟨1, 0, []⟩, ⟨2, 0, []⟩, ⟨3, 0, []⟩, ⟨4, 0, []⟩, ⟨5, 0, []⟩, ⟨6, 0, []⟩, ⟨7, 0, []⟩, ⟨8, 1, [0, 1, 2, 3, 4]⟩, ⟨9, 1, []⟩, ⟨10, 0, []⟩] rfl rfl ?_
  refine d_q rfl rfl rfl rfl rfl ?_
  refine v_load_pt (.agg [_, _, _, _, _]) lay25 rfl rfl rfl rfl ?_
  refine v_nil ?_
  refine d_call (cToDt _) rfl rfl rfl rfl rfl (.cons (vw_agg (.cons vw_v (.cons vw_f (.cons vw_v (.cons vw_f (.cons vw_v .nil)))))) .nil) ?_
  refine d_q rfl rfl rfl rfl rfl ?_
  refine v_load_pt (.agg [_, _, _, _, _, _, _, _, _, _, _, _, _, _, _, _, _, _, _]) lay28 rfl rfl rfl rfl ?_
  refine v_nil ?_
  refine d_call (cToRoad _) rfl rfl rfl rfl rfl (.cons (vw_agg (.cons vw_f (.cons vw_f (.cons vw_f (.cons vw_f (.cons vw_f (.cons vw_f (.cons vw_f (.cons vw_f (.cons vw_f (.cons vw_f (.cons vw_f (.cons vw_f (.cons vw_f (.cons vw_f (.cons vw_f (.cons vw_f (.cons vw_f (.cons vw_f (.cons vw_f .nil)))))))))))))))))))) .nil) ?_
  refine d_call (cWatI _ _ hd hr) rfl rfl rfl rfl rfl (.cons (vw_agg (.cons vw_v (.cons vw_f (.cons vw_v (.cons vw_f (.cons vw_v .nil)))))) (.cons (vw_agg (.cons vw_f (.cons vw_f (.cons vw_f (.cons vw_f (.cons vw_f (.cons vw_f (.cons vw_f (.cons vw_f (.cons vw_f (.cons vw_f (.cons vw_f (.cons vw_f (.cons vw_f (.cons vw_f (.cons vw_f (.cons vw_f (.cons vw_f (.cons vw_f (.cons vw_f .nil)))))))))))))))))))) .nil)) ?_
  refine d_q rfl rfl rfl rfl rfl ?_
  refine v_move_t rfl ?_
  refine v_nil ?_
  refine d_q rfl rfl rfl rfl rfl ?_
  refine v_extract_a rfl rfl ?_
  refine v_nil ?_
  refine d_q rfl rfl rfl rfl rfl ?_
  refine v_extract_c rfl rfl ?_
  refine v_nil ?_
  refine d_e rfl rfl rfl ?_
  refine v_alloc (m := 3) (H' := [_, _, _, ⟨[.v _, .f _ _, .v _, .f _ _, .v _], 29, true⟩]) lay29 rfl rfl ?_
  refine v_nil ⟨⟨ag_if rfl (ag_call (cWatI _ _ hd hr) rfl rfl rfl (.cons (vw_agg (.cons vw_v (.cons vw_f (.cons vw_v (.cons vw_f (.cons vw_v .nil)))))) (.cons (vw_agg (.cons vw_f (.cons vw_f (.cons vw_f (.cons vw_f (.cons vw_f (.cons vw_f (.cons vw_f (.cons vw_f (.cons vw_f (.cons vw_f (.cons vw_f (.cons vw_f (.cons vw_f (.cons vw_f (.cons vw_f (.cons vw_f (.cons vw_f (.cons vw_f (.cons vw_f .nil)))))))))))))))))))) .nil))), ⟨ag_if rfl (ag_call (cToRoad _) rfl rfl rfl (.cons (vw_agg (.cons vw_f (.cons vw_f (.cons vw_f (.cons vw_f (.cons vw_f (.cons vw_f (.cons vw_f (.cons vw_f (.cons vw_f (.cons vw_f (.cons vw_f (.cons vw_f (.cons vw_f (.cons vw_f (.cons vw_f (.cons vw_f (.cons vw_f (.cons vw_f (.cons vw_f .nil)))))))))))))))))))) .nil)), ⟨ag_load_pt (.agg [_, _, _, _, _, _, _, _, _, _, _, _, _, _, _, _, _, _, _]) lay28 rfl rfl rfl rfl, ⟨ag_if rfl (ag_call (cToDt _) rfl rfl rfl (.cons (vw_agg (.cons vw_v (.cons vw_f (.cons vw_v (.cons vw_f (.cons vw_v .nil)))))) .nil)), ⟨ag_load_pt (.agg [_, _, _, _, _]) lay25 rfl rfl rfl rfl, trivial⟩⟩⟩⟩⟩, ?_⟩
  refine d_e rfl rfl rfl ?_
  refine v_store (H' := [_, _, _, ⟨[_, _, _, _, _], 29, true⟩]) lay29 rfl rfl rfl rfl rfl rfl ?_
  refine v_nil ⟨again_nil, ?_⟩
  refine d_q rfl rfl rfl rfl rfl ?_
  refine v_assign rfl ?_
  refine v_nil ?_
  refine d_nil ?_
  refine q_n ?_
  refine w_seq ?_
  refine w_seq ?_
  refine w_reg rfl ?_
  refine v_load_pt (.agg [_, _, _, _, _]) lay29 rfl rfl rfl rfl ?_
  refine v_load_pt (.agg [_, _, _, _, _]) lay29 rfl rfl rfl rfl ?_
  refine v_callb (cEqDt _ (wch_ok hd hr).1 (wch_ok hd hr).2) rfl rfl (.cons (vw_agg (.cons vw_v (.cons vw_f (.cons vw_v (.cons vw_f (.cons vw_v .nil)))))) (.cons (vw_agg (.cons vw_v (.cons vw_f (.cons vw_v (.cons vw_f (.cons vw_v .nil)))))) .nil)) (fun h1 => ?_) (fun h1 => ?_)
  rotate_left
  · exact absurd trivial h1
  refine v_not false rfl rfl ?_
  refine v_move rfl ?_
  refine v_guard_on rfl rfl ?_
  refine v_move rfl ?_
  refine v_guard_on rfl rfl ?_
  refine v_move rfl ?_
  refine v_guard_on rfl rfl ?_
  refine v_neq lay2 rfl rfl (fun h2 => ?_) (fun h2 => ?_)
  · exact absurd rfl h2
  refine v_pick_f rfl rfl ?_
  refine v_nil ?_
  refine q_n ?_
  refine w_f rfl ?_
  refine w_skip ?_
  refine q_n ?_
  refine w_seq ?_
  refine w_reg rfl ?_
  refine v_assign (c := .v (.bool true)) rfl ?_
  refine v_nil ?_
  refine q_n ?_
  refine w_ret ?_
  refine r_r rfl ?_
  exact tr_v
end Go.VL
namespace Go.VL
open Go.RowKit
set_option maxRecDepth 20000
set_option maxHeartbeats 8000000
theorem sg_of {x : Nat} (hw : (Lit.float .f32 x).wf = true) : Sg (fOf .f32 x) := by
  refine ⟨okF_fOf x, fun b h => ?_⟩
  have hlt : x < 2 ^ 32 := by simpa [Lit.wf] using hw
  unfold fOf at h
  split at h
  · cases h
  · simp only [Option.some.injEq] at h
    subst h
    exact hlt
theorem cty_sg {cs : List C} (h : Cty X.lay 22 cs) : ∃ x, cs = [.f .f32 x] ∧ Sg x := by
  obtain ⟨x, e, hw⟩ := cty_float lay22 h
  exact ⟨_, e, sg_of hw⟩
theorem cty_ca {cs : List C} (h : Cty X.lay 26 cs) : ∃ g : Fin 16 → Option Nat, cs = cac g ∧ ∀ i (hi : i < 16), Sg (g ⟨i, hi⟩) := by
  obtain ⟨h1, h2⟩ := cty_array lay26 h
  match cs, h1 with
  | [c0, c1, c2, c3, c4, c5, c6, c7, c8, c9, c10, c11, c12, c13, c14, c15], _ =>
    obtain ⟨x0, e0, w0⟩ := cty_sg (cs := [c0]) (h2 0 (by decide))
    obtain ⟨x1, e1, w1⟩ := cty_sg (cs := [c1]) (h2 1 (by decide))
    obtain ⟨x2, e2, w2⟩ := cty_sg (cs := [c2]) (h2 2 (by decide))
    obtain ⟨x3, e3, w3⟩ := cty_sg (cs := [c3]) (h2 3 (by decide))
    obtain ⟨x4, e4, w4⟩ := cty_sg (cs := [c4]) (h2 4 (by decide))
    obtain ⟨x5, e5, w5⟩ := cty_sg (cs := [c5]) (h2 5 (by decide))
    obtain ⟨x6, e6, w6⟩ := cty_sg (cs := [c6]) (h2 6 (by decide))
    obtain ⟨x7, e7, w7⟩ := cty_sg (cs := [c7]) (h2 7 (by decide))
    obtain ⟨x8, e8, w8⟩ := cty_sg (cs := [c8]) (h2 8 (by decide))
    obtain ⟨x9, e9, w9⟩ := cty_sg (cs := [c9]) (h2 9 (by decide))
    obtain ⟨x10, e10, w10⟩ := cty_sg (cs := [c10]) (h2 10 (by decide))
    obtain ⟨x11, e11, w11⟩ := cty_sg (cs := [c11]) (h2 11 (by decide))
    obtain ⟨x12, e12, w12⟩ := cty_sg (cs := [c12]) (h2 12 (by decide))
    obtain ⟨x13, e13, w13⟩ := cty_sg (cs := [c13]) (h2 13 (by decide))
    obtain ⟨x14, e14, w14⟩ := cty_sg (cs := [c14]) (h2 14 (by decide))
    obtain ⟨x15, e15, w15⟩ := cty_sg (cs := [c15]) (h2 15 (by decide))
    simp only [List.cons.injEq, and_true] at e0 e1 e2 e3 e4 e5 e6 e7 e8 e9 e10 e11 e12 e13 e14 e15
    subst e0 e1 e2 e3 e4 e5 e6 e7 e8 e9 e10 e11 e12 e13 e14 e15
    refine ⟨fun i => [x0, x1, x2, x3, x4, x5, x6, x7, x8, x9, x10, x11, x12, x13, x14, x15].getD i.val none, rfl, fun i hi => ?_⟩
    match i, hi with
    | 0, _ => exact w0
    | 1, _ => exact w1
    | 2, _ => exact w2
    | 3, _ => exact w3
    | 4, _ => exact w4
    | 5, _ => exact w5
    | 6, _ => exact w6
    | 7, _ => exact w7
    | 8, _ => exact w8
    | 9, _ => exact w9
    | 10, _ => exact w10
    | 11, _ => exact w11
    | 12, _ => exact w12
    | 13, _ => exact w13
    | 14, _ => exact w14
    | 15, _ => exact w15
    | k + 16, h => exact absurd h (by omega)
theorem cty_rd {cs : List C} (h : Cty X.lay 28 cs) : ∃ r : Rd, cs = rdc r ∧ rW r := by
  obtain ⟨h1, h2⟩ := cty_struct lay28 h
  obtain ⟨g, e0, w0⟩ := cty_ca (h2 (26, 0) (by simp))
  obtain ⟨x, e1, w1⟩ := cty_sg (h2 (22, 16) (by simp))
  obtain ⟨y, e2, w2⟩ := cty_sg (h2 (22, 17) (by simp))
  obtain ⟨z, e3, w3⟩ := cty_sg (h2 (22, 18) (by simp))
  match cs, h1 with
  | [c0, c1, c2, c3, c4, c5, c6, c7, c8, c9, c10, c11, c12, c13, c14, c15, c16, c17, c18], _ =>
    have q0 : [c0, c1, c2, c3, c4, c5, c6, c7, c8, c9, c10, c11, c12, c13, c14, c15] = cac g := e0
    have q1 : [c16] = [.f .f32 x] := e1
    have q2 : [c17] = [.f .f32 y] := e2
    have q3 : [c18] = [.f .f32 z] := e3
    simp only [List.cons.injEq, and_true] at q0 q1 q2 q3
    obtain ⟨rfl, rfl, rfl, rfl, rfl, rfl, rfl, rfl, rfl, rfl, rfl, rfl, rfl, rfl, rfl, rfl⟩ := q0
    subst q1 q2 q3
    exact ⟨(g, x, y, z), rfl, w0, w1, w2, w3⟩
theorem cty_ints {cs : List C} (h : Cty X.lay 90 cs) : ∃ xs : List Int, cs = [.sl true xs.length 1 (flat int xs)] ∧ xs.length ≤ maxLen := by
  obtain ⟨xs, e, hx, hn⟩ := cty_slice lay90 h
  obtain ⟨zs, k1, k2, -⟩ := flat_of2 (enc := int) (p := fun _ => True) (xs := xs) fun x hm => by
    obtain ⟨n, hn, -⟩ := cty_int lay2 (hx x hm)
    exact ⟨n, hn, trivial⟩
  exact ⟨zs, by rw [← k2, k1]; exact e, by omega⟩
theorem cty_flos {cs : List C} (h : Cty X.lay 80 cs) : ∃ xs : List (Option Nat), cs = [.sl true xs.length 1 (flat fe xs)] ∧ xs.length ≤ maxLen ∧ ∀ x ∈ xs, Sg x := by
  obtain ⟨xs, e, hx, hn⟩ := cty_slice lay80 h
  obtain ⟨zs, k1, k2, k3⟩ := flat_of2 (enc := fe) (p := Sg) (xs := xs) fun x hm => cty_sg (hx x hm)
  exact ⟨zs, by rw [← k2, k1]; exact e, by omega, k3⟩
end Go.VL
namespace Go.Proofs.Ytinnefdhocdmmaa
namespace B0
open Go.RowKit Go.WideShapes Go.ChangeShapes Go.ChangeAt
section
variable {H : Type} {enc : TypeId × Value → H} {P : Program}

theorem post_of_below {f : Func} {s : ChangeSpec} {apart fresh handsOn again : Bool} {W W' : World} {args : Array Value} {v : Value} {ds gs : List (DataW H)} {before pa pv : List MemPlace}
    (hW : DataW.Whole enc P f.params.toList s.vars apart W args.toList ds gs before)
    (hres : ∀ (b : Nat) (sp : Nat → Bool) (hd : Bool), DataW.TrodAll enc P W' b sp hd f.resultTypes.toList (v.resultList f.resultTypes.size) (s.fn H (ds ++ gs)).results [])
    (hargs : ∀ sp : Nat → Bool, (∀ p ∈ before, sp p.block = true) → DataW.TrodAll enc P W' 0 sp true f.params.toList args.toList (s.fn H (ds ++ gs)).args pa)
    (hvars : ∀ sp : Nat → Bool, (∀ p ∈ before, sp p.block = true) → DataW.TrodVars enc P W' sp s.vars (s.fn H (ds ++ gs)).vars pv)
    (hps : before = pa ++ pv) (hb : Below W.heap.size W W')
    (hok : ∀ (j : Nat) (t : TypeId) (r : Value), f.resultTypes[j]? = some t → (v.resultList f.resultTypes.size)[j]? = some r → Value.okWide P W' .any 0 t r) :
    s.post enc P f apart fresh handsOn again W args v W' := by
  have hlt : ∀ p ∈ before, p.block < W.heap.size := fun p hp => hW.lt p hp
  have hold : ∀ p ∈ before, (fun b => decide (b < W.heap.size)) p.block = true := fun p hp => by simpa using hlt p hp
  refine ⟨ds, gs, before, [], pa, pv, hW, hres _ _ _, hargs _ hold, hvars _ hold, World.keptBut_mono (fun p hp => ⟨hp, ?_⟩) (hb.frame (· ∈ before)), fun _ => ?_⟩
  · rw [hps, List.mem_append] at hp
    exact Or.inr hp
  · obtain ⟨_, _, _, _, _, hz, hn⟩ := hW
    refine ⟨hok, _, _, ([] ++ pa) ++ pv, ⟨[] ++ pa, pv, trodAll_append (hargs _ (fun _ _ => rfl)) (hres _ _ _), hvars _ (fun _ _ => rfl), rfl, ?_, ?_⟩, ?_⟩
    · intro b off hp
      have hin : MemPlace.cell b off ∈ before := by rw [hps]; simpa using hp
      rw [hb.frozen (hlt _ hin)]
      exact hz b off hin
    · intro ha
      have := hn ha
      rw [hps] at this
      simpa using this
    · intro p hp _
      rw [hps]
      simpa using hp

theorem trodAll_stays (hl : laidOutB P = true) {W W' : World} {sp' : Nat → Bool} : ∀ {ts : List TypeId} {vs : List Value} {ds : List (DataW H)} {ps : List MemPlace},
    (∀ t ∈ ts, P.readableRec t = true ∧ t < P.types.size) → DataW.TrodAll enc P W 0 (fun _ => true) true ts vs ds ps → (∀ p ∈ ps, W.sameAt W' p) → (∀ p ∈ ps, sp' p.block = true) →
    DataW.TrodAll enc P W' 0 sp' true ts vs ds ps
  | [], vs, ds, ps, _, h, _, _ => by
    obtain ⟨rfl, rfl, rfl⟩ := trodAll_nil h
    exact rfl
  | t :: ts, vs, ds, ps, ht, h, hsame, hsp => by
    obtain ⟨v, vs', d, ds', p, q, rfl, rfl, rfl, h0, h1⟩ := trodAll_cons h
    exact ⟨p, q, Go.WideElems.Trod_stays hl (ht t (by simp)).1 (ht t (by simp)).2 h0 (fun x hx => hsame x (by simp [hx])) (fun x hx => hsp x (by simp [hx])),
      trodAll_stays hl (fun u hu => ht u (by simp [hu])) h1 (fun x hx => hsame x (by simp [hx])) (fun x hx => hsp x (by simp [hx])), rfl⟩

/-- A law: whatever the arguments, the call returns true and turns nothing that was there. -/
theorem lift {C : Checked} {os : Os} {f : FuncId} {fn : Func} {s : ChangeSpec} {conds : List PathCond} {tb : TypeId}
    (own : ownKnob C.prog.godebug = none) (started : os.Started) (noInit : C.prog.inits.idxOf? f = none) (hfn : C.prog.funcs[f]? = some fn)
    (witness : ∃ (w : World) (tape : Tape) (i : Input), w.os = os ∧ (w.forCall tape i).Shaped C.prog ∧ i.vars = [] ∧ Input.okWide C.prog (w.forCall tape i) .any w.heap.size f i ∧
      s.pre6 enc C.prog fn conds false (w.forCall tape i).memory i.args ∧ ({} : Assume).holds C.prog (lone (Frame.enter C.prog f i.args .normal) [] (w.forCall tape i)))
    (hl : laidOutB C.prog = true) (hp : (fn.params.toList.all fun t => C.prog.readableRec t && decide (t < C.prog.types.size)) = true)
    (hv : s.vars = []) (hr : fn.resultTypes = #[tb]) (htb : C.prog.underlying tb = some .bool)
    (hs : ∀ ds : List (DataW H), ds.length = fn.params.toList.length → s.fn H ds = { results := [.lit (.bool true)], args := ds })
    (contract : ∀ (W : World) (base : Nat) (args : Array Value) (ds : List (DataW H)) (p : List MemPlace),
      (∀ (j : Nat) t v, fn.params[j]? = some t → args[j]? = some v → Value.okWide C.prog W .any base t v) →
      DataW.TrodAll enc C.prog W 0 (fun _ => true) true fn.params.toList args.toList ds p →
      Calls C.prog f args W fun e W' => e = .returned (.bool true) ∧ Below W.heap.size W W') :
    ReturnsInHanded {} C os f .any (s.pre6 enc C.prog fn conds false) (s.post enc C.prog fn false true false false) := by
  refine returnsInHanded_of_change own started noInit hfn witness ?_
  intro W base args ds gs before hval hW _ _
  have hW' := hW
  obtain ⟨p, q, hA, hV, rfl, hfz, hnd⟩ := hW
  rw [hv] at hV
  obtain ⟨rfl, rfl⟩ := trodVars_none hV
  have hlen : ∀ {ts : List TypeId} {vs : List Value} {ds : List (DataW H)} {ps : List MemPlace}, DataW.TrodAll enc C.prog W 0 (fun _ => true) true ts vs ds ps → ds.length = ts.length := by
    intro ts
    induction ts with
    | nil => intro vs ds ps h; obtain ⟨rfl, rfl, rfl⟩ := trodAll_nil h; rfl
    | cons t ts ih => intro vs ds ps h; obtain ⟨v, vs', d, ds', p, q, rfl, rfl, rfl, h0, h1⟩ := trodAll_cons h; simp [ih h1]
  have hsd : s.fn H (ds ++ []) = { results := [.lit (.bool true)], args := ds } := by rw [List.append_nil]; exact hs ds (hlen hA)
  have hp' : ∀ t ∈ fn.params.toList, C.prog.readableRec t = true ∧ t < C.prog.types.size := fun t ht => by simpa using List.all_eq_true.1 hp t ht
  refine (contract W base args ds p hval hA).mono fun e W' ⟨he, hb⟩ => ?_
  refine ⟨.bool true, he, post_of_below (pa := p) (pv := []) hW' ?_ ?_ ?_ rfl hb ?_⟩
  · intro b sp hd
    rw [hsd, hr]
    exact trodAll_mk1 ⟨1, by simp [DataW.trod, Value.cells, htb]⟩
  · intro sp hsp
    rw [hsd]
    exact trodAll_stays hl hp' hA (fun x hx => hb.same (hW'.lt x (by simp [hx]))) (fun x hx => hsp x (by simp [hx]))
  · intro sp hsp
    rw [hsd, hv]
    exact rfl
  · exact ok_one hr rfl (okWide_bool_mk htb true)
end
end B0
end Go.Proofs.Ytinnefdhocdmmaa
