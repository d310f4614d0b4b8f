/- What deeds do with a centre's board. -/
import Derived.Test.YtbejolinihbokaaJ2
import Derived.Test.YtbejolinihbokaaV39
namespace Go.VL
open Go.RowKit
set_option maxRecDepth 20000
set_option maxHeartbeats 8000000
abbrev Po := Int × Int
def pe (p : Po) : List C := [.v (.int .i64 p.1), .v (.int .i64 p.2)]
theorem pe_len (p : Po) : (pe p).length = 2 := rfl
theorem pe_sc (p : Po) : (pe p).all sc = true := rfl
structure Bd where
  nw : List Po
  ps : List Po
  sv : List Po
  kn : List Int
  wr : List No
theorem tr_mun {H : List Ob} {g : List (Option Nat)} {i id off n n' k : Nat} (h : g[i]? = some (some id)) (hn : n = n') : TrV H g (.c (.mu id off n k)) (.c (.mu i off n' k)) := by
  subst hn
  exact tr_mu h
def mx (a b : Int) : Int := if a < b then b else a
/-- A notice comes in. -/
def comeB (b : Bd) (n : No) : Bd :=
  if n.1 then { b with kn := b.kn.set n.2.1.toNat (mx (b.kn.getD n.2.1.toNat 0) n.2.2.2) }
  else if n.2.2.2 > (b.ps.getD n.2.1.toNat (0, 0)).2 then { b with ps := b.ps.set n.2.1.toNat (n.2.2.1, n.2.2.2), wr := b.wr ++ [(true, n.2.1, n.2.2.1, n.2.2.2)] }
  else { b with wr := b.wr ++ [(true, n.2.1, (b.ps.getD n.2.1.toNat (0, 0)).1, (b.ps.getD n.2.1.toNat (0, 0)).2)] }
def cutW (b : Bd) (a : Nat) : Bd := { b with wr := b.wr.take a ++ b.wr.drop (a + 1) }
/-- A deed is done, with a code. -/
def doB (p : Int) (b : Bd) (d : De) : Bd × Int :=
  if 3 ≤ d.1 ∧ d.1 ≤ 5 then
    if b.wr.length ≤ d.2.1.toNat then (b, 2)
    else if d.1 = 4 then if (b.wr.getD d.2.1.toNat (false, 0, 0, 0)).1 = false ∧ 10 ≤ b.wr.length then (b, 3) else (comeB b (b.wr.getD d.2.1.toNat (false, 0, 0, 0)), 0)
    else if d.1 = 3 then (comeB (cutW b d.2.1.toNat) (b.wr.getD d.2.1.toNat (false, 0, 0, 0)), 0)
    else (cutW b d.2.1.toNat, 0)
  else if b.ps.length ≤ d.2.1.toNat ∨ d.1 = 1 ∧ p ≤ d.2.2 then (b, 2)
  else if d.1 = 1 then ({ b with nw := b.nw.set d.2.1.toNat (d.2.2, (b.nw.getD d.2.1.toNat (0, 0)).2 + 1) }, 0)
  else if d.1 = 2 then if 10 ≤ b.wr.length then (b, 3) else ({ b with wr := b.wr ++ [(false, d.2.1, (b.nw.getD d.2.1.toNat (0, 0)).1, (b.nw.getD d.2.1.toNat (0, 0)).2)] }, 0)
  else if d.1 = 6 then ({ b with sv := b.sv.set d.2.1.toNat (b.ps.getD d.2.1.toNat (0, 0)) }, 0)
  else ({ b with ps := b.ps.set d.2.1.toNat (b.sv.getD d.2.1.toNat (0, 0)) }, 0)
theorem gD {α : Type} {xs : List α} {i : Nat} {x : α} (h : i < xs.length) : xs.getD i x = xs[i] := by simp [h]
section
variable {p : Int} {b : Bd} {d : De} {a : Nat}
theorem do_wbad (hk : 3 ≤ d.1 ∧ d.1 ≤ 5) (ha : d.2.1 = a) (h : b.wr.length ≤ a) : doB p b d = (b, 2) := by
  unfold doB
  rw [if_pos hk, ha, Int.toNat_natCast, if_pos h]
theorem do_cfull (hk : d.1 = 4) (ha : d.2.1 = a) (h : a < b.wr.length) (hb : b.wr[a].1 = false) (hf : 10 ≤ b.wr.length) : doB p b d = (b, 3) := by
  unfold doB
  rw [if_pos (by omega), ha, Int.toNat_natCast, if_neg (by omega), if_pos hk, gD h, if_pos ⟨hb, hf⟩]
theorem do_copy (hk : d.1 = 4) (ha : d.2.1 = a) (h : a < b.wr.length) (hc : b.wr[a].1 = true ∨ ¬ 10 ≤ b.wr.length) {b' : Bd} (he : comeB b b.wr[a] = b') : doB p b d = (b', 0) := by
  unfold doB
  rw [if_pos (by omega), ha, Int.toNat_natCast, if_neg (by omega), if_pos hk, gD h, if_neg (by rcases hc with hc | hc <;> simp [hc] <;> omega), he]
theorem do_deliver (hk : d.1 = 3) (ha : d.2.1 = a) (h : a < b.wr.length) {b' : Bd} (he : comeB (cutW b a) b.wr[a] = b') : doB p b d = (b', 0) := by
  unfold doB
  rw [if_pos (by omega), ha, Int.toNat_natCast, if_neg (by omega), if_neg (by omega), if_pos hk, gD h, he]
theorem do_drop (hk : d.1 = 5) (ha : d.2.1 = a) (h : a < b.wr.length) : doB p b d = (cutW b a, 0) := by
  unfold doB
  rw [if_pos (by omega), ha, Int.toNat_natCast, if_neg (by omega), if_neg (by omega), if_neg (by omega)]
theorem come_back {n : No} {pn : Nat} (hb : n.1 = true) (hp : n.2.1 = pn) (h : pn < b.kn.length) : comeB b n = { b with kn := b.kn.set pn (mx b.kn[pn] n.2.2.2) } := by
  unfold comeB
  rw [if_pos hb, hp, Int.toNat_natCast, gD h]
theorem come_new {n : No} {pn : Nat} (hb : n.1 = false) (hp : n.2.1 = pn) (h : pn < b.ps.length) (hv : n.2.2.2 > b.ps[pn].2) : comeB b n = { b with ps := b.ps.set pn (n.2.2.1, n.2.2.2), wr := b.wr ++ [(true, n.2.1, n.2.2.1, n.2.2.2)] } := by
  unfold comeB
  rw [if_neg (by rw [hb]; decide), hp, Int.toNat_natCast, gD h, if_pos hv]
theorem come_old {n : No} {pn : Nat} (hb : n.1 = false) (hp : n.2.1 = pn) (h : pn < b.ps.length) (hv : ¬ n.2.2.2 > b.ps[pn].2) : comeB b n = { b with wr := b.wr ++ [(true, n.2.1, b.ps[pn].1, b.ps[pn].2)] } := by
  unfold comeB
  rw [if_neg (by rw [hb]; decide), hp, Int.toNat_natCast, gD h, if_neg hv]
theorem do_pbad (hk : ¬ (3 ≤ d.1 ∧ d.1 ≤ 5)) (ha : d.2.1 = a) (h : b.ps.length ≤ a) : doB p b d = (b, 2) := by
  unfold doB
  rw [if_neg hk, ha, Int.toNat_natCast, if_pos (.inl h)]
theorem do_obad (hk : d.1 = 1) (h2 : p ≤ d.2.2) : doB p b d = (b, 2) := by
  unfold doB
  rw [if_neg (by omega), if_pos (.inr ⟨hk, h2⟩)]
theorem do_order (hk : d.1 = 1) (ha : d.2.1 = a) (h : a < b.ps.length) (hn : a < b.nw.length) (h2 : ¬ p ≤ d.2.2) : doB p b d = ({ b with nw := b.nw.set a (d.2.2, b.nw[a].2 + 1) }, 0) := by
  unfold doB
  rw [if_neg (by omega), ha, Int.toNat_natCast, if_neg (by omega), if_pos hk, gD hn]
theorem do_sfull (hk : d.1 = 2) (ha : d.2.1 = a) (h : a < b.ps.length) (hf : 10 ≤ b.wr.length) : doB p b d = (b, 3) := by
  unfold doB
  rw [if_neg (by omega), ha, Int.toNat_natCast, if_neg (by omega), if_neg (by omega), if_pos hk, if_pos hf]
theorem do_send (hk : d.1 = 2) (ha : d.2.1 = a) (h : a < b.ps.length) (hn : a < b.nw.length) (hf : ¬ 10 ≤ b.wr.length) : doB p b d = ({ b with wr := b.wr ++ [(false, d.2.1, b.nw[a].1, b.nw[a].2)] }, 0) := by
  unfold doB
  rw [if_neg (by omega), ha, Int.toNat_natCast, if_neg (by omega), if_neg (by omega), if_pos hk, if_neg hf, gD hn]
theorem do_save (hk : d.1 = 6) (ha : d.2.1 = a) (h : a < b.ps.length) : doB p b d = ({ b with sv := b.sv.set a b.ps[a] }, 0) := by
  unfold doB
  rw [if_neg (by omega), ha, Int.toNat_natCast, if_neg (by omega), if_neg (by omega), if_neg (by omega), if_pos hk, gD h]
theorem do_crash (hk : 6 < d.1) (ha : d.2.1 = a) (h : a < b.ps.length) (hs : a < b.sv.length) : doB p b d = ({ b with ps := b.ps.set a b.sv[a] }, 0) := by
  unfold doB
  rw [if_neg (by omega), ha, Int.toNat_natCast, if_neg (by omega), if_neg (by omega), if_neg (by omega), if_neg (by omega), gD hs]
end
/-- A board that is sound behind so many deeds. -/
structure okB (n i : Nat) (b : Bd) : Prop where
  nw : b.nw.length = n
  ps : b.ps.length = n
  sv : b.sv.length = n
  kn : b.kn.length = n
  wr : b.wr.length ≤ 10
  po : ∀ x ∈ b.wr, 0 ≤ x.2.1 ∧ x.2.1 < n
  ve : ∀ x ∈ b.nw, 0 ≤ x.2 ∧ x.2 ≤ i
theorem mem_set {α : Type} {xs : List α} {i : Nat} {x y : α} (h : y ∈ xs.set i x) : y ∈ xs ∨ y = x := by
  rcases List.mem_or_eq_of_mem_set h with h | h
  · exact .inl h
  · exact .inr h
theorem okB.up {n i : Nat} {b : Bd} (h : okB n i b) : okB n (i + 1) b := ⟨h.nw, h.ps, h.sv, h.kn, h.wr, h.po, fun x hx => by have := h.ve x hx; omega⟩
theorem ok_cut {n i : Nat} {b : Bd} {a : Nat} (h : okB n i b) : okB n i (cutW b a) := ⟨h.nw, h.ps, h.sv, h.kn, by
    have := h.wr
    simp only [cutW, List.length_append, List.length_take, List.length_drop]
    omega, fun x hx => by
    rcases List.mem_append.1 hx with hx | hx
    · exact h.po x (List.mem_of_mem_take hx)
    · exact h.po x (List.mem_of_mem_drop hx), h.ve⟩
theorem ok_come {n i : Nat} {b : Bd} {x : No} (h : okB n i b) (hx : 0 ≤ x.2.1 ∧ x.2.1 < n) (hl : x.1 = true ∨ b.wr.length < 10) : okB n i (comeB b x) := by
  unfold comeB
  split
  · exact ⟨h.nw, h.ps, h.sv, by simp [h.kn], h.wr, h.po, h.ve⟩
  · rename_i hb
    have hl' : b.wr.length < 10 := hl.resolve_left hb
    split
    · refine ⟨h.nw, by simp [h.ps], h.sv, h.kn, by simp; omega, fun y hy => ?_, h.ve⟩
      rcases List.mem_append.1 hy with hy | hy
      · exact h.po y hy
      · simp at hy; subst hy; exact hx
    · refine ⟨h.nw, h.ps, h.sv, h.kn, by simp; omega, fun y hy => ?_, h.ve⟩
      rcases List.mem_append.1 hy with hy | hy
      · exact h.po y hy
      · simp at hy; subst hy; exact hx
theorem ok_do {p : Int} {n i : Nat} {b b' : Bd} {d : De} {c : Int} (h : okB n i b) (hd : dOk d) (he : doB p b d = (b', c)) : okB n (i + 1) b' := by
  obtain ⟨a, ha⟩ := Int.eq_ofNat_of_zero_le hd.2.1.1
  have hb : b' = (doB p b d).1 := by rw [he]
  subst hb
  clear he
  unfold doB
  rw [ha, Int.toNat_natCast]
  split
  · split
    · exact h.up
    · rename_i hl
      have hl' : a < b.wr.length := by omega
      have hp := h.po _ (List.getElem_mem hl')
      rw [gD hl']
      split
      · split
        · exact h.up
        · rename_i hc
          exact ok_come h.up hp (by
            cases hw : b.wr[a].1 with
            | true => exact .inl rfl
            | false => exact .inr (by have := h.wr; have : ¬ 10 ≤ b.wr.length := fun h10 => hc ⟨hw, h10⟩; omega))
      · split
        · refine ok_come (ok_cut h.up) hp (.inr ?_)
          have := h.wr
          simp only [cutW, List.length_append, List.length_take, List.length_drop]
          omega
        · exact ok_cut h.up
  · split
    · exact h.up
    · rename_i hl
      have hl' : a < n := by have := h.ps; omega
      have hn : a < b.nw.length := by rw [h.nw]; exact hl'
      split
      · refine ⟨by simp [h.nw], h.ps, h.sv, h.kn, h.wr, h.po, fun x hx => ?_⟩
        rw [gD hn] at hx
        rcases mem_set hx with hx | rfl
        · have := h.ve x hx; omega
        · have := h.ve _ (List.getElem_mem hn)
          simp only
          omega
      · split
        · split
          · exact h.up
          · refine ⟨h.nw, h.ps, h.sv, h.kn, by simp; omega, fun y hy => ?_, fun x hx => by have := h.ve x hx; omega⟩
            rcases List.mem_append.1 hy with hy | hy
            · exact h.po y hy
            · simp only [List.mem_singleton] at hy; subst hy; exact ⟨by simp only; omega, by simp only; omega⟩
        · split
          · exact ⟨h.nw, h.ps, by simp [h.sv], h.kn, h.wr, h.po, fun x hx => by have := h.ve x hx; omega⟩
          · exact ⟨h.nw, by simp [h.ps], h.sv, h.kn, h.wr, h.po, fun x hx => by have := h.ve x hx; omega⟩
/-- A board in the beginning: so many posts. -/
def bg (fs : List Int) (i : Nat) : List Po := (fs.take i).map fun x => (x, 0)
theorem bg_l {fs : List Int} {i : Nat} (hi : i ≤ fs.length) : (bg fs i).length = i := by simp [bg, Nat.min_eq_left hi]
theorem bg_step {fs : List Int} {i : Nat} (hi : i < fs.length) : bg fs i ++ [(fs[i], 0)] = bg fs (i + 1) := by
  unfold bg
  rw [List.take_succ_eq_append_getElem hi, List.map_append]
  rfl
theorem bg_len (fs : List Int) : (bg fs fs.length).length = fs.length := by simp [bg]
def b0 (fs : List Int) : Bd := ⟨bg fs fs.length, bg fs fs.length, bg fs fs.length, List.replicate fs.length 0, []⟩
theorem ok_0 (fs : List Int) : okB fs.length 0 (b0 fs) := ⟨bg_len fs, bg_len fs, bg_len fs, by simp [b0], by simp [b0], fun x hx => by simp [b0] at hx, fun x hx => by
  simp only [b0, bg, List.mem_map] at hx
  obtain ⟨y, -, rfl⟩ := hx
  simp⟩
/-- The board behind so many deeds, and their codes. -/
def stB (p : Int) (fs : List Int) (ds : List De) : Nat → Bd × List Int
  | 0 => (b0 fs, [])
  | i + 1 => ((doB p (stB p fs ds i).1 (ds.getD i (0, 0, 0))).1, (stB p fs ds i).2 ++ [(doB p (stB p fs ds i).1 (ds.getD i (0, 0, 0))).2])
theorem st_step {p : Int} {fs : List Int} {ds : List De} {i : Nat} {b b' : Bd} {cs : List Int} {c : Int} (h : stB p fs ds i = (b, cs)) (hi : i < ds.length) (hd : doB p b ds[i] = (b', c)) : stB p fs ds (i + 1) = (b', cs ++ [c]) := by
  simp only [stB, h, gD hi, hd]
theorem wcut {α : Type} (l : List α) (a : Nat) : ([] ++ (l.drop 0).take (a - 0)) ++ ([] ++ (l.drop (a + 1)).take (l.length - (a + 1))) = l.take a ++ l.drop (a + 1) := by
  simp only [List.nil_append, List.drop_zero, Nat.sub_zero]
  rw [List.take_of_length_le (l := l.drop (a + 1)) (by simp)]
theorem wcut_end {α : Type} {l : List α} {a : Nat} (h : a + 1 = l.length) : ([] ++ (l.drop 0).take (a - 0)) ++ ([] ++ []) = l.take a ++ l.drop (a + 1) := by
  simp only [List.nil_append, List.append_nil, List.drop_zero, Nat.sub_zero]
  rw [List.drop_of_length_le (by omega), List.append_nil]
/-- A board, looked at. -/
def bdv (o : Bool) (b : Bd) : List C := [.any, .sl o b.nw.length 2 (flat pe b.nw), .sl o b.ps.length 2 (flat pe b.ps), .sl o b.sv.length 2 (flat pe b.sv), .sl o b.kn.length 1 (flat int b.kn), .sl o b.wr.length 4 (flat nce b.wr)]
theorem c98 (a b : Int) : PureC X 98 [cI a, cI b] (cI (mx a b)) := by
  refine PureC.of_body (drawD_ok X) (fun _ _ => Go.Proofs.Try.call98 _ _) Go.Proofs.Try.func98 rfl (n := 10) rfl ?_
  refine w_seq ?_
  refine w_reg rfl ?_
  refine v_assign (c := .v (.int .i64 0)) rfl ?_
  refine v_nil ?_
  refine q_n ?_
  refine w_seq ?_
  refine w_seq ?_
  refine w_reg rfl ?_
  refine v_move rfl ?_
  refine v_move rfl ?_
  refine v_gtr lay2 rfl rfl (fun h1 => ?_) (fun h1 => ?_)
  · refine v_nil ?_
    refine q_n ?_
    refine w_t rfl ?_
    refine w_seq ?_
    refine w_reg rfl ?_
    refine v_move rfl ?_
    refine v_assign rfl ?_
    refine v_nil ?_
    refine q_n ?_
    refine w_ret (q_r ?_)
    refine r_r rfl ?_
    exact a_i (by unfold mx; split <;> omega)
  refine v_nil ?_
  refine q_n ?_
  refine w_f rfl ?_
  refine w_skip ?_
  refine q_n ?_
  refine w_seq ?_
  refine w_reg rfl ?_
  refine v_move rfl ?_
  refine v_assign rfl ?_
  refine v_nil ?_
  refine q_n ?_
  refine w_ret ?_
  refine r_r rfl ?_
  exact a_i (by unfold mx; split <;> omega)
end Go.VL
