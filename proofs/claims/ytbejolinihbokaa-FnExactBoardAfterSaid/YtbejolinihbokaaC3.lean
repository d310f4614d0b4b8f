/- A centre's board: what deeds do with it; the reference's walk. -/
import Derived.Test.YtbejolinihbokaaJ2
import Derived.Test.YtbejolinihbokaaV39
namespace Go.VL
open Go.RowKit
set_option maxRecDepth 20000
set_option maxHeartbeats 8000000
abbrev Po := Int × Int
def pe (p : Po) : List C := [.v (.int .i64 p.1), .v (.int .i64 p.2)]
theorem pe_len (p : Po) : (pe p).length = 2 := rfl
theorem pe_sc (p : Po) : (pe p).all sc = true := rfl
structure Bd where
  nw : List Po
  ps : List Po
  sv : List Po
  kn : List Int
  wr : List No
theorem tr_mun {H : List Ob} {g : List (Option Nat)} {i id off n n' k : Nat} (h : g[i]? = some (some id)) (hn : n = n') : TrV H g (.c (.mu id off n k)) (.c (.mu i off n' k)) := by
  subst hn
  exact tr_mu h
def mx (a b : Int) : Int := if a < b then b else a
/-- A notice comes in. -/
def comeB (b : Bd) (n : No) : Bd :=
  if n.1 then { b with kn := b.kn.set n.2.1.toNat (mx (b.kn.getD n.2.1.toNat 0) n.2.2.2) }
  else if n.2.2.2 > (b.ps.getD n.2.1.toNat (0, 0)).2 then { b with ps := b.ps.set n.2.1.toNat (n.2.2.1, n.2.2.2), wr := b.wr ++ [(true, n.2.1, n.2.2.1, n.2.2.2)] }
  else { b with wr := b.wr ++ [(true, n.2.1, (b.ps.getD n.2.1.toNat (0, 0)).1, (b.ps.getD n.2.1.toNat (0, 0)).2)] }
def cutW (b : Bd) (a : Nat) : Bd := { b with wr := b.wr.take a ++ b.wr.drop (a + 1) }
/-- A deed is done, with a code. -/
def doB (p : Int) (b : Bd) (d : De) : Bd × Int :=
  if 3 ≤ d.1 ∧ d.1 ≤ 5 then
    if b.wr.length ≤ d.2.1.toNat then (b, 2)
    else if d.1 = 4 then if (b.wr.getD d.2.1.toNat (false, 0, 0, 0)).1 = false ∧ 10 ≤ b.wr.length then (b, 3) else (comeB b (b.wr.getD d.2.1.toNat (false, 0, 0, 0)), 0)
    else if d.1 = 3 then (comeB (cutW b d.2.1.toNat) (b.wr.getD d.2.1.toNat (false, 0, 0, 0)), 0)
    else (cutW b d.2.1.toNat, 0)
  else if b.ps.length ≤ d.2.1.toNat ∨ d.1 = 1 ∧ p ≤ d.2.2 then (b, 2)
  else if d.1 = 1 then ({ b with nw := b.nw.set d.2.1.toNat (d.2.2, (b.nw.getD d.2.1.toNat (0, 0)).2 + 1) }, 0)
  else if d.1 = 2 then if 10 ≤ b.wr.length then (b, 3) else ({ b with wr := b.wr ++ [(false, d.2.1, (b.nw.getD d.2.1.toNat (0, 0)).1, (b.nw.getD d.2.1.toNat (0, 0)).2)] }, 0)
  else if d.1 = 6 then ({ b with sv := b.sv.set d.2.1.toNat (b.ps.getD d.2.1.toNat (0, 0)) }, 0)
  else ({ b with ps := b.ps.set d.2.1.toNat (b.sv.getD d.2.1.toNat (0, 0)) }, 0)
theorem gD {α : Type} {xs : List α} {i : Nat} {x : α} (h : i < xs.length) : xs.getD i x = xs[i] := by simp [h]
section
variable {p : Int} {b : Bd} {d : De} {a : Nat}
theorem do_wbad (hk : 3 ≤ d.1 ∧ d.1 ≤ 5) (ha : d.2.1 = a) (h : b.wr.length ≤ a) : doB p b d = (b, 2) := by
  unfold doB
  rw [if_pos hk, ha, Int.toNat_natCast, if_pos h]
theorem do_cfull (hk : d.1 = 4) (ha : d.2.1 = a) (h : a < b.wr.length) (hb : b.wr[a].1 = false) (hf : 10 ≤ b.wr.length) : doB p b d = (b, 3) := by
  unfold doB
  rw [if_pos (by omega), ha, Int.toNat_natCast, if_neg (by omega), if_pos hk, gD h, if_pos ⟨hb, hf⟩]
theorem do_copy (hk : d.1 = 4) (ha : d.2.1 = a) (h : a < b.wr.length) (hc : b.wr[a].1 = true ∨ ¬ 10 ≤ b.wr.length) {b' : Bd} (he : comeB b b.wr[a] = b') : doB p b d = (b', 0) := by
  unfold doB
  rw [if_pos (by omega), ha, Int.toNat_natCast, if_neg (by omega), if_pos hk, gD h, if_neg (by rcases hc with hc | hc <;> simp [hc] <;> omega), he]
theorem do_deliver (hk : d.1 = 3) (ha : d.2.1 = a) (h : a < b.wr.length) {b' : Bd} (he : comeB (cutW b a) b.wr[a] = b') : doB p b d = (b', 0) := by
  unfold doB
  rw [if_pos (by omega), ha, Int.toNat_natCast, if_neg (by omega), if_neg (by omega), if_pos hk, gD h, he]
theorem do_drop (hk : d.1 = 5) (ha : d.2.1 = a) (h : a < b.wr.length) : doB p b d = (cutW b a, 0) := by
  unfold doB
  rw [if_pos (by omega), ha, Int.toNat_natCast, if_neg (by omega), if_neg (by omega), if_neg (by omega)]
theorem come_back {n : No} {pn : Nat} (hb : n.1 = true) (hp : n.2.1 = pn) (h : pn < b.kn.length) : comeB b n = { b with kn := b.kn.set pn (mx b.kn[pn] n.2.2.2) } := by
  unfold comeB
  rw [if_pos hb, hp, Int.toNat_natCast, gD h]
theorem come_new {n : No} {pn : Nat} (hb : n.1 = false) (hp : n.2.1 = pn) (h : pn < b.ps.length) (hv : n.2.2.2 > b.ps[pn].2) : comeB b n = { b with ps := b.ps.set pn (n.2.2.1, n.2.2.2), wr := b.wr ++ [(true, n.2.1, n.2.2.1, n.2.2.2)] } := by
  unfold comeB
  rw [if_neg (by rw [hb]; decide), hp, Int.toNat_natCast, gD h, if_pos hv]
theorem come_old {n : No} {pn : Nat} (hb : n.1 = false) (hp : n.2.1 = pn) (h : pn < b.ps.length) (hv : ¬ n.2.2.2 > b.ps[pn].2) : comeB b n = { b with wr := b.wr ++ [(true, n.2.1, b.ps[pn].1, b.ps[pn].2)] } := by
  unfold comeB
  rw [if_neg (by rw [hb]; decide), hp, Int.toNat_natCast, gD h, if_neg hv]
theorem do_pbad (hk : ¬ (3 ≤ d.1 ∧ d.1 ≤ 5)) (ha : d.2.1 = a) (h : b.ps.length ≤ a) : doB p b d = (b, 2) := by
  unfold doB
  rw [if_neg hk, ha, Int.toNat_natCast, if_pos (.inl h)]
theorem do_obad (hk : d.1 = 1) (h2 : p ≤ d.2.2) : doB p b d = (b, 2) := by
  unfold doB
  rw [if_neg (by omega), if_pos (.inr ⟨hk, h2⟩)]
theorem do_order (hk : d.1 = 1) (ha : d.2.1 = a) (h : a < b.ps.length) (hn : a < b.nw.length) (h2 : ¬ p ≤ d.2.2) : doB p b d = ({ b with nw := b.nw.set a (d.2.2, b.nw[a].2 + 1) }, 0) := by
  unfold doB
  rw [if_neg (by omega), ha, Int.toNat_natCast, if_neg (by omega), if_pos hk, gD hn]
theorem do_sfull (hk : d.1 = 2) (ha : d.2.1 = a) (h : a < b.ps.length) (hf : 10 ≤ b.wr.length) : doB p b d = (b, 3) := by
  unfold doB
  rw [if_neg (by omega), ha, Int.toNat_natCast, if_neg (by omega), if_neg (by omega), if_pos hk, if_pos hf]
theorem do_send (hk : d.1 = 2) (ha : d.2.1 = a) (h : a < b.ps.length) (hn : a < b.nw.length) (hf : ¬ 10 ≤ b.wr.length) : doB p b d = ({ b with wr := b.wr ++ [(false, d.2.1, b.nw[a].1, b.nw[a].2)] }, 0) := by
  unfold doB
  rw [if_neg (by omega), ha, Int.toNat_natCast, if_neg (by omega), if_neg (by omega), if_pos hk, if_neg hf, gD hn]
theorem do_save (hk : d.1 = 6) (ha : d.2.1 = a) (h : a < b.ps.length) : doB p b d = ({ b with sv := b.sv.set a b.ps[a] }, 0) := by
  unfold doB
  rw [if_neg (by omega), ha, Int.toNat_natCast, if_neg (by omega), if_neg (by omega), if_neg (by omega), if_pos hk, gD h]
theorem do_crash (hk : 6 < d.1) (ha : d.2.1 = a) (h : a < b.ps.length) (hs : a < b.sv.length) : doB p b d = ({ b with ps := b.ps.set a b.sv[a] }, 0) := by
  unfold doB
  rw [if_neg (by omega), ha, Int.toNat_natCast, if_neg (by omega), if_neg (by omega), if_neg (by omega), if_neg (by omega), gD hs]
end
/-- A board that is sound behind so many deeds. -/
structure okB (n i : Nat) (b : Bd) : Prop where
  nw : b.nw.length = n
  ps : b.ps.length = n
  sv : b.sv.length = n
  kn : b.kn.length = n
  wr : b.wr.length ≤ 10
  po : ∀ x ∈ b.wr, 0 ≤ x.2.1 ∧ x.2.1 < n
  ve : ∀ x ∈ b.nw, 0 ≤ x.2 ∧ x.2 ≤ i
theorem mem_set {α : Type} {xs : List α} {i : Nat} {x y : α} (h : y ∈ xs.set i x) : y ∈ xs ∨ y = x := by
  rcases List.mem_or_eq_of_mem_set h with h | h
  · exact .inl h
  · exact .inr h
theorem okB.up {n i : Nat} {b : Bd} (h : okB n i b) : okB n (i + 1) b := ⟨h.nw, h.ps, h.sv, h.kn, h.wr, h.po, fun x hx => by have := h.ve x hx; omega⟩
theorem ok_cut {n i : Nat} {b : Bd} {a : Nat} (h : okB n i b) : okB n i (cutW b a) := ⟨h.nw, h.ps, h.sv, h.kn, by
    have := h.wr
    simp only [cutW, List.length_append, List.length_take, List.length_drop]
    omega, fun x hx => by
    rcases List.mem_append.1 hx with hx | hx
    · exact h.po x (List.mem_of_mem_take hx)
    · exact h.po x (List.mem_of_mem_drop hx), h.ve⟩
theorem ok_come {n i : Nat} {b : Bd} {x : No} (h : okB n i b) (hx : 0 ≤ x.2.1 ∧ x.2.1 < n) (hl : x.1 = true ∨ b.wr.length < 10) : okB n i (comeB b x) := by
  unfold comeB
  split
  · exact ⟨h.nw, h.ps, h.sv, by simp [h.kn], h.wr, h.po, h.ve⟩
  · rename_i hb
    have hl' : b.wr.length < 10 := hl.resolve_left hb
    split
    · refine ⟨h.nw, by simp [h.ps], h.sv, h.kn, by simp; omega, fun y hy => ?_, h.ve⟩
      rcases List.mem_append.1 hy with hy | hy
      · exact h.po y hy
      · simp at hy; subst hy; exact hx
    · refine ⟨h.nw, h.ps, h.sv, h.kn, by simp; omega, fun y hy => ?_, h.ve⟩
      rcases List.mem_append.1 hy with hy | hy
      · exact h.po y hy
      · simp at hy; subst hy; exact hx
theorem ok_do {p : Int} {n i : Nat} {b b' : Bd} {d : De} {c : Int} (h : okB n i b) (hd : dOk d) (he : doB p b d = (b', c)) : okB n (i + 1) b' := by
  obtain ⟨a, ha⟩ := Int.eq_ofNat_of_zero_le hd.2.1.1
  have hb : b' = (doB p b d).1 := by rw [he]
  subst hb
  clear he
  unfold doB
  rw [ha, Int.toNat_natCast]
  split
  · split
    · exact h.up
    · rename_i hl
      have hl' : a < b.wr.length := by omega
      have hp := h.po _ (List.getElem_mem hl')
      rw [gD hl']
      split
      · split
        · exact h.up
        · rename_i hc
          exact ok_come h.up hp (by
            cases hw : b.wr[a].1 with
            | true => exact .inl rfl
            | false => exact .inr (by have := h.wr; have : ¬ 10 ≤ b.wr.length := fun h10 => hc ⟨hw, h10⟩; omega))
      · split
        · refine ok_come (ok_cut h.up) hp (.inr ?_)
          have := h.wr
          simp only [cutW, List.length_append, List.length_take, List.length_drop]
          omega
        · exact ok_cut h.up
  · split
    · exact h.up
    · rename_i hl
      have hl' : a < n := by have := h.ps; omega
      have hn : a < b.nw.length := by rw [h.nw]; exact hl'
      split
      · refine ⟨by simp [h.nw], h.ps, h.sv, h.kn, h.wr, h.po, fun x hx => ?_⟩
        rw [gD hn] at hx
        rcases mem_set hx with hx | rfl
        · have := h.ve x hx; omega
        · have := h.ve _ (List.getElem_mem hn)
          simp only
          omega
      · split
        · split
          · exact h.up
          · refine ⟨h.nw, h.ps, h.sv, h.kn, by simp; omega, fun y hy => ?_, fun x hx => by have := h.ve x hx; omega⟩
            rcases List.mem_append.1 hy with hy | hy
            · exact h.po y hy
            · simp only [List.mem_singleton] at hy; subst hy; exact ⟨by simp only; omega, by simp only; omega⟩
        · split
          · exact ⟨h.nw, h.ps, by simp [h.sv], h.kn, h.wr, h.po, fun x hx => by have := h.ve x hx; omega⟩
          · exact ⟨h.nw, by simp [h.ps], h.sv, h.kn, h.wr, h.po, fun x hx => by have := h.ve x hx; omega⟩
/-- A board in the beginning: so many posts. -/
def bg (fs : List Int) (i : Nat) : List Po := (fs.take i).map fun x => (x, 0)
theorem bg_l {fs : List Int} {i : Nat} (hi : i ≤ fs.length) : (bg fs i).length = i := by simp [bg, Nat.min_eq_left hi]
theorem bg_step {fs : List Int} {i : Nat} (hi : i < fs.length) : bg fs i ++ [(fs[i], 0)] = bg fs (i + 1) := by
  unfold bg
  rw [List.take_succ_eq_append_getElem hi, List.map_append]
  rfl
theorem bg_len (fs : List Int) : (bg fs fs.length).length = fs.length := by simp [bg]
def b0 (fs : List Int) : Bd := ⟨bg fs fs.length, bg fs fs.length, bg fs fs.length, List.replicate fs.length 0, []⟩
theorem ok_0 (fs : List Int) : okB fs.length 0 (b0 fs) := ⟨bg_len fs, bg_len fs, bg_len fs, by simp [b0], by simp [b0], fun x hx => by simp [b0] at hx, fun x hx => by
  simp only [b0, bg, List.mem_map] at hx
  obtain ⟨y, -, rfl⟩ := hx
  simp⟩
/-- The board behind so many deeds, and their codes. -/
def stB (p : Int) (fs : List Int) (ds : List De) : Nat → Bd × List Int
  | 0 => (b0 fs, [])
  | i + 1 => ((doB p (stB p fs ds i).1 (ds.getD i (0, 0, 0))).1, (stB p fs ds i).2 ++ [(doB p (stB p fs ds i).1 (ds.getD i (0, 0, 0))).2])
theorem st_step {p : Int} {fs : List Int} {ds : List De} {i : Nat} {b b' : Bd} {cs : List Int} {c : Int} (h : stB p fs ds i = (b, cs)) (hi : i < ds.length) (hd : doB p b ds[i] = (b', c)) : stB p fs ds (i + 1) = (b', cs ++ [c]) := by
  simp only [stB, h, gD hi, hd]
theorem wcut {α : Type} (l : List α) (a : Nat) : ([] ++ (l.drop 0).take (a - 0)) ++ ([] ++ (l.drop (a + 1)).take (l.length - (a + 1))) = l.take a ++ l.drop (a + 1) := by
  simp only [List.nil_append, List.drop_zero, Nat.sub_zero]
  rw [List.take_of_length_le (l := l.drop (a + 1)) (by simp)]
theorem wcut_end {α : Type} {l : List α} {a : Nat} (h : a + 1 = l.length) : ([] ++ (l.drop 0).take (a - 0)) ++ ([] ++ []) = l.take a ++ l.drop (a + 1) := by
  simp only [List.nil_append, List.append_nil, List.drop_zero, Nat.sub_zero]
  rw [List.drop_of_length_le (by omega), List.append_nil]
/-- A board, looked at. -/
def bdv (o : Bool) (b : Bd) : List C := [.any, .sl o b.nw.length 2 (flat pe b.nw), .sl o b.ps.length 2 (flat pe b.ps), .sl o b.sv.length 2 (flat pe b.sv), .sl o b.kn.length 1 (flat int b.kn), .sl o b.wr.length 4 (flat nce b.wr)]
theorem c98 (a b : Int) : PureC X 98 [cI a, cI b] (cI (mx a b)) := by
  refine PureC.of_body (drawD_ok X) (fun _ _ => Go.Proofs.Try.call98 _ _) Go.Proofs.Try.func98 rfl (n := 10) rfl ?_
  refine w_seq ?_
  refine w_reg rfl ?_
  refine v_assign (c := .v (.int .i64 0)) rfl ?_
  refine v_nil ?_
  refine q_n ?_
  refine w_seq ?_
  refine w_seq ?_
  refine w_reg rfl ?_
  refine v_move rfl ?_
  refine v_move rfl ?_
  refine v_gtr lay2 rfl rfl (fun h1 => ?_) (fun h1 => ?_)
  · skip
    refine v_nil ?_
    refine q_n ?_
    refine w_t rfl ?_
    refine w_seq ?_
    refine w_reg rfl ?_
    refine v_move rfl ?_
    refine v_assign rfl ?_
    refine v_nil ?_
    refine q_n ?_
    refine w_ret (q_r ?_)
    refine r_r rfl ?_
    exact a_i (by unfold mx; split <;> omega)
  · skip
    refine v_nil ?_
    refine q_n ?_
    refine w_f rfl ?_
    refine w_skip ?_
    refine q_n ?_
    refine w_seq ?_
    refine w_reg rfl ?_
    refine v_move rfl ?_
    refine v_assign rfl ?_
    refine v_nil ?_
    refine q_n ?_
    refine w_ret ?_
    refine r_r rfl ?_
    exact a_i (by unfold mx; split <;> omega)

theorem c59 (p : Int) (fs : List Int) (ds : List De) (hf : fs.length ≤ 6) (hds : ∀ d ∈ ds, dOk d) (hdl : ds.length ≤ 200) : PureC X 59 [.c (.vw false (cen false p fs) 0), .c (dcs false ds)] (.tup [.c (.vw true (bdv true (stB p fs ds ds.length).1) 0), .c (ints true (stB p fs ds ds.length).2)]) := by
  refine PureC.of_body (drawD_ok X) (fun _ _ => Go.Proofs.Try.call59 _ _) Go.Proofs.Try.func59 rfl (n := 29) rfl ?_
  refine w_seq ?_
  refine w_reg rfl ?_
  refine v_assign (c := .v _) rfl ?_
  refine v_assign rfl ?_
  refine v_nil ?_
  refine q_n ?_
  refine w_seq ?_
  refine w_reg rfl ?_
  refine v_move rfl ?_
  refine v_inl (n := 74) (drawD_ok X) (fun _ _ => Go.Proofs.Try.call83 _ _) Go.Proofs.Try.func83 rfl rfl rfl rfl ?_
  refine w_seq ?_
  refine w_reg rfl ?_
  refine v_assign (c := .v _) rfl ?_
  refine v_nil ?_
  refine q_n ?_
  refine w_seq ?_
  refine w_reg rfl ?_
  refine v_move rfl ?_
  refine v_build [(0, 1), (1, 5)] [_, .v _, .v _, .v _, .v _, .v _] lay90 rfl rfl ?_
  refine v_box (m := 0) (H' := [_]) lay90 rfl rfl rfl ?_
  refine v_assign rfl ?_
  refine v_nil ?_
  refine q_n ?_
  refine w_seq ?_
  refine w_seq ?_
  refine w_reg rfl ?_
  refine v_assign (c := .v (.int .i64 0)) rfl ?_
  refine v_nil ?_
  refine q_n ?_
  refine w_block ?_
  refine w_loop (fun k sl H => ∃ i : Nat, k = fs.length - i ∧ i ≤ fs.length ∧ sl = sls [(0, .c (.vw false (cen false p fs) 0)), (3, .c (.pt 0 0)), (4, cI i)] ∧ H = [⟨[.vw false (cen false p fs) 0, .mu 1 0 i 2, .mu 2 0 i 2, .mu 3 0 i 2, .mu 4 0 i 1, .mu 5 0 0 4], 90, true⟩, ⟨flat pe (bg fs i), 46, true⟩, ⟨flat pe (bg fs i), 46, true⟩, ⟨flat pe (bg fs i), 46, true⟩, ⟨flat int (List.replicate i 0), 2, true⟩, ⟨[], 101, true⟩]) ?_ ?_
  · refine ⟨_, _, _, ?_, 0, rfl, Nat.zero_le _, rfl, rfl⟩
    exact turn [some 0, none, none, none, none, none] rfl rfl rfl ⟨⟨_, rfl, .cons tr_vw (.cons (tr_nil rfl) (.cons (tr_nil rfl) (.cons (tr_nil rfl) (.cons (tr_nil rfl) (.cons (tr_nil rfl) .nil)))))⟩, rfl, rfl, rfl, rfl, rfl, trivial⟩ ⟨tr_vw, tr_pt rfl, tr_v, trivial⟩
  · rintro k sl H ⟨i, rfl, hi, rfl, rfl⟩
    refine w_seq ?_
    refine w_seq ?_
    refine w_reg rfl ?_
    refine v_move rfl ?_
    refine v_move rfl ?_
    refine v_nil_vw rfl ?_
    refine v_fa_vw (off' := 1) lay33 rfl rfl rfl ?_
    refine v_load_vw (.c (_)) lay28 rfl rfl rfl ?_
    refine v_len_sl lay28 rfl ?_
    refine v_lss lay3 rfl rfl (fun h1 => ?_) (fun h1 => ?_)
    · skip
      refine v_nil ?_
      refine q_n ?_
      refine w_t rfl ?_
      refine w_skip ?_
      refine q_n ?_
      refine w_seq ?_
      refine w_block ?_
      refine w_seq ?_
      refine w_reg rfl ?_
      refine v_move rfl ?_
      refine v_nil_vw rfl ?_
      refine v_fa_vw (off' := 1) lay33 rfl rfl rfl ?_
      refine v_load_vw (.c (_)) lay28 rfl rfl rfl ?_
      refine v_move rfl ?_
      refine v_idx_e (k := 1) (i) int_len lay28 lay2 rfl rfl rfl (rfl) rfl (rfl) (by omega) ?_
      refine v_load_vw (.c (.v _)) lay2 rfl rfl rfl ?_
      refine v_build [(0, 1), (1, 1)] [.v _, .v _] lay46 rfl rfl ?_
      refine v_alloc (m := 6) (H' := [_, _, _, _, _, _, ⟨[.v _, .v _], 46, true⟩]) lay46 rfl rfl ?_
      refine v_store (H' := [_, _, _, _, _, _, ⟨[_, _], 46, true⟩]) lay46 rfl rfl rfl rfl rfl rfl ?_
      refine v_nil ?_
      refine q_n ?_
      refine w_seq ?_
      refine w_draw [0, 0, 2, 6, 14, 30, 0, 64, 254, 511, 1023, 2047, 4095] [⟨0, 0, []⟩, ⟨1, 0, []⟩, ⟨2, 0, []⟩, ⟨3, 0, []⟩, ⟨4, 0, []⟩, ⟨5, 0, []⟩, ⟨6, 0, []⟩, ⟨7, 2, []⟩, ⟨8, 1, []⟩, ⟨9, 0, []⟩, ⟨10, 0, []⟩, ⟨11, 0, []⟩, ⟨12, 1, []⟩] rfl rfl ?_
      refine d_q rfl rfl rfl rfl rfl ?_
      refine v_move rfl ?_
      refine v_nil ?_
      refine d_q rfl rfl rfl rfl rfl ?_
      refine v_move rfl ?_
      refine v_nil ?_
      refine d_q rfl rfl rfl rfl rfl ?_
      refine v_nil_pt rfl ?_
      refine v_nil ?_
      refine d_q rfl rfl rfl rfl rfl ?_
      refine v_fa_pt (off' := 1) lay90 rfl rfl rfl ?_
      refine v_nil ?_
      refine d_q rfl rfl rfl rfl rfl ?_
      refine v_fa_pt (off' := 1) lay64 rfl rfl rfl ?_
      refine v_nil ?_
      refine d_q rfl rfl rfl rfl rfl ?_
      refine v_load_pt (.c _) lay61 rfl rfl rfl rfl ?_
      refine v_nil ?_
      refine d_q rfl rfl rfl rfl rfl ?_
      refine v_load_pt (.agg [_, _]) lay46 rfl rfl rfl rfl ?_
      refine v_nil ?_
      refine d_z (.c (.sl true 1 2 (flat pe [(fs[i], 0)]))) rfl rfl rfl ?_
      refine d_e rfl rfl rfl ?_
      refine v_app_flat_sl (H' := [_, _, _, _, _, _, _, _]) pe_sc pe_len lay61 lay46 rfl rfl (by first | rfl | (simp; done) | (simp; omega) | omega | (rw [bg_l (by omega)])) rfl rfl rfl (by unfold maxLen; simp only []; omega) rfl rfl ?_
      refine v_nil ⟨again_nil, ?_⟩
      refine d_q rfl rfl rfl rfl rfl ?_
      refine v_nil_pt rfl ?_
      refine v_nil ?_
      refine d_q rfl rfl rfl rfl rfl ?_
      refine v_fa_pt (off' := 1) lay90 rfl rfl rfl ?_
      refine v_nil ?_
      refine d_q rfl rfl rfl rfl rfl ?_
      refine v_fa_pt (off' := 1) lay64 rfl rfl rfl ?_
      refine v_nil ?_
      refine d_e rfl rfl rfl ?_
      refine v_store (H' := [⟨[_, _, _, _, _, _], 90, true⟩, _, _, _, _, _, _, _]) lay61 rfl rfl rfl rfl rfl rfl ?_
      refine v_nil ⟨again_nil, ?_⟩
      refine d_nil ?_
      refine q_n ?_
      refine w_seq ?_
      refine w_draw [0, 0, 2, 6, 14, 30, 0, 64, 254, 511, 1023, 2047, 4095] [⟨0, 0, []⟩, ⟨1, 0, []⟩, ⟨2, 0, []⟩, ⟨3, 0, []⟩, ⟨4, 0, []⟩, ⟨5, 0, []⟩, ⟨6, 0, []⟩, ⟨7, 2, []⟩, ⟨8, 1, []⟩, ⟨9, 0, []⟩, ⟨10, 0, []⟩, ⟨11, 0, []⟩, ⟨12, 1, []⟩] rfl rfl ?_
      refine d_q rfl rfl rfl rfl rfl ?_
      refine v_move rfl ?_
      refine v_nil ?_
      refine d_q rfl rfl rfl rfl rfl ?_
      refine v_move rfl ?_
      refine v_nil ?_
      refine d_q rfl rfl rfl rfl rfl ?_
      refine v_nil_pt rfl ?_
      refine v_nil ?_
      refine d_q rfl rfl rfl rfl rfl ?_
      refine v_fa_pt (off' := 1) lay90 rfl rfl rfl ?_
      refine v_nil ?_
      refine d_q rfl rfl rfl rfl rfl ?_
      refine v_fa_pt (off' := 2) lay64 rfl rfl rfl ?_
      refine v_nil ?_
      refine d_q rfl rfl rfl rfl rfl ?_
      refine v_load_pt (.c _) lay61 rfl rfl rfl rfl ?_
      refine v_nil ?_
      refine d_q rfl rfl rfl rfl rfl ?_
      refine v_load_pt (.agg [_, _]) lay46 rfl rfl rfl rfl ?_
      refine v_nil ?_
      refine d_z (.c (.sl true 1 2 (flat pe [(fs[i], 0)]))) rfl rfl rfl ?_
      refine d_e rfl rfl rfl ?_
      refine v_app_flat_sl (H' := [_, _, _, _, _, _, _, _, _]) pe_sc pe_len lay61 lay46 rfl rfl (by first | rfl | (simp; done) | (simp; omega) | omega | (rw [bg_l (by omega)])) rfl rfl rfl (by unfold maxLen; simp only []; omega) rfl rfl ?_
      refine v_nil ⟨again_nil, ?_⟩
      refine d_q rfl rfl rfl rfl rfl ?_
      refine v_nil_pt rfl ?_
      refine v_nil ?_
      refine d_q rfl rfl rfl rfl rfl ?_
      refine v_fa_pt (off' := 1) lay90 rfl rfl rfl ?_
      refine v_nil ?_
      refine d_q rfl rfl rfl rfl rfl ?_
      refine v_fa_pt (off' := 2) lay64 rfl rfl rfl ?_
      refine v_nil ?_
      refine d_e rfl rfl rfl ?_
      refine v_store (H' := [⟨[_, _, _, _, _, _], 90, true⟩, _, _, _, _, _, _, _, _]) lay61 rfl rfl rfl rfl rfl rfl ?_
      refine v_nil ⟨again_nil, ?_⟩
      refine d_nil ?_
      refine q_n ?_
      refine w_seq ?_
      refine w_draw [0, 0, 2, 6, 14, 30, 0, 64, 254, 511, 1023, 2047, 4095] [⟨0, 0, []⟩, ⟨1, 0, []⟩, ⟨2, 0, []⟩, ⟨3, 0, []⟩, ⟨4, 0, []⟩, ⟨5, 0, []⟩, ⟨6, 0, []⟩, ⟨7, 2, []⟩, ⟨8, 1, []⟩, ⟨9, 0, []⟩, ⟨10, 0, []⟩, ⟨11, 0, []⟩, ⟨12, 1, []⟩] rfl rfl ?_
      refine d_q rfl rfl rfl rfl rfl ?_
      refine v_move rfl ?_
      refine v_nil ?_
      refine d_q rfl rfl rfl rfl rfl ?_
      refine v_move rfl ?_
      refine v_nil ?_
      refine d_q rfl rfl rfl rfl rfl ?_
      refine v_nil_pt rfl ?_
      refine v_nil ?_
      refine d_q rfl rfl rfl rfl rfl ?_
      refine v_fa_pt (off' := 1) lay90 rfl rfl rfl ?_
      refine v_nil ?_
      refine d_q rfl rfl rfl rfl rfl ?_
      refine v_fa_pt (off' := 3) lay64 rfl rfl rfl ?_
      refine v_nil ?_
      refine d_q rfl rfl rfl rfl rfl ?_
      refine v_load_pt (.c _) lay61 rfl rfl rfl rfl ?_
      refine v_nil ?_
      refine d_q rfl rfl rfl rfl rfl ?_
      refine v_load_pt (.agg [_, _]) lay46 rfl rfl rfl rfl ?_
      refine v_nil ?_
      refine d_z (.c (.sl true 1 2 (flat pe [(fs[i], 0)]))) rfl rfl rfl ?_
      refine d_e rfl rfl rfl ?_
      refine v_app_flat_sl (H' := [_, _, _, _, _, _, _, _, _, _]) pe_sc pe_len lay61 lay46 rfl rfl (by first | rfl | (simp; done) | (simp; omega) | omega | (rw [bg_l (by omega)])) rfl rfl rfl (by unfold maxLen; simp only []; omega) rfl rfl ?_
      refine v_nil ⟨again_nil, ?_⟩
      refine d_q rfl rfl rfl rfl rfl ?_
      refine v_nil_pt rfl ?_
      refine v_nil ?_
      refine d_q rfl rfl rfl rfl rfl ?_
      refine v_fa_pt (off' := 1) lay90 rfl rfl rfl ?_
      refine v_nil ?_
      refine d_q rfl rfl rfl rfl rfl ?_
      refine v_fa_pt (off' := 3) lay64 rfl rfl rfl ?_
      refine v_nil ?_
      refine d_e rfl rfl rfl ?_
      refine v_store (H' := [⟨[_, _, _, _, _, _], 90, true⟩, _, _, _, _, _, _, _, _, _]) lay61 rfl rfl rfl rfl rfl rfl ?_
      refine v_nil ⟨again_nil, ?_⟩
      refine d_nil ?_
      refine q_n ?_
      refine w_reg rfl ?_
      refine v_move rfl ?_
      refine v_move rfl ?_
      refine v_nil_pt rfl ?_
      refine v_fa_pt (off' := 1) lay90 rfl rfl rfl ?_
      refine v_fa_pt (off' := 4) lay64 rfl rfl rfl ?_
      refine v_load_pt (.c _) lay28 rfl rfl rfl rfl ?_
      refine v_lit (flat int [0]) (H' := [_, _, _, _, _, _, _, _, _, _, _]) lay28 lay2 rfl rfl ⟨by decide, by decide⟩ rfl rfl ?_
      refine v_app_flat (H' := [_, _, _, _, _, _, _, _, _, _, _, _]) int_sc int_len lay28 lay2 rfl rfl (by first | rfl | (simp; done) | (simp; omega) | omega | (rw [bg_l (by omega)])) rfl rfl (by first | rfl | (simp; done)) rfl rfl (by unfold maxLen; simp only []; omega) rfl rfl ?_
      refine v_nil_pt rfl ?_
      refine v_fa_pt (off' := 1) lay90 rfl rfl rfl ?_
      refine v_fa_pt (off' := 4) lay64 rfl rfl rfl ?_
      refine v_store (H' := [⟨[_, _, _, _, _, _], 90, true⟩, _, _, _, _, _, _, _, _, _, _, _]) lay28 rfl rfl rfl rfl rfl rfl ?_
      refine v_nil ?_
      refine q_bn ?_
      refine q_n ?_
      refine w_reg rfl ?_
      refine v_move rfl ?_
      refine v_add lay3 rfl rfl (i64r (by omega)) ?_
      refine v_assign rfl ?_
      refine v_nil ?_
      refine q_n ?_
      refine ⟨_, _, _, ?_, ⟨i + 1, rfl, by omega, rfl, rfl⟩, by omega⟩
      exact turn [some 0, some 7, some 8, some 9, some 11, some 5] rfl rfl rfl ⟨⟨_, rfl, .cons tr_vw (.cons (tr_mun rfl (by first | rfl | (simp; done) | (simp; omega) | (rw [bg_l (by omega)]))) (.cons (tr_mun rfl (by first | rfl | (simp; done) | (simp; omega) | (rw [bg_l (by omega)]))) (.cons (tr_mun rfl (by first | rfl | (simp; done) | (simp; omega) | (rw [bg_l (by omega)]))) (.cons (tr_mun rfl (by first | rfl | (simp; done) | (simp; omega) | (rw [bg_l (by omega)]))) (.cons (tr_mun rfl (by first | rfl | (simp; done) | (simp; omega) | (rw [bg_l (by omega)]))) .nil)))))⟩, ⟨_, rfl, trc_flat pe_sc (congrArg (flat pe) (bg_step (by omega)))⟩, ⟨_, rfl, trc_flat pe_sc (congrArg (flat pe) (bg_step (by omega)))⟩, ⟨_, rfl, trc_flat pe_sc (congrArg (flat pe) (bg_step (by omega)))⟩, ⟨_, rfl, trc_flat int_sc (congrArg (flat int) (List.replicate_succ').symm)⟩, ⟨_, rfl, .nil⟩, trivial⟩ ⟨tr_vw, tr_pt rfl, tr_v, trivial⟩
    · skip
      refine v_nil ?_
      refine q_n ?_
      refine w_f rfl ?_
      refine w_exit ?_
      refine q_e ?_
      refine q_e ?_
      refine q_hit ?_
      refine q_n ?_
      refine w_seq ?_
      refine w_reg rfl ?_
      refine v_move rfl ?_
      refine v_assign rfl ?_
      refine v_nil ?_
      refine q_n ?_
      refine w_ret ?_
      refine r_r rfl ?_
      refine v_assign rfl ?_
      refine v_nil ?_
      refine q_n ?_
      refine w_seq ?_
      refine w_reg rfl ?_
      refine v_lit (flat int []) (H' := [_, _, _, _, _, _, _]) lay28 lay2 rfl rfl ⟨by decide, by decide⟩ rfl rfl ?_
      refine v_assign rfl ?_
      refine v_nil ?_
      refine q_n ?_
      refine w_seq ?_
      refine w_seq ?_
      refine w_reg rfl ?_
      refine v_assign (c := .v (.int .i64 0)) rfl ?_
      refine v_nil ?_
      refine q_n ?_
      refine w_block ?_
      refine w_loop (fun k sl H => ∃ (i : Nat) (b : Bd) (cs : List Int), k = ds.length - i ∧ i ≤ ds.length ∧ stB p fs ds i = (b, cs) ∧ okB fs.length i b ∧ cs.length = i ∧ sl = sls [(1, .c (dcs false ds)), (6, .c (.pt 0 0)), (7, .c (.mu 6 0 i 1)), (8, cI i)] ∧ H = [⟨[.vw false (cen false p fs) 0, .mu 1 0 b.nw.length 2, .mu 2 0 b.ps.length 2, .mu 3 0 b.sv.length 2, .mu 4 0 b.kn.length 1, .mu 5 0 b.wr.length 4], 90, true⟩, ⟨flat pe b.nw, 46, true⟩, ⟨flat pe b.ps, 46, true⟩, ⟨flat pe b.sv, 46, true⟩, ⟨flat int b.kn, 2, true⟩, ⟨flat nce b.wr, 101, true⟩, ⟨flat int cs, 2, true⟩]) ?_ ?_
      · obtain rfl : i = fs.length := by omega
        refine ⟨_, _, _, ?_, 0, ⟨bg fs fs.length, bg fs fs.length, bg fs fs.length, List.replicate fs.length 0, []⟩, [], rfl, Nat.zero_le _, rfl, ok_0 fs, rfl, rfl, rfl⟩
        exact turn [some 0, some 1, some 2, some 3, some 4, some 5, some 6] rfl rfl rfl ⟨⟨_, rfl, .cons tr_vw (.cons (tr_mun rfl (by first | rfl | (simp; done) | (simp; omega) | (rw [bg_l (by omega)]))) (.cons (tr_mun rfl (by first | rfl | (simp; done) | (simp; omega) | (rw [bg_l (by omega)]))) (.cons (tr_mun rfl (by first | rfl | (simp; done) | (simp; omega) | (rw [bg_l (by omega)]))) (.cons (tr_mun rfl (by first | rfl | (simp; done) | (simp; omega) | (rw [bg_l (by omega)]))) (.cons (tr_mun rfl (by first | rfl | (simp; done) | (simp; omega) | (rw [bg_l (by omega)]))) .nil)))))⟩, ⟨_, rfl, trc_flat pe_sc rfl⟩, ⟨_, rfl, trc_flat pe_sc rfl⟩, ⟨_, rfl, trc_flat pe_sc rfl⟩, ⟨_, rfl, trc_flat int_sc rfl⟩, ⟨_, rfl, .nil⟩, ⟨_, rfl, trc_flat int_sc (xs := []) rfl⟩, trivial⟩ ⟨tr_sl, tr_pt rfl, tr_mun rfl rfl, tr_v, trivial⟩
      · rintro k sl H ⟨i, b, cs, rfl, hi, hst, hok, hcl, rfl, rfl⟩
        refine w_seq ?_
        refine w_seq ?_
        refine w_reg rfl ?_
        refine v_move rfl ?_
        refine v_move rfl ?_
        refine v_len_sl lay41 rfl ?_
        refine v_lss lay3 rfl rfl (fun h3 => ?_) (fun h3 => ?_)
        · skip
          have hi1 : i < ds.length := by omega
          have hd : dOk ds[i] := hds _ (List.getElem_mem hi1)
          have hd1 := hd.1
          obtain ⟨a, ha⟩ : ∃ a : Nat, ds[i].2.1 = a := Int.eq_ofNat_of_zero_le hd.2.1.1
          have ha9 : a ≤ 999 := by have hd2 := hd.2.1.2; omega
          have n1 := hok.nw
          have n2 := hok.ps
          have n3 := hok.sv
          have n4 := hok.kn
          have n5 := hok.wr
          refine v_nil ?_
          refine q_n ?_
          refine w_t rfl ?_
          refine w_skip ?_
          refine q_n ?_
          refine w_seq ?_
          refine w_block ?_
          refine w_reg rfl ?_
          refine v_move rfl ?_
          refine v_move rfl ?_
          refine v_move rfl ?_
          refine v_move rfl ?_
          refine v_idx_e (k := 3) (i) dce_len lay41 lay25 rfl rfl rfl (rfl) rfl (rfl) (by omega) ?_
          refine v_load_vw (.agg [.v _, .v _, .v _]) lay25 rfl rfl rfl ?_
          refine v_inl (n := 136) (drawD_ok X) (fun _ _ => Go.Proofs.Try.call84 _ _) Go.Proofs.Try.func84 rfl rfl rfl rfl ?_
          refine w_seq ?_
          refine w_reg rfl ?_
          refine v_box (m := 7) (H' := [_, _, _, _, _, _, _, _]) lay25 rfl rfl rfl ?_
          refine v_assign (c := .v (.int .i64 0)) rfl ?_
          refine v_nil ?_
          refine q_n ?_
          refine w_seq ?_
          refine w_seq ?_
          refine w_reg rfl ?_
          refine v_fa_pt (off' := 0) lay25 rfl rfl rfl ?_
          refine v_load_pt (.c _) lay2 rfl rfl rfl rfl ?_
          refine v_callb (c64 _ _ _) rfl rfl (.cons vw_v (.cons vw_v (.cons vw_v .nil))) (fun h5 => ?_) (fun h5 => ?_)
          · skip
            refine v_nil ?_
            refine q_n ?_
            refine w_t rfl ?_
            refine w_seq ?_
            refine w_reg rfl ?_
            refine v_move rfl ?_
            refine v_load_pt (.agg [_, _, _]) lay25 rfl rfl rfl rfl ?_
            refine v_inl (n := 78) (drawD_ok X) (fun _ _ => Go.Proofs.Try.call99 _ _) Go.Proofs.Try.func99 rfl rfl rfl rfl ?_
            refine w_seq ?_
            refine w_reg rfl ?_
            refine v_box (m := 8) (H' := [_, _, _, _, _, _, _, _, _]) lay25 rfl rfl rfl ?_
            refine v_assign (c := .v (.int .i64 0)) rfl ?_
            refine v_nil ?_
            refine q_n ?_
            refine w_seq ?_
            refine w_seq ?_
            refine w_draw [0, 1, 0, 4, 12, 28, 60, 124, 255] [⟨0, 0, []⟩, ⟨1, 0, []⟩, ⟨2, 0, []⟩, ⟨3, 0, []⟩, ⟨4, 0, []⟩, ⟨5, 0, []⟩, ⟨6, 0, []⟩, ⟨7, 0, []⟩, ⟨8, 0, []⟩] rfl rfl ?_
            refine d_q rfl rfl rfl rfl rfl ?_
            refine v_fa_pt (off' := 1) lay25 rfl rfl rfl ?_
            refine v_nil ?_
            refine d_q rfl rfl rfl rfl rfl ?_
            refine v_load_pt (.c _) lay2 rfl rfl rfl rfl ?_
            refine v_nil ?_
            refine d_q rfl rfl rfl rfl rfl ?_
            refine v_move rfl ?_
            refine v_nil ?_
            refine d_q rfl rfl rfl rfl rfl ?_
            refine v_nil_pt rfl ?_
            refine v_nil ?_
            refine d_q rfl rfl rfl rfl rfl ?_
            refine v_fa_pt (off' := 1) lay90 rfl rfl rfl ?_
            refine v_nil ?_
            refine d_q rfl rfl rfl rfl rfl ?_
            refine v_fa_pt (off' := 5) lay64 rfl rfl rfl ?_
            refine v_nil ?_
            refine d_q rfl rfl rfl rfl rfl ?_
            refine v_load_pt (.c _) lay62 rfl rfl rfl rfl ?_
            refine v_nil ?_
            refine d_q rfl rfl rfl rfl rfl ?_
            refine v_len_mu lay62 rfl ?_
            refine v_nil ?_
            refine d_q rfl rfl rfl rfl rfl ?_
            refine v_geq lay2 rfl rfl (fun h6 => ?_) (fun h6 => ?_)
            · skip
              refine v_nil ?_
              refine d_nil ?_
              refine q_n ?_
              refine w_t rfl ?_
              refine w_seq ?_
              refine w_reg rfl ?_
              refine v_assign (c := .v (.int .i64 2)) rfl ?_
              refine v_nil ?_
              refine q_n ?_
              refine w_ret (q_r ?_)
              refine r_r rfl ?_
              refine v_assign rfl ?_
              refine v_nil ?_
              refine q_n ?_
              refine w_ret (q_r ?_)
              refine r_r rfl ?_
              refine v_lit (flat int [_]) (H' := [_, _, _, _, _, _, _, _, _, _]) lay28 lay2 rfl rfl ⟨by decide, by decide⟩ rfl rfl ?_
              refine v_app_flat (H' := [_, _, _, _, _, _, _, _, _, _, _]) int_sc int_len lay28 lay2 rfl rfl (by first | rfl | (simp; done) | (simp; omega) | omega | (rw [bg_l (by omega)])) rfl rfl (by first | rfl | (simp; done)) rfl rfl (by unfold maxLen; simp only []; omega) rfl rfl ?_
              refine v_assign rfl ?_
              refine v_nil ?_
              refine q_bn ?_
              refine q_n ?_
              refine w_reg rfl ?_
              refine v_move rfl ?_
              refine v_add lay3 rfl rfl (i64r (by omega)) ?_
              refine v_assign rfl ?_
              refine v_nil ?_
              refine q_n ?_
              have hdo : doB p b ds[i] = (b, 2) := do_wbad h5 ha (by omega)
              refine ⟨_, _, _, ?_, ⟨i + 1, b, cs ++ [2], rfl, by omega, st_step hst hi1 hdo, ok_do hok hd hdo, by simp; omega, rfl, rfl⟩, by omega⟩
              exact turn [some 0, some 1, some 2, some 3, some 4, some 5, some 10] rfl rfl rfl ⟨⟨_, rfl, .cons tr_vw (.cons (tr_mun rfl (by first | rfl | (simp; done) | (simp; omega) | (rw [bg_l (by omega)]))) (.cons (tr_mun rfl (by first | rfl | (simp; done) | (simp; omega) | (rw [bg_l (by omega)]))) (.cons (tr_mun rfl (by first | rfl | (simp; done) | (simp; omega) | (rw [bg_l (by omega)]))) (.cons (tr_mun rfl (by first | rfl | (simp; done) | (simp; omega) | (rw [bg_l (by omega)]))) (.cons (tr_mun rfl (by first | rfl | (simp; done) | (simp; omega) | (rw [bg_l (by omega)]))) .nil)))))⟩, ⟨_, rfl, trc_flat pe_sc rfl⟩, ⟨_, rfl, trc_flat pe_sc rfl⟩, ⟨_, rfl, trc_flat pe_sc rfl⟩, ⟨_, rfl, trc_flat int_sc rfl⟩, ⟨_, rfl, trc_flat nce_sc rfl⟩, ⟨_, rfl, trc_flat int_sc rfl⟩, trivial⟩ ⟨tr_sl, tr_pt rfl, tr_mun rfl (by simp), tr_v, trivial⟩
            · skip
              have k4 : a < b.wr.length := by omega
              obtain ⟨pn, hpn⟩ : ∃ pn : Nat, b.wr[a].2.1 = pn := Int.eq_ofNat_of_zero_le (hok.po _ (List.getElem_mem k4)).1
              have hp2 := (hok.po _ (List.getElem_mem k4)).2
              have k5 : pn < b.kn.length := by omega
              have k6 : pn < b.ps.length := by omega
              refine v_nil ?_
              refine d_nil ?_
              refine q_n ?_
              refine w_f rfl ?_
              refine w_skip ?_
              refine q_n ?_
              refine w_seq ?_
              refine w_draw [0, 1, 3, 7, 15, 0, 32, 127, 255, 0, 1023] [⟨0, 0, []⟩, ⟨1, 0, []⟩, ⟨2, 0, []⟩, ⟨3, 0, []⟩, ⟨4, 0, []⟩, ⟨5, 0, []⟩, ⟨6, 0, []⟩, ⟨7, 0, []⟩, ⟨8, 0, []⟩, ⟨9, 1, [4, 6, 8]⟩, ⟨10, 1, []⟩] rfl rfl ?_
              refine d_q rfl rfl rfl rfl rfl ?_
              refine v_move rfl ?_
              refine v_nil ?_
              refine d_q rfl rfl rfl rfl rfl ?_
              refine v_nil_pt rfl ?_
              refine v_nil ?_
              refine d_q rfl rfl rfl rfl rfl ?_
              refine v_fa_pt (off' := 1) lay90 rfl rfl rfl ?_
              refine v_nil ?_
              refine d_q rfl rfl rfl rfl rfl ?_
              refine v_fa_pt (off' := 5) lay64 rfl rfl rfl ?_
              refine v_nil ?_
              refine d_q rfl rfl rfl rfl rfl ?_
              refine v_load_pt (.c _) lay62 rfl rfl rfl rfl ?_
              refine v_nil ?_
              refine d_q rfl rfl rfl rfl rfl ?_
              refine v_fa_pt (off' := 1) lay25 rfl rfl rfl ?_
              refine v_nil ?_
              refine d_q rfl rfl rfl rfl rfl ?_
              refine v_load_pt (.c _) lay2 rfl rfl rfl rfl ?_
              refine v_nil ?_
              refine d_q rfl rfl rfl rfl rfl ?_
              refine v_idx_mu_e (k := 4) (off := 0) (a) lay62 lay101 rfl rfl rfl (ha) (by omega) ?_
              refine v_nil ?_
              refine d_q rfl rfl rfl rfl rfl ?_
              refine v_load_flat a 0 (.agg [.v _, .v _, .v _, .v _]) nce_len lay101 rfl rfl (by omega) (by first | omega | (simp; omega)) rfl rfl ?_
              refine v_nil ?_
              refine d_e rfl rfl rfl ?_
              refine v_alloc (m := 9) (H' := [_, _, _, _, _, _, _, _, _, ⟨[.v _, .v _, .v _, .v _], 101, true⟩]) lay101 rfl rfl ?_
              refine v_nil ⟨⟨ag_load_flat a 0 (.agg [.v _, .v _, .v _, .v _]) nce_len lay101 rfl rfl (by omega) (by first | omega | (simp; omega)) rfl rfl, ⟨ag_load_pt (.c _) lay2 rfl rfl rfl rfl, ⟨ag_load_pt (.c _) lay62 rfl rfl rfl rfl, trivial⟩⟩⟩, ?_⟩
              refine d_e rfl rfl rfl ?_
              refine v_store (H' := [_, _, _, _, _, _, _, _, _, ⟨[_, _, _, _], 101, true⟩]) lay101 rfl rfl rfl rfl rfl rfl ?_
              refine v_nil ⟨again_nil, ?_⟩
              refine d_nil ?_
              refine q_n ?_
              refine w_seq ?_
              refine w_seq ?_
              refine w_reg rfl ?_
              refine v_fa_pt (off' := 0) lay25 rfl rfl rfl ?_
              refine v_load_pt (.c _) lay2 rfl rfl rfl rfl ?_
              refine v_eql lay2 rfl rfl (fun h8 => ?_) (fun h8 => ?_)
              · skip
                refine v_move rfl ?_
                refine v_guard_on rfl rfl ?_
                refine v_fa_pt (off' := 0) lay101 rfl rfl rfl ?_
                refine v_guard_on rfl rfl ?_
                refine v_load_ptb lay4 rfl rfl rfl rfl (fun h9 => ?_) (fun h9 => ?_)
                · skip
                  refine v_guard_on rfl rfl ?_
                  refine v_not false rfl rfl ?_
                  refine v_pick_t rfl rfl ?_
                  refine v_move rfl ?_
                  refine v_guard_off rfl rfl rfl ?_
                  refine v_guard_off rfl rfl rfl ?_
                  refine v_guard_off rfl rfl rfl ?_
                  refine v_guard_off rfl rfl rfl ?_
                  refine v_guard_off rfl rfl rfl ?_
                  refine v_guard_off rfl rfl rfl ?_
                  refine v_guard_off rfl rfl rfl ?_
                  refine v_pick_f (v := .v (.bool false)) rfl rfl ?_
                  refine v_nil ?_
                  refine q_n ?_
                  refine w_f rfl ?_
                  refine w_skip ?_
                  refine q_n ?_
                  refine w_seq ?_
                  refine w_seq ?_
                  refine w_reg rfl ?_
                  refine v_fa_pt (off' := 0) lay25 rfl rfl rfl ?_
                  refine v_load_pt (.c _) lay2 rfl rfl rfl rfl ?_
                  refine v_neq lay2 rfl rfl (fun h10 => ?_) (fun h10 => ?_)
                  · skip
                    exfalso; omega
                  · skip
                    refine v_nil ?_
                    refine q_n ?_
                    refine w_f rfl ?_
                    refine w_skip ?_
                    refine q_n ?_
                    refine w_seq ?_
                    refine w_seq ?_
                    refine w_reg rfl ?_
                    refine v_fa_pt (off' := 0) lay25 rfl rfl rfl ?_
                    refine v_load_pt (.c _) lay2 rfl rfl rfl rfl ?_
                    refine v_neq lay2 rfl rfl (fun h11 => ?_) (fun h11 => ?_)
                    · skip
                      refine v_nil ?_
                      refine q_n ?_
                      refine w_t rfl ?_
                      refine w_reg rfl ?_
                      refine v_move rfl ?_
                      refine v_load_pt (.agg [_, _, _, _]) lay101 rfl rfl rfl rfl ?_
                      refine v_inl (n := 80) (drawD_ok X) (fun _ _ => Go.Proofs.Try.call105 _ _) Go.Proofs.Try.func105 rfl rfl rfl rfl ?_
                      refine w_seq ?_
                      refine w_reg rfl ?_
                      refine v_box (m := 10) (H' := [_, _, _, _, _, _, _, _, _, _, _]) lay101 rfl rfl rfl ?_
                      refine v_nil ?_
                      refine q_n ?_
                      refine w_seq ?_
                      refine w_seq ?_
                      refine w_reg rfl ?_
                      refine v_fa_pt (off' := 0) lay101 rfl rfl rfl ?_
                      refine v_load_ptb lay4 rfl rfl rfl rfl (fun h12 => ?_) (fun h12 => ?_)
                      · skip
                        refine v_nil ?_
                        refine q_n ?_
                        refine w_t rfl ?_
                        refine w_seq ?_
                        refine w_draw [0, 1, 3, 7, 15, 0, 32, 0, 128, 384, 896, 1920, 0, 4096, 16256, 32640, 0, 65536, 262016, 524287, 1048575] [⟨0, 0, []⟩, ⟨1, 0, []⟩, ⟨2, 0, []⟩, ⟨3, 0, []⟩, ⟨4, 0, []⟩, ⟨5, 0, []⟩, ⟨6, 0, []⟩, ⟨7, 0, []⟩, ⟨8, 0, []⟩, ⟨9, 0, []⟩, ⟨10, 0, []⟩, ⟨11, 0, []⟩, ⟨12, 0, []⟩, ⟨13, 0, []⟩, ⟨14, 0, []⟩, ⟨15, 0, []⟩, ⟨16, 0, []⟩, ⟨17, 0, []⟩, ⟨18, 0, []⟩, ⟨19, 0, []⟩, ⟨20, 1, []⟩] rfl rfl ?_
                        refine d_q rfl rfl rfl rfl rfl ?_
                        refine v_move rfl ?_
                        refine v_nil ?_
                        refine d_q rfl rfl rfl rfl rfl ?_
                        refine v_nil_pt rfl ?_
                        refine v_nil ?_
                        refine d_q rfl rfl rfl rfl rfl ?_
                        refine v_fa_pt (off' := 1) lay90 rfl rfl rfl ?_
                        refine v_nil ?_
                        refine d_q rfl rfl rfl rfl rfl ?_
                        refine v_fa_pt (off' := 4) lay64 rfl rfl rfl ?_
                        refine v_nil ?_
                        refine d_q rfl rfl rfl rfl rfl ?_
                        refine v_load_pt (.c _) lay28 rfl rfl rfl rfl ?_
                        refine v_nil ?_
                        refine d_q rfl rfl rfl rfl rfl ?_
                        refine v_fa_pt (off' := 1) lay101 rfl rfl rfl ?_
                        refine v_nil ?_
                        refine d_q rfl rfl rfl rfl rfl ?_
                        refine v_load_pt (.c _) lay2 rfl rfl rfl rfl ?_
                        refine v_nil ?_
                        refine d_q rfl rfl rfl rfl rfl ?_
                        refine v_move rfl ?_
                        refine v_nil ?_
                        refine d_q rfl rfl rfl rfl rfl ?_
                        refine v_nil_pt rfl ?_
                        refine v_nil ?_
                        refine d_q rfl rfl rfl rfl rfl ?_
                        refine v_fa_pt (off' := 1) lay90 rfl rfl rfl ?_
                        refine v_nil ?_
                        refine d_q rfl rfl rfl rfl rfl ?_
                        refine v_fa_pt (off' := 4) lay64 rfl rfl rfl ?_
                        refine v_nil ?_
                        refine d_q rfl rfl rfl rfl rfl ?_
                        refine v_load_pt (.c _) lay28 rfl rfl rfl rfl ?_
                        refine v_nil ?_
                        refine d_q rfl rfl rfl rfl rfl ?_
                        refine v_fa_pt (off' := 1) lay101 rfl rfl rfl ?_
                        refine v_nil ?_
                        refine d_q rfl rfl rfl rfl rfl ?_
                        refine v_load_pt (.c _) lay2 rfl rfl rfl rfl ?_
                        refine v_nil ?_
                        refine d_q rfl rfl rfl rfl rfl ?_
                        refine v_idx_mu_e (k := 1) (off := 0) (pn) lay28 lay2 rfl rfl rfl (hpn) (by omega) ?_
                        refine v_nil ?_
                        refine d_q rfl rfl rfl rfl rfl ?_
                        refine v_load_flat pn 0 (.c (.v _)) int_len lay2 rfl rfl (by omega) (by first | omega | (simp; omega)) rfl rfl ?_
                        refine v_nil ?_
                        refine d_q rfl rfl rfl rfl rfl ?_
                        refine v_fa_pt (off' := 3) lay101 rfl rfl rfl ?_
                        refine v_nil ?_
                        refine d_q rfl rfl rfl rfl rfl ?_
                        refine v_load_pt (.c _) lay2 rfl rfl rfl rfl ?_
                        refine v_nil ?_
                        refine d_call (c98 _ _) rfl rfl rfl rfl rfl (.cons vw_v (.cons vw_v .nil)) ?_
                        refine d_q rfl rfl rfl rfl rfl ?_
                        refine v_idx_mu_e (k := 1) (off := 0) (pn) lay28 lay2 rfl rfl rfl (hpn) (by omega) ?_
                        refine v_nil ?_
                        refine d_e rfl rfl rfl ?_
                        refine v_store_flat (H' := [_, _, _, _, _, _, _, _, _, _, _]) pn 0 (mx b.kn[pn] b.wr[a].2.2.2) int_len lay2 rfl rfl rfl (by omega) (by first | omega | (simp; omega)) rfl rfl (rfl) rfl ?_
                        refine v_nil ⟨again_nil, ?_⟩
                        refine d_nil ?_
                        refine q_n ?_
                        refine w_ret (q_r ?_)
                        refine r_r rfl ?_
                        refine v_nil ?_
                        refine q_n ?_
                        refine w_seq ?_
                        refine w_reg rfl ?_
                        refine v_assign (c := .v (.int .i64 0)) rfl ?_
                        refine v_nil ?_
                        refine q_n ?_
                        refine w_ret ?_
                        refine r_r rfl ?_
                        refine v_assign rfl ?_
                        refine v_nil ?_
                        refine q_n ?_
                        refine w_ret (q_r ?_)
                        refine r_r rfl ?_
                        refine v_lit (flat int [_]) (H' := [_, _, _, _, _, _, _, _, _, _, _, _]) lay28 lay2 rfl rfl ⟨by decide, by decide⟩ rfl rfl ?_
                        refine v_app_flat (H' := [_, _, _, _, _, _, _, _, _, _, _, _, _]) int_sc int_len lay28 lay2 rfl rfl (by first | rfl | (simp; done) | (simp; omega) | omega | (rw [bg_l (by omega)])) rfl rfl (by first | rfl | (simp; done)) rfl rfl (by unfold maxLen; simp only []; omega) rfl rfl ?_
                        refine v_assign rfl ?_
                        refine v_nil ?_
                        refine q_bn ?_
                        refine q_n ?_
                        refine w_reg rfl ?_
                        refine v_move rfl ?_
                        refine v_add lay3 rfl rfl (i64r (by omega)) ?_
                        refine v_assign rfl ?_
                        refine v_nil ?_
                        refine q_n ?_
                        have hdo : doB p b ds[i] = ({ b with kn := b.kn.set pn (mx b.kn[pn] b.wr[a].2.2.2) }, 0) := do_copy (by omega) ha k4 (.inl h9) (come_back h9 hpn k5)
                        refine ⟨_, _, _, ?_, ⟨i + 1, { b with kn := b.kn.set pn (mx b.kn[pn] b.wr[a].2.2.2) }, cs ++ [0], rfl, by omega, st_step hst hi1 hdo, ok_do hok hd hdo, by simp; omega, rfl, rfl⟩, by omega⟩
                        exact turn [some 0, some 1, some 2, some 3, some 4, some 5, some 12] rfl rfl rfl ⟨⟨_, rfl, .cons tr_vw (.cons (tr_mun rfl (by first | rfl | (simp; done) | (simp; omega) | (rw [bg_l (by omega)]))) (.cons (tr_mun rfl (by first | rfl | (simp; done) | (simp; omega) | (rw [bg_l (by omega)]))) (.cons (tr_mun rfl (by first | rfl | (simp; done) | (simp; omega) | (rw [bg_l (by omega)]))) (.cons (tr_mun rfl (by first | rfl | (simp; done) | (simp; omega) | (rw [bg_l (by omega)]))) (.cons (tr_mun rfl (by first | rfl | (simp; done) | (simp; omega) | (rw [bg_l (by omega)]))) .nil)))))⟩, ⟨_, rfl, trc_flat pe_sc rfl⟩, ⟨_, rfl, trc_flat pe_sc rfl⟩, ⟨_, rfl, trc_flat pe_sc rfl⟩, ⟨_, rfl, trc_flat int_sc rfl⟩, ⟨_, rfl, trc_flat nce_sc rfl⟩, ⟨_, rfl, trc_flat int_sc rfl⟩, trivial⟩ ⟨tr_sl, tr_pt rfl, tr_mun rfl (by simp), tr_v, trivial⟩
                      · skip
                        exact absurd (h9.symm.trans h12) (by decide)
                    · skip
                      exfalso; omega
                · skip
                  refine v_guard_on rfl rfl ?_
                  refine v_not true rfl rfl ?_
                  refine v_pick_t rfl rfl ?_
                  refine v_move rfl ?_
                  refine v_guard_on rfl rfl ?_
                  refine v_move rfl ?_
                  refine v_guard_on rfl rfl ?_
                  refine v_nil_pt rfl ?_
                  refine v_guard_on rfl rfl ?_
                  refine v_fa_pt (off' := 1) lay90 rfl rfl rfl ?_
                  refine v_guard_on rfl rfl ?_
                  refine v_fa_pt (off' := 5) lay64 rfl rfl rfl ?_
                  refine v_guard_on rfl rfl ?_
                  refine v_load_pt (.c _) lay62 rfl rfl rfl rfl ?_
                  refine v_guard_on rfl rfl ?_
                  refine v_len_mu lay62 rfl ?_
                  refine v_guard_on rfl rfl ?_
                  refine v_geq lay3 rfl rfl (fun h15 => ?_) (fun h15 => ?_)
                  · skip
                    refine v_pick_t rfl rfl ?_
                    refine v_nil ?_
                    refine q_n ?_
                    refine w_t rfl ?_
                    refine w_seq ?_
                    refine w_reg rfl ?_
                    refine v_assign (c := .v (.int .i64 3)) rfl ?_
                    refine v_nil ?_
                    refine q_n ?_
                    refine w_ret (q_r ?_)
                    refine r_r rfl ?_
                    refine v_assign rfl ?_
                    refine v_nil ?_
                    refine q_n ?_
                    refine w_ret (q_r ?_)
                    refine r_r rfl ?_
                    refine v_lit (flat int [_]) (H' := [_, _, _, _, _, _, _, _, _, _, _]) lay28 lay2 rfl rfl ⟨by decide, by decide⟩ rfl rfl ?_
                    refine v_app_flat (H' := [_, _, _, _, _, _, _, _, _, _, _, _]) int_sc int_len lay28 lay2 rfl rfl (by first | rfl | (simp; done) | (simp; omega) | omega | (rw [bg_l (by omega)])) rfl rfl (by first | rfl | (simp; done)) rfl rfl (by unfold maxLen; simp only []; omega) rfl rfl ?_
                    refine v_assign rfl ?_
                    refine v_nil ?_
                    refine q_bn ?_
                    refine q_n ?_
                    refine w_reg rfl ?_
                    refine v_move rfl ?_
                    refine v_add lay3 rfl rfl (i64r (by omega)) ?_
                    refine v_assign rfl ?_
                    refine v_nil ?_
                    refine q_n ?_
                    have hdo : doB p b ds[i] = (b, 3) := do_cfull (by omega) ha k4 h9 (by omega)
                    refine ⟨_, _, _, ?_, ⟨i + 1, b, cs ++ [3], rfl, by omega, st_step hst hi1 hdo, ok_do hok hd hdo, by simp; omega, rfl, rfl⟩, by omega⟩
                    exact turn [some 0, some 1, some 2, some 3, some 4, some 5, some 11] rfl rfl rfl ⟨⟨_, rfl, .cons tr_vw (.cons (tr_mun rfl (by first | rfl | (simp; done) | (simp; omega) | (rw [bg_l (by omega)]))) (.cons (tr_mun rfl (by first | rfl | (simp; done) | (simp; omega) | (rw [bg_l (by omega)]))) (.cons (tr_mun rfl (by first | rfl | (simp; done) | (simp; omega) | (rw [bg_l (by omega)]))) (.cons (tr_mun rfl (by first | rfl | (simp; done) | (simp; omega) | (rw [bg_l (by omega)]))) (.cons (tr_mun rfl (by first | rfl | (simp; done) | (simp; omega) | (rw [bg_l (by omega)]))) .nil)))))⟩, ⟨_, rfl, trc_flat pe_sc rfl⟩, ⟨_, rfl, trc_flat pe_sc rfl⟩, ⟨_, rfl, trc_flat pe_sc rfl⟩, ⟨_, rfl, trc_flat int_sc rfl⟩, ⟨_, rfl, trc_flat nce_sc rfl⟩, ⟨_, rfl, trc_flat int_sc rfl⟩, trivial⟩ ⟨tr_sl, tr_pt rfl, tr_mun rfl (by simp), tr_v, trivial⟩
                  · skip
                    refine v_pick_t rfl rfl ?_
                    refine v_nil ?_
                    refine q_n ?_
                    refine w_f rfl ?_
                    refine w_skip ?_
                    refine q_n ?_
                    refine w_seq ?_
                    refine w_seq ?_
                    refine w_reg rfl ?_
                    refine v_fa_pt (off' := 0) lay25 rfl rfl rfl ?_
                    refine v_load_pt (.c _) lay2 rfl rfl rfl rfl ?_
                    refine v_neq lay2 rfl rfl (fun h16 => ?_) (fun h16 => ?_)
                    · skip
                      exfalso; omega
                    · skip
                      refine v_nil ?_
                      refine q_n ?_
                      refine w_f rfl ?_
                      refine w_skip ?_
                      refine q_n ?_
                      refine w_seq ?_
                      refine w_seq ?_
                      refine w_reg rfl ?_
                      refine v_fa_pt (off' := 0) lay25 rfl rfl rfl ?_
                      refine v_load_pt (.c _) lay2 rfl rfl rfl rfl ?_
                      refine v_neq lay2 rfl rfl (fun h17 => ?_) (fun h17 => ?_)
                      · skip
                        refine v_nil ?_
                        refine q_n ?_
                        refine w_t rfl ?_
                        refine w_reg rfl ?_
                        refine v_move rfl ?_
                        refine v_load_pt (.agg [_, _, _, _]) lay101 rfl rfl rfl rfl ?_
                        refine v_inl (n := 80) (drawD_ok X) (fun _ _ => Go.Proofs.Try.call105 _ _) Go.Proofs.Try.func105 rfl rfl rfl rfl ?_
                        refine w_seq ?_
                        refine w_reg rfl ?_
                        refine v_box (m := 10) (H' := [_, _, _, _, _, _, _, _, _, _, _]) lay101 rfl rfl rfl ?_
                        refine v_nil ?_
                        refine q_n ?_
                        refine w_seq ?_
                        refine w_seq ?_
                        refine w_reg rfl ?_
                        refine v_fa_pt (off' := 0) lay101 rfl rfl rfl ?_
                        refine v_load_ptb lay4 rfl rfl rfl rfl (fun h18 => ?_) (fun h18 => ?_)
                        · skip
                          exact absurd (h9.symm.trans h18) (by decide)
                        · skip
                          refine v_nil ?_
                          refine q_n ?_
                          refine w_f rfl ?_
                          refine w_skip ?_
                          refine q_n ?_
                          refine w_seq ?_
                          refine w_seq ?_
                          refine w_draw [0, 1, 0, 4, 12, 28, 60, 0, 128, 508, 1020, 2044, 4095] [⟨0, 0, []⟩, ⟨1, 0, []⟩, ⟨2, 0, []⟩, ⟨3, 0, []⟩, ⟨4, 0, []⟩, ⟨5, 0, []⟩, ⟨6, 0, []⟩, ⟨7, 0, []⟩, ⟨8, 0, []⟩, ⟨9, 0, []⟩, ⟨10, 0, []⟩, ⟨11, 0, []⟩, ⟨12, 0, []⟩] rfl rfl ?_
                          refine d_q rfl rfl rfl rfl rfl ?_
                          refine v_fa_pt (off' := 3) lay101 rfl rfl rfl ?_
                          refine v_nil ?_
                          refine d_q rfl rfl rfl rfl rfl ?_
                          refine v_load_pt (.c _) lay2 rfl rfl rfl rfl ?_
                          refine v_nil ?_
                          refine d_q rfl rfl rfl rfl rfl ?_
                          refine v_move rfl ?_
                          refine v_nil ?_
                          refine d_q rfl rfl rfl rfl rfl ?_
                          refine v_nil_pt rfl ?_
                          refine v_nil ?_
                          refine d_q rfl rfl rfl rfl rfl ?_
                          refine v_fa_pt (off' := 1) lay90 rfl rfl rfl ?_
                          refine v_nil ?_
                          refine d_q rfl rfl rfl rfl rfl ?_
                          refine v_fa_pt (off' := 2) lay64 rfl rfl rfl ?_
                          refine v_nil ?_
                          refine d_q rfl rfl rfl rfl rfl ?_
                          refine v_load_pt (.c _) lay61 rfl rfl rfl rfl ?_
                          refine v_nil ?_
                          refine d_q rfl rfl rfl rfl rfl ?_
                          refine v_fa_pt (off' := 1) lay101 rfl rfl rfl ?_
                          refine v_nil ?_
                          refine d_q rfl rfl rfl rfl rfl ?_
                          refine v_load_pt (.c _) lay2 rfl rfl rfl rfl ?_
                          refine v_nil ?_
                          refine d_q rfl rfl rfl rfl rfl ?_
                          refine v_idx_mu_e (k := 2) (off := 0) (pn) lay61 lay46 rfl rfl rfl (hpn) (by omega) ?_
                          refine v_nil ?_
                          refine d_q rfl rfl rfl rfl rfl ?_
                          refine v_fa_pt (off' := _) lay46 rfl rfl rfl ?_
                          refine v_nil ?_
                          refine d_q rfl rfl rfl rfl rfl ?_
                          refine v_load_flat pn 1 (.c (.v _)) pe_len lay2 rfl rfl (by omega) (by first | omega | (simp; omega)) rfl rfl ?_
                          refine v_nil ?_
                          refine d_q rfl rfl rfl rfl rfl ?_
                          refine v_gtr lay2 rfl rfl (fun h20 => ?_) (fun h20 => ?_)
                          · skip
                            refine v_nil ?_
                            refine d_nil ?_
                            refine q_n ?_
                            refine w_t rfl ?_
                            refine w_draw [0, 1, 3, 7, 15, 0, 32, 0, 128, 0, 512, 1920, 4095, 8191] [⟨0, 0, []⟩, ⟨1, 0, []⟩, ⟨2, 0, []⟩, ⟨3, 0, []⟩, ⟨4, 0, []⟩, ⟨5, 0, []⟩, ⟨6, 0, []⟩, ⟨7, 0, []⟩, ⟨8, 0, []⟩, ⟨9, 0, []⟩, ⟨10, 0, []⟩, ⟨11, 0, []⟩, ⟨12, 0, []⟩, ⟨13, 1, []⟩] rfl rfl ?_
                            refine d_q rfl rfl rfl rfl rfl ?_
                            refine v_move rfl ?_
                            refine v_nil ?_
                            refine d_q rfl rfl rfl rfl rfl ?_
                            refine v_nil_pt rfl ?_
                            refine v_nil ?_
                            refine d_q rfl rfl rfl rfl rfl ?_
                            refine v_fa_pt (off' := 1) lay90 rfl rfl rfl ?_
                            refine v_nil ?_
                            refine d_q rfl rfl rfl rfl rfl ?_
                            refine v_fa_pt (off' := 2) lay64 rfl rfl rfl ?_
                            refine v_nil ?_
                            refine d_q rfl rfl rfl rfl rfl ?_
                            refine v_load_pt (.c _) lay61 rfl rfl rfl rfl ?_
                            refine v_nil ?_
                            refine d_q rfl rfl rfl rfl rfl ?_
                            refine v_fa_pt (off' := 1) lay101 rfl rfl rfl ?_
                            refine v_nil ?_
                            refine d_q rfl rfl rfl rfl rfl ?_
                            refine v_load_pt (.c _) lay2 rfl rfl rfl rfl ?_
                            refine v_nil ?_
                            refine d_q rfl rfl rfl rfl rfl ?_
                            refine v_fa_pt (off' := 2) lay101 rfl rfl rfl ?_
                            refine v_nil ?_
                            refine d_q rfl rfl rfl rfl rfl ?_
                            refine v_load_pt (.c _) lay2 rfl rfl rfl rfl ?_
                            refine v_nil ?_
                            refine d_q rfl rfl rfl rfl rfl ?_
                            refine v_fa_pt (off' := 3) lay101 rfl rfl rfl ?_
                            refine v_nil ?_
                            refine d_q rfl rfl rfl rfl rfl ?_
                            refine v_load_pt (.c _) lay2 rfl rfl rfl rfl ?_
                            refine v_nil ?_
                            refine d_q rfl rfl rfl rfl rfl ?_
                            refine v_build [(0, 1), (1, 1)] [.v _, .v _] lay46 rfl rfl ?_
                            refine v_nil ?_
                            refine d_q rfl rfl rfl rfl rfl ?_
                            refine v_idx_mu_e (k := 2) (off := 0) (pn) lay61 lay46 rfl rfl rfl (hpn) (by omega) ?_
                            refine v_nil ?_
                            refine d_e rfl rfl rfl ?_
                            refine v_store_flat (H' := [_, _, _, _, _, _, _, _, _, _, _]) pn 0 ((b.wr[a].2.2.1, b.wr[a].2.2.2)) pe_len lay46 rfl rfl rfl (by omega) (by first | omega | (simp; omega)) rfl rfl (rfl) rfl ?_
                            refine v_nil ⟨again_nil, ?_⟩
                            refine d_nil ?_
                            refine q_n ?_
                            refine w_seq ?_
                            refine w_draw [0, 1, 3, 7, 15, 0, 32, 127, 255, 0, 1023] [⟨0, 0, []⟩, ⟨1, 0, []⟩, ⟨2, 0, []⟩, ⟨3, 0, []⟩, ⟨4, 0, []⟩, ⟨5, 0, []⟩, ⟨6, 0, []⟩, ⟨7, 0, []⟩, ⟨8, 0, []⟩, ⟨9, 1, [4, 6, 8]⟩, ⟨10, 1, []⟩] rfl rfl ?_
                            refine d_q rfl rfl rfl rfl rfl ?_
                            refine v_move rfl ?_
                            refine v_nil ?_
                            refine d_q rfl rfl rfl rfl rfl ?_
                            refine v_nil_pt rfl ?_
                            refine v_nil ?_
                            refine d_q rfl rfl rfl rfl rfl ?_
                            refine v_fa_pt (off' := 1) lay90 rfl rfl rfl ?_
                            refine v_nil ?_
                            refine d_q rfl rfl rfl rfl rfl ?_
                            refine v_fa_pt (off' := 2) lay64 rfl rfl rfl ?_
                            refine v_nil ?_
                            refine d_q rfl rfl rfl rfl rfl ?_
                            refine v_load_pt (.c _) lay61 rfl rfl rfl rfl ?_
                            refine v_nil ?_
                            refine d_q rfl rfl rfl rfl rfl ?_
                            refine v_fa_pt (off' := 1) lay101 rfl rfl rfl ?_
                            refine v_nil ?_
                            refine d_q rfl rfl rfl rfl rfl ?_
                            refine v_load_pt (.c _) lay2 rfl rfl rfl rfl ?_
                            refine v_nil ?_
                            refine d_q rfl rfl rfl rfl rfl ?_
                            refine v_idx_mu_e (k := 2) (off := 0) (pn) lay61 lay46 rfl rfl rfl (hpn) (by omega) ?_
                            refine v_nil ?_
                            refine d_q rfl rfl rfl rfl rfl ?_
                            refine v_load_flat pn 0 (.agg [.v _, .v _]) pe_len lay46 rfl rfl (by omega) (by first | omega | (simp; omega)) rfl rfl ?_
                            refine v_nil ?_
                            refine d_e rfl rfl rfl ?_
                            refine v_alloc (m := 11) (H' := [_, _, _, _, _, _, _, _, _, _, _, ⟨[.v _, .v _], 46, true⟩]) lay46 rfl rfl ?_
                            refine v_nil ⟨⟨ag_load_flat pn 0 (.agg [.v _, .v _]) pe_len lay46 rfl rfl (by omega) (by first | omega | (simp; omega)) rfl rfl, ⟨ag_load_pt (.c _) lay2 rfl rfl rfl rfl, ⟨ag_load_pt (.c _) lay61 rfl rfl rfl rfl, trivial⟩⟩⟩, ?_⟩
                            refine d_e rfl rfl rfl ?_
                            refine v_store (H' := [_, _, _, _, _, _, _, _, _, _, _, ⟨[_, _], 46, true⟩]) lay46 rfl rfl rfl rfl rfl rfl ?_
                            refine v_nil ⟨again_nil, ?_⟩
                            refine d_nil ?_
                            refine q_n ?_
                            refine w_draw [0, 0, 2, 6, 14, 30, 0, 64, 0, 256, 0, 1024, 4032, 8128, 16382, 32767, 65535, 131071, 262143] [⟨0, 0, []⟩, ⟨1, 0, []⟩, ⟨2, 0, []⟩, ⟨3, 0, []⟩, ⟨4, 0, []⟩, ⟨5, 0, []⟩, ⟨6, 0, []⟩, ⟨7, 0, []⟩, ⟨8, 0, []⟩, ⟨9, 0, []⟩, ⟨10, 0, []⟩, ⟨11, 0, []⟩, ⟨12, 0, []⟩, ⟨13, 2, []⟩, ⟨14, 1, []⟩, ⟨15, 0, []⟩, ⟨16, 0, []⟩, ⟨17, 0, []⟩, ⟨18, 1, []⟩] rfl rfl ?_
                            refine d_q rfl rfl rfl rfl rfl ?_
                            refine v_move rfl ?_
                            refine v_nil ?_
                            refine d_q rfl rfl rfl rfl rfl ?_
                            refine v_move rfl ?_
                            refine v_nil ?_
                            refine d_q rfl rfl rfl rfl rfl ?_
                            refine v_nil_pt rfl ?_
                            refine v_nil ?_
                            refine d_q rfl rfl rfl rfl rfl ?_
                            refine v_fa_pt (off' := 1) lay90 rfl rfl rfl ?_
                            refine v_nil ?_
                            refine d_q rfl rfl rfl rfl rfl ?_
                            refine v_fa_pt (off' := 5) lay64 rfl rfl rfl ?_
                            refine v_nil ?_
                            refine d_q rfl rfl rfl rfl rfl ?_
                            refine v_load_pt (.c _) lay62 rfl rfl rfl rfl ?_
                            refine v_nil ?_
                            refine d_q rfl rfl rfl rfl rfl ?_
                            refine v_fa_pt (off' := 1) lay101 rfl rfl rfl ?_
                            refine v_nil ?_
                            refine d_q rfl rfl rfl rfl rfl ?_
                            refine v_load_pt (.c _) lay2 rfl rfl rfl rfl ?_
                            refine v_nil ?_
                            refine d_q rfl rfl rfl rfl rfl ?_
                            refine v_fa_pt (off' := 0) lay46 rfl rfl rfl ?_
                            refine v_nil ?_
                            refine d_q rfl rfl rfl rfl rfl ?_
                            refine v_load_pt (.c _) lay2 rfl rfl rfl rfl ?_
                            refine v_nil ?_
                            refine d_q rfl rfl rfl rfl rfl ?_
                            refine v_fa_pt (off' := 1) lay46 rfl rfl rfl ?_
                            refine v_nil ?_
                            refine d_q rfl rfl rfl rfl rfl ?_
                            refine v_load_pt (.c _) lay2 rfl rfl rfl rfl ?_
                            refine v_nil ?_
                            refine d_q rfl rfl rfl rfl rfl ?_
                            refine v_build [(0, 1), (1, 1), (2, 1), (3, 1)] [.v _, .v _, .v _, .v _] lay101 rfl rfl ?_
                            refine v_nil ?_
                            refine d_z (.c (.sl true 1 4 (flat nce [(true, b.wr[a].2.1, ((b.ps.set pn (b.wr[a].2.2.1, b.wr[a].2.2.2))[pn]'(by simpa using k6)).1, ((b.ps.set pn (b.wr[a].2.2.1, b.wr[a].2.2.2))[pn]'(by simpa using k6)).2)]))) rfl rfl rfl ?_
                            refine d_e rfl rfl rfl ?_
                            refine v_app_flat_sl (H' := [_, _, _, _, _, _, _, _, _, _, _, _, _]) nce_sc nce_len lay62 lay101 rfl rfl (by first | rfl | (simp; done) | (simp; omega) | omega | (rw [bg_l (by omega)])) rfl rfl rfl (by unfold maxLen; simp only []; omega) rfl rfl ?_
                            refine v_nil ⟨again_nil, ?_⟩
                            refine d_q rfl rfl rfl rfl rfl ?_
                            refine v_nil_pt rfl ?_
                            refine v_nil ?_
                            refine d_q rfl rfl rfl rfl rfl ?_
                            refine v_fa_pt (off' := 1) lay90 rfl rfl rfl ?_
                            refine v_nil ?_
                            refine d_q rfl rfl rfl rfl rfl ?_
                            refine v_fa_pt (off' := 5) lay64 rfl rfl rfl ?_
                            refine v_nil ?_
                            refine d_e rfl rfl rfl ?_
                            refine v_store (H' := [⟨[_, _, _, _, _, _], 90, true⟩, _, _, _, _, _, _, _, _, _, _, _, _]) lay62 rfl rfl rfl rfl rfl rfl ?_
                            refine v_nil ⟨again_nil, ?_⟩
                            refine d_nil ?_
                            refine r_n rfl ?_
                            refine v_nil ?_
                            refine q_n ?_
                            refine w_seq ?_
                            refine w_reg rfl ?_
                            refine v_assign (c := .v (.int .i64 0)) rfl ?_
                            refine v_nil ?_
                            refine q_n ?_
                            refine w_ret ?_
                            refine r_r rfl ?_
                            refine v_assign rfl ?_
                            refine v_nil ?_
                            refine q_n ?_
                            refine w_ret (q_r ?_)
                            refine r_r rfl ?_
                            refine v_lit (flat int [_]) (H' := [_, _, _, _, _, _, _, _, _, _, _, _, _, _]) lay28 lay2 rfl rfl ⟨by decide, by decide⟩ rfl rfl ?_
                            refine v_app_flat (H' := [_, _, _, _, _, _, _, _, _, _, _, _, _, _, _]) int_sc int_len lay28 lay2 rfl rfl (by first | rfl | (simp; done) | (simp; omega) | omega | (rw [bg_l (by omega)])) rfl rfl (by first | rfl | (simp; done)) rfl rfl (by unfold maxLen; simp only []; omega) rfl rfl ?_
                            refine v_assign rfl ?_
                            refine v_nil ?_
                            refine q_bn ?_
                            refine q_n ?_
                            refine w_reg rfl ?_
                            refine v_move rfl ?_
                            refine v_add lay3 rfl rfl (i64r (by omega)) ?_
                            refine v_assign rfl ?_
                            refine v_nil ?_
                            refine q_n ?_
                            have hdo : doB p b ds[i] = ({ b with ps := b.ps.set pn (b.wr[a].2.2.1, b.wr[a].2.2.2), wr := b.wr ++ [(true, b.wr[a].2.1, b.wr[a].2.2.1, b.wr[a].2.2.2)] }, 0) := do_copy (by omega) ha k4 (.inr (by omega)) (come_new h9 hpn k6 h20)
                            refine ⟨_, _, _, ?_, ⟨i + 1, { b with ps := b.ps.set pn (b.wr[a].2.2.1, b.wr[a].2.2.2), wr := b.wr ++ [(true, b.wr[a].2.1, b.wr[a].2.2.1, b.wr[a].2.2.2)] }, cs ++ [0], rfl, by omega, st_step hst hi1 hdo, ok_do hok hd hdo, by simp; omega, rfl, rfl⟩, by omega⟩
                            exact turn [some 0, some 1, some 2, some 3, some 4, some 12, some 14] rfl rfl rfl ⟨⟨_, rfl, .cons tr_vw (.cons (tr_mun rfl (by first | rfl | (simp; done) | (simp; omega) | (rw [bg_l (by omega)]))) (.cons (tr_mun rfl (by first | rfl | (simp; done) | (simp; omega) | (rw [bg_l (by omega)]))) (.cons (tr_mun rfl (by first | rfl | (simp; done) | (simp; omega) | (rw [bg_l (by omega)]))) (.cons (tr_mun rfl (by first | rfl | (simp; done) | (simp; omega) | (rw [bg_l (by omega)]))) (.cons (tr_mun rfl (by first | rfl | (simp; done) | (simp; omega) | (rw [bg_l (by omega)]))) .nil)))))⟩, ⟨_, rfl, trc_flat pe_sc rfl⟩, ⟨_, rfl, trc_flat pe_sc rfl⟩, ⟨_, rfl, trc_flat pe_sc rfl⟩, ⟨_, rfl, trc_flat int_sc rfl⟩, ⟨_, rfl, trc_flat nce_sc (congrArg (flat nce) (by simp only [List.getElem_set_self]))⟩, ⟨_, rfl, trc_flat int_sc rfl⟩, trivial⟩ ⟨tr_sl, tr_pt rfl, tr_mun rfl (by simp), tr_v, trivial⟩
                          · skip
                            refine v_nil ?_
                            refine d_nil ?_
                            refine q_n ?_
                            refine w_f rfl ?_
                            refine w_skip ?_
                            refine q_n ?_
                            refine w_seq ?_
                            refine w_draw [0, 1, 3, 7, 15, 0, 32, 127, 255, 0, 1023] [⟨0, 0, []⟩, ⟨1, 0, []⟩, ⟨2, 0, []⟩, ⟨3, 0, []⟩, ⟨4, 0, []⟩, ⟨5, 0, []⟩, ⟨6, 0, []⟩, ⟨7, 0, []⟩, ⟨8, 0, []⟩, ⟨9, 1, [4, 6, 8]⟩, ⟨10, 1, []⟩] rfl rfl ?_
                            refine d_q rfl rfl rfl rfl rfl ?_
                            refine v_move rfl ?_
                            refine v_nil ?_
                            refine d_q rfl rfl rfl rfl rfl ?_
                            refine v_nil_pt rfl ?_
                            refine v_nil ?_
                            refine d_q rfl rfl rfl rfl rfl ?_
                            refine v_fa_pt (off' := 1) lay90 rfl rfl rfl ?_
                            refine v_nil ?_
                            refine d_q rfl rfl rfl rfl rfl ?_
                            refine v_fa_pt (off' := 2) lay64 rfl rfl rfl ?_
                            refine v_nil ?_
                            refine d_q rfl rfl rfl rfl rfl ?_
                            refine v_load_pt (.c _) lay61 rfl rfl rfl rfl ?_
                            refine v_nil ?_
                            refine d_q rfl rfl rfl rfl rfl ?_
                            refine v_fa_pt (off' := 1) lay101 rfl rfl rfl ?_
                            refine v_nil ?_
                            refine d_q rfl rfl rfl rfl rfl ?_
                            refine v_load_pt (.c _) lay2 rfl rfl rfl rfl ?_
                            refine v_nil ?_
                            refine d_q rfl rfl rfl rfl rfl ?_
                            refine v_idx_mu_e (k := 2) (off := 0) (pn) lay61 lay46 rfl rfl rfl (hpn) (by omega) ?_
                            refine v_nil ?_
                            refine d_q rfl rfl rfl rfl rfl ?_
                            refine v_load_flat pn 0 (.agg [.v _, .v _]) pe_len lay46 rfl rfl (by omega) (by first | omega | (simp; omega)) rfl rfl ?_
                            refine v_nil ?_
                            refine d_e rfl rfl rfl ?_
                            refine v_alloc (m := 11) (H' := [_, _, _, _, _, _, _, _, _, _, _, ⟨[.v _, .v _], 46, true⟩]) lay46 rfl rfl ?_
                            refine v_nil ⟨⟨ag_load_flat pn 0 (.agg [.v _, .v _]) pe_len lay46 rfl rfl (by omega) (by first | omega | (simp; omega)) rfl rfl, ⟨ag_load_pt (.c _) lay2 rfl rfl rfl rfl, ⟨ag_load_pt (.c _) lay61 rfl rfl rfl rfl, trivial⟩⟩⟩, ?_⟩
                            refine d_e rfl rfl rfl ?_
                            refine v_store (H' := [_, _, _, _, _, _, _, _, _, _, _, ⟨[_, _], 46, true⟩]) lay46 rfl rfl rfl rfl rfl rfl ?_
                            refine v_nil ⟨again_nil, ?_⟩
                            refine d_nil ?_
                            refine q_n ?_
                            refine w_draw [0, 0, 2, 6, 14, 30, 0, 64, 0, 256, 0, 1024, 4032, 8128, 16382, 32767, 65535, 131071, 262143] [⟨0, 0, []⟩, ⟨1, 0, []⟩, ⟨2, 0, []⟩, ⟨3, 0, []⟩, ⟨4, 0, []⟩, ⟨5, 0, []⟩, ⟨6, 0, []⟩, ⟨7, 0, []⟩, ⟨8, 0, []⟩, ⟨9, 0, []⟩, ⟨10, 0, []⟩, ⟨11, 0, []⟩, ⟨12, 0, []⟩, ⟨13, 2, []⟩, ⟨14, 1, []⟩, ⟨15, 0, []⟩, ⟨16, 0, []⟩, ⟨17, 0, []⟩, ⟨18, 1, []⟩] rfl rfl ?_
                            refine d_q rfl rfl rfl rfl rfl ?_
                            refine v_move rfl ?_
                            refine v_nil ?_
                            refine d_q rfl rfl rfl rfl rfl ?_
                            refine v_move rfl ?_
                            refine v_nil ?_
                            refine d_q rfl rfl rfl rfl rfl ?_
                            refine v_nil_pt rfl ?_
                            refine v_nil ?_
                            refine d_q rfl rfl rfl rfl rfl ?_
                            refine v_fa_pt (off' := 1) lay90 rfl rfl rfl ?_
                            refine v_nil ?_
                            refine d_q rfl rfl rfl rfl rfl ?_
                            refine v_fa_pt (off' := 5) lay64 rfl rfl rfl ?_
                            refine v_nil ?_
                            refine d_q rfl rfl rfl rfl rfl ?_
                            refine v_load_pt (.c _) lay62 rfl rfl rfl rfl ?_
                            refine v_nil ?_
                            refine d_q rfl rfl rfl rfl rfl ?_
                            refine v_fa_pt (off' := 1) lay101 rfl rfl rfl ?_
                            refine v_nil ?_
                            refine d_q rfl rfl rfl rfl rfl ?_
                            refine v_load_pt (.c _) lay2 rfl rfl rfl rfl ?_
                            refine v_nil ?_
                            refine d_q rfl rfl rfl rfl rfl ?_
                            refine v_fa_pt (off' := 0) lay46 rfl rfl rfl ?_
                            refine v_nil ?_
                            refine d_q rfl rfl rfl rfl rfl ?_
                            refine v_load_pt (.c _) lay2 rfl rfl rfl rfl ?_
                            refine v_nil ?_
                            refine d_q rfl rfl rfl rfl rfl ?_
                            refine v_fa_pt (off' := 1) lay46 rfl rfl rfl ?_
                            refine v_nil ?_
                            refine d_q rfl rfl rfl rfl rfl ?_
                            refine v_load_pt (.c _) lay2 rfl rfl rfl rfl ?_
                            refine v_nil ?_
                            refine d_q rfl rfl rfl rfl rfl ?_
                            refine v_build [(0, 1), (1, 1), (2, 1), (3, 1)] [.v _, .v _, .v _, .v _] lay101 rfl rfl ?_
                            refine v_nil ?_
                            refine d_z (.c (.sl true 1 4 (flat nce [(true, b.wr[a].2.1, b.ps[pn].1, b.ps[pn].2)]))) rfl rfl rfl ?_
                            refine d_e rfl rfl rfl ?_
                            refine v_app_flat_sl (H' := [_, _, _, _, _, _, _, _, _, _, _, _, _]) nce_sc nce_len lay62 lay101 rfl rfl (by first | rfl | (simp; done) | (simp; omega) | omega | (rw [bg_l (by omega)])) rfl rfl rfl (by unfold maxLen; simp only []; omega) rfl rfl ?_
                            refine v_nil ⟨again_nil, ?_⟩
                            refine d_q rfl rfl rfl rfl rfl ?_
                            refine v_nil_pt rfl ?_
                            refine v_nil ?_
                            refine d_q rfl rfl rfl rfl rfl ?_
                            refine v_fa_pt (off' := 1) lay90 rfl rfl rfl ?_
                            refine v_nil ?_
                            refine d_q rfl rfl rfl rfl rfl ?_
                            refine v_fa_pt (off' := 5) lay64 rfl rfl rfl ?_
                            refine v_nil ?_
                            refine d_e rfl rfl rfl ?_
                            refine v_store (H' := [⟨[_, _, _, _, _, _], 90, true⟩, _, _, _, _, _, _, _, _, _, _, _, _]) lay62 rfl rfl rfl rfl rfl rfl ?_
                            refine v_nil ⟨again_nil, ?_⟩
                            refine d_nil ?_
                            refine r_n rfl ?_
                            refine v_nil ?_
                            refine q_n ?_
                            refine w_seq ?_
                            refine w_reg rfl ?_
                            refine v_assign (c := .v (.int .i64 0)) rfl ?_
                            refine v_nil ?_
                            refine q_n ?_
                            refine w_ret ?_
                            refine r_r rfl ?_
                            refine v_assign rfl ?_
                            refine v_nil ?_
                            refine q_n ?_
                            refine w_ret (q_r ?_)
                            refine r_r rfl ?_
                            refine v_lit (flat int [_]) (H' := [_, _, _, _, _, _, _, _, _, _, _, _, _, _]) lay28 lay2 rfl rfl ⟨by decide, by decide⟩ rfl rfl ?_
                            refine v_app_flat (H' := [_, _, _, _, _, _, _, _, _, _, _, _, _, _, _]) int_sc int_len lay28 lay2 rfl rfl (by first | rfl | (simp; done) | (simp; omega) | omega | (rw [bg_l (by omega)])) rfl rfl (by first | rfl | (simp; done)) rfl rfl (by unfold maxLen; simp only []; omega) rfl rfl ?_
                            refine v_assign rfl ?_
                            refine v_nil ?_
                            refine q_bn ?_
                            refine q_n ?_
                            refine w_reg rfl ?_
                            refine v_move rfl ?_
                            refine v_add lay3 rfl rfl (i64r (by omega)) ?_
                            refine v_assign rfl ?_
                            refine v_nil ?_
                            refine q_n ?_
                            have hdo : doB p b ds[i] = ({ b with wr := b.wr ++ [(true, b.wr[a].2.1, b.ps[pn].1, b.ps[pn].2)] }, 0) := do_copy (by omega) ha k4 (.inr (by omega)) (come_old h9 hpn k6 h20)
                            refine ⟨_, _, _, ?_, ⟨i + 1, { b with wr := b.wr ++ [(true, b.wr[a].2.1, b.ps[pn].1, b.ps[pn].2)] }, cs ++ [0], rfl, by omega, st_step hst hi1 hdo, ok_do hok hd hdo, by simp; omega, rfl, rfl⟩, by omega⟩
                            exact turn [some 0, some 1, some 2, some 3, some 4, some 12, some 14] rfl rfl rfl ⟨⟨_, rfl, .cons tr_vw (.cons (tr_mun rfl (by first | rfl | (simp; done) | (simp; omega) | (rw [bg_l (by omega)]))) (.cons (tr_mun rfl (by first | rfl | (simp; done) | (simp; omega) | (rw [bg_l (by omega)]))) (.cons (tr_mun rfl (by first | rfl | (simp; done) | (simp; omega) | (rw [bg_l (by omega)]))) (.cons (tr_mun rfl (by first | rfl | (simp; done) | (simp; omega) | (rw [bg_l (by omega)]))) (.cons (tr_mun rfl (by first | rfl | (simp; done) | (simp; omega) | (rw [bg_l (by omega)]))) .nil)))))⟩, ⟨_, rfl, trc_flat pe_sc rfl⟩, ⟨_, rfl, trc_flat pe_sc rfl⟩, ⟨_, rfl, trc_flat pe_sc rfl⟩, ⟨_, rfl, trc_flat int_sc rfl⟩, ⟨_, rfl, trc_flat nce_sc rfl⟩, ⟨_, rfl, trc_flat int_sc rfl⟩, trivial⟩ ⟨tr_sl, tr_pt rfl, tr_mun rfl (by simp), tr_v, trivial⟩
                      · skip
                        exfalso; omega
              · skip
                refine v_move rfl ?_
                refine v_guard_off rfl rfl rfl ?_
                refine v_guard_off rfl rfl rfl ?_
                refine v_guard_off rfl rfl rfl ?_
                refine v_pick_f (v := .v (.bool false)) rfl rfl ?_
                refine v_move rfl ?_
                refine v_guard_off rfl rfl rfl ?_
                refine v_guard_off rfl rfl rfl ?_
                refine v_guard_off rfl rfl rfl ?_
                refine v_guard_off rfl rfl rfl ?_
                refine v_guard_off rfl rfl rfl ?_
                refine v_guard_off rfl rfl rfl ?_
                refine v_guard_off rfl rfl rfl ?_
                refine v_pick_f (v := .v (.bool false)) rfl rfl ?_
                refine v_nil ?_
                refine q_n ?_
                refine w_f rfl ?_
                refine w_skip ?_
                refine q_n ?_
                refine w_seq ?_
                refine w_seq ?_
                refine w_reg rfl ?_
                refine v_fa_pt (off' := 0) lay25 rfl rfl rfl ?_
                refine v_load_pt (.c _) lay2 rfl rfl rfl rfl ?_
                refine v_neq lay2 rfl rfl (fun h24 => ?_) (fun h24 => ?_)
                · skip
                  refine v_nil ?_
                  refine q_n ?_
                  refine w_t rfl ?_
                  refine w_seq ?_
                  refine w_draw [0, 0, 2, 6, 14, 30, 0, 64, 192, 510, 1023, 2047] [⟨1, 0, []⟩, ⟨2, 0, []⟩, ⟨3, 0, []⟩, ⟨4, 0, []⟩, ⟨5, 0, []⟩, ⟨6, 0, []⟩, ⟨7, 0, []⟩, ⟨8, 0, []⟩, ⟨9, 0, []⟩, ⟨0, 1, [5, 7, 9]⟩, ⟨10, 1, []⟩, ⟨11, 0, []⟩] rfl rfl ?_
                  refine d_q rfl rfl rfl rfl rfl ?_
                  refine v_move rfl ?_
                  refine v_nil ?_
                  refine d_q rfl rfl rfl rfl rfl ?_
                  refine v_nil_pt rfl ?_
                  refine v_nil ?_
                  refine d_q rfl rfl rfl rfl rfl ?_
                  refine v_fa_pt (off' := 1) lay90 rfl rfl rfl ?_
                  refine v_nil ?_
                  refine d_q rfl rfl rfl rfl rfl ?_
                  refine v_fa_pt (off' := 5) lay64 rfl rfl rfl ?_
                  refine v_nil ?_
                  refine d_q rfl rfl rfl rfl rfl ?_
                  refine v_load_pt (.c _) lay62 rfl rfl rfl rfl ?_
                  refine v_nil ?_
                  refine d_q rfl rfl rfl rfl rfl ?_
                  refine v_fa_pt (off' := 1) lay25 rfl rfl rfl ?_
                  refine v_nil ?_
                  refine d_q rfl rfl rfl rfl rfl ?_
                  refine v_load_pt (.c _) lay2 rfl rfl rfl rfl ?_
                  refine v_nil ?_
                  refine d_q rfl rfl rfl rfl rfl ?_
                  refine v_add lay2 rfl rfl (i64r (by omega)) ?_
                  refine v_nil ?_
                  refine d_q rfl rfl rfl rfl rfl ?_
                  rcases Nat.lt_or_eq_of_le (show a + 1 ≤ b.wr.length by omega) with hce | hce
                  · skip
                    refine v_slice_mu (a + 1) (b.wr.length) lay62 lay101 rfl rfl rfl rfl (by omega) (rfl) (by omega) (.inr hce) ?_
                    refine v_nil ?_
                    refine d_e rfl rfl rfl ?_
                    refine v_lit (flat nce []) (H' := [_, _, _, _, _, _, _, _, _, _, _]) lay62 lay101 rfl rfl ⟨by decide, by decide⟩ rfl rfl ?_
                    refine v_nil ⟨⟨ag_slice_mu (a + 1) (b.wr.length) lay62 lay101 rfl rfl rfl rfl (by omega) (rfl) (by omega) (.inr hce), ⟨ag_load_pt (.c _) lay2 rfl rfl rfl rfl, ⟨ag_load_pt (.c _) lay62 rfl rfl rfl rfl, trivial⟩⟩⟩, ?_⟩
                    refine d_e rfl rfl rfl ?_
                    refine v_app_flat_off (H' := [_, _, _, _, _, _, _, _, _, _, _, _]) (a + 1) nce_sc nce_len lay62 lay101 rfl rfl (by first | rfl | (simp; done) | (simp; omega) | omega | (rw [bg_l (by omega)])) rfl rfl (by omega) rfl rfl (by unfold maxLen; simp only []; omega) rfl rfl ?_
                    refine v_nil ⟨again_nil, ?_⟩
                    refine d_q rfl rfl rfl rfl rfl ?_
                    refine v_assign rfl ?_
                    refine v_nil ?_
                    refine d_nil ?_
                    refine q_n ?_
                    refine w_draw [0, 0, 0, 4, 12, 28, 60, 0, 128, 508, 1022, 0, 4094, 8191, 16383, 32767, 65535] [⟨0, 0, []⟩, ⟨2, 0, []⟩, ⟨3, 0, []⟩, ⟨4, 0, []⟩, ⟨5, 0, []⟩, ⟨6, 0, []⟩, ⟨7, 0, []⟩, ⟨8, 0, []⟩, ⟨9, 0, []⟩, ⟨11, 0, []⟩, ⟨1, 1, [6, 8, 9]⟩, ⟨10, 1, []⟩, ⟨12, 1, []⟩, ⟨13, 0, []⟩, ⟨14, 0, []⟩, ⟨15, 0, []⟩, ⟨16, 1, []⟩] rfl rfl ?_
                    refine d_q rfl rfl rfl rfl rfl ?_
                    refine v_move rfl ?_
                    refine v_nil ?_
                    refine d_q rfl rfl rfl rfl rfl ?_
                    refine v_move rfl ?_
                    refine v_nil ?_
                    refine d_q rfl rfl rfl rfl rfl ?_
                    refine v_nil_pt rfl ?_
                    refine v_nil ?_
                    refine d_q rfl rfl rfl rfl rfl ?_
                    refine v_fa_pt (off' := 1) lay90 rfl rfl rfl ?_
                    refine v_nil ?_
                    refine d_q rfl rfl rfl rfl rfl ?_
                    refine v_fa_pt (off' := 5) lay64 rfl rfl rfl ?_
                    refine v_nil ?_
                    refine d_q rfl rfl rfl rfl rfl ?_
                    refine v_load_pt (.c _) lay62 rfl rfl rfl rfl ?_
                    refine v_nil ?_
                    refine d_q rfl rfl rfl rfl rfl ?_
                    refine v_fa_pt (off' := 1) lay25 rfl rfl rfl ?_
                    refine v_nil ?_
                    refine d_q rfl rfl rfl rfl rfl ?_
                    refine v_load_pt (.c _) lay2 rfl rfl rfl rfl ?_
                    refine v_nil ?_
                    refine d_q rfl rfl rfl rfl rfl ?_
                    refine v_slice_mu (0) (a) lay62 lay101 rfl rfl rfl rfl (rfl) (ha) (by omega) (.inl rfl) ?_
                    refine v_nil ?_
                    refine d_q rfl rfl rfl rfl rfl ?_
                    refine v_move rfl ?_
                    refine v_nil ?_
                    refine d_e rfl rfl rfl ?_
                    refine v_lit (flat nce []) (H' := [_, _, _, _, _, _, _, _, _, _, _, _, _]) lay62 lay101 rfl rfl ⟨by decide, by decide⟩ rfl rfl ?_
                    refine v_nil ⟨⟨ag_slice_mu (0) (a) lay62 lay101 rfl rfl rfl rfl (rfl) (ha) (by omega) (.inl rfl), ⟨ag_load_pt (.c _) lay2 rfl rfl rfl rfl, ⟨ag_load_pt (.c _) lay62 rfl rfl rfl rfl, trivial⟩⟩⟩, ?_⟩
                    refine d_e rfl rfl rfl ?_
                    refine v_app_flat_off (H' := [_, _, _, _, _, _, _, _, _, _, _, _, _, _]) (0) nce_sc nce_len lay62 lay101 rfl rfl (by first | rfl | (simp; done) | (simp; omega) | omega | (rw [bg_l (by omega)])) rfl rfl (by omega) rfl rfl (by unfold maxLen; simp only []; omega) rfl rfl ?_
                    refine v_nil ⟨again_nil, ?_⟩
                    refine d_e rfl rfl rfl ?_
                    refine v_app_flat (H' := [_, _, _, _, _, _, _, _, _, _, _, _, _, _, _]) nce_sc nce_len lay62 lay101 rfl rfl (by first | rfl | (simp; done) | (simp; omega) | omega | (rw [bg_l (by omega)])) rfl rfl (by first | rfl | (simp; done)) rfl rfl (by unfold maxLen; simp only []; omega) rfl rfl ?_
                    refine v_nil ⟨again_nil, ?_⟩
                    refine d_q rfl rfl rfl rfl rfl ?_
                    refine v_nil_pt rfl ?_
                    refine v_nil ?_
                    refine d_q rfl rfl rfl rfl rfl ?_
                    refine v_fa_pt (off' := 1) lay90 rfl rfl rfl ?_
                    refine v_nil ?_
                    refine d_q rfl rfl rfl rfl rfl ?_
                    refine v_fa_pt (off' := 5) lay64 rfl rfl rfl ?_
                    refine v_nil ?_
                    refine d_e rfl rfl rfl ?_
                    refine v_store (H' := [⟨[_, _, _, _, _, _], 90, true⟩, _, _, _, _, _, _, _, _, _, _, _, _, _, _]) lay62 rfl rfl rfl rfl rfl rfl ?_
                    refine v_nil ⟨again_nil, ?_⟩
                    refine d_nil ?_
                    refine q_n ?_
                    refine w_seq ?_
                    refine w_seq ?_
                    refine w_reg rfl ?_
                    refine v_fa_pt (off' := 0) lay25 rfl rfl rfl ?_
                    refine v_load_pt (.c _) lay2 rfl rfl rfl rfl ?_
                    refine v_neq lay2 rfl rfl (fun h25 => ?_) (fun h25 => ?_)
                    · skip
                      refine v_nil ?_
                      refine q_n ?_
                      refine w_t rfl ?_
                      refine w_reg rfl ?_
                      refine v_move rfl ?_
                      refine v_load_pt (.agg [_, _, _, _]) lay101 rfl rfl rfl rfl ?_
                      refine v_inl (n := 80) (drawD_ok X) (fun _ _ => Go.Proofs.Try.call105 _ _) Go.Proofs.Try.func105 rfl rfl rfl rfl ?_
                      refine w_seq ?_
                      refine w_reg rfl ?_
                      refine v_box (m := 15) (H' := [_, _, _, _, _, _, _, _, _, _, _, _, _, _, _, _]) lay101 rfl rfl rfl ?_
                      refine v_nil ?_
                      refine q_n ?_
                      refine w_seq ?_
                      refine w_seq ?_
                      refine w_reg rfl ?_
                      refine v_fa_pt (off' := 0) lay101 rfl rfl rfl ?_
                      refine v_load_ptb lay4 rfl rfl rfl rfl (fun h26 => ?_) (fun h26 => ?_)
                      · skip
                        refine v_nil ?_
                        refine q_n ?_
                        refine w_t rfl ?_
                        refine w_seq ?_
                        refine w_draw [0, 1, 3, 7, 15, 0, 32, 0, 128, 384, 896, 1920, 0, 4096, 16256, 32640, 0, 65536, 262016, 524287, 1048575] [⟨0, 0, []⟩, ⟨1, 0, []⟩, ⟨2, 0, []⟩, ⟨3, 0, []⟩, ⟨4, 0, []⟩, ⟨5, 0, []⟩, ⟨6, 0, []⟩, ⟨7, 0, []⟩, ⟨8, 0, []⟩, ⟨9, 0, []⟩, ⟨10, 0, []⟩, ⟨11, 0, []⟩, ⟨12, 0, []⟩, ⟨13, 0, []⟩, ⟨14, 0, []⟩, ⟨15, 0, []⟩, ⟨16, 0, []⟩, ⟨17, 0, []⟩, ⟨18, 0, []⟩, ⟨19, 0, []⟩, ⟨20, 1, []⟩] rfl rfl ?_
                        refine d_q rfl rfl rfl rfl rfl ?_
                        refine v_move rfl ?_
                        refine v_nil ?_
                        refine d_q rfl rfl rfl rfl rfl ?_
                        refine v_nil_pt rfl ?_
                        refine v_nil ?_
                        refine d_q rfl rfl rfl rfl rfl ?_
                        refine v_fa_pt (off' := 1) lay90 rfl rfl rfl ?_
                        refine v_nil ?_
                        refine d_q rfl rfl rfl rfl rfl ?_
                        refine v_fa_pt (off' := 4) lay64 rfl rfl rfl ?_
                        refine v_nil ?_
                        refine d_q rfl rfl rfl rfl rfl ?_
                        refine v_load_pt (.c _) lay28 rfl rfl rfl rfl ?_
                        refine v_nil ?_
                        refine d_q rfl rfl rfl rfl rfl ?_
                        refine v_fa_pt (off' := 1) lay101 rfl rfl rfl ?_
                        refine v_nil ?_
                        refine d_q rfl rfl rfl rfl rfl ?_
                        refine v_load_pt (.c _) lay2 rfl rfl rfl rfl ?_
                        refine v_nil ?_
                        refine d_q rfl rfl rfl rfl rfl ?_
                        refine v_move rfl ?_
                        refine v_nil ?_
                        refine d_q rfl rfl rfl rfl rfl ?_
                        refine v_nil_pt rfl ?_
                        refine v_nil ?_
                        refine d_q rfl rfl rfl rfl rfl ?_
                        refine v_fa_pt (off' := 1) lay90 rfl rfl rfl ?_
                        refine v_nil ?_
                        refine d_q rfl rfl rfl rfl rfl ?_
                        refine v_fa_pt (off' := 4) lay64 rfl rfl rfl ?_
                        refine v_nil ?_
                        refine d_q rfl rfl rfl rfl rfl ?_
                        refine v_load_pt (.c _) lay28 rfl rfl rfl rfl ?_
                        refine v_nil ?_
                        refine d_q rfl rfl rfl rfl rfl ?_
                        refine v_fa_pt (off' := 1) lay101 rfl rfl rfl ?_
                        refine v_nil ?_
                        refine d_q rfl rfl rfl rfl rfl ?_
                        refine v_load_pt (.c _) lay2 rfl rfl rfl rfl ?_
                        refine v_nil ?_
                        refine d_q rfl rfl rfl rfl rfl ?_
                        refine v_idx_mu_e (k := 1) (off := 0) (pn) lay28 lay2 rfl rfl rfl (hpn) (by omega) ?_
                        refine v_nil ?_
                        refine d_q rfl rfl rfl rfl rfl ?_
                        refine v_load_flat pn 0 (.c (.v _)) int_len lay2 rfl rfl (by omega) (by first | omega | (simp; omega)) rfl rfl ?_
                        refine v_nil ?_
                        refine d_q rfl rfl rfl rfl rfl ?_
                        refine v_fa_pt (off' := 3) lay101 rfl rfl rfl ?_
                        refine v_nil ?_
                        refine d_q rfl rfl rfl rfl rfl ?_
                        refine v_load_pt (.c _) lay2 rfl rfl rfl rfl ?_
                        refine v_nil ?_
                        refine d_call (c98 _ _) rfl rfl rfl rfl rfl (.cons vw_v (.cons vw_v .nil)) ?_
                        refine d_q rfl rfl rfl rfl rfl ?_
                        refine v_idx_mu_e (k := 1) (off := 0) (pn) lay28 lay2 rfl rfl rfl (hpn) (by omega) ?_
                        refine v_nil ?_
                        refine d_e rfl rfl rfl ?_
                        refine v_store_flat (H' := [_, _, _, _, _, _, _, _, _, _, _, _, _, _, _, _]) pn 0 (mx b.kn[pn] b.wr[a].2.2.2) int_len lay2 rfl rfl rfl (by omega) (by first | omega | (simp; omega)) rfl rfl (rfl) rfl ?_
                        refine v_nil ⟨again_nil, ?_⟩
                        refine d_nil ?_
                        refine q_n ?_
                        refine w_ret (q_r ?_)
                        refine r_r rfl ?_
                        refine v_nil ?_
                        refine q_n ?_
                        refine w_seq ?_
                        refine w_reg rfl ?_
                        refine v_assign (c := .v (.int .i64 0)) rfl ?_
                        refine v_nil ?_
                        refine q_n ?_
                        refine w_ret ?_
                        refine r_r rfl ?_
                        refine v_assign rfl ?_
                        refine v_nil ?_
                        refine q_n ?_
                        refine w_ret (q_r ?_)
                        refine r_r rfl ?_
                        refine v_lit (flat int [_]) (H' := [_, _, _, _, _, _, _, _, _, _, _, _, _, _, _, _, _]) lay28 lay2 rfl rfl ⟨by decide, by decide⟩ rfl rfl ?_
                        refine v_app_flat (H' := [_, _, _, _, _, _, _, _, _, _, _, _, _, _, _, _, _, _]) int_sc int_len lay28 lay2 rfl rfl (by first | rfl | (simp; done) | (simp; omega) | omega | (rw [bg_l (by omega)])) rfl rfl (by first | rfl | (simp; done)) rfl rfl (by unfold maxLen; simp only []; omega) rfl rfl ?_
                        refine v_assign rfl ?_
                        refine v_nil ?_
                        refine q_bn ?_
                        refine q_n ?_
                        refine w_reg rfl ?_
                        refine v_move rfl ?_
                        refine v_add lay3 rfl rfl (i64r (by omega)) ?_
                        refine v_assign rfl ?_
                        refine v_nil ?_
                        refine q_n ?_
                        have hdo : doB p b ds[i] = ({ b with kn := b.kn.set pn (mx b.kn[pn] b.wr[a].2.2.2), wr := b.wr.take a ++ b.wr.drop (a + 1) }, 0) := do_deliver (by omega) ha k4 (come_back (b := cutW b a) h26 hpn k5)
                        refine ⟨_, _, _, ?_, ⟨i + 1, { b with kn := b.kn.set pn (mx b.kn[pn] b.wr[a].2.2.2), wr := b.wr.take a ++ b.wr.drop (a + 1) }, cs ++ [0], rfl, by omega, st_step hst hi1 hdo, ok_do hok hd hdo, by simp; omega, rfl, rfl⟩, by omega⟩
                        exact turn [some 0, some 1, some 2, some 3, some 4, some 14, some 17] rfl rfl rfl ⟨⟨_, rfl, .cons tr_vw (.cons (tr_mun rfl (by first | rfl | (simp; done) | (simp; omega) | (rw [bg_l (by omega)]))) (.cons (tr_mun rfl (by first | rfl | (simp; done) | (simp; omega) | (rw [bg_l (by omega)]))) (.cons (tr_mun rfl (by first | rfl | (simp; done) | (simp; omega) | (rw [bg_l (by omega)]))) (.cons (tr_mun rfl (by first | rfl | (simp; done) | (simp; omega) | (rw [bg_l (by omega)]))) (.cons (tr_mun rfl (by first | rfl | (simp; done) | (simp; omega) | (rw [bg_l (by omega)]))) .nil)))))⟩, ⟨_, rfl, trc_flat pe_sc rfl⟩, ⟨_, rfl, trc_flat pe_sc rfl⟩, ⟨_, rfl, trc_flat pe_sc rfl⟩, ⟨_, rfl, trc_flat int_sc rfl⟩, ⟨_, rfl, trc_flat nce_sc (congrArg (flat nce) (by exact wcut b.wr a))⟩, ⟨_, rfl, trc_flat int_sc rfl⟩, trivial⟩ ⟨tr_sl, tr_pt rfl, tr_mun rfl (by simp), tr_v, trivial⟩
                      · skip
                        refine v_nil ?_
                        refine q_n ?_
                        refine w_f rfl ?_
                        refine w_skip ?_
                        refine q_n ?_
                        refine w_seq ?_
                        refine w_seq ?_
                        refine w_draw [0, 1, 0, 4, 12, 28, 60, 0, 128, 508, 1020, 2044, 4095] [⟨0, 0, []⟩, ⟨1, 0, []⟩, ⟨2, 0, []⟩, ⟨3, 0, []⟩, ⟨4, 0, []⟩, ⟨5, 0, []⟩, ⟨6, 0, []⟩, ⟨7, 0, []⟩, ⟨8, 0, []⟩, ⟨9, 0, []⟩, ⟨10, 0, []⟩, ⟨11, 0, []⟩, ⟨12, 0, []⟩] rfl rfl ?_
                        refine d_q rfl rfl rfl rfl rfl ?_
                        refine v_fa_pt (off' := 3) lay101 rfl rfl rfl ?_
                        refine v_nil ?_
                        refine d_q rfl rfl rfl rfl rfl ?_
                        refine v_load_pt (.c _) lay2 rfl rfl rfl rfl ?_
                        refine v_nil ?_
                        refine d_q rfl rfl rfl rfl rfl ?_
                        refine v_move rfl ?_
                        refine v_nil ?_
                        refine d_q rfl rfl rfl rfl rfl ?_
                        refine v_nil_pt rfl ?_
                        refine v_nil ?_
                        refine d_q rfl rfl rfl rfl rfl ?_
                        refine v_fa_pt (off' := 1) lay90 rfl rfl rfl ?_
                        refine v_nil ?_
                        refine d_q rfl rfl rfl rfl rfl ?_
                        refine v_fa_pt (off' := 2) lay64 rfl rfl rfl ?_
                        refine v_nil ?_
                        refine d_q rfl rfl rfl rfl rfl ?_
                        refine v_load_pt (.c _) lay61 rfl rfl rfl rfl ?_
                        refine v_nil ?_
                        refine d_q rfl rfl rfl rfl rfl ?_
                        refine v_fa_pt (off' := 1) lay101 rfl rfl rfl ?_
                        refine v_nil ?_
                        refine d_q rfl rfl rfl rfl rfl ?_
                        refine v_load_pt (.c _) lay2 rfl rfl rfl rfl ?_
                        refine v_nil ?_
                        refine d_q rfl rfl rfl rfl rfl ?_
                        refine v_idx_mu_e (k := 2) (off := 0) (pn) lay61 lay46 rfl rfl rfl (hpn) (by omega) ?_
                        refine v_nil ?_
                        refine d_q rfl rfl rfl rfl rfl ?_
                        refine v_fa_pt (off' := _) lay46 rfl rfl rfl ?_
                        refine v_nil ?_
                        refine d_q rfl rfl rfl rfl rfl ?_
                        refine v_load_flat pn 1 (.c (.v _)) pe_len lay2 rfl rfl (by omega) (by first | omega | (simp; omega)) rfl rfl ?_
                        refine v_nil ?_
                        refine d_q rfl rfl rfl rfl rfl ?_
                        refine v_gtr lay2 rfl rfl (fun h30 => ?_) (fun h30 => ?_)
                        · skip
                          refine v_nil ?_
                          refine d_nil ?_
                          refine q_n ?_
                          refine w_t rfl ?_
                          refine w_draw [0, 1, 3, 7, 15, 0, 32, 0, 128, 0, 512, 1920, 4095, 8191] [⟨0, 0, []⟩, ⟨1, 0, []⟩, ⟨2, 0, []⟩, ⟨3, 0, []⟩, ⟨4, 0, []⟩, ⟨5, 0, []⟩, ⟨6, 0, []⟩, ⟨7, 0, []⟩, ⟨8, 0, []⟩, ⟨9, 0, []⟩, ⟨10, 0, []⟩, ⟨11, 0, []⟩, ⟨12, 0, []⟩, ⟨13, 1, []⟩] rfl rfl ?_
                          refine d_q rfl rfl rfl rfl rfl ?_
                          refine v_move rfl ?_
                          refine v_nil ?_
                          refine d_q rfl rfl rfl rfl rfl ?_
                          refine v_nil_pt rfl ?_
                          refine v_nil ?_
                          refine d_q rfl rfl rfl rfl rfl ?_
                          refine v_fa_pt (off' := 1) lay90 rfl rfl rfl ?_
                          refine v_nil ?_
                          refine d_q rfl rfl rfl rfl rfl ?_
                          refine v_fa_pt (off' := 2) lay64 rfl rfl rfl ?_
                          refine v_nil ?_
                          refine d_q rfl rfl rfl rfl rfl ?_
                          refine v_load_pt (.c _) lay61 rfl rfl rfl rfl ?_
                          refine v_nil ?_
                          refine d_q rfl rfl rfl rfl rfl ?_
                          refine v_fa_pt (off' := 1) lay101 rfl rfl rfl ?_
                          refine v_nil ?_
                          refine d_q rfl rfl rfl rfl rfl ?_
                          refine v_load_pt (.c _) lay2 rfl rfl rfl rfl ?_
                          refine v_nil ?_
                          refine d_q rfl rfl rfl rfl rfl ?_
                          refine v_fa_pt (off' := 2) lay101 rfl rfl rfl ?_
                          refine v_nil ?_
                          refine d_q rfl rfl rfl rfl rfl ?_
                          refine v_load_pt (.c _) lay2 rfl rfl rfl rfl ?_
                          refine v_nil ?_
                          refine d_q rfl rfl rfl rfl rfl ?_
                          refine v_fa_pt (off' := 3) lay101 rfl rfl rfl ?_
                          refine v_nil ?_
                          refine d_q rfl rfl rfl rfl rfl ?_
                          refine v_load_pt (.c _) lay2 rfl rfl rfl rfl ?_
                          refine v_nil ?_
                          refine d_q rfl rfl rfl rfl rfl ?_
                          refine v_build [(0, 1), (1, 1)] [.v _, .v _] lay46 rfl rfl ?_
                          refine v_nil ?_
                          refine d_q rfl rfl rfl rfl rfl ?_
                          refine v_idx_mu_e (k := 2) (off := 0) (pn) lay61 lay46 rfl rfl rfl (hpn) (by omega) ?_
                          refine v_nil ?_
                          refine d_e rfl rfl rfl ?_
                          refine v_store_flat (H' := [_, _, _, _, _, _, _, _, _, _, _, _, _, _, _, _]) pn 0 ((b.wr[a].2.2.1, b.wr[a].2.2.2)) pe_len lay46 rfl rfl rfl (by omega) (by first | omega | (simp; omega)) rfl rfl (rfl) rfl ?_
                          refine v_nil ⟨again_nil, ?_⟩
                          refine d_nil ?_
                          refine q_n ?_
                          refine w_seq ?_
                          refine w_draw [0, 1, 3, 7, 15, 0, 32, 127, 255, 0, 1023] [⟨0, 0, []⟩, ⟨1, 0, []⟩, ⟨2, 0, []⟩, ⟨3, 0, []⟩, ⟨4, 0, []⟩, ⟨5, 0, []⟩, ⟨6, 0, []⟩, ⟨7, 0, []⟩, ⟨8, 0, []⟩, ⟨9, 1, [4, 6, 8]⟩, ⟨10, 1, []⟩] rfl rfl ?_
                          refine d_q rfl rfl rfl rfl rfl ?_
                          refine v_move rfl ?_
                          refine v_nil ?_
                          refine d_q rfl rfl rfl rfl rfl ?_
                          refine v_nil_pt rfl ?_
                          refine v_nil ?_
                          refine d_q rfl rfl rfl rfl rfl ?_
                          refine v_fa_pt (off' := 1) lay90 rfl rfl rfl ?_
                          refine v_nil ?_
                          refine d_q rfl rfl rfl rfl rfl ?_
                          refine v_fa_pt (off' := 2) lay64 rfl rfl rfl ?_
                          refine v_nil ?_
                          refine d_q rfl rfl rfl rfl rfl ?_
                          refine v_load_pt (.c _) lay61 rfl rfl rfl rfl ?_
                          refine v_nil ?_
                          refine d_q rfl rfl rfl rfl rfl ?_
                          refine v_fa_pt (off' := 1) lay101 rfl rfl rfl ?_
                          refine v_nil ?_
                          refine d_q rfl rfl rfl rfl rfl ?_
                          refine v_load_pt (.c _) lay2 rfl rfl rfl rfl ?_
                          refine v_nil ?_
                          refine d_q rfl rfl rfl rfl rfl ?_
                          refine v_idx_mu_e (k := 2) (off := 0) (pn) lay61 lay46 rfl rfl rfl (hpn) (by omega) ?_
                          refine v_nil ?_
                          refine d_q rfl rfl rfl rfl rfl ?_
                          refine v_load_flat pn 0 (.agg [.v _, .v _]) pe_len lay46 rfl rfl (by omega) (by first | omega | (simp; omega)) rfl rfl ?_
                          refine v_nil ?_
                          refine d_e rfl rfl rfl ?_
                          refine v_alloc (m := 16) (H' := [_, _, _, _, _, _, _, _, _, _, _, _, _, _, _, _, ⟨[.v _, .v _], 46, true⟩]) lay46 rfl rfl ?_
                          refine v_nil ⟨⟨ag_load_flat pn 0 (.agg [.v _, .v _]) pe_len lay46 rfl rfl (by omega) (by first | omega | (simp; omega)) rfl rfl, ⟨ag_load_pt (.c _) lay2 rfl rfl rfl rfl, ⟨ag_load_pt (.c _) lay61 rfl rfl rfl rfl, trivial⟩⟩⟩, ?_⟩
                          refine d_e rfl rfl rfl ?_
                          refine v_store (H' := [_, _, _, _, _, _, _, _, _, _, _, _, _, _, _, _, ⟨[_, _], 46, true⟩]) lay46 rfl rfl rfl rfl rfl rfl ?_
                          refine v_nil ⟨again_nil, ?_⟩
                          refine d_nil ?_
                          refine q_n ?_
                          refine w_draw [0, 0, 2, 6, 14, 30, 0, 64, 0, 256, 0, 1024, 4032, 8128, 16382, 32767, 65535, 131071, 262143] [⟨0, 0, []⟩, ⟨1, 0, []⟩, ⟨2, 0, []⟩, ⟨3, 0, []⟩, ⟨4, 0, []⟩, ⟨5, 0, []⟩, ⟨6, 0, []⟩, ⟨7, 0, []⟩, ⟨8, 0, []⟩, ⟨9, 0, []⟩, ⟨10, 0, []⟩, ⟨11, 0, []⟩, ⟨12, 0, []⟩, ⟨13, 2, []⟩, ⟨14, 1, []⟩, ⟨15, 0, []⟩, ⟨16, 0, []⟩, ⟨17, 0, []⟩, ⟨18, 1, []⟩] rfl rfl ?_
                          refine d_q rfl rfl rfl rfl rfl ?_
                          refine v_move rfl ?_
                          refine v_nil ?_
                          refine d_q rfl rfl rfl rfl rfl ?_
                          refine v_move rfl ?_
                          refine v_nil ?_
                          refine d_q rfl rfl rfl rfl rfl ?_
                          refine v_nil_pt rfl ?_
                          refine v_nil ?_
                          refine d_q rfl rfl rfl rfl rfl ?_
                          refine v_fa_pt (off' := 1) lay90 rfl rfl rfl ?_
                          refine v_nil ?_
                          refine d_q rfl rfl rfl rfl rfl ?_
                          refine v_fa_pt (off' := 5) lay64 rfl rfl rfl ?_
                          refine v_nil ?_
                          refine d_q rfl rfl rfl rfl rfl ?_
                          refine v_load_pt (.c _) lay62 rfl rfl rfl rfl ?_
                          refine v_nil ?_
                          refine d_q rfl rfl rfl rfl rfl ?_
                          refine v_fa_pt (off' := 1) lay101 rfl rfl rfl ?_
                          refine v_nil ?_
                          refine d_q rfl rfl rfl rfl rfl ?_
                          refine v_load_pt (.c _) lay2 rfl rfl rfl rfl ?_
                          refine v_nil ?_
                          refine d_q rfl rfl rfl rfl rfl ?_
                          refine v_fa_pt (off' := 0) lay46 rfl rfl rfl ?_
                          refine v_nil ?_
                          refine d_q rfl rfl rfl rfl rfl ?_
                          refine v_load_pt (.c _) lay2 rfl rfl rfl rfl ?_
                          refine v_nil ?_
                          refine d_q rfl rfl rfl rfl rfl ?_
                          refine v_fa_pt (off' := 1) lay46 rfl rfl rfl ?_
                          refine v_nil ?_
                          refine d_q rfl rfl rfl rfl rfl ?_
                          refine v_load_pt (.c _) lay2 rfl rfl rfl rfl ?_
                          refine v_nil ?_
                          refine d_q rfl rfl rfl rfl rfl ?_
                          refine v_build [(0, 1), (1, 1), (2, 1), (3, 1)] [.v _, .v _, .v _, .v _] lay101 rfl rfl ?_
                          refine v_nil ?_
                          refine d_z (.c (.sl true 1 4 (flat nce [(true, b.wr[a].2.1, ((b.ps.set pn (b.wr[a].2.2.1, b.wr[a].2.2.2))[pn]'(by simpa using k6)).1, ((b.ps.set pn (b.wr[a].2.2.1, b.wr[a].2.2.2))[pn]'(by simpa using k6)).2)]))) rfl rfl rfl ?_
                          refine d_e rfl rfl rfl ?_
                          refine v_app_flat_sl (H' := [_, _, _, _, _, _, _, _, _, _, _, _, _, _, _, _, _, _]) nce_sc nce_len lay62 lay101 rfl rfl (by first | rfl | (simp; done) | (simp; omega) | omega | (rw [bg_l (by omega)])) rfl rfl rfl (by unfold maxLen; simp only []; omega) rfl rfl ?_
                          refine v_nil ⟨again_nil, ?_⟩
                          refine d_q rfl rfl rfl rfl rfl ?_
                          refine v_nil_pt rfl ?_
                          refine v_nil ?_
                          refine d_q rfl rfl rfl rfl rfl ?_
                          refine v_fa_pt (off' := 1) lay90 rfl rfl rfl ?_
                          refine v_nil ?_
                          refine d_q rfl rfl rfl rfl rfl ?_
                          refine v_fa_pt (off' := 5) lay64 rfl rfl rfl ?_
                          refine v_nil ?_
                          refine d_e rfl rfl rfl ?_
                          refine v_store (H' := [⟨[_, _, _, _, _, _], 90, true⟩, _, _, _, _, _, _, _, _, _, _, _, _, _, _, _, _, _]) lay62 rfl rfl rfl rfl rfl rfl ?_
                          refine v_nil ⟨again_nil, ?_⟩
                          refine d_nil ?_
                          refine r_n rfl ?_
                          refine v_nil ?_
                          refine q_n ?_
                          refine w_seq ?_
                          refine w_reg rfl ?_
                          refine v_assign (c := .v (.int .i64 0)) rfl ?_
                          refine v_nil ?_
                          refine q_n ?_
                          refine w_ret ?_
                          refine r_r rfl ?_
                          refine v_assign rfl ?_
                          refine v_nil ?_
                          refine q_n ?_
                          refine w_ret (q_r ?_)
                          refine r_r rfl ?_
                          refine v_lit (flat int [_]) (H' := [_, _, _, _, _, _, _, _, _, _, _, _, _, _, _, _, _, _, _]) lay28 lay2 rfl rfl ⟨by decide, by decide⟩ rfl rfl ?_
                          refine v_app_flat (H' := [_, _, _, _, _, _, _, _, _, _, _, _, _, _, _, _, _, _, _, _]) int_sc int_len lay28 lay2 rfl rfl (by first | rfl | (simp; done) | (simp; omega) | omega | (rw [bg_l (by omega)])) rfl rfl (by first | rfl | (simp; done)) rfl rfl (by unfold maxLen; simp only []; omega) rfl rfl ?_
                          refine v_assign rfl ?_
                          refine v_nil ?_
                          refine q_bn ?_
                          refine q_n ?_
                          refine w_reg rfl ?_
                          refine v_move rfl ?_
                          refine v_add lay3 rfl rfl (i64r (by omega)) ?_
                          refine v_assign rfl ?_
                          refine v_nil ?_
                          refine q_n ?_
                          have hdo : doB p b ds[i] = ({ b with ps := b.ps.set pn (b.wr[a].2.2.1, b.wr[a].2.2.2), wr := (b.wr.take a ++ b.wr.drop (a + 1)) ++ [(true, b.wr[a].2.1, b.wr[a].2.2.1, b.wr[a].2.2.2)] }, 0) := do_deliver (by omega) ha k4 (come_new (b := cutW b a) h26 hpn k6 h30)
                          refine ⟨_, _, _, ?_, ⟨i + 1, { b with ps := b.ps.set pn (b.wr[a].2.2.1, b.wr[a].2.2.2), wr := (b.wr.take a ++ b.wr.drop (a + 1)) ++ [(true, b.wr[a].2.1, b.wr[a].2.2.1, b.wr[a].2.2.2)] }, cs ++ [0], rfl, by omega, st_step hst hi1 hdo, ok_do hok hd hdo, by simp; omega, rfl, rfl⟩, by omega⟩
                          exact turn [some 0, some 1, some 2, some 3, some 4, some 17, some 19] rfl rfl rfl ⟨⟨_, rfl, .cons tr_vw (.cons (tr_mun rfl (by first | rfl | (simp; done) | (simp; omega) | (rw [bg_l (by omega)]))) (.cons (tr_mun rfl (by first | rfl | (simp; done) | (simp; omega) | (rw [bg_l (by omega)]))) (.cons (tr_mun rfl (by first | rfl | (simp; done) | (simp; omega) | (rw [bg_l (by omega)]))) (.cons (tr_mun rfl (by first | rfl | (simp; done) | (simp; omega) | (rw [bg_l (by omega)]))) (.cons (tr_mun rfl (by first | rfl | (simp; done) | (simp; omega) | (rw [bg_l (by omega)]))) .nil)))))⟩, ⟨_, rfl, trc_flat pe_sc rfl⟩, ⟨_, rfl, trc_flat pe_sc rfl⟩, ⟨_, rfl, trc_flat pe_sc rfl⟩, ⟨_, rfl, trc_flat int_sc rfl⟩, ⟨_, rfl, trc_flat nce_sc (congrArg (flat nce) (by simp only [List.getElem_set_self]; rw [wcut b.wr a]))⟩, ⟨_, rfl, trc_flat int_sc rfl⟩, trivial⟩ ⟨tr_sl, tr_pt rfl, tr_mun rfl (by simp), tr_v, trivial⟩
                        · skip
                          refine v_nil ?_
                          refine d_nil ?_
                          refine q_n ?_
                          refine w_f rfl ?_
                          refine w_skip ?_
                          refine q_n ?_
                          refine w_seq ?_
                          refine w_draw [0, 1, 3, 7, 15, 0, 32, 127, 255, 0, 1023] [⟨0, 0, []⟩, ⟨1, 0, []⟩, ⟨2, 0, []⟩, ⟨3, 0, []⟩, ⟨4, 0, []⟩, ⟨5, 0, []⟩, ⟨6, 0, []⟩, ⟨7, 0, []⟩, ⟨8, 0, []⟩, ⟨9, 1, [4, 6, 8]⟩, ⟨10, 1, []⟩] rfl rfl ?_
                          refine d_q rfl rfl rfl rfl rfl ?_
                          refine v_move rfl ?_
                          refine v_nil ?_
                          refine d_q rfl rfl rfl rfl rfl ?_
                          refine v_nil_pt rfl ?_
                          refine v_nil ?_
                          refine d_q rfl rfl rfl rfl rfl ?_
                          refine v_fa_pt (off' := 1) lay90 rfl rfl rfl ?_
                          refine v_nil ?_
                          refine d_q rfl rfl rfl rfl rfl ?_
                          refine v_fa_pt (off' := 2) lay64 rfl rfl rfl ?_
                          refine v_nil ?_
                          refine d_q rfl rfl rfl rfl rfl ?_
                          refine v_load_pt (.c _) lay61 rfl rfl rfl rfl ?_
                          refine v_nil ?_
                          refine d_q rfl rfl rfl rfl rfl ?_
                          refine v_fa_pt (off' := 1) lay101 rfl rfl rfl ?_
                          refine v_nil ?_
                          refine d_q rfl rfl rfl rfl rfl ?_
                          refine v_load_pt (.c _) lay2 rfl rfl rfl rfl ?_
                          refine v_nil ?_
                          refine d_q rfl rfl rfl rfl rfl ?_
                          refine v_idx_mu_e (k := 2) (off := 0) (pn) lay61 lay46 rfl rfl rfl (hpn) (by omega) ?_
                          refine v_nil ?_
                          refine d_q rfl rfl rfl rfl rfl ?_
                          refine v_load_flat pn 0 (.agg [.v _, .v _]) pe_len lay46 rfl rfl (by omega) (by first | omega | (simp; omega)) rfl rfl ?_
                          refine v_nil ?_
                          refine d_e rfl rfl rfl ?_
                          refine v_alloc (m := 16) (H' := [_, _, _, _, _, _, _, _, _, _, _, _, _, _, _, _, ⟨[.v _, .v _], 46, true⟩]) lay46 rfl rfl ?_
                          refine v_nil ⟨⟨ag_load_flat pn 0 (.agg [.v _, .v _]) pe_len lay46 rfl rfl (by omega) (by first | omega | (simp; omega)) rfl rfl, ⟨ag_load_pt (.c _) lay2 rfl rfl rfl rfl, ⟨ag_load_pt (.c _) lay61 rfl rfl rfl rfl, trivial⟩⟩⟩, ?_⟩
                          refine d_e rfl rfl rfl ?_
                          refine v_store (H' := [_, _, _, _, _, _, _, _, _, _, _, _, _, _, _, _, ⟨[_, _], 46, true⟩]) lay46 rfl rfl rfl rfl rfl rfl ?_
                          refine v_nil ⟨again_nil, ?_⟩
                          refine d_nil ?_
                          refine q_n ?_
                          refine w_draw [0, 0, 2, 6, 14, 30, 0, 64, 0, 256, 0, 1024, 4032, 8128, 16382, 32767, 65535, 131071, 262143] [⟨0, 0, []⟩, ⟨1, 0, []⟩, ⟨2, 0, []⟩, ⟨3, 0, []⟩, ⟨4, 0, []⟩, ⟨5, 0, []⟩, ⟨6, 0, []⟩, ⟨7, 0, []⟩, ⟨8, 0, []⟩, ⟨9, 0, []⟩, ⟨10, 0, []⟩, ⟨11, 0, []⟩, ⟨12, 0, []⟩, ⟨13, 2, []⟩, ⟨14, 1, []⟩, ⟨15, 0, []⟩, ⟨16, 0, []⟩, ⟨17, 0, []⟩, ⟨18, 1, []⟩] rfl rfl ?_
                          refine d_q rfl rfl rfl rfl rfl ?_
                          refine v_move rfl ?_
                          refine v_nil ?_
                          refine d_q rfl rfl rfl rfl rfl ?_
                          refine v_move rfl ?_
                          refine v_nil ?_
                          refine d_q rfl rfl rfl rfl rfl ?_
                          refine v_nil_pt rfl ?_
                          refine v_nil ?_
                          refine d_q rfl rfl rfl rfl rfl ?_
                          refine v_fa_pt (off' := 1) lay90 rfl rfl rfl ?_
                          refine v_nil ?_
                          refine d_q rfl rfl rfl rfl rfl ?_
                          refine v_fa_pt (off' := 5) lay64 rfl rfl rfl ?_
                          refine v_nil ?_
                          refine d_q rfl rfl rfl rfl rfl ?_
                          refine v_load_pt (.c _) lay62 rfl rfl rfl rfl ?_
                          refine v_nil ?_
                          refine d_q rfl rfl rfl rfl rfl ?_
                          refine v_fa_pt (off' := 1) lay101 rfl rfl rfl ?_
                          refine v_nil ?_
                          refine d_q rfl rfl rfl rfl rfl ?_
                          refine v_load_pt (.c _) lay2 rfl rfl rfl rfl ?_
                          refine v_nil ?_
                          refine d_q rfl rfl rfl rfl rfl ?_
                          refine v_fa_pt (off' := 0) lay46 rfl rfl rfl ?_
                          refine v_nil ?_
                          refine d_q rfl rfl rfl rfl rfl ?_
                          refine v_load_pt (.c _) lay2 rfl rfl rfl rfl ?_
                          refine v_nil ?_
                          refine d_q rfl rfl rfl rfl rfl ?_
                          refine v_fa_pt (off' := 1) lay46 rfl rfl rfl ?_
                          refine v_nil ?_
                          refine d_q rfl rfl rfl rfl rfl ?_
                          refine v_load_pt (.c _) lay2 rfl rfl rfl rfl ?_
                          refine v_nil ?_
                          refine d_q rfl rfl rfl rfl rfl ?_
                          refine v_build [(0, 1), (1, 1), (2, 1), (3, 1)] [.v _, .v _, .v _, .v _] lay101 rfl rfl ?_
                          refine v_nil ?_
                          refine d_z (.c (.sl true 1 4 (flat nce [(true, b.wr[a].2.1, b.ps[pn].1, b.ps[pn].2)]))) rfl rfl rfl ?_
                          refine d_e rfl rfl rfl ?_
                          refine v_app_flat_sl (H' := [_, _, _, _, _, _, _, _, _, _, _, _, _, _, _, _, _, _]) nce_sc nce_len lay62 lay101 rfl rfl (by first | rfl | (simp; done) | (simp; omega) | omega | (rw [bg_l (by omega)])) rfl rfl rfl (by unfold maxLen; simp only []; omega) rfl rfl ?_
                          refine v_nil ⟨again_nil, ?_⟩
                          refine d_q rfl rfl rfl rfl rfl ?_
                          refine v_nil_pt rfl ?_
                          refine v_nil ?_
                          refine d_q rfl rfl rfl rfl rfl ?_
                          refine v_fa_pt (off' := 1) lay90 rfl rfl rfl ?_
                          refine v_nil ?_
                          refine d_q rfl rfl rfl rfl rfl ?_
                          refine v_fa_pt (off' := 5) lay64 rfl rfl rfl ?_
                          refine v_nil ?_
                          refine d_e rfl rfl rfl ?_
                          refine v_store (H' := [⟨[_, _, _, _, _, _], 90, true⟩, _, _, _, _, _, _, _, _, _, _, _, _, _, _, _, _, _]) lay62 rfl rfl rfl rfl rfl rfl ?_
                          refine v_nil ⟨again_nil, ?_⟩
                          refine d_nil ?_
                          refine r_n rfl ?_
                          refine v_nil ?_
                          refine q_n ?_
                          refine w_seq ?_
                          refine w_reg rfl ?_
                          refine v_assign (c := .v (.int .i64 0)) rfl ?_
                          refine v_nil ?_
                          refine q_n ?_
                          refine w_ret ?_
                          refine r_r rfl ?_
                          refine v_assign rfl ?_
                          refine v_nil ?_
                          refine q_n ?_
                          refine w_ret (q_r ?_)
                          refine r_r rfl ?_
                          refine v_lit (flat int [_]) (H' := [_, _, _, _, _, _, _, _, _, _, _, _, _, _, _, _, _, _, _]) lay28 lay2 rfl rfl ⟨by decide, by decide⟩ rfl rfl ?_
                          refine v_app_flat (H' := [_, _, _, _, _, _, _, _, _, _, _, _, _, _, _, _, _, _, _, _]) int_sc int_len lay28 lay2 rfl rfl (by first | rfl | (simp; done) | (simp; omega) | omega | (rw [bg_l (by omega)])) rfl rfl (by first | rfl | (simp; done)) rfl rfl (by unfold maxLen; simp only []; omega) rfl rfl ?_
                          refine v_assign rfl ?_
                          refine v_nil ?_
                          refine q_bn ?_
                          refine q_n ?_
                          refine w_reg rfl ?_
                          refine v_move rfl ?_
                          refine v_add lay3 rfl rfl (i64r (by omega)) ?_
                          refine v_assign rfl ?_
                          refine v_nil ?_
                          refine q_n ?_
                          have hdo : doB p b ds[i] = ({ b with wr := (b.wr.take a ++ b.wr.drop (a + 1)) ++ [(true, b.wr[a].2.1, b.ps[pn].1, b.ps[pn].2)] }, 0) := do_deliver (by omega) ha k4 (come_old (b := cutW b a) h26 hpn k6 h30)
                          refine ⟨_, _, _, ?_, ⟨i + 1, { b with wr := (b.wr.take a ++ b.wr.drop (a + 1)) ++ [(true, b.wr[a].2.1, b.ps[pn].1, b.ps[pn].2)] }, cs ++ [0], rfl, by omega, st_step hst hi1 hdo, ok_do hok hd hdo, by simp; omega, rfl, rfl⟩, by omega⟩
                          exact turn [some 0, some 1, some 2, some 3, some 4, some 17, some 19] rfl rfl rfl ⟨⟨_, rfl, .cons tr_vw (.cons (tr_mun rfl (by first | rfl | (simp; done) | (simp; omega) | (rw [bg_l (by omega)]))) (.cons (tr_mun rfl (by first | rfl | (simp; done) | (simp; omega) | (rw [bg_l (by omega)]))) (.cons (tr_mun rfl (by first | rfl | (simp; done) | (simp; omega) | (rw [bg_l (by omega)]))) (.cons (tr_mun rfl (by first | rfl | (simp; done) | (simp; omega) | (rw [bg_l (by omega)]))) (.cons (tr_mun rfl (by first | rfl | (simp; done) | (simp; omega) | (rw [bg_l (by omega)]))) .nil)))))⟩, ⟨_, rfl, trc_flat pe_sc rfl⟩, ⟨_, rfl, trc_flat pe_sc rfl⟩, ⟨_, rfl, trc_flat pe_sc rfl⟩, ⟨_, rfl, trc_flat int_sc rfl⟩, ⟨_, rfl, trc_flat nce_sc (congrArg (flat nce) (by rw [wcut b.wr a]))⟩, ⟨_, rfl, trc_flat int_sc rfl⟩, trivial⟩ ⟨tr_sl, tr_pt rfl, tr_mun rfl (by simp), tr_v, trivial⟩
                    · skip
                      refine v_nil ?_
                      refine q_n ?_
                      refine w_f rfl ?_
                      refine w_skip ?_
                      refine q_n ?_
                      refine w_seq ?_
                      refine w_reg rfl ?_
                      refine v_assign (c := .v (.int .i64 0)) rfl ?_
                      refine v_nil ?_
                      refine q_n ?_
                      refine w_ret ?_
                      refine r_r rfl ?_
                      refine v_assign rfl ?_
                      refine v_nil ?_
                      refine q_n ?_
                      refine w_ret (q_r ?_)
                      refine r_r rfl ?_
                      refine v_lit (flat int [_]) (H' := [_, _, _, _, _, _, _, _, _, _, _, _, _, _, _, _]) lay28 lay2 rfl rfl ⟨by decide, by decide⟩ rfl rfl ?_
                      refine v_app_flat (H' := [_, _, _, _, _, _, _, _, _, _, _, _, _, _, _, _, _]) int_sc int_len lay28 lay2 rfl rfl (by first | rfl | (simp; done) | (simp; omega) | omega | (rw [bg_l (by omega)])) rfl rfl (by first | rfl | (simp; done)) rfl rfl (by unfold maxLen; simp only []; omega) rfl rfl ?_
                      refine v_assign rfl ?_
                      refine v_nil ?_
                      refine q_bn ?_
                      refine q_n ?_
                      refine w_reg rfl ?_
                      refine v_move rfl ?_
                      refine v_add lay3 rfl rfl (i64r (by omega)) ?_
                      refine v_assign rfl ?_
                      refine v_nil ?_
                      refine q_n ?_
                      have hdo : doB p b ds[i] = ({ b with wr := b.wr.take a ++ b.wr.drop (a + 1) }, 0) := do_drop (by omega) ha k4
                      refine ⟨_, _, _, ?_, ⟨i + 1, { b with wr := b.wr.take a ++ b.wr.drop (a + 1) }, cs ++ [0], rfl, by omega, st_step hst hi1 hdo, ok_do hok hd hdo, by simp; omega, rfl, rfl⟩, by omega⟩
                      exact turn [some 0, some 1, some 2, some 3, some 4, some 14, some 16] rfl rfl rfl ⟨⟨_, rfl, .cons tr_vw (.cons (tr_mun rfl (by first | rfl | (simp; done) | (simp; omega) | (rw [bg_l (by omega)]))) (.cons (tr_mun rfl (by first | rfl | (simp; done) | (simp; omega) | (rw [bg_l (by omega)]))) (.cons (tr_mun rfl (by first | rfl | (simp; done) | (simp; omega) | (rw [bg_l (by omega)]))) (.cons (tr_mun rfl (by first | rfl | (simp; done) | (simp; omega) | (rw [bg_l (by omega)]))) (.cons (tr_mun rfl (by first | rfl | (simp; done) | (simp; omega) | (rw [bg_l (by omega)]))) .nil)))))⟩, ⟨_, rfl, trc_flat pe_sc rfl⟩, ⟨_, rfl, trc_flat pe_sc rfl⟩, ⟨_, rfl, trc_flat pe_sc rfl⟩, ⟨_, rfl, trc_flat int_sc rfl⟩, ⟨_, rfl, trc_flat nce_sc (congrArg (flat nce) (by exact wcut b.wr a))⟩, ⟨_, rfl, trc_flat int_sc rfl⟩, trivial⟩ ⟨tr_sl, tr_pt rfl, tr_mun rfl (by simp), tr_v, trivial⟩
                  · skip
                    refine v_slice_mu_end lay62 lay101 rfl rfl rfl rfl (by omega) (rfl) (by omega) ?_
                    refine v_nil ?_
                    refine d_e rfl rfl rfl ?_
                    refine v_lit (flat nce []) (H' := [_, _, _, _, _, _, _, _, _, _, _]) lay62 lay101 rfl rfl ⟨by decide, by decide⟩ rfl rfl ?_
                    refine v_nil ⟨⟨ag_slice_mu_end lay62 lay101 rfl rfl rfl rfl (by omega) (rfl) (by omega), ⟨ag_load_pt (.c _) lay2 rfl rfl rfl rfl, ⟨ag_load_pt (.c _) lay62 rfl rfl rfl rfl, trivial⟩⟩⟩, ?_⟩
                    refine d_e rfl rfl rfl ?_
                    refine v_app_flat_sl (zs := []) (H' := [_, _, _, _, _, _, _, _, _, _, _, _]) nce_sc nce_len lay62 lay101 rfl rfl (by first | rfl | (simp; done) | (simp; omega) | omega | (rw [bg_l (by omega)])) rfl rfl rfl (by unfold maxLen; simp only []; omega) rfl rfl ?_
                    refine v_nil ⟨again_nil, ?_⟩
                    refine d_q rfl rfl rfl rfl rfl ?_
                    refine v_assign rfl ?_
                    refine v_nil ?_
                    refine d_nil ?_
                    refine q_n ?_
                    refine w_draw [0, 0, 0, 4, 12, 28, 60, 0, 128, 508, 1022, 0, 4094, 8191, 16383, 32767, 65535] [⟨0, 0, []⟩, ⟨2, 0, []⟩, ⟨3, 0, []⟩, ⟨4, 0, []⟩, ⟨5, 0, []⟩, ⟨6, 0, []⟩, ⟨7, 0, []⟩, ⟨8, 0, []⟩, ⟨9, 0, []⟩, ⟨11, 0, []⟩, ⟨1, 1, [6, 8, 9]⟩, ⟨10, 1, []⟩, ⟨12, 1, []⟩, ⟨13, 0, []⟩, ⟨14, 0, []⟩, ⟨15, 0, []⟩, ⟨16, 1, []⟩] rfl rfl ?_
                    refine d_q rfl rfl rfl rfl rfl ?_
                    refine v_move rfl ?_
                    refine v_nil ?_
                    refine d_q rfl rfl rfl rfl rfl ?_
                    refine v_move rfl ?_
                    refine v_nil ?_
                    refine d_q rfl rfl rfl rfl rfl ?_
                    refine v_nil_pt rfl ?_
                    refine v_nil ?_
                    refine d_q rfl rfl rfl rfl rfl ?_
                    refine v_fa_pt (off' := 1) lay90 rfl rfl rfl ?_
                    refine v_nil ?_
                    refine d_q rfl rfl rfl rfl rfl ?_
                    refine v_fa_pt (off' := 5) lay64 rfl rfl rfl ?_
                    refine v_nil ?_
                    refine d_q rfl rfl rfl rfl rfl ?_
                    refine v_load_pt (.c _) lay62 rfl rfl rfl rfl ?_
                    refine v_nil ?_
                    refine d_q rfl rfl rfl rfl rfl ?_
                    refine v_fa_pt (off' := 1) lay25 rfl rfl rfl ?_
                    refine v_nil ?_
                    refine d_q rfl rfl rfl rfl rfl ?_
                    refine v_load_pt (.c _) lay2 rfl rfl rfl rfl ?_
                    refine v_nil ?_
                    refine d_q rfl rfl rfl rfl rfl ?_
                    refine v_slice_mu (0) (a) lay62 lay101 rfl rfl rfl rfl (rfl) (ha) (by omega) (.inl rfl) ?_
                    refine v_nil ?_
                    refine d_q rfl rfl rfl rfl rfl ?_
                    refine v_move rfl ?_
                    refine v_nil ?_
                    refine d_e rfl rfl rfl ?_
                    refine v_lit (flat nce []) (H' := [_, _, _, _, _, _, _, _, _, _, _, _, _]) lay62 lay101 rfl rfl ⟨by decide, by decide⟩ rfl rfl ?_
                    refine v_nil ⟨⟨ag_slice_mu (0) (a) lay62 lay101 rfl rfl rfl rfl (rfl) (ha) (by omega) (.inl rfl), ⟨ag_load_pt (.c _) lay2 rfl rfl rfl rfl, ⟨ag_load_pt (.c _) lay62 rfl rfl rfl rfl, trivial⟩⟩⟩, ?_⟩
                    refine d_e rfl rfl rfl ?_
                    refine v_app_flat_off (H' := [_, _, _, _, _, _, _, _, _, _, _, _, _, _]) (0) nce_sc nce_len lay62 lay101 rfl rfl (by first | rfl | (simp; done) | (simp; omega) | omega | (rw [bg_l (by omega)])) rfl rfl (by omega) rfl rfl (by unfold maxLen; simp only []; omega) rfl rfl ?_
                    refine v_nil ⟨again_nil, ?_⟩
                    refine d_e rfl rfl rfl ?_
                    refine v_app_flat (H' := [_, _, _, _, _, _, _, _, _, _, _, _, _, _, _]) nce_sc nce_len lay62 lay101 rfl rfl (by first | rfl | (simp; done) | (simp; omega) | omega | (rw [bg_l (by omega)])) rfl rfl (by first | rfl | (simp; done)) rfl rfl (by unfold maxLen; simp only []; omega) rfl rfl ?_
                    refine v_nil ⟨again_nil, ?_⟩
                    refine d_q rfl rfl rfl rfl rfl ?_
                    refine v_nil_pt rfl ?_
                    refine v_nil ?_
                    refine d_q rfl rfl rfl rfl rfl ?_
                    refine v_fa_pt (off' := 1) lay90 rfl rfl rfl ?_
                    refine v_nil ?_
                    refine d_q rfl rfl rfl rfl rfl ?_
                    refine v_fa_pt (off' := 5) lay64 rfl rfl rfl ?_
                    refine v_nil ?_
                    refine d_e rfl rfl rfl ?_
                    refine v_store (H' := [⟨[_, _, _, _, _, _], 90, true⟩, _, _, _, _, _, _, _, _, _, _, _, _, _, _]) lay62 rfl rfl rfl rfl rfl rfl ?_
                    refine v_nil ⟨again_nil, ?_⟩
                    refine d_nil ?_
                    refine q_n ?_
                    refine w_seq ?_
                    refine w_seq ?_
                    refine w_reg rfl ?_
                    refine v_fa_pt (off' := 0) lay25 rfl rfl rfl ?_
                    refine v_load_pt (.c _) lay2 rfl rfl rfl rfl ?_
                    refine v_neq lay2 rfl rfl (fun h34 => ?_) (fun h34 => ?_)
                    · skip
                      refine v_nil ?_
                      refine q_n ?_
                      refine w_t rfl ?_
                      refine w_reg rfl ?_
                      refine v_move rfl ?_
                      refine v_load_pt (.agg [_, _, _, _]) lay101 rfl rfl rfl rfl ?_
                      refine v_inl (n := 80) (drawD_ok X) (fun _ _ => Go.Proofs.Try.call105 _ _) Go.Proofs.Try.func105 rfl rfl rfl rfl ?_
                      refine w_seq ?_
                      refine w_reg rfl ?_
                      refine v_box (m := 15) (H' := [_, _, _, _, _, _, _, _, _, _, _, _, _, _, _, _]) lay101 rfl rfl rfl ?_
                      refine v_nil ?_
                      refine q_n ?_
                      refine w_seq ?_
                      refine w_seq ?_
                      refine w_reg rfl ?_
                      refine v_fa_pt (off' := 0) lay101 rfl rfl rfl ?_
                      refine v_load_ptb lay4 rfl rfl rfl rfl (fun h35 => ?_) (fun h35 => ?_)
                      · skip
                        refine v_nil ?_
                        refine q_n ?_
                        refine w_t rfl ?_
                        refine w_seq ?_
                        refine w_draw [0, 1, 3, 7, 15, 0, 32, 0, 128, 384, 896, 1920, 0, 4096, 16256, 32640, 0, 65536, 262016, 524287, 1048575] [⟨0, 0, []⟩, ⟨1, 0, []⟩, ⟨2, 0, []⟩, ⟨3, 0, []⟩, ⟨4, 0, []⟩, ⟨5, 0, []⟩, ⟨6, 0, []⟩, ⟨7, 0, []⟩, ⟨8, 0, []⟩, ⟨9, 0, []⟩, ⟨10, 0, []⟩, ⟨11, 0, []⟩, ⟨12, 0, []⟩, ⟨13, 0, []⟩, ⟨14, 0, []⟩, ⟨15, 0, []⟩, ⟨16, 0, []⟩, ⟨17, 0, []⟩, ⟨18, 0, []⟩, ⟨19, 0, []⟩, ⟨20, 1, []⟩] rfl rfl ?_
                        refine d_q rfl rfl rfl rfl rfl ?_
                        refine v_move rfl ?_
                        refine v_nil ?_
                        refine d_q rfl rfl rfl rfl rfl ?_
                        refine v_nil_pt rfl ?_
                        refine v_nil ?_
                        refine d_q rfl rfl rfl rfl rfl ?_
                        refine v_fa_pt (off' := 1) lay90 rfl rfl rfl ?_
                        refine v_nil ?_
                        refine d_q rfl rfl rfl rfl rfl ?_
                        refine v_fa_pt (off' := 4) lay64 rfl rfl rfl ?_
                        refine v_nil ?_
                        refine d_q rfl rfl rfl rfl rfl ?_
                        refine v_load_pt (.c _) lay28 rfl rfl rfl rfl ?_
                        refine v_nil ?_
                        refine d_q rfl rfl rfl rfl rfl ?_
                        refine v_fa_pt (off' := 1) lay101 rfl rfl rfl ?_
                        refine v_nil ?_
                        refine d_q rfl rfl rfl rfl rfl ?_
                        refine v_load_pt (.c _) lay2 rfl rfl rfl rfl ?_
                        refine v_nil ?_
                        refine d_q rfl rfl rfl rfl rfl ?_
                        refine v_move rfl ?_
                        refine v_nil ?_
                        refine d_q rfl rfl rfl rfl rfl ?_
                        refine v_nil_pt rfl ?_
                        refine v_nil ?_
                        refine d_q rfl rfl rfl rfl rfl ?_
                        refine v_fa_pt (off' := 1) lay90 rfl rfl rfl ?_
                        refine v_nil ?_
                        refine d_q rfl rfl rfl rfl rfl ?_
                        refine v_fa_pt (off' := 4) lay64 rfl rfl rfl ?_
                        refine v_nil ?_
                        refine d_q rfl rfl rfl rfl rfl ?_
                        refine v_load_pt (.c _) lay28 rfl rfl rfl rfl ?_
                        refine v_nil ?_
                        refine d_q rfl rfl rfl rfl rfl ?_
                        refine v_fa_pt (off' := 1) lay101 rfl rfl rfl ?_
                        refine v_nil ?_
                        refine d_q rfl rfl rfl rfl rfl ?_
                        refine v_load_pt (.c _) lay2 rfl rfl rfl rfl ?_
                        refine v_nil ?_
                        refine d_q rfl rfl rfl rfl rfl ?_
                        refine v_idx_mu_e (k := 1) (off := 0) (pn) lay28 lay2 rfl rfl rfl (hpn) (by omega) ?_
                        refine v_nil ?_
                        refine d_q rfl rfl rfl rfl rfl ?_
                        refine v_load_flat pn 0 (.c (.v _)) int_len lay2 rfl rfl (by omega) (by first | omega | (simp; omega)) rfl rfl ?_
                        refine v_nil ?_
                        refine d_q rfl rfl rfl rfl rfl ?_
                        refine v_fa_pt (off' := 3) lay101 rfl rfl rfl ?_
                        refine v_nil ?_
                        refine d_q rfl rfl rfl rfl rfl ?_
                        refine v_load_pt (.c _) lay2 rfl rfl rfl rfl ?_
                        refine v_nil ?_
                        refine d_call (c98 _ _) rfl rfl rfl rfl rfl (.cons vw_v (.cons vw_v .nil)) ?_
                        refine d_q rfl rfl rfl rfl rfl ?_
                        refine v_idx_mu_e (k := 1) (off := 0) (pn) lay28 lay2 rfl rfl rfl (hpn) (by omega) ?_
                        refine v_nil ?_
                        refine d_e rfl rfl rfl ?_
                        refine v_store_flat (H' := [_, _, _, _, _, _, _, _, _, _, _, _, _, _, _, _]) pn 0 (mx b.kn[pn] b.wr[a].2.2.2) int_len lay2 rfl rfl rfl (by omega) (by first | omega | (simp; omega)) rfl rfl (rfl) rfl ?_
                        refine v_nil ⟨again_nil, ?_⟩
                        refine d_nil ?_
                        refine q_n ?_
                        refine w_ret (q_r ?_)
                        refine r_r rfl ?_
                        refine v_nil ?_
                        refine q_n ?_
                        refine w_seq ?_
                        refine w_reg rfl ?_
                        refine v_assign (c := .v (.int .i64 0)) rfl ?_
                        refine v_nil ?_
                        refine q_n ?_
                        refine w_ret ?_
                        refine r_r rfl ?_
                        refine v_assign rfl ?_
                        refine v_nil ?_
                        refine q_n ?_
                        refine w_ret (q_r ?_)
                        refine r_r rfl ?_
                        refine v_lit (flat int [_]) (H' := [_, _, _, _, _, _, _, _, _, _, _, _, _, _, _, _, _]) lay28 lay2 rfl rfl ⟨by decide, by decide⟩ rfl rfl ?_
                        refine v_app_flat (H' := [_, _, _, _, _, _, _, _, _, _, _, _, _, _, _, _, _, _]) int_sc int_len lay28 lay2 rfl rfl (by first | rfl | (simp; done) | (simp; omega) | omega | (rw [bg_l (by omega)])) rfl rfl (by first | rfl | (simp; done)) rfl rfl (by unfold maxLen; simp only []; omega) rfl rfl ?_
                        refine v_assign rfl ?_
                        refine v_nil ?_
                        refine q_bn ?_
                        refine q_n ?_
                        refine w_reg rfl ?_
                        refine v_move rfl ?_
                        refine v_add lay3 rfl rfl (i64r (by omega)) ?_
                        refine v_assign rfl ?_
                        refine v_nil ?_
                        refine q_n ?_
                        have hdo : doB p b ds[i] = ({ b with kn := b.kn.set pn (mx b.kn[pn] b.wr[a].2.2.2), wr := b.wr.take a ++ b.wr.drop (a + 1) }, 0) := do_deliver (by omega) ha k4 (come_back (b := cutW b a) h35 hpn k5)
                        refine ⟨_, _, _, ?_, ⟨i + 1, { b with kn := b.kn.set pn (mx b.kn[pn] b.wr[a].2.2.2), wr := b.wr.take a ++ b.wr.drop (a + 1) }, cs ++ [0], rfl, by omega, st_step hst hi1 hdo, ok_do hok hd hdo, by simp; omega, rfl, rfl⟩, by omega⟩
                        exact turn [some 0, some 1, some 2, some 3, some 4, some 14, some 17] rfl rfl rfl ⟨⟨_, rfl, .cons tr_vw (.cons (tr_mun rfl (by first | rfl | (simp; done) | (simp; omega) | (rw [bg_l (by omega)]))) (.cons (tr_mun rfl (by first | rfl | (simp; done) | (simp; omega) | (rw [bg_l (by omega)]))) (.cons (tr_mun rfl (by first | rfl | (simp; done) | (simp; omega) | (rw [bg_l (by omega)]))) (.cons (tr_mun rfl (by first | rfl | (simp; done) | (simp; omega) | (rw [bg_l (by omega)]))) (.cons (tr_mun rfl (by first | rfl | (simp; done) | (simp; omega) | (rw [bg_l (by omega)]))) .nil)))))⟩, ⟨_, rfl, trc_flat pe_sc rfl⟩, ⟨_, rfl, trc_flat pe_sc rfl⟩, ⟨_, rfl, trc_flat pe_sc rfl⟩, ⟨_, rfl, trc_flat int_sc rfl⟩, ⟨_, rfl, trc_flat nce_sc (congrArg (flat nce) (by exact wcut_end hce))⟩, ⟨_, rfl, trc_flat int_sc rfl⟩, trivial⟩ ⟨tr_sl, tr_pt rfl, tr_mun rfl (by simp), tr_v, trivial⟩
                      · skip
                        refine v_nil ?_
                        refine q_n ?_
                        refine w_f rfl ?_
                        refine w_skip ?_
                        refine q_n ?_
                        refine w_seq ?_
                        refine w_seq ?_
                        refine w_draw [0, 1, 0, 4, 12, 28, 60, 0, 128, 508, 1020, 2044, 4095] [⟨0, 0, []⟩, ⟨1, 0, []⟩, ⟨2, 0, []⟩, ⟨3, 0, []⟩, ⟨4, 0, []⟩, ⟨5, 0, []⟩, ⟨6, 0, []⟩, ⟨7, 0, []⟩, ⟨8, 0, []⟩, ⟨9, 0, []⟩, ⟨10, 0, []⟩, ⟨11, 0, []⟩, ⟨12, 0, []⟩] rfl rfl ?_
                        refine d_q rfl rfl rfl rfl rfl ?_
                        refine v_fa_pt (off' := 3) lay101 rfl rfl rfl ?_
                        refine v_nil ?_
                        refine d_q rfl rfl rfl rfl rfl ?_
                        refine v_load_pt (.c _) lay2 rfl rfl rfl rfl ?_
                        refine v_nil ?_
                        refine d_q rfl rfl rfl rfl rfl ?_
                        refine v_move rfl ?_
                        refine v_nil ?_
                        refine d_q rfl rfl rfl rfl rfl ?_
                        refine v_nil_pt rfl ?_
                        refine v_nil ?_
                        refine d_q rfl rfl rfl rfl rfl ?_
                        refine v_fa_pt (off' := 1) lay90 rfl rfl rfl ?_
                        refine v_nil ?_
                        refine d_q rfl rfl rfl rfl rfl ?_
                        refine v_fa_pt (off' := 2) lay64 rfl rfl rfl ?_
                        refine v_nil ?_
                        refine d_q rfl rfl rfl rfl rfl ?_
                        refine v_load_pt (.c _) lay61 rfl rfl rfl rfl ?_
                        refine v_nil ?_
                        refine d_q rfl rfl rfl rfl rfl ?_
                        refine v_fa_pt (off' := 1) lay101 rfl rfl rfl ?_
                        refine v_nil ?_
                        refine d_q rfl rfl rfl rfl rfl ?_
                        refine v_load_pt (.c _) lay2 rfl rfl rfl rfl ?_
                        refine v_nil ?_
                        refine d_q rfl rfl rfl rfl rfl ?_
                        refine v_idx_mu_e (k := 2) (off := 0) (pn) lay61 lay46 rfl rfl rfl (hpn) (by omega) ?_
                        refine v_nil ?_
                        refine d_q rfl rfl rfl rfl rfl ?_
                        refine v_fa_pt (off' := _) lay46 rfl rfl rfl ?_
                        refine v_nil ?_
                        refine d_q rfl rfl rfl rfl rfl ?_
                        refine v_load_flat pn 1 (.c (.v _)) pe_len lay2 rfl rfl (by omega) (by first | omega | (simp; omega)) rfl rfl ?_
                        refine v_nil ?_
                        refine d_q rfl rfl rfl rfl rfl ?_
                        refine v_gtr lay2 rfl rfl (fun h39 => ?_) (fun h39 => ?_)
                        · skip
                          refine v_nil ?_
                          refine d_nil ?_
                          refine q_n ?_
                          refine w_t rfl ?_
                          refine w_draw [0, 1, 3, 7, 15, 0, 32, 0, 128, 0, 512, 1920, 4095, 8191] [⟨0, 0, []⟩, ⟨1, 0, []⟩, ⟨2, 0, []⟩, ⟨3, 0, []⟩, ⟨4, 0, []⟩, ⟨5, 0, []⟩, ⟨6, 0, []⟩, ⟨7, 0, []⟩, ⟨8, 0, []⟩, ⟨9, 0, []⟩, ⟨10, 0, []⟩, ⟨11, 0, []⟩, ⟨12, 0, []⟩, ⟨13, 1, []⟩] rfl rfl ?_
                          refine d_q rfl rfl rfl rfl rfl ?_
                          refine v_move rfl ?_
                          refine v_nil ?_
                          refine d_q rfl rfl rfl rfl rfl ?_
                          refine v_nil_pt rfl ?_
                          refine v_nil ?_
                          refine d_q rfl rfl rfl rfl rfl ?_
                          refine v_fa_pt (off' := 1) lay90 rfl rfl rfl ?_
                          refine v_nil ?_
                          refine d_q rfl rfl rfl rfl rfl ?_
                          refine v_fa_pt (off' := 2) lay64 rfl rfl rfl ?_
                          refine v_nil ?_
                          refine d_q rfl rfl rfl rfl rfl ?_
                          refine v_load_pt (.c _) lay61 rfl rfl rfl rfl ?_
                          refine v_nil ?_
                          refine d_q rfl rfl rfl rfl rfl ?_
                          refine v_fa_pt (off' := 1) lay101 rfl rfl rfl ?_
                          refine v_nil ?_
                          refine d_q rfl rfl rfl rfl rfl ?_
                          refine v_load_pt (.c _) lay2 rfl rfl rfl rfl ?_
                          refine v_nil ?_
                          refine d_q rfl rfl rfl rfl rfl ?_
                          refine v_fa_pt (off' := 2) lay101 rfl rfl rfl ?_
                          refine v_nil ?_
                          refine d_q rfl rfl rfl rfl rfl ?_
                          refine v_load_pt (.c _) lay2 rfl rfl rfl rfl ?_
                          refine v_nil ?_
                          refine d_q rfl rfl rfl rfl rfl ?_
                          refine v_fa_pt (off' := 3) lay101 rfl rfl rfl ?_
                          refine v_nil ?_
                          refine d_q rfl rfl rfl rfl rfl ?_
                          refine v_load_pt (.c _) lay2 rfl rfl rfl rfl ?_
                          refine v_nil ?_
                          refine d_q rfl rfl rfl rfl rfl ?_
                          refine v_build [(0, 1), (1, 1)] [.v _, .v _] lay46 rfl rfl ?_
                          refine v_nil ?_
                          refine d_q rfl rfl rfl rfl rfl ?_
                          refine v_idx_mu_e (k := 2) (off := 0) (pn) lay61 lay46 rfl rfl rfl (hpn) (by omega) ?_
                          refine v_nil ?_
                          refine d_e rfl rfl rfl ?_
                          refine v_store_flat (H' := [_, _, _, _, _, _, _, _, _, _, _, _, _, _, _, _]) pn 0 ((b.wr[a].2.2.1, b.wr[a].2.2.2)) pe_len lay46 rfl rfl rfl (by omega) (by first | omega | (simp; omega)) rfl rfl (rfl) rfl ?_
                          refine v_nil ⟨again_nil, ?_⟩
                          refine d_nil ?_
                          refine q_n ?_
                          refine w_seq ?_
                          refine w_draw [0, 1, 3, 7, 15, 0, 32, 127, 255, 0, 1023] [⟨0, 0, []⟩, ⟨1, 0, []⟩, ⟨2, 0, []⟩, ⟨3, 0, []⟩, ⟨4, 0, []⟩, ⟨5, 0, []⟩, ⟨6, 0, []⟩, ⟨7, 0, []⟩, ⟨8, 0, []⟩, ⟨9, 1, [4, 6, 8]⟩, ⟨10, 1, []⟩] rfl rfl ?_
                          refine d_q rfl rfl rfl rfl rfl ?_
                          refine v_move rfl ?_
                          refine v_nil ?_
                          refine d_q rfl rfl rfl rfl rfl ?_
                          refine v_nil_pt rfl ?_
                          refine v_nil ?_
                          refine d_q rfl rfl rfl rfl rfl ?_
                          refine v_fa_pt (off' := 1) lay90 rfl rfl rfl ?_
                          refine v_nil ?_
                          refine d_q rfl rfl rfl rfl rfl ?_
                          refine v_fa_pt (off' := 2) lay64 rfl rfl rfl ?_
                          refine v_nil ?_
                          refine d_q rfl rfl rfl rfl rfl ?_
                          refine v_load_pt (.c _) lay61 rfl rfl rfl rfl ?_
                          refine v_nil ?_
                          refine d_q rfl rfl rfl rfl rfl ?_
                          refine v_fa_pt (off' := 1) lay101 rfl rfl rfl ?_
                          refine v_nil ?_
                          refine d_q rfl rfl rfl rfl rfl ?_
                          refine v_load_pt (.c _) lay2 rfl rfl rfl rfl ?_
                          refine v_nil ?_
                          refine d_q rfl rfl rfl rfl rfl ?_
                          refine v_idx_mu_e (k := 2) (off := 0) (pn) lay61 lay46 rfl rfl rfl (hpn) (by omega) ?_
                          refine v_nil ?_
                          refine d_q rfl rfl rfl rfl rfl ?_
                          refine v_load_flat pn 0 (.agg [.v _, .v _]) pe_len lay46 rfl rfl (by omega) (by first | omega | (simp; omega)) rfl rfl ?_
                          refine v_nil ?_
                          refine d_e rfl rfl rfl ?_
                          refine v_alloc (m := 16) (H' := [_, _, _, _, _, _, _, _, _, _, _, _, _, _, _, _, ⟨[.v _, .v _], 46, true⟩]) lay46 rfl rfl ?_
                          refine v_nil ⟨⟨ag_load_flat pn 0 (.agg [.v _, .v _]) pe_len lay46 rfl rfl (by omega) (by first | omega | (simp; omega)) rfl rfl, ⟨ag_load_pt (.c _) lay2 rfl rfl rfl rfl, ⟨ag_load_pt (.c _) lay61 rfl rfl rfl rfl, trivial⟩⟩⟩, ?_⟩
                          refine d_e rfl rfl rfl ?_
                          refine v_store (H' := [_, _, _, _, _, _, _, _, _, _, _, _, _, _, _, _, ⟨[_, _], 46, true⟩]) lay46 rfl rfl rfl rfl rfl rfl ?_
                          refine v_nil ⟨again_nil, ?_⟩
                          refine d_nil ?_
                          refine q_n ?_
                          refine w_draw [0, 0, 2, 6, 14, 30, 0, 64, 0, 256, 0, 1024, 4032, 8128, 16382, 32767, 65535, 131071, 262143] [⟨0, 0, []⟩, ⟨1, 0, []⟩, ⟨2, 0, []⟩, ⟨3, 0, []⟩, ⟨4, 0, []⟩, ⟨5, 0, []⟩, ⟨6, 0, []⟩, ⟨7, 0, []⟩, ⟨8, 0, []⟩, ⟨9, 0, []⟩, ⟨10, 0, []⟩, ⟨11, 0, []⟩, ⟨12, 0, []⟩, ⟨13, 2, []⟩, ⟨14, 1, []⟩, ⟨15, 0, []⟩, ⟨16, 0, []⟩, ⟨17, 0, []⟩, ⟨18, 1, []⟩] rfl rfl ?_
                          refine d_q rfl rfl rfl rfl rfl ?_
                          refine v_move rfl ?_
                          refine v_nil ?_
                          refine d_q rfl rfl rfl rfl rfl ?_
                          refine v_move rfl ?_
                          refine v_nil ?_
                          refine d_q rfl rfl rfl rfl rfl ?_
                          refine v_nil_pt rfl ?_
                          refine v_nil ?_
                          refine d_q rfl rfl rfl rfl rfl ?_
                          refine v_fa_pt (off' := 1) lay90 rfl rfl rfl ?_
                          refine v_nil ?_
                          refine d_q rfl rfl rfl rfl rfl ?_
                          refine v_fa_pt (off' := 5) lay64 rfl rfl rfl ?_
                          refine v_nil ?_
                          refine d_q rfl rfl rfl rfl rfl ?_
                          refine v_load_pt (.c _) lay62 rfl rfl rfl rfl ?_
                          refine v_nil ?_
                          refine d_q rfl rfl rfl rfl rfl ?_
                          refine v_fa_pt (off' := 1) lay101 rfl rfl rfl ?_
                          refine v_nil ?_
                          refine d_q rfl rfl rfl rfl rfl ?_
                          refine v_load_pt (.c _) lay2 rfl rfl rfl rfl ?_
                          refine v_nil ?_
                          refine d_q rfl rfl rfl rfl rfl ?_
                          refine v_fa_pt (off' := 0) lay46 rfl rfl rfl ?_
                          refine v_nil ?_
                          refine d_q rfl rfl rfl rfl rfl ?_
                          refine v_load_pt (.c _) lay2 rfl rfl rfl rfl ?_
                          refine v_nil ?_
                          refine d_q rfl rfl rfl rfl rfl ?_
                          refine v_fa_pt (off' := 1) lay46 rfl rfl rfl ?_
                          refine v_nil ?_
                          refine d_q rfl rfl rfl rfl rfl ?_
                          refine v_load_pt (.c _) lay2 rfl rfl rfl rfl ?_
                          refine v_nil ?_
                          refine d_q rfl rfl rfl rfl rfl ?_
                          refine v_build [(0, 1), (1, 1), (2, 1), (3, 1)] [.v _, .v _, .v _, .v _] lay101 rfl rfl ?_
                          refine v_nil ?_
                          refine d_z (.c (.sl true 1 4 (flat nce [(true, b.wr[a].2.1, ((b.ps.set pn (b.wr[a].2.2.1, b.wr[a].2.2.2))[pn]'(by simpa using k6)).1, ((b.ps.set pn (b.wr[a].2.2.1, b.wr[a].2.2.2))[pn]'(by simpa using k6)).2)]))) rfl rfl rfl ?_
                          refine d_e rfl rfl rfl ?_
                          refine v_app_flat_sl (H' := [_, _, _, _, _, _, _, _, _, _, _, _, _, _, _, _, _, _]) nce_sc nce_len lay62 lay101 rfl rfl (by first | rfl | (simp; done) | (simp; omega) | omega | (rw [bg_l (by omega)])) rfl rfl rfl (by unfold maxLen; simp only []; omega) rfl rfl ?_
                          refine v_nil ⟨again_nil, ?_⟩
                          refine d_q rfl rfl rfl rfl rfl ?_
                          refine v_nil_pt rfl ?_
                          refine v_nil ?_
                          refine d_q rfl rfl rfl rfl rfl ?_
                          refine v_fa_pt (off' := 1) lay90 rfl rfl rfl ?_
                          refine v_nil ?_
                          refine d_q rfl rfl rfl rfl rfl ?_
                          refine v_fa_pt (off' := 5) lay64 rfl rfl rfl ?_
                          refine v_nil ?_
                          refine d_e rfl rfl rfl ?_
                          refine v_store (H' := [⟨[_, _, _, _, _, _], 90, true⟩, _, _, _, _, _, _, _, _, _, _, _, _, _, _, _, _, _]) lay62 rfl rfl rfl rfl rfl rfl ?_
                          refine v_nil ⟨again_nil, ?_⟩
                          refine d_nil ?_
                          refine r_n rfl ?_
                          refine v_nil ?_
                          refine q_n ?_
                          refine w_seq ?_
                          refine w_reg rfl ?_
                          refine v_assign (c := .v (.int .i64 0)) rfl ?_
                          refine v_nil ?_
                          refine q_n ?_
                          refine w_ret ?_
                          refine r_r rfl ?_
                          refine v_assign rfl ?_
                          refine v_nil ?_
                          refine q_n ?_
                          refine w_ret (q_r ?_)
                          refine r_r rfl ?_
                          refine v_lit (flat int [_]) (H' := [_, _, _, _, _, _, _, _, _, _, _, _, _, _, _, _, _, _, _]) lay28 lay2 rfl rfl ⟨by decide, by decide⟩ rfl rfl ?_
                          refine v_app_flat (H' := [_, _, _, _, _, _, _, _, _, _, _, _, _, _, _, _, _, _, _, _]) int_sc int_len lay28 lay2 rfl rfl (by first | rfl | (simp; done) | (simp; omega) | omega | (rw [bg_l (by omega)])) rfl rfl (by first | rfl | (simp; done)) rfl rfl (by unfold maxLen; simp only []; omega) rfl rfl ?_
                          refine v_assign rfl ?_
                          refine v_nil ?_
                          refine q_bn ?_
                          refine q_n ?_
                          refine w_reg rfl ?_
                          refine v_move rfl ?_
                          refine v_add lay3 rfl rfl (i64r (by omega)) ?_
                          refine v_assign rfl ?_
                          refine v_nil ?_
                          refine q_n ?_
                          have hdo : doB p b ds[i] = ({ b with ps := b.ps.set pn (b.wr[a].2.2.1, b.wr[a].2.2.2), wr := (b.wr.take a ++ b.wr.drop (a + 1)) ++ [(true, b.wr[a].2.1, b.wr[a].2.2.1, b.wr[a].2.2.2)] }, 0) := do_deliver (by omega) ha k4 (come_new (b := cutW b a) h35 hpn k6 h39)
                          refine ⟨_, _, _, ?_, ⟨i + 1, { b with ps := b.ps.set pn (b.wr[a].2.2.1, b.wr[a].2.2.2), wr := (b.wr.take a ++ b.wr.drop (a + 1)) ++ [(true, b.wr[a].2.1, b.wr[a].2.2.1, b.wr[a].2.2.2)] }, cs ++ [0], rfl, by omega, st_step hst hi1 hdo, ok_do hok hd hdo, by simp; omega, rfl, rfl⟩, by omega⟩
                          exact turn [some 0, some 1, some 2, some 3, some 4, some 17, some 19] rfl rfl rfl ⟨⟨_, rfl, .cons tr_vw (.cons (tr_mun rfl (by first | rfl | (simp; done) | (simp; omega) | (rw [bg_l (by omega)]))) (.cons (tr_mun rfl (by first | rfl | (simp; done) | (simp; omega) | (rw [bg_l (by omega)]))) (.cons (tr_mun rfl (by first | rfl | (simp; done) | (simp; omega) | (rw [bg_l (by omega)]))) (.cons (tr_mun rfl (by first | rfl | (simp; done) | (simp; omega) | (rw [bg_l (by omega)]))) (.cons (tr_mun rfl (by first | rfl | (simp; done) | (simp; omega) | (rw [bg_l (by omega)]))) .nil)))))⟩, ⟨_, rfl, trc_flat pe_sc rfl⟩, ⟨_, rfl, trc_flat pe_sc rfl⟩, ⟨_, rfl, trc_flat pe_sc rfl⟩, ⟨_, rfl, trc_flat int_sc rfl⟩, ⟨_, rfl, trc_flat nce_sc (congrArg (flat nce) (by simp only [List.getElem_set_self]; rw [wcut_end hce]))⟩, ⟨_, rfl, trc_flat int_sc rfl⟩, trivial⟩ ⟨tr_sl, tr_pt rfl, tr_mun rfl (by simp), tr_v, trivial⟩
                        · skip
                          refine v_nil ?_
                          refine d_nil ?_
                          refine q_n ?_
                          refine w_f rfl ?_
                          refine w_skip ?_
                          refine q_n ?_
                          refine w_seq ?_
                          refine w_draw [0, 1, 3, 7, 15, 0, 32, 127, 255, 0, 1023] [⟨0, 0, []⟩, ⟨1, 0, []⟩, ⟨2, 0, []⟩, ⟨3, 0, []⟩, ⟨4, 0, []⟩, ⟨5, 0, []⟩, ⟨6, 0, []⟩, ⟨7, 0, []⟩, ⟨8, 0, []⟩, ⟨9, 1, [4, 6, 8]⟩, ⟨10, 1, []⟩] rfl rfl ?_
                          refine d_q rfl rfl rfl rfl rfl ?_
                          refine v_move rfl ?_
                          refine v_nil ?_
                          refine d_q rfl rfl rfl rfl rfl ?_
                          refine v_nil_pt rfl ?_
                          refine v_nil ?_
                          refine d_q rfl rfl rfl rfl rfl ?_
                          refine v_fa_pt (off' := 1) lay90 rfl rfl rfl ?_
                          refine v_nil ?_
                          refine d_q rfl rfl rfl rfl rfl ?_
                          refine v_fa_pt (off' := 2) lay64 rfl rfl rfl ?_
                          refine v_nil ?_
                          refine d_q rfl rfl rfl rfl rfl ?_
                          refine v_load_pt (.c _) lay61 rfl rfl rfl rfl ?_
                          refine v_nil ?_
                          refine d_q rfl rfl rfl rfl rfl ?_
                          refine v_fa_pt (off' := 1) lay101 rfl rfl rfl ?_
                          refine v_nil ?_
                          refine d_q rfl rfl rfl rfl rfl ?_
                          refine v_load_pt (.c _) lay2 rfl rfl rfl rfl ?_
                          refine v_nil ?_
                          refine d_q rfl rfl rfl rfl rfl ?_
                          refine v_idx_mu_e (k := 2) (off := 0) (pn) lay61 lay46 rfl rfl rfl (hpn) (by omega) ?_
                          refine v_nil ?_
                          refine d_q rfl rfl rfl rfl rfl ?_
                          refine v_load_flat pn 0 (.agg [.v _, .v _]) pe_len lay46 rfl rfl (by omega) (by first | omega | (simp; omega)) rfl rfl ?_
                          refine v_nil ?_
                          refine d_e rfl rfl rfl ?_
                          refine v_alloc (m := 16) (H' := [_, _, _, _, _, _, _, _, _, _, _, _, _, _, _, _, ⟨[.v _, .v _], 46, true⟩]) lay46 rfl rfl ?_
                          refine v_nil ⟨⟨ag_load_flat pn 0 (.agg [.v _, .v _]) pe_len lay46 rfl rfl (by omega) (by first | omega | (simp; omega)) rfl rfl, ⟨ag_load_pt (.c _) lay2 rfl rfl rfl rfl, ⟨ag_load_pt (.c _) lay61 rfl rfl rfl rfl, trivial⟩⟩⟩, ?_⟩
                          refine d_e rfl rfl rfl ?_
                          refine v_store (H' := [_, _, _, _, _, _, _, _, _, _, _, _, _, _, _, _, ⟨[_, _], 46, true⟩]) lay46 rfl rfl rfl rfl rfl rfl ?_
                          refine v_nil ⟨again_nil, ?_⟩
                          refine d_nil ?_
                          refine q_n ?_
                          refine w_draw [0, 0, 2, 6, 14, 30, 0, 64, 0, 256, 0, 1024, 4032, 8128, 16382, 32767, 65535, 131071, 262143] [⟨0, 0, []⟩, ⟨1, 0, []⟩, ⟨2, 0, []⟩, ⟨3, 0, []⟩, ⟨4, 0, []⟩, ⟨5, 0, []⟩, ⟨6, 0, []⟩, ⟨7, 0, []⟩, ⟨8, 0, []⟩, ⟨9, 0, []⟩, ⟨10, 0, []⟩, ⟨11, 0, []⟩, ⟨12, 0, []⟩, ⟨13, 2, []⟩, ⟨14, 1, []⟩, ⟨15, 0, []⟩, ⟨16, 0, []⟩, ⟨17, 0, []⟩, ⟨18, 1, []⟩] rfl rfl ?_
                          refine d_q rfl rfl rfl rfl rfl ?_
                          refine v_move rfl ?_
                          refine v_nil ?_
                          refine d_q rfl rfl rfl rfl rfl ?_
                          refine v_move rfl ?_
                          refine v_nil ?_
                          refine d_q rfl rfl rfl rfl rfl ?_
                          refine v_nil_pt rfl ?_
                          refine v_nil ?_
                          refine d_q rfl rfl rfl rfl rfl ?_
                          refine v_fa_pt (off' := 1) lay90 rfl rfl rfl ?_
                          refine v_nil ?_
                          refine d_q rfl rfl rfl rfl rfl ?_
                          refine v_fa_pt (off' := 5) lay64 rfl rfl rfl ?_
                          refine v_nil ?_
                          refine d_q rfl rfl rfl rfl rfl ?_
                          refine v_load_pt (.c _) lay62 rfl rfl rfl rfl ?_
                          refine v_nil ?_
                          refine d_q rfl rfl rfl rfl rfl ?_
                          refine v_fa_pt (off' := 1) lay101 rfl rfl rfl ?_
                          refine v_nil ?_
                          refine d_q rfl rfl rfl rfl rfl ?_
                          refine v_load_pt (.c _) lay2 rfl rfl rfl rfl ?_
                          refine v_nil ?_
                          refine d_q rfl rfl rfl rfl rfl ?_
                          refine v_fa_pt (off' := 0) lay46 rfl rfl rfl ?_
                          refine v_nil ?_
                          refine d_q rfl rfl rfl rfl rfl ?_
                          refine v_load_pt (.c _) lay2 rfl rfl rfl rfl ?_
                          refine v_nil ?_
                          refine d_q rfl rfl rfl rfl rfl ?_
                          refine v_fa_pt (off' := 1) lay46 rfl rfl rfl ?_
                          refine v_nil ?_
                          refine d_q rfl rfl rfl rfl rfl ?_
                          refine v_load_pt (.c _) lay2 rfl rfl rfl rfl ?_
                          refine v_nil ?_
                          refine d_q rfl rfl rfl rfl rfl ?_
                          refine v_build [(0, 1), (1, 1), (2, 1), (3, 1)] [.v _, .v _, .v _, .v _] lay101 rfl rfl ?_
                          refine v_nil ?_
                          refine d_z (.c (.sl true 1 4 (flat nce [(true, b.wr[a].2.1, b.ps[pn].1, b.ps[pn].2)]))) rfl rfl rfl ?_
                          refine d_e rfl rfl rfl ?_
                          refine v_app_flat_sl (H' := [_, _, _, _, _, _, _, _, _, _, _, _, _, _, _, _, _, _]) nce_sc nce_len lay62 lay101 rfl rfl (by first | rfl | (simp; done) | (simp; omega) | omega | (rw [bg_l (by omega)])) rfl rfl rfl (by unfold maxLen; simp only []; omega) rfl rfl ?_
                          refine v_nil ⟨again_nil, ?_⟩
                          refine d_q rfl rfl rfl rfl rfl ?_
                          refine v_nil_pt rfl ?_
                          refine v_nil ?_
                          refine d_q rfl rfl rfl rfl rfl ?_
                          refine v_fa_pt (off' := 1) lay90 rfl rfl rfl ?_
                          refine v_nil ?_
                          refine d_q rfl rfl rfl rfl rfl ?_
                          refine v_fa_pt (off' := 5) lay64 rfl rfl rfl ?_
                          refine v_nil ?_
                          refine d_e rfl rfl rfl ?_
                          refine v_store (H' := [⟨[_, _, _, _, _, _], 90, true⟩, _, _, _, _, _, _, _, _, _, _, _, _, _, _, _, _, _]) lay62 rfl rfl rfl rfl rfl rfl ?_
                          refine v_nil ⟨again_nil, ?_⟩
                          refine d_nil ?_
                          refine r_n rfl ?_
                          refine v_nil ?_
                          refine q_n ?_
                          refine w_seq ?_
                          refine w_reg rfl ?_
                          refine v_assign (c := .v (.int .i64 0)) rfl ?_
                          refine v_nil ?_
                          refine q_n ?_
                          refine w_ret ?_
                          refine r_r rfl ?_
                          refine v_assign rfl ?_
                          refine v_nil ?_
                          refine q_n ?_
                          refine w_ret (q_r ?_)
                          refine r_r rfl ?_
                          refine v_lit (flat int [_]) (H' := [_, _, _, _, _, _, _, _, _, _, _, _, _, _, _, _, _, _, _]) lay28 lay2 rfl rfl ⟨by decide, by decide⟩ rfl rfl ?_
                          refine v_app_flat (H' := [_, _, _, _, _, _, _, _, _, _, _, _, _, _, _, _, _, _, _, _]) int_sc int_len lay28 lay2 rfl rfl (by first | rfl | (simp; done) | (simp; omega) | omega | (rw [bg_l (by omega)])) rfl rfl (by first | rfl | (simp; done)) rfl rfl (by unfold maxLen; simp only []; omega) rfl rfl ?_
                          refine v_assign rfl ?_
                          refine v_nil ?_
                          refine q_bn ?_
                          refine q_n ?_
                          refine w_reg rfl ?_
                          refine v_move rfl ?_
                          refine v_add lay3 rfl rfl (i64r (by omega)) ?_
                          refine v_assign rfl ?_
                          refine v_nil ?_
                          refine q_n ?_
                          have hdo : doB p b ds[i] = ({ b with wr := (b.wr.take a ++ b.wr.drop (a + 1)) ++ [(true, b.wr[a].2.1, b.ps[pn].1, b.ps[pn].2)] }, 0) := do_deliver (by omega) ha k4 (come_old (b := cutW b a) h35 hpn k6 h39)
                          refine ⟨_, _, _, ?_, ⟨i + 1, { b with wr := (b.wr.take a ++ b.wr.drop (a + 1)) ++ [(true, b.wr[a].2.1, b.ps[pn].1, b.ps[pn].2)] }, cs ++ [0], rfl, by omega, st_step hst hi1 hdo, ok_do hok hd hdo, by simp; omega, rfl, rfl⟩, by omega⟩
                          exact turn [some 0, some 1, some 2, some 3, some 4, some 17, some 19] rfl rfl rfl ⟨⟨_, rfl, .cons tr_vw (.cons (tr_mun rfl (by first | rfl | (simp; done) | (simp; omega) | (rw [bg_l (by omega)]))) (.cons (tr_mun rfl (by first | rfl | (simp; done) | (simp; omega) | (rw [bg_l (by omega)]))) (.cons (tr_mun rfl (by first | rfl | (simp; done) | (simp; omega) | (rw [bg_l (by omega)]))) (.cons (tr_mun rfl (by first | rfl | (simp; done) | (simp; omega) | (rw [bg_l (by omega)]))) (.cons (tr_mun rfl (by first | rfl | (simp; done) | (simp; omega) | (rw [bg_l (by omega)]))) .nil)))))⟩, ⟨_, rfl, trc_flat pe_sc rfl⟩, ⟨_, rfl, trc_flat pe_sc rfl⟩, ⟨_, rfl, trc_flat pe_sc rfl⟩, ⟨_, rfl, trc_flat int_sc rfl⟩, ⟨_, rfl, trc_flat nce_sc (congrArg (flat nce) (by rw [wcut_end hce]))⟩, ⟨_, rfl, trc_flat int_sc rfl⟩, trivial⟩ ⟨tr_sl, tr_pt rfl, tr_mun rfl (by simp), tr_v, trivial⟩
                    · skip
                      refine v_nil ?_
                      refine q_n ?_
                      refine w_f rfl ?_
                      refine w_skip ?_
                      refine q_n ?_
                      refine w_seq ?_
                      refine w_reg rfl ?_
                      refine v_assign (c := .v (.int .i64 0)) rfl ?_
                      refine v_nil ?_
                      refine q_n ?_
                      refine w_ret ?_
                      refine r_r rfl ?_
                      refine v_assign rfl ?_
                      refine v_nil ?_
                      refine q_n ?_
                      refine w_ret (q_r ?_)
                      refine r_r rfl ?_
                      refine v_lit (flat int [_]) (H' := [_, _, _, _, _, _, _, _, _, _, _, _, _, _, _, _]) lay28 lay2 rfl rfl ⟨by decide, by decide⟩ rfl rfl ?_
                      refine v_app_flat (H' := [_, _, _, _, _, _, _, _, _, _, _, _, _, _, _, _, _]) int_sc int_len lay28 lay2 rfl rfl (by first | rfl | (simp; done) | (simp; omega) | omega | (rw [bg_l (by omega)])) rfl rfl (by first | rfl | (simp; done)) rfl rfl (by unfold maxLen; simp only []; omega) rfl rfl ?_
                      refine v_assign rfl ?_
                      refine v_nil ?_
                      refine q_bn ?_
                      refine q_n ?_
                      refine w_reg rfl ?_
                      refine v_move rfl ?_
                      refine v_add lay3 rfl rfl (i64r (by omega)) ?_
                      refine v_assign rfl ?_
                      refine v_nil ?_
                      refine q_n ?_
                      have hdo : doB p b ds[i] = ({ b with wr := b.wr.take a ++ b.wr.drop (a + 1) }, 0) := do_drop (by omega) ha k4
                      refine ⟨_, _, _, ?_, ⟨i + 1, { b with wr := b.wr.take a ++ b.wr.drop (a + 1) }, cs ++ [0], rfl, by omega, st_step hst hi1 hdo, ok_do hok hd hdo, by simp; omega, rfl, rfl⟩, by omega⟩
                      exact turn [some 0, some 1, some 2, some 3, some 4, some 14, some 16] rfl rfl rfl ⟨⟨_, rfl, .cons tr_vw (.cons (tr_mun rfl (by first | rfl | (simp; done) | (simp; omega) | (rw [bg_l (by omega)]))) (.cons (tr_mun rfl (by first | rfl | (simp; done) | (simp; omega) | (rw [bg_l (by omega)]))) (.cons (tr_mun rfl (by first | rfl | (simp; done) | (simp; omega) | (rw [bg_l (by omega)]))) (.cons (tr_mun rfl (by first | rfl | (simp; done) | (simp; omega) | (rw [bg_l (by omega)]))) (.cons (tr_mun rfl (by first | rfl | (simp; done) | (simp; omega) | (rw [bg_l (by omega)]))) .nil)))))⟩, ⟨_, rfl, trc_flat pe_sc rfl⟩, ⟨_, rfl, trc_flat pe_sc rfl⟩, ⟨_, rfl, trc_flat pe_sc rfl⟩, ⟨_, rfl, trc_flat int_sc rfl⟩, ⟨_, rfl, trc_flat nce_sc (congrArg (flat nce) (by exact wcut_end hce))⟩, ⟨_, rfl, trc_flat int_sc rfl⟩, trivial⟩ ⟨tr_sl, tr_pt rfl, tr_mun rfl (by simp), tr_v, trivial⟩
                · skip
                  exfalso; omega
          · skip
            refine v_nil ?_
            refine q_n ?_
            refine w_f rfl ?_
            refine w_skip ?_
            refine q_n ?_
            refine w_seq ?_
            refine w_seq ?_
            refine w_draw [0, 1, 0, 4, 12, 28, 60, 124, 255, 511, 1023, 2047, 4095, 8191, 16383, 32767, 16383, 81919, 212991, 475135, 999423, 2047999, 4145151, 8388607, 16777215, 33554431] [⟨0, 0, []⟩, ⟨1, 0, []⟩, ⟨2, 0, []⟩, ⟨3, 0, []⟩, ⟨4, 0, []⟩, ⟨5, 0, []⟩, ⟨6, 0, []⟩, ⟨7, 0, []⟩, ⟨8, 0, []⟩, ⟨9, 0, []⟩, ⟨10, 0, []⟩, ⟨11, 0, []⟩, ⟨12, 0, []⟩, ⟨13, 0, []⟩, ⟨14, 0, []⟩, ⟨15, 0, []⟩, ⟨16, 0, []⟩, ⟨17, 0, []⟩, ⟨18, 0, []⟩, ⟨19, 0, []⟩, ⟨20, 0, []⟩, ⟨21, 0, []⟩, ⟨22, 0, []⟩, ⟨23, 0, []⟩, ⟨24, 0, []⟩, ⟨25, 0, []⟩] rfl rfl ?_
            refine d_q rfl rfl rfl rfl rfl ?_
            refine v_fa_pt (off' := 1) lay25 rfl rfl rfl ?_
            refine v_nil ?_
            refine d_q rfl rfl rfl rfl rfl ?_
            refine v_load_pt (.c _) lay2 rfl rfl rfl rfl ?_
            refine v_nil ?_
            refine d_q rfl rfl rfl rfl rfl ?_
            refine v_move rfl ?_
            refine v_nil ?_
            refine d_q rfl rfl rfl rfl rfl ?_
            refine v_nil_pt rfl ?_
            refine v_nil ?_
            refine d_q rfl rfl rfl rfl rfl ?_
            refine v_fa_pt (off' := 1) lay90 rfl rfl rfl ?_
            refine v_nil ?_
            refine d_q rfl rfl rfl rfl rfl ?_
            refine v_fa_pt (off' := 2) lay64 rfl rfl rfl ?_
            refine v_nil ?_
            refine d_q rfl rfl rfl rfl rfl ?_
            refine v_load_pt (.c _) lay61 rfl rfl rfl rfl ?_
            refine v_nil ?_
            refine d_q rfl rfl rfl rfl rfl ?_
            refine v_len_mu lay61 rfl ?_
            refine v_nil ?_
            refine d_q rfl rfl rfl rfl rfl ?_
            refine v_geq lay2 rfl rfl (fun h43 => ?_) (fun h43 => ?_)
            · skip
              refine v_nil ?_
              refine d_q rfl rfl rfl rfl rfl ?_
              refine v_move rfl ?_
              refine v_nil ?_
              refine d_off rfl rfl ?_
              refine d_off rfl rfl ?_
              refine d_off rfl rfl ?_
              refine d_off rfl rfl ?_
              refine d_off rfl rfl ?_
              refine d_off rfl rfl ?_
              refine d_off rfl rfl ?_
              refine d_off rfl rfl ?_
              refine d_off rfl rfl ?_
              refine d_off rfl rfl ?_
              refine d_off rfl rfl ?_
              refine d_off rfl rfl ?_
              refine d_off rfl rfl ?_
              refine d_off rfl rfl ?_
              refine d_off rfl rfl ?_
              refine d_q rfl rfl rfl rfl rfl ?_
              refine v_pick_t (v := .v (.bool true)) rfl rfl ?_
              refine v_nil ?_
              refine d_nil ?_
              refine q_n ?_
              refine w_t rfl ?_
              refine w_seq ?_
              refine w_reg rfl ?_
              refine v_assign (c := .v (.int .i64 2)) rfl ?_
              refine v_nil ?_
              refine q_n ?_
              refine w_ret (q_r ?_)
              refine r_r rfl ?_
              refine v_lit (flat int [_]) (H' := [_, _, _, _, _, _, _, _, _]) lay28 lay2 rfl rfl ⟨by decide, by decide⟩ rfl rfl ?_
              refine v_app_flat (H' := [_, _, _, _, _, _, _, _, _, _]) int_sc int_len lay28 lay2 rfl rfl (by first | rfl | (simp; done) | (simp; omega) | omega | (rw [bg_l (by omega)])) rfl rfl (by first | rfl | (simp; done)) rfl rfl (by unfold maxLen; simp only []; omega) rfl rfl ?_
              refine v_assign rfl ?_
              refine v_nil ?_
              refine q_bn ?_
              refine q_n ?_
              refine w_reg rfl ?_
              refine v_move rfl ?_
              refine v_add lay3 rfl rfl (i64r (by omega)) ?_
              refine v_assign rfl ?_
              refine v_nil ?_
              refine q_n ?_
              have hdo : doB p b ds[i] = (b, 2) := do_pbad h5 ha (by omega)
              refine ⟨_, _, _, ?_, ⟨i + 1, b, cs ++ [2], rfl, by omega, st_step hst hi1 hdo, ok_do hok hd hdo, by simp; omega, rfl, rfl⟩, by omega⟩
              exact turn [some 0, some 1, some 2, some 3, some 4, some 5, some 9] rfl rfl rfl ⟨⟨_, rfl, .cons tr_vw (.cons (tr_mun rfl (by first | rfl | (simp; done) | (simp; omega) | (rw [bg_l (by omega)]))) (.cons (tr_mun rfl (by first | rfl | (simp; done) | (simp; omega) | (rw [bg_l (by omega)]))) (.cons (tr_mun rfl (by first | rfl | (simp; done) | (simp; omega) | (rw [bg_l (by omega)]))) (.cons (tr_mun rfl (by first | rfl | (simp; done) | (simp; omega) | (rw [bg_l (by omega)]))) (.cons (tr_mun rfl (by first | rfl | (simp; done) | (simp; omega) | (rw [bg_l (by omega)]))) .nil)))))⟩, ⟨_, rfl, trc_flat pe_sc rfl⟩, ⟨_, rfl, trc_flat pe_sc rfl⟩, ⟨_, rfl, trc_flat pe_sc rfl⟩, ⟨_, rfl, trc_flat int_sc rfl⟩, ⟨_, rfl, trc_flat nce_sc rfl⟩, ⟨_, rfl, trc_flat int_sc rfl⟩, trivial⟩ ⟨tr_sl, tr_pt rfl, tr_mun rfl (by simp), tr_v, trivial⟩
            · skip
              have k1 : a < b.nw.length := by omega
              have k2 : a < b.ps.length := by omega
              have k3 : a < b.sv.length := by omega
              have hve := hok.ve _ (List.getElem_mem k1)
              refine v_nil ?_
              refine d_q rfl rfl rfl rfl rfl ?_
              refine v_move rfl ?_
              refine v_nil ?_
              refine d_q rfl rfl rfl rfl rfl ?_
              refine v_fa_pt (off' := 0) lay25 rfl rfl rfl ?_
              refine v_nil ?_
              refine d_q rfl rfl rfl rfl rfl ?_
              refine v_load_pt (.c _) lay2 rfl rfl rfl rfl ?_
              refine v_nil ?_
              refine d_q rfl rfl rfl rfl rfl ?_
              refine v_eql lay2 rfl rfl (fun h44 => ?_) (fun h44 => ?_)
              · skip
                refine v_nil ?_
                refine d_q rfl rfl rfl rfl rfl ?_
                refine v_move rfl ?_
                refine v_nil ?_
                refine d_q rfl rfl rfl rfl rfl ?_
                refine v_fa_pt (off' := 2) lay25 rfl rfl rfl ?_
                refine v_nil ?_
                refine d_q rfl rfl rfl rfl rfl ?_
                refine v_load_pt (.c _) lay2 rfl rfl rfl rfl ?_
                refine v_nil ?_
                refine d_q rfl rfl rfl rfl rfl ?_
                refine v_move rfl ?_
                refine v_nil ?_
                refine d_q rfl rfl rfl rfl rfl ?_
                refine v_nil_pt rfl ?_
                refine v_nil ?_
                refine d_q rfl rfl rfl rfl rfl ?_
                refine v_fa_pt (off' := 0) lay90 rfl rfl rfl ?_
                refine v_nil ?_
                refine d_q rfl rfl rfl rfl rfl ?_
                refine v_load_pt (.c _) lay76 rfl rfl rfl rfl ?_
                refine v_nil ?_
                refine d_q rfl rfl rfl rfl rfl ?_
                refine v_nil_vw rfl ?_
                refine v_nil ?_
                refine d_q rfl rfl rfl rfl rfl ?_
                refine v_fa_vw (off' := 0) lay33 rfl rfl rfl ?_
                refine v_nil ?_
                refine d_q rfl rfl rfl rfl rfl ?_
                refine v_load_vw (.c (.v _)) lay2 rfl rfl rfl ?_
                refine v_nil ?_
                refine d_q rfl rfl rfl rfl rfl ?_
                refine v_geq lay2 rfl rfl (fun h45 => ?_) (fun h45 => ?_)
                · skip
                  refine v_nil ?_
                  refine d_q rfl rfl rfl rfl rfl ?_
                  refine v_pick_t rfl rfl ?_
                  refine v_nil ?_
                  refine d_q rfl rfl rfl rfl rfl ?_
                  refine v_pick_f rfl rfl ?_
                  refine v_nil ?_
                  refine d_nil ?_
                  refine q_n ?_
                  refine w_t rfl ?_
                  refine w_seq ?_
                  refine w_reg rfl ?_
                  refine v_assign (c := .v (.int .i64 2)) rfl ?_
                  refine v_nil ?_
                  refine q_n ?_
                  refine w_ret (q_r ?_)
                  refine r_r rfl ?_
                  refine v_lit (flat int [_]) (H' := [_, _, _, _, _, _, _, _, _]) lay28 lay2 rfl rfl ⟨by decide, by decide⟩ rfl rfl ?_
                  refine v_app_flat (H' := [_, _, _, _, _, _, _, _, _, _]) int_sc int_len lay28 lay2 rfl rfl (by first | rfl | (simp; done) | (simp; omega) | omega | (rw [bg_l (by omega)])) rfl rfl (by first | rfl | (simp; done)) rfl rfl (by unfold maxLen; simp only []; omega) rfl rfl ?_
                  refine v_assign rfl ?_
                  refine v_nil ?_
                  refine q_bn ?_
                  refine q_n ?_
                  refine w_reg rfl ?_
                  refine v_move rfl ?_
                  refine v_add lay3 rfl rfl (i64r (by omega)) ?_
                  refine v_assign rfl ?_
                  refine v_nil ?_
                  refine q_n ?_
                  have hdo : doB p b ds[i] = (b, 2) := do_obad (by omega) (by omega)
                  refine ⟨_, _, _, ?_, ⟨i + 1, b, cs ++ [2], rfl, by omega, st_step hst hi1 hdo, ok_do hok hd hdo, by simp; omega, rfl, rfl⟩, by omega⟩
                  exact turn [some 0, some 1, some 2, some 3, some 4, some 5, some 9] rfl rfl rfl ⟨⟨_, rfl, .cons tr_vw (.cons (tr_mun rfl (by first | rfl | (simp; done) | (simp; omega) | (rw [bg_l (by omega)]))) (.cons (tr_mun rfl (by first | rfl | (simp; done) | (simp; omega) | (rw [bg_l (by omega)]))) (.cons (tr_mun rfl (by first | rfl | (simp; done) | (simp; omega) | (rw [bg_l (by omega)]))) (.cons (tr_mun rfl (by first | rfl | (simp; done) | (simp; omega) | (rw [bg_l (by omega)]))) (.cons (tr_mun rfl (by first | rfl | (simp; done) | (simp; omega) | (rw [bg_l (by omega)]))) .nil)))))⟩, ⟨_, rfl, trc_flat pe_sc rfl⟩, ⟨_, rfl, trc_flat pe_sc rfl⟩, ⟨_, rfl, trc_flat pe_sc rfl⟩, ⟨_, rfl, trc_flat int_sc rfl⟩, ⟨_, rfl, trc_flat nce_sc rfl⟩, ⟨_, rfl, trc_flat int_sc rfl⟩, trivial⟩ ⟨tr_sl, tr_pt rfl, tr_mun rfl (by simp), tr_v, trivial⟩
                · skip
                  refine v_nil ?_
                  refine d_q rfl rfl rfl rfl rfl ?_
                  refine v_pick_t rfl rfl ?_
                  refine v_nil ?_
                  refine d_q rfl rfl rfl rfl rfl ?_
                  refine v_pick_f rfl rfl ?_
                  refine v_nil ?_
                  refine d_nil ?_
                  refine q_n ?_
                  refine w_f rfl ?_
                  refine w_skip ?_
                  refine q_n ?_
                  refine w_seq ?_
                  refine w_seq ?_
                  refine w_reg rfl ?_
                  refine v_fa_pt (off' := 0) lay25 rfl rfl rfl ?_
                  refine v_load_pt (.c _) lay2 rfl rfl rfl rfl ?_
                  refine v_nil ?_
                  refine q_n ?_
                  refine w_block ?_
                  refine w_seq ?_
                  refine w_reg rfl ?_
                  refine v_eql lay2 rfl rfl (fun h46 => ?_) (fun h46 => ?_)
                  · skip
                    refine v_assign rfl ?_
                    refine v_nil ?_
                    refine q_n ?_
                    refine w_t rfl ?_
                    refine w_draw [0, 1, 3, 7, 15, 0, 32, 0, 128, 0, 512, 1536, 3584, 7680, 0, 16384, 65024, 130560, 261632, 523776, 1048448, 2097151, 4194303] [⟨0, 0, []⟩, ⟨1, 0, []⟩, ⟨2, 0, []⟩, ⟨3, 0, []⟩, ⟨4, 0, []⟩, ⟨5, 0, []⟩, ⟨6, 0, []⟩, ⟨7, 0, []⟩, ⟨8, 0, []⟩, ⟨9, 0, []⟩, ⟨10, 0, []⟩, ⟨11, 0, []⟩, ⟨12, 0, []⟩, ⟨13, 0, []⟩, ⟨14, 0, []⟩, ⟨15, 0, []⟩, ⟨16, 0, []⟩, ⟨17, 0, []⟩, ⟨18, 0, []⟩, ⟨19, 0, []⟩, ⟨20, 0, []⟩, ⟨21, 0, []⟩, ⟨22, 1, []⟩] rfl rfl ?_
                    refine d_q rfl rfl rfl rfl rfl ?_
                    refine v_move rfl ?_
                    refine v_nil ?_
                    refine d_q rfl rfl rfl rfl rfl ?_
                    refine v_nil_pt rfl ?_
                    refine v_nil ?_
                    refine d_q rfl rfl rfl rfl rfl ?_
                    refine v_fa_pt (off' := 1) lay90 rfl rfl rfl ?_
                    refine v_nil ?_
                    refine d_q rfl rfl rfl rfl rfl ?_
                    refine v_fa_pt (off' := 1) lay64 rfl rfl rfl ?_
                    refine v_nil ?_
                    refine d_q rfl rfl rfl rfl rfl ?_
                    refine v_load_pt (.c _) lay61 rfl rfl rfl rfl ?_
                    refine v_nil ?_
                    refine d_q rfl rfl rfl rfl rfl ?_
                    refine v_fa_pt (off' := 1) lay25 rfl rfl rfl ?_
                    refine v_nil ?_
                    refine d_q rfl rfl rfl rfl rfl ?_
                    refine v_load_pt (.c _) lay2 rfl rfl rfl rfl ?_
                    refine v_nil ?_
                    refine d_q rfl rfl rfl rfl rfl ?_
                    refine v_fa_pt (off' := 2) lay25 rfl rfl rfl ?_
                    refine v_nil ?_
                    refine d_q rfl rfl rfl rfl rfl ?_
                    refine v_load_pt (.c _) lay2 rfl rfl rfl rfl ?_
                    refine v_nil ?_
                    refine d_q rfl rfl rfl rfl rfl ?_
                    refine v_move rfl ?_
                    refine v_nil ?_
                    refine d_q rfl rfl rfl rfl rfl ?_
                    refine v_nil_pt rfl ?_
                    refine v_nil ?_
                    refine d_q rfl rfl rfl rfl rfl ?_
                    refine v_fa_pt (off' := 1) lay90 rfl rfl rfl ?_
                    refine v_nil ?_
                    refine d_q rfl rfl rfl rfl rfl ?_
                    refine v_fa_pt (off' := 1) lay64 rfl rfl rfl ?_
                    refine v_nil ?_
                    refine d_q rfl rfl rfl rfl rfl ?_
                    refine v_load_pt (.c _) lay61 rfl rfl rfl rfl ?_
                    refine v_nil ?_
                    refine d_q rfl rfl rfl rfl rfl ?_
                    refine v_fa_pt (off' := 1) lay25 rfl rfl rfl ?_
                    refine v_nil ?_
                    refine d_q rfl rfl rfl rfl rfl ?_
                    refine v_load_pt (.c _) lay2 rfl rfl rfl rfl ?_
                    refine v_nil ?_
                    refine d_q rfl rfl rfl rfl rfl ?_
                    refine v_idx_mu_e (k := 2) (off := 0) (a) lay61 lay46 rfl rfl rfl (ha) (by omega) ?_
                    refine v_nil ?_
                    refine d_q rfl rfl rfl rfl rfl ?_
                    refine v_fa_pt (off' := _) lay46 rfl rfl rfl ?_
                    refine v_nil ?_
                    refine d_q rfl rfl rfl rfl rfl ?_
                    refine v_load_flat a 1 (.c (.v _)) pe_len lay2 rfl rfl (by omega) (by first | omega | (simp; omega)) rfl rfl ?_
                    refine v_nil ?_
                    refine d_q rfl rfl rfl rfl rfl ?_
                    refine v_add lay2 rfl rfl (i64r (by omega)) ?_
                    refine v_nil ?_
                    refine d_q rfl rfl rfl rfl rfl ?_
                    refine v_build [(0, 1), (1, 1)] [.v _, .v _] lay46 rfl rfl ?_
                    refine v_nil ?_
                    refine d_q rfl rfl rfl rfl rfl ?_
                    refine v_idx_mu_e (k := 2) (off := 0) (a) lay61 lay46 rfl rfl rfl (ha) (by omega) ?_
                    refine v_nil ?_
                    refine d_e rfl rfl rfl ?_
                    refine v_store_flat (H' := [_, _, _, _, _, _, _, _]) a 0 ((ds[i].2.2, b.nw[a].2 + 1)) pe_len lay46 rfl rfl rfl (by omega) (by first | omega | (simp; omega)) rfl rfl (rfl) rfl ?_
                    refine v_nil ⟨again_nil, ?_⟩
                    refine d_nil ?_
                    refine q_bn ?_
                    refine q_n ?_
                    refine w_seq ?_
                    refine w_reg rfl ?_
                    refine v_assign (c := .v (.int .i64 0)) rfl ?_
                    refine v_nil ?_
                    refine q_n ?_
                    refine w_ret ?_
                    refine r_r rfl ?_
                    refine v_lit (flat int [_]) (H' := [_, _, _, _, _, _, _, _, _]) lay28 lay2 rfl rfl ⟨by decide, by decide⟩ rfl rfl ?_
                    refine v_app_flat (H' := [_, _, _, _, _, _, _, _, _, _]) int_sc int_len lay28 lay2 rfl rfl (by first | rfl | (simp; done) | (simp; omega) | omega | (rw [bg_l (by omega)])) rfl rfl (by first | rfl | (simp; done)) rfl rfl (by unfold maxLen; simp only []; omega) rfl rfl ?_
                    refine v_assign rfl ?_
                    refine v_nil ?_
                    refine q_bn ?_
                    refine q_n ?_
                    refine w_reg rfl ?_
                    refine v_move rfl ?_
                    refine v_add lay3 rfl rfl (i64r (by omega)) ?_
                    refine v_assign rfl ?_
                    refine v_nil ?_
                    refine q_n ?_
                    have hdo : doB p b ds[i] = ({ b with nw := b.nw.set a (ds[i].2.2, b.nw[a].2 + 1) }, 0) := do_order (by omega) ha k2 k1 (by omega)
                    refine ⟨_, _, _, ?_, ⟨i + 1, { b with nw := b.nw.set a (ds[i].2.2, b.nw[a].2 + 1) }, cs ++ [0], rfl, by omega, st_step hst hi1 hdo, ok_do hok hd hdo, by simp; omega, rfl, rfl⟩, by omega⟩
                    exact turn [some 0, some 1, some 2, some 3, some 4, some 5, some 9] rfl rfl rfl ⟨⟨_, rfl, .cons tr_vw (.cons (tr_mun rfl (by first | rfl | (simp; done) | (simp; omega) | (rw [bg_l (by omega)]))) (.cons (tr_mun rfl (by first | rfl | (simp; done) | (simp; omega) | (rw [bg_l (by omega)]))) (.cons (tr_mun rfl (by first | rfl | (simp; done) | (simp; omega) | (rw [bg_l (by omega)]))) (.cons (tr_mun rfl (by first | rfl | (simp; done) | (simp; omega) | (rw [bg_l (by omega)]))) (.cons (tr_mun rfl (by first | rfl | (simp; done) | (simp; omega) | (rw [bg_l (by omega)]))) .nil)))))⟩, ⟨_, rfl, trc_flat pe_sc rfl⟩, ⟨_, rfl, trc_flat pe_sc rfl⟩, ⟨_, rfl, trc_flat pe_sc rfl⟩, ⟨_, rfl, trc_flat int_sc rfl⟩, ⟨_, rfl, trc_flat nce_sc rfl⟩, ⟨_, rfl, trc_flat int_sc rfl⟩, trivial⟩ ⟨tr_sl, tr_pt rfl, tr_mun rfl (by simp), tr_v, trivial⟩
                  · skip
                    exfalso; omega
              · skip
                refine v_nil ?_
                refine d_q rfl rfl rfl rfl rfl ?_
                refine v_move rfl ?_
                refine v_nil ?_
                refine d_off rfl rfl ?_
                refine d_off rfl rfl ?_
                refine d_off rfl rfl ?_
                refine d_off rfl rfl ?_
                refine d_off rfl rfl ?_
                refine d_off rfl rfl ?_
                refine d_off rfl rfl ?_
                refine d_off rfl rfl ?_
                refine d_off rfl rfl ?_
                refine d_off rfl rfl ?_
                refine d_q rfl rfl rfl rfl rfl ?_
                refine v_pick_f (v := .v (.bool false)) rfl rfl ?_
                refine v_nil ?_
                refine d_q rfl rfl rfl rfl rfl ?_
                refine v_pick_f rfl rfl ?_
                refine v_nil ?_
                refine d_nil ?_
                refine q_n ?_
                refine w_f rfl ?_
                refine w_skip ?_
                refine q_n ?_
                refine w_seq ?_
                refine w_seq ?_
                refine w_reg rfl ?_
                refine v_fa_pt (off' := 0) lay25 rfl rfl rfl ?_
                refine v_load_pt (.c _) lay2 rfl rfl rfl rfl ?_
                refine v_nil ?_
                refine q_n ?_
                refine w_block ?_
                refine w_seq ?_
                refine w_reg rfl ?_
                refine v_eql lay2 rfl rfl (fun h49 => ?_) (fun h49 => ?_)
                · skip
                  exfalso; omega
                · skip
                  refine v_assign rfl ?_
                  refine v_nil ?_
                  refine q_n ?_
                  refine w_f rfl ?_
                  refine w_seq ?_
                  refine w_reg rfl ?_
                  refine v_eql lay2 rfl rfl (fun h50 => ?_) (fun h50 => ?_)
                  · skip
                    refine v_assign rfl ?_
                    refine v_nil ?_
                    refine q_n ?_
                    refine w_t rfl ?_
                    refine w_seq ?_
                    refine w_seq ?_
                    refine w_reg rfl ?_
                    refine v_move rfl ?_
                    refine v_nil_pt rfl ?_
                    refine v_fa_pt (off' := 1) lay90 rfl rfl rfl ?_
                    refine v_fa_pt (off' := 5) lay64 rfl rfl rfl ?_
                    refine v_load_pt (.c _) lay62 rfl rfl rfl rfl ?_
                    refine v_len_mu lay62 rfl ?_
                    refine v_geq lay3 rfl rfl (fun h51 => ?_) (fun h51 => ?_)
                    · skip
                      refine v_nil ?_
                      refine q_n ?_
                      refine w_t rfl ?_
                      refine w_seq ?_
                      refine w_reg rfl ?_
                      refine v_assign (c := .v (.int .i64 3)) rfl ?_
                      refine v_nil ?_
                      refine q_n ?_
                      refine w_ret (q_r (q_br (q_r ?_)))
                      refine r_r rfl ?_
                      refine v_lit (flat int [_]) (H' := [_, _, _, _, _, _, _, _, _]) lay28 lay2 rfl rfl ⟨by decide, by decide⟩ rfl rfl ?_
                      refine v_app_flat (H' := [_, _, _, _, _, _, _, _, _, _]) int_sc int_len lay28 lay2 rfl rfl (by first | rfl | (simp; done) | (simp; omega) | omega | (rw [bg_l (by omega)])) rfl rfl (by first | rfl | (simp; done)) rfl rfl (by unfold maxLen; simp only []; omega) rfl rfl ?_
                      refine v_assign rfl ?_
                      refine v_nil ?_
                      refine q_bn ?_
                      refine q_n ?_
                      refine w_reg rfl ?_
                      refine v_move rfl ?_
                      refine v_add lay3 rfl rfl (i64r (by omega)) ?_
                      refine v_assign rfl ?_
                      refine v_nil ?_
                      refine q_n ?_
                      have hdo : doB p b ds[i] = (b, 3) := do_sfull (by omega) ha k2 (by omega)
                      refine ⟨_, _, _, ?_, ⟨i + 1, b, cs ++ [3], rfl, by omega, st_step hst hi1 hdo, ok_do hok hd hdo, by simp; omega, rfl, rfl⟩, by omega⟩
                      exact turn [some 0, some 1, some 2, some 3, some 4, some 5, some 9] rfl rfl rfl ⟨⟨_, rfl, .cons tr_vw (.cons (tr_mun rfl (by first | rfl | (simp; done) | (simp; omega) | (rw [bg_l (by omega)]))) (.cons (tr_mun rfl (by first | rfl | (simp; done) | (simp; omega) | (rw [bg_l (by omega)]))) (.cons (tr_mun rfl (by first | rfl | (simp; done) | (simp; omega) | (rw [bg_l (by omega)]))) (.cons (tr_mun rfl (by first | rfl | (simp; done) | (simp; omega) | (rw [bg_l (by omega)]))) (.cons (tr_mun rfl (by first | rfl | (simp; done) | (simp; omega) | (rw [bg_l (by omega)]))) .nil)))))⟩, ⟨_, rfl, trc_flat pe_sc rfl⟩, ⟨_, rfl, trc_flat pe_sc rfl⟩, ⟨_, rfl, trc_flat pe_sc rfl⟩, ⟨_, rfl, trc_flat int_sc rfl⟩, ⟨_, rfl, trc_flat nce_sc rfl⟩, ⟨_, rfl, trc_flat int_sc rfl⟩, trivial⟩ ⟨tr_sl, tr_pt rfl, tr_mun rfl (by simp), tr_v, trivial⟩
                    · skip
                      refine v_nil ?_
                      refine q_n ?_
                      refine w_f rfl ?_
                      refine w_skip ?_
                      refine q_n ?_
                      refine w_seq ?_
                      refine w_draw [0, 1, 3, 7, 15, 0, 32, 127, 255, 0, 1023] [⟨0, 0, []⟩, ⟨1, 0, []⟩, ⟨2, 0, []⟩, ⟨3, 0, []⟩, ⟨4, 0, []⟩, ⟨5, 0, []⟩, ⟨6, 0, []⟩, ⟨7, 0, []⟩, ⟨8, 0, []⟩, ⟨9, 1, [4, 6, 8]⟩, ⟨10, 1, []⟩] rfl rfl ?_
                      refine d_q rfl rfl rfl rfl rfl ?_
                      refine v_move rfl ?_
                      refine v_nil ?_
                      refine d_q rfl rfl rfl rfl rfl ?_
                      refine v_nil_pt rfl ?_
                      refine v_nil ?_
                      refine d_q rfl rfl rfl rfl rfl ?_
                      refine v_fa_pt (off' := 1) lay90 rfl rfl rfl ?_
                      refine v_nil ?_
                      refine d_q rfl rfl rfl rfl rfl ?_
                      refine v_fa_pt (off' := 1) lay64 rfl rfl rfl ?_
                      refine v_nil ?_
                      refine d_q rfl rfl rfl rfl rfl ?_
                      refine v_load_pt (.c _) lay61 rfl rfl rfl rfl ?_
                      refine v_nil ?_
                      refine d_q rfl rfl rfl rfl rfl ?_
                      refine v_fa_pt (off' := 1) lay25 rfl rfl rfl ?_
                      refine v_nil ?_
                      refine d_q rfl rfl rfl rfl rfl ?_
                      refine v_load_pt (.c _) lay2 rfl rfl rfl rfl ?_
                      refine v_nil ?_
                      refine d_q rfl rfl rfl rfl rfl ?_
                      refine v_idx_mu_e (k := 2) (off := 0) (a) lay61 lay46 rfl rfl rfl (ha) (by omega) ?_
                      refine v_nil ?_
                      refine d_q rfl rfl rfl rfl rfl ?_
                      refine v_load_flat a 0 (.agg [.v _, .v _]) pe_len lay46 rfl rfl (by omega) (by first | omega | (simp; omega)) rfl rfl ?_
                      refine v_nil ?_
                      refine d_e rfl rfl rfl ?_
                      refine v_alloc (m := 8) (H' := [_, _, _, _, _, _, _, _, ⟨[.v _, .v _], 46, true⟩]) lay46 rfl rfl ?_
                      refine v_nil ⟨⟨ag_load_flat a 0 (.agg [.v _, .v _]) pe_len lay46 rfl rfl (by omega) (by first | omega | (simp; omega)) rfl rfl, ⟨ag_load_pt (.c _) lay2 rfl rfl rfl rfl, ⟨ag_load_pt (.c _) lay61 rfl rfl rfl rfl, trivial⟩⟩⟩, ?_⟩
                      refine d_e rfl rfl rfl ?_
                      refine v_store (H' := [_, _, _, _, _, _, _, _, ⟨[_, _], 46, true⟩]) lay46 rfl rfl rfl rfl rfl rfl ?_
                      refine v_nil ⟨again_nil, ?_⟩
                      refine d_nil ?_
                      refine q_n ?_
                      refine w_draw [0, 0, 2, 6, 14, 30, 0, 64, 0, 256, 0, 1024, 4032, 8128, 16382, 32767, 65535, 131071, 262143] [⟨0, 0, []⟩, ⟨1, 0, []⟩, ⟨2, 0, []⟩, ⟨3, 0, []⟩, ⟨4, 0, []⟩, ⟨5, 0, []⟩, ⟨6, 0, []⟩, ⟨7, 0, []⟩, ⟨8, 0, []⟩, ⟨9, 0, []⟩, ⟨10, 0, []⟩, ⟨11, 0, []⟩, ⟨12, 0, []⟩, ⟨13, 2, []⟩, ⟨14, 1, []⟩, ⟨15, 0, []⟩, ⟨16, 0, []⟩, ⟨17, 0, []⟩, ⟨18, 1, []⟩] rfl rfl ?_
                      refine d_q rfl rfl rfl rfl rfl ?_
                      refine v_move rfl ?_
                      refine v_nil ?_
                      refine d_q rfl rfl rfl rfl rfl ?_
                      refine v_move rfl ?_
                      refine v_nil ?_
                      refine d_q rfl rfl rfl rfl rfl ?_
                      refine v_nil_pt rfl ?_
                      refine v_nil ?_
                      refine d_q rfl rfl rfl rfl rfl ?_
                      refine v_fa_pt (off' := 1) lay90 rfl rfl rfl ?_
                      refine v_nil ?_
                      refine d_q rfl rfl rfl rfl rfl ?_
                      refine v_fa_pt (off' := 5) lay64 rfl rfl rfl ?_
                      refine v_nil ?_
                      refine d_q rfl rfl rfl rfl rfl ?_
                      refine v_load_pt (.c _) lay62 rfl rfl rfl rfl ?_
                      refine v_nil ?_
                      refine d_q rfl rfl rfl rfl rfl ?_
                      refine v_fa_pt (off' := 1) lay25 rfl rfl rfl ?_
                      refine v_nil ?_
                      refine d_q rfl rfl rfl rfl rfl ?_
                      refine v_load_pt (.c _) lay2 rfl rfl rfl rfl ?_
                      refine v_nil ?_
                      refine d_q rfl rfl rfl rfl rfl ?_
                      refine v_fa_pt (off' := 0) lay46 rfl rfl rfl ?_
                      refine v_nil ?_
                      refine d_q rfl rfl rfl rfl rfl ?_
                      refine v_load_pt (.c _) lay2 rfl rfl rfl rfl ?_
                      refine v_nil ?_
                      refine d_q rfl rfl rfl rfl rfl ?_
                      refine v_fa_pt (off' := 1) lay46 rfl rfl rfl ?_
                      refine v_nil ?_
                      refine d_q rfl rfl rfl rfl rfl ?_
                      refine v_load_pt (.c _) lay2 rfl rfl rfl rfl ?_
                      refine v_nil ?_
                      refine d_q rfl rfl rfl rfl rfl ?_
                      refine v_build [(0, 1), (1, 1), (2, 1), (3, 1)] [.v _, .v _, .v _, .v _] lay101 rfl rfl ?_
                      refine v_nil ?_
                      refine d_z (.c (.sl true 1 4 (flat nce [(false, ds[i].2.1, b.nw[a].1, b.nw[a].2)]))) rfl rfl rfl ?_
                      refine d_e rfl rfl rfl ?_
                      refine v_app_flat_sl (H' := [_, _, _, _, _, _, _, _, _, _]) nce_sc nce_len lay62 lay101 rfl rfl (by first | rfl | (simp; done) | (simp; omega) | omega | (rw [bg_l (by omega)])) rfl rfl rfl (by unfold maxLen; simp only []; omega) rfl rfl ?_
                      refine v_nil ⟨again_nil, ?_⟩
                      refine d_q rfl rfl rfl rfl rfl ?_
                      refine v_nil_pt rfl ?_
                      refine v_nil ?_
                      refine d_q rfl rfl rfl rfl rfl ?_
                      refine v_fa_pt (off' := 1) lay90 rfl rfl rfl ?_
                      refine v_nil ?_
                      refine d_q rfl rfl rfl rfl rfl ?_
                      refine v_fa_pt (off' := 5) lay64 rfl rfl rfl ?_
                      refine v_nil ?_
                      refine d_e rfl rfl rfl ?_
                      refine v_store (H' := [⟨[_, _, _, _, _, _], 90, true⟩, _, _, _, _, _, _, _, _, _]) lay62 rfl rfl rfl rfl rfl rfl ?_
                      refine v_nil ⟨again_nil, ?_⟩
                      refine d_nil ?_
                      refine q_bn ?_
                      refine q_n ?_
                      refine w_seq ?_
                      refine w_reg rfl ?_
                      refine v_assign (c := .v (.int .i64 0)) rfl ?_
                      refine v_nil ?_
                      refine q_n ?_
                      refine w_ret ?_
                      refine r_r rfl ?_
                      refine v_lit (flat int [_]) (H' := [_, _, _, _, _, _, _, _, _, _, _]) lay28 lay2 rfl rfl ⟨by decide, by decide⟩ rfl rfl ?_
                      refine v_app_flat (H' := [_, _, _, _, _, _, _, _, _, _, _, _]) int_sc int_len lay28 lay2 rfl rfl (by first | rfl | (simp; done) | (simp; omega) | omega | (rw [bg_l (by omega)])) rfl rfl (by first | rfl | (simp; done)) rfl rfl (by unfold maxLen; simp only []; omega) rfl rfl ?_
                      refine v_assign rfl ?_
                      refine v_nil ?_
                      refine q_bn ?_
                      refine q_n ?_
                      refine w_reg rfl ?_
                      refine v_move rfl ?_
                      refine v_add lay3 rfl rfl (i64r (by omega)) ?_
                      refine v_assign rfl ?_
                      refine v_nil ?_
                      refine q_n ?_
                      have hdo : doB p b ds[i] = ({ b with wr := b.wr ++ [(false, ds[i].2.1, b.nw[a].1, b.nw[a].2)] }, 0) := do_send (by omega) ha k2 k1 (by omega)
                      refine ⟨_, _, _, ?_, ⟨i + 1, { b with wr := b.wr ++ [(false, ds[i].2.1, b.nw[a].1, b.nw[a].2)] }, cs ++ [0], rfl, by omega, st_step hst hi1 hdo, ok_do hok hd hdo, by simp; omega, rfl, rfl⟩, by omega⟩
                      exact turn [some 0, some 1, some 2, some 3, some 4, some 9, some 11] rfl rfl rfl ⟨⟨_, rfl, .cons tr_vw (.cons (tr_mun rfl (by first | rfl | (simp; done) | (simp; omega) | (rw [bg_l (by omega)]))) (.cons (tr_mun rfl (by first | rfl | (simp; done) | (simp; omega) | (rw [bg_l (by omega)]))) (.cons (tr_mun rfl (by first | rfl | (simp; done) | (simp; omega) | (rw [bg_l (by omega)]))) (.cons (tr_mun rfl (by first | rfl | (simp; done) | (simp; omega) | (rw [bg_l (by omega)]))) (.cons (tr_mun rfl (by first | rfl | (simp; done) | (simp; omega) | (rw [bg_l (by omega)]))) .nil)))))⟩, ⟨_, rfl, trc_flat pe_sc rfl⟩, ⟨_, rfl, trc_flat pe_sc rfl⟩, ⟨_, rfl, trc_flat pe_sc rfl⟩, ⟨_, rfl, trc_flat int_sc rfl⟩, ⟨_, rfl, trc_flat nce_sc rfl⟩, ⟨_, rfl, trc_flat int_sc rfl⟩, trivial⟩ ⟨tr_sl, tr_pt rfl, tr_mun rfl (by simp), tr_v, trivial⟩
                  · skip
                    refine v_assign rfl ?_
                    refine v_nil ?_
                    refine q_n ?_
                    refine w_f rfl ?_
                    refine w_seq ?_
                    refine w_reg rfl ?_
                    refine v_eql lay2 rfl rfl (fun h53 => ?_) (fun h53 => ?_)
                    · skip
                      refine v_assign rfl ?_
                      refine v_nil ?_
                      refine q_n ?_
                      refine w_t rfl ?_
                      refine w_draw [0, 1, 3, 7, 15, 0, 32, 0, 128, 384, 896, 1920, 0, 4096, 16256, 32640, 65535, 131071] [⟨0, 0, []⟩, ⟨1, 0, []⟩, ⟨2, 0, []⟩, ⟨3, 0, []⟩, ⟨4, 0, []⟩, ⟨5, 0, []⟩, ⟨6, 0, []⟩, ⟨7, 0, []⟩, ⟨8, 0, []⟩, ⟨9, 0, []⟩, ⟨10, 0, []⟩, ⟨11, 0, []⟩, ⟨12, 0, []⟩, ⟨13, 0, []⟩, ⟨14, 0, []⟩, ⟨15, 0, []⟩, ⟨16, 0, []⟩, ⟨17, 1, []⟩] rfl rfl ?_
                      refine d_q rfl rfl rfl rfl rfl ?_
                      refine v_move rfl ?_
                      refine v_nil ?_
                      refine d_q rfl rfl rfl rfl rfl ?_
                      refine v_nil_pt rfl ?_
                      refine v_nil ?_
                      refine d_q rfl rfl rfl rfl rfl ?_
                      refine v_fa_pt (off' := 1) lay90 rfl rfl rfl ?_
                      refine v_nil ?_
                      refine d_q rfl rfl rfl rfl rfl ?_
                      refine v_fa_pt (off' := 3) lay64 rfl rfl rfl ?_
                      refine v_nil ?_
                      refine d_q rfl rfl rfl rfl rfl ?_
                      refine v_load_pt (.c _) lay61 rfl rfl rfl rfl ?_
                      refine v_nil ?_
                      refine d_q rfl rfl rfl rfl rfl ?_
                      refine v_fa_pt (off' := 1) lay25 rfl rfl rfl ?_
                      refine v_nil ?_
                      refine d_q rfl rfl rfl rfl rfl ?_
                      refine v_load_pt (.c _) lay2 rfl rfl rfl rfl ?_
                      refine v_nil ?_
                      refine d_q rfl rfl rfl rfl rfl ?_
                      refine v_move rfl ?_
                      refine v_nil ?_
                      refine d_q rfl rfl rfl rfl rfl ?_
                      refine v_nil_pt rfl ?_
                      refine v_nil ?_
                      refine d_q rfl rfl rfl rfl rfl ?_
                      refine v_fa_pt (off' := 1) lay90 rfl rfl rfl ?_
                      refine v_nil ?_
                      refine d_q rfl rfl rfl rfl rfl ?_
                      refine v_fa_pt (off' := 2) lay64 rfl rfl rfl ?_
                      refine v_nil ?_
                      refine d_q rfl rfl rfl rfl rfl ?_
                      refine v_load_pt (.c _) lay61 rfl rfl rfl rfl ?_
                      refine v_nil ?_
                      refine d_q rfl rfl rfl rfl rfl ?_
                      refine v_fa_pt (off' := 1) lay25 rfl rfl rfl ?_
                      refine v_nil ?_
                      refine d_q rfl rfl rfl rfl rfl ?_
                      refine v_load_pt (.c _) lay2 rfl rfl rfl rfl ?_
                      refine v_nil ?_
                      refine d_q rfl rfl rfl rfl rfl ?_
                      refine v_idx_mu_e (k := 2) (off := 0) (a) lay61 lay46 rfl rfl rfl (ha) (by omega) ?_
                      refine v_nil ?_
                      refine d_q rfl rfl rfl rfl rfl ?_
                      refine v_load_flat a 0 (.agg [.v _, .v _]) pe_len lay46 rfl rfl (by omega) (by first | omega | (simp; omega)) rfl rfl ?_
                      refine v_nil ?_
                      refine d_q rfl rfl rfl rfl rfl ?_
                      refine v_idx_mu_e (k := 2) (off := 0) (a) lay61 lay46 rfl rfl rfl (ha) (by omega) ?_
                      refine v_nil ?_
                      refine d_e rfl rfl rfl ?_
                      refine v_store_flat (H' := [_, _, _, _, _, _, _, _]) a 0 (b.ps[a]) pe_len lay46 rfl rfl rfl (by omega) (by first | omega | (simp; omega)) rfl rfl (rfl) rfl ?_
                      refine v_nil ⟨again_nil, ?_⟩
                      refine d_nil ?_
                      refine q_bn ?_
                      refine q_n ?_
                      refine w_seq ?_
                      refine w_reg rfl ?_
                      refine v_assign (c := .v (.int .i64 0)) rfl ?_
                      refine v_nil ?_
                      refine q_n ?_
                      refine w_ret ?_
                      refine r_r rfl ?_
                      refine v_lit (flat int [_]) (H' := [_, _, _, _, _, _, _, _, _]) lay28 lay2 rfl rfl ⟨by decide, by decide⟩ rfl rfl ?_
                      refine v_app_flat (H' := [_, _, _, _, _, _, _, _, _, _]) int_sc int_len lay28 lay2 rfl rfl (by first | rfl | (simp; done) | (simp; omega) | omega | (rw [bg_l (by omega)])) rfl rfl (by first | rfl | (simp; done)) rfl rfl (by unfold maxLen; simp only []; omega) rfl rfl ?_
                      refine v_assign rfl ?_
                      refine v_nil ?_
                      refine q_bn ?_
                      refine q_n ?_
                      refine w_reg rfl ?_
                      refine v_move rfl ?_
                      refine v_add lay3 rfl rfl (i64r (by omega)) ?_
                      refine v_assign rfl ?_
                      refine v_nil ?_
                      refine q_n ?_
                      have hdo : doB p b ds[i] = ({ b with sv := b.sv.set a b.ps[a] }, 0) := do_save (by omega) ha k2
                      refine ⟨_, _, _, ?_, ⟨i + 1, { b with sv := b.sv.set a b.ps[a] }, cs ++ [0], rfl, by omega, st_step hst hi1 hdo, ok_do hok hd hdo, by simp; omega, rfl, rfl⟩, by omega⟩
                      exact turn [some 0, some 1, some 2, some 3, some 4, some 5, some 9] rfl rfl rfl ⟨⟨_, rfl, .cons tr_vw (.cons (tr_mun rfl (by first | rfl | (simp; done) | (simp; omega) | (rw [bg_l (by omega)]))) (.cons (tr_mun rfl (by first | rfl | (simp; done) | (simp; omega) | (rw [bg_l (by omega)]))) (.cons (tr_mun rfl (by first | rfl | (simp; done) | (simp; omega) | (rw [bg_l (by omega)]))) (.cons (tr_mun rfl (by first | rfl | (simp; done) | (simp; omega) | (rw [bg_l (by omega)]))) (.cons (tr_mun rfl (by first | rfl | (simp; done) | (simp; omega) | (rw [bg_l (by omega)]))) .nil)))))⟩, ⟨_, rfl, trc_flat pe_sc rfl⟩, ⟨_, rfl, trc_flat pe_sc rfl⟩, ⟨_, rfl, trc_flat pe_sc rfl⟩, ⟨_, rfl, trc_flat int_sc rfl⟩, ⟨_, rfl, trc_flat nce_sc rfl⟩, ⟨_, rfl, trc_flat int_sc rfl⟩, trivial⟩ ⟨tr_sl, tr_pt rfl, tr_mun rfl (by simp), tr_v, trivial⟩
                    · skip
                      refine v_assign rfl ?_
                      refine v_nil ?_
                      refine q_n ?_
                      refine w_f rfl ?_
                      refine w_draw [0, 1, 3, 7, 15, 0, 32, 0, 128, 384, 896, 1920, 0, 4096, 16256, 32640, 65535, 131071] [⟨0, 0, []⟩, ⟨1, 0, []⟩, ⟨2, 0, []⟩, ⟨3, 0, []⟩, ⟨4, 0, []⟩, ⟨5, 0, []⟩, ⟨6, 0, []⟩, ⟨7, 0, []⟩, ⟨8, 0, []⟩, ⟨9, 0, []⟩, ⟨10, 0, []⟩, ⟨11, 0, []⟩, ⟨12, 0, []⟩, ⟨13, 0, []⟩, ⟨14, 0, []⟩, ⟨15, 0, []⟩, ⟨16, 0, []⟩, ⟨17, 1, []⟩] rfl rfl ?_
                      refine d_q rfl rfl rfl rfl rfl ?_
                      refine v_move rfl ?_
                      refine v_nil ?_
                      refine d_q rfl rfl rfl rfl rfl ?_
                      refine v_nil_pt rfl ?_
                      refine v_nil ?_
                      refine d_q rfl rfl rfl rfl rfl ?_
                      refine v_fa_pt (off' := 1) lay90 rfl rfl rfl ?_
                      refine v_nil ?_
                      refine d_q rfl rfl rfl rfl rfl ?_
                      refine v_fa_pt (off' := 2) lay64 rfl rfl rfl ?_
                      refine v_nil ?_
                      refine d_q rfl rfl rfl rfl rfl ?_
                      refine v_load_pt (.c _) lay61 rfl rfl rfl rfl ?_
                      refine v_nil ?_
                      refine d_q rfl rfl rfl rfl rfl ?_
                      refine v_fa_pt (off' := 1) lay25 rfl rfl rfl ?_
                      refine v_nil ?_
                      refine d_q rfl rfl rfl rfl rfl ?_
                      refine v_load_pt (.c _) lay2 rfl rfl rfl rfl ?_
                      refine v_nil ?_
                      refine d_q rfl rfl rfl rfl rfl ?_
                      refine v_move rfl ?_
                      refine v_nil ?_
                      refine d_q rfl rfl rfl rfl rfl ?_
                      refine v_nil_pt rfl ?_
                      refine v_nil ?_
                      refine d_q rfl rfl rfl rfl rfl ?_
                      refine v_fa_pt (off' := 1) lay90 rfl rfl rfl ?_
                      refine v_nil ?_
                      refine d_q rfl rfl rfl rfl rfl ?_
                      refine v_fa_pt (off' := 3) lay64 rfl rfl rfl ?_
                      refine v_nil ?_
                      refine d_q rfl rfl rfl rfl rfl ?_
                      refine v_load_pt (.c _) lay61 rfl rfl rfl rfl ?_
                      refine v_nil ?_
                      refine d_q rfl rfl rfl rfl rfl ?_
                      refine v_fa_pt (off' := 1) lay25 rfl rfl rfl ?_
                      refine v_nil ?_
                      refine d_q rfl rfl rfl rfl rfl ?_
                      refine v_load_pt (.c _) lay2 rfl rfl rfl rfl ?_
                      refine v_nil ?_
                      refine d_q rfl rfl rfl rfl rfl ?_
                      refine v_idx_mu_e (k := 2) (off := 0) (a) lay61 lay46 rfl rfl rfl (ha) (by omega) ?_
                      refine v_nil ?_
                      refine d_q rfl rfl rfl rfl rfl ?_
                      refine v_load_flat a 0 (.agg [.v _, .v _]) pe_len lay46 rfl rfl (by omega) (by first | omega | (simp; omega)) rfl rfl ?_
                      refine v_nil ?_
                      refine d_q rfl rfl rfl rfl rfl ?_
                      refine v_idx_mu_e (k := 2) (off := 0) (a) lay61 lay46 rfl rfl rfl (ha) (by omega) ?_
                      refine v_nil ?_
                      refine d_e rfl rfl rfl ?_
                      refine v_store_flat (H' := [_, _, _, _, _, _, _, _]) a 0 (b.sv[a]) pe_len lay46 rfl rfl rfl (by omega) (by first | omega | (simp; omega)) rfl rfl (rfl) rfl ?_
                      refine v_nil ⟨again_nil, ?_⟩
                      refine d_nil ?_
                      refine q_bn ?_
                      refine q_n ?_
                      refine w_seq ?_
                      refine w_reg rfl ?_
                      refine v_assign (c := .v (.int .i64 0)) rfl ?_
                      refine v_nil ?_
                      refine q_n ?_
                      refine w_ret ?_
                      refine r_r rfl ?_
                      refine v_lit (flat int [_]) (H' := [_, _, _, _, _, _, _, _, _]) lay28 lay2 rfl rfl ⟨by decide, by decide⟩ rfl rfl ?_
                      refine v_app_flat (H' := [_, _, _, _, _, _, _, _, _, _]) int_sc int_len lay28 lay2 rfl rfl (by first | rfl | (simp; done) | (simp; omega) | omega | (rw [bg_l (by omega)])) rfl rfl (by first | rfl | (simp; done)) rfl rfl (by unfold maxLen; simp only []; omega) rfl rfl ?_
                      refine v_assign rfl ?_
                      refine v_nil ?_
                      refine q_bn ?_
                      refine q_n ?_
                      refine w_reg rfl ?_
                      refine v_move rfl ?_
                      refine v_add lay3 rfl rfl (i64r (by omega)) ?_
                      refine v_assign rfl ?_
                      refine v_nil ?_
                      refine q_n ?_
                      have hdo : doB p b ds[i] = ({ b with ps := b.ps.set a b.sv[a] }, 0) := do_crash (by omega) ha k2 k3
                      refine ⟨_, _, _, ?_, ⟨i + 1, { b with ps := b.ps.set a b.sv[a] }, cs ++ [0], rfl, by omega, st_step hst hi1 hdo, ok_do hok hd hdo, by simp; omega, rfl, rfl⟩, by omega⟩
                      exact turn [some 0, some 1, some 2, some 3, some 4, some 5, some 9] rfl rfl rfl ⟨⟨_, rfl, .cons tr_vw (.cons (tr_mun rfl (by first | rfl | (simp; done) | (simp; omega) | (rw [bg_l (by omega)]))) (.cons (tr_mun rfl (by first | rfl | (simp; done) | (simp; omega) | (rw [bg_l (by omega)]))) (.cons (tr_mun rfl (by first | rfl | (simp; done) | (simp; omega) | (rw [bg_l (by omega)]))) (.cons (tr_mun rfl (by first | rfl | (simp; done) | (simp; omega) | (rw [bg_l (by omega)]))) (.cons (tr_mun rfl (by first | rfl | (simp; done) | (simp; omega) | (rw [bg_l (by omega)]))) .nil)))))⟩, ⟨_, rfl, trc_flat pe_sc rfl⟩, ⟨_, rfl, trc_flat pe_sc rfl⟩, ⟨_, rfl, trc_flat pe_sc rfl⟩, ⟨_, rfl, trc_flat int_sc rfl⟩, ⟨_, rfl, trc_flat nce_sc rfl⟩, ⟨_, rfl, trc_flat int_sc rfl⟩, trivial⟩ ⟨tr_sl, tr_pt rfl, tr_mun rfl (by simp), tr_v, trivial⟩
        · skip
          refine v_nil ?_
          refine q_n ?_
          refine w_f rfl ?_
          refine w_exit ?_
          refine q_e ?_
          refine q_e ?_
          refine q_hit ?_
          refine q_n ?_
          refine w_seq ?_
          refine w_reg rfl ?_
          refine v_move rfl ?_
          refine v_move rfl ?_
          refine v_assign rfl ?_
          refine v_assign rfl ?_
          refine v_nil ?_
          refine q_n ?_
          refine w_ret ?_
          refine r_r rfl ?_
          obtain rfl : i = ds.length := by omega
          rw [hst]
          exact a_tup (.cons (a_dn (dn_pt rfl gone_nil (.cons .any (.cons (dn_flat pe_sc pe_len rfl gone_nil rfl) (.cons (dn_flat pe_sc pe_len rfl gone_nil rfl) (.cons (dn_flat pe_sc pe_len rfl gone_nil rfl) (.cons (dn_flat int_sc int_len rfl gone_nil rfl) (.cons (dn_flat nce_sc nce_len rfl gone_nil rfl) .nil)))))))) (.cons (a_flat2 int_sc int_len rfl rfl (by show ds.length = cs.length; omega) (by show cs.length = ds.length; omega)) .nil))
end Go.VL
