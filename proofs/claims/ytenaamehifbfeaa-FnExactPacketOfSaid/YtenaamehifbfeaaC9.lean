/- Walks: packets read, whole. -/
import Derived.Test.YtenaamehifbfeaaC8
namespace Go.VL
open Go.RowKit
set_option maxRecDepth 20000
set_option maxHeartbeats 4000000
/-- The tallies of a packet. -/
theorem c70n (n : Nat) (xs : List Tal) (hn : n = xs.length) (hx : n ≤ 2 ^ 40) : PureC X 70 [.c (.sl false n 3 (flat te xs))] (cB (decide (okL xs))) := by rw [hn]; exact c70 xs (by omega)
theorem c58n (n : Nat) (xs : List Tal) (hn : n = xs.length) (hx : n ≤ 2 ^ 40) (hb : T16 xs) : PureC X 58 [.c (.sl false n 3 (flat te xs))] (cB (decide (okL xs))) := by rw [hn]; exact c58 xs (by omega) hb
def tls (ds : List Int) (n : Nat) : List Tal := (List.range n).map fun j => tl6 (six ds j)
theorem tls_step (ds : List Int) (i : Nat) : tls ds i ++ [tl6 (six ds i)] = tls ds (i + 1) := (range_step _ _).symm
/-- Are the checks right so far? -/
def okB (ds : List Int) : Nat → Bool
  | 0 => (ck ((ds.drop 0).take (ds.length - 1 - 0))).2 == ds.getD (ds.length - 1) 0
  | i + 1 => okB ds i && decide (rgt ds i)
theorem okB_f {ds : List Int} {i : Nat} (h : okB ds i = false) : okB ds (i + 1) = false := by simp only [okB, h, Bool.false_and]
theorem okB_t {ds : List Int} {i : Nat} (h : okB ds i = true) : okB ds (i + 1) = decide (rgt ds i) := by simp only [okB, h, Bool.true_and]
theorem okB_0 {ds : List Int} {q : Nat} (hq : q < ds.length) (e : (ds.length : Int) - 1 = q) : okB ds 0 = ((ck ((ds.drop 0).take (ds.length - 1 - 0))).2 == ds[q]) := by
  obtain rfl : q = ds.length - 1 := by omega
  simp only [okB, getD_i hq]
theorem hd_ok {ds : List Int} (hb : B8 ds) (h : (hdR ds).2 = 0) : ∃ N : Nat, (hdR ds).1 = N ∧ N ≤ 96 ∧ 3 ≤ ds.length ∧ ds.length ≤ 676 ∧ ∀ h2 : 2 < ds.length, ds[2] = (N : Int) := by
  by_cases h1 : 676 < ds.length
  · rw [hd_2 h1] at h; cases h
  · by_cases h2 : headOk ds
    · rw [hd_0 h1 h2]
      obtain ⟨h3, -, -, h6⟩ := h2
      have h7 := bytes_in hb (show 2 < ds.length by omega)
      exact ⟨(ds[2]'(by omega)).toNat, by simp only []; omega, by omega, h3, by omega, fun _ => by omega⟩
    · rw [hd_5 h1 h2] at h; cases h
/-- A packet, read: its tallies, and a code. -/
noncomputable def rdR (ds : List Int) : List Tal × Int :=
  if (hdR ds).2 = 0 then
    if ds.length = 7 * (hdR ds).1.toNat + 4 then
      if okB ds (hdR ds).1.toNat = true then if okL (tls ds (hdR ds).1.toNat) then (tls ds (hdR ds).1.toNat, 0) else ([], 5)
      else ([], 8)
    else ([], 5)
  else ([], (hdR ds).2)
section
variable {ds : List Int} {N : Nat}
theorem rd_1 (h : ¬ (hdR ds).2 = 0) : rdR ds = ([], (hdR ds).2) := by unfold rdR; rw [if_neg h]
theorem rd_2 (h : (hdR ds).2 = 0) (hN : (hdR ds).1 = N) (h2 : ¬ ds.length = 7 * N + 4) : rdR ds = ([], 5) := by
  unfold rdR
  rw [if_pos h, hN, Int.toNat_natCast, if_neg h2]
theorem rd_3 (h : (hdR ds).2 = 0) (hN : (hdR ds).1 = N) (h2 : ds.length = 7 * N + 4) (h3 : okB ds N = false) : rdR ds = ([], 8) := by
  unfold rdR
  rw [if_pos h, hN, Int.toNat_natCast, if_pos h2, if_neg (by rw [h3]; decide)]
theorem rd_4 (h : (hdR ds).2 = 0) (hN : (hdR ds).1 = N) (h2 : ds.length = 7 * N + 4) (h3 : okB ds N = true) (h4 : ¬ okL (tls ds N)) : rdR ds = ([], 5) := by
  unfold rdR
  rw [if_pos h, hN, Int.toNat_natCast, if_pos h2, if_pos h3, if_neg h4]
theorem rd_0 (h : (hdR ds).2 = 0) (hN : (hdR ds).1 = N) (h2 : ds.length = 7 * N + 4) (h3 : okB ds N = true) (h4 : okL (tls ds N)) : rdR ds = (tls ds N, 0) := by
  unfold rdR
  rw [if_pos h, hN, Int.toNat_natCast, if_pos h2, if_pos h3, if_pos h4]
end
theorem rd_len (ds : List Int) : (rdR ds).1.length ≤ 96 := by
  unfold rdR
  split
  · split
    · split
      · split
        · rename_i h; exact h.1
        · simp
      · simp
    · simp
  · simp
theorem sl_again {α : Type} {X : Cx} {H : List Ob} {sl : Sl} {enc : α → List C} {t e : TypeId} {x : Operand} {lo hi : Option Operand} {a b : Nat} {z : List Value} {o : Bool} {m k : Nat} {xs : List α} {jl jh : Int} {L : Lay} (l h : Nat) (he : ∀ a, (enc a).length = k) (hL : X.lay t = some ⟨.slice e, a, b, z⟩) (hLe : X.lay e = some L) (hk : L.size = k) (hk0 : Nat.blt 0 k = true)
    (hx : rho X.G sl x = .c (.sl o m k (flat enc xs))) (hlo : bnd (rho X.G sl) lo 0 = some jl) (hhi : bnd (rho X.G sl) hi (m : Int) = some jh) (el : jl = (l : Int)) (eh : jh = (h : Int)) (hb : l ≤ h ∧ h ≤ m) : evq X.lay H (rho X.G sl) (.slice t x lo hi none) = some (.c (.sl o (h - l) k (flat enc ((xs.drop l).take (h - l))))) := by
  subst el eh
  simp only [evq, hL, hx, hLe, hlo, hhi]
  rw [if_pos ⟨hk, Nat.le_of_ble_eq_true hk0, by omega, by omega, by omega⟩]
  simp only [Int.toNat_natCast, sub_flat_n he]
theorem pc_one {X : Cx} {H : List Ob} {g : FuncId} {a a' r : V} (hv : VwV H a a') (hp : PureC X g [a'] r) (ho : ownV r = true) : PCall X H g [a] r := ⟨[a'], .cons hv .nil, hp, ho⟩
/-- The bytes of a tally, with their check, as they stand in the packet. -/
def recX (ds : List Int) (i : Nat) : List Int := (((ds.drop 3).take (ds.length - 3)).drop (7 * i)).take (7 * (i + 1) - 7 * i)
theorem recX_eq (ds : List Int) (i : Nat) : recX ds i = (ds.drop (3 + 7 * i)).take 7 := by
  unfold recX
  rw [List.take_of_length_le (l := ds.drop 3) (by simp), List.drop_drop, show 7 * (i + 1) - 7 * i = 7 by omega]
theorem rec7 {ds : List Int} {i : Nat} (hl : 3 + 7 * i + 7 ≤ ds.length) : ∃ a b c d e f g, recX ds i = [a, b, c, d, e, f, g] ∧ six ds i = [a, b, c, d, e, f] ∧ ds.getD (3 + 7 * i + 6) 0 = g := by
  have h1 := recX_eq ds i
  have h2 : (recX ds i).length = 7 := by rw [h1]; simp; omega
  have h3 : six ds i = (recX ds i).take 6 := by rw [h1]; unfold six; rw [List.take_take]; simp
  have h4 : ds.getD (3 + 7 * i + 6) 0 = (recX ds i).getD 6 0 := by
    rw [h1, List.getD_eq_getElem?_getD, List.getD_eq_getElem?_getD, List.getElem?_take_of_lt (by omega), List.getElem?_drop]
  generalize recX ds i = r at *
  match r, h2 with
  | [a, b, c, d, e, f, g], _ => exact ⟨a, b, c, d, e, f, g, rfl, h3, h4⟩
theorem w8_two {a b : Int} (ha : 0 ≤ a ∧ a ≤ 255) (hb : 0 ≤ b ∧ b ≤ 255) : sx (a + 256 * b) = [a, b] := by
  have h1 : IntKind.u8.wrap (a + 256 * b) = a := by
    simp only [IntKind.wrap, IntKind.bits, IntKind.signed]
    simp
    omega
  have h2 : IntKind.u8.wrap ((a + 256 * b) / 256) = b := by
    rw [show (a + 256 * b) / 256 = b by omega]
    exact wrap_of (k := .u8) (u8r hb)
  unfold sx
  rw [h1, h2]
theorem w16_eq {n : Int} (h : 0 ≤ n ∧ n ≤ 65535) : IntKind.i16.wrap n = n ∨ IntKind.i16.wrap n = n - 65536 := by
  simp only [IntKind.wrap, IntKind.bits, IntKind.signed]
  simp
  omega
theorem w16_in (n : Int) : -32768 ≤ IntKind.i16.wrap n ∧ IntKind.i16.wrap n ≤ 32767 := by
  simp only [IntKind.wrap, IntKind.bits, IntKind.signed]
  simp
  omega
theorem w8_two16 {a b : Int} (ha : 0 ≤ a ∧ a ≤ 255) (hb : 0 ≤ b ∧ b ≤ 255) : sx (IntKind.i16.wrap (a + 256 * b)) = [a, b] := by
  rcases w16_eq (n := a + 256 * b) (by omega) with h | h
  · rw [h]; exact w8_two ha hb
  · rw [h]
    have h1 : IntKind.u8.wrap (a + 256 * b - 65536) = a := by
      simp only [IntKind.wrap, IntKind.bits, IntKind.signed]
      simp
      omega
    have h2 : IntKind.u8.wrap ((a + 256 * b - 65536) / 256) = b := by
      rw [show (a + 256 * b - 65536) / 256 = b - 256 by omega]
      simp only [IntKind.wrap, IntKind.bits, IntKind.signed]
      simp
      omega
    unfold sx
    rw [h1, h2]
def recT (ds : List Int) (i : Nat) : List Int := recB i (tl6 (six ds i)).1 (tl6 (six ds i)).2.1 (tl6 (six ds i)).2.2
theorem b8_recT (ds : List Int) (i : Nat) : B8 (recT ds i) := fun x hx => by
  have hk := (ck_in (b8_rec i (tl6 (six ds i)).1 (tl6 (six ds i)).2.1 (tl6 (six ds i)).2.2)).2
  unfold recT recB at hx
  rcases List.mem_append.1 hx with h | h
  · exact b8_rec i (tl6 (six ds i)).1 (tl6 (six ds i)).2.1 (tl6 (six ds i)).2.2 x (List.mem_append_right _ h)
  · simp only [List.mem_singleton] at h
    subst h
    omega
theorem b8_recX {ds : List Int} (hb : B8 ds) (i : Nat) : B8 (recX ds i) := fun x hx => by
  rw [recX_eq] at hx
  exact hb x (List.mem_of_mem_drop (List.mem_of_mem_take hx))
theorem rec_iff {ds : List Int} {i : Nat} (hl : 3 + 7 * i + 7 ≤ ds.length) (hb : B8 ds) : recT ds i = recX ds i ↔ rgt ds i := by
  have hB := b8_recX hb i
  obtain ⟨a, b, c, d, e, f, g, h1, h2, h3⟩ := rec7 hl
  rw [h1] at hB
  have ha := hB a (by simp)
  have hb' := hB b (by simp)
  have hc := hB c (by simp)
  have hd := hB d (by simp)
  have he := hB e (by simp)
  have hf := hB f (by simp)
  unfold rgt recT recB
  rw [h1, h2, h3]
  have e1 : [sx (tl6 [a, b, c, d, e, f]).1, sx (tl6 [a, b, c, d, e, f]).2.1, sx (tl6 [a, b, c, d, e, f]).2.2].flatten = [a, b, c, d, e, f] := by
    show [sx (a + 256 * b), sx (IntKind.i16.wrap (c + 256 * d)), sx (IntKind.i16.wrap (e + 256 * f))].flatten = _
    rw [w8_two ha hb', w8_two16 hc hd, w8_two16 he hf]; rfl
  rw [e1]
  simp
theorem c89r (ds : List Int) (i : Nat) (hl : 3 + 7 * i + 7 ≤ ds.length) (hx : ds.length ≤ 2 ^ 40) (hb : B8 ds) : PureC X 89 [.c (.sl false (7 * (i + 1) - 7 * i) 1 (flat be (recX ds i)))] (.agg (te (tl6 (six ds i)))) := by
  have hB := b8_recX hb i
  obtain ⟨a, b, c, d, e, f, g, h1, h2, h3⟩ := rec7 hl
  rw [h1] at hB ⊢
  rw [h2]
  exact c89n _ _ (by simp; omega) (by simp) (by simp) hB
theorem c75r (ds : List Int) (i q : Nat) (hq : q < (tls ds i ++ [tl6 (six ds i)]).length) (e : (i : Int) = q) : PureC X 75 [cI i, .agg (te ((tls ds i ++ [tl6 (six ds i)])[q]))] (.c (bys true (recT ds i))) := by
  obtain rfl : i = q := by omega
  have hg : (tls ds i ++ [tl6 (six ds i)])[i] = tl6 (six ds i) := by
    rw [List.getElem_append_right (by simp [tls])]
    simp [tls]
  rw [hg]
  exact c75 i _ _ _ (w16_in _) (w16_in _)
theorem c90r (ds : List Int) (i : Nat) (hl : 3 + 7 * i + 7 ≤ ds.length) (hb : B8 ds) : PureC X 90 [.c (bys false (recT ds i)), .c (.sl false (7 * (i + 1) - 7 * i) 1 (flat be (recX ds i)))] (cB (decide (rgt ds i))) := by
  have h := c90n (7 * (i + 1) - 7 * i) (recT ds i) (recX ds i) (by rw [recX_eq]; simp; omega) (b8_recT ds i) (b8_recX hb i)
  rw [decide_eq_decide.2 (rec_iff hl hb)] at h
  exact h
theorem t16_tls (ds : List Int) (n : Nat) : T16 (tls ds n) := fun t ht => by
  simp only [tls, List.mem_map] at ht
  obtain ⟨j, -, rfl⟩ := ht
  exact ⟨w16_in _, w16_in _⟩
theorem c42 (ds : List Int) (hx : ds.length ≤ 2 ^ 40) (hb : B8 ds) : PureC X 42 [.c (bys false ds)] (.tup [.c (tals true (rdR ds).1), cI (rdR ds).2]) := by
  refine PureC.of_body (drawD_ok X) (fun _ _ => Go.Proofs.Try.call42 _ _) Go.Proofs.Try.func42 rfl (n := 68) rfl ?_
  refine w_seq ?_
  refine w_reg rfl ?_
  refine v_assign rfl ?_
  refine v_assign (c := .v (.int .i64 0)) rfl ?_
  refine v_nil ?_
  refine q_n ?_
  refine w_seq ?_
  refine w_reg rfl ?_
  refine v_move rfl ?_
  refine v_call (c85 _ (by omega) (by assumption)) rfl rfl rfl (.cons vw_sl .nil) ?_
  refine v_move_t rfl ?_
  refine v_extract_c rfl rfl ?_
  refine v_extract_c rfl rfl ?_
  refine v_assign rfl ?_
  refine v_assign rfl ?_
  refine v_nil ?_
  refine q_n ?_
  refine w_seq ?_
  refine w_seq ?_
  refine w_reg rfl ?_
  refine v_move rfl ?_
  refine v_neq lay2 rfl rfl (fun h1 => ?_) (fun h1 => ?_)
  · skip
    refine v_nil ?_
    refine q_n ?_
    refine w_t rfl ?_
    refine w_seq ?_
    refine w_reg rfl ?_
    refine v_lit (flat te []) (H' := [_]) lay40 lay27 rfl rfl ⟨by decide, by decide⟩ rfl rfl ?_
    refine v_move rfl ?_
    refine v_assign rfl ?_
    refine v_assign rfl ?_
    refine v_nil ?_
    refine q_n ?_
    refine w_ret (q_r ?_)
    refine r_r rfl ?_
    rw [rd_1 h1]
    exact a_tup (.cons (a_flat2 te_sc te_len rfl rfl rfl rfl) (.cons tr_v .nil))
  · skip
    obtain ⟨N, hN, hN96, hl3, hl676, hN2⟩ := hd_ok hb h1
    refine v_nil ?_
    refine q_n ?_
    refine w_f rfl ?_
    refine w_skip ?_
    refine q_n ?_
    refine w_seq ?_
    refine w_seq ?_
    refine w_reg rfl ?_
    refine v_move rfl ?_
    refine v_len_sl lay47 rfl ?_
    refine v_move rfl ?_
    refine v_mul lay3 rfl rfl (i64r (by omega)) ?_
    refine v_add lay3 rfl rfl (i64r (by omega)) ?_
    refine v_neq lay3 rfl rfl (fun h2 => ?_) (fun h2 => ?_)
    · skip
      refine v_nil ?_
      refine q_n ?_
      refine w_t rfl ?_
      refine w_seq ?_
      refine w_reg rfl ?_
      refine v_lit (flat te []) (H' := [_]) lay40 lay27 rfl rfl ⟨by decide, by decide⟩ rfl rfl ?_
      refine v_assign rfl ?_
      refine v_assign (c := .v (.int .i64 5)) rfl ?_
      refine v_nil ?_
      refine q_n ?_
      refine w_ret (q_r ?_)
      refine r_r rfl ?_
      rw [rd_2 h1 hN (by omega)]
      exact a_tup (.cons (a_flat2 te_sc te_len rfl rfl rfl rfl) (.cons tr_v .nil))
    · skip
      refine v_nil ?_
      refine q_n ?_
      refine w_f rfl ?_
      refine w_skip ?_
      refine q_n ?_
      refine w_seq ?_
      refine w_draw [0, 0, 2, 6, 15, 31, 0, 0, 128, 384, 960, 1984, 4095, 8191] [⟨0, 0, []⟩, ⟨1, 0, []⟩, ⟨2, 0, []⟩, ⟨3, 0, []⟩, ⟨4, 0, []⟩, ⟨5, 0, []⟩, ⟨6, 0, []⟩, ⟨7, 0, []⟩, ⟨8, 0, []⟩, ⟨9, 0, []⟩, ⟨10, 0, []⟩, ⟨11, 0, []⟩, ⟨12, 0, []⟩, ⟨13, 0, []⟩] rfl rfl ?_
      refine d_q rfl rfl rfl rfl rfl ?_
      refine v_move rfl ?_
      refine v_nil ?_
      refine d_q rfl rfl rfl rfl rfl ?_
      refine v_move rfl ?_
      refine v_nil ?_
      refine d_q rfl rfl rfl rfl rfl ?_
      refine v_len_sl lay47 rfl ?_
      refine v_nil ?_
      refine d_q rfl rfl rfl rfl rfl ?_
      refine v_sub lay3 rfl rfl (i64r (by omega)) ?_
      refine v_nil ?_
      refine d_q rfl rfl rfl rfl rfl ?_
      refine v_slice_sl (0) (ds.length - 1) be_len lay47 lay5 rfl rfl rfl rfl rfl (rfl) (by omega) (by omega) ?_
      refine v_nil ?_
      refine d_call (c91n _ _ (by simp) (by simp; omega) (fun x hm => hb x (List.mem_of_mem_take hm))) rfl rfl rfl rfl rfl (.cons vw_sl .nil) ?_
      refine d_q rfl rfl rfl rfl rfl ?_
      refine v_move rfl ?_
      refine v_nil ?_
      refine d_q rfl rfl rfl rfl rfl ?_
      refine v_move rfl ?_
      refine v_nil ?_
      refine d_q rfl rfl rfl rfl rfl ?_
      refine v_len_sl lay47 rfl ?_
      refine v_nil ?_
      refine d_q rfl rfl rfl rfl rfl ?_
      refine v_sub lay3 rfl rfl (i64r (by omega)) ?_
      refine v_nil ?_
      refine d_q rfl rfl rfl rfl rfl ?_
      refine v_idx (k := 1) be_len lay47 lay5 rfl rfl rfl (rfl) rfl (by omega) (fun q3 hq3 e3 => ?_)
      refine v_nil ?_
      refine d_q rfl rfl rfl rfl rfl ?_
      refine v_load_vw (.c (.v _)) lay5 rfl rfl rfl ?_
      refine v_nil ?_
      refine d_q rfl rfl rfl rfl rfl ?_
      refine v_bin (c := .v (.bool _)) lay5 rfl rfl rfl ?_
      refine v_nil ?_
      refine d_q rfl rfl rfl rfl rfl ?_
      refine v_assign rfl ?_
      refine v_nil ?_
      refine d_nil ?_
      refine q_n ?_
      refine w_seq ?_
      refine w_reg rfl ?_
      refine v_lit (flat te []) (H' := [_]) lay40 lay27 rfl rfl ⟨by decide, by decide⟩ rfl rfl ?_
      refine v_assign rfl ?_
      refine v_nil ?_
      refine q_n ?_
      refine w_seq ?_
      refine w_seq ?_
      refine w_reg rfl ?_
      refine v_assign (c := .v (.int .i64 0)) rfl ?_
      refine v_nil ?_
      refine q_n ?_
      refine w_block ?_
      refine w_loop (fun k sl H => ∃ (i : Nat) (b : Bool), k = N - i ∧ i ≤ N ∧ okB ds i = b ∧ sl = sls [(0, .c (bys false ds)), (4, cI (hdR ds).1), (6, cB b), (7, .c (.mu 0 0 i 3)), (8, cI i)] ∧ H = [⟨flat te (tls ds i), 27, true⟩]) ?_ ?_
      · refine ⟨_, _, _, ?_, 0, _, rfl, Nat.zero_le _, okB_0 hq3 e3, rfl, rfl⟩
        exact turn [some 0] rfl rfl rfl ⟨⟨_, rfl, trc_flat te_sc rfl⟩, trivial⟩ ⟨tr_sl, tr_v, tr_v, tr_mu rfl, tr_v, trivial⟩
      · rintro k sl H ⟨i, b, rfl, hi, hb0, rfl, rfl⟩
        cases b
        · skip
          refine w_seq ?_
          refine w_seq ?_
          refine w_reg rfl ?_
          refine v_move rfl ?_
          refine v_move rfl ?_
          refine v_lss lay3 rfl rfl (fun h4 => ?_) (fun h4 => ?_)
          · skip
            refine v_nil ?_
            refine q_n ?_
            refine w_t rfl ?_
            refine w_skip ?_
            refine q_n ?_
            refine w_seq ?_
            refine w_block ?_
            refine w_seq ?_
            refine w_reg rfl ?_
            refine v_move rfl ?_
            refine v_move rfl ?_
            refine v_call (c86 ds i (by omega) hx hb) rfl rfl rfl (.cons vw_sl (.cons vw_v .nil)) ?_
            refine v_move_t rfl ?_
            refine v_extract_a rfl rfl ?_
            refine v_extract_c rfl rfl ?_
            refine v_alloc (m := 1) (H' := [_, ⟨[.v _, .v _, .v _], 27, true⟩]) lay27 rfl rfl ?_
            refine v_store (H' := [_, ⟨[_, _, _], 27, true⟩]) lay27 rfl rfl rfl rfl rfl rfl ?_
            refine v_assign rfl ?_
            refine v_nil ?_
            refine q_n ?_
            refine w_seq ?_
            refine w_reg rfl ?_
            refine v_move rfl ?_
            refine v_move rfl ?_
            refine v_guard_off rfl rfl rfl ?_
            refine v_pick_f (v := .v (.bool false)) rfl rfl ?_
            refine v_assign rfl ?_
            refine v_nil ?_
            refine q_n ?_
            refine w_reg rfl ?_
            refine v_move rfl ?_
            refine v_load_pt (.agg [_, _, _]) lay27 rfl rfl rfl rfl ?_
            refine v_lit (flat te [tl6 (six ds i)]) (H' := [_, _, _]) lay40 lay27 rfl rfl ⟨by decide, by decide⟩ rfl rfl ?_
            refine v_app_flat (H' := [_, _, _, _]) te_sc te_len lay40 lay27 rfl rfl (by simp [tls]) rfl rfl (by simp) rfl rfl (by unfold maxLen; simp only []; omega) rfl rfl ?_
            refine v_assign rfl ?_
            refine v_nil ?_
            refine q_bn ?_
            refine q_n ?_
            refine w_reg rfl ?_
            refine v_move rfl ?_
            refine v_add lay3 rfl rfl (i64r (by omega)) ?_
            refine v_assign rfl ?_
            refine v_nil ?_
            refine q_n ?_
            refine ⟨_, _, _, ?_, ⟨i + 1, _, rfl, by omega, okB_f hb0, rfl, rfl⟩, by omega⟩
            exact turn [some 3] rfl rfl rfl ⟨⟨_, rfl, trc_flat te_sc (congrArg (flat te) (tls_step ds i))⟩, trivial⟩ ⟨tr_sl, tr_v, tr_v, tr_mu rfl, tr_v, trivial⟩
          · skip
            refine v_nil ?_
            refine q_n ?_
            refine w_f rfl ?_
            refine w_exit ?_
            refine q_e ?_
            refine q_e ?_
            refine q_hit ?_
            refine q_n ?_
            refine w_seq ?_
            refine w_seq ?_
            refine w_reg rfl ?_
            refine v_move rfl ?_
            refine v_not true rfl rfl ?_
            refine v_nil ?_
            refine q_n ?_
            refine w_t rfl ?_
            refine w_seq ?_
            refine w_reg rfl ?_
            refine v_lit (flat te []) (H' := [_, _]) lay40 lay27 rfl rfl ⟨by decide, by decide⟩ rfl rfl ?_
            refine v_assign rfl ?_
            refine v_assign (c := .v (.int .i64 8)) rfl ?_
            refine v_nil ?_
            refine q_n ?_
            refine w_ret (q_r ?_)
            refine r_r rfl ?_
            have he : i = N := by omega
            subst he
            rw [rd_3 h1 hN (by omega) hb0]
            exact a_tup (.cons (a_flat2 te_sc te_len rfl rfl rfl rfl) (.cons tr_v .nil))
        · skip
          refine w_seq ?_
          refine w_seq ?_
          refine w_reg rfl ?_
          refine v_move rfl ?_
          refine v_move rfl ?_
          refine v_lss lay3 rfl rfl (fun h5 => ?_) (fun h5 => ?_)
          · skip
            refine v_nil ?_
            refine q_n ?_
            refine w_t rfl ?_
            refine w_skip ?_
            refine q_n ?_
            refine w_seq ?_
            refine w_block ?_
            refine w_seq ?_
            refine w_reg rfl ?_
            refine v_move rfl ?_
            refine v_move rfl ?_
            refine v_call (c86 ds i (by omega) hx hb) rfl rfl rfl (.cons vw_sl (.cons vw_v .nil)) ?_
            refine v_move_t rfl ?_
            refine v_extract_a rfl rfl ?_
            refine v_extract_c rfl rfl ?_
            refine v_alloc (m := 1) (H' := [_, ⟨[.v _, .v _, .v _], 27, true⟩]) lay27 rfl rfl ?_
            refine v_store (H' := [_, ⟨[_, _, _], 27, true⟩]) lay27 rfl rfl rfl rfl rfl rfl ?_
            refine v_assign rfl ?_
            refine v_nil ?_
            refine q_n ?_
            refine w_seq ?_
            refine w_reg rfl ?_
            refine v_move rfl ?_
            refine v_move rfl ?_
            refine v_guard_on rfl rfl ?_
            refine v_move rfl ?_
            refine v_pick_t rfl rfl ?_
            refine v_assign rfl ?_
            refine v_nil ?_
            refine q_n ?_
            refine w_reg rfl ?_
            refine v_move rfl ?_
            refine v_load_pt (.agg [_, _, _]) lay27 rfl rfl rfl rfl ?_
            refine v_lit (flat te [tl6 (six ds i)]) (H' := [_, _, _]) lay40 lay27 rfl rfl ⟨by decide, by decide⟩ rfl rfl ?_
            refine v_app_flat (H' := [_, _, _, _]) te_sc te_len lay40 lay27 rfl rfl (by simp [tls]) rfl rfl (by simp) rfl rfl (by unfold maxLen; simp only []; omega) rfl rfl ?_
            refine v_assign rfl ?_
            refine v_nil ?_
            refine q_bn ?_
            refine q_n ?_
            refine w_reg rfl ?_
            refine v_move rfl ?_
            refine v_add lay3 rfl rfl (i64r (by omega)) ?_
            refine v_assign rfl ?_
            refine v_nil ?_
            refine q_n ?_
            refine ⟨_, _, _, ?_, ⟨i + 1, _, rfl, by omega, okB_t hb0, rfl, rfl⟩, by omega⟩
            exact turn [some 3] rfl rfl rfl ⟨⟨_, rfl, trc_flat te_sc (congrArg (flat te) (tls_step ds i))⟩, trivial⟩ ⟨tr_sl, tr_v, tr_v, tr_mu rfl, tr_v, trivial⟩
          · skip
            refine v_nil ?_
            refine q_n ?_
            refine w_f rfl ?_
            refine w_exit ?_
            refine q_e ?_
            refine q_e ?_
            refine q_hit ?_
            refine q_n ?_
            refine w_seq ?_
            refine w_seq ?_
            refine w_reg rfl ?_
            refine v_move rfl ?_
            refine v_not false rfl rfl ?_
            refine v_nil ?_
            refine q_n ?_
            refine w_f rfl ?_
            refine w_skip ?_
            refine q_n ?_
            refine w_seq ?_
            refine w_seq ?_
            refine w_reg rfl ?_
            refine v_move rfl ?_
            refine v_callb (c70n i (tls ds i) (by simp [tls]) (by omega)) rfl rfl (.cons (vw_mu2 te_sc te_len rfl (by first | rfl | simp [tls])) .nil) (fun h6 => ?_) (fun h6 => ?_)
            · skip
              refine v_not false rfl rfl ?_
              refine v_nil ?_
              refine q_n ?_
              refine w_f rfl ?_
              refine w_skip ?_
              refine q_n ?_
              refine w_seq ?_
              refine w_reg rfl ?_
              refine v_move rfl ?_
              refine v_assign rfl ?_
              refine v_assign (c := .v (.int .i64 0)) rfl ?_
              refine v_nil ?_
              refine q_n ?_
              refine w_ret ?_
              refine r_r rfl ?_
              have he : i = N := by omega
              subst he
              rw [rd_0 h1 hN (by omega) hb0 h6]
              exact a_tup (.cons (a_flat2 te_sc te_len rfl rfl (by simp [tls]) (by simp [tls])) (.cons tr_v .nil))
            · skip
              refine v_not true rfl rfl ?_
              refine v_nil ?_
              refine q_n ?_
              refine w_t rfl ?_
              refine w_seq ?_
              refine w_reg rfl ?_
              refine v_lit (flat te []) (H' := [_, _]) lay40 lay27 rfl rfl ⟨by decide, by decide⟩ rfl rfl ?_
              refine v_assign rfl ?_
              refine v_assign (c := .v (.int .i64 5)) rfl ?_
              refine v_nil ?_
              refine q_n ?_
              refine w_ret (q_r ?_)
              refine r_r rfl ?_
              have he : i = N := by omega
              subst he
              rw [rd_4 h1 hN (by omega) hb0 h6]
              exact a_tup (.cons (a_flat2 te_sc te_len rfl rfl rfl rfl) (.cons tr_v .nil))

theorem c43l (ds : List Int) (hx : ds.length ≤ 2 ^ 40) (hb : B8 ds) : LiveC X 43 [.c (bys false ds)] (.tup [.c (.mu 0 0 (rdR ds).1.length 3), cI (rdR ds).2]) [⟨flat te (rdR ds).1, 27, true⟩] := by
  refine LiveC.of_body (drawD_ok X) (fun _ _ => Go.Proofs.Try.call43 _ _) Go.Proofs.Try.func43 rfl (n := 78) rfl ?_
  refine w_seq ?_
  refine w_reg rfl ?_
  refine v_assign rfl ?_
  refine v_assign (c := .v (.int .i64 0)) rfl ?_
  refine v_nil ?_
  refine q_n ?_
  refine w_seq ?_
  refine w_seq ?_
  refine w_reg rfl ?_
  refine v_move rfl ?_
  refine v_call (c87 _ (by omega) (by assumption)) rfl rfl rfl (.cons vw_sl .nil) ?_
  refine v_assign rfl ?_
  refine v_nil ?_
  refine q_n ?_
  refine w_seq ?_
  refine w_reg rfl ?_
  refine v_move rfl ?_
  refine v_neq lay2 rfl rfl (fun h1 => ?_) (fun h1 => ?_)
  · skip
    refine v_nil ?_
    refine q_n ?_
    refine w_t rfl ?_
    refine w_seq ?_
    refine w_reg rfl ?_
    refine v_move rfl ?_
    refine v_assign rfl ?_
    refine v_assign rfl ?_
    refine v_nil ?_
    refine q_n ?_
    refine w_ret (q_r ?_)
    refine r_r rfl ?_
    rw [rd_1 h1]
    exact l_ans [none] rfl rfl ⟨rfl, trivial⟩ (a_tup (.cons (tr_nil rfl) (.cons tr_v .nil)))
  · skip
    obtain ⟨N, hN, hN96, hl3, hl676, hN2⟩ := hd_ok hb h1
    refine v_nil ?_
    refine q_n ?_
    refine w_f rfl ?_
    refine w_skip ?_
    refine q_n ?_
    refine w_seq ?_
    refine w_draw [0, 1, 3, 7, 0, 16, 15, 127] [⟨0, 0, []⟩, ⟨1, 0, []⟩, ⟨2, 0, []⟩, ⟨3, 0, []⟩, ⟨4, 0, []⟩, ⟨5, 0, []⟩, ⟨6, 0, []⟩, ⟨7, 0, []⟩] rfl rfl ?_
    refine d_q rfl rfl rfl rfl rfl ?_
    refine v_move rfl ?_
    refine v_nil ?_
    refine d_q rfl rfl rfl rfl rfl ?_
    refine v_idx (k := 1) be_len lay47 lay5 rfl rfl rfl (rfl) rfl (by omega) (fun q2 hq2 e2 => ?_)
    obtain rfl : q2 = 2 := by omega
    have hn2 := hN2 hq2
    refine v_nil ?_
    refine d_q rfl rfl rfl rfl rfl ?_
    refine v_load_vw (.c (.v _)) lay5 rfl rfl rfl ?_
    refine v_nil ?_
    refine d_q rfl rfl rfl rfl rfl ?_
    refine v_conv_ii lay5 lay3 rfl (i64r (by have hx1 := bytes_in hb hq2; omega)) ?_
    refine v_nil ?_
    refine d_q rfl rfl rfl rfl rfl ?_
    refine v_move rfl ?_
    refine v_nil ?_
    refine d_q rfl rfl rfl rfl rfl ?_
    refine v_slice_sl (3) (ds.length) be_len lay47 lay5 rfl rfl rfl rfl rfl (rfl) (rfl) (by omega) ?_
    refine v_nil ?_
    refine d_q rfl rfl rfl rfl rfl ?_
    refine v_assign rfl ?_
    refine v_nil ?_
    refine d_q rfl rfl rfl rfl rfl ?_
    refine v_assign rfl ?_
    refine v_nil ?_
    refine d_nil ?_
    refine q_n ?_
    refine w_seq ?_
    refine w_seq ?_
    refine w_reg rfl ?_
    refine v_move rfl ?_
    refine v_len_sl lay47 rfl ?_
    refine v_move rfl ?_
    refine v_mul lay3 rfl rfl (i64r (by omega)) ?_
    refine v_add lay3 rfl rfl (i64r (by omega)) ?_
    refine v_neq lay3 rfl rfl (fun h3 => ?_) (fun h3 => ?_)
    · skip
      refine v_nil ?_
      refine q_n ?_
      refine w_t rfl ?_
      refine w_seq ?_
      refine w_reg rfl ?_
      refine v_assign rfl ?_
      refine v_assign (c := .v (.int .i64 5)) rfl ?_
      refine v_nil ?_
      refine q_n ?_
      refine w_ret (q_r ?_)
      refine r_r rfl ?_
      rw [rd_2 h1 hN (by omega)]
      exact l_ans [none] rfl rfl ⟨rfl, trivial⟩ (a_tup (.cons (tr_nil rfl) (.cons tr_v .nil)))
    · skip
      refine v_nil ?_
      refine q_n ?_
      refine w_f rfl ?_
      refine w_skip ?_
      refine q_n ?_
      refine w_seq ?_
      refine w_draw [0, 0, 0, 4, 12, 30, 62, 0, 0, 256, 768, 1920, 3968, 8190, 127, 32767] [⟨1, 0, []⟩, ⟨2, 0, []⟩, ⟨3, 0, []⟩, ⟨4, 0, []⟩, ⟨5, 0, []⟩, ⟨6, 0, []⟩, ⟨7, 0, []⟩, ⟨8, 0, []⟩, ⟨9, 0, []⟩, ⟨10, 0, []⟩, ⟨11, 0, []⟩, ⟨12, 0, []⟩, ⟨13, 0, []⟩, ⟨0, 1, [5, 6, 12]⟩, ⟨14, 0, []⟩, ⟨15, 0, []⟩] rfl rfl ?_
      refine d_q rfl rfl rfl rfl rfl ?_
      refine v_move rfl ?_
      refine v_nil ?_
      refine d_q rfl rfl rfl rfl rfl ?_
      refine v_move rfl ?_
      refine v_nil ?_
      refine d_q rfl rfl rfl rfl rfl ?_
      refine v_len_sl lay47 rfl ?_
      refine v_nil ?_
      refine d_q rfl rfl rfl rfl rfl ?_
      refine v_sub lay3 rfl rfl (i64r (by omega)) ?_
      refine v_nil ?_
      refine d_q rfl rfl rfl rfl rfl ?_
      refine v_slice_sl (0) (ds.length - 1) be_len lay47 lay5 rfl rfl rfl rfl rfl (rfl) (by omega) (by omega) ?_
      refine v_nil ?_
      refine d_call (c76n _ _ (by simp) (by simp; omega) (fun x hm => hb x (List.mem_of_mem_take hm))) rfl rfl rfl rfl rfl (.cons vw_sl .nil) ?_
      refine d_q rfl rfl rfl rfl rfl ?_
      refine v_move rfl ?_
      refine v_nil ?_
      refine d_q rfl rfl rfl rfl rfl ?_
      refine v_move rfl ?_
      refine v_nil ?_
      refine d_q rfl rfl rfl rfl rfl ?_
      refine v_len_sl lay47 rfl ?_
      refine v_nil ?_
      refine d_q rfl rfl rfl rfl rfl ?_
      refine v_sub lay3 rfl rfl (i64r (by omega)) ?_
      refine v_nil ?_
      refine d_q rfl rfl rfl rfl rfl ?_
      refine v_idx (k := 1) be_len lay47 lay5 rfl rfl rfl (rfl) rfl (by omega) (fun q4 hq4 e4 => ?_)
      refine v_nil ?_
      refine d_q rfl rfl rfl rfl rfl ?_
      refine v_load_vw (.c (.v _)) lay5 rfl rfl rfl ?_
      refine v_nil ?_
      refine d_q rfl rfl rfl rfl rfl ?_
      refine v_bin (c := .v (.bool _)) lay5 rfl rfl rfl ?_
      refine v_nil ?_
      refine d_e rfl rfl rfl ?_
      refine v_lit (flat te []) (H' := [_]) lay40 lay27 rfl rfl ⟨by decide, by decide⟩ rfl rfl ?_
      refine v_nil ⟨⟨rfl, ⟨pc_one vw_sl (c76n _ _ (by simp) (by simp; omega) (fun x hm => hb x (List.mem_of_mem_take hm))) rfl, ⟨sl_again 0 (ds.length - 1) be_len lay47 lay5 rfl rfl rfl rfl rfl rfl (by omega) (by omega), trivial⟩⟩⟩, ?_⟩
      refine d_q rfl rfl rfl rfl rfl ?_
      refine v_assign rfl ?_
      refine v_nil ?_
      refine d_q rfl rfl rfl rfl rfl ?_
      refine v_assign rfl ?_
      refine v_nil ?_
      refine d_nil ?_
      refine q_n ?_
      refine w_seq ?_
      refine w_seq ?_
      refine w_reg rfl ?_
      refine v_move rfl ?_
      refine v_move (c := .v (.int .i64 0)) rfl ?_
      refine v_nil ?_
      refine q_n ?_
      refine w_block ?_
      refine w_loop (fun k sl H => ∃ (i : Nat) (b : Bool), k = N - i ∧ i ≤ N ∧ okB ds i = b ∧ sl = sls [(6, .c (.sl false (ds.length - 3) 1 (flat be ((ds.drop 3).take (ds.length - 3))))), (7, .c (.mu 0 0 i 3)), (8, cB b), (42, cI (ds[2]'hq2)), (43, cI i)] ∧ H = [⟨flat te (tls ds i), 27, true⟩]) ?_ ?_
      · refine ⟨_, _, _, ?_, 0, _, rfl, Nat.zero_le _, okB_0 hq4 e4, rfl, rfl⟩
        exact turn [some 0] rfl rfl rfl ⟨⟨_, rfl, trc_flat te_sc rfl⟩, trivial⟩ ⟨tr_sl, tr_mu rfl, tr_v, tr_v, tr_v, trivial⟩
      · rintro k sl H ⟨i, b, rfl, hi, hb0, rfl, rfl⟩
        cases b
        · skip
          refine w_seq ?_
          refine w_reg rfl ?_
          refine v_lss lay3 rfl rfl (fun h5 => ?_) (fun h5 => ?_)
          · skip
            refine v_nil ?_
            refine q_n ?_
            refine w_seq ?_
            refine w_t rfl ?_
            refine w_skip ?_
            refine q_n ?_
            refine w_seq ?_
            refine w_block ?_
            refine w_seq ?_
            refine w_reg rfl ?_
            refine v_move rfl ?_
            refine v_assign rfl ?_
            refine v_nil ?_
            refine q_n ?_
            refine w_seq ?_
            refine w_reg rfl ?_
            refine v_move rfl ?_
            refine v_move rfl ?_
            refine v_mul lay3 rfl rfl (i64r (by omega)) ?_
            refine v_move rfl ?_
            refine v_add lay3 rfl rfl (i64r (by omega)) ?_
            refine v_mul lay3 rfl rfl (i64r (by omega)) ?_
            refine v_slice_sl (7 * i) (7 * (i + 1)) be_len lay47 lay5 rfl rfl rfl rfl rfl (by omega) (by omega) (by omega) ?_
            refine v_assign rfl ?_
            refine v_nil ?_
            refine q_n ?_
            refine w_seq ?_
            refine w_reg rfl ?_
            refine v_move rfl ?_
            refine v_move rfl ?_
            refine v_call (c89r ds i (by omega) hx hb) rfl rfl rfl (.cons vw_sl .nil) ?_
            refine v_lit (flat te [tl6 (six ds i)]) (H' := [_, _]) lay40 lay27 rfl rfl ⟨by decide, by decide⟩ rfl rfl ?_
            refine v_app_flat (H' := [_, _, _]) te_sc te_len lay40 lay27 rfl rfl (by simp [tls]) rfl rfl (by simp) rfl rfl (by unfold maxLen; simp only []; omega) rfl rfl ?_
            refine v_assign rfl ?_
            refine v_nil ?_
            refine q_n ?_
            refine w_reg rfl ?_
            refine v_move rfl ?_
            refine v_move rfl ?_
            refine v_guard_off rfl rfl rfl ?_
            refine v_guard_off rfl rfl rfl ?_
            refine v_guard_off rfl rfl rfl ?_
            refine v_guard_off rfl rfl rfl ?_
            refine v_guard_off rfl rfl rfl ?_
            refine v_guard_off rfl rfl rfl ?_
            refine v_guard_off rfl rfl rfl ?_
            refine v_guard_off rfl rfl rfl ?_
            refine v_pick_f (v := .v (.bool false)) rfl rfl ?_
            refine v_assign rfl ?_
            refine v_nil ?_
            refine q_bn ?_
            refine q_n ?_
            refine w_reg rfl ?_
            refine v_add lay3 rfl rfl (i64r (by omega)) ?_
            refine v_move rfl ?_
            refine v_nil ?_
            refine q_n ?_
            refine ⟨_, _, _, ?_, ⟨i + 1, _, rfl, by omega, okB_f hb0, rfl, rfl⟩, by omega⟩
            exact turn [some 2] rfl rfl rfl ⟨⟨_, rfl, trc_flat te_sc (congrArg (flat te) (tls_step ds i))⟩, trivial⟩ ⟨tr_sl, tr_mu rfl, tr_v, tr_v, tr_v, trivial⟩
          · skip
            refine v_nil ?_
            refine q_n ?_
            refine w_seq ?_
            refine w_f rfl ?_
            refine w_exit ?_
            refine q_e ?_
            refine q_e ?_
            refine q_hit ?_
            refine q_n ?_
            refine w_seq ?_
            refine w_block ?_
            refine w_seq ?_
            refine w_reg rfl ?_
            refine v_move rfl ?_
            refine v_not true rfl rfl ?_
            refine v_assign rfl ?_
            refine v_nil ?_
            refine q_n ?_
            refine w_t rfl ?_
            refine w_seq ?_
            refine w_reg rfl ?_
            refine v_assign rfl ?_
            refine v_assign (c := .v (.int .i64 8)) rfl ?_
            refine v_nil ?_
            refine q_n ?_
            refine w_ret (q_br (q_r ?_))
            refine r_r rfl ?_
            have he : i = N := by omega
            subst he
            rw [rd_3 h1 hN (by omega) hb0]
            exact l_ans [none] rfl rfl ⟨rfl, trivial⟩ (a_tup (.cons (tr_nil rfl) (.cons tr_v .nil)))
        · skip
          refine w_seq ?_
          refine w_reg rfl ?_
          refine v_lss lay3 rfl rfl (fun h6 => ?_) (fun h6 => ?_)
          · skip
            refine v_nil ?_
            refine q_n ?_
            refine w_seq ?_
            refine w_t rfl ?_
            refine w_skip ?_
            refine q_n ?_
            refine w_seq ?_
            refine w_block ?_
            refine w_seq ?_
            refine w_reg rfl ?_
            refine v_move rfl ?_
            refine v_assign rfl ?_
            refine v_nil ?_
            refine q_n ?_
            refine w_seq ?_
            refine w_reg rfl ?_
            refine v_move rfl ?_
            refine v_move rfl ?_
            refine v_mul lay3 rfl rfl (i64r (by omega)) ?_
            refine v_move rfl ?_
            refine v_add lay3 rfl rfl (i64r (by omega)) ?_
            refine v_mul lay3 rfl rfl (i64r (by omega)) ?_
            refine v_slice_sl (7 * i) (7 * (i + 1)) be_len lay47 lay5 rfl rfl rfl rfl rfl (by omega) (by omega) (by omega) ?_
            refine v_assign rfl ?_
            refine v_nil ?_
            refine q_n ?_
            refine w_seq ?_
            refine w_reg rfl ?_
            refine v_move rfl ?_
            refine v_move rfl ?_
            refine v_call (c89r ds i (by omega) hx hb) rfl rfl rfl (.cons vw_sl .nil) ?_
            refine v_lit (flat te [tl6 (six ds i)]) (H' := [_, _]) lay40 lay27 rfl rfl ⟨by decide, by decide⟩ rfl rfl ?_
            refine v_app_flat (H' := [_, _, _]) te_sc te_len lay40 lay27 rfl rfl (by simp [tls]) rfl rfl (by simp) rfl rfl (by unfold maxLen; simp only []; omega) rfl rfl ?_
            refine v_assign rfl ?_
            refine v_nil ?_
            refine q_n ?_
            refine w_reg rfl ?_
            refine v_move rfl ?_
            refine v_move rfl ?_
            refine v_guard_on rfl rfl ?_
            refine v_move rfl ?_
            refine v_guard_on rfl rfl ?_
            refine v_move rfl ?_
            refine v_guard_on rfl rfl ?_
            refine v_move rfl ?_
            refine v_guard_on rfl rfl ?_
            refine v_idx_mu (k := 3) (off := 0) lay40 lay27 rfl rfl rfl (by omega) (fun q7 hq7 e7 => ?_)
            refine v_guard_on rfl rfl ?_
            refine v_load_flat q7 0 (.agg [.v _, .v _, .v _]) te_len lay27 rfl rfl (by omega) (by simp [tls]; omega) rfl rfl ?_
            refine v_guard_on rfl rfl ?_
            refine v_call (c75r ds i _ (by simp [tls]; omega) e7) rfl rfl rfl (.cons vw_v (.cons (vw_agg (.cons vw_v (.cons vw_v (.cons vw_v .nil)))) .nil)) ?_
            refine v_guard_on rfl rfl ?_
            refine v_move rfl ?_
            refine v_guard_on rfl rfl ?_
            refine v_call (c90r ds i (by omega) hb) rfl rfl rfl (.cons vw_sl (.cons vw_sl .nil)) ?_
            refine v_pick_t rfl rfl ?_
            refine v_assign rfl ?_
            refine v_nil ?_
            refine q_bn ?_
            refine q_n ?_
            refine w_reg rfl ?_
            refine v_add lay3 rfl rfl (i64r (by omega)) ?_
            refine v_move rfl ?_
            refine v_nil ?_
            refine q_n ?_
            refine ⟨_, _, _, ?_, ⟨i + 1, _, rfl, by omega, okB_t hb0, rfl, rfl⟩, by omega⟩
            exact turn [some 2] rfl rfl rfl ⟨⟨_, rfl, trc_flat te_sc (congrArg (flat te) (tls_step ds i))⟩, trivial⟩ ⟨tr_sl, tr_mu rfl, tr_v, tr_v, tr_v, trivial⟩
          · skip
            refine v_nil ?_
            refine q_n ?_
            refine w_seq ?_
            refine w_f rfl ?_
            refine w_exit ?_
            refine q_e ?_
            refine q_e ?_
            refine q_hit ?_
            refine q_n ?_
            refine w_seq ?_
            refine w_block ?_
            refine w_seq ?_
            refine w_reg rfl ?_
            refine v_move rfl ?_
            refine v_not false rfl rfl ?_
            refine v_assign rfl ?_
            refine v_nil ?_
            refine q_n ?_
            refine w_f rfl ?_
            refine w_seq ?_
            refine w_reg rfl ?_
            refine v_move rfl ?_
            refine v_callb (c58n i (tls ds i) (by simp [tls]) (by omega) (t16_tls ds i)) rfl rfl (.cons (vw_mu2 te_sc te_len rfl (by first | rfl | simp [tls])) .nil) (fun h8 => ?_) (fun h8 => ?_)
            · skip
              refine v_not false rfl rfl ?_
              refine v_assign rfl ?_
              refine v_nil ?_
              refine q_n ?_
              refine w_f rfl ?_
              refine w_skip ?_
              refine q_bn ?_
              refine q_n ?_
              refine w_seq ?_
              refine w_reg rfl ?_
              refine v_move rfl ?_
              refine v_assign rfl ?_
              refine v_assign (c := .v (.int .i64 0)) rfl ?_
              refine v_nil ?_
              refine q_n ?_
              refine w_ret ?_
              refine r_r rfl ?_
              have he : i = N := by omega
              subst he
              rw [rd_0 h1 hN (by omega) hb0 h8]
              exact l_ans [some 0] rfl rfl ⟨⟨_, rfl, trc_flat te_sc rfl⟩, trivial⟩ (a_tup (.cons (tr_mun rfl (by simp [tls])) (.cons tr_v .nil)))
            · skip
              refine v_not true rfl rfl ?_
              refine v_assign rfl ?_
              refine v_nil ?_
              refine q_n ?_
              refine w_t rfl ?_
              refine w_seq ?_
              refine w_reg rfl ?_
              refine v_assign rfl ?_
              refine v_assign (c := .v (.int .i64 5)) rfl ?_
              refine v_nil ?_
              refine q_n ?_
              refine w_ret (q_br (q_r ?_))
              refine r_r rfl ?_
              have he : i = N := by omega
              subst he
              rw [rd_4 h1 hN (by omega) hb0 h8]
              exact l_ans [none] rfl rfl ⟨rfl, trivial⟩ (a_tup (.cons (tr_nil rfl) (.cons tr_v .nil)))

theorem c43 (ds : List Int) (hx : ds.length ≤ 2 ^ 40) (hb : B8 ds) : PureC X 43 [.c (bys false ds)] (.tup [.c (tals true (rdR ds).1), cI (rdR ds).2]) :=
  (c43l ds hx hb).pure (a_tup (.cons (a_flat te_sc te_len rfl rfl) (.cons tr_v .nil)))

theorem c9 (ds : List Int) (hx : ds.length ≤ maxLen) (hb : B8 ds) : PureC X 9 [.c (bys false ds)] (cB true) := by
  refine PureC.of_body (drawD_ok X) (fun _ _ => Go.Proofs.Try.call9 _ _) Go.Proofs.Try.func9 rfl (n := 93) rfl ?_
  refine w_seq ?_
  refine w_reg rfl ?_
  refine v_assign (c := .v (.bool false)) rfl ?_
  refine v_nil ?_
  refine q_n ?_
  refine w_seq ?_
  refine w_seq ?_
  refine w_reg rfl ?_
  refine v_move rfl ?_
  refine v_len_sl lay47 rfl ?_
  refine v_gtr lay3 rfl rfl (fun h1 => ?_) (fun h1 => ?_)
  · skip
    refine v_nil ?_
    refine q_n ?_
    refine w_t rfl ?_
    refine w_seq ?_
    refine w_reg rfl ?_
    refine v_assign (c := .v (.bool true)) rfl ?_
    refine v_nil ?_
    refine q_n ?_
    refine w_ret (q_r ?_)
    refine r_r rfl ?_
    exact tr_v
  · skip
    have hln := rd_len ds
    refine v_nil ?_
    refine q_n ?_
    refine w_f rfl ?_
    refine w_skip ?_
    refine q_n ?_
    refine w_seq ?_
    refine w_reg rfl ?_
    refine v_move rfl ?_
    refine v_call (c40 _ (by omega)) rfl rfl rfl (.cons vw_sl .nil) ?_
    refine v_call (c42 _ (by omega) hb) rfl rfl rfl (.cons vw_sl .nil) ?_
    refine v_move_t rfl ?_
    refine v_extract_c rfl rfl ?_
    refine v_extract_c rfl rfl ?_
    refine v_assign rfl ?_
    refine v_assign rfl ?_
    refine v_nil ?_
    refine q_n ?_
    refine w_seq ?_
    refine w_reg rfl ?_
    refine v_move rfl ?_
    refine v_live1 (N := 0) (H' := [_]) (c40l _ (by omega)) (sc_flat be_sc _) rfl rfl rfl rfl rfl rfl (.cons vw_sl .nil) ?_
    refine v_assign rfl ?_
    refine v_nil ?_
    refine q_n ?_
    refine w_seq ?_
    refine w_reg rfl ?_
    refine v_move rfl ?_
    refine v_live1 (N := 1) (H' := [_, _]) (c43l _ (by omega) hb) (sc_flat te_sc _) rfl rfl rfl rfl rfl rfl (.cons (vw_mu2 be_sc be_len rfl (by first | (simp; done) | (simp; omega))) .nil) ?_
    refine v_move_t rfl ?_
    refine v_extract_c rfl rfl ?_
    refine v_extract_c rfl rfl ?_
    refine v_assign rfl ?_
    refine v_assign rfl ?_
    refine v_nil ?_
    refine q_n ?_
    refine w_seq ?_
    refine w_seq ?_
    refine w_reg rfl ?_
    refine v_move rfl ?_
    refine v_move rfl ?_
    refine v_callb (c25 _ _ (by omega)) rfl rfl (.cons (vw_mu2 te_sc te_len rfl (by first | (simp; done) | (simp; omega))) (.cons vw_sl .nil)) (fun h2 => ?_) (fun h2 => ?_)
    · skip
      refine v_not false rfl rfl ?_
      refine v_move rfl ?_
      refine v_guard_on rfl rfl ?_
      refine v_move rfl ?_
      refine v_guard_on rfl rfl ?_
      refine v_move rfl ?_
      refine v_guard_on rfl rfl ?_
      refine v_neq lay2 rfl rfl (fun h3 => ?_) (fun h3 => ?_)
      · skip
        exact absurd rfl h3
      · skip
        refine v_pick_f rfl rfl ?_
        refine v_nil ?_
        refine q_n ?_
        refine w_f rfl ?_
        refine w_skip ?_
        refine q_n ?_
        refine w_seq ?_
        refine w_seq ?_
        refine w_reg rfl ?_
        refine v_move rfl ?_
        refine v_move rfl ?_
        refine v_call (c40 _ (by omega)) rfl rfl rfl (.cons vw_sl .nil) ?_
        refine v_callb (c31 _ _ (by omega)) rfl rfl (.cons (vw_mu2 be_sc be_len rfl (by first | (simp; done) | (simp; omega))) (.cons vw_sl .nil)) (fun h4 => ?_) (fun h4 => ?_)
        · skip
          refine v_not false rfl rfl ?_
          refine v_nil ?_
          refine q_n ?_
          refine w_f rfl ?_
          refine w_skip ?_
          refine q_n ?_
          refine w_seq ?_
          refine w_reg rfl ?_
          refine v_assign (c := .v (.int .i64 1)) rfl ?_
          refine v_nil ?_
          refine q_n ?_
          refine w_seq ?_
          refine w_reg rfl ?_
          refine v_move rfl ?_
          refine v_move rfl ?_
          refine v_mark (H' := [_, _]) (c32 _ _ (by omega) (by omega)) rfl (sc_flat be_sc _) (sc_flat be_sc _) rfl rfl rfl rfl ?_
          refine v_assign rfl ?_
          refine v_nil ?_
          refine q_n ?_
          refine w_seq ?_
          refine w_seq ?_
          refine w_reg rfl ?_
          refine v_move rfl ?_
          refine v_lss lay3 rfl rfl (fun h5 => ?_) (fun h5 => ?_)
          · skip
            exact absurd h5 (by omega)
          · skip
            refine v_move rfl ?_
            refine v_guard_on rfl rfl ?_
            refine v_move rfl ?_
            refine v_guard_on rfl rfl ?_
            refine v_move rfl ?_
            refine v_guard_on rfl rfl ?_
            refine v_callb (c25 _ _ (by omega)) rfl rfl (.cons (vw_mu2 te_sc te_len rfl (by first | (simp; done) | (simp; omega))) (.cons vw_sl .nil)) (fun h6 => ?_) (fun h6 => ?_)
            · skip
              refine v_guard_on rfl rfl ?_
              refine v_not false rfl rfl ?_
              refine v_pick_f rfl rfl ?_
              refine v_move rfl ?_
              refine v_guard_on rfl rfl ?_
              refine v_move rfl ?_
              refine v_guard_on rfl rfl ?_
              refine v_move rfl ?_
              refine v_guard_on rfl rfl ?_
              refine v_neq lay2 rfl rfl (fun h7 => ?_) (fun h7 => ?_)
              · skip
                exact absurd rfl h7
              · skip
                refine v_pick_f rfl rfl ?_
                refine v_nil ?_
                refine q_n ?_
                refine w_f rfl ?_
                refine w_skip ?_
                refine q_n ?_
                refine w_seq ?_
                refine w_reg rfl ?_
                refine v_assign (c := .v (.int .i64 1)) rfl ?_
                refine v_nil ?_
                refine q_n ?_
                refine w_seq ?_
                refine w_reg rfl ?_
                refine v_move rfl ?_
                refine v_move rfl ?_
                refine v_mark (H' := [_, _]) (c26 _ _ (by omega) (by omega)) rfl (sc_flat te_sc _) (sc_flat te_sc _) rfl rfl rfl rfl ?_
                refine v_assign rfl ?_
                refine v_nil ?_
                refine q_n ?_
                refine w_seq ?_
                refine w_reg rfl ?_
                refine v_assign (c := .v (.int .i64 1)) rfl ?_
                refine v_nil ?_
                refine q_n ?_
                refine w_seq ?_
                refine w_reg rfl ?_
                refine v_move rfl ?_
                refine v_move rfl ?_
                refine v_call (c38 _ _ (by omega) (by omega)) rfl rfl rfl (.cons (vw_mu2 te_sc te_len rfl (by first | (simp; done) | (simp; omega))) (.cons vw_v .nil)) ?_
                refine v_assign rfl ?_
                refine v_nil ?_
                refine q_n ?_
                refine w_seq ?_
                refine w_seq ?_
                refine w_reg rfl ?_
                refine v_move rfl ?_
                refine v_lss lay3 rfl rfl (fun h8 => ?_) (fun h8 => ?_)
                · skip
                  exact absurd h8 (by omega)
                · skip
                  refine v_nil ?_
                  refine q_n ?_
                  refine w_f rfl ?_
                  refine w_skip ?_
                  refine q_n ?_
                  refine w_seq ?_
                  refine w_seq ?_
                  refine w_reg rfl ?_
                  refine v_move rfl ?_
                  refine v_move rfl ?_
                  refine v_neq lay3 rfl rfl (fun h9 => ?_) (fun h9 => ?_)
                  · skip
                    exact absurd rfl h9
                  · skip
                    refine v_nil ?_
                    refine q_n ?_
                    refine w_f rfl ?_
                    refine w_skip ?_
                    refine q_n ?_
                    refine w_seq ?_
                    refine w_reg rfl ?_
                    refine v_move rfl ?_
                    refine v_call (c40 _ (by omega)) rfl rfl rfl (.cons vw_sl .nil) ?_
                    refine v_call (c43 _ (by omega) hb) rfl rfl rfl (.cons vw_sl .nil) ?_
                    refine v_move_t rfl ?_
                    refine v_extract_c rfl rfl ?_
                    refine v_extract_c rfl rfl ?_
                    refine v_assign rfl ?_
                    refine v_assign rfl ?_
                    refine v_nil ?_
                    refine q_n ?_
                    refine w_seq ?_
                    refine w_seq ?_
                    refine w_reg rfl ?_
                    refine v_move rfl ?_
                    refine v_move rfl ?_
                    refine v_callb (c25 _ _ (by omega)) rfl rfl (.cons vw_sl (.cons vw_sl .nil)) (fun h10 => ?_) (fun h10 => ?_)
                    · skip
                      refine v_not false rfl rfl ?_
                      refine v_move rfl ?_
                      refine v_guard_on rfl rfl ?_
                      refine v_move rfl ?_
                      refine v_guard_on rfl rfl ?_
                      refine v_move rfl ?_
                      refine v_guard_on rfl rfl ?_
                      refine v_neq lay2 rfl rfl (fun h11 => ?_) (fun h11 => ?_)
                      · skip
                        exact absurd rfl h11
                      · skip
                        refine v_pick_f rfl rfl ?_
                        refine v_nil ?_
                        refine q_n ?_
                        refine w_f rfl ?_
                        refine w_skip ?_
                        refine q_n ?_
                        refine w_seq ?_
                        refine w_reg rfl ?_
                        refine v_assign (c := .v (.int .i64 1)) rfl ?_
                        refine v_nil ?_
                        refine q_n ?_
                        refine w_seq ?_
                        refine w_reg rfl ?_
                        refine v_move rfl ?_
                        refine v_move rfl ?_
                        refine v_call (c38 _ _ (by omega) (by omega)) rfl rfl rfl (.cons (vw_mu2 te_sc te_len rfl (by first | (simp; done) | (simp; omega))) (.cons vw_v .nil)) ?_
                        refine v_assign rfl ?_
                        refine v_nil ?_
                        refine q_n ?_
                        refine w_seq ?_
                        refine w_seq ?_
                        refine w_reg rfl ?_
                        refine v_move rfl ?_
                        refine v_lss lay3 rfl rfl (fun h12 => ?_) (fun h12 => ?_)
                        · skip
                          exact absurd h12 (by omega)
                        · skip
                          refine v_nil ?_
                          refine q_n ?_
                          refine w_f rfl ?_
                          refine w_skip ?_
                          refine q_n ?_
                          refine w_seq ?_
                          refine w_seq ?_
                          refine w_reg rfl ?_
                          refine v_move rfl ?_
                          refine v_move rfl ?_
                          refine v_neq lay3 rfl rfl (fun h13 => ?_) (fun h13 => ?_)
                          · skip
                            exact absurd rfl h13
                          · skip
                            refine v_nil ?_
                            refine q_n ?_
                            refine w_f rfl ?_
                            refine w_skip ?_
                            refine q_n ?_
                            refine w_seq ?_
                            refine w_reg rfl ?_
                            refine v_assign (c := .v (.bool true)) rfl ?_
                            refine v_nil ?_
                            refine q_n ?_
                            refine w_ret ?_
                            refine r_r rfl ?_
                            exact tr_v
                    · skip
                      exact absurd rfl h10
            · skip
              exact absurd rfl h6
        · skip
          exact absurd rfl h4
    · skip
      exact absurd rfl h2
end Go.VL
