/- Texts of one proof, put together: C6, C5, C7, C8, C9, C10, C11, P0. -/
import Derived.Test.YtenaamehifbfeaaM3
import Derived.Test.YtenaamehifbfeaaM2
namespace Go.VL
open Go.RowKit
set_option maxRecDepth 20000
def be (x : Int) : List C := [.v (.int .u8 x)]
theorem be_len (x : Int) : (be x).length = 1 := rfl
theorem be_sc (x : Int) : (be x).all sc = true := rfl
abbrev bys (o : Bool) (xs : List Int) : C := .sl o xs.length 1 (flat be xs)
def ye (xs : List Int) : List C := [bys true xs]
theorem ye_len (xs : List Int) : (ye xs).length = 1 := rfl
/-- Bytes. -/
def B8 (xs : List Int) : Prop := ∀ x ∈ xs, 0 ≤ x ∧ x ≤ 255
theorem a_u8 {H : List Ob} {a b : Int} (h : a = b) : TrV H [] (.c (.v (.int .u8 a))) (.c (.v (.int .u8 b))) := by rw [h]; exact tr_v
def stp (s : Int × Int) (x : Int) : Int × Int := ((s.1 + x).tmod 251, (s.2 + (s.1 + x).tmod 251).tmod 251)
/-- The sums of the check. -/
def ck (xs : List Int) : Int × Int := xs.foldl stp (1, 1)
theorem tm_in {a : Int} (h : 0 ≤ a) : 0 ≤ a.tmod 251 ∧ a.tmod 251 ≤ 250 := by
  have h1 := Int.tmod_nonneg 251 h
  have h2 := Int.tmod_lt_of_pos a (show (0 : Int) < 251 by decide)
  omega
theorem ck_take {xs : List Int} {i : Nat} (hi : i < xs.length) : ck (xs.take (i + 1)) = stp (ck (xs.take i)) xs[i] := by
  unfold ck
  rw [List.take_succ_eq_append_getElem hi, List.foldl_append]; rfl
theorem fold_in : ∀ {xs : List Int} (h : B8 xs) {s : Int × Int}, 0 ≤ s.1 → s.1 ≤ 250 → 0 ≤ s.2 → s.2 ≤ 250 → (0 ≤ (xs.foldl stp s).1 ∧ (xs.foldl stp s).1 ≤ 250) ∧ 0 ≤ (xs.foldl stp s).2 ∧ (xs.foldl stp s).2 ≤ 250
  | [], _, s, h1, h2, h3, h4 => ⟨⟨h1, h2⟩, h3, h4⟩
  | x :: xs, h, s, h1, h2, h3, h4 => by
    have hx := h x (by simp)
    have t1 := tm_in (a := s.1 + x) (by omega)
    have t2 := tm_in (a := s.2 + (s.1 + x).tmod 251) (by omega)
    exact fold_in (xs := xs) (fun y hy => h y (by simp [hy])) (s := stp s x) t1.1 t1.2 t2.1 t2.2
theorem ck_in {xs : List Int} (h : B8 xs) : (0 ≤ (ck xs).1 ∧ (ck xs).1 ≤ 250) ∧ 0 ≤ (ck xs).2 ∧ (ck xs).2 ≤ 250 := fold_in h (by decide) (by decide) (by decide) (by decide)
/-- A number in two bytes. -/
def sx (n : Int) : List Int := [IntKind.u8.wrap n, IntKind.u8.wrap (n / 256)]
theorem shr8 {k : IntKind} {a : Int} (h : 8 ≤ k.bits := by decide) : a.fdiv (2 ^ min (8 : Int).toNat k.bits) = a / 256 := by
  rw [show min (8 : Int).toNat k.bits = 8 by simp; omega]
  exact Int.fdiv_eq_ediv_of_nonneg _ (by decide)
theorem c125b (n : Nat) (h0 : 0 < n) (hn : n ≤ 2 ^ 30) : LiveC X 125 [.c (.v (.slice none 0 0)), cI n] (.c (.mu 0 0 0 1)) [⟨flat be [], 5, true⟩] := c125 n h0 hn
theorem tk_snoc {xss : List (List Int)} {i : Nat} (hi : i < xss.length) : (xss.take (i + 1)).flatten = (xss.take i).flatten ++ xss[i] := by
  rw [List.take_succ_eq_append_getElem hi, List.flatten_append, List.flatten_cons, List.flatten_nil, List.append_nil]
theorem tk_len {xss : List (List Int)} {i : Nat} (hi : i < xss.length) : (xss.take i).flatten.length + xss[i].length ≤ xss.flatten.length := by
  have h1 : xss.flatten = (xss.take (i + 1)).flatten ++ (xss.drop (i + 1)).flatten := by rw [← List.flatten_append, List.take_append_drop]
  rw [h1, tk_snoc hi]
  simp
theorem w8_in (n : Int) : 0 ≤ IntKind.u8.wrap n ∧ IntKind.u8.wrap n ≤ 255 := by
  simp only [IntKind.wrap, IntKind.bits, IntKind.signed]
  simp
  omega
/-- The bytes of a tally, with their check. -/
def recB (i t c f : Int) : List Int := [sx t, sx c, sx f].flatten ++ [(ck ([IntKind.u8.wrap i] ++ [sx t, sx c, sx f].flatten)).2]
theorem b8_rec (i t c f : Int) : B8 ([IntKind.u8.wrap i] ++ [sx t, sx c, sx f].flatten) := fun x hx => by
  simp only [sx, List.flatten_cons, List.flatten_nil, List.append_nil, List.mem_append, List.mem_cons, List.not_mem_nil, or_false] at hx
  rcases hx with rfl | (rfl | rfl) | (rfl | rfl) | rfl | rfl <;> exact w8_in _
theorem sx_eq {n : Int} (h : 0 ≤ n ∧ n ≤ 65535) : [IntKind.u8.wrap (n.tmod 256), IntKind.u8.wrap (IntKind.i64.wrap (n.tdiv 256))] = sx n := by
  unfold sx
  rw [Int.tmod_eq_emod_of_nonneg h.1, Int.tdiv_eq_ediv_of_nonneg h.1, wrap_of (k := .i64) ⟨show (-9223372036854775808 : Int) ≤ _ by omega, show _ ≤ (9223372036854775807 : Int) by omega⟩]
  have : IntKind.u8.wrap (n % 256) = IntKind.u8.wrap n := by
    simp only [IntKind.wrap, IntKind.bits, IntKind.signed]
    simp
  rw [this]
theorem six_step {t c f : Int} {i : Nat} (ht : 0 ≤ t ∧ t ≤ 65535) (hc : 0 ≤ c ∧ c ≤ 32767) (hf : 0 ≤ f ∧ f ≤ 32767) (hi : i < [t, c, f].length) : ([t, c, f].take (i + 1)).flatMap sx = ([t, c, f].take i).flatMap sx ++ [IntKind.u8.wrap ([t, c, f][i].tmod 256), IntKind.u8.wrap (IntKind.i64.wrap ([t, c, f][i].tdiv 256))] := by
  have hx : 0 ≤ [t, c, f][i] ∧ [t, c, f][i] ≤ 65535 := by
    have hm : [t, c, f][i] ∈ [t, c, f] := List.getElem_mem hi
    generalize [t, c, f][i] = x at hm
    simp only [List.mem_cons, List.not_mem_nil, or_false] at hm
    rcases hm with rfl | rfl | rfl <;> omega
  rw [sx_eq hx, List.take_succ_eq_append_getElem hi, List.flatMap_append]
  simp
theorem six_le (t c f : Int) (i : Nat) : (([t, c, f].take i).flatMap sx).length ≤ 6 := by
  match i with
  | 0 => simp
  | 1 => simp [sx]
  | 2 => simp [sx]
  | i + 3 => simp [sx]
theorem c91 (xs : List Int) (hx : xs.length ≤ 2 ^ 40) (hb : B8 xs) : PureC X 91 [.c (bys false xs)] (.c (.v (.int .u8 (ck xs).2))) := by
  refine PureC.of_body (drawD_ok X) (fun _ _ => Go.Proofs.Try.call91 _ _) Go.Proofs.Try.func91 rfl (n := 26) rfl ?_
  refine w_seq ?_
  refine w_reg rfl ?_
  refine v_assign (c := .v (.int .u8 0)) rfl ?_
  refine v_nil ?_
  refine q_n ?_
  refine w_seq ?_
  refine w_reg rfl ?_
  refine v_assign (c := .v (.int .i64 1)) rfl ?_
  refine v_nil ?_
  refine q_n ?_
  refine w_seq ?_
  refine w_reg rfl ?_
  refine v_assign (c := .v (.int .i64 1)) rfl ?_
  refine v_nil ?_
  refine q_n ?_
  refine w_seq ?_
  refine w_seq ?_
  refine w_reg rfl ?_
  refine v_assign (c := .v (.int .i64 0)) rfl ?_
  refine v_nil ?_
  refine q_n ?_
  refine w_block ?_
  refine w_loop (fun k sl H => ∃ i : Nat, k = xs.length - i ∧ i ≤ xs.length ∧ sl = sls [(0, .c (bys false xs)), (3, cI (ck (xs.take i)).1), (4, cI (ck (xs.take i)).2), (5, cI i)] ∧ H = []) ?_ ?_
  · refine ⟨_, _, _, ?_, 0, rfl, Nat.zero_le _, rfl, rfl⟩
    exact turn0 ⟨tr_sl, tr_i rfl, tr_i rfl, tr_v, trivial⟩
  · rintro k sl H ⟨i, rfl, hi, rfl, rfl⟩
    have hck := ck_in (xs := xs.take i) (fun x hx => hb x (List.mem_of_mem_take hx))
    refine w_seq ?_
    refine w_seq ?_
    refine w_reg rfl ?_
    refine v_move rfl ?_
    refine v_move rfl ?_
    refine v_len_sl lay47 rfl ?_
    refine v_lss lay3 rfl rfl (fun h1 => ?_) (fun h1 => ?_)
    · skip
      refine v_nil ?_
      refine q_n ?_
      refine w_t rfl ?_
      refine w_skip ?_
      refine q_n ?_
      refine w_seq ?_
      refine w_block ?_
      refine w_seq ?_
      refine w_reg rfl ?_
      refine v_move rfl ?_
      refine v_move rfl ?_
      refine v_move rfl ?_
      refine v_idx (k := 1) be_len lay47 lay5 rfl rfl rfl (rfl) rfl (by omega) (fun q2 hq2 e2 => ?_)
      obtain rfl : i = q2 := by omega
      refine v_load_vw (.c (.v _)) lay5 rfl rfl rfl ?_
      refine v_conv_ii lay5 lay2 rfl (by first | exact i64r (by have hx1 := bytes_in hb hq2; omega) | exact u8r (by omega)) ?_
      refine v_add lay2 rfl rfl (i64r (by have hx1 := bytes_in hb hq2; omega)) ?_
      refine v_bin (c := .v (.int .i64 _)) lay2 rfl rfl rfl ?_
      refine v_assign rfl ?_
      refine v_nil ?_
      refine q_n ?_
      refine w_reg rfl ?_
      refine v_move rfl ?_
      refine v_move rfl ?_
      refine v_add lay2 rfl rfl (i64r (by have hx1 := bytes_in hb hq2; have htm := tm_in (a := (ck (xs.take i)).1 + xs[i]) (by omega); omega)) ?_
      refine v_bin (c := .v (.int .i64 _)) lay2 rfl rfl rfl ?_
      refine v_assign rfl ?_
      refine v_nil ?_
      refine q_bn ?_
      refine q_n ?_
      refine w_reg rfl ?_
      refine v_move rfl ?_
      refine v_add lay3 rfl rfl (i64r (by omega)) ?_
      refine v_assign rfl ?_
      refine v_nil ?_
      refine q_n ?_
      refine ⟨_, _, _, ?_, ⟨i + 1, rfl, by omega, rfl, rfl⟩, by omega⟩
      exact turn0 ⟨tr_sl, tr_i (by rw [ck_take hq2]; rfl), tr_i (by rw [ck_take hq2]; rfl), tr_v, trivial⟩
    · skip
      refine v_nil ?_
      refine q_n ?_
      refine w_f rfl ?_
      refine w_exit ?_
      refine q_e ?_
      refine q_e ?_
      refine q_hit ?_
      refine q_n ?_
      refine w_seq ?_
      refine w_reg rfl ?_
      refine v_move rfl ?_
      refine v_conv_ii lay2 lay5 rfl (by first | exact i64r (by have hx1 := bytes_in hb hq2; omega) | exact u8r (by omega)) ?_
      refine v_assign rfl ?_
      refine v_nil ?_
      refine q_n ?_
      refine w_ret ?_
      refine r_r rfl ?_
      obtain rfl : i = xs.length := by omega
      exact a_u8 (by rw [List.take_length])

theorem c76 (xs : List Int) (hx : xs.length ≤ 2 ^ 40) (hb : B8 xs) : PureC X 76 [.c (bys false xs)] (.c (.v (.int .u8 (ck xs).2))) := by
  refine PureC.of_body (drawD_ok X) (fun _ _ => Go.Proofs.Try.call76 _ _) Go.Proofs.Try.func76 rfl (n := 25) rfl ?_
  refine w_seq ?_
  refine w_reg rfl ?_
  refine v_assign (c := .v (.int .u8 0)) rfl ?_
  refine v_nil ?_
  refine q_n ?_
  refine w_seq ?_
  refine w_reg rfl ?_
  refine v_assign (c := .v (.int .i64 1)) rfl ?_
  refine v_assign (c := .v (.int .i64 1)) rfl ?_
  refine v_nil ?_
  refine q_n ?_
  refine w_seq ?_
  refine w_seq ?_
  refine w_reg rfl ?_
  refine v_move rfl ?_
  refine v_len_sl lay47 rfl ?_
  refine v_move (c := .v (.int .i64 0)) rfl ?_
  refine v_nil ?_
  refine q_n ?_
  refine w_block ?_
  refine w_loop (fun k sl H => ∃ i : Nat, k = xs.length - i ∧ i ≤ xs.length ∧ sl = sls [(7, .c (bys false xs)), (3, cI (ck (xs.take i)).1), (4, cI (ck (xs.take i)).2), (8, cI xs.length), (9, cI i)] ∧ H = []) ?_ ?_
  · refine ⟨_, _, _, ?_, 0, rfl, Nat.zero_le _, rfl, rfl⟩
    exact turn0 ⟨tr_sl, tr_i rfl, tr_i rfl, tr_v, tr_v, trivial⟩
  · rintro k sl H ⟨i, rfl, hi, rfl, rfl⟩
    have hck := ck_in (xs := xs.take i) (fun x hx => hb x (List.mem_of_mem_take hx))
    refine w_seq ?_
    refine w_reg rfl ?_
    refine v_lss lay3 rfl rfl (fun h1 => ?_) (fun h1 => ?_)
    · skip
      refine v_nil ?_
      refine q_n ?_
      refine w_seq ?_
      refine w_t rfl ?_
      refine w_skip ?_
      refine q_n ?_
      refine w_seq ?_
      refine w_block ?_
      refine w_seq ?_
      refine w_reg rfl ?_
      refine v_idx (k := 1) be_len lay47 lay5 rfl rfl rfl (rfl) rfl (by omega) (fun q2 hq2 e2 => ?_)
      obtain rfl : i = q2 := by omega
      refine v_load_vw (.c (.v _)) lay5 rfl rfl rfl ?_
      refine v_assign rfl ?_
      refine v_nil ?_
      refine q_n ?_
      refine w_seq ?_
      refine w_reg rfl ?_
      refine v_move rfl ?_
      refine v_move rfl ?_
      refine v_conv_ii lay5 lay3 rfl (by first | exact i64r (by have hx1 := bytes_in hb hq2; omega) | exact u8r (by omega)) ?_
      refine v_add lay3 rfl rfl (i64r (by have hx1 := bytes_in hb hq2; omega)) ?_
      refine v_bin (c := .v (.int .i64 _)) lay3 rfl rfl rfl ?_
      refine v_assign rfl ?_
      refine v_nil ?_
      refine q_n ?_
      refine w_reg rfl ?_
      refine v_move rfl ?_
      refine v_move rfl ?_
      refine v_add lay3 rfl rfl (i64r (by have hx1 := bytes_in hb hq2; have htm := tm_in (a := (ck (xs.take i)).1 + xs[i]) (by omega); omega)) ?_
      refine v_bin (c := .v (.int .i64 _)) lay3 rfl rfl rfl ?_
      refine v_assign rfl ?_
      refine v_nil ?_
      refine q_bn ?_
      refine q_n ?_
      refine w_reg rfl ?_
      refine v_add lay3 rfl rfl (i64r (by omega)) ?_
      refine v_move rfl ?_
      refine v_nil ?_
      refine q_n ?_
      refine ⟨_, _, _, ?_, ⟨i + 1, rfl, by omega, rfl, rfl⟩, by omega⟩
      exact turn0 ⟨tr_sl, tr_i (by rw [ck_take hq2]; rfl), tr_i (by rw [ck_take hq2]; rfl), tr_v, tr_v, trivial⟩
    · skip
      refine v_nil ?_
      refine q_n ?_
      refine w_seq ?_
      refine w_f rfl ?_
      refine w_exit ?_
      refine q_e ?_
      refine q_e ?_
      refine q_hit ?_
      refine q_n ?_
      refine w_seq ?_
      refine w_reg rfl ?_
      refine v_move rfl ?_
      refine v_conv_ii lay3 lay5 rfl (by first | exact i64r (by have hx1 := bytes_in hb hq2; omega) | exact u8r (by omega)) ?_
      refine v_assign rfl ?_
      refine v_nil ?_
      refine q_n ?_
      refine w_ret ?_
      refine r_r rfl ?_
      obtain rfl : i = xs.length := by omega
      exact a_u8 (by rw [List.take_length])

theorem c108 (n : Int) : PureC X 108 [cI n] (.c (bys true (sx n))) := by
  refine PureC.of_body (drawD_ok X) (fun _ _ => Go.Proofs.Try.call108 _ _) Go.Proofs.Try.func108 rfl (n := 9) rfl ?_
  refine w_seq ?_
  refine w_reg rfl ?_
  refine v_assign rfl ?_
  refine v_nil ?_
  refine q_n ?_
  refine w_seq ?_
  refine w_reg rfl ?_
  refine v_move rfl ?_
  refine v_conv_iw lay2 lay5 rfl ?_
  refine v_move rfl ?_
  refine v_shr lay2 rfl rfl (shr8) (by decide) ?_
  refine v_conv_iw lay2 lay5 rfl ?_
  refine v_lit (flat be [_, _]) (H' := [_]) lay47 lay5 rfl rfl ⟨by decide, by decide⟩ rfl rfl ?_
  refine v_assign rfl ?_
  refine v_nil ?_
  refine q_n ?_
  refine w_ret ?_
  refine r_r rfl ?_
  exact a_flat2 be_sc be_len rfl rfl rfl rfl

theorem c107 (xss : List (List Int)) (h0 : 0 < xss.flatten.length) (hT : xss.flatten.length ≤ 2 ^ 20) (hl : xss.length ≤ 2 ^ 20) : LiveC X 107 [.c (.sl false xss.length 1 (flat ye xss))] (.c (.mu 0 0 xss.flatten.length 1)) [⟨flat be xss.flatten, 5, true⟩] := by
  refine LiveC.of_body (drawD_ok X) (fun _ _ => Go.Proofs.Try.call107 _ _) Go.Proofs.Try.func107 rfl (n := 36) rfl ?_
  refine w_seq ?_
  refine w_reg rfl ?_
  refine v_assign rfl ?_
  refine v_nil ?_
  refine q_n ?_
  refine w_seq ?_
  refine w_reg rfl ?_
  refine v_assign (c := .v (.int .i64 0)) rfl ?_
  refine v_nil ?_
  refine q_n ?_
  refine w_seq ?_
  refine w_seq ?_
  refine w_reg rfl ?_
  refine v_move rfl ?_
  refine v_len_sl lay141 rfl ?_
  refine v_move (c := .v (.int .i64 0)) rfl ?_
  refine v_nil ?_
  refine q_n ?_
  refine w_block ?_
  refine w_loop (fun k sl H => ∃ i : Nat, k = xss.length - i ∧ i ≤ xss.length ∧ sl = sls [(0, .c (.sl false xss.length 1 (flat ye xss))), (3, cI ((xss.take i).flatten.length : Nat)), (9, .c (.sl false xss.length 1 (flat ye xss))), (10, cI xss.length), (11, cI i)] ∧ H = []) ?_ ?_
  · refine ⟨_, _, _, ?_, 0, rfl, Nat.zero_le _, rfl, rfl⟩
    exact turn0 ⟨tr_sl, tr_i rfl, tr_sl, tr_v, tr_v, trivial⟩
  · rintro k sl H ⟨i, rfl, hi, rfl, rfl⟩
    refine w_seq ?_
    refine w_reg rfl ?_
    refine v_lss lay3 rfl rfl (fun h1 => ?_) (fun h1 => ?_)
    · skip
      refine v_nil ?_
      refine q_n ?_
      refine w_seq ?_
      refine w_t rfl ?_
      refine w_skip ?_
      refine q_n ?_
      refine w_seq ?_
      refine w_block ?_
      refine w_seq ?_
      refine w_reg rfl ?_
      refine v_idx (k := 1) ye_len lay141 lay47 rfl rfl rfl (rfl) rfl (by omega) (fun q2 hq2 e2 => ?_)
      obtain rfl : i = q2 := by omega
      refine v_load_vw (.c (_)) lay47 rfl rfl rfl ?_
      refine v_assign rfl ?_
      refine v_nil ?_
      refine q_n ?_
      refine w_seq ?_
      refine w_reg rfl ?_
      refine v_move rfl ?_
      refine v_move rfl ?_
      refine v_len_sl lay47 rfl ?_
      refine v_add lay3 rfl rfl (i64r (by have htk := tk_len hq2; omega)) ?_
      refine v_assign rfl ?_
      refine v_nil ?_
      refine q_n ?_
      refine w_seq ?_
      refine w_reg rfl ?_
      refine v_move rfl ?_
      refine v_lss lay3 rfl rfl (fun h3 => ?_) (fun h3 => ?_)
      · skip
        exact absurd h3 (by omega)
      · skip
        refine v_nil ?_
        refine q_n ?_
        refine w_f rfl ?_
        refine w_skip ?_
        refine q_bn ?_
        refine q_n ?_
        refine w_reg rfl ?_
        refine v_add lay3 rfl rfl (i64r (by omega)) ?_
        refine v_move rfl ?_
        refine v_nil ?_
        refine q_n ?_
        refine ⟨_, _, _, ?_, ⟨i + 1, rfl, by omega, rfl, rfl⟩, by omega⟩
        exact turn0 ⟨tr_sl, tr_i (by rw [tk_snoc hq2, List.length_append]; push_cast; rfl), tr_sl, tr_v, tr_v, trivial⟩
    · skip
      refine v_nil ?_
      refine q_n ?_
      refine w_seq ?_
      refine w_f rfl ?_
      refine w_exit ?_
      refine q_e ?_
      refine q_e ?_
      refine q_hit ?_
      refine q_n ?_
      refine w_seq ?_
      refine w_reg rfl ?_
      refine v_move rfl ?_
      refine v_live1 (N := 0) (H' := [_]) (c125b _ (by rw [List.take_of_length_le (by omega)]; exact h0) (by rw [List.take_of_length_le (by omega)]; omega)) (sc_flat be_sc _) rfl rfl rfl rfl rfl rfl (.cons vw_v (.cons vw_v .nil)) ?_
      refine v_assign rfl ?_
      refine v_nil ?_
      refine q_n ?_
      refine w_seq ?_
      refine w_seq ?_
      refine w_reg rfl ?_
      refine v_move rfl ?_
      refine v_len_sl lay141 rfl ?_
      refine v_move (c := .v (.int .i64 0)) rfl ?_
      refine v_nil ?_
      refine q_n ?_
      refine w_block ?_
      refine w_loop (fun k sl H => ∃ i : Nat, k = xss.length - i ∧ i ≤ xss.length ∧ sl = sls [(6, .c (.mu 0 0 (xss.take i).flatten.length 1)), (25, .c (.sl false xss.length 1 (flat ye xss))), (26, cI xss.length), (27, cI i)] ∧ H = [⟨flat be (xss.take i).flatten, 5, true⟩]) ?_ ?_
      · refine ⟨_, _, _, ?_, 0, rfl, Nat.zero_le _, rfl, rfl⟩
        exact turn [some 0] rfl rfl rfl ⟨⟨_, rfl, trc_flat be_sc rfl⟩, trivial⟩ ⟨tr_mun rfl rfl, tr_sl, tr_v, tr_v, trivial⟩
      · rintro k sl H ⟨i, rfl, hi, rfl, rfl⟩
        refine w_seq ?_
        refine w_reg rfl ?_
        refine v_lss lay3 rfl rfl (fun h4 => ?_) (fun h4 => ?_)
        · skip
          refine v_nil ?_
          refine q_n ?_
          refine w_seq ?_
          refine w_t rfl ?_
          refine w_skip ?_
          refine q_n ?_
          refine w_seq ?_
          refine w_block ?_
          refine w_seq ?_
          refine w_reg rfl ?_
          refine v_idx (k := 1) ye_len lay141 lay47 rfl rfl rfl (rfl) rfl (by omega) (fun q5 hq5 e5 => ?_)
          obtain rfl : i = q5 := by omega
          refine v_load_vw (.c (_)) lay47 rfl rfl rfl ?_
          refine v_assign rfl ?_
          refine v_nil ?_
          refine q_n ?_
          refine w_reg rfl ?_
          refine v_move rfl ?_
          refine v_move rfl ?_
          refine v_app_flat_sl (H' := [_, _]) be_sc be_len lay47 lay5 rfl rfl (by simp) rfl rfl rfl (by have htk := tk_len hq5; unfold maxLen; simp only []; omega) rfl rfl ?_
          refine v_assign rfl ?_
          refine v_nil ?_
          refine q_bn ?_
          refine q_n ?_
          refine w_reg rfl ?_
          refine v_add lay3 rfl rfl (i64r (by omega)) ?_
          refine v_move rfl ?_
          refine v_nil ?_
          refine q_n ?_
          refine ⟨_, _, _, ?_, ⟨i + 1, rfl, by omega, rfl, rfl⟩, by omega⟩
          exact turn [some 1] rfl rfl rfl ⟨⟨_, rfl, trc_flat be_sc (congrArg (flat be) (tk_snoc hq5).symm)⟩, trivial⟩ ⟨tr_mun rfl (by rw [tk_snoc hq5, List.length_append]), tr_sl, tr_v, tr_v, trivial⟩
        · skip
          refine v_nil ?_
          refine q_n ?_
          refine w_seq ?_
          refine w_f rfl ?_
          refine w_exit ?_
          refine q_e ?_
          refine q_e ?_
          refine q_hit ?_
          refine q_n ?_
          refine w_seq ?_
          refine w_reg rfl ?_
          refine v_move rfl ?_
          refine v_assign rfl ?_
          refine v_nil ?_
          refine q_n ?_
          refine w_ret ?_
          refine r_r rfl ?_
          have he : (xss.take i).flatten = xss.flatten := by rw [List.take_of_length_le (by omega)]
          exact l_ans [some 0] rfl rfl ⟨⟨_, rfl, trc_flat be_sc (congrArg (flat be) he)⟩, trivial⟩ (tr_mun rfl (congrArg List.length he))

theorem c75 (i t c f : Int) (hc : -32768 ≤ c ∧ c ≤ 32767) (hf : -32768 ≤ f ∧ f ≤ 32767) : PureC X 75 [cI i, .agg (tal t c f)] (.c (bys true (recB i t c f))) := by
  refine PureC.of_body (drawD_ok X) (fun _ _ => Go.Proofs.Try.call75 _ _) Go.Proofs.Try.func75 rfl (n := 28) rfl ?_
  refine w_seq ?_
  refine w_reg rfl ?_
  refine v_box (m := 0) (H' := [_]) lay27 rfl rfl rfl ?_
  refine v_assign rfl ?_
  refine v_nil ?_
  refine q_n ?_
  refine w_seq ?_
  refine w_draw [0, 1, 3, 0, 8, 24, 63, 0, 128, 384, 1023, 2047, 4095, 8191] [⟨0, 0, []⟩, ⟨1, 0, []⟩, ⟨2, 0, []⟩, ⟨3, 0, []⟩, ⟨4, 0, []⟩, ⟨5, 0, []⟩, ⟨6, 0, []⟩, ⟨7, 0, []⟩, ⟨8, 0, []⟩, ⟨9, 0, []⟩, ⟨10, 0, []⟩, ⟨11, 2, []⟩, ⟨12, 1, []⟩, ⟨13, 0, []⟩] rfl rfl ?_
  refine d_q rfl rfl rfl rfl rfl ?_
  refine v_fa_pt (off' := 0) lay27 rfl rfl rfl ?_
  refine v_nil ?_
  refine d_q rfl rfl rfl rfl rfl ?_
  refine v_load_pt (.c _) lay2 rfl rfl rfl rfl ?_
  refine v_nil ?_
  refine d_call (c108 _) rfl rfl rfl rfl rfl (.cons vw_v .nil) ?_
  refine d_q rfl rfl rfl rfl rfl ?_
  refine v_fa_pt (off' := 1) lay27 rfl rfl rfl ?_
  refine v_nil ?_
  refine d_q rfl rfl rfl rfl rfl ?_
  refine v_load_pt (.c _) lay23 rfl rfl rfl rfl ?_
  refine v_nil ?_
  refine d_q rfl rfl rfl rfl rfl ?_
  refine v_conv_ii lay23 lay2 rfl (i64r (by omega)) ?_
  refine v_nil ?_
  refine d_call (c108 _) rfl rfl rfl rfl rfl (.cons vw_v .nil) ?_
  refine d_q rfl rfl rfl rfl rfl ?_
  refine v_fa_pt (off' := 2) lay27 rfl rfl rfl ?_
  refine v_nil ?_
  refine d_q rfl rfl rfl rfl rfl ?_
  refine v_load_pt (.c _) lay23 rfl rfl rfl rfl ?_
  refine v_nil ?_
  refine d_q rfl rfl rfl rfl rfl ?_
  refine v_conv_ii lay23 lay2 rfl (i64r (by omega)) ?_
  refine v_nil ?_
  refine d_call (c108 _) rfl rfl rfl rfl rfl (.cons vw_v .nil) ?_
  refine d_z (.c (.sl true 3 1 (flat ye [_, _, _]))) rfl rfl rfl ?_
  refine d_live1 (N := 1) (H' := [_, _]) (c107 [sx t, sx c, sx f] (by simp [sx]) (by simp [sx]) (by simp)) (sc_flat be_sc _) rfl rfl rfl rfl rfl rfl rfl rfl (.cons vw_sl .nil) again_nil ?_
  refine d_q rfl rfl rfl rfl rfl ?_
  refine v_assign rfl ?_
  refine v_nil ?_
  refine d_nil ?_
  refine q_n ?_
  refine w_seq ?_
  refine w_reg rfl ?_
  refine v_move rfl ?_
  refine v_move rfl ?_
  refine v_conv_iw lay3 lay5 rfl ?_
  refine v_lit (flat be [_]) (H' := [_, _, _]) lay47 lay5 rfl rfl ⟨by decide, by decide⟩ rfl rfl ?_
  refine v_move rfl ?_
  refine v_app_flat (H' := [_, _, _, _]) be_sc be_len lay47 lay5 rfl rfl (by simp) rfl rfl (by simp) rfl rfl (by simp [sx, maxLen]) rfl rfl ?_
  refine v_call (c76 _ (by simp [sx]) (b8_rec _ _ _ _)) rfl rfl rfl (.cons (vw_mu2 be_sc be_len rfl (by first | (simp; done) | (simp; omega))) .nil) ?_
  refine v_lit (flat be [_]) (H' := [_, _, _, _, _]) lay47 lay5 rfl rfl ⟨by decide, by decide⟩ rfl rfl ?_
  refine v_app_flat (H' := [_, _, _, _, _, _]) be_sc be_len lay47 lay5 rfl rfl (by simp) rfl rfl (by simp) rfl rfl (by simp [sx, maxLen]) rfl rfl ?_
  refine v_assign rfl ?_
  refine v_nil ?_
  refine q_n ?_
  refine w_ret ?_
  refine r_r rfl ?_
  exact a_flat2 be_sc be_len rfl rfl (by simp [recB]; omega) (by simp [recB]; omega)

theorem c106 (t c f : Int) (ht : 0 ≤ t ∧ t ≤ 65535) (hc : 0 ≤ c ∧ c ≤ 32767) (hf : 0 ≤ f ∧ f ≤ 32767) : PureC X 106 [.c (.vw false (tal t c f) 0)] (.c (bys true [sx t, sx c, sx f].flatten)) := by
  refine PureC.of_body (drawD_ok X) (fun _ _ => Go.Proofs.Try.call106 _ _) Go.Proofs.Try.func106 rfl (n := 42) rfl ?_
  refine w_seq ?_
  refine w_reg rfl ?_
  refine v_assign rfl ?_
  refine v_nil ?_
  refine q_n ?_
  refine w_seq ?_
  refine w_reg rfl ?_
  refine v_lit (flat be []) (H' := [_]) lay47 lay5 rfl rfl ⟨by decide, by decide⟩ rfl rfl ?_
  refine v_assign rfl ?_
  refine v_nil ?_
  refine q_n ?_
  refine w_seq ?_
  refine w_draw [0, 1, 3, 7, 0, 16, 48, 112, 240, 0, 512, 1536, 3584, 7680, 16383, 32767] [⟨0, 0, []⟩, ⟨1, 0, []⟩, ⟨2, 0, []⟩, ⟨3, 0, []⟩, ⟨4, 0, []⟩, ⟨5, 0, []⟩, ⟨6, 0, []⟩, ⟨7, 0, []⟩, ⟨8, 0, []⟩, ⟨9, 0, []⟩, ⟨10, 0, []⟩, ⟨11, 0, []⟩, ⟨12, 0, []⟩, ⟨13, 0, []⟩, ⟨14, 2, []⟩, ⟨15, 0, []⟩] rfl rfl ?_
  refine d_q rfl rfl rfl rfl rfl ?_
  refine v_move rfl ?_
  refine v_nil ?_
  refine d_q rfl rfl rfl rfl rfl ?_
  refine v_nil_vw rfl ?_
  refine v_nil ?_
  refine d_q rfl rfl rfl rfl rfl ?_
  refine v_fa_vw (off' := 0) lay27 rfl rfl rfl ?_
  refine v_nil ?_
  refine d_q rfl rfl rfl rfl rfl ?_
  refine v_load_vw (.c (.v _)) lay2 rfl rfl rfl ?_
  refine v_nil ?_
  refine d_q rfl rfl rfl rfl rfl ?_
  refine v_move rfl ?_
  refine v_nil ?_
  refine d_q rfl rfl rfl rfl rfl ?_
  refine v_nil_vw rfl ?_
  refine v_nil ?_
  refine d_q rfl rfl rfl rfl rfl ?_
  refine v_fa_vw (off' := 1) lay27 rfl rfl rfl ?_
  refine v_nil ?_
  refine d_q rfl rfl rfl rfl rfl ?_
  refine v_load_vw (.c (.v _)) lay23 rfl rfl rfl ?_
  refine v_nil ?_
  refine d_q rfl rfl rfl rfl rfl ?_
  refine v_conv_ii lay23 lay2 rfl (i64r (by omega)) ?_
  refine v_nil ?_
  refine d_q rfl rfl rfl rfl rfl ?_
  refine v_move rfl ?_
  refine v_nil ?_
  refine d_q rfl rfl rfl rfl rfl ?_
  refine v_nil_vw rfl ?_
  refine v_nil ?_
  refine d_q rfl rfl rfl rfl rfl ?_
  refine v_fa_vw (off' := 2) lay27 rfl rfl rfl ?_
  refine v_nil ?_
  refine d_q rfl rfl rfl rfl rfl ?_
  refine v_load_vw (.c (.v _)) lay23 rfl rfl rfl ?_
  refine v_nil ?_
  refine d_q rfl rfl rfl rfl rfl ?_
  refine v_conv_ii lay23 lay2 rfl (i64r (by omega)) ?_
  refine v_nil ?_
  refine d_z (.c (.sl true 3 1 (flat int [_, _, _]))) rfl rfl rfl ?_
  refine d_q rfl rfl rfl rfl rfl ?_
  refine v_assign rfl ?_
  refine v_nil ?_
  refine d_nil ?_
  refine q_n ?_
  refine w_seq ?_
  refine w_seq ?_
  refine w_reg rfl ?_
  refine v_assign (c := .v (.int .i64 0)) rfl ?_
  refine v_nil ?_
  refine q_n ?_
  refine w_block ?_
  refine w_loop (fun k sl H => ∃ i : Nat, k = 3 - i ∧ i ≤ 3 ∧ sl = sls [(3, .c (.mu 0 0 (([t, c, f].take i).flatMap sx).length 1)), (4, .c (.sl true 3 1 (flat int [t, c, f]))), (5, cI i)] ∧ H = [⟨flat be (([t, c, f].take i).flatMap sx), 5, true⟩]) ?_ ?_
  · refine ⟨_, _, _, ?_, 0, rfl, Nat.zero_le _, rfl, rfl⟩
    exact turn [some 0] rfl rfl rfl ⟨⟨_, rfl, trc_flat be_sc rfl⟩, trivial⟩ ⟨tr_mun rfl rfl, tr_sl, tr_v, trivial⟩
  · rintro k sl H ⟨i, rfl, hi, rfl, rfl⟩
    refine w_seq ?_
    refine w_seq ?_
    refine w_reg rfl ?_
    refine v_move rfl ?_
    refine v_lss lay3 rfl rfl (fun h1 => ?_) (fun h1 => ?_)
    · skip
      refine v_nil ?_
      refine q_n ?_
      refine w_t rfl ?_
      refine w_skip ?_
      refine q_n ?_
      refine w_seq ?_
      refine w_block ?_
      refine w_draw [0, 0, 0, 6, 14, 30, 62, 0, 0, 384, 896, 1920, 3968, 8190, 16383, 32767] [⟨0, 0, []⟩, ⟨1, 0, []⟩, ⟨2, 0, []⟩, ⟨3, 0, []⟩, ⟨4, 0, []⟩, ⟨5, 0, []⟩, ⟨6, 0, []⟩, ⟨7, 0, []⟩, ⟨8, 0, []⟩, ⟨9, 0, []⟩, ⟨10, 0, []⟩, ⟨11, 0, []⟩, ⟨12, 0, []⟩, ⟨13, 2, []⟩, ⟨14, 1, []⟩, ⟨15, 0, []⟩] rfl rfl ?_
      refine d_q rfl rfl rfl rfl rfl ?_
      refine v_move rfl ?_
      refine v_nil ?_
      refine d_q rfl rfl rfl rfl rfl ?_
      refine v_move rfl ?_
      refine v_nil ?_
      refine d_q rfl rfl rfl rfl rfl ?_
      refine v_move rfl ?_
      refine v_nil ?_
      refine d_q rfl rfl rfl rfl rfl ?_
      refine v_idx (k := 1) int_len lay118 lay2 rfl rfl rfl (rfl) rfl (by simp only [List.length_cons, List.length_nil]; omega) (fun q2 hq2 e2 => ?_)
      obtain rfl : i = q2 := by omega
      refine v_nil ?_
      refine d_q rfl rfl rfl rfl rfl ?_
      refine v_load_vw (.c (.v _)) lay2 rfl rfl rfl ?_
      refine v_nil ?_
      refine d_q rfl rfl rfl rfl rfl ?_
      refine v_bin (c := .v (.int .i64 _)) lay2 rfl rfl rfl ?_
      refine v_nil ?_
      refine d_q rfl rfl rfl rfl rfl ?_
      refine v_conv_iw lay2 lay5 rfl ?_
      refine v_nil ?_
      refine d_q rfl rfl rfl rfl rfl ?_
      refine v_move rfl ?_
      refine v_nil ?_
      refine d_q rfl rfl rfl rfl rfl ?_
      refine v_move rfl ?_
      refine v_nil ?_
      refine d_q rfl rfl rfl rfl rfl ?_
      refine v_idx (k := 1) int_len lay118 lay2 rfl rfl rfl (rfl) rfl (by simp only [List.length_cons, List.length_nil]; omega) (fun q3 hq3 e3 => ?_)
      obtain rfl : i = q3 := by omega
      refine v_nil ?_
      refine d_q rfl rfl rfl rfl rfl ?_
      refine v_load_vw (.c (.v _)) lay2 rfl rfl rfl ?_
      refine v_nil ?_
      refine d_q rfl rfl rfl rfl rfl ?_
      refine v_bin (c := .v (.int .i64 _)) lay2 rfl rfl rfl ?_
      refine v_nil ?_
      refine d_q rfl rfl rfl rfl rfl ?_
      refine v_conv_iw lay2 lay5 rfl ?_
      refine v_nil ?_
      refine d_z (.c (.sl true 2 1 (flat be [_, _]))) rfl rfl rfl ?_
      refine d_e rfl rfl rfl ?_
      refine v_app_flat_sl (H' := [_, _]) be_sc be_len lay47 lay5 rfl rfl (by simp) rfl rfl rfl (by have hfl := six_le t c f i; unfold maxLen; simp only []; omega) rfl rfl ?_
      refine v_nil ⟨again_nil, ?_⟩
      refine d_q rfl rfl rfl rfl rfl ?_
      refine v_assign rfl ?_
      refine v_nil ?_
      refine d_nil ?_
      refine q_bn ?_
      refine q_n ?_
      refine w_reg rfl ?_
      refine v_move rfl ?_
      refine v_add lay3 rfl rfl (i64r (by omega)) ?_
      refine v_assign rfl ?_
      refine v_nil ?_
      refine q_n ?_
      have hst := six_step (i := i) ht hc hf hq2
      refine ⟨_, _, _, ?_, ⟨i + 1, rfl, by omega, rfl, rfl⟩, by omega⟩
      exact turn [some 1] rfl rfl rfl ⟨⟨_, rfl, trc_flat be_sc (congrArg (flat be) hst.symm)⟩, trivial⟩ ⟨tr_mun rfl (by rw [hst]; simp), tr_sl, tr_v, trivial⟩
    · skip
      refine v_nil ?_
      refine q_n ?_
      refine w_f rfl ?_
      refine w_exit ?_
      refine q_e ?_
      refine q_e ?_
      refine q_hit ?_
      refine q_n ?_
      refine w_seq ?_
      refine w_reg rfl ?_
      refine v_move rfl ?_
      refine v_assign rfl ?_
      refine v_nil ?_
      refine q_n ?_
      refine w_ret ?_
      refine r_r rfl ?_
      obtain rfl : i = 3 := by omega
      exact a_flat2 be_sc be_len rfl (by simp [List.flatMap]) rfl (by simp [sx])
end Go.VL
namespace Go.VL
open Go.RowKit
set_option maxRecDepth 20000
/-- A number between two others. -/
def btw (a b : Int) (q : Option Nat) : Int := countOf (fop .add .f32 (fl2 a) (fop .mul .f32 (fl2 (b - a)) q))
theorem along_eq {a b : Int} {q : Option Nat} (ha : -32768 ≤ a ∧ a ≤ 32767) (hb : -32768 ≤ b ∧ b ≤ 32767) : countOf (fop .add .f32 (fl2 a) (fop .mul .f32 (fop .sub .f32 (fl2 b) (fl2 a)) q)) = btw a b q := by
  unfold btw
  have hd : fop .sub .f32 (fl2 b) (fl2 a) = fl2 (b - a) := sub_int (by omega) (by omega) (by omega)
  rw [hd]
/-- The tally of a gap. -/
def gapAt (a b : Tal) (j : Nat) : Tal := (a.1 + 1 + j, btw a.2.1 b.2.1 (fop .quo .f32 (fl2 (a.1 + 1 + j - a.1)) (fl2 (b.1 - a.1))), btw a.2.2 b.2.2 (fop .quo .f32 (fl2 (a.1 + 1 + j - a.1)) (fl2 (b.1 - a.1))))
def gapN (a b : Tal) : Nat := (b.1 - a.1 - 1).toNat
def z3 : Tal := (0, 0, 0)
/-- A tally with the gap before it, filled. -/
def fills (xs : List Tal) : Nat → List Tal
  | 0 => [xs.getD 0 (0, 0, 0)]
  | i + 1 => (List.range (gapN (xs.getD i (0, 0, 0)) (xs.getD (i + 1) (0, 0, 0)))).map (gapAt (xs.getD i (0, 0, 0)) (xs.getD (i + 1) (0, 0, 0))) ++ [xs.getD (i + 1) (0, 0, 0)]
def outs (xs : List Tal) : Nat → List Tal
  | 0 => []
  | i + 1 => outs xs i ++ fills xs i
def gOk (xs : List Tal) : Prop := ∀ a b (hb : b < xs.length), (hab : b = a + 1) → xs[b].1 - (xs[a]'(by omega)).1 ≤ 13
noncomputable instance (xs : List Tal) : Decidable (gOk xs) := Classical.propDecidable _
noncomputable def fgR (xs : List Tal) : List Tal × Int := if okL xs then if gOk xs then if 96 < (outs xs xs.length).length then ([], 3) else (outs xs xs.length, 0) else ([], 4) else ([], 1)
section
variable {xs : List Tal}
theorem fg_1 (h1 : ¬ okL xs) : fgR xs = ([], 1) := by unfold fgR; rw [if_neg h1]
theorem fg_4 (h1 : okL xs) {i q : Nat} (hi : i < xs.length) (hq : q < xs.length) (e : (i : Int) - 1 = q) (h : ¬ xs[i].1 - xs[q].1 ≤ 13) : fgR xs = ([], 4) := by
  unfold fgR
  rw [if_pos h1, if_neg fun hg => h (hg q i hi (by omega))]
theorem fg_3 (h1 : okL xs) (h2 : gOk xs) (h : 96 < (outs xs xs.length).length) : fgR xs = ([], 3) := by
  unfold fgR
  rw [if_pos h1, if_pos h2, if_pos h]
theorem fg_0 (h1 : okL xs) (h2 : gOk xs) (h : ¬ 96 < (outs xs xs.length).length) : fgR xs = (outs xs xs.length, 0) := by
  unfold fgR
  rw [if_pos h1, if_pos h2, if_neg h]
theorem turnT (h : okL xs) {q : Nat} (hq : q < xs.length) : 0 ≤ xs[q].1 ∧ xs[q].1 ≤ 65535 := (h.2 q hq).1
theorem gap_grow {i q : Nat} (hp : ∀ a b (hb : b < xs.length), b < i → (hab : b = a + 1) → xs[b].1 - (xs[a]'(by omega)).1 ≤ 13) (hi : i < xs.length) (hq : q < xs.length) (e : (i : Int) - 1 = q) (h : xs[i].1 - xs[q].1 ≤ 13) : ∀ a b (hb : b < xs.length), b < i + 1 → (hab : b = a + 1) → xs[b].1 - (xs[a]'(by omega)).1 ≤ 13 := fun a b hb hlt hab => by
  by_cases he : b = i
  · subst he
    obtain rfl : a = q := by omega
    exact h
  · exact hp a b hb (by omega) hab
theorem gapN_eq (h : okL xs) {i q : Nat} (hi : i < xs.length) (hq : q < xs.length) (e : i = q + 1) : (gapN xs[q] xs[i] : Int) = xs[i].1 - xs[q].1 - 1 := by
  have := (h.2 i hi).2.2.2.2 q hq e
  unfold gapN
  omega
theorem outs_first {i : Nat} (hi : i < xs.length) (h : ¬ (0 : Int) < i) : outs xs (i + 1) = outs xs i ++ [xs[i]] := by
  obtain rfl : i = 0 := by omega
  simp only [outs, fills, getD_at hi]
theorem outs_next {i q : Nat} (hi : i < xs.length) (e : (i : Int) - 1 = q) (hq : q < xs.length) : outs xs (i + 1) = (outs xs i ++ (List.range (gapN xs[q] xs[i])).map (gapAt xs[q] xs[i])) ++ [xs[i]] := by
  obtain rfl : i = q + 1 := by omega
  show outs xs (q + 1) ++ fills xs (q + 1) = _
  simp only [fills, getD_at hi, getD_at hq, List.append_assoc]
theorem outs_len (hg : gOk xs) : ∀ i, i ≤ xs.length → (outs xs i).length ≤ 14 * i
  | 0, _ => by simp [outs]
  | i + 1, hi => by
    have ih := outs_len hg i (by omega)
    by_cases h0 : (0 : Int) < i
    · have hq : i - 1 < xs.length := by omega
      rw [outs_next (q := i - 1) (by omega) (by omega) hq]
      have := hg (i - 1) i (by omega) (by omega)
      have hn : gapN xs[i - 1] xs[i] ≤ 12 := by unfold gapN; omega
      simp; omega
    · rw [outs_first (by omega) h0]
      simp; omega
end
theorem fg_len (xs : List Tal) : (fgR xs).1.length ≤ 96 := by
  unfold fgR
  split
  · split
    · split
      · simp
      · simp only []; omega
    · simp
  · simp
theorem stay_te (x : Tal) : ∀ c ∈ te x, stays c = true := fun c hc => by
  simp only [te, List.mem_cons, List.not_mem_nil, or_false] at hc
  rcases hc with rfl | rfl | rfl <;> rfl
theorem gap_step {L : List Tal} {f : Nat → Tal} {j : Nat} {x : Tal} (h : x = f j) : (L ++ (List.range j).map f) ++ [x] = L ++ (List.range (j + 1)).map f := by
  rw [range_step, h, List.append_assoc]
theorem c83 (a b : Int) (q : Option Nat) (ha : -32768 ≤ a ∧ a ≤ 32767) (hb : -32768 ≤ b ∧ b ≤ 32767) : PureC X 83 [.c (.v (.int .i16 a)), .c (.v (.int .i16 b)), .c (.f .f32 q)] (.c (.v (.int .i16 (btw a b q)))) := by
  refine PureC.of_body (drawD_ok X) (fun _ _ => Go.Proofs.Try.call83 _ _) Go.Proofs.Try.func83 rfl (n := 19) rfl ?_
  refine w_seq ?_
  refine w_reg rfl ?_
  refine v_assign (c := .v (.int .i16 0)) rfl ?_
  refine v_nil ?_
  refine q_n ?_
  refine w_seq ?_
  refine w_reg rfl ?_
  refine v_move rfl ?_
  refine v_conv_if lay23 lay22 rfl ?_
  refine v_move rfl ?_
  refine v_conv_ii lay23 lay2 rfl (i64r (by omega)) ?_
  refine v_move rfl ?_
  refine v_conv_ii lay23 lay2 rfl (i64r (by omega)) ?_
  refine v_sub lay2 rfl rfl (i64r (by omega)) ?_
  refine v_conv_if lay2 lay22 rfl ?_
  refine v_move rfl ?_
  refine v_bin (c := .f _ _) lay22 rfl rfl rfl ?_
  refine v_bin (c := .f _ _) lay22 rfl rfl rfl ?_
  refine v_call (c63 _ fop_ok) rfl rfl rfl (.cons vw_f .nil) ?_
  refine v_assign rfl ?_
  refine v_nil ?_
  refine q_n ?_
  refine w_ret ?_
  refine r_r rfl ?_
  exact a_16 rfl

theorem c84 (a b : Int) (q : Option Nat) (ha : -32768 ≤ a ∧ a ≤ 32767) (hb : -32768 ≤ b ∧ b ≤ 32767) : PureC X 84 [.c (.v (.int .i16 a)), .c (.v (.int .i16 b)), .c (.f .f32 q)] (.c (.v (.int .i16 (btw a b q)))) := by
  refine PureC.of_body (drawD_ok X) (fun _ _ => Go.Proofs.Try.call84 _ _) Go.Proofs.Try.func84 rfl (n := 18) rfl ?_
  refine w_seq ?_
  refine w_reg rfl ?_
  refine v_assign (c := .v (.int .i16 0)) rfl ?_
  refine v_nil ?_
  refine q_n ?_
  refine w_seq ?_
  refine w_reg rfl ?_
  refine v_move rfl ?_
  refine v_conv_if lay23 lay22 rfl ?_
  refine v_move rfl ?_
  refine v_conv_if lay23 lay22 rfl ?_
  refine v_move rfl ?_
  refine v_conv_if lay23 lay22 rfl ?_
  refine v_bin (c := .f _ _) lay22 rfl rfl rfl ?_
  refine v_move rfl ?_
  refine v_bin (c := .f _ _) lay22 rfl rfl rfl ?_
  refine v_bin (c := .f _ _) lay22 rfl rfl rfl ?_
  refine v_call (c68 _ fop_ok) rfl rfl rfl (.cons vw_f .nil) ?_
  refine v_assign rfl ?_
  refine v_nil ?_
  refine q_n ?_
  refine w_ret ?_
  refine r_r rfl ?_
  exact a_16 (along_eq ha hb)

theorem c36 (xs : List Tal) (hx : xs.length ≤ 2 ^ 40) (hb : T16 xs) : PureC X 36 [.c (tals false xs)] (.tup [.c (tals true (fgR xs).1), cI (fgR xs).2]) := by
  refine PureC.of_body (drawD_ok X) (fun _ _ => Go.Proofs.Try.call36 _ _) Go.Proofs.Try.func36 rfl (n := 119) rfl ?_
  refine w_seq ?_
  refine w_reg rfl ?_
  refine v_assign rfl ?_
  refine v_assign (c := .v (.int .i64 0)) rfl ?_
  refine v_nil ?_
  refine q_n ?_
  refine w_seq ?_
  refine w_seq ?_
  refine w_reg rfl ?_
  refine v_move rfl ?_
  refine v_callb (c70 _ (by omega)) rfl rfl (.cons vw_sl .nil) (fun h1 => ?_) (fun h1 => ?_)
  · skip
    refine v_not false rfl rfl ?_
    refine v_nil ?_
    refine q_n ?_
    refine w_f rfl ?_
    refine w_skip ?_
    refine q_n ?_
    refine w_seq ?_
    refine w_seq ?_
    refine w_reg rfl ?_
    refine v_assign (c := .v (.int .i64 1)) rfl ?_
    refine v_nil ?_
    refine q_n ?_
    refine w_block ?_
    refine w_loop (fun k sl H => ∃ i : Nat, k = xs.length - i ∧ 1 ≤ i ∧ i ≤ xs.length + 1 ∧ (∀ a b (hb : b < xs.length), b < i → (hab : b = a + 1) → xs[b].1 - (xs[a]'(by omega)).1 ≤ 13) ∧ sl = sls [(0, .c (tals false xs)), (4, cI i)] ∧ H = []) ?_ ?_
    · refine ⟨_, _, _, ?_, 1, rfl, by omega, by omega, fun a b hb h hab => absurd h (by omega), rfl, rfl⟩
      exact turn0 ⟨tr_sl, tr_v, trivial⟩
    · rintro k sl H ⟨i, rfl, hi0, hi, hp, rfl, rfl⟩
      refine w_seq ?_
      refine w_seq ?_
      refine w_reg rfl ?_
      refine v_move rfl ?_
      refine v_move rfl ?_
      refine v_len_sl lay40 rfl ?_
      refine v_lss lay3 rfl rfl (fun h2 => ?_) (fun h2 => ?_)
      · skip
        refine v_nil ?_
        refine q_n ?_
        refine w_t rfl ?_
        refine w_skip ?_
        refine q_n ?_
        refine w_seq ?_
        refine w_block ?_
        refine w_seq ?_
        refine w_draw [0, 0, 3, 7, 15, 0, 0, 64, 224, 480, 992, 2047, 4095] [⟨0, 0, []⟩, ⟨1, 0, []⟩, ⟨2, 0, []⟩, ⟨3, 0, []⟩, ⟨4, 0, []⟩, ⟨5, 0, []⟩, ⟨6, 0, []⟩, ⟨7, 0, []⟩, ⟨8, 0, []⟩, ⟨9, 0, []⟩, ⟨10, 0, []⟩, ⟨11, 0, []⟩, ⟨12, 0, []⟩] rfl rfl ?_
        refine d_q rfl rfl rfl rfl rfl ?_
        refine v_move rfl ?_
        refine v_nil ?_
        refine d_q rfl rfl rfl rfl rfl ?_
        refine v_move rfl ?_
        refine v_nil ?_
        refine d_q rfl rfl rfl rfl rfl ?_
        refine v_idx (k := 3) te_len lay40 lay27 rfl rfl rfl (rfl) rfl (by omega) (fun q3 hq3 e3 => ?_)
        obtain rfl : i = q3 := by omega
        refine v_nil ?_
        refine d_q rfl rfl rfl rfl rfl ?_
        refine v_fa_vw (off' := 0) lay27 rfl rfl rfl ?_
        refine v_nil ?_
        refine d_q rfl rfl rfl rfl rfl ?_
        refine v_load_vw (.c (.v _)) lay2 rfl rfl rfl ?_
        refine v_nil ?_
        refine d_q rfl rfl rfl rfl rfl ?_
        refine v_move rfl ?_
        refine v_nil ?_
        refine d_q rfl rfl rfl rfl rfl ?_
        refine v_move rfl ?_
        refine v_nil ?_
        refine d_q rfl rfl rfl rfl rfl ?_
        refine v_sub lay3 rfl rfl (by first | exact i64r (by omega) | exact i64r (by have b1 := turnT h1 hq3; have b2 := turnT h1 hq4; omega)) ?_
        refine v_nil ?_
        refine d_q rfl rfl rfl rfl rfl ?_
        refine v_idx (k := 3) te_len lay40 lay27 rfl rfl rfl (rfl) rfl (by omega) (fun q4 hq4 e4 => ?_)
        refine v_nil ?_
        refine d_q rfl rfl rfl rfl rfl ?_
        refine v_fa_vw (off' := 0) lay27 rfl rfl rfl ?_
        refine v_nil ?_
        refine d_q rfl rfl rfl rfl rfl ?_
        refine v_load_vw (.c (.v _)) lay2 rfl rfl rfl ?_
        refine v_nil ?_
        refine d_q rfl rfl rfl rfl rfl ?_
        refine v_sub lay2 rfl rfl (by first | exact i64r (by omega) | exact i64r (by have b1 := turnT h1 hq3; have b2 := turnT h1 hq4; omega)) ?_
        refine v_nil ?_
        refine d_q rfl rfl rfl rfl rfl ?_
        refine v_gtr lay2 rfl rfl (fun h5 => ?_) (fun h5 => ?_)
        · skip
          refine v_nil ?_
          refine d_nil ?_
          refine q_n ?_
          refine w_t rfl ?_
          refine w_seq ?_
          refine w_reg rfl ?_
          refine v_lit (flat te []) (H' := [_]) lay40 lay27 rfl rfl ⟨by decide, by decide⟩ rfl rfl ?_
          refine v_assign rfl ?_
          refine v_assign (c := .v (.int .i64 4)) rfl ?_
          refine v_nil ?_
          refine q_n ?_
          refine w_ret (q_br (q_r (q_r (q_br (q_r ?_)))))
          refine r_r rfl ?_
          rw [fg_4 h1 hq3 hq4 e4 (by omega)]
          exact a_tup (.cons (a_flat2 te_sc te_len rfl rfl rfl rfl) (.cons tr_v .nil))
        · skip
          refine v_nil ?_
          refine d_nil ?_
          refine q_n ?_
          refine w_f rfl ?_
          refine w_skip ?_
          refine q_bn ?_
          refine q_n ?_
          refine w_reg rfl ?_
          refine v_move rfl ?_
          refine v_add lay3 rfl rfl (i64r (by omega)) ?_
          refine v_assign rfl ?_
          refine v_nil ?_
          refine q_n ?_
          refine ⟨_, _, _, ?_, ⟨i + 1, rfl, by omega, by omega, gap_grow hp hq3 hq4 e4 (by omega), rfl, rfl⟩, by omega⟩
          exact turn0 ⟨tr_sl, tr_v, trivial⟩
      · skip
        refine v_nil ?_
        refine q_n ?_
        refine w_f rfl ?_
        refine w_exit ?_
        refine q_e ?_
        refine q_e ?_
        refine q_hit ?_
        refine q_n ?_
        refine w_seq ?_
        refine w_reg rfl ?_
        refine v_lit (flat te []) (H' := [_]) lay40 lay27 rfl rfl ⟨by decide, by decide⟩ rfl rfl ?_
        refine v_assign rfl ?_
        refine v_nil ?_
        refine q_n ?_
        refine w_seq ?_
        refine w_seq ?_
        refine w_reg rfl ?_
        refine v_assign (c := .v (.int .i64 0)) rfl ?_
        refine v_nil ?_
        refine q_n ?_
        refine w_block ?_
        refine w_loop (fun k sl H => ∃ i : Nat, k = xs.length - i ∧ i ≤ xs.length ∧ sl = sls [(0, .c (tals false xs)), (5, .c (.mu 0 0 (outs xs i).length 3)), (6, cI i)] ∧ H = [⟨flat te (outs xs i), 27, true⟩]) ?_ ?_
        · have hgk : gOk xs := fun a b hb hab => hp a b hb (by omega) hab
          refine ⟨_, _, _, ?_, 0, rfl, Nat.zero_le _, rfl, rfl⟩
          exact turn [some 0] rfl rfl rfl ⟨⟨_, rfl, trc_flat te_sc rfl⟩, trivial⟩ ⟨tr_sl, tr_mu rfl, tr_v, trivial⟩
        · rintro k sl H ⟨i, rfl, hi, rfl, rfl⟩
          have hgk : gOk xs := fun a b hb hab => hp a b hb (by omega) hab
          refine w_seq ?_
          refine w_seq ?_
          refine w_reg rfl ?_
          refine v_move rfl ?_
          refine v_move rfl ?_
          refine v_len_sl lay40 rfl ?_
          refine v_lss lay3 rfl rfl (fun h6 => ?_) (fun h6 => ?_)
          · skip
            refine v_nil ?_
            refine q_n ?_
            refine w_t rfl ?_
            refine w_skip ?_
            refine q_n ?_
            refine w_seq ?_
            refine w_block ?_
            refine w_seq ?_
            refine w_seq ?_
            refine w_reg rfl ?_
            refine v_move rfl ?_
            refine v_gtr lay3 rfl rfl (fun h7 => ?_) (fun h7 => ?_)
            · skip
              refine v_nil ?_
              refine q_n ?_
              refine w_t rfl ?_
              refine w_seq ?_
              refine w_reg rfl ?_
              refine v_move rfl ?_
              refine v_move rfl ?_
              refine v_sub lay3 rfl rfl (i64r (by omega)) ?_
              refine v_idx (k := 3) te_len lay40 lay27 rfl rfl rfl (rfl) rfl (by omega) (fun q8 hq8 e8 => ?_)
              refine v_assign rfl ?_
              refine v_nil ?_
              refine q_n ?_
              refine w_seq ?_
              refine w_reg rfl ?_
              refine v_move rfl ?_
              refine v_move rfl ?_
              refine v_idx (k := 3) te_len lay40 lay27 rfl rfl rfl (rfl) rfl (by omega) (fun q9 hq9 e9 => ?_)
              obtain rfl : i = q9 := by omega
              refine v_assign rfl ?_
              refine v_nil ?_
              refine q_n ?_
              refine w_seq ?_
              refine w_reg rfl ?_
              refine v_move rfl ?_
              refine v_nil_vw rfl ?_
              refine v_fa_vw (off' := 0) lay27 rfl rfl rfl ?_
              refine v_load_vw (.c (.v _)) lay2 rfl rfl rfl ?_
              refine v_add lay2 rfl rfl (by first | exact i64r (by have b1 := turnT h1 hq8; omega) | exact i64r (by omega)) ?_
              refine v_assign rfl ?_
              refine v_nil ?_
              refine q_n ?_
              refine w_block ?_
              refine w_loop (fun k sl H => ∃ j : Nat, k = gapN xs[q8] xs[i] - j ∧ j ≤ gapN xs[q8] xs[i] ∧ sl = sls [(0, .c (tals false xs)), (5, .c (.mu 0 0 ((outs xs i).length + j) 3)), (6, cI i), (7, .c (.vw false (te xs[q8]) 0)), (8, .c (.vw false (te xs[i]) 0)), (9, cI (xs[q8].1 + 1 + j))] ∧ H = [⟨flat te (outs xs i ++ (List.range j).map (gapAt xs[q8] xs[i])), 27, true⟩]) ?_ ?_
              · have hgn := gapN_eq h1 hq9 hq8 (by omega)
                have hgl := hgk q8 i hq9 (by omega)
                refine ⟨_, _, _, ?_, 0, rfl, Nat.zero_le _, rfl, rfl⟩
                exact turn [some 0] rfl rfl rfl ⟨⟨_, rfl, trc_flat te_sc (by simp)⟩, trivial⟩ ⟨tr_sl, tr_mun rfl rfl, tr_v, tr_vw, tr_vw, tr_i (by simp), trivial⟩
              · rintro k sl H ⟨j, rfl, hj, rfl, rfl⟩
                have hgn := gapN_eq h1 hq9 hq8 (by omega)
                have hgl := hgk q8 i hq9 (by omega)
                have b1 := turnT h1 hq8
                have b2 := turnT h1 hq9
                refine w_seq ?_
                refine w_seq ?_
                refine w_reg rfl ?_
                refine v_move rfl ?_
                refine v_move rfl ?_
                refine v_nil_vw rfl ?_
                refine v_fa_vw (off' := 0) lay27 rfl rfl rfl ?_
                refine v_load_vw (.c (.v _)) lay2 rfl rfl rfl ?_
                refine v_lss lay2 rfl rfl (fun h10 => ?_) (fun h10 => ?_)
                · skip
                  refine v_nil ?_
                  refine q_n ?_
                  refine w_t rfl ?_
                  refine w_skip ?_
                  refine q_n ?_
                  refine w_seq ?_
                  refine w_block ?_
                  refine w_seq ?_
                  refine w_draw [0, 0, 2, 6, 14, 31, 63, 0, 128, 384, 896, 0, 2048, 6144, 14336, 32640, 65408, 131071, 262143] [⟨0, 0, []⟩, ⟨1, 0, []⟩, ⟨2, 0, []⟩, ⟨3, 0, []⟩, ⟨4, 0, []⟩, ⟨5, 0, []⟩, ⟨6, 0, []⟩, ⟨7, 0, []⟩, ⟨8, 0, []⟩, ⟨9, 0, []⟩, ⟨10, 0, []⟩, ⟨11, 0, []⟩, ⟨12, 0, []⟩, ⟨13, 0, []⟩, ⟨14, 0, []⟩, ⟨15, 0, []⟩, ⟨16, 0, []⟩, ⟨17, 0, []⟩, ⟨18, 0, []⟩] rfl rfl ?_
                  refine d_q rfl rfl rfl rfl rfl ?_
                  refine v_move rfl ?_
                  refine v_nil ?_
                  refine d_q rfl rfl rfl rfl rfl ?_
                  refine v_move rfl ?_
                  refine v_nil ?_
                  refine d_q rfl rfl rfl rfl rfl ?_
                  refine v_nil_vw rfl ?_
                  refine v_nil ?_
                  refine d_q rfl rfl rfl rfl rfl ?_
                  refine v_fa_vw (off' := 0) lay27 rfl rfl rfl ?_
                  refine v_nil ?_
                  refine d_q rfl rfl rfl rfl rfl ?_
                  refine v_load_vw (.c (.v _)) lay2 rfl rfl rfl ?_
                  refine v_nil ?_
                  refine d_q rfl rfl rfl rfl rfl ?_
                  refine v_sub lay2 rfl rfl (i64r (by omega)) ?_
                  refine v_nil ?_
                  refine d_q rfl rfl rfl rfl rfl ?_
                  refine v_conv_if lay2 lay22 rfl ?_
                  refine v_nil ?_
                  refine d_q rfl rfl rfl rfl rfl ?_
                  refine v_move rfl ?_
                  refine v_nil ?_
                  refine d_q rfl rfl rfl rfl rfl ?_
                  refine v_nil_vw rfl ?_
                  refine v_nil ?_
                  refine d_q rfl rfl rfl rfl rfl ?_
                  refine v_fa_vw (off' := 0) lay27 rfl rfl rfl ?_
                  refine v_nil ?_
                  refine d_q rfl rfl rfl rfl rfl ?_
                  refine v_load_vw (.c (.v _)) lay2 rfl rfl rfl ?_
                  refine v_nil ?_
                  refine d_q rfl rfl rfl rfl rfl ?_
                  refine v_move rfl ?_
                  refine v_nil ?_
                  refine d_q rfl rfl rfl rfl rfl ?_
                  refine v_nil_vw rfl ?_
                  refine v_nil ?_
                  refine d_q rfl rfl rfl rfl rfl ?_
                  refine v_fa_vw (off' := 0) lay27 rfl rfl rfl ?_
                  refine v_nil ?_
                  refine d_q rfl rfl rfl rfl rfl ?_
                  refine v_load_vw (.c (.v _)) lay2 rfl rfl rfl ?_
                  refine v_nil ?_
                  refine d_q rfl rfl rfl rfl rfl ?_
                  refine v_sub lay2 rfl rfl (i64r (by omega)) ?_
                  refine v_nil ?_
                  refine d_q rfl rfl rfl rfl rfl ?_
                  refine v_conv_if lay2 lay22 rfl ?_
                  refine v_nil ?_
                  refine d_q rfl rfl rfl rfl rfl ?_
                  refine v_bin (c := .f _ _) lay22 rfl rfl rfl ?_
                  refine v_nil ?_
                  refine d_q rfl rfl rfl rfl rfl ?_
                  refine v_assign rfl ?_
                  refine v_nil ?_
                  refine d_nil ?_
                  refine q_n ?_
                  refine w_draw [0, 0, 0, 4, 12, 28, 0, 64, 192, 448, 0, 2044, 0, 4096, 12288, 28672, 0, 65536, 196608, 458752, 0, 2097148, 4194302, 8388606, 16777215, 33554431] [⟨0, 0, []⟩, ⟨1, 0, []⟩, ⟨2, 0, []⟩, ⟨3, 0, []⟩, ⟨4, 0, []⟩, ⟨5, 0, []⟩, ⟨6, 0, []⟩, ⟨7, 0, []⟩, ⟨8, 0, []⟩, ⟨9, 0, []⟩, ⟨10, 0, []⟩, ⟨11, 0, []⟩, ⟨12, 0, []⟩, ⟨13, 0, []⟩, ⟨14, 0, []⟩, ⟨15, 0, []⟩, ⟨16, 0, []⟩, ⟨17, 0, []⟩, ⟨18, 0, []⟩, ⟨19, 0, []⟩, ⟨20, 0, []⟩, ⟨21, 0, []⟩, ⟨22, 0, []⟩, ⟨23, 2, []⟩, ⟨24, 1, []⟩, ⟨25, 0, []⟩] rfl rfl ?_
                  refine d_q rfl rfl rfl rfl rfl ?_
                  refine v_move rfl ?_
                  refine v_nil ?_
                  refine d_q rfl rfl rfl rfl rfl ?_
                  refine v_move rfl ?_
                  refine v_nil ?_
                  refine d_q rfl rfl rfl rfl rfl ?_
                  refine v_move rfl ?_
                  refine v_nil ?_
                  refine d_q rfl rfl rfl rfl rfl ?_
                  refine v_nil_vw rfl ?_
                  refine v_nil ?_
                  refine d_q rfl rfl rfl rfl rfl ?_
                  refine v_fa_vw (off' := 1) lay27 rfl rfl rfl ?_
                  refine v_nil ?_
                  refine d_q rfl rfl rfl rfl rfl ?_
                  refine v_load_vw (.c (.v _)) lay23 rfl rfl rfl ?_
                  refine v_nil ?_
                  refine d_q rfl rfl rfl rfl rfl ?_
                  refine v_move rfl ?_
                  refine v_nil ?_
                  refine d_q rfl rfl rfl rfl rfl ?_
                  refine v_nil_vw rfl ?_
                  refine v_nil ?_
                  refine d_q rfl rfl rfl rfl rfl ?_
                  refine v_fa_vw (off' := 1) lay27 rfl rfl rfl ?_
                  refine v_nil ?_
                  refine d_q rfl rfl rfl rfl rfl ?_
                  refine v_load_vw (.c (.v _)) lay23 rfl rfl rfl ?_
                  refine v_nil ?_
                  refine d_q rfl rfl rfl rfl rfl ?_
                  refine v_move rfl ?_
                  refine v_nil ?_
                  refine d_call (c83 _ _ _ (by first | exact (hb _ (List.getElem_mem hq8)).1 | exact (hb _ (List.getElem_mem hq8)).2) (by first | exact (hb _ (List.getElem_mem hq9)).1 | exact (hb _ (List.getElem_mem hq9)).2)) rfl rfl rfl rfl rfl (.cons vw_v (.cons vw_v (.cons vw_f .nil))) ?_
                  refine d_q rfl rfl rfl rfl rfl ?_
                  refine v_move rfl ?_
                  refine v_nil ?_
                  refine d_q rfl rfl rfl rfl rfl ?_
                  refine v_nil_vw rfl ?_
                  refine v_nil ?_
                  refine d_q rfl rfl rfl rfl rfl ?_
                  refine v_fa_vw (off' := 2) lay27 rfl rfl rfl ?_
                  refine v_nil ?_
                  refine d_q rfl rfl rfl rfl rfl ?_
                  refine v_load_vw (.c (.v _)) lay23 rfl rfl rfl ?_
                  refine v_nil ?_
                  refine d_q rfl rfl rfl rfl rfl ?_
                  refine v_move rfl ?_
                  refine v_nil ?_
                  refine d_q rfl rfl rfl rfl rfl ?_
                  refine v_nil_vw rfl ?_
                  refine v_nil ?_
                  refine d_q rfl rfl rfl rfl rfl ?_
                  refine v_fa_vw (off' := 2) lay27 rfl rfl rfl ?_
                  refine v_nil ?_
                  refine d_q rfl rfl rfl rfl rfl ?_
                  refine v_load_vw (.c (.v _)) lay23 rfl rfl rfl ?_
                  refine v_nil ?_
                  refine d_q rfl rfl rfl rfl rfl ?_
                  refine v_move rfl ?_
                  refine v_nil ?_
                  refine d_call (c83 _ _ _ (by first | exact (hb _ (List.getElem_mem hq8)).1 | exact (hb _ (List.getElem_mem hq8)).2) (by first | exact (hb _ (List.getElem_mem hq9)).1 | exact (hb _ (List.getElem_mem hq9)).2)) rfl rfl rfl rfl rfl (.cons vw_v (.cons vw_v (.cons vw_f .nil))) ?_
                  refine d_q rfl rfl rfl rfl rfl ?_
                  refine v_build [(0, 1), (1, 1), (2, 1)] [.v _, .v _, .v _] lay27 rfl rfl ?_
                  refine v_nil ?_
                  refine d_z (.c (.sl true 1 3 (flat te [(_, _, _)]))) rfl rfl rfl ?_
                  refine d_e rfl rfl rfl ?_
                  refine v_app_flat_sl (H' := [_, _]) te_sc te_len lay40 lay27 rfl rfl (by simp) rfl rfl rfl (by have hol := outs_len hgk i (by omega); have hl96 := h1.1; unfold maxLen; simp only []; omega) rfl rfl ?_
                  refine v_nil ⟨again_nil, ?_⟩
                  refine d_q rfl rfl rfl rfl rfl ?_
                  refine v_assign rfl ?_
                  refine v_nil ?_
                  refine d_nil ?_
                  refine q_bn ?_
                  refine q_n ?_
                  refine w_reg rfl ?_
                  refine v_move rfl ?_
                  refine v_add lay2 rfl rfl (by first | exact i64r (by have b1 := turnT h1 hq8; omega) | exact i64r (by omega)) ?_
                  refine v_assign rfl ?_
                  refine v_nil ?_
                  refine q_n ?_
                  refine ⟨_, _, _, ?_, ⟨j + 1, rfl, by omega, rfl, rfl⟩, by omega⟩
                  exact turn [some 1] rfl rfl rfl ⟨⟨_, rfl, trc_flat te_sc (congrArg (flat te) (gap_step rfl))⟩, trivial⟩ ⟨tr_sl, tr_mun rfl (by omega), tr_v, tr_vw, tr_vw, tr_i (by push_cast; omega), trivial⟩
                · skip
                  refine v_nil ?_
                  refine q_n ?_
                  refine w_f rfl ?_
                  refine w_exit ?_
                  refine q_e ?_
                  refine q_e ?_
                  refine q_hit ?_
                  refine q_n ?_
                  refine w_reg rfl ?_
                  refine v_move rfl ?_
                  refine v_move rfl ?_
                  refine v_move rfl ?_
                  refine v_idx (k := 3) te_len lay40 lay27 rfl rfl rfl (rfl) rfl (by omega) (fun q11 hq11 e11 => ?_)
                  obtain rfl : i = q11 := by omega
                  refine v_load_vw (.agg [.v _, .v _, .v _]) lay27 rfl rfl rfl ?_
                  refine v_lit (flat te [xs[i]]) (H' := [_, _]) lay40 lay27 rfl rfl ⟨by decide, by decide⟩ rfl rfl ?_
                  refine v_app_flat (H' := [_, _, _]) te_sc te_len lay40 lay27 rfl rfl (by simp) rfl rfl (by simp) rfl rfl (by have hol := outs_len hgk i (by omega); have hl96 := h1.1; unfold maxLen; simp only []; omega) rfl rfl ?_
                  refine v_assign rfl ?_
                  refine v_nil ?_
                  refine q_bn ?_
                  refine q_n ?_
                  refine w_reg rfl ?_
                  refine v_move rfl ?_
                  refine v_add lay3 rfl rfl (i64r (by omega)) ?_
                  refine v_assign rfl ?_
                  refine v_nil ?_
                  refine q_n ?_
                  have hon : outs xs (i + 1) = (outs xs i ++ (List.range j).map (gapAt xs[q8] xs[i])) ++ [xs[i]] := by
                    have hje : j = gapN xs[q8] xs[i] := by omega
                    rw [hje]
                    exact outs_next hq9 e8 hq8
                  refine ⟨_, _, _, ?_, ⟨i + 1, rfl, by omega, rfl, rfl⟩, by omega⟩
                  exact turn [some 2] rfl rfl rfl ⟨⟨_, rfl, trc_flat te_sc (congrArg (flat te) hon.symm)⟩, trivial⟩ ⟨tr_sl, tr_mun rfl (by rw [hon]; simp; omega), tr_v, trivial⟩
            · skip
              refine v_nil ?_
              refine q_n ?_
              refine w_f rfl ?_
              refine w_skip ?_
              refine q_n ?_
              refine w_reg rfl ?_
              refine v_move rfl ?_
              refine v_move rfl ?_
              refine v_move rfl ?_
              refine v_idx (k := 3) te_len lay40 lay27 rfl rfl rfl (rfl) rfl (by omega) (fun q12 hq12 e12 => ?_)
              obtain rfl : i = q12 := by omega
              refine v_load_vw (.agg [.v _, .v _, .v _]) lay27 rfl rfl rfl ?_
              refine v_lit (flat te [xs[i]]) (H' := [_, _]) lay40 lay27 rfl rfl ⟨by decide, by decide⟩ rfl rfl ?_
              refine v_app_flat (H' := [_, _, _]) te_sc te_len lay40 lay27 rfl rfl (by simp) rfl rfl (by simp) rfl rfl (by have hol := outs_len hgk i (by omega); have hl96 := h1.1; unfold maxLen; simp only []; omega) rfl rfl ?_
              refine v_assign rfl ?_
              refine v_nil ?_
              refine q_bn ?_
              refine q_n ?_
              refine w_reg rfl ?_
              refine v_move rfl ?_
              refine v_add lay3 rfl rfl (i64r (by omega)) ?_
              refine v_assign rfl ?_
              refine v_nil ?_
              refine q_n ?_
              have hon := outs_first hq12 h7
              refine ⟨_, _, _, ?_, ⟨i + 1, rfl, by omega, rfl, rfl⟩, by omega⟩
              exact turn [some 2] rfl rfl rfl ⟨⟨_, rfl, trc_flat te_sc (congrArg (flat te) hon.symm)⟩, trivial⟩ ⟨tr_sl, tr_mun rfl (by rw [hon]; simp), tr_v, trivial⟩
          · skip
            refine v_nil ?_
            refine q_n ?_
            refine w_f rfl ?_
            refine w_exit ?_
            refine q_e ?_
            refine q_e ?_
            refine q_hit ?_
            refine q_n ?_
            refine w_seq ?_
            refine w_seq ?_
            refine w_reg rfl ?_
            refine v_move rfl ?_
            refine v_len_mu lay40 rfl ?_
            refine v_gtr lay3 rfl rfl (fun h13 => ?_) (fun h13 => ?_)
            · skip
              refine v_nil ?_
              refine q_n ?_
              refine w_t rfl ?_
              refine w_seq ?_
              refine w_reg rfl ?_
              refine v_lit (flat te []) (H' := [_, _]) lay40 lay27 rfl rfl ⟨by decide, by decide⟩ rfl rfl ?_
              refine v_assign rfl ?_
              refine v_assign (c := .v (.int .i64 3)) rfl ?_
              refine v_nil ?_
              refine q_n ?_
              refine w_ret (q_r ?_)
              refine r_r rfl ?_
              have he : i = xs.length := by omega
              subst he
              rw [fg_3 h1 hgk (by omega)]
              exact a_tup (.cons (a_flat2 te_sc te_len rfl rfl rfl rfl) (.cons tr_v .nil))
            · skip
              refine v_nil ?_
              refine q_n ?_
              refine w_f rfl ?_
              refine w_skip ?_
              refine q_n ?_
              refine w_seq ?_
              refine w_reg rfl ?_
              refine v_move rfl ?_
              refine v_assign rfl ?_
              refine v_assign (c := .v (.int .i64 0)) rfl ?_
              refine v_nil ?_
              refine q_n ?_
              refine w_ret ?_
              refine r_r rfl ?_
              have he : i = xs.length := by omega
              subst he
              rw [fg_0 h1 hgk (by omega)]
              exact a_tup (.cons (a_flat2 te_sc te_len rfl rfl rfl rfl) (.cons tr_v .nil))
  · skip
    refine v_not true rfl rfl ?_
    refine v_nil ?_
    refine q_n ?_
    refine w_t rfl ?_
    refine w_seq ?_
    refine w_reg rfl ?_
    refine v_lit (flat te []) (H' := [_]) lay40 lay27 rfl rfl ⟨by decide, by decide⟩ rfl rfl ?_
    refine v_assign rfl ?_
    refine v_assign (c := .v (.int .i64 1)) rfl ?_
    refine v_nil ?_
    refine q_n ?_
    refine w_ret (q_r ?_)
    refine r_r rfl ?_
    rw [fg_1 h1]
    exact a_tup (.cons (a_flat2 te_sc te_len rfl rfl rfl rfl) (.cons tr_v .nil))

theorem c37l (xs : List Tal) (hx : xs.length ≤ 2 ^ 40) (hb : T16 xs) : LiveC X 37 [.c (tals false xs)] (.tup [.c (.mu 0 0 (fgR xs).1.length 3), cI (fgR xs).2]) [⟨flat te (fgR xs).1, 27, true⟩] := by
  refine LiveC.of_body (drawD_ok X) (fun _ _ => Go.Proofs.Try.call37 _ _) Go.Proofs.Try.func37 rfl (n := 96) rfl ?_
  refine w_seq ?_
  refine w_reg rfl ?_
  refine v_assign rfl ?_
  refine v_assign (c := .v (.int .i64 0)) rfl ?_
  refine v_nil ?_
  refine q_n ?_
  refine w_seq ?_
  refine w_seq ?_
  refine w_reg rfl ?_
  refine v_move rfl ?_
  refine v_callb (c58 _ (by omega) (by assumption)) rfl rfl (.cons vw_sl .nil) (fun h1 => ?_) (fun h1 => ?_)
  · skip
    refine v_not false rfl rfl ?_
    refine v_nil ?_
    refine q_n ?_
    refine w_f rfl ?_
    refine w_skip ?_
    refine q_n ?_
    refine w_seq ?_
    refine w_seq ?_
    refine w_reg rfl ?_
    refine v_assign (c := .v (.int .i64 1)) rfl ?_
    refine v_nil ?_
    refine q_n ?_
    refine w_block ?_
    refine w_loop (fun k sl H => ∃ i : Nat, k = xs.length - i ∧ 1 ≤ i ∧ i ≤ xs.length + 1 ∧ (∀ a b (hb : b < xs.length), b < i → (hab : b = a + 1) → xs[b].1 - (xs[a]'(by omega)).1 ≤ 13) ∧ sl = sls [(0, .c (tals false xs)), (4, cI i)] ∧ H = []) ?_ ?_
    · refine ⟨_, _, _, ?_, 1, rfl, by omega, by omega, fun a b hb h hab => absurd h (by omega), rfl, rfl⟩
      exact turn0 ⟨tr_sl, tr_v, trivial⟩
    · rintro k sl H ⟨i, rfl, hi0, hi, hp, rfl, rfl⟩
      refine w_seq ?_
      refine w_seq ?_
      refine w_reg rfl ?_
      refine v_move rfl ?_
      refine v_move rfl ?_
      refine v_len_sl lay40 rfl ?_
      refine v_lss lay3 rfl rfl (fun h2 => ?_) (fun h2 => ?_)
      · skip
        refine v_nil ?_
        refine q_n ?_
        refine w_t rfl ?_
        refine w_skip ?_
        refine q_n ?_
        refine w_seq ?_
        refine w_block ?_
        refine w_seq ?_
        refine w_draw [0, 0, 3, 7, 15, 0, 0, 64, 224, 480, 992, 2047, 4095, 8191] [⟨0, 0, []⟩, ⟨1, 0, []⟩, ⟨2, 0, []⟩, ⟨3, 0, []⟩, ⟨4, 0, []⟩, ⟨5, 0, []⟩, ⟨6, 0, []⟩, ⟨7, 0, []⟩, ⟨8, 0, []⟩, ⟨9, 0, []⟩, ⟨10, 0, []⟩, ⟨11, 0, []⟩, ⟨12, 0, []⟩, ⟨13, 0, []⟩] rfl rfl ?_
        refine d_q rfl rfl rfl rfl rfl ?_
        refine v_move rfl ?_
        refine v_nil ?_
        refine d_q rfl rfl rfl rfl rfl ?_
        refine v_move rfl ?_
        refine v_nil ?_
        refine d_q rfl rfl rfl rfl rfl ?_
        refine v_idx (k := 3) te_len lay40 lay27 rfl rfl rfl (rfl) rfl (by omega) (fun q3 hq3 e3 => ?_)
        obtain rfl : i = q3 := by omega
        refine v_nil ?_
        refine d_q rfl rfl rfl rfl rfl ?_
        refine v_fa_vw (off' := 0) lay27 rfl rfl rfl ?_
        refine v_nil ?_
        refine d_q rfl rfl rfl rfl rfl ?_
        refine v_load_vw (.c (.v _)) lay2 rfl rfl rfl ?_
        refine v_nil ?_
        refine d_q rfl rfl rfl rfl rfl ?_
        refine v_move rfl ?_
        refine v_nil ?_
        refine d_q rfl rfl rfl rfl rfl ?_
        refine v_move rfl ?_
        refine v_nil ?_
        refine d_q rfl rfl rfl rfl rfl ?_
        refine v_sub lay3 rfl rfl (by first | exact i64r (by omega) | exact i64r (by have b1 := turnT h1 hq3; have b2 := turnT h1 hq4; omega)) ?_
        refine v_nil ?_
        refine d_q rfl rfl rfl rfl rfl ?_
        refine v_idx (k := 3) te_len lay40 lay27 rfl rfl rfl (rfl) rfl (by omega) (fun q4 hq4 e4 => ?_)
        refine v_nil ?_
        refine d_q rfl rfl rfl rfl rfl ?_
        refine v_fa_vw (off' := 0) lay27 rfl rfl rfl ?_
        refine v_nil ?_
        refine d_q rfl rfl rfl rfl rfl ?_
        refine v_load_vw (.c (.v _)) lay2 rfl rfl rfl ?_
        refine v_nil ?_
        refine d_q rfl rfl rfl rfl rfl ?_
        refine v_sub lay2 rfl rfl (by first | exact i64r (by omega) | exact i64r (by have b1 := turnT h1 hq3; have b2 := turnT h1 hq4; omega)) ?_
        refine v_nil ?_
        refine d_q rfl rfl rfl rfl rfl ?_
        refine v_sub lay2 rfl rfl (by first | exact i64r (by omega) | exact i64r (by have b1 := turnT h1 hq3; have b2 := turnT h1 hq4; omega)) ?_
        refine v_nil ?_
        refine d_q rfl rfl rfl rfl rfl ?_
        refine v_gtr lay2 rfl rfl (fun h5 => ?_) (fun h5 => ?_)
        · skip
          refine v_nil ?_
          refine d_nil ?_
          refine q_n ?_
          refine w_t rfl ?_
          refine w_seq ?_
          refine w_reg rfl ?_
          refine v_assign rfl ?_
          refine v_assign (c := .v (.int .i64 4)) rfl ?_
          refine v_nil ?_
          refine q_n ?_
          refine w_ret (q_br (q_r (q_r (q_br (q_r ?_)))))
          refine r_r rfl ?_
          rw [fg_4 h1 hq3 hq4 e4 (by omega)]
          exact l_ans [none] rfl rfl ⟨rfl, trivial⟩ (a_tup (.cons (tr_nil rfl) (.cons tr_v .nil)))
        · skip
          refine v_nil ?_
          refine d_nil ?_
          refine q_n ?_
          refine w_f rfl ?_
          refine w_skip ?_
          refine q_bn ?_
          refine q_n ?_
          refine w_reg rfl ?_
          refine v_move rfl ?_
          refine v_add lay3 rfl rfl (i64r (by omega)) ?_
          refine v_assign rfl ?_
          refine v_nil ?_
          refine q_n ?_
          refine ⟨_, _, _, ?_, ⟨i + 1, rfl, by omega, by omega, gap_grow hp hq3 hq4 e4 (by omega), rfl, rfl⟩, by omega⟩
          exact turn0 ⟨tr_sl, tr_v, trivial⟩
      · skip
        refine v_nil ?_
        refine q_n ?_
        refine w_f rfl ?_
        refine w_exit ?_
        refine q_e ?_
        refine q_e ?_
        refine q_hit ?_
        refine q_n ?_
        refine w_seq ?_
        refine w_reg rfl ?_
        refine v_lit (flat te []) (H' := [_]) lay40 lay27 rfl rfl ⟨by decide, by decide⟩ rfl rfl ?_
        refine v_assign rfl ?_
        refine v_nil ?_
        refine q_n ?_
        refine w_seq ?_
        refine w_seq ?_
        refine w_reg rfl ?_
        refine v_move rfl ?_
        refine v_len_sl lay40 rfl ?_
        refine v_move (c := .v (.int .i64 0)) rfl ?_
        refine v_nil ?_
        refine q_n ?_
        refine w_block ?_
        refine w_loop (fun k sl H => ∃ i : Nat, k = xs.length - i ∧ i ≤ xs.length ∧ sl = sls [(0, .c (tals false xs)), (5, .c (.mu 0 0 (outs xs i).length 3)), (35, .c (tals false xs)), (36, cI xs.length), (37, cI i)] ∧ H = [⟨flat te (outs xs i), 27, true⟩]) ?_ ?_
        · have hgk : gOk xs := fun a b hb hab => hp a b hb (by omega) hab
          refine ⟨_, _, _, ?_, 0, rfl, Nat.zero_le _, rfl, rfl⟩
          exact turn [some 0] rfl rfl rfl ⟨⟨_, rfl, trc_flat te_sc rfl⟩, trivial⟩ ⟨tr_sl, tr_mu rfl, tr_sl, tr_v, tr_v, trivial⟩
        · rintro k sl H ⟨i, rfl, hi, rfl, rfl⟩
          have hgk : gOk xs := fun a b hb hab => hp a b hb (by omega) hab
          refine w_seq ?_
          refine w_reg rfl ?_
          refine v_lss lay3 rfl rfl (fun h6 => ?_) (fun h6 => ?_)
          · skip
            refine v_nil ?_
            refine q_n ?_
            refine w_seq ?_
            refine w_t rfl ?_
            refine w_skip ?_
            refine q_n ?_
            refine w_seq ?_
            refine w_block ?_
            refine w_seq ?_
            refine w_reg rfl ?_
            refine v_move rfl ?_
            refine v_idx (k := 3) te_len lay40 lay27 rfl rfl rfl (rfl) rfl (by omega) (fun q7 hq7 e7 => ?_)
            obtain rfl : i = q7 := by omega
            refine v_load_vw (.agg [.v _, .v _, .v _]) lay27 rfl rfl rfl ?_
            refine v_alloc (m := 1) (H' := [_, ⟨[.v _, .v _, .v _], 27, true⟩]) lay27 rfl rfl ?_
            refine v_assign rfl ?_
            refine v_store (H' := [_, ⟨[_, _, _], 27, true⟩]) lay27 rfl rfl rfl rfl rfl rfl ?_
            refine v_nil ?_
            refine q_n ?_
            refine w_seq ?_
            refine w_seq ?_
            refine w_reg rfl ?_
            refine v_move rfl ?_
            refine v_gtr lay3 rfl rfl (fun h8 => ?_) (fun h8 => ?_)
            · skip
              refine v_nil ?_
              refine q_n ?_
              refine w_t rfl ?_
              refine w_seq ?_
              refine w_reg rfl ?_
              refine v_move rfl ?_
              refine v_move rfl ?_
              refine v_sub lay3 rfl rfl (i64r (by omega)) ?_
              refine v_idx (k := 3) te_len lay40 lay27 rfl rfl rfl (rfl) rfl (by omega) (fun q9 hq9 e9 => ?_)
              refine v_load_vw (.agg [.v _, .v _, .v _]) lay27 rfl rfl rfl ?_
              refine v_alloc (m := 2) (H' := [_, _, ⟨[.v _, .v _, .v _], 27, true⟩]) lay27 rfl rfl ?_
              refine v_store (H' := [_, _, ⟨[_, _, _], 27, true⟩]) lay27 rfl rfl rfl rfl rfl rfl ?_
              refine v_nil ?_
              refine q_n ?_
              refine w_seq ?_
              refine w_reg rfl ?_
              refine v_fa_pt (off' := 0) lay27 rfl rfl rfl ?_
              refine v_load_pt (.c _) lay2 rfl rfl rfl rfl ?_
              refine v_add lay2 rfl rfl (by first | exact i64r (by have b1 := turnT h1 hq9; omega) | exact i64r (by omega)) ?_
              refine v_assign rfl ?_
              refine v_nil ?_
              refine q_n ?_
              refine w_block ?_
              refine w_loop (fun k sl H => ∃ j : Nat, k = gapN xs[q9] xs[i] - j ∧ j ≤ gapN xs[q9] xs[i] ∧ sl = sls [(0, .c (tals false xs)), (5, .c (.mu 0 0 ((outs xs i).length + j) 3)), (35, .c (tals false xs)), (36, cI xs.length), (37, cI i), (7, .c (.pt 1 0)), (8, .c (.pt 2 0)), (9, cI (xs[q9].1 + 1 + j))] ∧ H = [⟨flat te (outs xs i ++ (List.range j).map (gapAt xs[q9] xs[i])), 27, true⟩, ⟨te xs[i], 27, true⟩, ⟨te xs[q9], 27, true⟩]) ?_ ?_
              · have hgn := gapN_eq h1 hq7 hq9 (by omega)
                have hgl := hgk q9 i hq7 (by omega)
                refine ⟨_, _, _, ?_, 0, rfl, Nat.zero_le _, rfl, rfl⟩
                exact turn [some 0, some 1, some 2] rfl rfl rfl ⟨⟨_, rfl, trc_flat te_sc (by simp)⟩, ⟨_, rfl, .stay (stay_te _)⟩, ⟨_, rfl, .stay (stay_te _)⟩, trivial⟩ ⟨tr_sl, tr_mun rfl rfl, tr_sl, tr_v, tr_v, tr_pt rfl, tr_pt rfl, tr_i (by simp), trivial⟩
              · rintro k sl H ⟨j, rfl, hj, rfl, rfl⟩
                have hgn := gapN_eq h1 hq7 hq9 (by omega)
                have hgl := hgk q9 i hq7 (by omega)
                have b1 := turnT h1 hq7
                have b2 := turnT h1 hq9
                refine w_seq ?_
                refine w_seq ?_
                refine w_reg rfl ?_
                refine v_move rfl ?_
                refine v_fa_pt (off' := 0) lay27 rfl rfl rfl ?_
                refine v_load_pt (.c _) lay2 rfl rfl rfl rfl ?_
                refine v_lss lay2 rfl rfl (fun h10 => ?_) (fun h10 => ?_)
                · skip
                  refine v_nil ?_
                  refine q_n ?_
                  refine w_t rfl ?_
                  refine w_skip ?_
                  refine q_n ?_
                  refine w_seq ?_
                  refine w_block ?_
                  refine w_seq ?_
                  refine w_reg rfl ?_
                  refine v_move rfl ?_
                  refine v_fa_pt (off' := 0) lay27 rfl rfl rfl ?_
                  refine v_load_pt (.c _) lay2 rfl rfl rfl rfl ?_
                  refine v_sub lay2 rfl rfl (i64r (by omega)) ?_
                  refine v_conv_if lay2 lay22 rfl ?_
                  refine v_fa_pt (off' := 0) lay27 rfl rfl rfl ?_
                  refine v_load_pt (.c _) lay2 rfl rfl rfl rfl ?_
                  refine v_fa_pt (off' := 0) lay27 rfl rfl rfl ?_
                  refine v_load_pt (.c _) lay2 rfl rfl rfl rfl ?_
                  refine v_sub lay2 rfl rfl (i64r (by omega)) ?_
                  refine v_conv_if lay2 lay22 rfl ?_
                  refine v_bin (c := .f _ _) lay22 rfl rfl rfl ?_
                  refine v_assign rfl ?_
                  refine v_nil ?_
                  refine q_n ?_
                  refine w_draw [0, 0, 0, 4, 0, 16, 0, 124, 0, 256, 0, 1024, 0, 8188, 16382, 32766, 65535, 131071] [⟨0, 0, []⟩, ⟨1, 0, []⟩, ⟨2, 0, []⟩, ⟨3, 0, []⟩, ⟨4, 0, []⟩, ⟨5, 0, []⟩, ⟨6, 0, []⟩, ⟨7, 0, []⟩, ⟨8, 0, []⟩, ⟨9, 0, []⟩, ⟨10, 0, []⟩, ⟨11, 0, []⟩, ⟨12, 0, []⟩, ⟨13, 0, []⟩, ⟨14, 0, []⟩, ⟨15, 2, []⟩, ⟨16, 1, []⟩, ⟨17, 0, []⟩] rfl rfl ?_
                  refine d_q rfl rfl rfl rfl rfl ?_
                  refine v_move rfl ?_
                  refine v_nil ?_
                  refine d_q rfl rfl rfl rfl rfl ?_
                  refine v_move rfl ?_
                  refine v_nil ?_
                  refine d_q rfl rfl rfl rfl rfl ?_
                  refine v_fa_pt (off' := 1) lay27 rfl rfl rfl ?_
                  refine v_nil ?_
                  refine d_q rfl rfl rfl rfl rfl ?_
                  refine v_load_pt (.c _) lay23 rfl rfl rfl rfl ?_
                  refine v_nil ?_
                  refine d_q rfl rfl rfl rfl rfl ?_
                  refine v_fa_pt (off' := 1) lay27 rfl rfl rfl ?_
                  refine v_nil ?_
                  refine d_q rfl rfl rfl rfl rfl ?_
                  refine v_load_pt (.c _) lay23 rfl rfl rfl rfl ?_
                  refine v_nil ?_
                  refine d_q rfl rfl rfl rfl rfl ?_
                  refine v_move rfl ?_
                  refine v_nil ?_
                  refine d_call (c84 _ _ _ (by first | exact (hb _ (List.getElem_mem hq9)).1 | exact (hb _ (List.getElem_mem hq9)).2) (by first | exact (hb _ (List.getElem_mem hq7)).1 | exact (hb _ (List.getElem_mem hq7)).2)) rfl rfl rfl rfl rfl (.cons vw_v (.cons vw_v (.cons vw_f .nil))) ?_
                  refine d_q rfl rfl rfl rfl rfl ?_
                  refine v_fa_pt (off' := 2) lay27 rfl rfl rfl ?_
                  refine v_nil ?_
                  refine d_q rfl rfl rfl rfl rfl ?_
                  refine v_load_pt (.c _) lay23 rfl rfl rfl rfl ?_
                  refine v_nil ?_
                  refine d_q rfl rfl rfl rfl rfl ?_
                  refine v_fa_pt (off' := 2) lay27 rfl rfl rfl ?_
                  refine v_nil ?_
                  refine d_q rfl rfl rfl rfl rfl ?_
                  refine v_load_pt (.c _) lay23 rfl rfl rfl rfl ?_
                  refine v_nil ?_
                  refine d_q rfl rfl rfl rfl rfl ?_
                  refine v_move rfl ?_
                  refine v_nil ?_
                  refine d_call (c84 _ _ _ (by first | exact (hb _ (List.getElem_mem hq9)).1 | exact (hb _ (List.getElem_mem hq9)).2) (by first | exact (hb _ (List.getElem_mem hq7)).1 | exact (hb _ (List.getElem_mem hq7)).2)) rfl rfl rfl rfl rfl (.cons vw_v (.cons vw_v (.cons vw_f .nil))) ?_
                  refine d_q rfl rfl rfl rfl rfl ?_
                  refine v_build [(0, 1), (1, 1), (2, 1)] [.v _, .v _, .v _] lay27 rfl rfl ?_
                  refine v_nil ?_
                  refine d_z (.c (.sl true 1 3 (flat te [(_, _, _)]))) rfl rfl rfl ?_
                  refine d_e rfl rfl rfl ?_
                  refine v_app_flat_sl (H' := [_, _, _, _]) te_sc te_len lay40 lay27 rfl rfl (by simp) rfl rfl rfl (by have hol := outs_len hgk i (by omega); have hl96 := h1.1; unfold maxLen; simp only []; omega) rfl rfl ?_
                  refine v_nil ⟨again_nil, ?_⟩
                  refine d_q rfl rfl rfl rfl rfl ?_
                  refine v_assign rfl ?_
                  refine v_nil ?_
                  refine d_nil ?_
                  refine q_bn ?_
                  refine q_n ?_
                  refine w_reg rfl ?_
                  refine v_move rfl ?_
                  refine v_add lay2 rfl rfl (by first | exact i64r (by have b1 := turnT h1 hq9; omega) | exact i64r (by omega)) ?_
                  refine v_assign rfl ?_
                  refine v_nil ?_
                  refine q_n ?_
                  refine ⟨_, _, _, ?_, ⟨j + 1, rfl, by omega, rfl, rfl⟩, by omega⟩
                  exact turn [some 3, some 1, some 2] rfl rfl rfl ⟨⟨_, rfl, trc_flat te_sc (congrArg (flat te) (gap_step rfl))⟩, ⟨_, rfl, .stay (stay_te _)⟩, ⟨_, rfl, .stay (stay_te _)⟩, trivial⟩ ⟨tr_sl, tr_mun rfl (by omega), tr_sl, tr_v, tr_v, tr_pt rfl, tr_pt rfl, tr_i (by push_cast; omega), trivial⟩
                · skip
                  refine v_nil ?_
                  refine q_n ?_
                  refine w_f rfl ?_
                  refine w_exit ?_
                  refine q_e ?_
                  refine q_e ?_
                  refine q_hit ?_
                  refine q_n ?_
                  refine w_reg rfl ?_
                  refine v_move rfl ?_
                  refine v_load_pt (.agg [_, _, _]) lay27 rfl rfl rfl rfl ?_
                  refine v_lit (flat te [xs[i]]) (H' := [_, _, _, _]) lay40 lay27 rfl rfl ⟨by decide, by decide⟩ rfl rfl ?_
                  refine v_app_flat (H' := [_, _, _, _, _]) te_sc te_len lay40 lay27 rfl rfl (by simp) rfl rfl (by simp) rfl rfl (by have hol := outs_len hgk i (by omega); have hl96 := h1.1; unfold maxLen; simp only []; omega) rfl rfl ?_
                  refine v_assign rfl ?_
                  refine v_nil ?_
                  refine q_bn ?_
                  refine q_n ?_
                  refine w_reg rfl ?_
                  refine v_add lay3 rfl rfl (i64r (by omega)) ?_
                  refine v_move rfl ?_
                  refine v_nil ?_
                  refine q_n ?_
                  have hon : outs xs (i + 1) = (outs xs i ++ (List.range j).map (gapAt xs[q9] xs[i])) ++ [xs[i]] := by
                    have hje : j = gapN xs[q9] xs[i] := by omega
                    rw [hje]
                    exact outs_next hq7 e9 hq9
                  refine ⟨_, _, _, ?_, ⟨i + 1, rfl, by omega, rfl, rfl⟩, by omega⟩
                  exact turn [some 4] rfl rfl rfl ⟨⟨_, rfl, trc_flat te_sc (congrArg (flat te) hon.symm)⟩, trivial⟩ ⟨tr_sl, tr_mun rfl (by rw [hon]; simp; omega), tr_sl, tr_v, tr_v, trivial⟩
            · skip
              refine v_nil ?_
              refine q_n ?_
              refine w_f rfl ?_
              refine w_skip ?_
              refine q_n ?_
              refine w_reg rfl ?_
              refine v_move rfl ?_
              refine v_load_pt (.agg [_, _, _]) lay27 rfl rfl rfl rfl ?_
              refine v_lit (flat te [xs[i]]) (H' := [_, _, _]) lay40 lay27 rfl rfl ⟨by decide, by decide⟩ rfl rfl ?_
              refine v_app_flat (H' := [_, _, _, _]) te_sc te_len lay40 lay27 rfl rfl (by simp) rfl rfl (by simp) rfl rfl (by have hol := outs_len hgk i (by omega); have hl96 := h1.1; unfold maxLen; simp only []; omega) rfl rfl ?_
              refine v_assign rfl ?_
              refine v_nil ?_
              refine q_bn ?_
              refine q_n ?_
              refine w_reg rfl ?_
              refine v_add lay3 rfl rfl (i64r (by omega)) ?_
              refine v_move rfl ?_
              refine v_nil ?_
              refine q_n ?_
              have hon := outs_first hq7 h8
              refine ⟨_, _, _, ?_, ⟨i + 1, rfl, by omega, rfl, rfl⟩, by omega⟩
              exact turn [some 3] rfl rfl rfl ⟨⟨_, rfl, trc_flat te_sc (congrArg (flat te) hon.symm)⟩, trivial⟩ ⟨tr_sl, tr_mun rfl (by rw [hon]; simp), tr_sl, tr_v, tr_v, trivial⟩
          · skip
            refine v_nil ?_
            refine q_n ?_
            refine w_seq ?_
            refine w_f rfl ?_
            refine w_exit ?_
            refine q_e ?_
            refine q_e ?_
            refine q_hit ?_
            refine q_n ?_
            refine w_seq ?_
            refine w_seq ?_
            refine w_reg rfl ?_
            refine v_move rfl ?_
            refine v_len_mu lay40 rfl ?_
            refine v_gtr lay3 rfl rfl (fun h11 => ?_) (fun h11 => ?_)
            · skip
              refine v_nil ?_
              refine q_n ?_
              refine w_t rfl ?_
              refine w_seq ?_
              refine w_reg rfl ?_
              refine v_assign rfl ?_
              refine v_assign (c := .v (.int .i64 3)) rfl ?_
              refine v_nil ?_
              refine q_n ?_
              refine w_ret (q_r ?_)
              refine r_r rfl ?_
              have he : i = xs.length := by omega
              subst he
              rw [fg_3 h1 hgk (by omega)]
              exact l_ans [none] rfl rfl ⟨rfl, trivial⟩ (a_tup (.cons (tr_nil rfl) (.cons tr_v .nil)))
            · skip
              refine v_nil ?_
              refine q_n ?_
              refine w_f rfl ?_
              refine w_skip ?_
              refine q_n ?_
              refine w_seq ?_
              refine w_reg rfl ?_
              refine v_move rfl ?_
              refine v_assign rfl ?_
              refine v_assign (c := .v (.int .i64 0)) rfl ?_
              refine v_nil ?_
              refine q_n ?_
              refine w_ret ?_
              refine r_r rfl ?_
              have he : i = xs.length := by omega
              subst he
              rw [fg_0 h1 hgk (by omega)]
              exact l_ans [some 0] rfl rfl ⟨⟨_, rfl, trc_flat te_sc rfl⟩, trivial⟩ (a_tup (.cons (tr_mun rfl rfl) (.cons tr_v .nil)))
  · skip
    refine v_not true rfl rfl ?_
    refine v_nil ?_
    refine q_n ?_
    refine w_t rfl ?_
    refine w_seq ?_
    refine w_reg rfl ?_
    refine v_assign rfl ?_
    refine v_assign (c := .v (.int .i64 1)) rfl ?_
    refine v_nil ?_
    refine q_n ?_
    refine w_ret (q_r ?_)
    refine r_r rfl ?_
    rw [fg_1 h1]
    exact l_ans [none] rfl rfl ⟨rfl, trivial⟩ (a_tup (.cons (tr_nil rfl) (.cons tr_v .nil)))

theorem c37 (xs : List Tal) (hx : xs.length ≤ 2 ^ 40) (hb : T16 xs) : PureC X 37 [.c (tals false xs)] (.tup [.c (tals true (fgR xs).1), cI (fgR xs).2]) :=
  (c37l xs hx hb).pure (a_tup (.cons (a_flat te_sc te_len rfl rfl) (.cons tr_v .nil)))

theorem c38 (n : Nat) (a : Int) (hx : n ≤ 2 ^ 40) (ha : 0 ≤ a ∧ a ≤ 2 ^ 20) : PureC X 38 [.c (.sl false n 3 (flat te ((List.range n).map (tmark a)))), cI a] (cI (a + 3 * n)) := by
  refine PureC.of_body (drawD_ok X) (fun _ _ => Go.Proofs.Try.call38 _ _) Go.Proofs.Try.func38 rfl (n := 42) rfl ?_
  refine w_seq ?_
  refine w_reg rfl ?_
  refine v_assign (c := .v (.int .i64 0)) rfl ?_
  refine v_nil ?_
  refine q_n ?_
  refine w_seq ?_
  refine w_seq ?_
  refine w_reg rfl ?_
  refine v_assign (c := .v (.int .i64 0)) rfl ?_
  refine v_nil ?_
  refine q_n ?_
  refine w_block ?_
  refine w_loop (fun k sl H => ∃ i : Nat, k = n - i ∧ i ≤ n ∧ sl = sls [(0, .c (.sl false n 3 (flat te ((List.range n).map (tmark a))))), (1, cI (a + 3 * i)), (5, cI i)] ∧ H = []) ?_ ?_
  · refine ⟨_, _, _, ?_, 0, rfl, Nat.zero_le _, rfl, rfl⟩
    exact turn0 ⟨tr_sl, tr_i (by simp), tr_v, trivial⟩
  · rintro k sl H ⟨i, rfl, hi, rfl, rfl⟩
    refine w_seq ?_
    refine w_seq ?_
    refine w_reg rfl ?_
    refine v_move rfl ?_
    refine v_move rfl ?_
    refine v_len_sl lay40 rfl ?_
    refine v_lss lay3 rfl rfl (fun h1 => ?_) (fun h1 => ?_)
    · skip
      refine v_nil ?_
      refine q_n ?_
      refine w_t rfl ?_
      refine w_skip ?_
      refine q_n ?_
      refine w_seq ?_
      refine w_block ?_
      refine w_seq ?_
      refine w_seq ?_
      refine w_reg rfl ?_
      refine v_move rfl ?_
      refine v_move rfl ?_
      refine v_idx (k := 3) te_len lay40 lay27 rfl rfl rfl (by simp) rfl (by rw [List.length_map, List.length_range]; omega) (fun q2 hq2 e2 => ?_)
      obtain rfl : i = q2 := by omega
      refine v_fa_vw (off' := 0) lay27 rfl rfl rfl ?_
      refine v_load_vw (.c (.v _)) lay2 rfl rfl rfl ?_
      refine v_move rfl ?_
      refine v_neq lay2 rfl rfl (fun h3 => ?_) (fun h3 => ?_)
      · skip
        exact absurd (by rw [List.getElem_map, List.getElem_range]; rfl) h3
      · skip
        refine v_nil ?_
        refine q_n ?_
        refine w_f rfl ?_
        refine w_skip ?_
        refine q_n ?_
        refine w_seq ?_
        refine w_reg rfl ?_
        refine v_move rfl ?_
        refine v_add lay3 rfl rfl (i64r (by omega)) ?_
        refine v_assign rfl ?_
        refine v_nil ?_
        refine q_n ?_
        refine w_seq ?_
        refine w_seq ?_
        refine w_reg rfl ?_
        refine v_move rfl ?_
        refine v_move rfl ?_
        refine v_idx (k := 3) te_len lay40 lay27 rfl rfl rfl (by simp) rfl (by rw [List.length_map, List.length_range]; omega) (fun q4 hq4 e4 => ?_)
        obtain rfl : i = q4 := by omega
        refine v_fa_vw (off' := 1) lay27 rfl rfl rfl ?_
        refine v_load_vw (.c (.v _)) lay23 rfl rfl rfl ?_
        refine v_move rfl ?_
        refine v_conv_iw lay3 lay23 rfl ?_
        refine v_neq lay23 rfl rfl (fun h5 => ?_) (fun h5 => ?_)
        · skip
          exact absurd (by rw [List.getElem_map, List.getElem_range]; rfl) h5
        · skip
          refine v_nil ?_
          refine q_n ?_
          refine w_f rfl ?_
          refine w_skip ?_
          refine q_n ?_
          refine w_seq ?_
          refine w_reg rfl ?_
          refine v_move rfl ?_
          refine v_add lay3 rfl rfl (i64r (by omega)) ?_
          refine v_assign rfl ?_
          refine v_nil ?_
          refine q_n ?_
          refine w_seq ?_
          refine w_seq ?_
          refine w_reg rfl ?_
          refine v_move rfl ?_
          refine v_move rfl ?_
          refine v_idx (k := 3) te_len lay40 lay27 rfl rfl rfl (by simp) rfl (by rw [List.length_map, List.length_range]; omega) (fun q6 hq6 e6 => ?_)
          obtain rfl : i = q6 := by omega
          refine v_fa_vw (off' := 2) lay27 rfl rfl rfl ?_
          refine v_load_vw (.c (.v _)) lay23 rfl rfl rfl ?_
          refine v_move rfl ?_
          refine v_conv_iw lay3 lay23 rfl ?_
          refine v_neq lay23 rfl rfl (fun h7 => ?_) (fun h7 => ?_)
          · skip
            exact absurd (by rw [List.getElem_map, List.getElem_range]; rfl) h7
          · skip
            refine v_nil ?_
            refine q_n ?_
            refine w_f rfl ?_
            refine w_skip ?_
            refine q_n ?_
            refine w_reg rfl ?_
            refine v_move rfl ?_
            refine v_add lay3 rfl rfl (i64r (by omega)) ?_
            refine v_assign rfl ?_
            refine v_nil ?_
            refine q_bn ?_
            refine q_n ?_
            refine w_reg rfl ?_
            refine v_move rfl ?_
            refine v_add lay3 rfl rfl (i64r (by omega)) ?_
            refine v_assign rfl ?_
            refine v_nil ?_
            refine q_n ?_
            refine ⟨_, _, _, ?_, ⟨i + 1, rfl, by omega, rfl, rfl⟩, by omega⟩
            exact turn0 ⟨tr_sl, tr_i (by push_cast; omega), tr_v, trivial⟩
    · skip
      refine v_nil ?_
      refine q_n ?_
      refine w_f rfl ?_
      refine w_exit ?_
      refine q_e ?_
      refine q_e ?_
      refine q_hit ?_
      refine q_n ?_
      refine w_seq ?_
      refine w_reg rfl ?_
      refine v_move rfl ?_
      refine v_assign rfl ?_
      refine v_nil ?_
      refine q_n ?_
      refine w_ret ?_
      refine r_r rfl ?_
      obtain rfl : i = n := by omega
      exact a_i rfl

theorem c7 (xs : List Tal) (hx : xs.length ≤ maxLen) (hb : T16 xs) : PureC X 7 [.c (tals false xs)] (cB true) := by
  refine PureC.of_body (drawD_ok X) (fun _ _ => Go.Proofs.Try.call7 _ _) Go.Proofs.Try.func7 rfl (n := 96) rfl ?_
  refine w_seq ?_
  refine w_reg rfl ?_
  refine v_assign (c := .v (.bool false)) rfl ?_
  refine v_nil ?_
  refine q_n ?_
  refine w_seq ?_
  refine w_reg rfl ?_
  refine v_assign (c := .v (.int .i64 1048576)) rfl ?_
  refine v_nil ?_
  refine q_n ?_
  refine w_seq ?_
  refine w_reg rfl ?_
  refine v_move rfl ?_
  refine v_move rfl ?_
  refine v_call (c20 _ _ (by omega) (by assumption)) rfl rfl rfl (.cons vw_sl (.cons vw_v .nil)) ?_
  refine v_assign rfl ?_
  refine v_nil ?_
  refine q_n ?_
  refine w_seq ?_
  refine w_seq ?_
  refine w_reg rfl ?_
  refine v_move rfl ?_
  refine v_lss lay3 rfl rfl (fun h1 => ?_) (fun h1 => ?_)
  · skip
    refine v_nil ?_
    refine q_n ?_
    refine w_t rfl ?_
    refine w_seq ?_
    refine w_reg rfl ?_
    refine v_assign (c := .v (.bool true)) rfl ?_
    refine v_nil ?_
    refine q_n ?_
    refine w_ret (q_r ?_)
    refine r_r rfl ?_
    exact tr_v
  · skip
    have hs1 := szr_in h1
    have hln := fg_len xs
    refine v_nil ?_
    refine q_n ?_
    refine w_f rfl ?_
    refine w_skip ?_
    refine q_n ?_
    refine w_seq ?_
    refine w_reg rfl ?_
    refine v_move rfl ?_
    refine v_call (c22 _ (by omega)) rfl rfl rfl (.cons vw_sl .nil) ?_
    refine v_call (c36 _ (by omega) (by assumption)) rfl rfl rfl (.cons vw_sl .nil) ?_
    refine v_move_t rfl ?_
    refine v_extract_c rfl rfl ?_
    refine v_extract_c rfl rfl ?_
    refine v_assign rfl ?_
    refine v_assign rfl ?_
    refine v_nil ?_
    refine q_n ?_
    refine w_seq ?_
    refine w_reg rfl ?_
    refine v_move rfl ?_
    refine v_live1 (N := 0) (H' := [_]) (c22l _ (by omega)) (sc_flat te_sc _) rfl rfl rfl rfl rfl rfl (.cons vw_sl .nil) ?_
    refine v_assign rfl ?_
    refine v_nil ?_
    refine q_n ?_
    refine w_seq ?_
    refine w_reg rfl ?_
    refine v_move rfl ?_
    refine v_live1 (N := 1) (H' := [_, _]) (c37l _ (by omega) (by assumption)) (sc_flat te_sc _) rfl rfl rfl rfl rfl rfl (.cons (vw_mu2 te_sc te_len rfl (by simp)) .nil) ?_
    refine v_move_t rfl ?_
    refine v_extract_c rfl rfl ?_
    refine v_extract_c rfl rfl ?_
    refine v_assign rfl ?_
    refine v_assign rfl ?_
    refine v_nil ?_
    refine q_n ?_
    refine w_seq ?_
    refine w_seq ?_
    refine w_reg rfl ?_
    refine v_move rfl ?_
    refine v_move rfl ?_
    refine v_callb (c25 _ _ (by omega)) rfl rfl (.cons (vw_mu2 te_sc te_len rfl (by simp)) (.cons vw_sl .nil)) (fun h2 => ?_) (fun h2 => ?_)
    · skip
      refine v_not false rfl rfl ?_
      refine v_move rfl ?_
      refine v_guard_on rfl rfl ?_
      refine v_move rfl ?_
      refine v_guard_on rfl rfl ?_
      refine v_move rfl ?_
      refine v_guard_on rfl rfl ?_
      refine v_neq lay2 rfl rfl (fun h3 => ?_) (fun h3 => ?_)
      · skip
        exact absurd rfl h3
      · skip
        refine v_pick_f rfl rfl ?_
        refine v_nil ?_
        refine q_n ?_
        refine w_f rfl ?_
        refine w_skip ?_
        refine q_n ?_
        refine w_seq ?_
        refine w_seq ?_
        refine w_reg rfl ?_
        refine v_move rfl ?_
        refine v_move rfl ?_
        refine v_call (c22 _ (by omega)) rfl rfl rfl (.cons vw_sl .nil) ?_
        refine v_callb (c25 _ _ (by omega)) rfl rfl (.cons (vw_mu2 te_sc te_len rfl (by simp)) (.cons vw_sl .nil)) (fun h4 => ?_) (fun h4 => ?_)
        · skip
          refine v_not false rfl rfl ?_
          refine v_nil ?_
          refine q_n ?_
          refine w_f rfl ?_
          refine w_skip ?_
          refine q_n ?_
          refine w_seq ?_
          refine w_reg rfl ?_
          refine v_assign (c := .v (.int .i64 1)) rfl ?_
          refine v_nil ?_
          refine q_n ?_
          refine w_seq ?_
          refine w_reg rfl ?_
          refine v_move rfl ?_
          refine v_move rfl ?_
          refine v_mark (H' := [_, _]) (c26 _ _ (by omega) (by omega)) rfl (sc_flat te_sc _) (sc_flat te_sc _) rfl rfl rfl rfl ?_
          refine v_assign rfl ?_
          refine v_nil ?_
          refine q_n ?_
          refine w_seq ?_
          refine w_seq ?_
          refine w_reg rfl ?_
          refine v_move rfl ?_
          refine v_lss lay3 rfl rfl (fun h5 => ?_) (fun h5 => ?_)
          · skip
            exact absurd h5 (by omega)
          · skip
            refine v_move rfl ?_
            refine v_guard_on rfl rfl ?_
            refine v_move rfl ?_
            refine v_guard_on rfl rfl ?_
            refine v_move rfl ?_
            refine v_guard_on rfl rfl ?_
            refine v_callb (c25 _ _ (by omega)) rfl rfl (.cons (vw_mu2 te_sc te_len rfl (by simp)) (.cons vw_sl .nil)) (fun h6 => ?_) (fun h6 => ?_)
            · skip
              refine v_guard_on rfl rfl ?_
              refine v_not false rfl rfl ?_
              refine v_pick_f rfl rfl ?_
              refine v_move rfl ?_
              refine v_guard_on rfl rfl ?_
              refine v_move rfl ?_
              refine v_guard_on rfl rfl ?_
              refine v_move rfl ?_
              refine v_guard_on rfl rfl ?_
              refine v_neq lay2 rfl rfl (fun h7 => ?_) (fun h7 => ?_)
              · skip
                exact absurd rfl h7
              · skip
                refine v_pick_f rfl rfl ?_
                refine v_nil ?_
                refine q_n ?_
                refine w_f rfl ?_
                refine w_skip ?_
                refine q_n ?_
                refine w_seq ?_
                refine w_reg rfl ?_
                refine v_assign (c := .v (.int .i64 1)) rfl ?_
                refine v_nil ?_
                refine q_n ?_
                refine w_seq ?_
                refine w_reg rfl ?_
                refine v_move rfl ?_
                refine v_move rfl ?_
                refine v_mark (H' := [_, _]) (c26 _ _ (by omega) (by omega)) rfl (sc_flat te_sc _) (sc_flat te_sc _) rfl rfl rfl rfl ?_
                refine v_assign rfl ?_
                refine v_nil ?_
                refine q_n ?_
                refine w_seq ?_
                refine w_reg rfl ?_
                refine v_assign (c := .v (.int .i64 1)) rfl ?_
                refine v_nil ?_
                refine q_n ?_
                refine w_seq ?_
                refine w_reg rfl ?_
                refine v_move rfl ?_
                refine v_move rfl ?_
                refine v_call (c38 _ _ (by omega) (by omega)) rfl rfl rfl (.cons (vw_mu2 te_sc te_len rfl (by simp)) (.cons vw_v .nil)) ?_
                refine v_assign rfl ?_
                refine v_nil ?_
                refine q_n ?_
                refine w_seq ?_
                refine w_seq ?_
                refine w_reg rfl ?_
                refine v_move rfl ?_
                refine v_lss lay3 rfl rfl (fun h8 => ?_) (fun h8 => ?_)
                · skip
                  exact absurd h8 (by omega)
                · skip
                  refine v_nil ?_
                  refine q_n ?_
                  refine w_f rfl ?_
                  refine w_skip ?_
                  refine q_n ?_
                  refine w_seq ?_
                  refine w_seq ?_
                  refine w_reg rfl ?_
                  refine v_move rfl ?_
                  refine v_move rfl ?_
                  refine v_neq lay3 rfl rfl (fun h9 => ?_) (fun h9 => ?_)
                  · skip
                    exact absurd rfl h9
                  · skip
                    refine v_nil ?_
                    refine q_n ?_
                    refine w_f rfl ?_
                    refine w_skip ?_
                    refine q_n ?_
                    refine w_seq ?_
                    refine w_reg rfl ?_
                    refine v_move rfl ?_
                    refine v_call (c22 _ (by omega)) rfl rfl rfl (.cons vw_sl .nil) ?_
                    refine v_call (c37 _ (by omega) (by assumption)) rfl rfl rfl (.cons vw_sl .nil) ?_
                    refine v_move_t rfl ?_
                    refine v_extract_c rfl rfl ?_
                    refine v_extract_c rfl rfl ?_
                    refine v_assign rfl ?_
                    refine v_assign rfl ?_
                    refine v_nil ?_
                    refine q_n ?_
                    refine w_seq ?_
                    refine w_seq ?_
                    refine w_reg rfl ?_
                    refine v_move rfl ?_
                    refine v_move rfl ?_
                    refine v_callb (c25 _ _ (by omega)) rfl rfl (.cons vw_sl (.cons vw_sl .nil)) (fun h10 => ?_) (fun h10 => ?_)
                    · skip
                      refine v_not false rfl rfl ?_
                      refine v_move rfl ?_
                      refine v_guard_on rfl rfl ?_
                      refine v_move rfl ?_
                      refine v_guard_on rfl rfl ?_
                      refine v_move rfl ?_
                      refine v_guard_on rfl rfl ?_
                      refine v_neq lay2 rfl rfl (fun h11 => ?_) (fun h11 => ?_)
                      · skip
                        exact absurd rfl h11
                      · skip
                        refine v_pick_f rfl rfl ?_
                        refine v_nil ?_
                        refine q_n ?_
                        refine w_f rfl ?_
                        refine w_skip ?_
                        refine q_n ?_
                        refine w_seq ?_
                        refine w_reg rfl ?_
                        refine v_assign (c := .v (.int .i64 1)) rfl ?_
                        refine v_nil ?_
                        refine q_n ?_
                        refine w_seq ?_
                        refine w_reg rfl ?_
                        refine v_move rfl ?_
                        refine v_move rfl ?_
                        refine v_call (c38 _ _ (by omega) (by omega)) rfl rfl rfl (.cons (vw_mu2 te_sc te_len rfl (by simp)) (.cons vw_v .nil)) ?_
                        refine v_assign rfl ?_
                        refine v_nil ?_
                        refine q_n ?_
                        refine w_seq ?_
                        refine w_seq ?_
                        refine w_reg rfl ?_
                        refine v_move rfl ?_
                        refine v_lss lay3 rfl rfl (fun h12 => ?_) (fun h12 => ?_)
                        · skip
                          exact absurd h12 (by omega)
                        · skip
                          refine v_nil ?_
                          refine q_n ?_
                          refine w_f rfl ?_
                          refine w_skip ?_
                          refine q_n ?_
                          refine w_seq ?_
                          refine w_seq ?_
                          refine w_reg rfl ?_
                          refine v_move rfl ?_
                          refine v_move rfl ?_
                          refine v_neq lay3 rfl rfl (fun h13 => ?_) (fun h13 => ?_)
                          · skip
                            exact absurd rfl h13
                          · skip
                            refine v_nil ?_
                            refine q_n ?_
                            refine w_f rfl ?_
                            refine w_skip ?_
                            refine q_n ?_
                            refine w_seq ?_
                            refine w_reg rfl ?_
                            refine v_assign (c := .v (.bool true)) rfl ?_
                            refine v_nil ?_
                            refine q_n ?_
                            refine w_ret ?_
                            refine r_r rfl ?_
                            exact tr_v
                    · skip
                      exact absurd rfl h10
            · skip
              exact absurd rfl h6
        · skip
          exact absurd rfl h4
    · skip
      exact absurd rfl h2
end Go.VL
namespace Go.VL
open Go.RowKit
set_option maxRecDepth 20000
theorem a_t2 {H : List Ob} {a b : Int} {r : Int × Int} (h : r = (a, b)) : TrV H [] (.tup [cI a, cI b]) (.tup [cI r.1, cI r.2]) := by
  rw [h]
  exact a_tup (.cons tr_v (.cons tr_v .nil))
def bmark (a : Int) (j : Nat) : Int := IntKind.u8.wrap (a + j)
theorem by_be : ∀ xs : List Int, bytesOf (flat be xs) = some xs
  | [] => rfl
  | x :: xs => by
    rw [flat_cons]
    show (bytesOf (flat be xs)).map (x :: ·) = _
    rw [by_be xs]; rfl
/-- A packet's head. -/
def headOk (xs : List Int) : Prop := ∃ h : 3 ≤ xs.length, xs[0] = 68 ∧ xs[1] = 84 ∧ xs[2] ≤ 96
noncomputable instance (xs : List Int) : Decidable (headOk xs) := Classical.propDecidable _
noncomputable def hdR (xs : List Int) : Int × Int := if 676 < xs.length then (0, 2) else if headOk xs then (xs.getD 2 0, 0) else (0, 5)
section
variable {xs : List Int}
theorem hd_2 (h : 676 < xs.length) : hdR xs = (0, 2) := by unfold hdR; rw [if_pos h]
theorem hd_5 (h : ¬ 676 < xs.length) (h1 : ¬ headOk xs) : hdR xs = (0, 5) := by unfold hdR; rw [if_neg h, if_neg h1]
theorem hd_0 (h : ¬ 676 < xs.length) (h1 : headOk xs) : hdR xs = (xs[2]'(by have := h1.1; omega), 0) := by
  unfold hdR
  have h2 : 2 < xs.length := by have := h1.1; omega
  rw [if_neg h, if_pos h1, List.getD_eq_getElem?_getD, List.getElem?_eq_getElem h2, Option.getD_some]
theorem dt_take (hb : B8 xs) : ((strOf ((xs.drop 0).take (2 - 0))).toList == (strOf [68, 84]).toList) = true ↔ xs.take 2 = [68, 84] :=
  strOf_eq (fun x hx => hb x (List.mem_of_mem_take hx)) (fun x hx => by
    simp only [List.mem_cons, List.not_mem_nil, or_false] at hx
    rcases hx with rfl | rfl <;> omega)
theorem dt_ok (hb : B8 xs) (h : (!((strOf ((xs.drop 0).take (2 - 0))).toList == (strOf [68, 84]).toList)) = false) (h2 : 2 < xs.length) (h3 : xs[2] ≤ 96) : headOk xs := by
  have h4 := (dt_take hb).1 (by simpa using h)
  refine ⟨by omega, ?_, ?_, h3⟩
  · have := congrArg (fun l => l[0]?) h4
    simp only [List.getElem?_take_of_lt (show 0 < 2 by omega)] at this
    rw [List.getElem?_eq_getElem (by omega)] at this
    simpa using this
  · have := congrArg (fun l => l[1]?) h4
    simp only [List.getElem?_take_of_lt (show 1 < 2 by omega)] at this
    rw [List.getElem?_eq_getElem (by omega)] at this
    simpa using this
theorem dt_no (hb : B8 xs) (h : (!((strOf ((xs.drop 0).take (2 - 0))).toList == (strOf [68, 84]).toList)) = true) (hk : headOk xs) : False := by
  have h4 : xs.take 2 = [68, 84] := by
    obtain ⟨h0, h1, h2, -⟩ := hk
    match xs, h0 with
    | a :: b :: c :: r, _ =>
      simp at h1 h2
      simp [h1, h2]
  have := (dt_take hb).2 h4
  rw [this] at h
  cases h
end
theorem c40l (xs : List Int) (hx : xs.length ≤ 2 ^ 40) : LiveC X 40 [.c (bys false xs)] (.c (.mu 0 0 xs.length 1)) [⟨flat be xs, 5, true⟩] := by
  refine LiveC.of_body (drawD_ok X) (fun _ _ => Go.Proofs.Try.call40 _ _) Go.Proofs.Try.func40 rfl (n := 22) rfl ?_
  refine w_seq ?_
  refine w_reg rfl ?_
  refine v_assign rfl ?_
  refine v_nil ?_
  refine q_n ?_
  refine w_seq ?_
  refine w_reg rfl ?_
  refine v_move rfl ?_
  refine v_len_sl lay47 rfl ?_
  refine v_make (enc := be) (a0 := (0 : Int)) (m := 0) (H' := [_]) rfl lay47 lay5 rfl rfl rfl rfl (xs.length) (rfl) (by unfold maxLen; simp only []; omega) rfl rfl ?_
  refine v_assign rfl ?_
  refine v_nil ?_
  refine q_n ?_
  refine w_seq ?_
  refine w_seq ?_
  refine w_reg rfl ?_
  refine v_assign (c := .v (.int .i64 0)) rfl ?_
  refine v_nil ?_
  refine q_n ?_
  refine w_block ?_
  refine w_loop (fun k sl H => ∃ i : Nat, k = xs.length - i ∧ i ≤ xs.length ∧ sl = sls [(0, .c (bys false xs)), (3, .c (.mu 0 0 xs.length 1)), (4, cI i)] ∧ H = [⟨flat be (xs.take i ++ List.replicate (xs.length - i) 0), 5, true⟩]) ?_ ?_
  · refine ⟨_, _, _, ?_, 0, rfl, Nat.zero_le _, rfl, rfl⟩
    exact turn [some 0] rfl rfl rfl ⟨⟨_, rfl, .stay (stays_flat be_sc _)⟩, trivial⟩ ⟨tr_sl, tr_mu rfl, tr_v, trivial⟩
  · rintro k sl H ⟨i, rfl, hi, rfl, rfl⟩
    refine w_seq ?_
    refine w_seq ?_
    refine w_reg rfl ?_
    refine v_move rfl ?_
    refine v_move rfl ?_
    refine v_len_sl lay47 rfl ?_
    refine v_lss lay3 rfl rfl (fun h1 => ?_) (fun h1 => ?_)
    · skip
      refine v_nil ?_
      refine q_n ?_
      refine w_t rfl ?_
      refine w_skip ?_
      refine q_n ?_
      refine w_seq ?_
      refine w_block ?_
      refine w_reg rfl ?_
      refine v_move rfl ?_
      refine v_move rfl ?_
      refine v_move rfl ?_
      refine v_move rfl ?_
      refine v_idx (k := 1) be_len lay47 lay5 rfl rfl rfl (rfl) rfl (by omega) (fun q2 hq2 e2 => ?_)
      obtain rfl : i = q2 := by omega
      refine v_load_vw (.c (.v _)) lay5 rfl rfl rfl ?_
      refine v_idx_mu (k := 1) (off := 0) lay47 lay5 rfl rfl rfl (by omega) (fun q3 hq3 e3 => ?_)
      obtain rfl : i = q3 := by omega
      refine v_store_flat (H' := [_]) i 0 (xs[i]) be_len lay5 rfl rfl rfl (by omega) (by simp; omega) rfl rfl (rfl) rfl ?_
      refine v_nil ?_
      refine q_bn ?_
      refine q_n ?_
      refine w_reg rfl ?_
      refine v_move rfl ?_
      refine v_add lay3 rfl rfl (i64r (by omega)) ?_
      refine v_assign rfl ?_
      refine v_nil ?_
      refine q_n ?_
      refine ⟨_, _, _, ?_, ⟨i + 1, rfl, by omega, rfl, rfl⟩, by omega⟩
      exact turn [some 0] rfl rfl rfl ⟨⟨_, rfl, by rw [fill_step hq2]; exact .stay (stays_flat be_sc _)⟩, trivial⟩ ⟨tr_sl, tr_mu rfl, tr_v, trivial⟩
    · skip
      refine v_nil ?_
      refine q_n ?_
      refine w_f rfl ?_
      refine w_exit ?_
      refine q_e ?_
      refine q_e ?_
      refine q_hit ?_
      refine q_n ?_
      refine w_seq ?_
      refine w_reg rfl ?_
      refine v_move rfl ?_
      refine v_assign rfl ?_
      refine v_nil ?_
      refine q_n ?_
      refine w_ret ?_
      refine r_r rfl ?_
      obtain rfl : i = xs.length := by omega
      exact l_ans [some 0] rfl rfl ⟨⟨_, rfl, trc_flat be_sc (by simp)⟩, trivial⟩ (tr_mu rfl)

theorem c40 (xs : List Int) (hx : xs.length ≤ 2 ^ 40) : PureC X 40 [.c (bys false xs)] (.c (bys true xs)) := (c40l xs hx).pure (a_flat be_sc be_len rfl rfl)

theorem c31 (xs ys : List Int) (hx : xs.length ≤ 2 ^ 40) : PureC X 31 [.c (bys false xs), .c (bys false ys)] (cB (decide (xs = ys))) := by
  refine PureC.of_body (drawD_ok X) (fun _ _ => Go.Proofs.Try.call31 _ _) Go.Proofs.Try.func31 rfl (n := 26) rfl ?_
  refine w_seq ?_
  refine w_reg rfl ?_
  refine v_assign (c := .v (.bool false)) rfl ?_
  refine v_nil ?_
  refine q_n ?_
  refine w_seq ?_
  refine w_seq ?_
  refine w_reg rfl ?_
  refine v_move rfl ?_
  refine v_len_sl lay47 rfl ?_
  refine v_move rfl ?_
  refine v_len_sl lay47 rfl ?_
  refine v_neq lay3 rfl rfl (fun h1 => ?_) (fun h1 => ?_)
  · skip
    refine v_nil ?_
    refine q_n ?_
    refine w_t rfl ?_
    refine w_seq ?_
    refine w_reg rfl ?_
    refine v_assign (c := .v (.bool false)) rfl ?_
    refine v_nil ?_
    refine q_n ?_
    refine w_ret (q_r ?_)
    refine r_r rfl ?_
    exact a_b (by simp only [Bool.false_eq_true, false_iff]; rintro rfl; exact h1 rfl)
  · skip
    refine v_nil ?_
    refine q_n ?_
    refine w_f rfl ?_
    refine w_skip ?_
    refine q_n ?_
    refine w_seq ?_
    refine w_seq ?_
    refine w_reg rfl ?_
    refine v_assign (c := .v (.int .i64 0)) rfl ?_
    refine v_nil ?_
    refine q_n ?_
    refine w_block ?_
    refine w_loop (fun k sl H => ∃ i : Nat, k = xs.length - i ∧ i ≤ xs.length ∧ xs.take i = ys.take i ∧ sl = sls [(0, .c (bys false xs)), (1, .c (bys false ys)), (5, cI i)] ∧ H = []) ?_ ?_
    · refine ⟨_, _, _, ?_, 0, rfl, Nat.zero_le _, rfl, rfl, rfl⟩
      exact turn0 ⟨tr_sl, tr_sl, tr_v, trivial⟩
    · rintro k sl H ⟨i, rfl, hi, hp, rfl, rfl⟩
      refine w_seq ?_
      refine w_seq ?_
      refine w_reg rfl ?_
      refine v_move rfl ?_
      refine v_move rfl ?_
      refine v_len_sl lay47 rfl ?_
      refine v_lss lay3 rfl rfl (fun h2 => ?_) (fun h2 => ?_)
      · skip
        refine v_nil ?_
        refine q_n ?_
        refine w_t rfl ?_
        refine w_skip ?_
        refine q_n ?_
        refine w_seq ?_
        refine w_block ?_
        refine w_seq ?_
        refine w_draw [0, 0, 3, 7, 0, 0, 48, 112, 255] [⟨0, 0, []⟩, ⟨1, 0, []⟩, ⟨2, 0, []⟩, ⟨3, 0, []⟩, ⟨4, 0, []⟩, ⟨5, 0, []⟩, ⟨6, 0, []⟩, ⟨7, 0, []⟩, ⟨8, 0, []⟩] rfl rfl ?_
        refine d_q rfl rfl rfl rfl rfl ?_
        refine v_move rfl ?_
        refine v_nil ?_
        refine d_q rfl rfl rfl rfl rfl ?_
        refine v_move rfl ?_
        refine v_nil ?_
        refine d_q rfl rfl rfl rfl rfl ?_
        refine v_idx (k := 1) be_len lay47 lay5 rfl rfl rfl (rfl) rfl (by omega) (fun q3 hq3 e3 => ?_)
        obtain rfl : i = q3 := by omega
        refine v_nil ?_
        refine d_q rfl rfl rfl rfl rfl ?_
        refine v_load_vw (.c (.v _)) lay5 rfl rfl rfl ?_
        refine v_nil ?_
        refine d_q rfl rfl rfl rfl rfl ?_
        refine v_move rfl ?_
        refine v_nil ?_
        refine d_q rfl rfl rfl rfl rfl ?_
        refine v_move rfl ?_
        refine v_nil ?_
        refine d_q rfl rfl rfl rfl rfl ?_
        refine v_idx (k := 1) be_len lay47 lay5 rfl rfl rfl (rfl) rfl (by omega) (fun q4 hq4 e4 => ?_)
        obtain rfl : i = q4 := by omega
        refine v_nil ?_
        refine d_q rfl rfl rfl rfl rfl ?_
        refine v_load_vw (.c (.v _)) lay5 rfl rfl rfl ?_
        refine v_nil ?_
        refine d_q rfl rfl rfl rfl rfl ?_
        refine v_neq lay5 rfl rfl (fun h5 => ?_) (fun h5 => ?_)
        · skip
          refine v_nil ?_
          refine d_nil ?_
          refine q_n ?_
          refine w_t rfl ?_
          refine w_seq ?_
          refine w_reg rfl ?_
          refine v_assign (c := .v (.bool false)) rfl ?_
          refine v_nil ?_
          refine q_n ?_
          refine w_ret (q_br (q_r (q_r (q_br (q_r ?_)))))
          refine r_r rfl ?_
          exact a_b (by simp only [Bool.false_eq_true, false_iff]; rintro rfl; exact h5 rfl)
        · skip
          refine v_nil ?_
          refine d_nil ?_
          refine q_n ?_
          refine w_f rfl ?_
          refine w_skip ?_
          refine q_bn ?_
          refine q_n ?_
          refine w_reg rfl ?_
          refine v_move rfl ?_
          refine v_add lay3 rfl rfl (i64r (by omega)) ?_
          refine v_assign rfl ?_
          refine v_nil ?_
          refine q_n ?_
          refine ⟨_, _, _, ?_, ⟨i + 1, rfl, by omega, ?_, rfl, rfl⟩, by omega⟩
          · exact turn0 ⟨tr_sl, tr_sl, tr_v, trivial⟩
          · rw [List.take_succ_eq_append_getElem hq3, List.take_succ_eq_append_getElem hq4, hp, h5]
      · skip
        refine v_nil ?_
        refine q_n ?_
        refine w_f rfl ?_
        refine w_exit ?_
        refine q_e ?_
        refine q_e ?_
        refine q_hit ?_
        refine q_n ?_
        refine w_seq ?_
        refine w_reg rfl ?_
        refine v_assign (c := .v (.bool true)) rfl ?_
        refine v_nil ?_
        refine q_n ?_
        refine w_ret ?_
        refine r_r rfl ?_
        have he : i = xs.length := by omega
        have hl : ys.length = xs.length := by omega
        rw [he, List.take_length, ← hl, List.take_length] at hp
        exact a_b (by simp only [true_iff]; exact hp)

theorem c32 (xs : List Int) (a : Int) (hx : xs.length ≤ 2 ^ 40) (ha : 0 ≤ a ∧ a ≤ 2 ^ 20) : MarkC X 32 xs.length 1 5 (flat be xs) (.int .i64 a) (.int .i64 (a + xs.length)) (flat be ((List.range xs.length).map (bmark a))) := by
  refine MarkC.of_body (drawD_ok X) (fun _ _ => Go.Proofs.Try.call32 _ _) Go.Proofs.Try.func32 rfl (sc_flat be_sc _) (q := 20) rfl ?_
  refine w_seq ?_
  refine w_reg rfl ?_
  refine v_assign (c := .v (.int .i64 0)) rfl ?_
  refine v_nil ?_
  refine q_n ?_
  refine w_seq ?_
  refine w_seq ?_
  refine w_reg rfl ?_
  refine v_assign (c := .v (.int .i64 0)) rfl ?_
  refine v_nil ?_
  refine q_n ?_
  refine w_block ?_
  refine w_loop (fun k sl H => ∃ i : Nat, k = xs.length - i ∧ i ≤ xs.length ∧ sl = sls [(0, .c (.mu 0 0 xs.length 1)), (1, cI (a + i)), (5, cI i)] ∧ H = [⟨flat be (marks (bmark a) i xs), 5, true⟩]) ?_ ?_
  · refine ⟨_, _, _, ?_, 0, rfl, Nat.zero_le _, rfl, rfl⟩
    exact turn [some 0] rfl rfl rfl ⟨⟨_, rfl, trc_flat be_sc rfl⟩, trivial⟩ ⟨tr_mu rfl, tr_i (by simp), tr_v, trivial⟩
  · rintro k sl H ⟨i, rfl, hi, rfl, rfl⟩
    refine w_seq ?_
    refine w_seq ?_
    refine w_reg rfl ?_
    refine v_move rfl ?_
    refine v_move rfl ?_
    refine v_len_mu lay47 rfl ?_
    refine v_lss lay3 rfl rfl (fun h1 => ?_) (fun h1 => ?_)
    · skip
      refine v_nil ?_
      refine q_n ?_
      refine w_t rfl ?_
      refine w_skip ?_
      refine q_n ?_
      refine w_seq ?_
      refine w_block ?_
      refine w_seq ?_
      refine w_reg rfl ?_
      refine v_move rfl ?_
      refine v_move rfl ?_
      refine v_move rfl ?_
      refine v_conv_iw lay3 lay5 rfl ?_
      refine v_idx_mu (k := 1) (off := 0) lay47 lay5 rfl rfl rfl (by omega) (fun q2 hq2 e2 => ?_)
      obtain rfl : i = q2 := by omega
      refine v_store_flat (H' := [_]) i 0 (IntKind.u8.wrap (a + i)) be_len lay5 rfl rfl rfl (by omega) (by rw [marks_len (by omega)]; omega) rfl rfl (rfl) rfl ?_
      refine v_nil ?_
      refine q_n ?_
      refine w_reg rfl ?_
      refine v_move rfl ?_
      refine v_add lay3 rfl rfl (i64r (by omega)) ?_
      refine v_assign rfl ?_
      refine v_nil ?_
      refine q_bn ?_
      refine q_n ?_
      refine w_reg rfl ?_
      refine v_move rfl ?_
      refine v_add lay3 rfl rfl (i64r (by omega)) ?_
      refine v_assign rfl ?_
      refine v_nil ?_
      refine q_n ?_
      refine ⟨_, _, _, ?_, ⟨i + 1, rfl, by omega, rfl, rfl⟩, by omega⟩
      exact turn [some 0] rfl rfl rfl ⟨⟨_, rfl, trc_flat be_sc (congrArg (flat be) (marks_step (by omega)))⟩, trivial⟩ ⟨tr_mu rfl, tr_i (by push_cast; omega), tr_v, trivial⟩
    · skip
      refine v_nil ?_
      refine q_n ?_
      refine w_f rfl ?_
      refine w_exit ?_
      refine q_e ?_
      refine q_e ?_
      refine q_hit ?_
      refine q_n ?_
      refine w_seq ?_
      refine w_reg rfl ?_
      refine v_move rfl ?_
      refine v_assign rfl ?_
      refine v_nil ?_
      refine q_n ?_
      refine w_ret ?_
      refine r_r rfl ?_
      obtain rfl : i = xs.length := by omega
      exact ⟨rfl, [], by rw [← marks_all]⟩

theorem c33 (n : Nat) (a : Int) (hx : n ≤ 2 ^ 40) (ha : 0 ≤ a ∧ a ≤ 2 ^ 20) : PureC X 33 [.c (.sl false n 1 (flat be ((List.range n).map (bmark a)))), cI a] (cI (a + n)) := by
  refine PureC.of_body (drawD_ok X) (fun _ _ => Go.Proofs.Try.call33 _ _) Go.Proofs.Try.func33 rfl (n := 22) rfl ?_
  refine w_seq ?_
  refine w_reg rfl ?_
  refine v_assign (c := .v (.int .i64 0)) rfl ?_
  refine v_nil ?_
  refine q_n ?_
  refine w_seq ?_
  refine w_seq ?_
  refine w_reg rfl ?_
  refine v_assign (c := .v (.int .i64 0)) rfl ?_
  refine v_nil ?_
  refine q_n ?_
  refine w_block ?_
  refine w_loop (fun k sl H => ∃ i : Nat, k = n - i ∧ i ≤ n ∧ sl = sls [(0, .c (.sl false n 1 (flat be ((List.range n).map (bmark a))))), (1, cI (a + i)), (5, cI i)] ∧ H = []) ?_ ?_
  · refine ⟨_, _, _, ?_, 0, rfl, Nat.zero_le _, rfl, rfl⟩
    exact turn0 ⟨tr_sl, tr_i (by simp), tr_v, trivial⟩
  · rintro k sl H ⟨i, rfl, hi, rfl, rfl⟩
    refine w_seq ?_
    refine w_seq ?_
    refine w_reg rfl ?_
    refine v_move rfl ?_
    refine v_move rfl ?_
    refine v_len_sl lay47 rfl ?_
    refine v_lss lay3 rfl rfl (fun h1 => ?_) (fun h1 => ?_)
    · skip
      refine v_nil ?_
      refine q_n ?_
      refine w_t rfl ?_
      refine w_skip ?_
      refine q_n ?_
      refine w_seq ?_
      refine w_block ?_
      refine w_seq ?_
      refine w_seq ?_
      refine w_reg rfl ?_
      refine v_move rfl ?_
      refine v_move rfl ?_
      refine v_idx (k := 1) be_len lay47 lay5 rfl rfl rfl (by simp) rfl (by rw [List.length_map, List.length_range]; omega) (fun q2 hq2 e2 => ?_)
      obtain rfl : i = q2 := by omega
      refine v_load_vw (.c (.v _)) lay5 rfl rfl rfl ?_
      refine v_move rfl ?_
      refine v_conv_iw lay3 lay5 rfl ?_
      refine v_neq lay5 rfl rfl (fun h3 => ?_) (fun h3 => ?_)
      · skip
        exact absurd (by rw [List.getElem_map, List.getElem_range]; rfl) h3
      · skip
        refine v_nil ?_
        refine q_n ?_
        refine w_f rfl ?_
        refine w_skip ?_
        refine q_n ?_
        refine w_reg rfl ?_
        refine v_move rfl ?_
        refine v_add lay3 rfl rfl (i64r (by omega)) ?_
        refine v_assign rfl ?_
        refine v_nil ?_
        refine q_bn ?_
        refine q_n ?_
        refine w_reg rfl ?_
        refine v_move rfl ?_
        refine v_add lay3 rfl rfl (i64r (by omega)) ?_
        refine v_assign rfl ?_
        refine v_nil ?_
        refine q_n ?_
        refine ⟨_, _, _, ?_, ⟨i + 1, rfl, by omega, rfl, rfl⟩, by omega⟩
        exact turn0 ⟨tr_sl, tr_i (by push_cast; omega), tr_v, trivial⟩
    · skip
      refine v_nil ?_
      refine q_n ?_
      refine w_f rfl ?_
      refine w_exit ?_
      refine q_e ?_
      refine q_e ?_
      refine q_hit ?_
      refine q_n ?_
      refine w_seq ?_
      refine w_reg rfl ?_
      refine v_move rfl ?_
      refine v_assign rfl ?_
      refine v_nil ?_
      refine q_n ?_
      refine w_ret ?_
      refine r_r rfl ?_
      obtain rfl : i = n := by omega
      exact a_i rfl

theorem c90 (xs ys : List Int) (hx : B8 xs) (hy : B8 ys) : PureC X 90 [.c (bys false xs), .c (bys false ys)] (cB (decide (xs = ys))) := by
  refine PureC.of_body (drawD_ok X) (fun _ _ => Go.Proofs.Try.call90 _ _) Go.Proofs.Try.func90 rfl (n := 10) rfl ?_
  refine w_seq ?_
  refine w_reg rfl ?_
  refine v_assign (c := .v (.bool false)) rfl ?_
  refine v_nil ?_
  refine q_n ?_
  refine w_seq ?_
  refine w_reg rfl ?_
  refine v_move rfl ?_
  refine v_conv_bs lay47 lay9 lay5 rfl (by_be _) ?_
  refine v_move rfl ?_
  refine v_conv_bs lay47 lay9 lay5 rfl (by_be _) ?_
  refine v_binb lay9 rfl rfl rfl (fun h1 => ?_) (fun h1 => ?_)
  · skip
    refine v_assign rfl ?_
    refine v_nil ?_
    refine q_n ?_
    refine w_ret ?_
    refine r_r rfl ?_
    exact a_b ⟨fun _ => (strOf_eq hx hy).1 h1, fun _ => rfl⟩
  · skip
    refine v_assign rfl ?_
    refine v_nil ?_
    refine q_n ?_
    refine w_ret ?_
    refine r_r rfl ?_
    exact a_b ⟨fun h => (by cases h), fun h => absurd (h1.symm.trans ((strOf_eq hx hy).2 h)) (by decide)⟩

theorem c85 (xs : List Int) (hx : xs.length ≤ 2 ^ 40) (hb : B8 xs) : PureC X 85 [.c (bys false xs)] (.tup [cI (hdR xs).1, cI (hdR xs).2]) := by
  refine PureC.of_body (drawD_ok X) (fun _ _ => Go.Proofs.Try.call85 _ _) Go.Proofs.Try.func85 rfl (n := 32) rfl ?_
  refine w_seq ?_
  refine w_reg rfl ?_
  refine v_assign (c := .v (.int .i64 0)) rfl ?_
  refine v_assign (c := .v (.int .i64 0)) rfl ?_
  refine v_nil ?_
  refine q_n ?_
  refine w_seq ?_
  refine w_seq ?_
  refine w_reg rfl ?_
  refine v_move rfl ?_
  refine v_len_sl lay47 rfl ?_
  refine v_gtr lay3 rfl rfl (fun h1 => ?_) (fun h1 => ?_)
  · skip
    refine v_nil ?_
    refine q_n ?_
    refine w_t rfl ?_
    refine w_seq ?_
    refine w_reg rfl ?_
    refine v_assign (c := .v (.int .i64 0)) rfl ?_
    refine v_assign (c := .v (.int .i64 2)) rfl ?_
    refine v_nil ?_
    refine q_n ?_
    refine w_ret (q_r ?_)
    refine r_r rfl ?_
    exact a_t2 (hd_2 (by omega))
  · skip
    refine v_nil ?_
    refine q_n ?_
    refine w_f rfl ?_
    refine w_skip ?_
    refine q_n ?_
    refine w_seq ?_
    refine w_seq ?_
    refine w_reg rfl ?_
    refine v_move rfl ?_
    refine v_len_sl lay47 rfl ?_
    refine v_lss lay3 rfl rfl (fun h2 => ?_) (fun h2 => ?_)
    · skip
      refine v_move rfl ?_
      refine v_guard_off rfl rfl rfl ?_
      refine v_guard_off rfl rfl rfl ?_
      refine v_guard_off rfl rfl rfl ?_
      refine v_guard_off rfl rfl rfl ?_
      refine v_pick_t (v := .v (.bool true)) rfl rfl ?_
      refine v_move rfl ?_
      refine v_guard_off rfl rfl rfl ?_
      refine v_guard_off rfl rfl rfl ?_
      refine v_guard_off rfl rfl rfl ?_
      refine v_guard_off rfl rfl rfl ?_
      refine v_pick_t (v := .v (.bool true)) rfl rfl ?_
      refine v_move rfl ?_
      refine v_guard_off rfl rfl rfl ?_
      refine v_guard_off rfl rfl rfl ?_
      refine v_guard_off rfl rfl rfl ?_
      refine v_guard_off rfl rfl rfl ?_
      refine v_pick_t (v := .v (.bool true)) rfl rfl ?_
      refine v_nil ?_
      refine q_n ?_
      refine w_t rfl ?_
      refine w_seq ?_
      refine w_reg rfl ?_
      refine v_assign (c := .v (.int .i64 0)) rfl ?_
      refine v_assign (c := .v (.int .i64 5)) rfl ?_
      refine v_nil ?_
      refine q_n ?_
      refine w_ret (q_r ?_)
      refine r_r rfl ?_
      exact a_t2 (hd_5 (by omega) fun h => by have h0 := h.1; omega)
    · skip
      refine v_move rfl ?_
      refine v_guard_on rfl rfl ?_
      refine v_move rfl ?_
      refine v_guard_on rfl rfl ?_
      refine v_idx (k := 1) be_len lay47 lay5 rfl rfl rfl (rfl) rfl (by omega) (fun q3 hq3 e3 => ?_)
      obtain rfl : q3 = 0 := by omega
      refine v_guard_on rfl rfl ?_
      refine v_load_vw (.c (.v _)) lay5 rfl rfl rfl ?_
      refine v_guard_on rfl rfl ?_
      refine v_neq lay5 rfl rfl (fun h4 => ?_) (fun h4 => ?_)
      · skip
        refine v_pick_f rfl rfl ?_
        refine v_move rfl ?_
        refine v_guard_off rfl rfl rfl ?_
        refine v_guard_off rfl rfl rfl ?_
        refine v_guard_off rfl rfl rfl ?_
        refine v_guard_off rfl rfl rfl ?_
        refine v_pick_t (v := .v (.bool true)) rfl rfl ?_
        refine v_move rfl ?_
        refine v_guard_off rfl rfl rfl ?_
        refine v_guard_off rfl rfl rfl ?_
        refine v_guard_off rfl rfl rfl ?_
        refine v_guard_off rfl rfl rfl ?_
        refine v_pick_t (v := .v (.bool true)) rfl rfl ?_
        refine v_nil ?_
        refine q_n ?_
        refine w_t rfl ?_
        refine w_seq ?_
        refine w_reg rfl ?_
        refine v_assign (c := .v (.int .i64 0)) rfl ?_
        refine v_assign (c := .v (.int .i64 5)) rfl ?_
        refine v_nil ?_
        refine q_n ?_
        refine w_ret (q_r ?_)
        refine r_r rfl ?_
        exact a_t2 (hd_5 (by omega) fun h => h4 h.2.1)
      · skip
        refine v_pick_f rfl rfl ?_
        refine v_move rfl ?_
        refine v_guard_on rfl rfl ?_
        refine v_move rfl ?_
        refine v_guard_on rfl rfl ?_
        refine v_idx (k := 1) be_len lay47 lay5 rfl rfl rfl (rfl) rfl (by omega) (fun q5 hq5 e5 => ?_)
        obtain rfl : q5 = 1 := by omega
        refine v_guard_on rfl rfl ?_
        refine v_load_vw (.c (.v _)) lay5 rfl rfl rfl ?_
        refine v_guard_on rfl rfl ?_
        refine v_neq lay5 rfl rfl (fun h6 => ?_) (fun h6 => ?_)
        · skip
          refine v_pick_f rfl rfl ?_
          refine v_move rfl ?_
          refine v_guard_off rfl rfl rfl ?_
          refine v_guard_off rfl rfl rfl ?_
          refine v_guard_off rfl rfl rfl ?_
          refine v_guard_off rfl rfl rfl ?_
          refine v_pick_t (v := .v (.bool true)) rfl rfl ?_
          refine v_nil ?_
          refine q_n ?_
          refine w_t rfl ?_
          refine w_seq ?_
          refine w_reg rfl ?_
          refine v_assign (c := .v (.int .i64 0)) rfl ?_
          refine v_assign (c := .v (.int .i64 5)) rfl ?_
          refine v_nil ?_
          refine q_n ?_
          refine w_ret (q_r ?_)
          refine r_r rfl ?_
          exact a_t2 (hd_5 (by omega) fun h => h6 h.2.2.1)
        · skip
          refine v_pick_f rfl rfl ?_
          refine v_move rfl ?_
          refine v_guard_on rfl rfl ?_
          refine v_move rfl ?_
          refine v_guard_on rfl rfl ?_
          refine v_idx (k := 1) be_len lay47 lay5 rfl rfl rfl (rfl) rfl (by omega) (fun q7 hq7 e7 => ?_)
          obtain rfl : q7 = 2 := by omega
          refine v_guard_on rfl rfl ?_
          refine v_load_vw (.c (.v _)) lay5 rfl rfl rfl ?_
          refine v_guard_on rfl rfl ?_
          refine v_gtr lay5 rfl rfl (fun h8 => ?_) (fun h8 => ?_)
          · skip
            refine v_pick_f rfl rfl ?_
            refine v_nil ?_
            refine q_n ?_
            refine w_t rfl ?_
            refine w_seq ?_
            refine w_reg rfl ?_
            refine v_assign (c := .v (.int .i64 0)) rfl ?_
            refine v_assign (c := .v (.int .i64 5)) rfl ?_
            refine v_nil ?_
            refine q_n ?_
            refine w_ret (q_r ?_)
            refine r_r rfl ?_
            exact a_t2 (hd_5 (by omega) fun h => by have h0 := h.2.2.2; omega)
          · skip
            refine v_pick_f rfl rfl ?_
            refine v_nil ?_
            refine q_n ?_
            refine w_f rfl ?_
            refine w_skip ?_
            refine q_n ?_
            refine w_seq ?_
            refine w_reg rfl ?_
            refine v_move rfl ?_
            refine v_idx (k := 1) be_len lay47 lay5 rfl rfl rfl (rfl) rfl (by omega) (fun q9 hq9 e9 => ?_)
            obtain rfl : q9 = 2 := by omega
            refine v_load_vw (.c (.v _)) lay5 rfl rfl rfl ?_
            refine v_conv_ii lay5 lay3 rfl (i64r (by have hx1 := bytes_in hb hq9; omega)) ?_
            refine v_assign rfl ?_
            refine v_assign (c := .v (.int .i64 0)) rfl ?_
            refine v_nil ?_
            refine q_n ?_
            refine w_ret ?_
            refine r_r rfl ?_
            exact a_t2 (hd_0 (by omega) ⟨by omega, h4, h6, by omega⟩)

theorem c87 (xs : List Int) (hx : xs.length ≤ 2 ^ 40) (hb : B8 xs) : PureC X 87 [.c (bys false xs)] (cI (hdR xs).2) := by
  refine PureC.of_body (drawD_ok X) (fun _ _ => Go.Proofs.Try.call87 _ _) Go.Proofs.Try.func87 rfl (n := 27) rfl ?_
  refine w_seq ?_
  refine w_reg rfl ?_
  refine v_assign (c := .v (.int .i64 0)) rfl ?_
  refine v_nil ?_
  refine q_n ?_
  refine w_seq ?_
  refine w_reg rfl ?_
  refine v_move rfl ?_
  refine v_len_sl lay47 rfl ?_
  refine v_lss lay3 rfl rfl (fun h1 => ?_) (fun h1 => ?_)
  · skip
    refine v_move rfl ?_
    refine v_guard_off rfl rfl rfl ?_
    refine v_guard_off rfl rfl rfl ?_
    refine v_guard_off rfl rfl rfl ?_
    refine v_guard_off rfl rfl rfl ?_
    refine v_pick_t (v := .v (.bool true)) rfl rfl ?_
    refine v_move rfl ?_
    refine v_guard_off rfl rfl rfl ?_
    refine v_guard_off rfl rfl rfl ?_
    refine v_guard_off rfl rfl rfl ?_
    refine v_guard_off rfl rfl rfl ?_
    refine v_pick_t (v := .v (.bool true)) rfl rfl ?_
    refine v_assign rfl ?_
    refine v_nil ?_
    refine q_n ?_
    refine w_seq ?_
    refine w_reg rfl ?_
    refine v_move rfl ?_
    refine v_len_sl lay47 rfl ?_
    refine v_gtr lay3 rfl rfl (fun h2 => ?_) (fun h2 => ?_)
    · skip
      refine v_call (c65 _ _) rfl rfl rfl (.cons vw_v (.cons vw_v .nil)) ?_
      refine v_move rfl ?_
      refine v_call (c65 _ _) rfl rfl rfl (.cons vw_v (.cons vw_v .nil)) ?_
      refine v_lit (flat int [_, _]) (H' := [_]) lay118 lay2 rfl rfl ⟨by decide, by decide⟩ rfl rfl ?_
      refine v_call (c64 [_, _] (Nat.le_of_ble_eq_true rfl)) rfl rfl rfl (.cons (vw_mu2 int_sc int_len rfl (by first | (simp; done) | (simp; omega))) .nil) ?_
      refine v_assign rfl ?_
      refine v_nil ?_
      refine q_n ?_
      refine w_ret ?_
      refine r_r rfl ?_
      exact a_i (Eq.trans (b := 2) (by decide) (congrArg Prod.snd (hd_2 (by omega))).symm)
    · skip
      refine v_call (c65 _ _) rfl rfl rfl (.cons vw_v (.cons vw_v .nil)) ?_
      refine v_move rfl ?_
      refine v_call (c65 _ _) rfl rfl rfl (.cons vw_v (.cons vw_v .nil)) ?_
      refine v_lit (flat int [_, _]) (H' := [_]) lay118 lay2 rfl rfl ⟨by decide, by decide⟩ rfl rfl ?_
      refine v_call (c64 [_, _] (Nat.le_of_ble_eq_true rfl)) rfl rfl rfl (.cons (vw_mu2 int_sc int_len rfl (by first | (simp; done) | (simp; omega))) .nil) ?_
      refine v_assign rfl ?_
      refine v_nil ?_
      refine q_n ?_
      refine w_ret ?_
      refine r_r rfl ?_
      exact a_i (Eq.trans (b := 5) (by decide) (congrArg Prod.snd (hd_5 (by omega) fun h => by have h0 := h.1; omega)).symm)
  · skip
    refine v_move rfl ?_
    refine v_guard_on rfl rfl ?_
    refine v_move rfl ?_
    refine v_guard_on rfl rfl ?_
    refine v_slice_sl (0) (2) be_len lay47 lay5 rfl rfl rfl rfl rfl (rfl) (rfl) (by omega) ?_
    refine v_guard_on rfl rfl ?_
    refine v_conv_bs lay47 lay9 lay5 rfl (by_be _) ?_
    refine v_guard_on rfl rfl ?_
    refine v_binb lay9 rfl rfl rfl (fun h3 => ?_) (fun h3 => ?_)
    · skip
      refine v_pick_f rfl rfl ?_
      refine v_move rfl ?_
      refine v_guard_off rfl rfl rfl ?_
      refine v_guard_off rfl rfl rfl ?_
      refine v_guard_off rfl rfl rfl ?_
      refine v_guard_off rfl rfl rfl ?_
      refine v_pick_t (v := .v (.bool true)) rfl rfl ?_
      refine v_assign rfl ?_
      refine v_nil ?_
      refine q_n ?_
      refine w_seq ?_
      refine w_reg rfl ?_
      refine v_move rfl ?_
      refine v_len_sl lay47 rfl ?_
      refine v_gtr lay3 rfl rfl (fun h4 => ?_) (fun h4 => ?_)
      · skip
        refine v_call (c65 _ _) rfl rfl rfl (.cons vw_v (.cons vw_v .nil)) ?_
        refine v_move rfl ?_
        refine v_call (c65 _ _) rfl rfl rfl (.cons vw_v (.cons vw_v .nil)) ?_
        refine v_lit (flat int [_, _]) (H' := [_]) lay118 lay2 rfl rfl ⟨by decide, by decide⟩ rfl rfl ?_
        refine v_call (c64 [_, _] (Nat.le_of_ble_eq_true rfl)) rfl rfl rfl (.cons (vw_mu2 int_sc int_len rfl (by first | (simp; done) | (simp; omega))) .nil) ?_
        refine v_assign rfl ?_
        refine v_nil ?_
        refine q_n ?_
        refine w_ret ?_
        refine r_r rfl ?_
        exact a_i (Eq.trans (b := 2) (by decide) (congrArg Prod.snd (hd_2 (by omega))).symm)
      · skip
        refine v_call (c65 _ _) rfl rfl rfl (.cons vw_v (.cons vw_v .nil)) ?_
        refine v_move rfl ?_
        refine v_call (c65 _ _) rfl rfl rfl (.cons vw_v (.cons vw_v .nil)) ?_
        refine v_lit (flat int [_, _]) (H' := [_]) lay118 lay2 rfl rfl ⟨by decide, by decide⟩ rfl rfl ?_
        refine v_call (c64 [_, _] (Nat.le_of_ble_eq_true rfl)) rfl rfl rfl (.cons (vw_mu2 int_sc int_len rfl (by first | (simp; done) | (simp; omega))) .nil) ?_
        refine v_assign rfl ?_
        refine v_nil ?_
        refine q_n ?_
        refine w_ret ?_
        refine r_r rfl ?_
        exact a_i (Eq.trans (b := 5) (by decide) (congrArg Prod.snd (hd_5 (by omega) fun h => dt_no hb h3 h)).symm)
    · skip
      refine v_pick_f rfl rfl ?_
      refine v_move rfl ?_
      refine v_guard_on rfl rfl ?_
      refine v_move rfl ?_
      refine v_guard_on rfl rfl ?_
      refine v_idx (k := 1) be_len lay47 lay5 rfl rfl rfl (rfl) rfl (by omega) (fun q5 hq5 e5 => ?_)
      obtain rfl : q5 = 2 := by omega
      refine v_guard_on rfl rfl ?_
      refine v_load_vw (.c (.v _)) lay5 rfl rfl rfl ?_
      refine v_guard_on rfl rfl ?_
      refine v_gtr lay5 rfl rfl (fun h6 => ?_) (fun h6 => ?_)
      · skip
        refine v_pick_f rfl rfl ?_
        refine v_assign rfl ?_
        refine v_nil ?_
        refine q_n ?_
        refine w_seq ?_
        refine w_reg rfl ?_
        refine v_move rfl ?_
        refine v_len_sl lay47 rfl ?_
        refine v_gtr lay3 rfl rfl (fun h7 => ?_) (fun h7 => ?_)
        · skip
          refine v_call (c65 _ _) rfl rfl rfl (.cons vw_v (.cons vw_v .nil)) ?_
          refine v_move rfl ?_
          refine v_call (c65 _ _) rfl rfl rfl (.cons vw_v (.cons vw_v .nil)) ?_
          refine v_lit (flat int [_, _]) (H' := [_]) lay118 lay2 rfl rfl ⟨by decide, by decide⟩ rfl rfl ?_
          refine v_call (c64 [_, _] (Nat.le_of_ble_eq_true rfl)) rfl rfl rfl (.cons (vw_mu2 int_sc int_len rfl (by first | (simp; done) | (simp; omega))) .nil) ?_
          refine v_assign rfl ?_
          refine v_nil ?_
          refine q_n ?_
          refine w_ret ?_
          refine r_r rfl ?_
          exact a_i (Eq.trans (b := 2) (by decide) (congrArg Prod.snd (hd_2 (by omega))).symm)
        · skip
          refine v_call (c65 _ _) rfl rfl rfl (.cons vw_v (.cons vw_v .nil)) ?_
          refine v_move rfl ?_
          refine v_call (c65 _ _) rfl rfl rfl (.cons vw_v (.cons vw_v .nil)) ?_
          refine v_lit (flat int [_, _]) (H' := [_]) lay118 lay2 rfl rfl ⟨by decide, by decide⟩ rfl rfl ?_
          refine v_call (c64 [_, _] (Nat.le_of_ble_eq_true rfl)) rfl rfl rfl (.cons (vw_mu2 int_sc int_len rfl (by first | (simp; done) | (simp; omega))) .nil) ?_
          refine v_assign rfl ?_
          refine v_nil ?_
          refine q_n ?_
          refine w_ret ?_
          refine r_r rfl ?_
          exact a_i (Eq.trans (b := 5) (by decide) (congrArg Prod.snd (hd_5 (by omega) fun h => by have h0 := h.2.2.2; omega)).symm)
      · skip
        refine v_pick_f rfl rfl ?_
        refine v_assign rfl ?_
        refine v_nil ?_
        refine q_n ?_
        refine w_seq ?_
        refine w_reg rfl ?_
        refine v_move rfl ?_
        refine v_len_sl lay47 rfl ?_
        refine v_gtr lay3 rfl rfl (fun h8 => ?_) (fun h8 => ?_)
        · skip
          refine v_call (c65 _ _) rfl rfl rfl (.cons vw_v (.cons vw_v .nil)) ?_
          refine v_move rfl ?_
          refine v_call (c65 _ _) rfl rfl rfl (.cons vw_v (.cons vw_v .nil)) ?_
          refine v_lit (flat int [_, _]) (H' := [_]) lay118 lay2 rfl rfl ⟨by decide, by decide⟩ rfl rfl ?_
          refine v_call (c64 [_, _] (Nat.le_of_ble_eq_true rfl)) rfl rfl rfl (.cons (vw_mu2 int_sc int_len rfl (by first | (simp; done) | (simp; omega))) .nil) ?_
          refine v_assign rfl ?_
          refine v_nil ?_
          refine q_n ?_
          refine w_ret ?_
          refine r_r rfl ?_
          exact a_i (Eq.trans (b := 2) (by decide) (congrArg Prod.snd (hd_2 (by omega))).symm)
        · skip
          refine v_call (c65 _ _) rfl rfl rfl (.cons vw_v (.cons vw_v .nil)) ?_
          refine v_move rfl ?_
          refine v_call (c65 _ _) rfl rfl rfl (.cons vw_v (.cons vw_v .nil)) ?_
          refine v_lit (flat int [_, _]) (H' := [_]) lay118 lay2 rfl rfl ⟨by decide, by decide⟩ rfl rfl ?_
          refine v_call (c64 [_, _] (Nat.le_of_ble_eq_true rfl)) rfl rfl rfl (.cons (vw_mu2 int_sc int_len rfl (by first | (simp; done) | (simp; omega))) .nil) ?_
          refine v_assign rfl ?_
          refine v_nil ?_
          refine q_n ?_
          refine w_ret ?_
          refine r_r rfl ?_
          exact a_i (Eq.trans (b := 0) (by decide) (congrArg Prod.snd (hd_0 (by omega) (dt_ok hb h3 hq5 (by omega)))).symm)
end Go.VL
namespace Go.VL
open Go.RowKit
set_option maxRecDepth 20000
set_option maxHeartbeats 4000000
/-- A number out of two bytes. -/
def two (xs : List Int) (j : Nat) : Int := xs.getD j 0 + 256 * xs.getD (j + 1) 0
theorem getD_i {xs : List Int} {i : Nat} (hi : i < xs.length) : xs.getD i 0 = xs[i] := by
  rw [List.getD_eq_getElem?_getD, List.getElem?_eq_getElem hi, Option.getD_some]
theorem two_eq {xs : List Int} {j : Nat} (hb : B8 xs) (hj : j + 1 < xs.length) : bits .or .i64 xs[j] (IntKind.i64.wrap (xs[j + 1] * 2 ^ min (8 : Int).toNat IntKind.i64.bits)) = two xs j := by
  unfold two
  rw [getD_i (by omega), getD_i hj]
  exact or_eq (bytes_in hb _) (bytes_in hb _)
def six (ds : List Int) (i : Nat) : List Int := (ds.drop (3 + 7 * i)).take 6
theorem six_len {ds : List Int} {i : Nat} (hl : 3 + 7 * i + 7 ≤ ds.length) : (six ds i).length = 6 := by unfold six; simp; omega
theorem six_b8 {ds : List Int} (hb : B8 ds) (i : Nat) : B8 (six ds i) := fun x hx => hb x (List.mem_of_mem_drop (List.mem_of_mem_take hx))
theorem b8_app {a : Int} {xs : List Int} (ha : 0 ≤ a ∧ a ≤ 255) (hx : B8 xs) : B8 ([a] ++ xs) := fun x hm => by
  rcases List.mem_append.1 hm with h | h
  · simp at h; subst h; exact ha
  · exact hx x h
/-- The tally that six bytes tell. -/
def tl6 (s : List Int) : Tal := (two s 0, IntKind.i16.wrap (two s 2), IntKind.i16.wrap (two s 4))
def t3 (s : List Int) : List Int := [two s 0, two s 2, two s 4]
/-- Is the check of a tally's bytes right? -/
def rgt (ds : List Int) (i : Nat) : Prop := (ck ([IntKind.u8.wrap i] ++ six ds i)).2 = ds.getD (3 + 7 * i + 6) 0
instance (ds : List Int) (i : Nat) : Decidable (rgt ds i) := by unfold rgt; infer_instance
theorem rgt_iff {ds : List Int} {i q : Nat} (hq : q < ds.length) (e : 3 + 7 * (i : Int) + 6 = q) : rgt ds i ↔ (ck ([IntKind.u8.wrap i] ++ six ds i)).2 = ds[q] := by
  obtain rfl : q = 3 + 7 * i + 6 := by omega
  unfold rgt
  rw [getD_i hq]
theorem t3_step {s : List Int} {j q q' : Nat} (hj : j < 3) (hq : q < s.length) (hq' : q' < s.length) (e : 2 * (j : Int) = q) (e' : 2 * (j : Int) + 1 = q') : ((t3 s).take j ++ List.replicate (3 - j) 0).set j (s[q] + 256 * s[q']) = (t3 s).take (j + 1) ++ List.replicate (3 - (j + 1)) 0 := by
  have h := fill_step (xs := t3 s) (i := j) (a := (0 : Int)) (by simpa [t3] using hj)
  have hv : (t3 s)[j]'(by simpa [t3] using hj) = s[q] + 256 * s[q'] := by
    obtain rfl : q = 2 * j := by omega
    obtain rfl : q' = 2 * j + 1 := by omega
    have h1 : s[2 * j] + 256 * s[2 * j + 1] = two s (2 * j) := by unfold two; rw [getD_i hq, getD_i hq']
    rw [h1]
    match j, hj with
    | 0, _ => rfl
    | 1, _ => rfl
    | 2, _ => rfl
  rw [hv] at h
  exact h
theorem tr_sln {α : Type} {H : List Ob} {g : List (Option Nat)} {enc : α → List C} {b : Bool} {n n' k : Nat} {xs xs' : List α} (hn : n = n') (hx : xs = xs') : TrV H g (.c (.sl b n k (flat enc xs))) (.c (.sl b n' k (flat enc xs'))) := by rw [hn, hx]; exact tr_sl
theorem c116 (xs : List Int) (j : Nat) (hj : j + 1 < xs.length) (hx : xs.length ≤ 2 ^ 40) (hb : B8 xs) : PureC X 116 [cI j, .c (.vw false [bys false xs] 0)] (cI (two xs j)) := by
  refine PureC.of_body (drawD_ok X) (fun _ _ => Go.Proofs.Try.call116 _ _) Go.Proofs.Try.func116 rfl (n := 17) rfl ?_
  refine w_seq ?_
  refine w_reg rfl ?_
  refine v_assign (c := .v (.int .i64 0)) rfl ?_
  refine v_nil ?_
  refine q_n ?_
  refine w_seq ?_
  refine w_draw [0, 0, 3, 7, 15, 0, 0, 64, 224, 480, 992, 2016, 4095, 8191] [⟨0, 0, []⟩, ⟨1, 0, []⟩, ⟨2, 0, []⟩, ⟨3, 0, []⟩, ⟨4, 0, []⟩, ⟨5, 0, []⟩, ⟨6, 0, []⟩, ⟨7, 0, []⟩, ⟨8, 0, []⟩, ⟨9, 0, []⟩, ⟨10, 0, []⟩, ⟨11, 0, []⟩, ⟨12, 0, []⟩, ⟨13, 0, []⟩] rfl rfl ?_
  refine d_q rfl rfl rfl rfl rfl ?_
  refine v_load_vw (.c (_)) lay47 rfl rfl rfl ?_
  refine v_nil ?_
  refine d_q rfl rfl rfl rfl rfl ?_
  refine v_move rfl ?_
  refine v_nil ?_
  refine d_q rfl rfl rfl rfl rfl ?_
  refine v_idx (k := 1) be_len lay47 lay5 rfl rfl rfl (rfl) rfl (by omega) (fun q1 hq1 e1 => ?_)
  obtain rfl : j = q1 := by omega
  refine v_nil ?_
  refine d_q rfl rfl rfl rfl rfl ?_
  refine v_load_vw (.c (.v _)) lay5 rfl rfl rfl ?_
  refine v_nil ?_
  refine d_q rfl rfl rfl rfl rfl ?_
  refine v_conv_ii lay5 lay2 rfl (by first | exact i64r (by have hx1 := bytes_in hb hq1; omega) | exact i64r (by have hx1 := bytes_in hb hq2; omega)) ?_
  refine v_nil ?_
  refine d_q rfl rfl rfl rfl rfl ?_
  refine v_load_vw (.c (_)) lay47 rfl rfl rfl ?_
  refine v_nil ?_
  refine d_q rfl rfl rfl rfl rfl ?_
  refine v_move rfl ?_
  refine v_nil ?_
  refine d_q rfl rfl rfl rfl rfl ?_
  refine v_add lay3 rfl rfl (i64r (by omega)) ?_
  refine v_nil ?_
  refine d_q rfl rfl rfl rfl rfl ?_
  refine v_idx (k := 1) be_len lay47 lay5 rfl rfl rfl (rfl) rfl (by omega) (fun q2 hq2 e2 => ?_)
  obtain rfl : q2 = j + 1 := by omega
  refine v_nil ?_
  refine d_q rfl rfl rfl rfl rfl ?_
  refine v_load_vw (.c (.v _)) lay5 rfl rfl rfl ?_
  refine v_nil ?_
  refine d_q rfl rfl rfl rfl rfl ?_
  refine v_conv_ii lay5 lay2 rfl (by first | exact i64r (by have hx1 := bytes_in hb hq1; omega) | exact i64r (by have hx1 := bytes_in hb hq2; omega)) ?_
  refine v_nil ?_
  refine d_q rfl rfl rfl rfl rfl ?_
  refine v_bin (c := .v (.int .i64 _)) lay2 rfl rfl rfl ?_
  refine v_nil ?_
  refine d_q rfl rfl rfl rfl rfl ?_
  refine v_bin (c := .v (.int .i64 _)) lay2 rfl rfl rfl ?_
  refine v_nil ?_
  refine d_q rfl rfl rfl rfl rfl ?_
  refine v_assign rfl ?_
  refine v_nil ?_
  refine d_nil ?_
  refine q_n ?_
  refine w_ret ?_
  refine r_r rfl ?_
  exact a_i (two_eq hb hj)

theorem c89 (xs : List Int) (hl : 6 ≤ xs.length) (hx : xs.length ≤ 2 ^ 40) (hb : B8 xs) : PureC X 89 [.c (bys false xs)] (.agg (tal (two xs 0) (IntKind.i16.wrap (two xs 2)) (IntKind.i16.wrap (two xs 4)))) := by
  refine PureC.of_body (drawD_ok X) (fun _ _ => Go.Proofs.Try.call89 _ _) Go.Proofs.Try.func89 rfl (n := 14) rfl ?_
  refine w_seq ?_
  refine w_reg rfl ?_
  refine v_box (m := 0) (H' := [_]) lay47 rfl rfl rfl ?_
  refine v_alloc (m := 1) (H' := [_, ⟨[.v _, .v _, .v _], 27, true⟩]) lay27 rfl rfl ?_
  refine v_nil ?_
  refine q_n ?_
  refine w_seq ?_
  refine w_reg rfl ?_
  refine v_fn rfl ?_
  refine v_assign rfl ?_
  refine v_nil ?_
  refine q_n ?_
  refine w_seq ?_
  refine w_reg rfl ?_
  refine v_move rfl ?_
  refine v_call (c116 xs 0 (by omega) hx hb) rfl rfl rfl (.cons vw_v (.cons (vw_pt rfl (.cons (.sl (fun h => by cases h)) .nil)) .nil)) ?_
  refine v_move rfl ?_
  refine v_call (c116 xs 2 (by omega) hx hb) rfl rfl rfl (.cons vw_v (.cons (vw_pt rfl (.cons (.sl (fun h => by cases h)) .nil)) .nil)) ?_
  refine v_conv_iw lay2 lay23 rfl ?_
  refine v_move rfl ?_
  refine v_call (c116 xs 4 (by omega) hx hb) rfl rfl rfl (.cons vw_v (.cons (vw_pt rfl (.cons (.sl (fun h => by cases h)) .nil)) .nil)) ?_
  refine v_conv_iw lay2 lay23 rfl ?_
  refine v_build [(0, 1), (1, 1), (2, 1)] [.v _, .v _, .v _] lay27 rfl rfl ?_
  refine v_store (H' := [_, ⟨[_, _, _], 27, true⟩]) lay27 rfl rfl rfl rfl rfl rfl ?_
  refine v_nil ?_
  refine q_n ?_
  refine w_ret ?_
  refine r_r rfl ?_
  exact a_agg (.cons tr_v (.cons tr_v (.cons tr_v .nil)))

theorem c91n (n : Nat) (xs : List Int) (hn : n = xs.length) (hx : xs.length ≤ 2 ^ 40) (hb : B8 xs) : PureC X 91 [.c (.sl false n 1 (flat be xs))] (.c (.v (.int .u8 (ck xs).2))) := by rw [hn]; exact c91 xs hx hb
theorem c76n (n : Nat) (xs : List Int) (hn : n = xs.length) (hx : xs.length ≤ 2 ^ 40) (hb : B8 xs) : PureC X 76 [.c (.sl false n 1 (flat be xs))] (.c (.v (.int .u8 (ck xs).2))) := by rw [hn]; exact c76 xs hx hb
theorem c89n (n : Nat) (xs : List Int) (hn : n = xs.length) (hl : 6 ≤ xs.length) (hx : xs.length ≤ 2 ^ 40) (hb : B8 xs) : PureC X 89 [.c (.sl false n 1 (flat be xs))] (.agg (tal (two xs 0) (IntKind.i16.wrap (two xs 2)) (IntKind.i16.wrap (two xs 4)))) := by rw [hn]; exact c89 xs hl hx hb
theorem c90n (n : Nat) (xs ys : List Int) (hn : n = ys.length) (hx : B8 xs) (hy : B8 ys) : PureC X 90 [.c (bys false xs), .c (.sl false n 1 (flat be ys))] (cB (decide (xs = ys))) := by rw [hn]; exact c90 xs ys hx hy

theorem c86 (ds : List Int) (i : Nat) (hl : 3 + 7 * i + 7 ≤ ds.length) (hx : ds.length ≤ 2 ^ 40) (hb : B8 ds) : PureC X 86 [.c (bys false ds), cI i] (.tup [.agg (te (tl6 (six ds i))), cB (decide (rgt ds i))]) := by
  refine PureC.of_body (drawD_ok X) (fun _ _ => Go.Proofs.Try.call86 _ _) Go.Proofs.Try.func86 rfl (n := 63) rfl ?_
  refine w_seq ?_
  refine w_reg rfl ?_
  refine v_alloc (m := 0) (H' := [⟨[.v _, .v _, .v _], 27, true⟩]) lay27 rfl rfl ?_
  refine v_assign (c := .v (.bool false)) rfl ?_
  refine v_nil ?_
  refine q_n ?_
  refine w_seq ?_
  refine w_reg rfl ?_
  refine v_move rfl ?_
  refine v_mul lay3 rfl rfl (by first | exact i64r (by omega) | exact i64r (by have hx2 := bytes_in (six_b8 hb i) hq3; omega) | exact i64r (by have hx1 := bytes_in (six_b8 hb i) hq2; have hx2 := bytes_in (six_b8 hb i) hq3; omega)) ?_
  refine v_add lay3 rfl rfl (by first | exact i64r (by omega) | exact i64r (by have hx2 := bytes_in (six_b8 hb i) hq3; omega) | exact i64r (by have hx1 := bytes_in (six_b8 hb i) hq2; have hx2 := bytes_in (six_b8 hb i) hq3; omega)) ?_
  refine v_assign rfl ?_
  refine v_nil ?_
  refine q_n ?_
  refine w_seq ?_
  refine w_reg rfl ?_
  refine v_move rfl ?_
  refine v_move rfl ?_
  refine v_move rfl ?_
  refine v_add lay3 rfl rfl (by first | exact i64r (by omega) | exact i64r (by have hx2 := bytes_in (six_b8 hb i) hq3; omega) | exact i64r (by have hx1 := bytes_in (six_b8 hb i) hq2; have hx2 := bytes_in (six_b8 hb i) hq3; omega)) ?_
  refine v_slice_sl (3 + 7 * i) (3 + 7 * i + 6) be_len lay47 lay5 rfl rfl rfl rfl rfl (by omega) (by omega) (by omega) ?_
  refine v_assign rfl ?_
  refine v_nil ?_
  refine q_n ?_
  refine w_seq ?_
  refine w_reg rfl ?_
  refine v_build_a [.v _, .v _, .v _] lay128 lay2 rfl ?_
  refine v_alloc (m := 1) (H' := [_, ⟨[.v _, .v _, .v _], 128, true⟩]) lay128 rfl rfl ?_
  refine v_store (H' := [_, ⟨[_, _, _], 128, true⟩]) lay128 rfl rfl rfl rfl rfl rfl ?_
  refine v_nil ?_
  refine q_n ?_
  refine w_seq ?_
  refine w_seq ?_
  refine w_reg rfl ?_
  refine v_assign (c := .v (.int .i64 0)) rfl ?_
  refine v_nil ?_
  refine q_n ?_
  refine w_block ?_
  refine w_loop (fun k sl H => ∃ j : Nat, k = 3 - j ∧ j ≤ 3 ∧ sl = sls [(0, .c (bys false ds)), (1, cI i), (4, .c (.pt 0 0)), (6, cI (3 + 7 * (i : Int))), (7, .c (.sl false 6 1 (flat be (six ds i)))), (8, .c (.pt 1 0)), (9, cI j)] ∧ H = [⟨te (0, 0, 0), 27, true⟩, ⟨flat int ((t3 (six ds i)).take j ++ List.replicate (3 - j) 0), 128, true⟩]) ?_ ?_
  · refine ⟨_, _, _, ?_, 0, rfl, Nat.zero_le _, rfl, rfl⟩
    exact turn [some 0, some 1] rfl rfl rfl ⟨⟨_, rfl, .stay (stay_te (0, 0, 0))⟩, ⟨_, rfl, trc_flat int_sc rfl⟩, trivial⟩ ⟨tr_sl, tr_v, tr_pt rfl, tr_v, tr_sln (by omega) (by rw [show 3 + 7 * i + 6 - (3 + 7 * i) = 6 by omega]; rfl), tr_pt rfl, tr_v, trivial⟩
  · rintro k sl H ⟨j, rfl, hj, rfl, rfl⟩
    refine w_seq ?_
    refine w_seq ?_
    refine w_reg rfl ?_
    refine v_move rfl ?_
    refine v_lss lay3 rfl rfl (fun h1 => ?_) (fun h1 => ?_)
    · skip
      refine v_nil ?_
      refine q_n ?_
      refine w_t rfl ?_
      refine w_skip ?_
      refine q_n ?_
      refine w_seq ?_
      refine w_block ?_
      refine w_draw [0, 0, 0, 4, 14, 30, 62, 0, 0, 256, 768, 1920, 3968, 8064, 16256, 32766, 65535, 131071] [⟨0, 0, []⟩, ⟨1, 0, []⟩, ⟨2, 0, []⟩, ⟨3, 0, []⟩, ⟨4, 0, []⟩, ⟨5, 0, []⟩, ⟨6, 0, []⟩, ⟨7, 0, []⟩, ⟨8, 0, []⟩, ⟨9, 0, []⟩, ⟨10, 0, []⟩, ⟨11, 0, []⟩, ⟨12, 0, []⟩, ⟨13, 0, []⟩, ⟨14, 0, []⟩, ⟨15, 0, []⟩, ⟨16, 0, []⟩, ⟨17, 1, []⟩] rfl rfl ?_
      refine d_q rfl rfl rfl rfl rfl ?_
      refine v_move rfl ?_
      refine v_nil ?_
      refine d_q rfl rfl rfl rfl rfl ?_
      refine v_move rfl ?_
      refine v_nil ?_
      refine d_q rfl rfl rfl rfl rfl ?_
      refine v_move rfl ?_
      refine v_nil ?_
      refine d_q rfl rfl rfl rfl rfl ?_
      refine v_mul lay3 rfl rfl (by first | exact i64r (by omega) | exact i64r (by have hx2 := bytes_in (six_b8 hb i) hq3; omega) | exact i64r (by have hx1 := bytes_in (six_b8 hb i) hq2; have hx2 := bytes_in (six_b8 hb i) hq3; omega)) ?_
      refine v_nil ?_
      refine d_q rfl rfl rfl rfl rfl ?_
      refine v_idx (k := 1) be_len lay47 lay5 rfl rfl rfl ((six_len hl).symm) rfl (by rw [six_len hl]; omega) (fun q2 hq2 e2 => ?_)
      refine v_nil ?_
      refine d_q rfl rfl rfl rfl rfl ?_
      refine v_load_vw (.c (.v _)) lay5 rfl rfl rfl ?_
      refine v_nil ?_
      refine d_q rfl rfl rfl rfl rfl ?_
      refine v_conv_ii lay5 lay2 rfl (i64r (by first | (have hx2 := bytes_in (six_b8 hb i) hq3; omega) | (have hx1 := bytes_in (six_b8 hb i) hq2; omega))) ?_
      refine v_nil ?_
      refine d_q rfl rfl rfl rfl rfl ?_
      refine v_move rfl ?_
      refine v_nil ?_
      refine d_q rfl rfl rfl rfl rfl ?_
      refine v_move rfl ?_
      refine v_nil ?_
      refine d_q rfl rfl rfl rfl rfl ?_
      refine v_mul lay3 rfl rfl (by first | exact i64r (by omega) | exact i64r (by have hx2 := bytes_in (six_b8 hb i) hq3; omega) | exact i64r (by have hx1 := bytes_in (six_b8 hb i) hq2; have hx2 := bytes_in (six_b8 hb i) hq3; omega)) ?_
      refine v_nil ?_
      refine d_q rfl rfl rfl rfl rfl ?_
      refine v_add lay3 rfl rfl (by first | exact i64r (by omega) | exact i64r (by have hx2 := bytes_in (six_b8 hb i) hq3; omega) | exact i64r (by have hx1 := bytes_in (six_b8 hb i) hq2; have hx2 := bytes_in (six_b8 hb i) hq3; omega)) ?_
      refine v_nil ?_
      refine d_q rfl rfl rfl rfl rfl ?_
      refine v_idx (k := 1) be_len lay47 lay5 rfl rfl rfl ((six_len hl).symm) rfl (by rw [six_len hl]; omega) (fun q3 hq3 e3 => ?_)
      refine v_nil ?_
      refine d_q rfl rfl rfl rfl rfl ?_
      refine v_load_vw (.c (.v _)) lay5 rfl rfl rfl ?_
      refine v_nil ?_
      refine d_q rfl rfl rfl rfl rfl ?_
      refine v_conv_ii lay5 lay2 rfl (i64r (by first | (have hx2 := bytes_in (six_b8 hb i) hq3; omega) | (have hx1 := bytes_in (six_b8 hb i) hq2; omega))) ?_
      refine v_nil ?_
      refine d_q rfl rfl rfl rfl rfl ?_
      refine v_mul lay2 rfl rfl (by first | exact i64r (by omega) | exact i64r (by have hx2 := bytes_in (six_b8 hb i) hq3; omega) | exact i64r (by have hx1 := bytes_in (six_b8 hb i) hq2; have hx2 := bytes_in (six_b8 hb i) hq3; omega)) ?_
      refine v_nil ?_
      refine d_q rfl rfl rfl rfl rfl ?_
      refine v_add lay2 rfl rfl (by first | exact i64r (by omega) | exact i64r (by have hx2 := bytes_in (six_b8 hb i) hq3; omega) | exact i64r (by have hx1 := bytes_in (six_b8 hb i) hq2; have hx2 := bytes_in (six_b8 hb i) hq3; omega)) ?_
      refine v_nil ?_
      refine d_q rfl rfl rfl rfl rfl ?_
      refine v_idx_arr (k := 1) lay128 lay2 rfl rfl rfl (by omega) (fun q4 hq4 e4 => ?_)
      obtain rfl : j = q4 := by omega
      refine v_nil ?_
      refine d_e rfl rfl rfl ?_
      refine v_store_flat (H' := [_, _]) j 0 (_) int_len lay2 rfl rfl rfl (by omega) (by simp [t3]; try omega) rfl rfl (rfl) rfl ?_
      refine v_nil ⟨again_nil, ?_⟩
      refine d_nil ?_
      refine q_bn ?_
      refine q_n ?_
      refine w_reg rfl ?_
      refine v_move rfl ?_
      refine v_add lay3 rfl rfl (by first | exact i64r (by omega) | exact i64r (by have hx2 := bytes_in (six_b8 hb i) hq3; omega) | exact i64r (by have hx1 := bytes_in (six_b8 hb i) hq2; have hx2 := bytes_in (six_b8 hb i) hq3; omega)) ?_
      refine v_assign rfl ?_
      refine v_nil ?_
      refine q_n ?_
      refine ⟨_, _, _, ?_, ⟨j + 1, rfl, by omega, rfl, rfl⟩, by omega⟩
      exact turn [some 0, some 1] rfl rfl rfl ⟨⟨_, rfl, .stay (stay_te (0, 0, 0))⟩, ⟨_, rfl, trc_flat int_sc (congrArg (flat int) (t3_step (by omega) hq2 hq3 e2 e3))⟩, trivial⟩ ⟨tr_sl, tr_v, tr_pt rfl, tr_v, tr_sl, tr_pt rfl, tr_v, trivial⟩
    · skip
      obtain rfl : j = 3 := by omega
      refine v_nil ?_
      refine q_n ?_
      refine w_f rfl ?_
      refine w_exit ?_
      refine q_e ?_
      refine q_e ?_
      refine q_hit ?_
      refine q_n ?_
      refine w_seq ?_
      refine w_reg rfl ?_
      refine v_idx_arr (k := 1) lay128 lay2 rfl rfl rfl (by omega) (fun q5 hq5 e5 => ?_)
      obtain rfl : q5 = 0 := by omega
      refine v_load_flat 0 0 (.c (.v _)) int_len lay2 rfl rfl (by omega) (by simp [t3]; try omega) rfl rfl ?_
      refine v_idx_arr (k := 1) lay128 lay2 rfl rfl rfl (by omega) (fun q6 hq6 e6 => ?_)
      obtain rfl : q6 = 1 := by omega
      refine v_load_flat 1 0 (.c (.v _)) int_len lay2 rfl rfl (by omega) (by simp [t3]; try omega) rfl rfl ?_
      refine v_conv_iw lay2 lay23 rfl ?_
      refine v_idx_arr (k := 1) lay128 lay2 rfl rfl rfl (by omega) (fun q7 hq7 e7 => ?_)
      obtain rfl : q7 = 2 := by omega
      refine v_load_flat 2 0 (.c (.v _)) int_len lay2 rfl rfl (by omega) (by simp [t3]; try omega) rfl rfl ?_
      refine v_conv_iw lay2 lay23 rfl ?_
      refine v_build [(0, 1), (1, 1), (2, 1)] [.v _, .v _, .v _] lay27 rfl rfl ?_
      refine v_alloc (m := 2) (H' := [_, _, ⟨[.v _, .v _, .v _], 27, true⟩]) lay27 rfl rfl ?_
      refine v_store (H' := [_, _, ⟨[_, _, _], 27, true⟩]) lay27 rfl rfl rfl rfl rfl rfl ?_
      refine v_nil ?_
      refine q_n ?_
      refine w_seq ?_
      refine w_draw [0, 0, 2, 6, 0, 30, 62, 0, 0, 256, 896, 1920, 4094, 127, 16383] [⟨0, 0, []⟩, ⟨1, 0, []⟩, ⟨2, 0, []⟩, ⟨4, 0, []⟩, ⟨7, 0, []⟩, ⟨8, 0, []⟩, ⟨9, 0, []⟩, ⟨10, 0, []⟩, ⟨11, 0, []⟩, ⟨3, 1, [0, 11]⟩, ⟨5, 1, [0, 11]⟩, ⟨6, 0, []⟩, ⟨12, 0, []⟩, ⟨13, 1, [11]⟩, ⟨14, 0, []⟩] rfl rfl ?_
      refine d_q rfl rfl rfl rfl rfl ?_
      refine v_load_pt (.agg [_, _, _]) lay27 rfl rfl rfl rfl ?_
      refine v_nil ?_
      refine d_q rfl rfl rfl rfl rfl ?_
      refine v_move rfl ?_
      refine v_nil ?_
      refine d_q rfl rfl rfl rfl rfl ?_
      refine v_conv_iw lay3 lay5 rfl ?_
      refine v_nil ?_
      refine d_q rfl rfl rfl rfl rfl ?_
      refine v_move rfl ?_
      refine v_nil ?_
      refine d_q rfl rfl rfl rfl rfl ?_
      refine v_move rfl ?_
      refine v_nil ?_
      refine d_q rfl rfl rfl rfl rfl ?_
      refine v_move rfl ?_
      refine v_nil ?_
      refine d_q rfl rfl rfl rfl rfl ?_
      refine v_add lay3 rfl rfl (by first | exact i64r (by omega) | exact i64r (by have hx2 := bytes_in (six_b8 hb i) hq3; omega) | exact i64r (by have hx1 := bytes_in (six_b8 hb i) hq2; have hx2 := bytes_in (six_b8 hb i) hq3; omega)) ?_
      refine v_nil ?_
      refine d_q rfl rfl rfl rfl rfl ?_
      refine v_idx (k := 1) be_len lay47 lay5 rfl rfl rfl (rfl) rfl (by omega) (fun q8 hq8 e8 => ?_)
      refine v_nil ?_
      refine d_q rfl rfl rfl rfl rfl ?_
      refine v_load_vw (.c (.v _)) lay5 rfl rfl rfl ?_
      refine v_nil ?_
      refine d_e rfl rfl rfl ?_
      refine v_lit (flat be [_]) (H' := [_, _, _, _]) lay47 lay5 rfl rfl ⟨by decide, by decide⟩ rfl rfl ?_
      refine v_nil ⟨⟨rfl, ⟨rfl, trivial⟩⟩, ?_⟩
      refine d_e rfl rfl rfl ?_
      refine v_app_flat_sl (H' := [_, _, _, _, _]) be_sc be_len lay47 lay5 rfl rfl (by simp) rfl rfl rfl (by simp [maxLen]) rfl rfl ?_
      refine v_nil ⟨⟨rfl, ⟨rfl, trivial⟩⟩, ?_⟩
      refine d_call (c91n _ _ (by rw [List.length_append, six_len hl]; rfl) (by rw [List.length_append, six_len hl]; simp) (b8_app (w8_in _) (six_b8 hb i))) rfl rfl rfl rfl rfl (.cons (vw_mu2 be_sc be_len rfl (by rw [List.length_append, six_len hl]; rfl)) .nil) ?_
      refine d_q rfl rfl rfl rfl rfl ?_
      refine v_eql lay5 rfl rfl (fun h9 => ?_) (fun h9 => ?_)
      · skip
        refine v_nil ?_
        refine d_e rfl rfl rfl ?_
        refine v_store (H' := [⟨[_, _, _], 27, true⟩, _, _, _, _]) lay27 rfl rfl rfl rfl rfl rfl ?_
        refine v_nil ⟨⟨trivial, ⟨rfl, ⟨trivial, trivial⟩⟩⟩, ?_⟩
        refine d_q rfl rfl rfl rfl rfl ?_
        refine v_assign rfl ?_
        refine v_nil ?_
        refine d_nil ?_
        refine q_n ?_
        refine w_ret ?_
        refine r_r rfl ?_
        exact a_tup (.cons (a_agg (.cons tr_v (.cons tr_v (.cons tr_v .nil)))) (.cons (a_b ⟨fun _ => (rgt_iff hq8 e8).2 h9, fun _ => rfl⟩) .nil))
      · skip
        refine v_nil ?_
        refine d_e rfl rfl rfl ?_
        refine v_store (H' := [⟨[_, _, _], 27, true⟩, _, _, _, _]) lay27 rfl rfl rfl rfl rfl rfl ?_
        refine v_nil ⟨⟨trivial, ⟨rfl, ⟨trivial, trivial⟩⟩⟩, ?_⟩
        refine d_q rfl rfl rfl rfl rfl ?_
        refine v_assign rfl ?_
        refine v_nil ?_
        refine d_nil ?_
        refine q_n ?_
        refine w_ret ?_
        refine r_r rfl ?_
        exact a_tup (.cons (a_agg (.cons tr_v (.cons tr_v (.cons tr_v .nil)))) (.cons (a_b ⟨fun h => (by cases h), fun h => absurd ((rgt_iff hq8 e8).1 h) h9⟩) .nil))
end Go.VL
namespace Go.VL
open Go.RowKit
set_option maxRecDepth 20000
set_option maxHeartbeats 4000000
/-- The tallies of a packet. -/
theorem c70n (n : Nat) (xs : List Tal) (hn : n = xs.length) (hx : n ≤ 2 ^ 40) : PureC X 70 [.c (.sl false n 3 (flat te xs))] (cB (decide (okL xs))) := by rw [hn]; exact c70 xs (by omega)
theorem c58n (n : Nat) (xs : List Tal) (hn : n = xs.length) (hx : n ≤ 2 ^ 40) (hb : T16 xs) : PureC X 58 [.c (.sl false n 3 (flat te xs))] (cB (decide (okL xs))) := by rw [hn]; exact c58 xs (by omega) hb
def tls (ds : List Int) (n : Nat) : List Tal := (List.range n).map fun j => tl6 (six ds j)
theorem tls_step (ds : List Int) (i : Nat) : tls ds i ++ [tl6 (six ds i)] = tls ds (i + 1) := (range_step _ _).symm
/-- Are the checks right so far? -/
def okB (ds : List Int) : Nat → Bool
  | 0 => (ck ((ds.drop 0).take (ds.length - 1 - 0))).2 == ds.getD (ds.length - 1) 0
  | i + 1 => okB ds i && decide (rgt ds i)
theorem okB_f {ds : List Int} {i : Nat} (h : okB ds i = false) : okB ds (i + 1) = false := by simp only [okB, h, Bool.false_and]
theorem okB_t {ds : List Int} {i : Nat} (h : okB ds i = true) : okB ds (i + 1) = decide (rgt ds i) := by simp only [okB, h, Bool.true_and]
theorem okB_0 {ds : List Int} {q : Nat} (hq : q < ds.length) (e : (ds.length : Int) - 1 = q) : okB ds 0 = ((ck ((ds.drop 0).take (ds.length - 1 - 0))).2 == ds[q]) := by
  obtain rfl : q = ds.length - 1 := by omega
  simp only [okB, getD_i hq]
theorem hd_ok {ds : List Int} (hb : B8 ds) (h : (hdR ds).2 = 0) : ∃ N : Nat, (hdR ds).1 = N ∧ N ≤ 96 ∧ 3 ≤ ds.length ∧ ds.length ≤ 676 ∧ ∀ h2 : 2 < ds.length, ds[2] = (N : Int) := by
  by_cases h1 : 676 < ds.length
  · rw [hd_2 h1] at h; cases h
  · by_cases h2 : headOk ds
    · rw [hd_0 h1 h2]
      obtain ⟨h3, -, -, h6⟩ := h2
      have h7 := bytes_in hb (show 2 < ds.length by omega)
      exact ⟨(ds[2]'(by omega)).toNat, by simp only []; omega, by omega, h3, by omega, fun _ => by omega⟩
    · rw [hd_5 h1 h2] at h; cases h
/-- A packet, read: its tallies, and a code. -/
noncomputable def rdR (ds : List Int) : List Tal × Int :=
  if (hdR ds).2 = 0 then
    if ds.length = 7 * (hdR ds).1.toNat + 4 then
      if okB ds (hdR ds).1.toNat = true then if okL (tls ds (hdR ds).1.toNat) then (tls ds (hdR ds).1.toNat, 0) else ([], 5)
      else ([], 8)
    else ([], 5)
  else ([], (hdR ds).2)
section
variable {ds : List Int} {N : Nat}
theorem rd_1 (h : ¬ (hdR ds).2 = 0) : rdR ds = ([], (hdR ds).2) := by unfold rdR; rw [if_neg h]
theorem rd_2 (h : (hdR ds).2 = 0) (hN : (hdR ds).1 = N) (h2 : ¬ ds.length = 7 * N + 4) : rdR ds = ([], 5) := by
  unfold rdR
  rw [if_pos h, hN, Int.toNat_natCast, if_neg h2]
theorem rd_3 (h : (hdR ds).2 = 0) (hN : (hdR ds).1 = N) (h2 : ds.length = 7 * N + 4) (h3 : okB ds N = false) : rdR ds = ([], 8) := by
  unfold rdR
  rw [if_pos h, hN, Int.toNat_natCast, if_pos h2, if_neg (by rw [h3]; decide)]
theorem rd_4 (h : (hdR ds).2 = 0) (hN : (hdR ds).1 = N) (h2 : ds.length = 7 * N + 4) (h3 : okB ds N = true) (h4 : ¬ okL (tls ds N)) : rdR ds = ([], 5) := by
  unfold rdR
  rw [if_pos h, hN, Int.toNat_natCast, if_pos h2, if_pos h3, if_neg h4]
theorem rd_0 (h : (hdR ds).2 = 0) (hN : (hdR ds).1 = N) (h2 : ds.length = 7 * N + 4) (h3 : okB ds N = true) (h4 : okL (tls ds N)) : rdR ds = (tls ds N, 0) := by
  unfold rdR
  rw [if_pos h, hN, Int.toNat_natCast, if_pos h2, if_pos h3, if_pos h4]
end
theorem rd_len (ds : List Int) : (rdR ds).1.length ≤ 96 := by
  unfold rdR
  split
  · split
    · split
      · split
        · rename_i h; exact h.1
        · simp
      · simp
    · simp
  · simp
theorem sl_again {α : Type} {X : Cx} {H : List Ob} {sl : Sl} {enc : α → List C} {t e : TypeId} {x : Operand} {lo hi : Option Operand} {a b : Nat} {z : List Value} {o : Bool} {m k : Nat} {xs : List α} {jl jh : Int} {L : Lay} (l h : Nat) (he : ∀ a, (enc a).length = k) (hL : X.lay t = some ⟨.slice e, a, b, z⟩) (hLe : X.lay e = some L) (hk : L.size = k) (hk0 : Nat.blt 0 k = true)
    (hx : rho X.G sl x = .c (.sl o m k (flat enc xs))) (hlo : bnd (rho X.G sl) lo 0 = some jl) (hhi : bnd (rho X.G sl) hi (m : Int) = some jh) (el : jl = (l : Int)) (eh : jh = (h : Int)) (hb : l ≤ h ∧ h ≤ m) : evq X.lay H (rho X.G sl) (.slice t x lo hi none) = some (.c (.sl o (h - l) k (flat enc ((xs.drop l).take (h - l))))) := by
  subst el eh
  simp only [evq, hL, hx, hLe, hlo, hhi]
  rw [if_pos ⟨hk, Nat.le_of_ble_eq_true hk0, by omega, by omega, by omega⟩]
  simp only [Int.toNat_natCast, sub_flat_n he]
theorem pc_one {X : Cx} {H : List Ob} {g : FuncId} {a a' r : V} (hv : VwV H a a') (hp : PureC X g [a'] r) (ho : ownV r = true) : PCall X H g [a] r := ⟨[a'], .cons hv .nil, hp, ho⟩
/-- The bytes of a tally, with their check, as they stand in the packet. -/
def recX (ds : List Int) (i : Nat) : List Int := (((ds.drop 3).take (ds.length - 3)).drop (7 * i)).take (7 * (i + 1) - 7 * i)
theorem recX_eq (ds : List Int) (i : Nat) : recX ds i = (ds.drop (3 + 7 * i)).take 7 := by
  unfold recX
  rw [List.take_of_length_le (l := ds.drop 3) (by simp), List.drop_drop, show 7 * (i + 1) - 7 * i = 7 by omega]
theorem rec7 {ds : List Int} {i : Nat} (hl : 3 + 7 * i + 7 ≤ ds.length) : ∃ a b c d e f g, recX ds i = [a, b, c, d, e, f, g] ∧ six ds i = [a, b, c, d, e, f] ∧ ds.getD (3 + 7 * i + 6) 0 = g := by
  have h1 := recX_eq ds i
  have h2 : (recX ds i).length = 7 := by rw [h1]; simp; omega
  have h3 : six ds i = (recX ds i).take 6 := by rw [h1]; unfold six; rw [List.take_take]; simp
  have h4 : ds.getD (3 + 7 * i + 6) 0 = (recX ds i).getD 6 0 := by
    rw [h1, List.getD_eq_getElem?_getD, List.getD_eq_getElem?_getD, List.getElem?_take_of_lt (by omega), List.getElem?_drop]
  generalize recX ds i = r at *
  match r, h2 with
  | [a, b, c, d, e, f, g], _ => exact ⟨a, b, c, d, e, f, g, rfl, h3, h4⟩
theorem w8_two {a b : Int} (ha : 0 ≤ a ∧ a ≤ 255) (hb : 0 ≤ b ∧ b ≤ 255) : sx (a + 256 * b) = [a, b] := by
  have h1 : IntKind.u8.wrap (a + 256 * b) = a := by
    simp only [IntKind.wrap, IntKind.bits, IntKind.signed]
    simp
    omega
  have h2 : IntKind.u8.wrap ((a + 256 * b) / 256) = b := by
    rw [show (a + 256 * b) / 256 = b by omega]
    exact wrap_of (k := .u8) (u8r hb)
  unfold sx
  rw [h1, h2]
theorem w16_eq {n : Int} (h : 0 ≤ n ∧ n ≤ 65535) : IntKind.i16.wrap n = n ∨ IntKind.i16.wrap n = n - 65536 := by
  simp only [IntKind.wrap, IntKind.bits, IntKind.signed]
  simp
  omega
theorem w16_in (n : Int) : -32768 ≤ IntKind.i16.wrap n ∧ IntKind.i16.wrap n ≤ 32767 := by
  simp only [IntKind.wrap, IntKind.bits, IntKind.signed]
  simp
  omega
theorem w8_two16 {a b : Int} (ha : 0 ≤ a ∧ a ≤ 255) (hb : 0 ≤ b ∧ b ≤ 255) : sx (IntKind.i16.wrap (a + 256 * b)) = [a, b] := by
  rcases w16_eq (n := a + 256 * b) (by omega) with h | h
  · rw [h]; exact w8_two ha hb
  · rw [h]
    have h1 : IntKind.u8.wrap (a + 256 * b - 65536) = a := by
      simp only [IntKind.wrap, IntKind.bits, IntKind.signed]
      simp
      omega
    have h2 : IntKind.u8.wrap ((a + 256 * b - 65536) / 256) = b := by
      rw [show (a + 256 * b - 65536) / 256 = b - 256 by omega]
      simp only [IntKind.wrap, IntKind.bits, IntKind.signed]
      simp
      omega
    unfold sx
    rw [h1, h2]
def recT (ds : List Int) (i : Nat) : List Int := recB i (tl6 (six ds i)).1 (tl6 (six ds i)).2.1 (tl6 (six ds i)).2.2
theorem b8_recT (ds : List Int) (i : Nat) : B8 (recT ds i) := fun x hx => by
  have hk := (ck_in (b8_rec i (tl6 (six ds i)).1 (tl6 (six ds i)).2.1 (tl6 (six ds i)).2.2)).2
  unfold recT recB at hx
  rcases List.mem_append.1 hx with h | h
  · exact b8_rec i (tl6 (six ds i)).1 (tl6 (six ds i)).2.1 (tl6 (six ds i)).2.2 x (List.mem_append_right _ h)
  · simp only [List.mem_singleton] at h
    subst h
    omega
theorem b8_recX {ds : List Int} (hb : B8 ds) (i : Nat) : B8 (recX ds i) := fun x hx => by
  rw [recX_eq] at hx
  exact hb x (List.mem_of_mem_drop (List.mem_of_mem_take hx))
theorem rec_iff {ds : List Int} {i : Nat} (hl : 3 + 7 * i + 7 ≤ ds.length) (hb : B8 ds) : recT ds i = recX ds i ↔ rgt ds i := by
  have hB := b8_recX hb i
  obtain ⟨a, b, c, d, e, f, g, h1, h2, h3⟩ := rec7 hl
  rw [h1] at hB
  have ha := hB a (by simp)
  have hb' := hB b (by simp)
  have hc := hB c (by simp)
  have hd := hB d (by simp)
  have he := hB e (by simp)
  have hf := hB f (by simp)
  unfold rgt recT recB
  rw [h1, h2, h3]
  have e1 : [sx (tl6 [a, b, c, d, e, f]).1, sx (tl6 [a, b, c, d, e, f]).2.1, sx (tl6 [a, b, c, d, e, f]).2.2].flatten = [a, b, c, d, e, f] := by
    show [sx (a + 256 * b), sx (IntKind.i16.wrap (c + 256 * d)), sx (IntKind.i16.wrap (e + 256 * f))].flatten = _
    rw [w8_two ha hb', w8_two16 hc hd, w8_two16 he hf]; rfl
  rw [e1]
  simp
theorem c89r (ds : List Int) (i : Nat) (hl : 3 + 7 * i + 7 ≤ ds.length) (hx : ds.length ≤ 2 ^ 40) (hb : B8 ds) : PureC X 89 [.c (.sl false (7 * (i + 1) - 7 * i) 1 (flat be (recX ds i)))] (.agg (te (tl6 (six ds i)))) := by
  have hB := b8_recX hb i
  obtain ⟨a, b, c, d, e, f, g, h1, h2, h3⟩ := rec7 hl
  rw [h1] at hB ⊢
  rw [h2]
  exact c89n _ _ (by simp; omega) (by simp) (by simp) hB
theorem c75r (ds : List Int) (i q : Nat) (hq : q < (tls ds i ++ [tl6 (six ds i)]).length) (e : (i : Int) = q) : PureC X 75 [cI i, .agg (te ((tls ds i ++ [tl6 (six ds i)])[q]))] (.c (bys true (recT ds i))) := by
  obtain rfl : i = q := by omega
  have hg : (tls ds i ++ [tl6 (six ds i)])[i] = tl6 (six ds i) := by
    rw [List.getElem_append_right (by simp [tls])]
    simp [tls]
  rw [hg]
  exact c75 i _ _ _ (w16_in _) (w16_in _)
theorem c90r (ds : List Int) (i : Nat) (hl : 3 + 7 * i + 7 ≤ ds.length) (hb : B8 ds) : PureC X 90 [.c (bys false (recT ds i)), .c (.sl false (7 * (i + 1) - 7 * i) 1 (flat be (recX ds i)))] (cB (decide (rgt ds i))) := by
  have h := c90n (7 * (i + 1) - 7 * i) (recT ds i) (recX ds i) (by rw [recX_eq]; simp; omega) (b8_recT ds i) (b8_recX hb i)
  rw [decide_eq_decide.2 (rec_iff hl hb)] at h
  exact h
theorem t16_tls (ds : List Int) (n : Nat) : T16 (tls ds n) := fun t ht => by
  simp only [tls, List.mem_map] at ht
  obtain ⟨j, -, rfl⟩ := ht
  exact ⟨w16_in _, w16_in _⟩
theorem c42 (ds : List Int) (hx : ds.length ≤ 2 ^ 40) (hb : B8 ds) : PureC X 42 [.c (bys false ds)] (.tup [.c (tals true (rdR ds).1), cI (rdR ds).2]) := by
  refine PureC.of_body (drawD_ok X) (fun _ _ => Go.Proofs.Try.call42 _ _) Go.Proofs.Try.func42 rfl (n := 68) rfl ?_
  refine w_seq ?_
  refine w_reg rfl ?_
  refine v_assign rfl ?_
  refine v_assign (c := .v (.int .i64 0)) rfl ?_
  refine v_nil ?_
  refine q_n ?_
  refine w_seq ?_
  refine w_reg rfl ?_
  refine v_move rfl ?_
  refine v_call (c85 _ (by omega) (by assumption)) rfl rfl rfl (.cons vw_sl .nil) ?_
  refine v_move_t rfl ?_
  refine v_extract_c rfl rfl ?_
  refine v_extract_c rfl rfl ?_
  refine v_assign rfl ?_
  refine v_assign rfl ?_
  refine v_nil ?_
  refine q_n ?_
  refine w_seq ?_
  refine w_seq ?_
  refine w_reg rfl ?_
  refine v_move rfl ?_
  refine v_neq lay2 rfl rfl (fun h1 => ?_) (fun h1 => ?_)
  · skip
    refine v_nil ?_
    refine q_n ?_
    refine w_t rfl ?_
    refine w_seq ?_
    refine w_reg rfl ?_
    refine v_lit (flat te []) (H' := [_]) lay40 lay27 rfl rfl ⟨by decide, by decide⟩ rfl rfl ?_
    refine v_move rfl ?_
    refine v_assign rfl ?_
    refine v_assign rfl ?_
    refine v_nil ?_
    refine q_n ?_
    refine w_ret (q_r ?_)
    refine r_r rfl ?_
    rw [rd_1 h1]
    exact a_tup (.cons (a_flat2 te_sc te_len rfl rfl rfl rfl) (.cons tr_v .nil))
  · skip
    obtain ⟨N, hN, hN96, hl3, hl676, hN2⟩ := hd_ok hb h1
    refine v_nil ?_
    refine q_n ?_
    refine w_f rfl ?_
    refine w_skip ?_
    refine q_n ?_
    refine w_seq ?_
    refine w_seq ?_
    refine w_reg rfl ?_
    refine v_move rfl ?_
    refine v_len_sl lay47 rfl ?_
    refine v_move rfl ?_
    refine v_mul lay3 rfl rfl (i64r (by omega)) ?_
    refine v_add lay3 rfl rfl (i64r (by omega)) ?_
    refine v_neq lay3 rfl rfl (fun h2 => ?_) (fun h2 => ?_)
    · skip
      refine v_nil ?_
      refine q_n ?_
      refine w_t rfl ?_
      refine w_seq ?_
      refine w_reg rfl ?_
      refine v_lit (flat te []) (H' := [_]) lay40 lay27 rfl rfl ⟨by decide, by decide⟩ rfl rfl ?_
      refine v_assign rfl ?_
      refine v_assign (c := .v (.int .i64 5)) rfl ?_
      refine v_nil ?_
      refine q_n ?_
      refine w_ret (q_r ?_)
      refine r_r rfl ?_
      rw [rd_2 h1 hN (by omega)]
      exact a_tup (.cons (a_flat2 te_sc te_len rfl rfl rfl rfl) (.cons tr_v .nil))
    · skip
      refine v_nil ?_
      refine q_n ?_
      refine w_f rfl ?_
      refine w_skip ?_
      refine q_n ?_
      refine w_seq ?_
      refine w_draw [0, 0, 2, 6, 15, 31, 0, 0, 128, 384, 960, 1984, 4095, 8191] [⟨0, 0, []⟩, ⟨1, 0, []⟩, ⟨2, 0, []⟩, ⟨3, 0, []⟩, ⟨4, 0, []⟩, ⟨5, 0, []⟩, ⟨6, 0, []⟩, ⟨7, 0, []⟩, ⟨8, 0, []⟩, ⟨9, 0, []⟩, ⟨10, 0, []⟩, ⟨11, 0, []⟩, ⟨12, 0, []⟩, ⟨13, 0, []⟩] rfl rfl ?_
      refine d_q rfl rfl rfl rfl rfl ?_
      refine v_move rfl ?_
      refine v_nil ?_
      refine d_q rfl rfl rfl rfl rfl ?_
      refine v_move rfl ?_
      refine v_nil ?_
      refine d_q rfl rfl rfl rfl rfl ?_
      refine v_len_sl lay47 rfl ?_
      refine v_nil ?_
      refine d_q rfl rfl rfl rfl rfl ?_
      refine v_sub lay3 rfl rfl (i64r (by omega)) ?_
      refine v_nil ?_
      refine d_q rfl rfl rfl rfl rfl ?_
      refine v_slice_sl (0) (ds.length - 1) be_len lay47 lay5 rfl rfl rfl rfl rfl (rfl) (by omega) (by omega) ?_
      refine v_nil ?_
      refine d_call (c91n _ _ (by simp) (by simp; omega) (fun x hm => hb x (List.mem_of_mem_take hm))) rfl rfl rfl rfl rfl (.cons vw_sl .nil) ?_
      refine d_q rfl rfl rfl rfl rfl ?_
      refine v_move rfl ?_
      refine v_nil ?_
      refine d_q rfl rfl rfl rfl rfl ?_
      refine v_move rfl ?_
      refine v_nil ?_
      refine d_q rfl rfl rfl rfl rfl ?_
      refine v_len_sl lay47 rfl ?_
      refine v_nil ?_
      refine d_q rfl rfl rfl rfl rfl ?_
      refine v_sub lay3 rfl rfl (i64r (by omega)) ?_
      refine v_nil ?_
      refine d_q rfl rfl rfl rfl rfl ?_
      refine v_idx (k := 1) be_len lay47 lay5 rfl rfl rfl (rfl) rfl (by omega) (fun q3 hq3 e3 => ?_)
      refine v_nil ?_
      refine d_q rfl rfl rfl rfl rfl ?_
      refine v_load_vw (.c (.v _)) lay5 rfl rfl rfl ?_
      refine v_nil ?_
      refine d_q rfl rfl rfl rfl rfl ?_
      refine v_bin (c := .v (.bool _)) lay5 rfl rfl rfl ?_
      refine v_nil ?_
      refine d_q rfl rfl rfl rfl rfl ?_
      refine v_assign rfl ?_
      refine v_nil ?_
      refine d_nil ?_
      refine q_n ?_
      refine w_seq ?_
      refine w_reg rfl ?_
      refine v_lit (flat te []) (H' := [_]) lay40 lay27 rfl rfl ⟨by decide, by decide⟩ rfl rfl ?_
      refine v_assign rfl ?_
      refine v_nil ?_
      refine q_n ?_
      refine w_seq ?_
      refine w_seq ?_
      refine w_reg rfl ?_
      refine v_assign (c := .v (.int .i64 0)) rfl ?_
      refine v_nil ?_
      refine q_n ?_
      refine w_block ?_
      refine w_loop (fun k sl H => ∃ (i : Nat) (b : Bool), k = N - i ∧ i ≤ N ∧ okB ds i = b ∧ sl = sls [(0, .c (bys false ds)), (4, cI (hdR ds).1), (6, cB b), (7, .c (.mu 0 0 i 3)), (8, cI i)] ∧ H = [⟨flat te (tls ds i), 27, true⟩]) ?_ ?_
      · refine ⟨_, _, _, ?_, 0, _, rfl, Nat.zero_le _, okB_0 hq3 e3, rfl, rfl⟩
        exact turn [some 0] rfl rfl rfl ⟨⟨_, rfl, trc_flat te_sc rfl⟩, trivial⟩ ⟨tr_sl, tr_v, tr_v, tr_mu rfl, tr_v, trivial⟩
      · rintro k sl H ⟨i, b, rfl, hi, hb0, rfl, rfl⟩
        cases b
        · skip
          refine w_seq ?_
          refine w_seq ?_
          refine w_reg rfl ?_
          refine v_move rfl ?_
          refine v_move rfl ?_
          refine v_lss lay3 rfl rfl (fun h4 => ?_) (fun h4 => ?_)
          · skip
            refine v_nil ?_
            refine q_n ?_
            refine w_t rfl ?_
            refine w_skip ?_
            refine q_n ?_
            refine w_seq ?_
            refine w_block ?_
            refine w_seq ?_
            refine w_reg rfl ?_
            refine v_move rfl ?_
            refine v_move rfl ?_
            refine v_call (c86 ds i (by omega) hx hb) rfl rfl rfl (.cons vw_sl (.cons vw_v .nil)) ?_
            refine v_move_t rfl ?_
            refine v_extract_a rfl rfl ?_
            refine v_extract_c rfl rfl ?_
            refine v_alloc (m := 1) (H' := [_, ⟨[.v _, .v _, .v _], 27, true⟩]) lay27 rfl rfl ?_
            refine v_store (H' := [_, ⟨[_, _, _], 27, true⟩]) lay27 rfl rfl rfl rfl rfl rfl ?_
            refine v_assign rfl ?_
            refine v_nil ?_
            refine q_n ?_
            refine w_seq ?_
            refine w_reg rfl ?_
            refine v_move rfl ?_
            refine v_move rfl ?_
            refine v_guard_off rfl rfl rfl ?_
            refine v_pick_f (v := .v (.bool false)) rfl rfl ?_
            refine v_assign rfl ?_
            refine v_nil ?_
            refine q_n ?_
            refine w_reg rfl ?_
            refine v_move rfl ?_
            refine v_load_pt (.agg [_, _, _]) lay27 rfl rfl rfl rfl ?_
            refine v_lit (flat te [tl6 (six ds i)]) (H' := [_, _, _]) lay40 lay27 rfl rfl ⟨by decide, by decide⟩ rfl rfl ?_
            refine v_app_flat (H' := [_, _, _, _]) te_sc te_len lay40 lay27 rfl rfl (by simp [tls]) rfl rfl (by simp) rfl rfl (by unfold maxLen; simp only []; omega) rfl rfl ?_
            refine v_assign rfl ?_
            refine v_nil ?_
            refine q_bn ?_
            refine q_n ?_
            refine w_reg rfl ?_
            refine v_move rfl ?_
            refine v_add lay3 rfl rfl (i64r (by omega)) ?_
            refine v_assign rfl ?_
            refine v_nil ?_
            refine q_n ?_
            refine ⟨_, _, _, ?_, ⟨i + 1, _, rfl, by omega, okB_f hb0, rfl, rfl⟩, by omega⟩
            exact turn [some 3] rfl rfl rfl ⟨⟨_, rfl, trc_flat te_sc (congrArg (flat te) (tls_step ds i))⟩, trivial⟩ ⟨tr_sl, tr_v, tr_v, tr_mu rfl, tr_v, trivial⟩
          · skip
            refine v_nil ?_
            refine q_n ?_
            refine w_f rfl ?_
            refine w_exit ?_
            refine q_e ?_
            refine q_e ?_
            refine q_hit ?_
            refine q_n ?_
            refine w_seq ?_
            refine w_seq ?_
            refine w_reg rfl ?_
            refine v_move rfl ?_
            refine v_not true rfl rfl ?_
            refine v_nil ?_
            refine q_n ?_
            refine w_t rfl ?_
            refine w_seq ?_
            refine w_reg rfl ?_
            refine v_lit (flat te []) (H' := [_, _]) lay40 lay27 rfl rfl ⟨by decide, by decide⟩ rfl rfl ?_
            refine v_assign rfl ?_
            refine v_assign (c := .v (.int .i64 8)) rfl ?_
            refine v_nil ?_
            refine q_n ?_
            refine w_ret (q_r ?_)
            refine r_r rfl ?_
            have he : i = N := by omega
            subst he
            rw [rd_3 h1 hN (by omega) hb0]
            exact a_tup (.cons (a_flat2 te_sc te_len rfl rfl rfl rfl) (.cons tr_v .nil))
        · skip
          refine w_seq ?_
          refine w_seq ?_
          refine w_reg rfl ?_
          refine v_move rfl ?_
          refine v_move rfl ?_
          refine v_lss lay3 rfl rfl (fun h5 => ?_) (fun h5 => ?_)
          · skip
            refine v_nil ?_
            refine q_n ?_
            refine w_t rfl ?_
            refine w_skip ?_
            refine q_n ?_
            refine w_seq ?_
            refine w_block ?_
            refine w_seq ?_
            refine w_reg rfl ?_
            refine v_move rfl ?_
            refine v_move rfl ?_
            refine v_call (c86 ds i (by omega) hx hb) rfl rfl rfl (.cons vw_sl (.cons vw_v .nil)) ?_
            refine v_move_t rfl ?_
            refine v_extract_a rfl rfl ?_
            refine v_extract_c rfl rfl ?_
            refine v_alloc (m := 1) (H' := [_, ⟨[.v _, .v _, .v _], 27, true⟩]) lay27 rfl rfl ?_
            refine v_store (H' := [_, ⟨[_, _, _], 27, true⟩]) lay27 rfl rfl rfl rfl rfl rfl ?_
            refine v_assign rfl ?_
            refine v_nil ?_
            refine q_n ?_
            refine w_seq ?_
            refine w_reg rfl ?_
            refine v_move rfl ?_
            refine v_move rfl ?_
            refine v_guard_on rfl rfl ?_
            refine v_move rfl ?_
            refine v_pick_t rfl rfl ?_
            refine v_assign rfl ?_
            refine v_nil ?_
            refine q_n ?_
            refine w_reg rfl ?_
            refine v_move rfl ?_
            refine v_load_pt (.agg [_, _, _]) lay27 rfl rfl rfl rfl ?_
            refine v_lit (flat te [tl6 (six ds i)]) (H' := [_, _, _]) lay40 lay27 rfl rfl ⟨by decide, by decide⟩ rfl rfl ?_
            refine v_app_flat (H' := [_, _, _, _]) te_sc te_len lay40 lay27 rfl rfl (by simp [tls]) rfl rfl (by simp) rfl rfl (by unfold maxLen; simp only []; omega) rfl rfl ?_
            refine v_assign rfl ?_
            refine v_nil ?_
            refine q_bn ?_
            refine q_n ?_
            refine w_reg rfl ?_
            refine v_move rfl ?_
            refine v_add lay3 rfl rfl (i64r (by omega)) ?_
            refine v_assign rfl ?_
            refine v_nil ?_
            refine q_n ?_
            refine ⟨_, _, _, ?_, ⟨i + 1, _, rfl, by omega, okB_t hb0, rfl, rfl⟩, by omega⟩
            exact turn [some 3] rfl rfl rfl ⟨⟨_, rfl, trc_flat te_sc (congrArg (flat te) (tls_step ds i))⟩, trivial⟩ ⟨tr_sl, tr_v, tr_v, tr_mu rfl, tr_v, trivial⟩
          · skip
            refine v_nil ?_
            refine q_n ?_
            refine w_f rfl ?_
            refine w_exit ?_
            refine q_e ?_
            refine q_e ?_
            refine q_hit ?_
            refine q_n ?_
            refine w_seq ?_
            refine w_seq ?_
            refine w_reg rfl ?_
            refine v_move rfl ?_
            refine v_not false rfl rfl ?_
            refine v_nil ?_
            refine q_n ?_
            refine w_f rfl ?_
            refine w_skip ?_
            refine q_n ?_
            refine w_seq ?_
            refine w_seq ?_
            refine w_reg rfl ?_
            refine v_move rfl ?_
            refine v_callb (c70n i (tls ds i) (by simp [tls]) (by omega)) rfl rfl (.cons (vw_mu2 te_sc te_len rfl (by first | rfl | simp [tls])) .nil) (fun h6 => ?_) (fun h6 => ?_)
            · skip
              refine v_not false rfl rfl ?_
              refine v_nil ?_
              refine q_n ?_
              refine w_f rfl ?_
              refine w_skip ?_
              refine q_n ?_
              refine w_seq ?_
              refine w_reg rfl ?_
              refine v_move rfl ?_
              refine v_assign rfl ?_
              refine v_assign (c := .v (.int .i64 0)) rfl ?_
              refine v_nil ?_
              refine q_n ?_
              refine w_ret ?_
              refine r_r rfl ?_
              have he : i = N := by omega
              subst he
              rw [rd_0 h1 hN (by omega) hb0 h6]
              exact a_tup (.cons (a_flat2 te_sc te_len rfl rfl (by simp [tls]) (by simp [tls])) (.cons tr_v .nil))
            · skip
              refine v_not true rfl rfl ?_
              refine v_nil ?_
              refine q_n ?_
              refine w_t rfl ?_
              refine w_seq ?_
              refine w_reg rfl ?_
              refine v_lit (flat te []) (H' := [_, _]) lay40 lay27 rfl rfl ⟨by decide, by decide⟩ rfl rfl ?_
              refine v_assign rfl ?_
              refine v_assign (c := .v (.int .i64 5)) rfl ?_
              refine v_nil ?_
              refine q_n ?_
              refine w_ret (q_r ?_)
              refine r_r rfl ?_
              have he : i = N := by omega
              subst he
              rw [rd_4 h1 hN (by omega) hb0 h6]
              exact a_tup (.cons (a_flat2 te_sc te_len rfl rfl rfl rfl) (.cons tr_v .nil))

theorem c43l (ds : List Int) (hx : ds.length ≤ 2 ^ 40) (hb : B8 ds) : LiveC X 43 [.c (bys false ds)] (.tup [.c (.mu 0 0 (rdR ds).1.length 3), cI (rdR ds).2]) [⟨flat te (rdR ds).1, 27, true⟩] := by
  refine LiveC.of_body (drawD_ok X) (fun _ _ => Go.Proofs.Try.call43 _ _) Go.Proofs.Try.func43 rfl (n := 78) rfl ?_
  refine w_seq ?_
  refine w_reg rfl ?_
  refine v_assign rfl ?_
  refine v_assign (c := .v (.int .i64 0)) rfl ?_
  refine v_nil ?_
  refine q_n ?_
  refine w_seq ?_
  refine w_seq ?_
  refine w_reg rfl ?_
  refine v_move rfl ?_
  refine v_call (c87 _ (by omega) (by assumption)) rfl rfl rfl (.cons vw_sl .nil) ?_
  refine v_assign rfl ?_
  refine v_nil ?_
  refine q_n ?_
  refine w_seq ?_
  refine w_reg rfl ?_
  refine v_move rfl ?_
  refine v_neq lay2 rfl rfl (fun h1 => ?_) (fun h1 => ?_)
  · skip
    refine v_nil ?_
    refine q_n ?_
    refine w_t rfl ?_
    refine w_seq ?_
    refine w_reg rfl ?_
    refine v_move rfl ?_
    refine v_assign rfl ?_
    refine v_assign rfl ?_
    refine v_nil ?_
    refine q_n ?_
    refine w_ret (q_r ?_)
    refine r_r rfl ?_
    rw [rd_1 h1]
    exact l_ans [none] rfl rfl ⟨rfl, trivial⟩ (a_tup (.cons (tr_nil rfl) (.cons tr_v .nil)))
  · skip
    obtain ⟨N, hN, hN96, hl3, hl676, hN2⟩ := hd_ok hb h1
    refine v_nil ?_
    refine q_n ?_
    refine w_f rfl ?_
    refine w_skip ?_
    refine q_n ?_
    refine w_seq ?_
    refine w_draw [0, 1, 3, 7, 0, 16, 15, 127] [⟨0, 0, []⟩, ⟨1, 0, []⟩, ⟨2, 0, []⟩, ⟨3, 0, []⟩, ⟨4, 0, []⟩, ⟨5, 0, []⟩, ⟨6, 0, []⟩, ⟨7, 0, []⟩] rfl rfl ?_
    refine d_q rfl rfl rfl rfl rfl ?_
    refine v_move rfl ?_
    refine v_nil ?_
    refine d_q rfl rfl rfl rfl rfl ?_
    refine v_idx (k := 1) be_len lay47 lay5 rfl rfl rfl (rfl) rfl (by omega) (fun q2 hq2 e2 => ?_)
    obtain rfl : q2 = 2 := by omega
    have hn2 := hN2 hq2
    refine v_nil ?_
    refine d_q rfl rfl rfl rfl rfl ?_
    refine v_load_vw (.c (.v _)) lay5 rfl rfl rfl ?_
    refine v_nil ?_
    refine d_q rfl rfl rfl rfl rfl ?_
    refine v_conv_ii lay5 lay3 rfl (i64r (by have hx1 := bytes_in hb hq2; omega)) ?_
    refine v_nil ?_
    refine d_q rfl rfl rfl rfl rfl ?_
    refine v_move rfl ?_
    refine v_nil ?_
    refine d_q rfl rfl rfl rfl rfl ?_
    refine v_slice_sl (3) (ds.length) be_len lay47 lay5 rfl rfl rfl rfl rfl (rfl) (rfl) (by omega) ?_
    refine v_nil ?_
    refine d_q rfl rfl rfl rfl rfl ?_
    refine v_assign rfl ?_
    refine v_nil ?_
    refine d_q rfl rfl rfl rfl rfl ?_
    refine v_assign rfl ?_
    refine v_nil ?_
    refine d_nil ?_
    refine q_n ?_
    refine w_seq ?_
    refine w_seq ?_
    refine w_reg rfl ?_
    refine v_move rfl ?_
    refine v_len_sl lay47 rfl ?_
    refine v_move rfl ?_
    refine v_mul lay3 rfl rfl (i64r (by omega)) ?_
    refine v_add lay3 rfl rfl (i64r (by omega)) ?_
    refine v_neq lay3 rfl rfl (fun h3 => ?_) (fun h3 => ?_)
    · skip
      refine v_nil ?_
      refine q_n ?_
      refine w_t rfl ?_
      refine w_seq ?_
      refine w_reg rfl ?_
      refine v_assign rfl ?_
      refine v_assign (c := .v (.int .i64 5)) rfl ?_
      refine v_nil ?_
      refine q_n ?_
      refine w_ret (q_r ?_)
      refine r_r rfl ?_
      rw [rd_2 h1 hN (by omega)]
      exact l_ans [none] rfl rfl ⟨rfl, trivial⟩ (a_tup (.cons (tr_nil rfl) (.cons tr_v .nil)))
    · skip
      refine v_nil ?_
      refine q_n ?_
      refine w_f rfl ?_
      refine w_skip ?_
      refine q_n ?_
      refine w_seq ?_
      refine w_draw [0, 0, 0, 4, 12, 30, 62, 0, 0, 256, 768, 1920, 3968, 8190, 127, 32767] [⟨1, 0, []⟩, ⟨2, 0, []⟩, ⟨3, 0, []⟩, ⟨4, 0, []⟩, ⟨5, 0, []⟩, ⟨6, 0, []⟩, ⟨7, 0, []⟩, ⟨8, 0, []⟩, ⟨9, 0, []⟩, ⟨10, 0, []⟩, ⟨11, 0, []⟩, ⟨12, 0, []⟩, ⟨13, 0, []⟩, ⟨0, 1, [5, 6, 12]⟩, ⟨14, 0, []⟩, ⟨15, 0, []⟩] rfl rfl ?_
      refine d_q rfl rfl rfl rfl rfl ?_
      refine v_move rfl ?_
      refine v_nil ?_
      refine d_q rfl rfl rfl rfl rfl ?_
      refine v_move rfl ?_
      refine v_nil ?_
      refine d_q rfl rfl rfl rfl rfl ?_
      refine v_len_sl lay47 rfl ?_
      refine v_nil ?_
      refine d_q rfl rfl rfl rfl rfl ?_
      refine v_sub lay3 rfl rfl (i64r (by omega)) ?_
      refine v_nil ?_
      refine d_q rfl rfl rfl rfl rfl ?_
      refine v_slice_sl (0) (ds.length - 1) be_len lay47 lay5 rfl rfl rfl rfl rfl (rfl) (by omega) (by omega) ?_
      refine v_nil ?_
      refine d_call (c76n _ _ (by simp) (by simp; omega) (fun x hm => hb x (List.mem_of_mem_take hm))) rfl rfl rfl rfl rfl (.cons vw_sl .nil) ?_
      refine d_q rfl rfl rfl rfl rfl ?_
      refine v_move rfl ?_
      refine v_nil ?_
      refine d_q rfl rfl rfl rfl rfl ?_
      refine v_move rfl ?_
      refine v_nil ?_
      refine d_q rfl rfl rfl rfl rfl ?_
      refine v_len_sl lay47 rfl ?_
      refine v_nil ?_
      refine d_q rfl rfl rfl rfl rfl ?_
      refine v_sub lay3 rfl rfl (i64r (by omega)) ?_
      refine v_nil ?_
      refine d_q rfl rfl rfl rfl rfl ?_
      refine v_idx (k := 1) be_len lay47 lay5 rfl rfl rfl (rfl) rfl (by omega) (fun q4 hq4 e4 => ?_)
      refine v_nil ?_
      refine d_q rfl rfl rfl rfl rfl ?_
      refine v_load_vw (.c (.v _)) lay5 rfl rfl rfl ?_
      refine v_nil ?_
      refine d_q rfl rfl rfl rfl rfl ?_
      refine v_bin (c := .v (.bool _)) lay5 rfl rfl rfl ?_
      refine v_nil ?_
      refine d_e rfl rfl rfl ?_
      refine v_lit (flat te []) (H' := [_]) lay40 lay27 rfl rfl ⟨by decide, by decide⟩ rfl rfl ?_
      refine v_nil ⟨⟨rfl, ⟨pc_one vw_sl (c76n _ _ (by simp) (by simp; omega) (fun x hm => hb x (List.mem_of_mem_take hm))) rfl, ⟨sl_again 0 (ds.length - 1) be_len lay47 lay5 rfl rfl rfl rfl rfl rfl (by omega) (by omega), trivial⟩⟩⟩, ?_⟩
      refine d_q rfl rfl rfl rfl rfl ?_
      refine v_assign rfl ?_
      refine v_nil ?_
      refine d_q rfl rfl rfl rfl rfl ?_
      refine v_assign rfl ?_
      refine v_nil ?_
      refine d_nil ?_
      refine q_n ?_
      refine w_seq ?_
      refine w_seq ?_
      refine w_reg rfl ?_
      refine v_move rfl ?_
      refine v_move (c := .v (.int .i64 0)) rfl ?_
      refine v_nil ?_
      refine q_n ?_
      refine w_block ?_
      refine w_loop (fun k sl H => ∃ (i : Nat) (b : Bool), k = N - i ∧ i ≤ N ∧ okB ds i = b ∧ sl = sls [(6, .c (.sl false (ds.length - 3) 1 (flat be ((ds.drop 3).take (ds.length - 3))))), (7, .c (.mu 0 0 i 3)), (8, cB b), (42, cI (ds[2]'hq2)), (43, cI i)] ∧ H = [⟨flat te (tls ds i), 27, true⟩]) ?_ ?_
      · refine ⟨_, _, _, ?_, 0, _, rfl, Nat.zero_le _, okB_0 hq4 e4, rfl, rfl⟩
        exact turn [some 0] rfl rfl rfl ⟨⟨_, rfl, trc_flat te_sc rfl⟩, trivial⟩ ⟨tr_sl, tr_mu rfl, tr_v, tr_v, tr_v, trivial⟩
      · rintro k sl H ⟨i, b, rfl, hi, hb0, rfl, rfl⟩
        cases b
        · skip
          refine w_seq ?_
          refine w_reg rfl ?_
          refine v_lss lay3 rfl rfl (fun h5 => ?_) (fun h5 => ?_)
          · skip
            refine v_nil ?_
            refine q_n ?_
            refine w_seq ?_
            refine w_t rfl ?_
            refine w_skip ?_
            refine q_n ?_
            refine w_seq ?_
            refine w_block ?_
            refine w_seq ?_
            refine w_reg rfl ?_
            refine v_move rfl ?_
            refine v_assign rfl ?_
            refine v_nil ?_
            refine q_n ?_
            refine w_seq ?_
            refine w_reg rfl ?_
            refine v_move rfl ?_
            refine v_move rfl ?_
            refine v_mul lay3 rfl rfl (i64r (by omega)) ?_
            refine v_move rfl ?_
            refine v_add lay3 rfl rfl (i64r (by omega)) ?_
            refine v_mul lay3 rfl rfl (i64r (by omega)) ?_
            refine v_slice_sl (7 * i) (7 * (i + 1)) be_len lay47 lay5 rfl rfl rfl rfl rfl (by omega) (by omega) (by omega) ?_
            refine v_assign rfl ?_
            refine v_nil ?_
            refine q_n ?_
            refine w_seq ?_
            refine w_reg rfl ?_
            refine v_move rfl ?_
            refine v_move rfl ?_
            refine v_call (c89r ds i (by omega) hx hb) rfl rfl rfl (.cons vw_sl .nil) ?_
            refine v_lit (flat te [tl6 (six ds i)]) (H' := [_, _]) lay40 lay27 rfl rfl ⟨by decide, by decide⟩ rfl rfl ?_
            refine v_app_flat (H' := [_, _, _]) te_sc te_len lay40 lay27 rfl rfl (by simp [tls]) rfl rfl (by simp) rfl rfl (by unfold maxLen; simp only []; omega) rfl rfl ?_
            refine v_assign rfl ?_
            refine v_nil ?_
            refine q_n ?_
            refine w_reg rfl ?_
            refine v_move rfl ?_
            refine v_move rfl ?_
            refine v_guard_off rfl rfl rfl ?_
            refine v_guard_off rfl rfl rfl ?_
            refine v_guard_off rfl rfl rfl ?_
            refine v_guard_off rfl rfl rfl ?_
            refine v_guard_off rfl rfl rfl ?_
            refine v_guard_off rfl rfl rfl ?_
            refine v_guard_off rfl rfl rfl ?_
            refine v_guard_off rfl rfl rfl ?_
            refine v_pick_f (v := .v (.bool false)) rfl rfl ?_
            refine v_assign rfl ?_
            refine v_nil ?_
            refine q_bn ?_
            refine q_n ?_
            refine w_reg rfl ?_
            refine v_add lay3 rfl rfl (i64r (by omega)) ?_
            refine v_move rfl ?_
            refine v_nil ?_
            refine q_n ?_
            refine ⟨_, _, _, ?_, ⟨i + 1, _, rfl, by omega, okB_f hb0, rfl, rfl⟩, by omega⟩
            exact turn [some 2] rfl rfl rfl ⟨⟨_, rfl, trc_flat te_sc (congrArg (flat te) (tls_step ds i))⟩, trivial⟩ ⟨tr_sl, tr_mu rfl, tr_v, tr_v, tr_v, trivial⟩
          · skip
            refine v_nil ?_
            refine q_n ?_
            refine w_seq ?_
            refine w_f rfl ?_
            refine w_exit ?_
            refine q_e ?_
            refine q_e ?_
            refine q_hit ?_
            refine q_n ?_
            refine w_seq ?_
            refine w_block ?_
            refine w_seq ?_
            refine w_reg rfl ?_
            refine v_move rfl ?_
            refine v_not true rfl rfl ?_
            refine v_assign rfl ?_
            refine v_nil ?_
            refine q_n ?_
            refine w_t rfl ?_
            refine w_seq ?_
            refine w_reg rfl ?_
            refine v_assign rfl ?_
            refine v_assign (c := .v (.int .i64 8)) rfl ?_
            refine v_nil ?_
            refine q_n ?_
            refine w_ret (q_br (q_r ?_))
            refine r_r rfl ?_
            have he : i = N := by omega
            subst he
            rw [rd_3 h1 hN (by omega) hb0]
            exact l_ans [none] rfl rfl ⟨rfl, trivial⟩ (a_tup (.cons (tr_nil rfl) (.cons tr_v .nil)))
        · skip
          refine w_seq ?_
          refine w_reg rfl ?_
          refine v_lss lay3 rfl rfl (fun h6 => ?_) (fun h6 => ?_)
          · skip
            refine v_nil ?_
            refine q_n ?_
            refine w_seq ?_
            refine w_t rfl ?_
            refine w_skip ?_
            refine q_n ?_
            refine w_seq ?_
            refine w_block ?_
            refine w_seq ?_
            refine w_reg rfl ?_
            refine v_move rfl ?_
            refine v_assign rfl ?_
            refine v_nil ?_
            refine q_n ?_
            refine w_seq ?_
            refine w_reg rfl ?_
            refine v_move rfl ?_
            refine v_move rfl ?_
            refine v_mul lay3 rfl rfl (i64r (by omega)) ?_
            refine v_move rfl ?_
            refine v_add lay3 rfl rfl (i64r (by omega)) ?_
            refine v_mul lay3 rfl rfl (i64r (by omega)) ?_
            refine v_slice_sl (7 * i) (7 * (i + 1)) be_len lay47 lay5 rfl rfl rfl rfl rfl (by omega) (by omega) (by omega) ?_
            refine v_assign rfl ?_
            refine v_nil ?_
            refine q_n ?_
            refine w_seq ?_
            refine w_reg rfl ?_
            refine v_move rfl ?_
            refine v_move rfl ?_
            refine v_call (c89r ds i (by omega) hx hb) rfl rfl rfl (.cons vw_sl .nil) ?_
            refine v_lit (flat te [tl6 (six ds i)]) (H' := [_, _]) lay40 lay27 rfl rfl ⟨by decide, by decide⟩ rfl rfl ?_
            refine v_app_flat (H' := [_, _, _]) te_sc te_len lay40 lay27 rfl rfl (by simp [tls]) rfl rfl (by simp) rfl rfl (by unfold maxLen; simp only []; omega) rfl rfl ?_
            refine v_assign rfl ?_
            refine v_nil ?_
            refine q_n ?_
            refine w_reg rfl ?_
            refine v_move rfl ?_
            refine v_move rfl ?_
            refine v_guard_on rfl rfl ?_
            refine v_move rfl ?_
            refine v_guard_on rfl rfl ?_
            refine v_move rfl ?_
            refine v_guard_on rfl rfl ?_
            refine v_move rfl ?_
            refine v_guard_on rfl rfl ?_
            refine v_idx_mu (k := 3) (off := 0) lay40 lay27 rfl rfl rfl (by omega) (fun q7 hq7 e7 => ?_)
            refine v_guard_on rfl rfl ?_
            refine v_load_flat q7 0 (.agg [.v _, .v _, .v _]) te_len lay27 rfl rfl (by omega) (by simp [tls]; omega) rfl rfl ?_
            refine v_guard_on rfl rfl ?_
            refine v_call (c75r ds i _ (by simp [tls]; omega) e7) rfl rfl rfl (.cons vw_v (.cons (vw_agg (.cons vw_v (.cons vw_v (.cons vw_v .nil)))) .nil)) ?_
            refine v_guard_on rfl rfl ?_
            refine v_move rfl ?_
            refine v_guard_on rfl rfl ?_
            refine v_call (c90r ds i (by omega) hb) rfl rfl rfl (.cons vw_sl (.cons vw_sl .nil)) ?_
            refine v_pick_t rfl rfl ?_
            refine v_assign rfl ?_
            refine v_nil ?_
            refine q_bn ?_
            refine q_n ?_
            refine w_reg rfl ?_
            refine v_add lay3 rfl rfl (i64r (by omega)) ?_
            refine v_move rfl ?_
            refine v_nil ?_
            refine q_n ?_
            refine ⟨_, _, _, ?_, ⟨i + 1, _, rfl, by omega, okB_t hb0, rfl, rfl⟩, by omega⟩
            exact turn [some 2] rfl rfl rfl ⟨⟨_, rfl, trc_flat te_sc (congrArg (flat te) (tls_step ds i))⟩, trivial⟩ ⟨tr_sl, tr_mu rfl, tr_v, tr_v, tr_v, trivial⟩
          · skip
            refine v_nil ?_
            refine q_n ?_
            refine w_seq ?_
            refine w_f rfl ?_
            refine w_exit ?_
            refine q_e ?_
            refine q_e ?_
            refine q_hit ?_
            refine q_n ?_
            refine w_seq ?_
            refine w_block ?_
            refine w_seq ?_
            refine w_reg rfl ?_
            refine v_move rfl ?_
            refine v_not false rfl rfl ?_
            refine v_assign rfl ?_
            refine v_nil ?_
            refine q_n ?_
            refine w_f rfl ?_
            refine w_seq ?_
            refine w_reg rfl ?_
            refine v_move rfl ?_
            refine v_callb (c58n i (tls ds i) (by simp [tls]) (by omega) (t16_tls ds i)) rfl rfl (.cons (vw_mu2 te_sc te_len rfl (by first | rfl | simp [tls])) .nil) (fun h8 => ?_) (fun h8 => ?_)
            · skip
              refine v_not false rfl rfl ?_
              refine v_assign rfl ?_
              refine v_nil ?_
              refine q_n ?_
              refine w_f rfl ?_
              refine w_skip ?_
              refine q_bn ?_
              refine q_n ?_
              refine w_seq ?_
              refine w_reg rfl ?_
              refine v_move rfl ?_
              refine v_assign rfl ?_
              refine v_assign (c := .v (.int .i64 0)) rfl ?_
              refine v_nil ?_
              refine q_n ?_
              refine w_ret ?_
              refine r_r rfl ?_
              have he : i = N := by omega
              subst he
              rw [rd_0 h1 hN (by omega) hb0 h8]
              exact l_ans [some 0] rfl rfl ⟨⟨_, rfl, trc_flat te_sc rfl⟩, trivial⟩ (a_tup (.cons (tr_mun rfl (by simp [tls])) (.cons tr_v .nil)))
            · skip
              refine v_not true rfl rfl ?_
              refine v_assign rfl ?_
              refine v_nil ?_
              refine q_n ?_
              refine w_t rfl ?_
              refine w_seq ?_
              refine w_reg rfl ?_
              refine v_assign rfl ?_
              refine v_assign (c := .v (.int .i64 5)) rfl ?_
              refine v_nil ?_
              refine q_n ?_
              refine w_ret (q_br (q_r ?_))
              refine r_r rfl ?_
              have he : i = N := by omega
              subst he
              rw [rd_4 h1 hN (by omega) hb0 h8]
              exact l_ans [none] rfl rfl ⟨rfl, trivial⟩ (a_tup (.cons (tr_nil rfl) (.cons tr_v .nil)))

theorem c43 (ds : List Int) (hx : ds.length ≤ 2 ^ 40) (hb : B8 ds) : PureC X 43 [.c (bys false ds)] (.tup [.c (tals true (rdR ds).1), cI (rdR ds).2]) :=
  (c43l ds hx hb).pure (a_tup (.cons (a_flat te_sc te_len rfl rfl) (.cons tr_v .nil)))

theorem c9 (ds : List Int) (hx : ds.length ≤ maxLen) (hb : B8 ds) : PureC X 9 [.c (bys false ds)] (cB true) := by
  refine PureC.of_body (drawD_ok X) (fun _ _ => Go.Proofs.Try.call9 _ _) Go.Proofs.Try.func9 rfl (n := 93) rfl ?_
  refine w_seq ?_
  refine w_reg rfl ?_
  refine v_assign (c := .v (.bool false)) rfl ?_
  refine v_nil ?_
  refine q_n ?_
  refine w_seq ?_
  refine w_seq ?_
  refine w_reg rfl ?_
  refine v_move rfl ?_
  refine v_len_sl lay47 rfl ?_
  refine v_gtr lay3 rfl rfl (fun h1 => ?_) (fun h1 => ?_)
  · skip
    refine v_nil ?_
    refine q_n ?_
    refine w_t rfl ?_
    refine w_seq ?_
    refine w_reg rfl ?_
    refine v_assign (c := .v (.bool true)) rfl ?_
    refine v_nil ?_
    refine q_n ?_
    refine w_ret (q_r ?_)
    refine r_r rfl ?_
    exact tr_v
  · skip
    have hln := rd_len ds
    refine v_nil ?_
    refine q_n ?_
    refine w_f rfl ?_
    refine w_skip ?_
    refine q_n ?_
    refine w_seq ?_
    refine w_reg rfl ?_
    refine v_move rfl ?_
    refine v_call (c40 _ (by omega)) rfl rfl rfl (.cons vw_sl .nil) ?_
    refine v_call (c42 _ (by omega) hb) rfl rfl rfl (.cons vw_sl .nil) ?_
    refine v_move_t rfl ?_
    refine v_extract_c rfl rfl ?_
    refine v_extract_c rfl rfl ?_
    refine v_assign rfl ?_
    refine v_assign rfl ?_
    refine v_nil ?_
    refine q_n ?_
    refine w_seq ?_
    refine w_reg rfl ?_
    refine v_move rfl ?_
    refine v_live1 (N := 0) (H' := [_]) (c40l _ (by omega)) (sc_flat be_sc _) rfl rfl rfl rfl rfl rfl (.cons vw_sl .nil) ?_
    refine v_assign rfl ?_
    refine v_nil ?_
    refine q_n ?_
    refine w_seq ?_
    refine w_reg rfl ?_
    refine v_move rfl ?_
    refine v_live1 (N := 1) (H' := [_, _]) (c43l _ (by omega) hb) (sc_flat te_sc _) rfl rfl rfl rfl rfl rfl (.cons (vw_mu2 be_sc be_len rfl (by first | (simp; done) | (simp; omega))) .nil) ?_
    refine v_move_t rfl ?_
    refine v_extract_c rfl rfl ?_
    refine v_extract_c rfl rfl ?_
    refine v_assign rfl ?_
    refine v_assign rfl ?_
    refine v_nil ?_
    refine q_n ?_
    refine w_seq ?_
    refine w_seq ?_
    refine w_reg rfl ?_
    refine v_move rfl ?_
    refine v_move rfl ?_
    refine v_callb (c25 _ _ (by omega)) rfl rfl (.cons (vw_mu2 te_sc te_len rfl (by first | (simp; done) | (simp; omega))) (.cons vw_sl .nil)) (fun h2 => ?_) (fun h2 => ?_)
    · skip
      refine v_not false rfl rfl ?_
      refine v_move rfl ?_
      refine v_guard_on rfl rfl ?_
      refine v_move rfl ?_
      refine v_guard_on rfl rfl ?_
      refine v_move rfl ?_
      refine v_guard_on rfl rfl ?_
      refine v_neq lay2 rfl rfl (fun h3 => ?_) (fun h3 => ?_)
      · skip
        exact absurd rfl h3
      · skip
        refine v_pick_f rfl rfl ?_
        refine v_nil ?_
        refine q_n ?_
        refine w_f rfl ?_
        refine w_skip ?_
        refine q_n ?_
        refine w_seq ?_
        refine w_seq ?_
        refine w_reg rfl ?_
        refine v_move rfl ?_
        refine v_move rfl ?_
        refine v_call (c40 _ (by omega)) rfl rfl rfl (.cons vw_sl .nil) ?_
        refine v_callb (c31 _ _ (by omega)) rfl rfl (.cons (vw_mu2 be_sc be_len rfl (by first | (simp; done) | (simp; omega))) (.cons vw_sl .nil)) (fun h4 => ?_) (fun h4 => ?_)
        · skip
          refine v_not false rfl rfl ?_
          refine v_nil ?_
          refine q_n ?_
          refine w_f rfl ?_
          refine w_skip ?_
          refine q_n ?_
          refine w_seq ?_
          refine w_reg rfl ?_
          refine v_assign (c := .v (.int .i64 1)) rfl ?_
          refine v_nil ?_
          refine q_n ?_
          refine w_seq ?_
          refine w_reg rfl ?_
          refine v_move rfl ?_
          refine v_move rfl ?_
          refine v_mark (H' := [_, _]) (c32 _ _ (by omega) (by omega)) rfl (sc_flat be_sc _) (sc_flat be_sc _) rfl rfl rfl rfl ?_
          refine v_assign rfl ?_
          refine v_nil ?_
          refine q_n ?_
          refine w_seq ?_
          refine w_seq ?_
          refine w_reg rfl ?_
          refine v_move rfl ?_
          refine v_lss lay3 rfl rfl (fun h5 => ?_) (fun h5 => ?_)
          · skip
            exact absurd h5 (by omega)
          · skip
            refine v_move rfl ?_
            refine v_guard_on rfl rfl ?_
            refine v_move rfl ?_
            refine v_guard_on rfl rfl ?_
            refine v_move rfl ?_
            refine v_guard_on rfl rfl ?_
            refine v_callb (c25 _ _ (by omega)) rfl rfl (.cons (vw_mu2 te_sc te_len rfl (by first | (simp; done) | (simp; omega))) (.cons vw_sl .nil)) (fun h6 => ?_) (fun h6 => ?_)
            · skip
              refine v_guard_on rfl rfl ?_
              refine v_not false rfl rfl ?_
              refine v_pick_f rfl rfl ?_
              refine v_move rfl ?_
              refine v_guard_on rfl rfl ?_
              refine v_move rfl ?_
              refine v_guard_on rfl rfl ?_
              refine v_move rfl ?_
              refine v_guard_on rfl rfl ?_
              refine v_neq lay2 rfl rfl (fun h7 => ?_) (fun h7 => ?_)
              · skip
                exact absurd rfl h7
              · skip
                refine v_pick_f rfl rfl ?_
                refine v_nil ?_
                refine q_n ?_
                refine w_f rfl ?_
                refine w_skip ?_
                refine q_n ?_
                refine w_seq ?_
                refine w_reg rfl ?_
                refine v_assign (c := .v (.int .i64 1)) rfl ?_
                refine v_nil ?_
                refine q_n ?_
                refine w_seq ?_
                refine w_reg rfl ?_
                refine v_move rfl ?_
                refine v_move rfl ?_
                refine v_mark (H' := [_, _]) (c26 _ _ (by omega) (by omega)) rfl (sc_flat te_sc _) (sc_flat te_sc _) rfl rfl rfl rfl ?_
                refine v_assign rfl ?_
                refine v_nil ?_
                refine q_n ?_
                refine w_seq ?_
                refine w_reg rfl ?_
                refine v_assign (c := .v (.int .i64 1)) rfl ?_
                refine v_nil ?_
                refine q_n ?_
                refine w_seq ?_
                refine w_reg rfl ?_
                refine v_move rfl ?_
                refine v_move rfl ?_
                refine v_call (c38 _ _ (by omega) (by omega)) rfl rfl rfl (.cons (vw_mu2 te_sc te_len rfl (by first | (simp; done) | (simp; omega))) (.cons vw_v .nil)) ?_
                refine v_assign rfl ?_
                refine v_nil ?_
                refine q_n ?_
                refine w_seq ?_
                refine w_seq ?_
                refine w_reg rfl ?_
                refine v_move rfl ?_
                refine v_lss lay3 rfl rfl (fun h8 => ?_) (fun h8 => ?_)
                · skip
                  exact absurd h8 (by omega)
                · skip
                  refine v_nil ?_
                  refine q_n ?_
                  refine w_f rfl ?_
                  refine w_skip ?_
                  refine q_n ?_
                  refine w_seq ?_
                  refine w_seq ?_
                  refine w_reg rfl ?_
                  refine v_move rfl ?_
                  refine v_move rfl ?_
                  refine v_neq lay3 rfl rfl (fun h9 => ?_) (fun h9 => ?_)
                  · skip
                    exact absurd rfl h9
                  · skip
                    refine v_nil ?_
                    refine q_n ?_
                    refine w_f rfl ?_
                    refine w_skip ?_
                    refine q_n ?_
                    refine w_seq ?_
                    refine w_reg rfl ?_
                    refine v_move rfl ?_
                    refine v_call (c40 _ (by omega)) rfl rfl rfl (.cons vw_sl .nil) ?_
                    refine v_call (c43 _ (by omega) hb) rfl rfl rfl (.cons vw_sl .nil) ?_
                    refine v_move_t rfl ?_
                    refine v_extract_c rfl rfl ?_
                    refine v_extract_c rfl rfl ?_
                    refine v_assign rfl ?_
                    refine v_assign rfl ?_
                    refine v_nil ?_
                    refine q_n ?_
                    refine w_seq ?_
                    refine w_seq ?_
                    refine w_reg rfl ?_
                    refine v_move rfl ?_
                    refine v_move rfl ?_
                    refine v_callb (c25 _ _ (by omega)) rfl rfl (.cons vw_sl (.cons vw_sl .nil)) (fun h10 => ?_) (fun h10 => ?_)
                    · skip
                      refine v_not false rfl rfl ?_
                      refine v_move rfl ?_
                      refine v_guard_on rfl rfl ?_
                      refine v_move rfl ?_
                      refine v_guard_on rfl rfl ?_
                      refine v_move rfl ?_
                      refine v_guard_on rfl rfl ?_
                      refine v_neq lay2 rfl rfl (fun h11 => ?_) (fun h11 => ?_)
                      · skip
                        exact absurd rfl h11
                      · skip
                        refine v_pick_f rfl rfl ?_
                        refine v_nil ?_
                        refine q_n ?_
                        refine w_f rfl ?_
                        refine w_skip ?_
                        refine q_n ?_
                        refine w_seq ?_
                        refine w_reg rfl ?_
                        refine v_assign (c := .v (.int .i64 1)) rfl ?_
                        refine v_nil ?_
                        refine q_n ?_
                        refine w_seq ?_
                        refine w_reg rfl ?_
                        refine v_move rfl ?_
                        refine v_move rfl ?_
                        refine v_call (c38 _ _ (by omega) (by omega)) rfl rfl rfl (.cons (vw_mu2 te_sc te_len rfl (by first | (simp; done) | (simp; omega))) (.cons vw_v .nil)) ?_
                        refine v_assign rfl ?_
                        refine v_nil ?_
                        refine q_n ?_
                        refine w_seq ?_
                        refine w_seq ?_
                        refine w_reg rfl ?_
                        refine v_move rfl ?_
                        refine v_lss lay3 rfl rfl (fun h12 => ?_) (fun h12 => ?_)
                        · skip
                          exact absurd h12 (by omega)
                        · skip
                          refine v_nil ?_
                          refine q_n ?_
                          refine w_f rfl ?_
                          refine w_skip ?_
                          refine q_n ?_
                          refine w_seq ?_
                          refine w_seq ?_
                          refine w_reg rfl ?_
                          refine v_move rfl ?_
                          refine v_move rfl ?_
                          refine v_neq lay3 rfl rfl (fun h13 => ?_) (fun h13 => ?_)
                          · skip
                            exact absurd rfl h13
                          · skip
                            refine v_nil ?_
                            refine q_n ?_
                            refine w_f rfl ?_
                            refine w_skip ?_
                            refine q_n ?_
                            refine w_seq ?_
                            refine w_reg rfl ?_
                            refine v_assign (c := .v (.bool true)) rfl ?_
                            refine v_nil ?_
                            refine q_n ?_
                            refine w_ret ?_
                            refine r_r rfl ?_
                            exact tr_v
                    · skip
                      exact absurd rfl h10
            · skip
              exact absurd rfl h6
        · skip
          exact absurd rfl h4
    · skip
      exact absurd rfl h2
end Go.VL
namespace Go.VL
open Go.RowKit
set_option maxRecDepth 20000
set_option maxHeartbeats 4000000
/-- May one go on behind so many tallies? -/
def tnOk (ds : List Int) (N i : Nat) : Prop := i < N ∧ 3 + 7 * (i + 1) ≤ ds.length ∧ rgt ds i ∧ okL (tls ds (i + 1))
noncomputable instance (ds : List Int) (N i : Nat) : Decidable (tnOk ds N i) := Classical.propDecidable _
/-- How many tallies a torn packet has. -/
noncomputable def tn (ds : List Int) (N : Nat) : Nat → Nat → Nat
  | 0, i => i
  | f + 1, i => if tnOk ds N i then tn ds N f (i + 1) else i
theorem tn_go {ds : List Int} {N i : Nat} (h1 : i < N) (h2 : 3 + 7 * (i + 1) ≤ ds.length) (h3 : rgt ds i) (h4 : okL (tls ds (i + 1))) : tn ds N (N - i) i = tn ds N (N - (i + 1)) (i + 1) := by
  obtain ⟨f, hf⟩ : ∃ f, N - i = f + 1 := ⟨N - i - 1, by omega⟩
  rw [hf, show N - (i + 1) = f by omega]
  simp only [tn]
  rw [if_pos ⟨h1, h2, h3, h4⟩]
theorem tn_stop {ds : List Int} {N i t : Nat} (h : ¬ tnOk ds N i) (hp : tn ds N (N - i) i = t) : t = i := by
  rw [← hp]
  cases N - i with
  | zero => rfl
  | succ f => simp only [tn]; rw [if_neg h]
noncomputable def trR (ds : List Int) : List Tal × Int := if (hdR ds).2 = 0 then (tls ds (tn ds (hdR ds).1.toNat (hdR ds).1.toNat 0), 0) else ([], (hdR ds).2)
theorem tr_1 {ds : List Int} (h : ¬ (hdR ds).2 = 0) : trR ds = ([], (hdR ds).2) := by unfold trR; rw [if_neg h]
theorem tr_0 {ds : List Int} {N i : Nat} (h : (hdR ds).2 = 0) (hN : (hdR ds).1 = N) (ht : tn ds N N 0 = i) : trR ds = (tls ds i, 0) := by
  unfold trR
  rw [if_pos h, hN, Int.toNat_natCast, ht]
theorem tn_le (ds : List Int) (N : Nat) : ∀ f i, tn ds N f i ≤ i + f
  | 0, i => by simp [tn]
  | f + 1, i => by
    simp only [tn]
    split
    · have := tn_le ds N f (i + 1)
      omega
    · omega
theorem tr_len {ds : List Int} (hb : B8 ds) : (trR ds).1.length ≤ 96 := by
  unfold trR
  split
  · rename_i h
    obtain ⟨N, hN, h96, -⟩ := hd_ok hb h
    rw [hN, Int.toNat_natCast]
    have := tn_le ds N N 0
    simp [tls]
    omega
  · simp
theorem c88l (xs : List Tal) (hx : xs.length ≤ 2 ^ 40) : LiveC X 88 [.c (tals false xs)] (.c (.mu 0 0 xs.length 3)) [⟨flat te xs, 27, true⟩] := by
  refine LiveC.of_body (drawD_ok X) (fun _ _ => Go.Proofs.Try.call88 _ _) Go.Proofs.Try.func88 rfl (n := 8) rfl ?_
  refine w_seq ?_
  refine w_reg rfl ?_
  refine v_assign rfl ?_
  refine v_nil ?_
  refine q_n ?_
  refine w_seq ?_
  refine w_seq ?_
  refine w_reg rfl ?_
  refine v_move rfl ?_
  refine v_eqnil rfl lay40 rfl rfl (fun h1 => ?_) ?_
  · skip
    refine v_nil ?_
    refine q_n ?_
    refine w_t rfl ?_
    refine w_seq ?_
    refine w_reg rfl ?_
    refine v_assign rfl ?_
    refine v_nil ?_
    refine q_n ?_
    refine w_ret (q_r ?_)
    refine r_r rfl ?_
    have hxs : xs = [] := List.eq_nil_of_length_eq_zero h1.1
    subst hxs
    exact l_ans [none] rfl rfl ⟨rfl, trivial⟩ (tr_nil rfl)
  · skip
    refine v_nil ?_
    refine q_n ?_
    refine w_f rfl ?_
    refine w_skip ?_
    refine q_n ?_
    refine w_seq ?_
    refine w_reg rfl ?_
    refine v_lit (flat te []) (H' := [_]) lay40 lay27 rfl rfl ⟨by decide, by decide⟩ rfl rfl ?_
    refine v_move rfl ?_
    refine v_app_flat_sl (H' := [_, _]) te_sc te_len lay40 lay27 rfl rfl (by simp) rfl rfl rfl (by unfold maxLen; simp only []; omega) rfl rfl ?_
    refine v_assign rfl ?_
    refine v_nil ?_
    refine q_n ?_
    refine w_ret ?_
    refine r_r rfl ?_
    exact l_ans [some 1] rfl rfl ⟨⟨_, rfl, trc_flat te_sc (by simp)⟩, trivial⟩ (tr_mun rfl (by simp))

theorem c86t (ds : List Int) (i : Nat) (hl : 3 + 7 * i + 7 ≤ ds.length) (hx : ds.length ≤ 2 ^ 40) (hb : B8 ds) (h : rgt ds i) : PureC X 86 [.c (bys false ds), cI i] (.tup [.agg (te (tl6 (six ds i))), cB true]) := by
  have h1 := c86 ds i hl hx hb
  rw [show decide (rgt ds i) = true by simp [h]] at h1
  exact h1
theorem c86f (ds : List Int) (i : Nat) (hl : 3 + 7 * i + 7 ≤ ds.length) (hx : ds.length ≤ 2 ^ 40) (hb : B8 ds) (h : ¬ rgt ds i) : PureC X 86 [.c (bys false ds), cI i] (.tup [.agg (te (tl6 (six ds i))), cB false]) := by
  have h1 := c86 ds i hl hx hb
  rw [show decide (rgt ds i) = false by simp [h]] at h1
  exact h1

theorem c39 (ds : List Int) (hx : ds.length ≤ 2 ^ 40) (hb : B8 ds) : PureC X 39 [.c (bys false ds)] (.tup [.c (tals true (trR ds).1), cI (trR ds).2]) := by
  refine PureC.of_body (drawD_ok X) (fun _ _ => Go.Proofs.Try.call39 _ _) Go.Proofs.Try.func39 rfl (n := 56) rfl ?_
  refine w_seq ?_
  refine w_reg rfl ?_
  refine v_assign rfl ?_
  refine v_assign (c := .v (.int .i64 0)) rfl ?_
  refine v_nil ?_
  refine q_n ?_
  refine w_seq ?_
  refine w_reg rfl ?_
  refine v_move rfl ?_
  refine v_call (c85 _ (by omega) (by assumption)) rfl rfl rfl (.cons vw_sl .nil) ?_
  refine v_move_t rfl ?_
  refine v_extract_c rfl rfl ?_
  refine v_extract_c rfl rfl ?_
  refine v_assign rfl ?_
  refine v_assign rfl ?_
  refine v_nil ?_
  refine q_n ?_
  refine w_seq ?_
  refine w_seq ?_
  refine w_reg rfl ?_
  refine v_move rfl ?_
  refine v_neq lay2 rfl rfl (fun h1 => ?_) (fun h1 => ?_)
  · skip
    refine v_nil ?_
    refine q_n ?_
    refine w_t rfl ?_
    refine w_seq ?_
    refine w_reg rfl ?_
    refine v_lit (flat te []) (H' := [_]) lay40 lay27 rfl rfl ⟨by decide, by decide⟩ rfl rfl ?_
    refine v_move rfl ?_
    refine v_assign rfl ?_
    refine v_assign rfl ?_
    refine v_nil ?_
    refine q_n ?_
    refine w_ret (q_r ?_)
    refine r_r rfl ?_
    rw [tr_1 h1]
    exact a_tup (.cons (a_flat2 te_sc te_len rfl rfl rfl rfl) (.cons tr_v .nil))
  · skip
    obtain ⟨N, hN, hN96, hl3, hl676, hN2⟩ := hd_ok hb h1
    refine v_nil ?_
    refine q_n ?_
    refine w_f rfl ?_
    refine w_skip ?_
    refine q_n ?_
    refine w_seq ?_
    refine w_reg rfl ?_
    refine v_lit (flat te []) (H' := [_]) lay40 lay27 rfl rfl ⟨by decide, by decide⟩ rfl rfl ?_
    refine v_assign rfl ?_
    refine v_nil ?_
    refine q_n ?_
    refine w_seq ?_
    refine w_seq ?_
    refine w_reg rfl ?_
    refine v_assign (c := .v (.int .i64 0)) rfl ?_
    refine v_nil ?_
    refine q_n ?_
    refine w_block ?_
    refine w_loop (fun k sl H => ∃ i : Nat, k = N - i ∧ i ≤ N ∧ tn ds N (N - i) i = tn ds N N 0 ∧ sl = sls [(0, .c (bys false ds)), (4, cI (hdR ds).1), (6, .c (.mu 0 0 i 3)), (7, cI i)] ∧ H = [⟨flat te (tls ds i), 27, true⟩]) ?_ ?_
    · refine ⟨_, _, _, ?_, 0, rfl, Nat.zero_le _, rfl, rfl, rfl⟩
      exact turn [some 0] rfl rfl rfl ⟨⟨_, rfl, trc_flat te_sc rfl⟩, trivial⟩ ⟨tr_sl, tr_v, tr_mun rfl rfl, tr_v, trivial⟩
    · rintro k sl H ⟨i, rfl, hi, hp, rfl, rfl⟩
      refine w_seq ?_
      refine w_seq ?_
      refine w_reg rfl ?_
      refine v_move rfl ?_
      refine v_move rfl ?_
      refine v_lss lay3 rfl rfl (fun h2 => ?_) (fun h2 => ?_)
      · skip
        refine v_move rfl ?_
        refine v_guard_on rfl rfl ?_
        refine v_move rfl ?_
        refine v_guard_on rfl rfl ?_
        refine v_add lay3 rfl rfl (i64r (by omega)) ?_
        refine v_guard_on rfl rfl ?_
        refine v_mul lay3 rfl rfl (i64r (by omega)) ?_
        refine v_guard_on rfl rfl ?_
        refine v_add lay3 rfl rfl (i64r (by omega)) ?_
        refine v_guard_on rfl rfl ?_
        refine v_move rfl ?_
        refine v_guard_on rfl rfl ?_
        refine v_len_sl lay47 rfl ?_
        refine v_guard_on rfl rfl ?_
        refine v_leq lay3 rfl rfl (fun h3 => ?_) (fun h3 => ?_)
        · skip
          refine v_pick_t rfl rfl ?_
          refine v_nil ?_
          refine q_n ?_
          refine w_t rfl ?_
          refine w_skip ?_
          refine q_n ?_
          refine w_seq ?_
          refine w_block ?_
          refine w_seq ?_
          refine w_reg rfl ?_
          refine v_move rfl ?_
          refine v_move rfl ?_
          refine dec_split (p := rgt ds i) (fun h4 => ?_) (fun h4 => ?_)
          · refine v_call (c86t ds i (by omega) hx hb h4) rfl rfl rfl (.cons vw_sl (.cons vw_v .nil)) ?_
            refine v_move_t rfl ?_
            refine v_extract_a rfl rfl ?_
            refine v_extract_c rfl rfl ?_
            refine v_alloc (m := 1) (H' := [_, ⟨[.v _, .v _, .v _], 27, true⟩]) lay27 rfl rfl ?_
            refine v_store (H' := [_, ⟨[_, _, _], 27, true⟩]) lay27 rfl rfl rfl rfl rfl rfl ?_
            refine v_assign rfl ?_
            refine v_nil ?_
            refine q_n ?_
            refine w_seq ?_
            refine w_draw [0, 0, 3, 0, 8, 31, 63] [⟨1, 0, []⟩, ⟨3, 0, []⟩, ⟨4, 2, []⟩, ⟨0, 1, [3]⟩, ⟨2, 1, [3]⟩, ⟨5, 1, []⟩, ⟨6, 0, []⟩] rfl rfl ?_
            refine d_q rfl rfl rfl rfl rfl ?_
            refine v_move rfl ?_
            refine v_nil ?_
            refine d_q rfl rfl rfl rfl rfl ?_
            refine v_load_pt (.agg [_, _, _]) lay27 rfl rfl rfl rfl ?_
            refine v_nil ?_
            refine d_z (.c (.sl true 1 3 (flat te [tl6 (six ds i)]))) rfl rfl rfl ?_
            refine d_e rfl rfl rfl ?_
            refine v_lit (flat te []) (H' := [_, _, _]) lay40 lay27 rfl rfl ⟨by decide, by decide⟩ rfl rfl ?_
            refine v_nil ⟨⟨rfl, trivial⟩, ?_⟩
            refine d_e rfl rfl rfl ?_
            refine v_app_flat (H' := [_, _, _, _]) te_sc te_len lay40 lay27 rfl rfl (by simp [tls]) rfl rfl (by simp [tls]) rfl rfl (by simp only [maxLen]; omega) rfl rfl ?_
            refine v_nil ⟨⟨rfl, trivial⟩, ?_⟩
            refine d_e rfl rfl rfl ?_
            refine v_app_flat_sl (H' := [_, _, _, _, _]) te_sc te_len lay40 lay27 rfl rfl (by simp [tls]) rfl rfl rfl (by simp only [maxLen]; omega) rfl rfl ?_
            refine v_nil ⟨again_nil, ?_⟩
            refine d_q rfl rfl rfl rfl rfl ?_
            refine v_assign rfl ?_
            refine v_nil ?_
            refine d_nil ?_
            refine q_n ?_
            refine w_seq ?_
            refine w_seq ?_
            refine w_reg rfl ?_
            refine v_move rfl ?_
            refine v_not false rfl rfl ?_
            refine v_move rfl ?_
            refine v_guard_on rfl rfl ?_
            refine v_move rfl ?_
            refine v_guard_on rfl rfl ?_
            refine v_callb (c70n (0 + i + 1) (([] ++ tls ds i) ++ [tl6 (six ds i)]) (by simp [tls]) (by omega)) rfl rfl (.cons (vw_mu2 te_sc te_len rfl (by simp [tls])) .nil) (fun h5 => ?_) (fun h5 => ?_)
            · skip
              refine v_guard_on rfl rfl ?_
              refine v_not false rfl rfl ?_
              refine v_pick_f rfl rfl ?_
              refine v_nil ?_
              refine q_n ?_
              refine w_f rfl ?_
              refine w_skip ?_
              refine q_n ?_
              refine w_reg rfl ?_
              refine v_move rfl ?_
              refine v_assign rfl ?_
              refine v_nil ?_
              refine q_bn ?_
              refine q_n ?_
              refine w_reg rfl ?_
              refine v_move rfl ?_
              refine v_add lay3 rfl rfl (i64r (by omega)) ?_
              refine v_assign rfl ?_
              refine v_nil ?_
              refine q_n ?_
              rw [List.nil_append, tls_step] at h5
              refine ⟨_, _, _, ?_, ⟨i + 1, rfl, by omega, (tn_go (by omega) (by omega) h4 h5).symm.trans hp, rfl, rfl⟩, by omega⟩
              exact turn [some 4] rfl rfl rfl ⟨⟨_, rfl, trc_flat te_sc (congrArg (flat te) (by rw [List.nil_append]; exact tls_step ds i))⟩, trivial⟩ ⟨tr_sl, tr_v, tr_mun rfl (by omega), tr_v, trivial⟩
            · skip
              refine v_guard_on rfl rfl ?_
              refine v_not true rfl rfl ?_
              refine v_pick_f rfl rfl ?_
              refine v_nil ?_
              refine q_n ?_
              refine w_t rfl ?_
              refine w_exit ?_
              refine q_e ?_
              refine q_miss rfl ?_
              refine q_e ?_
              refine q_e ?_
              refine q_hit ?_
              refine q_n ?_
              refine w_seq ?_
              refine w_reg rfl ?_
              refine v_move rfl ?_
              refine v_assign rfl ?_
              refine v_assign (c := .v (.int .i64 0)) rfl ?_
              refine v_nil ?_
              refine q_n ?_
              refine w_ret ?_
              refine r_r rfl ?_
              rw [tr_0 h1 hN (tn_stop (fun h => by have h4 := h.2.2.2; rw [← tls_step] at h4; exact h5 (by rw [List.nil_append]; exact h4)) hp)]
              exact a_tup (.cons (a_flat2 te_sc te_len rfl rfl (by simp [tls]) (by simp [tls])) (.cons tr_v .nil))
          · refine v_call (c86f ds i (by omega) hx hb h4) rfl rfl rfl (.cons vw_sl (.cons vw_v .nil)) ?_
            refine v_move_t rfl ?_
            refine v_extract_a rfl rfl ?_
            refine v_extract_c rfl rfl ?_
            refine v_alloc (m := 1) (H' := [_, ⟨[.v _, .v _, .v _], 27, true⟩]) lay27 rfl rfl ?_
            refine v_store (H' := [_, ⟨[_, _, _], 27, true⟩]) lay27 rfl rfl rfl rfl rfl rfl ?_
            refine v_assign rfl ?_
            refine v_nil ?_
            refine q_n ?_
            refine w_seq ?_
            refine w_draw [0, 0, 3, 0, 8, 31, 63] [⟨1, 0, []⟩, ⟨3, 0, []⟩, ⟨4, 2, []⟩, ⟨0, 1, [3]⟩, ⟨2, 1, [3]⟩, ⟨5, 1, []⟩, ⟨6, 0, []⟩] rfl rfl ?_
            refine d_q rfl rfl rfl rfl rfl ?_
            refine v_move rfl ?_
            refine v_nil ?_
            refine d_q rfl rfl rfl rfl rfl ?_
            refine v_load_pt (.agg [_, _, _]) lay27 rfl rfl rfl rfl ?_
            refine v_nil ?_
            refine d_z (.c (.sl true 1 3 (flat te [tl6 (six ds i)]))) rfl rfl rfl ?_
            refine d_e rfl rfl rfl ?_
            refine v_lit (flat te []) (H' := [_, _, _]) lay40 lay27 rfl rfl ⟨by decide, by decide⟩ rfl rfl ?_
            refine v_nil ⟨⟨rfl, trivial⟩, ?_⟩
            refine d_e rfl rfl rfl ?_
            refine v_app_flat (H' := [_, _, _, _]) te_sc te_len lay40 lay27 rfl rfl (by simp [tls]) rfl rfl (by simp [tls]) rfl rfl (by simp only [maxLen]; omega) rfl rfl ?_
            refine v_nil ⟨⟨rfl, trivial⟩, ?_⟩
            refine d_e rfl rfl rfl ?_
            refine v_app_flat_sl (H' := [_, _, _, _, _]) te_sc te_len lay40 lay27 rfl rfl (by simp [tls]) rfl rfl rfl (by simp only [maxLen]; omega) rfl rfl ?_
            refine v_nil ⟨again_nil, ?_⟩
            refine d_q rfl rfl rfl rfl rfl ?_
            refine v_assign rfl ?_
            refine v_nil ?_
            refine d_nil ?_
            refine q_n ?_
            refine w_seq ?_
            refine w_seq ?_
            refine w_reg rfl ?_
            refine v_move rfl ?_
            refine v_not true rfl rfl ?_
            refine v_move rfl ?_
            refine v_guard_off rfl rfl rfl ?_
            refine v_guard_off rfl rfl rfl ?_
            refine v_guard_off rfl rfl rfl ?_
            refine v_pick_t (v := .v (.bool true)) rfl rfl ?_
            refine v_nil ?_
            refine q_n ?_
            refine w_t rfl ?_
            refine w_exit ?_
            refine q_e ?_
            refine q_miss rfl ?_
            refine q_e ?_
            refine q_e ?_
            refine q_hit ?_
            refine q_n ?_
            refine w_seq ?_
            refine w_reg rfl ?_
            refine v_move rfl ?_
            refine v_assign rfl ?_
            refine v_assign (c := .v (.int .i64 0)) rfl ?_
            refine v_nil ?_
            refine q_n ?_
            refine w_ret ?_
            refine r_r rfl ?_
            rw [tr_0 h1 hN (tn_stop (fun h => absurd h.2.2.1 h4) hp)]
            exact a_tup (.cons (a_flat2 te_sc te_len rfl rfl (by simp [tls]) (by simp [tls])) (.cons tr_v .nil))
        · skip
          refine v_pick_t rfl rfl ?_
          refine v_nil ?_
          refine q_n ?_
          refine w_f rfl ?_
          refine w_exit ?_
          refine q_e ?_
          refine q_e ?_
          refine q_hit ?_
          refine q_n ?_
          refine w_seq ?_
          refine w_reg rfl ?_
          refine v_move rfl ?_
          refine v_assign rfl ?_
          refine v_assign (c := .v (.int .i64 0)) rfl ?_
          refine v_nil ?_
          refine q_n ?_
          refine w_ret ?_
          refine r_r rfl ?_
          rw [tr_0 h1 hN (tn_stop (fun h => by have := h.2.1; omega) hp)]
          exact a_tup (.cons (a_flat2 te_sc te_len rfl rfl (by simp [tls]) (by simp [tls])) (.cons tr_v .nil))
      · skip
        refine v_move rfl ?_
        refine v_guard_off rfl rfl rfl ?_
        refine v_guard_off rfl rfl rfl ?_
        refine v_guard_off rfl rfl rfl ?_
        refine v_guard_off rfl rfl rfl ?_
        refine v_guard_off rfl rfl rfl ?_
        refine v_guard_off rfl rfl rfl ?_
        refine v_guard_off rfl rfl rfl ?_
        refine v_pick_f (v := .v (.bool false)) rfl rfl ?_
        refine v_nil ?_
        refine q_n ?_
        refine w_f rfl ?_
        refine w_exit ?_
        refine q_e ?_
        refine q_e ?_
        refine q_hit ?_
        refine q_n ?_
        refine w_seq ?_
        refine w_reg rfl ?_
        refine v_move rfl ?_
        refine v_assign rfl ?_
        refine v_assign (c := .v (.int .i64 0)) rfl ?_
        refine v_nil ?_
        refine q_n ?_
        refine w_ret ?_
        refine r_r rfl ?_
        rw [tr_0 h1 hN (tn_stop (fun h => by have := h.1; omega) hp)]
        exact a_tup (.cons (a_flat2 te_sc te_len rfl rfl (by simp [tls]) (by simp [tls])) (.cons tr_v .nil))

theorem c88n (n : Nat) (xs : List Tal) (hn : n = xs.length) (hx : n ≤ 2 ^ 40) : LiveC X 88 [.c (.sl false n 3 (flat te xs))] (.c (.mu 0 0 n 3)) [⟨flat te xs, 27, true⟩] := by rw [hn]; exact c88l xs (by omega)
theorem c90t (ds : List Int) (i : Nat) (hl : 3 + 7 * i + 7 ≤ ds.length) (hb : B8 ds) (h : rgt ds i) : PureC X 90 [.c (bys false (recT ds i)), .c (.sl false (7 * (i + 1) - 7 * i) 1 (flat be (recX ds i)))] (cB true) := by
  have h1 := c90r ds i hl hb
  rw [show decide (rgt ds i) = true by simp [h]] at h1
  exact h1
theorem c90f (ds : List Int) (i : Nat) (hl : 3 + 7 * i + 7 ≤ ds.length) (hb : B8 ds) (h : ¬ rgt ds i) : PureC X 90 [.c (bys false (recT ds i)), .c (.sl false (7 * (i + 1) - 7 * i) 1 (flat be (recX ds i)))] (cB false) := by
  have h1 := c90r ds i hl hb
  rw [show decide (rgt ds i) = false by simp [h]] at h1
  exact h1

theorem c41l (ds : List Int) (hx : ds.length ≤ 2 ^ 40) (hb : B8 ds) : LiveC X 41 [.c (bys false ds)] (.tup [.c (.mu 0 0 (trR ds).1.length 3), cI (trR ds).2]) [⟨flat te (trR ds).1, 27, true⟩] := by
  refine LiveC.of_body (drawD_ok X) (fun _ _ => Go.Proofs.Try.call41 _ _) Go.Proofs.Try.func41 rfl (n := 66) rfl ?_
  refine w_seq ?_
  refine w_reg rfl ?_
  refine v_assign rfl ?_
  refine v_assign (c := .v (.int .i64 0)) rfl ?_
  refine v_nil ?_
  refine q_n ?_
  refine w_seq ?_
  refine w_seq ?_
  refine w_reg rfl ?_
  refine v_move rfl ?_
  refine v_call (c87 _ (by omega) (by assumption)) rfl rfl rfl (.cons vw_sl .nil) ?_
  refine v_assign rfl ?_
  refine v_nil ?_
  refine q_n ?_
  refine w_seq ?_
  refine w_reg rfl ?_
  refine v_move rfl ?_
  refine v_neq lay2 rfl rfl (fun h1 => ?_) (fun h1 => ?_)
  · skip
    refine v_nil ?_
    refine q_n ?_
    refine w_t rfl ?_
    refine w_seq ?_
    refine w_reg rfl ?_
    refine v_move rfl ?_
    refine v_assign rfl ?_
    refine v_assign rfl ?_
    refine v_nil ?_
    refine q_n ?_
    refine w_ret (q_r ?_)
    refine r_r rfl ?_
    rw [tr_1 h1]
    exact l_ans [none] rfl rfl ⟨rfl, trivial⟩ (a_tup (.cons (tr_nil rfl) (.cons tr_v .nil)))
  · skip
    obtain ⟨N, hN, hN96, hl3, hl676, hN2⟩ := hd_ok hb h1
    refine v_nil ?_
    refine q_n ?_
    refine w_f rfl ?_
    refine w_skip ?_
    refine q_n ?_
    refine w_seq ?_
    refine w_draw [0, 1, 3, 7, 0, 16, 0, 15, 191, 511] [⟨0, 0, []⟩, ⟨1, 0, []⟩, ⟨2, 0, []⟩, ⟨3, 0, []⟩, ⟨4, 0, []⟩, ⟨5, 0, []⟩, ⟨7, 0, []⟩, ⟨8, 0, []⟩, ⟨6, 1, [2, 5]⟩, ⟨9, 0, []⟩] rfl rfl ?_
    refine d_q rfl rfl rfl rfl rfl ?_
    refine v_move rfl ?_
    refine v_nil ?_
    refine d_q rfl rfl rfl rfl rfl ?_
    refine v_idx (k := 1) be_len lay47 lay5 rfl rfl rfl (rfl) rfl (by omega) (fun q2 hq2 e2 => ?_)
    obtain rfl : q2 = 2 := by omega
    have hn2 := hN2 hq2
    refine v_nil ?_
    refine d_q rfl rfl rfl rfl rfl ?_
    refine v_load_vw (.c (.v _)) lay5 rfl rfl rfl ?_
    refine v_nil ?_
    refine d_q rfl rfl rfl rfl rfl ?_
    refine v_conv_ii lay5 lay3 rfl (i64r (by have hx1 := bytes_in hb hq2; omega)) ?_
    refine v_nil ?_
    refine d_q rfl rfl rfl rfl rfl ?_
    refine v_move rfl ?_
    refine v_nil ?_
    refine d_q rfl rfl rfl rfl rfl ?_
    refine v_slice_sl (3) (ds.length) be_len lay47 lay5 rfl rfl rfl rfl rfl (rfl) (rfl) (by omega) ?_
    refine v_nil ?_
    refine d_q rfl rfl rfl rfl rfl ?_
    refine v_assign rfl ?_
    refine v_nil ?_
    refine d_q rfl rfl rfl rfl rfl ?_
    refine v_assign rfl ?_
    refine v_nil ?_
    refine d_e rfl rfl rfl ?_
    refine v_lit (flat te []) (H' := [_]) lay40 lay27 rfl rfl ⟨by decide, by decide⟩ rfl rfl ?_
    refine v_nil ⟨⟨sl_again 3 ds.length be_len lay47 lay5 rfl rfl rfl rfl rfl rfl rfl (by omega), ⟨rfl, trivial⟩⟩, ?_⟩
    refine d_q rfl rfl rfl rfl rfl ?_
    refine v_assign rfl ?_
    refine v_nil ?_
    refine d_nil ?_
    refine q_n ?_
    refine w_seq ?_
    refine w_seq ?_
    refine w_reg rfl ?_
    refine v_assign (c := .v (.int .i64 0)) rfl ?_
    refine v_nil ?_
    refine q_n ?_
    refine w_block ?_
    refine w_loop (fun k sl H => ∃ i : Nat, k = N - i ∧ i ≤ N ∧ tn ds N (N - i) i = tn ds N N 0 ∧ sl = sls [(5, cI (ds[2]'hq2)), (6, .c (.sl false (ds.length - 3) 1 (flat be ((ds.drop 3).take (ds.length - 3))))), (7, .c (.mu 0 0 i 3)), (8, cI i)] ∧ H = [⟨flat te (tls ds i), 27, true⟩]) ?_ ?_
    · refine ⟨_, _, _, ?_, 0, rfl, Nat.zero_le _, rfl, rfl, rfl⟩
      exact turn [some 0] rfl rfl rfl ⟨⟨_, rfl, trc_flat te_sc rfl⟩, trivial⟩ ⟨tr_v, tr_sl, tr_mu rfl, tr_v, trivial⟩
    · rintro k sl H ⟨i, rfl, hi, hp, rfl, rfl⟩
      refine w_seq ?_
      refine w_seq ?_
      refine w_reg rfl ?_
      refine v_move rfl ?_
      refine v_move rfl ?_
      refine v_lss lay3 rfl rfl (fun h3 => ?_) (fun h3 => ?_)
      · skip
        refine v_move rfl ?_
        refine v_guard_on rfl rfl ?_
        refine v_move rfl ?_
        refine v_guard_on rfl rfl ?_
        refine v_add lay3 rfl rfl (i64r (by omega)) ?_
        refine v_guard_on rfl rfl ?_
        refine v_mul lay3 rfl rfl (i64r (by omega)) ?_
        refine v_guard_on rfl rfl ?_
        refine v_move rfl ?_
        refine v_guard_on rfl rfl ?_
        refine v_len_sl lay47 rfl ?_
        refine v_guard_on rfl rfl ?_
        refine v_leq lay3 rfl rfl (fun h4 => ?_) (fun h4 => ?_)
        · skip
          refine v_pick_t rfl rfl ?_
          refine v_nil ?_
          refine q_n ?_
          refine w_t rfl ?_
          refine w_skip ?_
          refine q_n ?_
          refine w_seq ?_
          refine w_block ?_
          refine w_seq ?_
          refine w_reg rfl ?_
          refine v_move rfl ?_
          refine v_move rfl ?_
          refine v_mul lay3 rfl rfl (i64r (by omega)) ?_
          refine v_move rfl ?_
          refine v_add lay3 rfl rfl (i64r (by omega)) ?_
          refine v_mul lay3 rfl rfl (i64r (by omega)) ?_
          refine v_slice_sl (7 * i) (7 * (i + 1)) be_len lay47 lay5 rfl rfl rfl rfl rfl (by omega) (by omega) (by omega) ?_
          refine v_assign rfl ?_
          refine v_nil ?_
          refine q_n ?_
          refine w_seq ?_
          refine w_reg rfl ?_
          refine v_move rfl ?_
          refine v_live1 (N := 1) (H' := [_, _]) (c88n i (tls ds i) (by simp [tls]) (by omega)) (sc_flat te_sc _) rfl rfl rfl rfl rfl rfl (.cons (vw_mu2 te_sc te_len rfl (by first | rfl | simp [tls])) .nil) ?_
          refine v_move rfl ?_
          refine v_call (c89r ds i (by omega) hx hb) rfl rfl rfl (.cons vw_sl .nil) ?_
          refine v_lit (flat te [tl6 (six ds i)]) (H' := [_, _, _]) lay40 lay27 rfl rfl ⟨by decide, by decide⟩ rfl rfl ?_
          refine v_app_flat (H' := [_, _, _, _]) te_sc te_len lay40 lay27 rfl rfl (by simp [tls]) rfl rfl (by simp) rfl rfl (by unfold maxLen; simp only []; omega) rfl rfl ?_
          refine v_assign rfl ?_
          refine v_nil ?_
          refine q_n ?_
          refine w_seq ?_
          refine w_seq ?_
          refine w_reg rfl ?_
          refine v_move rfl ?_
          refine v_move rfl ?_
          refine v_move rfl ?_
          refine v_idx_mu (k := 3) (off := 0) lay40 lay27 rfl rfl rfl (by omega) (fun q5 hq5 e5 => ?_)
          refine v_load_flat q5 0 (.agg [.v _, .v _, .v _]) te_len lay27 rfl rfl (by omega) (by simp [tls]; omega) rfl rfl ?_
          refine v_call (c75r ds i _ (by simp [tls]; omega) e5) rfl rfl rfl (.cons vw_v (.cons (vw_agg (.cons vw_v (.cons vw_v (.cons vw_v .nil)))) .nil)) ?_
          refine v_move rfl ?_
          refine dec_split (p := rgt ds i) (fun h6 => ?_) (fun h6 => ?_)
          · refine v_call (c90t ds i (by omega) hb h6) rfl rfl rfl (.cons vw_sl (.cons vw_sl .nil)) ?_
            refine v_not false rfl rfl ?_
            refine v_move rfl ?_
            refine v_guard_on rfl rfl ?_
            refine v_move rfl ?_
            refine v_guard_on rfl rfl ?_
            refine v_callb (c58n (i + 1) (tls ds i ++ [tl6 (six ds i)]) (by simp [tls]) (by omega) (by rw [tls_step]; exact t16_tls ds _)) rfl rfl (.cons (vw_mu2 te_sc te_len rfl (by first | rfl | simp [tls])) .nil) (fun h7 => ?_) (fun h7 => ?_)
            · skip
              refine v_guard_on rfl rfl ?_
              refine v_not false rfl rfl ?_
              refine v_pick_f rfl rfl ?_
              refine v_nil ?_
              refine q_n ?_
              refine w_f rfl ?_
              refine w_skip ?_
              refine q_n ?_
              refine w_reg rfl ?_
              refine v_move rfl ?_
              refine v_assign rfl ?_
              refine v_nil ?_
              refine q_bn ?_
              refine q_n ?_
              refine w_reg rfl ?_
              refine v_move rfl ?_
              refine v_add lay3 rfl rfl (i64r (by omega)) ?_
              refine v_assign rfl ?_
              refine v_nil ?_
              refine q_n ?_
              rw [tls_step] at h7
              refine ⟨_, _, _, ?_, ⟨i + 1, rfl, by omega, (tn_go (by omega) (by omega) h6 h7).symm.trans hp, rfl, rfl⟩, by omega⟩
              exact turn [some 3] rfl rfl rfl ⟨⟨_, rfl, trc_flat te_sc (congrArg (flat te) (tls_step ds i))⟩, trivial⟩ ⟨tr_v, tr_sl, tr_mu rfl, tr_v, trivial⟩
            · skip
              refine v_guard_on rfl rfl ?_
              refine v_not true rfl rfl ?_
              refine v_pick_f rfl rfl ?_
              refine v_nil ?_
              refine q_n ?_
              refine w_t rfl ?_
              refine w_exit ?_
              refine q_e ?_
              refine q_miss rfl ?_
              refine q_e ?_
              refine q_e ?_
              refine q_hit ?_
              refine q_n ?_
              refine w_seq ?_
              refine w_reg rfl ?_
              refine v_move rfl ?_
              refine v_live1 (N := 4) (H' := [_, _, _, _, _]) (c88n i (tls ds i) (by simp [tls]) (by omega)) (sc_flat te_sc _) rfl rfl rfl rfl rfl rfl (.cons (vw_mu2 te_sc te_len rfl (by first | rfl | simp [tls])) .nil) ?_
              refine v_assign rfl ?_
              refine v_assign (c := .v (.int .i64 0)) rfl ?_
              refine v_nil ?_
              refine q_n ?_
              refine w_ret ?_
              refine r_r rfl ?_
              rw [tr_0 h1 hN (tn_stop (fun h => by have h4 := h.2.2.2; rw [← tls_step] at h4; exact h7 h4) hp)]
              exact l_ans [some 4] rfl rfl ⟨⟨_, rfl, trc_flat te_sc rfl⟩, trivial⟩ (a_tup (.cons (tr_mun rfl (by simp [tls])) (.cons tr_v .nil)))
          · refine v_call (c90f ds i (by omega) hb h6) rfl rfl rfl (.cons vw_sl (.cons vw_sl .nil)) ?_
            refine v_not true rfl rfl ?_
            refine v_move rfl ?_
            refine v_guard_off rfl rfl rfl ?_
            refine v_guard_off rfl rfl rfl ?_
            refine v_guard_off rfl rfl rfl ?_
            refine v_pick_t (v := .v (.bool true)) rfl rfl ?_
            refine v_nil ?_
            refine q_n ?_
            refine w_t rfl ?_
            refine w_exit ?_
            refine q_e ?_
            refine q_miss rfl ?_
            refine q_e ?_
            refine q_e ?_
            refine q_hit ?_
            refine q_n ?_
            refine w_seq ?_
            refine w_reg rfl ?_
            refine v_move rfl ?_
            refine v_live1 (N := 4) (H' := [_, _, _, _, _]) (c88n i (tls ds i) (by simp [tls]) (by omega)) (sc_flat te_sc _) rfl rfl rfl rfl rfl rfl (.cons (vw_mu2 te_sc te_len rfl (by first | rfl | simp [tls])) .nil) ?_
            refine v_assign rfl ?_
            refine v_assign (c := .v (.int .i64 0)) rfl ?_
            refine v_nil ?_
            refine q_n ?_
            refine w_ret ?_
            refine r_r rfl ?_
            rw [tr_0 h1 hN (tn_stop (fun h => absurd h.2.2.1 h6) hp)]
            exact l_ans [some 4] rfl rfl ⟨⟨_, rfl, trc_flat te_sc rfl⟩, trivial⟩ (a_tup (.cons (tr_mun rfl (by simp [tls])) (.cons tr_v .nil)))
        · skip
          refine v_pick_t rfl rfl ?_
          refine v_nil ?_
          refine q_n ?_
          refine w_f rfl ?_
          refine w_exit ?_
          refine q_e ?_
          refine q_e ?_
          refine q_hit ?_
          refine q_n ?_
          refine w_seq ?_
          refine w_reg rfl ?_
          refine v_move rfl ?_
          refine v_live1 (N := 1) (H' := [_, _]) (c88n i (tls ds i) (by simp [tls]) (by omega)) (sc_flat te_sc _) rfl rfl rfl rfl rfl rfl (.cons (vw_mu2 te_sc te_len rfl (by first | rfl | simp [tls])) .nil) ?_
          refine v_assign rfl ?_
          refine v_assign (c := .v (.int .i64 0)) rfl ?_
          refine v_nil ?_
          refine q_n ?_
          refine w_ret ?_
          refine r_r rfl ?_
          rw [tr_0 h1 hN (tn_stop (fun h => by have := h.2.1; omega) hp)]
          exact l_ans [some 1] rfl rfl ⟨⟨_, rfl, trc_flat te_sc rfl⟩, trivial⟩ (a_tup (.cons (tr_mun rfl (by simp [tls])) (.cons tr_v .nil)))
      · skip
        refine v_move rfl ?_
        refine v_guard_off rfl rfl rfl ?_
        refine v_guard_off rfl rfl rfl ?_
        refine v_guard_off rfl rfl rfl ?_
        refine v_guard_off rfl rfl rfl ?_
        refine v_guard_off rfl rfl rfl ?_
        refine v_guard_off rfl rfl rfl ?_
        refine v_pick_f (v := .v (.bool false)) rfl rfl ?_
        refine v_nil ?_
        refine q_n ?_
        refine w_f rfl ?_
        refine w_exit ?_
        refine q_e ?_
        refine q_e ?_
        refine q_hit ?_
        refine q_n ?_
        refine w_seq ?_
        refine w_reg rfl ?_
        refine v_move rfl ?_
        refine v_live1 (N := 1) (H' := [_, _]) (c88n i (tls ds i) (by simp [tls]) (by omega)) (sc_flat te_sc _) rfl rfl rfl rfl rfl rfl (.cons (vw_mu2 te_sc te_len rfl (by first | rfl | simp [tls])) .nil) ?_
        refine v_assign rfl ?_
        refine v_assign (c := .v (.int .i64 0)) rfl ?_
        refine v_nil ?_
        refine q_n ?_
        refine w_ret ?_
        refine r_r rfl ?_
        rw [tr_0 h1 hN (tn_stop (fun h => by have := h.1; omega) hp)]
        exact l_ans [some 1] rfl rfl ⟨⟨_, rfl, trc_flat te_sc rfl⟩, trivial⟩ (a_tup (.cons (tr_mun rfl (by simp [tls])) (.cons tr_v .nil)))

theorem c41 (ds : List Int) (hx : ds.length ≤ 2 ^ 40) (hb : B8 ds) : PureC X 41 [.c (bys false ds)] (.tup [.c (tals true (trR ds).1), cI (trR ds).2]) :=
  (c41l ds hx hb).pure (a_tup (.cons (a_flat te_sc te_len rfl rfl) (.cons tr_v .nil)))

theorem c8 (ds : List Int) (hx : ds.length ≤ maxLen) (hb : B8 ds) : PureC X 8 [.c (bys false ds)] (cB true) := by
  refine PureC.of_body (drawD_ok X) (fun _ _ => Go.Proofs.Try.call8 _ _) Go.Proofs.Try.func8 rfl (n := 93) rfl ?_
  refine w_seq ?_
  refine w_reg rfl ?_
  refine v_assign (c := .v (.bool false)) rfl ?_
  refine v_nil ?_
  refine q_n ?_
  refine w_seq ?_
  refine w_seq ?_
  refine w_reg rfl ?_
  refine v_move rfl ?_
  refine v_len_sl lay47 rfl ?_
  refine v_gtr lay3 rfl rfl (fun h1 => ?_) (fun h1 => ?_)
  · skip
    refine v_nil ?_
    refine q_n ?_
    refine w_t rfl ?_
    refine w_seq ?_
    refine w_reg rfl ?_
    refine v_assign (c := .v (.bool true)) rfl ?_
    refine v_nil ?_
    refine q_n ?_
    refine w_ret (q_r ?_)
    refine r_r rfl ?_
    exact tr_v
  · skip
    have hln := tr_len hb
    refine v_nil ?_
    refine q_n ?_
    refine w_f rfl ?_
    refine w_skip ?_
    refine q_n ?_
    refine w_seq ?_
    refine w_reg rfl ?_
    refine v_move rfl ?_
    refine v_call (c40 _ (by omega)) rfl rfl rfl (.cons vw_sl .nil) ?_
    refine v_call (c39 _ (by omega) hb) rfl rfl rfl (.cons vw_sl .nil) ?_
    refine v_move_t rfl ?_
    refine v_extract_c rfl rfl ?_
    refine v_extract_c rfl rfl ?_
    refine v_assign rfl ?_
    refine v_assign rfl ?_
    refine v_nil ?_
    refine q_n ?_
    refine w_seq ?_
    refine w_reg rfl ?_
    refine v_move rfl ?_
    refine v_live1 (N := 0) (H' := [_]) (c40l _ (by omega)) (sc_flat be_sc _) rfl rfl rfl rfl rfl rfl (.cons vw_sl .nil) ?_
    refine v_assign rfl ?_
    refine v_nil ?_
    refine q_n ?_
    refine w_seq ?_
    refine w_reg rfl ?_
    refine v_move rfl ?_
    refine v_live1 (N := 1) (H' := [_, _]) (c41l _ (by omega) hb) (sc_flat te_sc _) rfl rfl rfl rfl rfl rfl (.cons (vw_mu2 be_sc be_len rfl (by first | (simp; done) | (simp; omega))) .nil) ?_
    refine v_move_t rfl ?_
    refine v_extract_c rfl rfl ?_
    refine v_extract_c rfl rfl ?_
    refine v_assign rfl ?_
    refine v_assign rfl ?_
    refine v_nil ?_
    refine q_n ?_
    refine w_seq ?_
    refine w_seq ?_
    refine w_reg rfl ?_
    refine v_move rfl ?_
    refine v_move rfl ?_
    refine v_callb (c25 _ _ (by omega)) rfl rfl (.cons (vw_mu2 te_sc te_len rfl (by first | (simp; done) | (simp; omega))) (.cons vw_sl .nil)) (fun h2 => ?_) (fun h2 => ?_)
    · skip
      refine v_not false rfl rfl ?_
      refine v_move rfl ?_
      refine v_guard_on rfl rfl ?_
      refine v_move rfl ?_
      refine v_guard_on rfl rfl ?_
      refine v_move rfl ?_
      refine v_guard_on rfl rfl ?_
      refine v_neq lay2 rfl rfl (fun h3 => ?_) (fun h3 => ?_)
      · skip
        exact absurd rfl h3
      · skip
        refine v_pick_f rfl rfl ?_
        refine v_nil ?_
        refine q_n ?_
        refine w_f rfl ?_
        refine w_skip ?_
        refine q_n ?_
        refine w_seq ?_
        refine w_seq ?_
        refine w_reg rfl ?_
        refine v_move rfl ?_
        refine v_move rfl ?_
        refine v_call (c40 _ (by omega)) rfl rfl rfl (.cons vw_sl .nil) ?_
        refine v_callb (c31 _ _ (by omega)) rfl rfl (.cons (vw_mu2 be_sc be_len rfl (by first | (simp; done) | (simp; omega))) (.cons vw_sl .nil)) (fun h4 => ?_) (fun h4 => ?_)
        · skip
          refine v_not false rfl rfl ?_
          refine v_nil ?_
          refine q_n ?_
          refine w_f rfl ?_
          refine w_skip ?_
          refine q_n ?_
          refine w_seq ?_
          refine w_reg rfl ?_
          refine v_assign (c := .v (.int .i64 1)) rfl ?_
          refine v_nil ?_
          refine q_n ?_
          refine w_seq ?_
          refine w_reg rfl ?_
          refine v_move rfl ?_
          refine v_move rfl ?_
          refine v_mark (H' := [_, _]) (c32 _ _ (by omega) (by omega)) rfl (sc_flat be_sc _) (sc_flat be_sc _) rfl rfl rfl rfl ?_
          refine v_assign rfl ?_
          refine v_nil ?_
          refine q_n ?_
          refine w_seq ?_
          refine w_seq ?_
          refine w_reg rfl ?_
          refine v_move rfl ?_
          refine v_lss lay3 rfl rfl (fun h5 => ?_) (fun h5 => ?_)
          · skip
            exact absurd h5 (by omega)
          · skip
            refine v_move rfl ?_
            refine v_guard_on rfl rfl ?_
            refine v_move rfl ?_
            refine v_guard_on rfl rfl ?_
            refine v_move rfl ?_
            refine v_guard_on rfl rfl ?_
            refine v_callb (c25 _ _ (by omega)) rfl rfl (.cons (vw_mu2 te_sc te_len rfl (by first | (simp; done) | (simp; omega))) (.cons vw_sl .nil)) (fun h6 => ?_) (fun h6 => ?_)
            · skip
              refine v_guard_on rfl rfl ?_
              refine v_not false rfl rfl ?_
              refine v_pick_f rfl rfl ?_
              refine v_move rfl ?_
              refine v_guard_on rfl rfl ?_
              refine v_move rfl ?_
              refine v_guard_on rfl rfl ?_
              refine v_move rfl ?_
              refine v_guard_on rfl rfl ?_
              refine v_neq lay2 rfl rfl (fun h7 => ?_) (fun h7 => ?_)
              · skip
                exact absurd rfl h7
              · skip
                refine v_pick_f rfl rfl ?_
                refine v_nil ?_
                refine q_n ?_
                refine w_f rfl ?_
                refine w_skip ?_
                refine q_n ?_
                refine w_seq ?_
                refine w_reg rfl ?_
                refine v_assign (c := .v (.int .i64 1)) rfl ?_
                refine v_nil ?_
                refine q_n ?_
                refine w_seq ?_
                refine w_reg rfl ?_
                refine v_move rfl ?_
                refine v_move rfl ?_
                refine v_mark (H' := [_, _]) (c26 _ _ (by omega) (by omega)) rfl (sc_flat te_sc _) (sc_flat te_sc _) rfl rfl rfl rfl ?_
                refine v_assign rfl ?_
                refine v_nil ?_
                refine q_n ?_
                refine w_seq ?_
                refine w_reg rfl ?_
                refine v_assign (c := .v (.int .i64 1)) rfl ?_
                refine v_nil ?_
                refine q_n ?_
                refine w_seq ?_
                refine w_reg rfl ?_
                refine v_move rfl ?_
                refine v_move rfl ?_
                refine v_call (c38 _ _ (by omega) (by omega)) rfl rfl rfl (.cons (vw_mu2 te_sc te_len rfl (by first | (simp; done) | (simp; omega))) (.cons vw_v .nil)) ?_
                refine v_assign rfl ?_
                refine v_nil ?_
                refine q_n ?_
                refine w_seq ?_
                refine w_seq ?_
                refine w_reg rfl ?_
                refine v_move rfl ?_
                refine v_lss lay3 rfl rfl (fun h8 => ?_) (fun h8 => ?_)
                · skip
                  exact absurd h8 (by omega)
                · skip
                  refine v_nil ?_
                  refine q_n ?_
                  refine w_f rfl ?_
                  refine w_skip ?_
                  refine q_n ?_
                  refine w_seq ?_
                  refine w_seq ?_
                  refine w_reg rfl ?_
                  refine v_move rfl ?_
                  refine v_move rfl ?_
                  refine v_neq lay3 rfl rfl (fun h9 => ?_) (fun h9 => ?_)
                  · skip
                    exact absurd rfl h9
                  · skip
                    refine v_nil ?_
                    refine q_n ?_
                    refine w_f rfl ?_
                    refine w_skip ?_
                    refine q_n ?_
                    refine w_seq ?_
                    refine w_reg rfl ?_
                    refine v_move rfl ?_
                    refine v_call (c40 _ (by omega)) rfl rfl rfl (.cons vw_sl .nil) ?_
                    refine v_call (c41 _ (by omega) hb) rfl rfl rfl (.cons vw_sl .nil) ?_
                    refine v_move_t rfl ?_
                    refine v_extract_c rfl rfl ?_
                    refine v_extract_c rfl rfl ?_
                    refine v_assign rfl ?_
                    refine v_assign rfl ?_
                    refine v_nil ?_
                    refine q_n ?_
                    refine w_seq ?_
                    refine w_seq ?_
                    refine w_reg rfl ?_
                    refine v_move rfl ?_
                    refine v_move rfl ?_
                    refine v_callb (c25 _ _ (by omega)) rfl rfl (.cons vw_sl (.cons vw_sl .nil)) (fun h10 => ?_) (fun h10 => ?_)
                    · skip
                      refine v_not false rfl rfl ?_
                      refine v_move rfl ?_
                      refine v_guard_on rfl rfl ?_
                      refine v_move rfl ?_
                      refine v_guard_on rfl rfl ?_
                      refine v_move rfl ?_
                      refine v_guard_on rfl rfl ?_
                      refine v_neq lay2 rfl rfl (fun h11 => ?_) (fun h11 => ?_)
                      · skip
                        exact absurd rfl h11
                      · skip
                        refine v_pick_f rfl rfl ?_
                        refine v_nil ?_
                        refine q_n ?_
                        refine w_f rfl ?_
                        refine w_skip ?_
                        refine q_n ?_
                        refine w_seq ?_
                        refine w_reg rfl ?_
                        refine v_assign (c := .v (.int .i64 1)) rfl ?_
                        refine v_nil ?_
                        refine q_n ?_
                        refine w_seq ?_
                        refine w_reg rfl ?_
                        refine v_move rfl ?_
                        refine v_move rfl ?_
                        refine v_call (c38 _ _ (by omega) (by omega)) rfl rfl rfl (.cons (vw_mu2 te_sc te_len rfl (by first | (simp; done) | (simp; omega))) (.cons vw_v .nil)) ?_
                        refine v_assign rfl ?_
                        refine v_nil ?_
                        refine q_n ?_
                        refine w_seq ?_
                        refine w_seq ?_
                        refine w_reg rfl ?_
                        refine v_move rfl ?_
                        refine v_lss lay3 rfl rfl (fun h12 => ?_) (fun h12 => ?_)
                        · skip
                          exact absurd h12 (by omega)
                        · skip
                          refine v_nil ?_
                          refine q_n ?_
                          refine w_f rfl ?_
                          refine w_skip ?_
                          refine q_n ?_
                          refine w_seq ?_
                          refine w_seq ?_
                          refine w_reg rfl ?_
                          refine v_move rfl ?_
                          refine v_move rfl ?_
                          refine v_neq lay3 rfl rfl (fun h13 => ?_) (fun h13 => ?_)
                          · skip
                            exact absurd rfl h13
                          · skip
                            refine v_nil ?_
                            refine q_n ?_
                            refine w_f rfl ?_
                            refine w_skip ?_
                            refine q_n ?_
                            refine w_seq ?_
                            refine w_reg rfl ?_
                            refine v_assign (c := .v (.bool true)) rfl ?_
                            refine v_nil ?_
                            refine q_n ?_
                            refine w_ret ?_
                            refine r_r rfl ?_
                            exact tr_v
                    · skip
                      exact absurd rfl h10
            · skip
              exact absurd rfl h6
        · skip
          exact absurd rfl h4
    · skip
      exact absurd rfl h2
end Go.VL
namespace Go.VL
open Go.RowKit
set_option maxRecDepth 20000
set_option maxHeartbeats 4000000
/-- A packet's bytes behind so many tallies. -/
def pk (xs : List Tal) : Nat → List Int
  | 0 => [68, 84] ++ [IntKind.u8.wrap xs.length]
  | i + 1 => pk xs i ++ recB i (xs.getD i (0, 0, 0)).1 (xs.getD i (0, 0, 0)).2.1 (xs.getD i (0, 0, 0)).2.2
theorem pk_step {xs : List Tal} {i : Nat} (hi : i < xs.length) : pk xs (i + 1) = pk xs i ++ recB i xs[i].1 xs[i].2.1 xs[i].2.2 := by simp only [pk, getD_at hi]
theorem pk_len (xs : List Tal) : ∀ i, (pk xs i).length = 3 + 7 * i
  | 0 => rfl
  | i + 1 => by rw [pk, List.length_append, pk_len xs i]; simp [recB, sx]; omega
noncomputable def pkR (xs : List Tal) : List Int × Int := if okL xs then (pk xs xs.length ++ [(ck (pk xs xs.length)).2], 0) else ([], 1)
theorem pkR_0 {xs : List Tal} (h : okL xs) : pkR xs = (pk xs xs.length ++ [(ck (pk xs xs.length)).2], 0) := by unfold pkR; rw [if_pos h]
theorem pkR_1 {xs : List Tal} (h : ¬ okL xs) : pkR xs = ([], 1) := by unfold pkR; rw [if_neg h]
theorem pkR_len (xs : List Tal) : (pkR xs).1.length ≤ 4 + 7 * xs.length := by
  unfold pkR
  split
  · have := pk_len xs xs.length
    simp; omega
  · simp
theorem b8_recB (i t c f : Int) : B8 (recB i t c f) := fun x hx => by
  have hk := (ck_in (b8_rec i t c f)).2
  unfold recB at hx
  rcases List.mem_append.1 hx with h | h
  · exact b8_rec i t c f x (List.mem_append_right _ h)
  · simp only [List.mem_singleton] at h
    subst h
    omega
theorem pk_b8 (xs : List Tal) : ∀ i, B8 (pk xs i)
  | 0 => fun x hx => by
    simp only [pk, List.mem_append, List.mem_cons, List.not_mem_nil, or_false] at hx
    rcases hx with (rfl | rfl) | rfl
    · omega
    · omega
    · exact w8_in _
  | i + 1 => fun x hx => by
    rcases List.mem_append.1 (by simpa only [pk] using hx) with h | h
    · exact pk_b8 xs i x h
    · exact b8_recB _ _ _ _ x h
theorem c75t (xs : List Tal) (i : Nat) (hi : i < xs.length) (hb : T16 xs) : PureC X 75 [cI i, .agg (te xs[i])] (.c (bys true (recB i xs[i].1 xs[i].2.1 xs[i].2.2))) :=
  c75 i _ _ _ (hb _ (List.getElem_mem hi)).1 (hb _ (List.getElem_mem hi)).2
theorem c30l (xs : List Tal) (hx : xs.length ≤ 2 ^ 30) (hb : T16 xs) : LiveC X 30 [.c (tals false xs)] (.tup [.c (.mu 0 0 (pkR xs).1.length 1), cI (pkR xs).2]) [⟨flat be (pkR xs).1, 5, true⟩] := by
  refine LiveC.of_body (drawD_ok X) (fun _ _ => Go.Proofs.Try.call30 _ _) Go.Proofs.Try.func30 rfl (n := 35) rfl ?_
  refine w_seq ?_
  refine w_reg rfl ?_
  refine v_assign rfl ?_
  refine v_assign (c := .v (.int .i64 0)) rfl ?_
  refine v_nil ?_
  refine q_n ?_
  refine w_seq ?_
  refine w_seq ?_
  refine w_reg rfl ?_
  refine v_move rfl ?_
  refine v_callb (c58 _ (by omega) (by assumption)) rfl rfl (.cons vw_sl .nil) (fun h1 => ?_) (fun h1 => ?_)
  · skip
    refine v_not false rfl rfl ?_
    refine v_nil ?_
    refine q_n ?_
    refine w_f rfl ?_
    refine w_skip ?_
    refine q_n ?_
    refine w_seq ?_
    refine w_reg rfl ?_
    refine v_lit (flat be [_, _]) (H' := [_]) lay47 lay5 rfl rfl ⟨by decide, by decide⟩ rfl rfl ?_
    refine v_conv_same rfl lay47 lay5 rfl rfl (by decide) rfl ?_
    refine v_move rfl ?_
    refine v_len_sl lay40 rfl ?_
    refine v_conv_iw lay3 lay5 rfl ?_
    refine v_lit (flat be [_]) (H' := [_, _]) lay47 lay5 rfl rfl ⟨by decide, by decide⟩ rfl rfl ?_
    refine v_app_flat (H' := [_, _, _]) be_sc be_len lay47 lay5 rfl rfl (by simp) rfl rfl (by simp) rfl rfl (by first | (simp [maxLen]; done) | (have hpl := pk_len xs i; simp [maxLen, recB, sx]; omega)) rfl rfl ?_
    refine v_assign rfl ?_
    refine v_nil ?_
    refine q_n ?_
    refine w_seq ?_
    refine w_seq ?_
    refine w_reg rfl ?_
    refine v_move rfl ?_
    refine v_len_sl lay40 rfl ?_
    refine v_move (c := .v (.int .i64 0)) rfl ?_
    refine v_nil ?_
    refine q_n ?_
    refine w_block ?_
    refine w_loop (fun k sl H => ∃ i : Nat, k = xs.length - i ∧ i ≤ xs.length ∧ sl = sls [(0, .c (tals false xs)), (4, .c (.mu 0 0 (pk xs i).length 1)), (17, .c (tals false xs)), (18, cI xs.length), (19, cI i)] ∧ H = [⟨flat be (pk xs i), 5, true⟩]) ?_ ?_
    · refine ⟨_, _, _, ?_, 0, rfl, Nat.zero_le _, rfl, rfl⟩
      exact turn [some 2] rfl rfl rfl ⟨⟨_, rfl, trc_flat be_sc rfl⟩, trivial⟩ ⟨tr_sl, tr_mun rfl rfl, tr_sl, tr_v, tr_v, trivial⟩
    · rintro k sl H ⟨i, rfl, hi, rfl, rfl⟩
      refine w_seq ?_
      refine w_reg rfl ?_
      refine v_lss lay3 rfl rfl (fun h2 => ?_) (fun h2 => ?_)
      · skip
        refine v_nil ?_
        refine q_n ?_
        refine w_seq ?_
        refine w_t rfl ?_
        refine w_skip ?_
        refine q_n ?_
        refine w_seq ?_
        refine w_block ?_
        refine w_seq ?_
        refine w_reg rfl ?_
        refine v_move rfl ?_
        refine v_idx (k := 3) te_len lay40 lay27 rfl rfl rfl (rfl) rfl (by omega) (fun q3 hq3 e3 => ?_)
        obtain rfl : i = q3 := by omega
        refine v_load_vw (.agg [.v _, .v _, .v _]) lay27 rfl rfl rfl ?_
        refine v_alloc (m := 1) (H' := [_, ⟨[.v _, .v _, .v _], 27, true⟩]) lay27 rfl rfl ?_
        refine v_assign rfl ?_
        refine v_store (H' := [_, ⟨[_, _, _], 27, true⟩]) lay27 rfl rfl rfl rfl rfl rfl ?_
        refine v_nil ?_
        refine q_n ?_
        refine w_reg rfl ?_
        refine v_move rfl ?_
        refine v_move rfl ?_
        refine v_load_pt (.agg [_, _, _]) lay27 rfl rfl rfl rfl ?_
        refine v_call (c75t xs i hq3 hb) rfl rfl rfl (.cons vw_v (.cons (vw_agg (.cons vw_v (.cons vw_v (.cons vw_v .nil)))) .nil)) ?_
        refine v_app_flat_sl (H' := [_, _, _]) be_sc be_len lay47 lay5 rfl rfl (by simp) rfl rfl rfl (by first | (simp [maxLen]; done) | (have hpl := pk_len xs i; simp [maxLen, recB, sx]; omega)) rfl rfl ?_
        refine v_assign rfl ?_
        refine v_nil ?_
        refine q_bn ?_
        refine q_n ?_
        refine w_reg rfl ?_
        refine v_add lay3 rfl rfl (i64r (by omega)) ?_
        refine v_move rfl ?_
        refine v_nil ?_
        refine q_n ?_
        refine ⟨_, _, _, ?_, ⟨i + 1, rfl, by omega, rfl, rfl⟩, by omega⟩
        exact turn [some 2] rfl rfl rfl ⟨⟨_, rfl, trc_flat be_sc (congrArg (flat be) (pk_step hq3).symm)⟩, trivial⟩ ⟨tr_sl, tr_mun rfl (by rw [pk_step hq3]; simp), tr_sl, tr_v, tr_v, trivial⟩
      · skip
        refine v_nil ?_
        refine q_n ?_
        refine w_seq ?_
        refine w_f rfl ?_
        refine w_exit ?_
        refine q_e ?_
        refine q_e ?_
        refine q_hit ?_
        refine q_n ?_
        refine w_seq ?_
        refine w_reg rfl ?_
        refine v_move rfl ?_
        refine v_move rfl ?_
        refine v_call (c76n _ (pk xs i) (by simp) (by have := pk_len xs i; omega) (pk_b8 xs i)) rfl rfl rfl (.cons (vw_mu2 be_sc be_len rfl (by first | (simp; done) | (simp; omega))) .nil) ?_
        refine v_lit (flat be [_]) (H' := [_, _]) lay47 lay5 rfl rfl ⟨by decide, by decide⟩ rfl rfl ?_
        refine v_app_flat (H' := [_, _, _]) be_sc be_len lay47 lay5 rfl rfl (by simp) rfl rfl (by simp) rfl rfl (by first | (simp [maxLen]; done) | (have hpl := pk_len xs i; simp [maxLen, recB, sx]; omega)) rfl rfl ?_
        refine v_assign rfl ?_
        refine v_assign (c := .v (.int .i64 0)) rfl ?_
        refine v_nil ?_
        refine q_n ?_
        refine w_ret ?_
        refine r_r rfl ?_
        obtain rfl : i = xs.length := by omega
        rw [pkR_0 h1]
        exact l_ans [some 2] rfl rfl ⟨⟨_, rfl, trc_flat be_sc rfl⟩, trivial⟩ (a_tup (.cons (tr_mun rfl (by simp)) (.cons tr_v .nil)))
  · skip
    refine v_not true rfl rfl ?_
    refine v_nil ?_
    refine q_n ?_
    refine w_t rfl ?_
    refine w_seq ?_
    refine w_reg rfl ?_
    refine v_assign rfl ?_
    refine v_assign (c := .v (.int .i64 1)) rfl ?_
    refine v_nil ?_
    refine q_n ?_
    refine w_ret (q_r ?_)
    refine r_r rfl ?_
    rw [pkR_1 h1]
    exact l_ans [none] rfl rfl ⟨rfl, trivial⟩ (a_tup (.cons (tr_nil rfl) (.cons tr_v .nil)))

theorem c30 (xs : List Tal) (hx : xs.length ≤ 2 ^ 30) (hb : T16 xs) : PureC X 30 [.c (tals false xs)] (.tup [.c (bys true (pkR xs).1), cI (pkR xs).2]) :=
  (c30l xs hx hb).pure (a_tup (.cons (a_flat be_sc be_len rfl rfl) (.cons tr_v .nil)))

theorem c74 (xs : List Tal) (hx : xs.length ≤ 2 ^ 30) (hb : T16 xs) (hok : okL xs) : PureC X 74 [.c (tals false xs)] (.c (bys true (pk xs xs.length ++ [(ck (pk xs xs.length)).2]))) := by
  refine PureC.of_body (drawD_ok X) (fun _ _ => Go.Proofs.Try.call74 _ _) Go.Proofs.Try.func74 rfl (n := 37) rfl ?_
  refine w_seq ?_
  refine w_reg rfl ?_
  refine v_assign rfl ?_
  refine v_nil ?_
  refine q_n ?_
  refine w_seq ?_
  refine w_reg rfl ?_
  refine v_move rfl ?_
  refine v_len_sl lay40 rfl ?_
  refine v_conv_iw lay3 lay5 rfl ?_
  refine v_lit (flat be [_, _, _]) (H' := [_]) lay47 lay5 rfl rfl ⟨by decide, by decide⟩ rfl rfl ?_
  refine v_assign rfl ?_
  refine v_nil ?_
  refine q_n ?_
  refine w_seq ?_
  refine w_seq ?_
  refine w_reg rfl ?_
  refine v_assign (c := .v (.int .i64 0)) rfl ?_
  refine v_nil ?_
  refine q_n ?_
  refine w_block ?_
  refine w_loop (fun k sl H => ∃ i : Nat, k = xs.length - i ∧ i ≤ xs.length ∧ sl = sls [(0, .c (tals false xs)), (3, .c (.mu 0 0 (pk xs i).length 1)), (4, cI i)] ∧ H = [⟨flat be (pk xs i), 5, true⟩]) ?_ ?_
  · refine ⟨_, _, _, ?_, 0, rfl, Nat.zero_le _, rfl, rfl⟩
    exact turn [some 0] rfl rfl rfl ⟨⟨_, rfl, trc_flat be_sc rfl⟩, trivial⟩ ⟨tr_sl, tr_mun rfl rfl, tr_v, trivial⟩
  · rintro k sl H ⟨i, rfl, hi, rfl, rfl⟩
    refine w_seq ?_
    refine w_seq ?_
    refine w_reg rfl ?_
    refine v_move rfl ?_
    refine v_move rfl ?_
    refine v_len_sl lay40 rfl ?_
    refine v_lss lay3 rfl rfl (fun h1 => ?_) (fun h1 => ?_)
    · skip
      refine v_nil ?_
      refine q_n ?_
      refine w_t rfl ?_
      refine w_skip ?_
      refine q_n ?_
      refine w_seq ?_
      refine w_block ?_
      refine w_seq ?_
      refine w_reg rfl ?_
      refine v_move rfl ?_
      refine v_move rfl ?_
      refine v_idx (k := 3) te_len lay40 lay27 rfl rfl rfl (rfl) rfl (by omega) (fun q2 hq2 e2 => ?_)
      obtain rfl : i = q2 := by omega
      refine v_call (c106 _ _ _ (turnT hok hq2) ⟨(hok.2 i hq2).2.1, (hb _ (List.getElem_mem hq2)).1.2⟩ ⟨(hok.2 i hq2).2.2.1, (hb _ (List.getElem_mem hq2)).2.2⟩) rfl rfl rfl (.cons vw_vw .nil) ?_
      refine v_assign rfl ?_
      refine v_nil ?_
      refine q_n ?_
      refine w_seq ?_
      refine w_reg rfl ?_
      refine v_move rfl ?_
      refine v_move rfl ?_
      refine v_app_flat_sl (H' := [_, _]) be_sc be_len lay47 lay5 rfl rfl (by simp) rfl rfl rfl (by first | (simp [maxLen, sx]; done) | (have hpl := pk_len xs i; simp [maxLen, sx]; omega)) rfl rfl ?_
      refine v_assign rfl ?_
      refine v_nil ?_
      refine q_n ?_
      refine w_reg rfl ?_
      refine v_move rfl ?_
      refine v_move rfl ?_
      refine v_conv_iw lay3 lay5 rfl ?_
      refine v_lit (flat be [_]) (H' := [_, _, _]) lay47 lay5 rfl rfl ⟨by decide, by decide⟩ rfl rfl ?_
      refine v_move rfl ?_
      refine v_app_flat_sl (H' := [_, _, _, _]) be_sc be_len lay47 lay5 rfl rfl (by simp) rfl rfl rfl (by first | (simp [maxLen, sx]; done) | (have hpl := pk_len xs i; simp [maxLen, sx]; omega)) rfl rfl ?_
      refine v_call (c91n _ ([IntKind.u8.wrap i] ++ [sx xs[i].1, sx xs[i].2.1, sx xs[i].2.2].flatten) (by simp [sx]) (by simp [sx]) (b8_rec _ _ _ _)) rfl rfl rfl (.cons (vw_mu2 be_sc be_len rfl (by first | (simp; done) | (simp; omega))) .nil) ?_
      refine v_lit (flat be [_]) (H' := [_, _, _, _, _]) lay47 lay5 rfl rfl ⟨by decide, by decide⟩ rfl rfl ?_
      refine v_app_flat (H' := [_, _, _, _, _, _]) be_sc be_len lay47 lay5 rfl rfl (by simp) rfl rfl (by simp) rfl rfl (by first | (simp [maxLen, sx]; done) | (have hpl := pk_len xs i; simp [maxLen, sx]; omega)) rfl rfl ?_
      refine v_assign rfl ?_
      refine v_nil ?_
      refine q_bn ?_
      refine q_n ?_
      refine w_reg rfl ?_
      refine v_move rfl ?_
      refine v_add lay3 rfl rfl (i64r (by omega)) ?_
      refine v_assign rfl ?_
      refine v_nil ?_
      refine q_n ?_
      refine ⟨_, _, _, ?_, ⟨i + 1, rfl, by omega, rfl, rfl⟩, by omega⟩
      exact turn [some 5] rfl rfl rfl ⟨⟨_, rfl, trc_flat be_sc (congrArg (flat be) (by rw [pk_step hq2, List.append_assoc]; rfl))⟩, trivial⟩ ⟨tr_sl, tr_mun rfl (by rw [pk_step hq2]; simp [recB]; omega), tr_v, trivial⟩
    · skip
      refine v_nil ?_
      refine q_n ?_
      refine w_f rfl ?_
      refine w_exit ?_
      refine q_e ?_
      refine q_e ?_
      refine q_hit ?_
      refine q_n ?_
      refine w_seq ?_
      refine w_reg rfl ?_
      refine v_move rfl ?_
      refine v_move rfl ?_
      refine v_call (c91n _ (pk xs i) (by simp) (by have := pk_len xs i; omega) (pk_b8 xs i)) rfl rfl rfl (.cons (vw_mu2 be_sc be_len rfl (by first | (simp; done) | (simp; omega))) .nil) ?_
      refine v_lit (flat be [_]) (H' := [_, _]) lay47 lay5 rfl rfl ⟨by decide, by decide⟩ rfl rfl ?_
      refine v_app_flat (H' := [_, _, _]) be_sc be_len lay47 lay5 rfl rfl (by simp) rfl rfl (by simp) rfl rfl (by first | (simp [maxLen, sx]; done) | (have hpl := pk_len xs i; simp [maxLen, sx]; omega)) rfl rfl ?_
      refine v_assign rfl ?_
      refine v_nil ?_
      refine q_n ?_
      refine w_ret ?_
      refine r_r rfl ?_
      obtain rfl : i = xs.length := by omega
      exact a_flat2 be_sc be_len rfl rfl (by simp) (by simp)

theorem c29 (xs : List Tal) (hx : xs.length ≤ 2 ^ 30) (hb : T16 xs) : PureC X 29 [.c (tals false xs)] (.tup [.c (bys true (pkR xs).1), cI (pkR xs).2]) := by
  refine PureC.of_body (drawD_ok X) (fun _ _ => Go.Proofs.Try.call29 _ _) Go.Proofs.Try.func29 rfl (n := 10) rfl ?_
  refine w_seq ?_
  refine w_reg rfl ?_
  refine v_assign rfl ?_
  refine v_assign (c := .v (.int .i64 0)) rfl ?_
  refine v_nil ?_
  refine q_n ?_
  refine w_seq ?_
  refine w_seq ?_
  refine w_reg rfl ?_
  refine v_move rfl ?_
  refine v_callb (c70 _ (by omega)) rfl rfl (.cons vw_sl .nil) (fun h1 => ?_) (fun h1 => ?_)
  · skip
    refine v_not false rfl rfl ?_
    refine v_nil ?_
    refine q_n ?_
    refine w_f rfl ?_
    refine w_skip ?_
    refine q_n ?_
    refine w_seq ?_
    refine w_reg rfl ?_
    refine v_move rfl ?_
    refine v_call (c74 _ (by omega) (by assumption) h1) rfl rfl rfl (.cons vw_sl .nil) ?_
    refine v_assign rfl ?_
    refine v_assign (c := .v (.int .i64 0)) rfl ?_
    refine v_nil ?_
    refine q_n ?_
    refine w_ret ?_
    refine r_r rfl ?_
    rw [pkR_0 h1]
    exact a_tup (.cons tr_sl (.cons tr_v .nil))
  · skip
    refine v_not true rfl rfl ?_
    refine v_nil ?_
    refine q_n ?_
    refine w_t rfl ?_
    refine w_seq ?_
    refine w_reg rfl ?_
    refine v_lit (flat be []) (H' := [_]) lay47 lay5 rfl rfl ⟨by decide, by decide⟩ rfl rfl ?_
    refine v_assign rfl ?_
    refine v_assign (c := .v (.int .i64 1)) rfl ?_
    refine v_nil ?_
    refine q_n ?_
    refine w_ret (q_r ?_)
    refine r_r rfl ?_
    rw [pkR_1 h1]
    exact a_tup (.cons (a_flat2 be_sc be_len rfl rfl rfl rfl) (.cons tr_v .nil))

theorem c5 (xs : List Tal) (hx : xs.length ≤ maxLen) (hb : T16 xs) : PureC X 5 [.c (tals false xs)] (cB true) := by
  refine PureC.of_body (drawD_ok X) (fun _ _ => Go.Proofs.Try.call5 _ _) Go.Proofs.Try.func5 rfl (n := 96) rfl ?_
  refine w_seq ?_
  refine w_reg rfl ?_
  refine v_assign (c := .v (.bool false)) rfl ?_
  refine v_nil ?_
  refine q_n ?_
  refine w_seq ?_
  refine w_reg rfl ?_
  refine v_assign (c := .v (.int .i64 1048576)) rfl ?_
  refine v_nil ?_
  refine q_n ?_
  refine w_seq ?_
  refine w_reg rfl ?_
  refine v_move rfl ?_
  refine v_move rfl ?_
  refine v_call (c20 _ _ (by omega) (by assumption)) rfl rfl rfl (.cons vw_sl (.cons vw_v .nil)) ?_
  refine v_assign rfl ?_
  refine v_nil ?_
  refine q_n ?_
  refine w_seq ?_
  refine w_seq ?_
  refine w_reg rfl ?_
  refine v_move rfl ?_
  refine v_lss lay3 rfl rfl (fun h1 => ?_) (fun h1 => ?_)
  · skip
    refine v_nil ?_
    refine q_n ?_
    refine w_t rfl ?_
    refine w_seq ?_
    refine w_reg rfl ?_
    refine v_assign (c := .v (.bool true)) rfl ?_
    refine v_nil ?_
    refine q_n ?_
    refine w_ret (q_r ?_)
    refine r_r rfl ?_
    exact tr_v
  · skip
    have hs1 := szr_in h1
    have hln := pkR_len xs
    refine v_nil ?_
    refine q_n ?_
    refine w_f rfl ?_
    refine w_skip ?_
    refine q_n ?_
    refine w_seq ?_
    refine w_reg rfl ?_
    refine v_move rfl ?_
    refine v_call (c22 _ (by omega)) rfl rfl rfl (.cons vw_sl .nil) ?_
    refine v_call (c29 _ (by omega) (by assumption)) rfl rfl rfl (.cons vw_sl .nil) ?_
    refine v_move_t rfl ?_
    refine v_extract_c rfl rfl ?_
    refine v_extract_c rfl rfl ?_
    refine v_assign rfl ?_
    refine v_assign rfl ?_
    refine v_nil ?_
    refine q_n ?_
    refine w_seq ?_
    refine w_reg rfl ?_
    refine v_move rfl ?_
    refine v_live1 (N := 0) (H' := [_]) (c22l _ (by omega)) (sc_flat te_sc _) rfl rfl rfl rfl rfl rfl (.cons vw_sl .nil) ?_
    refine v_assign rfl ?_
    refine v_nil ?_
    refine q_n ?_
    refine w_seq ?_
    refine w_reg rfl ?_
    refine v_move rfl ?_
    refine v_live1 (N := 1) (H' := [_, _]) (c30l _ (by omega) (by assumption)) (sc_flat be_sc _) rfl rfl rfl rfl rfl rfl (.cons (vw_mu2 te_sc te_len rfl (by first | (simp; done) | (simp; omega))) .nil) ?_
    refine v_move_t rfl ?_
    refine v_extract_c rfl rfl ?_
    refine v_extract_c rfl rfl ?_
    refine v_assign rfl ?_
    refine v_assign rfl ?_
    refine v_nil ?_
    refine q_n ?_
    refine w_seq ?_
    refine w_seq ?_
    refine w_reg rfl ?_
    refine v_move rfl ?_
    refine v_move rfl ?_
    refine v_callb (c31 _ _ (by omega)) rfl rfl (.cons (vw_mu2 be_sc be_len rfl (by first | (simp; done) | (simp; omega))) (.cons vw_sl .nil)) (fun h2 => ?_) (fun h2 => ?_)
    · skip
      refine v_not false rfl rfl ?_
      refine v_move rfl ?_
      refine v_guard_on rfl rfl ?_
      refine v_move rfl ?_
      refine v_guard_on rfl rfl ?_
      refine v_move rfl ?_
      refine v_guard_on rfl rfl ?_
      refine v_neq lay2 rfl rfl (fun h3 => ?_) (fun h3 => ?_)
      · skip
        exact absurd rfl h3
      · skip
        refine v_pick_f rfl rfl ?_
        refine v_nil ?_
        refine q_n ?_
        refine w_f rfl ?_
        refine w_skip ?_
        refine q_n ?_
        refine w_seq ?_
        refine w_seq ?_
        refine w_reg rfl ?_
        refine v_move rfl ?_
        refine v_move rfl ?_
        refine v_call (c22 _ (by omega)) rfl rfl rfl (.cons vw_sl .nil) ?_
        refine v_callb (c25 _ _ (by omega)) rfl rfl (.cons (vw_mu2 te_sc te_len rfl (by first | (simp; done) | (simp; omega))) (.cons vw_sl .nil)) (fun h4 => ?_) (fun h4 => ?_)
        · skip
          refine v_not false rfl rfl ?_
          refine v_nil ?_
          refine q_n ?_
          refine w_f rfl ?_
          refine w_skip ?_
          refine q_n ?_
          refine w_seq ?_
          refine w_reg rfl ?_
          refine v_assign (c := .v (.int .i64 1)) rfl ?_
          refine v_nil ?_
          refine q_n ?_
          refine w_seq ?_
          refine w_reg rfl ?_
          refine v_move rfl ?_
          refine v_move rfl ?_
          refine v_mark (H' := [_, _]) (c26 _ _ (by omega) (by omega)) rfl (sc_flat te_sc _) (sc_flat te_sc _) rfl rfl rfl rfl ?_
          refine v_assign rfl ?_
          refine v_nil ?_
          refine q_n ?_
          refine w_seq ?_
          refine w_seq ?_
          refine w_reg rfl ?_
          refine v_move rfl ?_
          refine v_lss lay3 rfl rfl (fun h5 => ?_) (fun h5 => ?_)
          · skip
            exact absurd h5 (by omega)
          · skip
            refine v_move rfl ?_
            refine v_guard_on rfl rfl ?_
            refine v_move rfl ?_
            refine v_guard_on rfl rfl ?_
            refine v_move rfl ?_
            refine v_guard_on rfl rfl ?_
            refine v_callb (c31 _ _ (by omega)) rfl rfl (.cons (vw_mu2 be_sc be_len rfl (by first | (simp; done) | (simp; omega))) (.cons vw_sl .nil)) (fun h6 => ?_) (fun h6 => ?_)
            · skip
              refine v_guard_on rfl rfl ?_
              refine v_not false rfl rfl ?_
              refine v_pick_f rfl rfl ?_
              refine v_move rfl ?_
              refine v_guard_on rfl rfl ?_
              refine v_move rfl ?_
              refine v_guard_on rfl rfl ?_
              refine v_move rfl ?_
              refine v_guard_on rfl rfl ?_
              refine v_neq lay2 rfl rfl (fun h7 => ?_) (fun h7 => ?_)
              · skip
                exact absurd rfl h7
              · skip
                refine v_pick_f rfl rfl ?_
                refine v_nil ?_
                refine q_n ?_
                refine w_f rfl ?_
                refine w_skip ?_
                refine q_n ?_
                refine w_seq ?_
                refine w_reg rfl ?_
                refine v_assign (c := .v (.int .i64 1)) rfl ?_
                refine v_nil ?_
                refine q_n ?_
                refine w_seq ?_
                refine w_reg rfl ?_
                refine v_move rfl ?_
                refine v_move rfl ?_
                refine v_mark (H' := [_, _]) (c32 _ _ (by omega) (by omega)) rfl (sc_flat be_sc _) (sc_flat be_sc _) rfl rfl rfl rfl ?_
                refine v_assign rfl ?_
                refine v_nil ?_
                refine q_n ?_
                refine w_seq ?_
                refine w_reg rfl ?_
                refine v_assign (c := .v (.int .i64 1)) rfl ?_
                refine v_nil ?_
                refine q_n ?_
                refine w_seq ?_
                refine w_reg rfl ?_
                refine v_move rfl ?_
                refine v_move rfl ?_
                refine v_call (c33 _ _ (by omega) (by omega)) rfl rfl rfl (.cons (vw_mu2 be_sc be_len rfl (by first | (simp; done) | (simp; omega))) (.cons vw_v .nil)) ?_
                refine v_assign rfl ?_
                refine v_nil ?_
                refine q_n ?_
                refine w_seq ?_
                refine w_seq ?_
                refine w_reg rfl ?_
                refine v_move rfl ?_
                refine v_lss lay3 rfl rfl (fun h8 => ?_) (fun h8 => ?_)
                · skip
                  exact absurd h8 (by omega)
                · skip
                  refine v_nil ?_
                  refine q_n ?_
                  refine w_f rfl ?_
                  refine w_skip ?_
                  refine q_n ?_
                  refine w_seq ?_
                  refine w_seq ?_
                  refine w_reg rfl ?_
                  refine v_move rfl ?_
                  refine v_move rfl ?_
                  refine v_neq lay3 rfl rfl (fun h9 => ?_) (fun h9 => ?_)
                  · skip
                    exact absurd rfl h9
                  · skip
                    refine v_nil ?_
                    refine q_n ?_
                    refine w_f rfl ?_
                    refine w_skip ?_
                    refine q_n ?_
                    refine w_seq ?_
                    refine w_reg rfl ?_
                    refine v_move rfl ?_
                    refine v_call (c22 _ (by omega)) rfl rfl rfl (.cons vw_sl .nil) ?_
                    refine v_call (c30 _ (by omega) (by assumption)) rfl rfl rfl (.cons vw_sl .nil) ?_
                    refine v_move_t rfl ?_
                    refine v_extract_c rfl rfl ?_
                    refine v_extract_c rfl rfl ?_
                    refine v_assign rfl ?_
                    refine v_assign rfl ?_
                    refine v_nil ?_
                    refine q_n ?_
                    refine w_seq ?_
                    refine w_seq ?_
                    refine w_reg rfl ?_
                    refine v_move rfl ?_
                    refine v_move rfl ?_
                    refine v_callb (c31 _ _ (by omega)) rfl rfl (.cons vw_sl (.cons vw_sl .nil)) (fun h10 => ?_) (fun h10 => ?_)
                    · skip
                      refine v_not false rfl rfl ?_
                      refine v_move rfl ?_
                      refine v_guard_on rfl rfl ?_
                      refine v_move rfl ?_
                      refine v_guard_on rfl rfl ?_
                      refine v_move rfl ?_
                      refine v_guard_on rfl rfl ?_
                      refine v_neq lay2 rfl rfl (fun h11 => ?_) (fun h11 => ?_)
                      · skip
                        exact absurd rfl h11
                      · skip
                        refine v_pick_f rfl rfl ?_
                        refine v_nil ?_
                        refine q_n ?_
                        refine w_f rfl ?_
                        refine w_skip ?_
                        refine q_n ?_
                        refine w_seq ?_
                        refine w_reg rfl ?_
                        refine v_assign (c := .v (.int .i64 1)) rfl ?_
                        refine v_nil ?_
                        refine q_n ?_
                        refine w_seq ?_
                        refine w_reg rfl ?_
                        refine v_move rfl ?_
                        refine v_move rfl ?_
                        refine v_call (c33 _ _ (by omega) (by omega)) rfl rfl rfl (.cons (vw_mu2 be_sc be_len rfl (by first | (simp; done) | (simp; omega))) (.cons vw_v .nil)) ?_
                        refine v_assign rfl ?_
                        refine v_nil ?_
                        refine q_n ?_
                        refine w_seq ?_
                        refine w_seq ?_
                        refine w_reg rfl ?_
                        refine v_move rfl ?_
                        refine v_lss lay3 rfl rfl (fun h12 => ?_) (fun h12 => ?_)
                        · skip
                          exact absurd h12 (by omega)
                        · skip
                          refine v_nil ?_
                          refine q_n ?_
                          refine w_f rfl ?_
                          refine w_skip ?_
                          refine q_n ?_
                          refine w_seq ?_
                          refine w_seq ?_
                          refine w_reg rfl ?_
                          refine v_move rfl ?_
                          refine v_move rfl ?_
                          refine v_neq lay3 rfl rfl (fun h13 => ?_) (fun h13 => ?_)
                          · skip
                            exact absurd rfl h13
                          · skip
                            refine v_nil ?_
                            refine q_n ?_
                            refine w_f rfl ?_
                            refine w_skip ?_
                            refine q_n ?_
                            refine w_seq ?_
                            refine w_reg rfl ?_
                            refine v_assign (c := .v (.bool true)) rfl ?_
                            refine v_nil ?_
                            refine q_n ?_
                            refine w_ret ?_
                            refine r_r rfl ?_
                            exact tr_v
                    · skip
                      exact absurd rfl h10
            · skip
              exact absurd rfl h6
        · skip
          exact absurd rfl h4
    · skip
      exact absurd rfl h2
end Go.VL
namespace Go.VL
open Go.RowKit
set_option maxRecDepth 20000
set_option maxHeartbeats 8000000
theorem gD_ {α : Type} {xs : List α} {i : Nat} {x : α} (h : i < xs.length) : xs.getD i x = xs[i] := by simp [h]
theorem set_same {α : Type} {H : List α} {id : Nat} {o : α} (h : H[id]? = some o) : H.set id o = H := by
  have hlt := (List.getElem?_eq_some_iff.1 h).1
  rw [List.getElem?_eq_getElem hlt] at h
  rw [← Option.some.inj h, List.set_getElem_self]
/-! Sources of draws -/
/-- Choices from bytes: the bytes, where it stands, and the sequence. -/
abbrev srcT (t : TypeId) (code : List Int) (a s : Int) : Ob := ⟨[.sl false code.length 1 (flat be code), .v (.int .i64 a), .v (.int .u64 s)], t, true⟩
def sd (s b : Int) : Int := IntKind.u64.wrap (IntKind.u64.wrap (IntKind.u64.wrap (s * 6364136223846793005) + b) + 1442695040888963407)
def nxS (code : List Int) (a s : Int) : Int := sd s (code.getD a.toNat 0)
def nxR (code : List Int) (a s : Int) : Int := if a.toNat < code.length then code.getD a.toNat 0 else bits .and .u64 ((nxS code a s).fdiv (2 ^ min (40 : Int).toNat IntKind.u64.bits)) 255
theorem nxR_in {code : List Int} {a : Nat} {s : Int} (h : a < code.length) : code[a] = nxR code a s := by
  unfold nxR
  rw [Int.toNat_natCast, if_pos h, gD_ h]
theorem nxS_in {code : List Int} {a : Nat} {s : Int} (h : a < code.length) : sd s code[a] = nxS code a s := by
  unfold nxS
  rw [Int.toNat_natCast, gD_ h]
theorem nxS_out {code : List Int} {a : Nat} {s : Int} (h : ¬ a < code.length) : sd s 0 = nxS code a s := by
  unfold nxS
  rw [Int.toNat_natCast, List.getD_eq_getElem?_getD, List.getElem?_eq_none (by omega)]
  rfl
theorem nxR_out {code : List Int} {a : Nat} {s : Int} (h : ¬ a < code.length) : bits .and .u64 ((sd s 0).fdiv (2 ^ min (40 : Int).toNat IntKind.u64.bits)) 255 = nxR code a s := by
  unfold nxR
  rw [Int.toNat_natCast, if_neg h, nxS_out h]
theorem nxR_rng {code : List Int} {a s : Int} (hc : ∀ b ∈ code, 0 ≤ b ∧ b ≤ 255) : 0 ≤ nxR code a s ∧ nxR code a s ≤ 255 := by
  unfold nxR
  split
  · rename_i h
    rw [gD_ h]
    exact hc _ (List.getElem_mem h)
  · exact and_le (k := 8) (by decide) (by decide)
/-- A number, picked below n: where more than two hundred, from two bytes. -/
def dpR (code : List Int) (n a s : Int) : Int := if n ≤ 1 then 0 else if n ≤ 200 then (nxR code a s).tmod n else (nxR code a s * 256 + nxR code (a + 1) (nxS code a s)).tmod n
def dpA (n a : Int) : Int := if n ≤ 1 then a else if n ≤ 200 then a + 1 else a + 1 + 1
def dpS (code : List Int) (n a s : Int) : Int := if n ≤ 1 then s else if n ≤ 200 then nxS code a s else nxS code (a + 1) (nxS code a s)
theorem dp_rng {code : List Int} {n a s : Int} (hc : ∀ b ∈ code, 0 ≤ b ∧ b ≤ 255) : 0 ≤ dpR code n a s ∧ (1 < n → dpR code n a s < n) ∧ (n ≤ 1 → dpR code n a s = 0) ∧ a ≤ dpA n a ∧ dpA n a ≤ a + 2 := by
  have h := nxR_rng (code := code) (a := a) (s := s) hc
  have h2 := nxR_rng (code := code) (a := a + 1) (s := nxS code a s) hc
  unfold dpR dpA
  split
  · exact ⟨by omega, fun h => by omega, fun _ => rfl, by omega, by omega⟩
  · split
    · refine ⟨Int.tmod_nonneg _ h.1, fun _ => Int.tmod_lt_of_pos _ (by omega), fun h => by omega, by omega, by omega⟩
    · refine ⟨Int.tmod_nonneg _ (by omega), fun _ => Int.tmod_lt_of_pos _ (by omega), fun h => by omega, by omega, by omega⟩
theorem dp_if1 {t : TypeId} {code : List Int} {n a s : Int} (h : n ≤ 1) : 0 = dpR code n a s ∧ srcT t code a s = srcT t code (dpA n a) (dpS code n a s) := by unfold dpR dpA dpS; rw [if_pos h, if_pos h, if_pos h]; exact ⟨rfl, rfl⟩
theorem dp_if2 {t : TypeId} {code : List Int} {n a s : Int} (h : ¬ n ≤ 1) (h2 : n ≤ 200) : (nxR code a s).tmod n = dpR code n a s ∧ srcT t code (a + 1) (nxS code a s) = srcT t code (dpA n a) (dpS code n a s) := by unfold dpR dpA dpS; rw [if_neg h, if_neg h, if_neg h, if_pos h2, if_pos h2, if_pos h2]; exact ⟨rfl, rfl⟩
theorem dp_if3 {t : TypeId} {code : List Int} {n a s : Int} (h : ¬ n ≤ 1) (h2 : ¬ n ≤ 200) : (nxR code a s * 256 + nxR code (a + 1) (nxS code a s)).tmod n = dpR code n a s ∧ srcT t code (a + 1 + 1) (nxS code (a + 1) (nxS code a s)) = srcT t code (dpA n a) (dpS code n a s) := by
  unfold dpR dpA dpS; rw [if_neg h, if_neg h, if_neg h, if_neg h2, if_neg h2, if_neg h2]; exact ⟨rfl, rfl⟩
end Go.VL
