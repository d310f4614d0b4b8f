/- Walks: bytes, and their checks. -/
import Derived.Test.YtenaamehifbfeaaG1
import Derived.Test.YtenaamehifbfeaaV31
namespace Go.VL
open Go.RowKit
set_option maxRecDepth 20000
def be (x : Int) : List C := [.v (.int .u8 x)]
theorem be_len (x : Int) : (be x).length = 1 := rfl
theorem be_sc (x : Int) : (be x).all sc = true := rfl
abbrev bys (o : Bool) (xs : List Int) : C := .sl o xs.length 1 (flat be xs)
def ye (xs : List Int) : List C := [bys true xs]
theorem ye_len (xs : List Int) : (ye xs).length = 1 := rfl
/-- Bytes. -/
def B8 (xs : List Int) : Prop := ∀ x ∈ xs, 0 ≤ x ∧ x ≤ 255
theorem a_u8 {H : List Ob} {a b : Int} (h : a = b) : TrV H [] (.c (.v (.int .u8 a))) (.c (.v (.int .u8 b))) := by rw [h]; exact tr_v
def stp (s : Int × Int) (x : Int) : Int × Int := ((s.1 + x).tmod 251, (s.2 + (s.1 + x).tmod 251).tmod 251)
/-- The sums of the check. -/
def ck (xs : List Int) : Int × Int := xs.foldl stp (1, 1)
theorem tm_in {a : Int} (h : 0 ≤ a) : 0 ≤ a.tmod 251 ∧ a.tmod 251 ≤ 250 := by
  have h1 := Int.tmod_nonneg 251 h
  have h2 := Int.tmod_lt_of_pos a (show (0 : Int) < 251 by decide)
  omega
theorem ck_take {xs : List Int} {i : Nat} (hi : i < xs.length) : ck (xs.take (i + 1)) = stp (ck (xs.take i)) xs[i] := by
  unfold ck
  rw [List.take_succ_eq_append_getElem hi, List.foldl_append]; rfl
theorem fold_in : ∀ {xs : List Int} (h : B8 xs) {s : Int × Int}, 0 ≤ s.1 → s.1 ≤ 250 → 0 ≤ s.2 → s.2 ≤ 250 → (0 ≤ (xs.foldl stp s).1 ∧ (xs.foldl stp s).1 ≤ 250) ∧ 0 ≤ (xs.foldl stp s).2 ∧ (xs.foldl stp s).2 ≤ 250
  | [], _, s, h1, h2, h3, h4 => ⟨⟨h1, h2⟩, h3, h4⟩
  | x :: xs, h, s, h1, h2, h3, h4 => by
    have hx := h x (by simp)
    have t1 := tm_in (a := s.1 + x) (by omega)
    have t2 := tm_in (a := s.2 + (s.1 + x).tmod 251) (by omega)
    exact fold_in (xs := xs) (fun y hy => h y (by simp [hy])) (s := stp s x) t1.1 t1.2 t2.1 t2.2
theorem ck_in {xs : List Int} (h : B8 xs) : (0 ≤ (ck xs).1 ∧ (ck xs).1 ≤ 250) ∧ 0 ≤ (ck xs).2 ∧ (ck xs).2 ≤ 250 := fold_in h (by decide) (by decide) (by decide) (by decide)
/-- A number in two bytes. -/
def sx (n : Int) : List Int := [IntKind.u8.wrap n, IntKind.u8.wrap (n / 256)]
theorem shr8 {k : IntKind} {a : Int} (h : 8 ≤ k.bits := by decide) : a.fdiv (2 ^ min (8 : Int).toNat k.bits) = a / 256 := by
  rw [show min (8 : Int).toNat k.bits = 8 by simp; omega]
  exact Int.fdiv_eq_ediv_of_nonneg _ (by decide)
theorem c125b (n : Nat) (h0 : 0 < n) (hn : n ≤ 2 ^ 30) : LiveC X 125 [.c (.v (.slice none 0 0)), cI n] (.c (.mu 0 0 0 1)) [⟨flat be [], 5, true⟩] := c125 n h0 hn
theorem tk_snoc {xss : List (List Int)} {i : Nat} (hi : i < xss.length) : (xss.take (i + 1)).flatten = (xss.take i).flatten ++ xss[i] := by
  rw [List.take_succ_eq_append_getElem hi, List.flatten_append, List.flatten_cons, List.flatten_nil, List.append_nil]
theorem tk_len {xss : List (List Int)} {i : Nat} (hi : i < xss.length) : (xss.take i).flatten.length + xss[i].length ≤ xss.flatten.length := by
  have h1 : xss.flatten = (xss.take (i + 1)).flatten ++ (xss.drop (i + 1)).flatten := by rw [← List.flatten_append, List.take_append_drop]
  rw [h1, tk_snoc hi]
  simp
theorem w8_in (n : Int) : 0 ≤ IntKind.u8.wrap n ∧ IntKind.u8.wrap n ≤ 255 := by
  simp only [IntKind.wrap, IntKind.bits, IntKind.signed]
  simp
  omega
/-- The bytes of a tally, with their check. -/
def recB (i t c f : Int) : List Int := [sx t, sx c, sx f].flatten ++ [(ck ([IntKind.u8.wrap i] ++ [sx t, sx c, sx f].flatten)).2]
theorem b8_rec (i t c f : Int) : B8 ([IntKind.u8.wrap i] ++ [sx t, sx c, sx f].flatten) := fun x hx => by
  simp only [sx, List.flatten_cons, List.flatten_nil, List.append_nil, List.mem_append, List.mem_cons, List.not_mem_nil, or_false] at hx
  rcases hx with rfl | (rfl | rfl) | (rfl | rfl) | rfl | rfl <;> exact w8_in _
theorem sx_eq {n : Int} (h : 0 ≤ n ∧ n ≤ 65535) : [IntKind.u8.wrap (n.tmod 256), IntKind.u8.wrap (IntKind.i64.wrap (n.tdiv 256))] = sx n := by
  unfold sx
  rw [Int.tmod_eq_emod_of_nonneg h.1, Int.tdiv_eq_ediv_of_nonneg h.1, wrap_of (k := .i64) ⟨show (-9223372036854775808 : Int) ≤ _ by omega, show _ ≤ (9223372036854775807 : Int) by omega⟩]
  have : IntKind.u8.wrap (n % 256) = IntKind.u8.wrap n := by
    simp only [IntKind.wrap, IntKind.bits, IntKind.signed]
    simp
  rw [this]
theorem six_step {t c f : Int} {i : Nat} (ht : 0 ≤ t ∧ t ≤ 65535) (hc : 0 ≤ c ∧ c ≤ 32767) (hf : 0 ≤ f ∧ f ≤ 32767) (hi : i < [t, c, f].length) : ([t, c, f].take (i + 1)).flatMap sx = ([t, c, f].take i).flatMap sx ++ [IntKind.u8.wrap ([t, c, f][i].tmod 256), IntKind.u8.wrap (IntKind.i64.wrap ([t, c, f][i].tdiv 256))] := by
  have hx : 0 ≤ [t, c, f][i] ∧ [t, c, f][i] ≤ 65535 := by
    have hm : [t, c, f][i] ∈ [t, c, f] := List.getElem_mem hi
    generalize [t, c, f][i] = x at hm
    simp only [List.mem_cons, List.not_mem_nil, or_false] at hm
    rcases hm with rfl | rfl | rfl <;> omega
  rw [sx_eq hx, List.take_succ_eq_append_getElem hi, List.flatMap_append]
  simp
theorem six_le (t c f : Int) (i : Nat) : (([t, c, f].take i).flatMap sx).length ≤ 6 := by
  match i with
  | 0 => simp
  | 1 => simp [sx]
  | 2 => simp [sx]
  | i + 3 => simp [sx]
theorem c91 (xs : List Int) (hx : xs.length ≤ 2 ^ 40) (hb : B8 xs) : PureC X 91 [.c (bys false xs)] (.c (.v (.int .u8 (ck xs).2))) := by
  refine PureC.of_body (drawD_ok X) (fun _ _ => Go.Proofs.Try.call91 _ _) Go.Proofs.Try.func91 rfl (n := 26) rfl ?_
  refine w_seq ?_
  refine w_reg rfl ?_
  refine v_assign (c := .v (.int .u8 0)) rfl ?_
  refine v_nil ?_
  refine q_n ?_
  refine w_seq ?_
  refine w_reg rfl ?_
  refine v_assign (c := .v (.int .i64 1)) rfl ?_
  refine v_nil ?_
  refine q_n ?_
  refine w_seq ?_
  refine w_reg rfl ?_
  refine v_assign (c := .v (.int .i64 1)) rfl ?_
  refine v_nil ?_
  refine q_n ?_
  refine w_seq ?_
  refine w_seq ?_
  refine w_reg rfl ?_
  refine v_assign (c := .v (.int .i64 0)) rfl ?_
  refine v_nil ?_
  refine q_n ?_
  refine w_block ?_
  refine w_loop (fun k sl H => ∃ i : Nat, k = xs.length - i ∧ i ≤ xs.length ∧ sl = sls [(0, .c (bys false xs)), (3, cI (ck (xs.take i)).1), (4, cI (ck (xs.take i)).2), (5, cI i)] ∧ H = []) ?_ ?_
  · refine ⟨_, _, _, ?_, 0, rfl, Nat.zero_le _, rfl, rfl⟩
    exact turn0 ⟨tr_sl, tr_i rfl, tr_i rfl, tr_v, trivial⟩
  · rintro k sl H ⟨i, rfl, hi, rfl, rfl⟩
    have hck := ck_in (xs := xs.take i) (fun x hx => hb x (List.mem_of_mem_take hx))
    refine w_seq ?_
    refine w_seq ?_
    refine w_reg rfl ?_
    refine v_move rfl ?_
    refine v_move rfl ?_
    refine v_len_sl lay47 rfl ?_
    refine v_lss lay3 rfl rfl (fun h1 => ?_) (fun h1 => ?_)
    · skip
      refine v_nil ?_
      refine q_n ?_
      refine w_t rfl ?_
      refine w_skip ?_
      refine q_n ?_
      refine w_seq ?_
      refine w_block ?_
      refine w_seq ?_
      refine w_reg rfl ?_
      refine v_move rfl ?_
      refine v_move rfl ?_
      refine v_move rfl ?_
      refine v_idx (k := 1) be_len lay47 lay5 rfl rfl rfl (rfl) rfl (by omega) (fun q2 hq2 e2 => ?_)
      obtain rfl : i = q2 := by omega
      refine v_load_vw (.c (.v _)) lay5 rfl rfl rfl ?_
      refine v_conv_ii lay5 lay2 rfl (by first | exact i64r (by have hx1 := bytes_in hb hq2; omega) | exact u8r (by omega)) ?_
      refine v_add lay2 rfl rfl (i64r (by have hx1 := bytes_in hb hq2; omega)) ?_
      refine v_bin (c := .v (.int .i64 _)) lay2 rfl rfl rfl ?_
      refine v_assign rfl ?_
      refine v_nil ?_
      refine q_n ?_
      refine w_reg rfl ?_
      refine v_move rfl ?_
      refine v_move rfl ?_
      refine v_add lay2 rfl rfl (i64r (by have hx1 := bytes_in hb hq2; have htm := tm_in (a := (ck (xs.take i)).1 + xs[i]) (by omega); omega)) ?_
      refine v_bin (c := .v (.int .i64 _)) lay2 rfl rfl rfl ?_
      refine v_assign rfl ?_
      refine v_nil ?_
      refine q_bn ?_
      refine q_n ?_
      refine w_reg rfl ?_
      refine v_move rfl ?_
      refine v_add lay3 rfl rfl (i64r (by omega)) ?_
      refine v_assign rfl ?_
      refine v_nil ?_
      refine q_n ?_
      refine ⟨_, _, _, ?_, ⟨i + 1, rfl, by omega, rfl, rfl⟩, by omega⟩
      exact turn0 ⟨tr_sl, tr_i (by rw [ck_take hq2]; rfl), tr_i (by rw [ck_take hq2]; rfl), tr_v, trivial⟩
    · skip
      refine v_nil ?_
      refine q_n ?_
      refine w_f rfl ?_
      refine w_exit ?_
      refine q_e ?_
      refine q_e ?_
      refine q_hit ?_
      refine q_n ?_
      refine w_seq ?_
      refine w_reg rfl ?_
      refine v_move rfl ?_
      refine v_conv_ii lay2 lay5 rfl (by first | exact i64r (by have hx1 := bytes_in hb hq2; omega) | exact u8r (by omega)) ?_
      refine v_assign rfl ?_
      refine v_nil ?_
      refine q_n ?_
      refine w_ret ?_
      refine r_r rfl ?_
      obtain rfl : i = xs.length := by omega
      exact a_u8 (by rw [List.take_length])

theorem c76 (xs : List Int) (hx : xs.length ≤ 2 ^ 40) (hb : B8 xs) : PureC X 76 [.c (bys false xs)] (.c (.v (.int .u8 (ck xs).2))) := by
  refine PureC.of_body (drawD_ok X) (fun _ _ => Go.Proofs.Try.call76 _ _) Go.Proofs.Try.func76 rfl (n := 25) rfl ?_
  refine w_seq ?_
  refine w_reg rfl ?_
  refine v_assign (c := .v (.int .u8 0)) rfl ?_
  refine v_nil ?_
  refine q_n ?_
  refine w_seq ?_
  refine w_reg rfl ?_
  refine v_assign (c := .v (.int .i64 1)) rfl ?_
  refine v_assign (c := .v (.int .i64 1)) rfl ?_
  refine v_nil ?_
  refine q_n ?_
  refine w_seq ?_
  refine w_seq ?_
  refine w_reg rfl ?_
  refine v_move rfl ?_
  refine v_len_sl lay47 rfl ?_
  refine v_move (c := .v (.int .i64 0)) rfl ?_
  refine v_nil ?_
  refine q_n ?_
  refine w_block ?_
  refine w_loop (fun k sl H => ∃ i : Nat, k = xs.length - i ∧ i ≤ xs.length ∧ sl = sls [(7, .c (bys false xs)), (3, cI (ck (xs.take i)).1), (4, cI (ck (xs.take i)).2), (8, cI xs.length), (9, cI i)] ∧ H = []) ?_ ?_
  · refine ⟨_, _, _, ?_, 0, rfl, Nat.zero_le _, rfl, rfl⟩
    exact turn0 ⟨tr_sl, tr_i rfl, tr_i rfl, tr_v, tr_v, trivial⟩
  · rintro k sl H ⟨i, rfl, hi, rfl, rfl⟩
    have hck := ck_in (xs := xs.take i) (fun x hx => hb x (List.mem_of_mem_take hx))
    refine w_seq ?_
    refine w_reg rfl ?_
    refine v_lss lay3 rfl rfl (fun h1 => ?_) (fun h1 => ?_)
    · skip
      refine v_nil ?_
      refine q_n ?_
      refine w_seq ?_
      refine w_t rfl ?_
      refine w_skip ?_
      refine q_n ?_
      refine w_seq ?_
      refine w_block ?_
      refine w_seq ?_
      refine w_reg rfl ?_
      refine v_idx (k := 1) be_len lay47 lay5 rfl rfl rfl (rfl) rfl (by omega) (fun q2 hq2 e2 => ?_)
      obtain rfl : i = q2 := by omega
      refine v_load_vw (.c (.v _)) lay5 rfl rfl rfl ?_
      refine v_assign rfl ?_
      refine v_nil ?_
      refine q_n ?_
      refine w_seq ?_
      refine w_reg rfl ?_
      refine v_move rfl ?_
      refine v_move rfl ?_
      refine v_conv_ii lay5 lay3 rfl (by first | exact i64r (by have hx1 := bytes_in hb hq2; omega) | exact u8r (by omega)) ?_
      refine v_add lay3 rfl rfl (i64r (by have hx1 := bytes_in hb hq2; omega)) ?_
      refine v_bin (c := .v (.int .i64 _)) lay3 rfl rfl rfl ?_
      refine v_assign rfl ?_
      refine v_nil ?_
      refine q_n ?_
      refine w_reg rfl ?_
      refine v_move rfl ?_
      refine v_move rfl ?_
      refine v_add lay3 rfl rfl (i64r (by have hx1 := bytes_in hb hq2; have htm := tm_in (a := (ck (xs.take i)).1 + xs[i]) (by omega); omega)) ?_
      refine v_bin (c := .v (.int .i64 _)) lay3 rfl rfl rfl ?_
      refine v_assign rfl ?_
      refine v_nil ?_
      refine q_bn ?_
      refine q_n ?_
      refine w_reg rfl ?_
      refine v_add lay3 rfl rfl (i64r (by omega)) ?_
      refine v_move rfl ?_
      refine v_nil ?_
      refine q_n ?_
      refine ⟨_, _, _, ?_, ⟨i + 1, rfl, by omega, rfl, rfl⟩, by omega⟩
      exact turn0 ⟨tr_sl, tr_i (by rw [ck_take hq2]; rfl), tr_i (by rw [ck_take hq2]; rfl), tr_v, tr_v, trivial⟩
    · skip
      refine v_nil ?_
      refine q_n ?_
      refine w_seq ?_
      refine w_f rfl ?_
      refine w_exit ?_
      refine q_e ?_
      refine q_e ?_
      refine q_hit ?_
      refine q_n ?_
      refine w_seq ?_
      refine w_reg rfl ?_
      refine v_move rfl ?_
      refine v_conv_ii lay3 lay5 rfl (by first | exact i64r (by have hx1 := bytes_in hb hq2; omega) | exact u8r (by omega)) ?_
      refine v_assign rfl ?_
      refine v_nil ?_
      refine q_n ?_
      refine w_ret ?_
      refine r_r rfl ?_
      obtain rfl : i = xs.length := by omega
      exact a_u8 (by rw [List.take_length])

theorem c108 (n : Int) : PureC X 108 [cI n] (.c (bys true (sx n))) := by
  refine PureC.of_body (drawD_ok X) (fun _ _ => Go.Proofs.Try.call108 _ _) Go.Proofs.Try.func108 rfl (n := 9) rfl ?_
  refine w_seq ?_
  refine w_reg rfl ?_
  refine v_assign rfl ?_
  refine v_nil ?_
  refine q_n ?_
  refine w_seq ?_
  refine w_reg rfl ?_
  refine v_move rfl ?_
  refine v_conv_iw lay2 lay5 rfl ?_
  refine v_move rfl ?_
  refine v_shr lay2 rfl rfl (shr8) (by decide) ?_
  refine v_conv_iw lay2 lay5 rfl ?_
  refine v_lit (flat be [_, _]) (H' := [_]) lay47 lay5 rfl rfl ⟨by decide, by decide⟩ rfl rfl ?_
  refine v_assign rfl ?_
  refine v_nil ?_
  refine q_n ?_
  refine w_ret ?_
  refine r_r rfl ?_
  exact a_flat2 be_sc be_len rfl rfl rfl rfl

theorem c107 (xss : List (List Int)) (h0 : 0 < xss.flatten.length) (hT : xss.flatten.length ≤ 2 ^ 20) (hl : xss.length ≤ 2 ^ 20) : LiveC X 107 [.c (.sl false xss.length 1 (flat ye xss))] (.c (.mu 0 0 xss.flatten.length 1)) [⟨flat be xss.flatten, 5, true⟩] := by
  refine LiveC.of_body (drawD_ok X) (fun _ _ => Go.Proofs.Try.call107 _ _) Go.Proofs.Try.func107 rfl (n := 36) rfl ?_
  refine w_seq ?_
  refine w_reg rfl ?_
  refine v_assign rfl ?_
  refine v_nil ?_
  refine q_n ?_
  refine w_seq ?_
  refine w_reg rfl ?_
  refine v_assign (c := .v (.int .i64 0)) rfl ?_
  refine v_nil ?_
  refine q_n ?_
  refine w_seq ?_
  refine w_seq ?_
  refine w_reg rfl ?_
  refine v_move rfl ?_
  refine v_len_sl lay141 rfl ?_
  refine v_move (c := .v (.int .i64 0)) rfl ?_
  refine v_nil ?_
  refine q_n ?_
  refine w_block ?_
  refine w_loop (fun k sl H => ∃ i : Nat, k = xss.length - i ∧ i ≤ xss.length ∧ sl = sls [(0, .c (.sl false xss.length 1 (flat ye xss))), (3, cI ((xss.take i).flatten.length : Nat)), (9, .c (.sl false xss.length 1 (flat ye xss))), (10, cI xss.length), (11, cI i)] ∧ H = []) ?_ ?_
  · refine ⟨_, _, _, ?_, 0, rfl, Nat.zero_le _, rfl, rfl⟩
    exact turn0 ⟨tr_sl, tr_i rfl, tr_sl, tr_v, tr_v, trivial⟩
  · rintro k sl H ⟨i, rfl, hi, rfl, rfl⟩
    refine w_seq ?_
    refine w_reg rfl ?_
    refine v_lss lay3 rfl rfl (fun h1 => ?_) (fun h1 => ?_)
    · skip
      refine v_nil ?_
      refine q_n ?_
      refine w_seq ?_
      refine w_t rfl ?_
      refine w_skip ?_
      refine q_n ?_
      refine w_seq ?_
      refine w_block ?_
      refine w_seq ?_
      refine w_reg rfl ?_
      refine v_idx (k := 1) ye_len lay141 lay47 rfl rfl rfl (rfl) rfl (by omega) (fun q2 hq2 e2 => ?_)
      obtain rfl : i = q2 := by omega
      refine v_load_vw (.c (_)) lay47 rfl rfl rfl ?_
      refine v_assign rfl ?_
      refine v_nil ?_
      refine q_n ?_
      refine w_seq ?_
      refine w_reg rfl ?_
      refine v_move rfl ?_
      refine v_move rfl ?_
      refine v_len_sl lay47 rfl ?_
      refine v_add lay3 rfl rfl (i64r (by have htk := tk_len hq2; omega)) ?_
      refine v_assign rfl ?_
      refine v_nil ?_
      refine q_n ?_
      refine w_seq ?_
      refine w_reg rfl ?_
      refine v_move rfl ?_
      refine v_lss lay3 rfl rfl (fun h3 => ?_) (fun h3 => ?_)
      · skip
        exact absurd h3 (by omega)
      · skip
        refine v_nil ?_
        refine q_n ?_
        refine w_f rfl ?_
        refine w_skip ?_
        refine q_bn ?_
        refine q_n ?_
        refine w_reg rfl ?_
        refine v_add lay3 rfl rfl (i64r (by omega)) ?_
        refine v_move rfl ?_
        refine v_nil ?_
        refine q_n ?_
        refine ⟨_, _, _, ?_, ⟨i + 1, rfl, by omega, rfl, rfl⟩, by omega⟩
        exact turn0 ⟨tr_sl, tr_i (by rw [tk_snoc hq2, List.length_append]; push_cast; rfl), tr_sl, tr_v, tr_v, trivial⟩
    · skip
      refine v_nil ?_
      refine q_n ?_
      refine w_seq ?_
      refine w_f rfl ?_
      refine w_exit ?_
      refine q_e ?_
      refine q_e ?_
      refine q_hit ?_
      refine q_n ?_
      refine w_seq ?_
      refine w_reg rfl ?_
      refine v_move rfl ?_
      refine v_live1 (N := 0) (H' := [_]) (c125b _ (by rw [List.take_of_length_le (by omega)]; exact h0) (by rw [List.take_of_length_le (by omega)]; omega)) (sc_flat be_sc _) rfl rfl rfl rfl rfl rfl (.cons vw_v (.cons vw_v .nil)) ?_
      refine v_assign rfl ?_
      refine v_nil ?_
      refine q_n ?_
      refine w_seq ?_
      refine w_seq ?_
      refine w_reg rfl ?_
      refine v_move rfl ?_
      refine v_len_sl lay141 rfl ?_
      refine v_move (c := .v (.int .i64 0)) rfl ?_
      refine v_nil ?_
      refine q_n ?_
      refine w_block ?_
      refine w_loop (fun k sl H => ∃ i : Nat, k = xss.length - i ∧ i ≤ xss.length ∧ sl = sls [(6, .c (.mu 0 0 (xss.take i).flatten.length 1)), (25, .c (.sl false xss.length 1 (flat ye xss))), (26, cI xss.length), (27, cI i)] ∧ H = [⟨flat be (xss.take i).flatten, 5, true⟩]) ?_ ?_
      · refine ⟨_, _, _, ?_, 0, rfl, Nat.zero_le _, rfl, rfl⟩
        exact turn [some 0] rfl rfl rfl ⟨⟨_, rfl, trc_flat be_sc rfl⟩, trivial⟩ ⟨tr_mun rfl rfl, tr_sl, tr_v, tr_v, trivial⟩
      · rintro k sl H ⟨i, rfl, hi, rfl, rfl⟩
        refine w_seq ?_
        refine w_reg rfl ?_
        refine v_lss lay3 rfl rfl (fun h4 => ?_) (fun h4 => ?_)
        · skip
          refine v_nil ?_
          refine q_n ?_
          refine w_seq ?_
          refine w_t rfl ?_
          refine w_skip ?_
          refine q_n ?_
          refine w_seq ?_
          refine w_block ?_
          refine w_seq ?_
          refine w_reg rfl ?_
          refine v_idx (k := 1) ye_len lay141 lay47 rfl rfl rfl (rfl) rfl (by omega) (fun q5 hq5 e5 => ?_)
          obtain rfl : i = q5 := by omega
          refine v_load_vw (.c (_)) lay47 rfl rfl rfl ?_
          refine v_assign rfl ?_
          refine v_nil ?_
          refine q_n ?_
          refine w_reg rfl ?_
          refine v_move rfl ?_
          refine v_move rfl ?_
          refine v_app_flat_sl (H' := [_, _]) be_sc be_len lay47 lay5 rfl rfl (by simp) rfl rfl rfl (by have htk := tk_len hq5; unfold maxLen; simp only []; omega) rfl rfl ?_
          refine v_assign rfl ?_
          refine v_nil ?_
          refine q_bn ?_
          refine q_n ?_
          refine w_reg rfl ?_
          refine v_add lay3 rfl rfl (i64r (by omega)) ?_
          refine v_move rfl ?_
          refine v_nil ?_
          refine q_n ?_
          refine ⟨_, _, _, ?_, ⟨i + 1, rfl, by omega, rfl, rfl⟩, by omega⟩
          exact turn [some 1] rfl rfl rfl ⟨⟨_, rfl, trc_flat be_sc (congrArg (flat be) (tk_snoc hq5).symm)⟩, trivial⟩ ⟨tr_mun rfl (by rw [tk_snoc hq5, List.length_append]), tr_sl, tr_v, tr_v, trivial⟩
        · skip
          refine v_nil ?_
          refine q_n ?_
          refine w_seq ?_
          refine w_f rfl ?_
          refine w_exit ?_
          refine q_e ?_
          refine q_e ?_
          refine q_hit ?_
          refine q_n ?_
          refine w_seq ?_
          refine w_reg rfl ?_
          refine v_move rfl ?_
          refine v_assign rfl ?_
          refine v_nil ?_
          refine q_n ?_
          refine w_ret ?_
          refine r_r rfl ?_
          have he : (xss.take i).flatten = xss.flatten := by rw [List.take_of_length_le (by omega)]
          exact l_ans [some 0] rfl rfl ⟨⟨_, rfl, trc_flat be_sc (congrArg (flat be) he)⟩, trivial⟩ (tr_mun rfl (congrArg List.length he))

theorem c75 (i t c f : Int) (hc : -32768 ≤ c ∧ c ≤ 32767) (hf : -32768 ≤ f ∧ f ≤ 32767) : PureC X 75 [cI i, .agg (tal t c f)] (.c (bys true (recB i t c f))) := by
  refine PureC.of_body (drawD_ok X) (fun _ _ => Go.Proofs.Try.call75 _ _) Go.Proofs.Try.func75 rfl (n := 28) rfl ?_
  refine w_seq ?_
  refine w_reg rfl ?_
  refine v_box (m := 0) (H' := [_]) lay27 rfl rfl rfl ?_
  refine v_assign rfl ?_
  refine v_nil ?_
  refine q_n ?_
  refine w_seq ?_
  refine w_draw [0, 1, 3, 0, 8, 24, 63, 0, 128, 384, 1023, 2047, 4095, 8191] [⟨0, 0, []⟩, ⟨1, 0, []⟩, ⟨2, 0, []⟩, ⟨3, 0, []⟩, ⟨4, 0, []⟩, ⟨5, 0, []⟩, ⟨6, 0, []⟩, ⟨7, 0, []⟩, ⟨8, 0, []⟩, ⟨9, 0, []⟩, ⟨10, 0, []⟩, ⟨11, 2, []⟩, ⟨12, 1, []⟩, ⟨13, 0, []⟩] rfl rfl ?_
  refine d_q rfl rfl rfl rfl rfl ?_
  refine v_fa_pt (off' := 0) lay27 rfl rfl rfl ?_
  refine v_nil ?_
  refine d_q rfl rfl rfl rfl rfl ?_
  refine v_load_pt (.c _) lay2 rfl rfl rfl rfl ?_
  refine v_nil ?_
  refine d_call (c108 _) rfl rfl rfl rfl rfl (.cons vw_v .nil) ?_
  refine d_q rfl rfl rfl rfl rfl ?_
  refine v_fa_pt (off' := 1) lay27 rfl rfl rfl ?_
  refine v_nil ?_
  refine d_q rfl rfl rfl rfl rfl ?_
  refine v_load_pt (.c _) lay23 rfl rfl rfl rfl ?_
  refine v_nil ?_
  refine d_q rfl rfl rfl rfl rfl ?_
  refine v_conv_ii lay23 lay2 rfl (i64r (by omega)) ?_
  refine v_nil ?_
  refine d_call (c108 _) rfl rfl rfl rfl rfl (.cons vw_v .nil) ?_
  refine d_q rfl rfl rfl rfl rfl ?_
  refine v_fa_pt (off' := 2) lay27 rfl rfl rfl ?_
  refine v_nil ?_
  refine d_q rfl rfl rfl rfl rfl ?_
  refine v_load_pt (.c _) lay23 rfl rfl rfl rfl ?_
  refine v_nil ?_
  refine d_q rfl rfl rfl rfl rfl ?_
  refine v_conv_ii lay23 lay2 rfl (i64r (by omega)) ?_
  refine v_nil ?_
  refine d_call (c108 _) rfl rfl rfl rfl rfl (.cons vw_v .nil) ?_
  refine d_z (.c (.sl true 3 1 (flat ye [_, _, _]))) rfl rfl rfl ?_
  refine d_live1 (N := 1) (H' := [_, _]) (c107 [sx t, sx c, sx f] (by simp [sx]) (by simp [sx]) (by simp)) (sc_flat be_sc _) rfl rfl rfl rfl rfl rfl rfl rfl (.cons vw_sl .nil) again_nil ?_
  refine d_q rfl rfl rfl rfl rfl ?_
  refine v_assign rfl ?_
  refine v_nil ?_
  refine d_nil ?_
  refine q_n ?_
  refine w_seq ?_
  refine w_reg rfl ?_
  refine v_move rfl ?_
  refine v_move rfl ?_
  refine v_conv_iw lay3 lay5 rfl ?_
  refine v_lit (flat be [_]) (H' := [_, _, _]) lay47 lay5 rfl rfl ⟨by decide, by decide⟩ rfl rfl ?_
  refine v_move rfl ?_
  refine v_app_flat (H' := [_, _, _, _]) be_sc be_len lay47 lay5 rfl rfl (by simp) rfl rfl (by simp) rfl rfl (by simp [sx, maxLen]) rfl rfl ?_
  refine v_call (c76 _ (by simp [sx]) (b8_rec _ _ _ _)) rfl rfl rfl (.cons (vw_mu2 be_sc be_len rfl (by first | (simp; done) | (simp; omega))) .nil) ?_
  refine v_lit (flat be [_]) (H' := [_, _, _, _, _]) lay47 lay5 rfl rfl ⟨by decide, by decide⟩ rfl rfl ?_
  refine v_app_flat (H' := [_, _, _, _, _, _]) be_sc be_len lay47 lay5 rfl rfl (by simp) rfl rfl (by simp) rfl rfl (by simp [sx, maxLen]) rfl rfl ?_
  refine v_assign rfl ?_
  refine v_nil ?_
  refine q_n ?_
  refine w_ret ?_
  refine r_r rfl ?_
  exact a_flat2 be_sc be_len rfl rfl (by simp [recB]; omega) (by simp [recB]; omega)

theorem c106 (t c f : Int) (ht : 0 ≤ t ∧ t ≤ 65535) (hc : 0 ≤ c ∧ c ≤ 32767) (hf : 0 ≤ f ∧ f ≤ 32767) : PureC X 106 [.c (.vw false (tal t c f) 0)] (.c (bys true [sx t, sx c, sx f].flatten)) := by
  refine PureC.of_body (drawD_ok X) (fun _ _ => Go.Proofs.Try.call106 _ _) Go.Proofs.Try.func106 rfl (n := 42) rfl ?_
  refine w_seq ?_
  refine w_reg rfl ?_
  refine v_assign rfl ?_
  refine v_nil ?_
  refine q_n ?_
  refine w_seq ?_
  refine w_reg rfl ?_
  refine v_lit (flat be []) (H' := [_]) lay47 lay5 rfl rfl ⟨by decide, by decide⟩ rfl rfl ?_
  refine v_assign rfl ?_
  refine v_nil ?_
  refine q_n ?_
  refine w_seq ?_
  refine w_draw [0, 1, 3, 7, 0, 16, 48, 112, 240, 0, 512, 1536, 3584, 7680, 16383, 32767] [⟨0, 0, []⟩, ⟨1, 0, []⟩, ⟨2, 0, []⟩, ⟨3, 0, []⟩, ⟨4, 0, []⟩, ⟨5, 0, []⟩, ⟨6, 0, []⟩, ⟨7, 0, []⟩, ⟨8, 0, []⟩, ⟨9, 0, []⟩, ⟨10, 0, []⟩, ⟨11, 0, []⟩, ⟨12, 0, []⟩, ⟨13, 0, []⟩, ⟨14, 2, []⟩, ⟨15, 0, []⟩] rfl rfl ?_
  refine d_q rfl rfl rfl rfl rfl ?_
  refine v_move rfl ?_
  refine v_nil ?_
  refine d_q rfl rfl rfl rfl rfl ?_
  refine v_nil_vw rfl ?_
  refine v_nil ?_
  refine d_q rfl rfl rfl rfl rfl ?_
  refine v_fa_vw (off' := 0) lay27 rfl rfl rfl ?_
  refine v_nil ?_
  refine d_q rfl rfl rfl rfl rfl ?_
  refine v_load_vw (.c (.v _)) lay2 rfl rfl rfl ?_
  refine v_nil ?_
  refine d_q rfl rfl rfl rfl rfl ?_
  refine v_move rfl ?_
  refine v_nil ?_
  refine d_q rfl rfl rfl rfl rfl ?_
  refine v_nil_vw rfl ?_
  refine v_nil ?_
  refine d_q rfl rfl rfl rfl rfl ?_
  refine v_fa_vw (off' := 1) lay27 rfl rfl rfl ?_
  refine v_nil ?_
  refine d_q rfl rfl rfl rfl rfl ?_
  refine v_load_vw (.c (.v _)) lay23 rfl rfl rfl ?_
  refine v_nil ?_
  refine d_q rfl rfl rfl rfl rfl ?_
  refine v_conv_ii lay23 lay2 rfl (i64r (by omega)) ?_
  refine v_nil ?_
  refine d_q rfl rfl rfl rfl rfl ?_
  refine v_move rfl ?_
  refine v_nil ?_
  refine d_q rfl rfl rfl rfl rfl ?_
  refine v_nil_vw rfl ?_
  refine v_nil ?_
  refine d_q rfl rfl rfl rfl rfl ?_
  refine v_fa_vw (off' := 2) lay27 rfl rfl rfl ?_
  refine v_nil ?_
  refine d_q rfl rfl rfl rfl rfl ?_
  refine v_load_vw (.c (.v _)) lay23 rfl rfl rfl ?_
  refine v_nil ?_
  refine d_q rfl rfl rfl rfl rfl ?_
  refine v_conv_ii lay23 lay2 rfl (i64r (by omega)) ?_
  refine v_nil ?_
  refine d_z (.c (.sl true 3 1 (flat int [_, _, _]))) rfl rfl rfl ?_
  refine d_q rfl rfl rfl rfl rfl ?_
  refine v_assign rfl ?_
  refine v_nil ?_
  refine d_nil ?_
  refine q_n ?_
  refine w_seq ?_
  refine w_seq ?_
  refine w_reg rfl ?_
  refine v_assign (c := .v (.int .i64 0)) rfl ?_
  refine v_nil ?_
  refine q_n ?_
  refine w_block ?_
  refine w_loop (fun k sl H => ∃ i : Nat, k = 3 - i ∧ i ≤ 3 ∧ sl = sls [(3, .c (.mu 0 0 (([t, c, f].take i).flatMap sx).length 1)), (4, .c (.sl true 3 1 (flat int [t, c, f]))), (5, cI i)] ∧ H = [⟨flat be (([t, c, f].take i).flatMap sx), 5, true⟩]) ?_ ?_
  · refine ⟨_, _, _, ?_, 0, rfl, Nat.zero_le _, rfl, rfl⟩
    exact turn [some 0] rfl rfl rfl ⟨⟨_, rfl, trc_flat be_sc rfl⟩, trivial⟩ ⟨tr_mun rfl rfl, tr_sl, tr_v, trivial⟩
  · rintro k sl H ⟨i, rfl, hi, rfl, rfl⟩
    refine w_seq ?_
    refine w_seq ?_
    refine w_reg rfl ?_
    refine v_move rfl ?_
    refine v_lss lay3 rfl rfl (fun h1 => ?_) (fun h1 => ?_)
    · skip
      refine v_nil ?_
      refine q_n ?_
      refine w_t rfl ?_
      refine w_skip ?_
      refine q_n ?_
      refine w_seq ?_
      refine w_block ?_
      refine w_draw [0, 0, 0, 6, 14, 30, 62, 0, 0, 384, 896, 1920, 3968, 8190, 16383, 32767] [⟨0, 0, []⟩, ⟨1, 0, []⟩, ⟨2, 0, []⟩, ⟨3, 0, []⟩, ⟨4, 0, []⟩, ⟨5, 0, []⟩, ⟨6, 0, []⟩, ⟨7, 0, []⟩, ⟨8, 0, []⟩, ⟨9, 0, []⟩, ⟨10, 0, []⟩, ⟨11, 0, []⟩, ⟨12, 0, []⟩, ⟨13, 2, []⟩, ⟨14, 1, []⟩, ⟨15, 0, []⟩] rfl rfl ?_
      refine d_q rfl rfl rfl rfl rfl ?_
      refine v_move rfl ?_
      refine v_nil ?_
      refine d_q rfl rfl rfl rfl rfl ?_
      refine v_move rfl ?_
      refine v_nil ?_
      refine d_q rfl rfl rfl rfl rfl ?_
      refine v_move rfl ?_
      refine v_nil ?_
      refine d_q rfl rfl rfl rfl rfl ?_
      refine v_idx (k := 1) int_len lay118 lay2 rfl rfl rfl (rfl) rfl (by simp only [List.length_cons, List.length_nil]; omega) (fun q2 hq2 e2 => ?_)
      obtain rfl : i = q2 := by omega
      refine v_nil ?_
      refine d_q rfl rfl rfl rfl rfl ?_
      refine v_load_vw (.c (.v _)) lay2 rfl rfl rfl ?_
      refine v_nil ?_
      refine d_q rfl rfl rfl rfl rfl ?_
      refine v_bin (c := .v (.int .i64 _)) lay2 rfl rfl rfl ?_
      refine v_nil ?_
      refine d_q rfl rfl rfl rfl rfl ?_
      refine v_conv_iw lay2 lay5 rfl ?_
      refine v_nil ?_
      refine d_q rfl rfl rfl rfl rfl ?_
      refine v_move rfl ?_
      refine v_nil ?_
      refine d_q rfl rfl rfl rfl rfl ?_
      refine v_move rfl ?_
      refine v_nil ?_
      refine d_q rfl rfl rfl rfl rfl ?_
      refine v_idx (k := 1) int_len lay118 lay2 rfl rfl rfl (rfl) rfl (by simp only [List.length_cons, List.length_nil]; omega) (fun q3 hq3 e3 => ?_)
      obtain rfl : i = q3 := by omega
      refine v_nil ?_
      refine d_q rfl rfl rfl rfl rfl ?_
      refine v_load_vw (.c (.v _)) lay2 rfl rfl rfl ?_
      refine v_nil ?_
      refine d_q rfl rfl rfl rfl rfl ?_
      refine v_bin (c := .v (.int .i64 _)) lay2 rfl rfl rfl ?_
      refine v_nil ?_
      refine d_q rfl rfl rfl rfl rfl ?_
      refine v_conv_iw lay2 lay5 rfl ?_
      refine v_nil ?_
      refine d_z (.c (.sl true 2 1 (flat be [_, _]))) rfl rfl rfl ?_
      refine d_e rfl rfl rfl ?_
      refine v_app_flat_sl (H' := [_, _]) be_sc be_len lay47 lay5 rfl rfl (by simp) rfl rfl rfl (by have hfl := six_le t c f i; unfold maxLen; simp only []; omega) rfl rfl ?_
      refine v_nil ⟨again_nil, ?_⟩
      refine d_q rfl rfl rfl rfl rfl ?_
      refine v_assign rfl ?_
      refine v_nil ?_
      refine d_nil ?_
      refine q_bn ?_
      refine q_n ?_
      refine w_reg rfl ?_
      refine v_move rfl ?_
      refine v_add lay3 rfl rfl (i64r (by omega)) ?_
      refine v_assign rfl ?_
      refine v_nil ?_
      refine q_n ?_
      have hst := six_step (i := i) ht hc hf hq2
      refine ⟨_, _, _, ?_, ⟨i + 1, rfl, by omega, rfl, rfl⟩, by omega⟩
      exact turn [some 1] rfl rfl rfl ⟨⟨_, rfl, trc_flat be_sc (congrArg (flat be) hst.symm)⟩, trivial⟩ ⟨tr_mun rfl (by rw [hst]; simp), tr_sl, tr_v, trivial⟩
    · skip
      refine v_nil ?_
      refine q_n ?_
      refine w_f rfl ?_
      refine w_exit ?_
      refine q_e ?_
      refine q_e ?_
      refine q_hit ?_
      refine q_n ?_
      refine w_seq ?_
      refine w_reg rfl ?_
      refine v_move rfl ?_
      refine v_assign rfl ?_
      refine v_nil ?_
      refine q_n ?_
      refine w_ret ?_
      refine r_r rfl ?_
      obtain rfl : i = 3 := by omega
      exact a_flat2 be_sc be_len rfl (by simp [List.flatMap]) rfl (by simp [sx])
end Go.VL
