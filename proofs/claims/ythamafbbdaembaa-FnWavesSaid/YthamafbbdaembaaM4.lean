/- Texts of one proof, put together: C8, C9, C10, C11, C12, C13, C14, C15, B0. -/
import Derived.Test.YthamafbbdaembaaM3
import Derived.Test.YthamafbbdaembaaRows
import Derived.ProofKit
import Derived.Below
import Derived.ChangeSame
import Derived.Handed
import Derived.KernelRfl
namespace Go.VL
open Go.RowKit
set_option maxRecDepth 20000
set_option maxHeartbeats 8000000
theorem c33n (xs : List Slo) (b f : Int) {n : Nat} (hk : okP xs b f) (hn : cyc xs b = n) : PureC X 33 [.c (.vw false (pln true xs b f) 0)] (cI n) := by
  rw [← hn, ← cyS_cyc hk]
  exact c33 xs b f (by have := hk.1.1; omega)
def gr0 (xs : List Slo) (b : Int) (m n : Nat) : List Bool := (List.range n).map fun k : Nat => gr xs b m k
theorem gr0_len {xs : List Slo} {b : Int} {m n : Nat} : (gr0 xs b m n).length = n := by simp [gr0]
theorem gr0_at {xs : List Slo} {b : Int} {m n i : Nat} (h : i < (gr0 xs b m n).length) : (gr0 xs b m n)[i] = gr xs b m i := mk_at (f := fun k : Nat => gr xs b m k) h
theorem gr0_eq {xs : List Slo} {b f : Int} {m n : Nat} : grL xs b f m n f = gr0 xs b m n := by
  unfold grL gr0
  refine List.map_congr_left fun k hk => ?_
  have hk := List.mem_range.1 hk
  have e : f + (k : Int) - f = k := by omega
  rw [e, Int.emod_eq_of_lt (by omega) (by omega)]
theorem gr0_ex {xs : List Slo} {b : Int} {m n : Nat} (hg : grn xs b m n) : ∃ x ∈ gr0 xs b m n, x = true := by
  rw [← gr0_eq (f := 0)]
  exact grL_ex hg
theorem cnb_grn {xs : List Slo} {b : Int} {m n : Nat} (hg : grn xs b m n) : 1 ≤ cnb (fun k : Nat => gr xs b m k) n := by
  obtain ⟨k, hk, h⟩ := hg
  exact cnb_pos hk h
theorem c56 (xs : List Slo) (b f : Int) (a : Int) (hs : ticksOk xs) (hb2 : 0 ≤ b ∧ b ≤ 240) (hx : xs.length ≤ 8) (ha : 0 ≤ a ∧ a ≤ 1000) : PureC X 56 [.c (.vw false (pln true xs b f) 0), cI a] (.tup [.agg (phc (atR xs b a).1), cI (atR xs b a).2]) := by
  refine PureC.of_body (drawD_ok X) (fun _ _ => Go.Proofs.Try.call56 _ _) Go.Proofs.Try.func56 rfl (n := 74) rfl ?_
  refine w_seq ?_
  refine w_reg rfl ?_
  refine v_alloc (m := 0) (H' := [⟨[.v _, .v _, .v _, .v _, .v _, .v _, .v _, .v _], 80, true⟩]) lay80 rfl rfl ?_
  refine v_assign (c := .v (.int .i64 0)) rfl ?_
  refine v_nil ?_
  refine q_n ?_
  refine w_seq ?_
  refine w_seq ?_
  refine w_reg rfl ?_
  refine v_assign (c := .v (.int .i64 0)) rfl ?_
  refine v_nil ?_
  refine q_n ?_
  refine w_block ?_
  refine w_loop (fun k sl H => ∃ (i : Nat) (r : Int), k = xs.length - i ∧ i ≤ xs.length ∧ atR (xs.drop i) b r = atR xs b a ∧ (0 ≤ r ∧ r ≤ 1000) ∧ sl = sls [(0, .c (.vw false (pln true xs b f) 0)), (1, cI r), (4, .c (.pt 0 0)), (6, cI i)] ∧ H = [⟨phc zg, 80, true⟩]) ?_ ?_
  · refine ⟨_, _, _, ?_, 0, a, rfl, Nat.zero_le _, rfl, ha, rfl, rfl⟩
    exact turn [some 0] rfl rfl rfl ⟨⟨_, rfl, (.cons tr_v (.cons tr_v (.cons tr_v (.cons tr_v (.cons tr_v (.cons tr_v (.cons tr_v (.cons tr_v .nil))))))))⟩, trivial⟩ ⟨tr_vw, tr_v, tr_pt rfl, tr_v, trivial⟩
  rintro k sl H ⟨i, r, rfl, hi, hp, hr, rfl, rfl⟩
  refine w_seq ?_
  refine w_seq ?_
  refine w_reg rfl ?_
  refine v_move rfl ?_
  refine v_move rfl ?_
  refine v_nil_vw rfl ?_
  refine v_fa_vw (off' := 0) lay28 rfl rfl rfl ?_
  refine v_load_vw (.c (_)) lay26 rfl rfl rfl ?_
  refine v_len_sl lay26 rfl ?_
  refine v_lss lay3 rfl rfl (fun h1 => ?_) (fun h1 => ?_)
  rotate_left
  · refine v_nil ?_
    refine q_n ?_
    refine w_f rfl ?_
    refine w_exit ?_
    refine q_e ?_
    refine q_e ?_
    refine q_hit ?_
    refine q_n ?_
    refine w_seq ?_
    refine w_reg rfl ?_
    refine v_build_a [.v _, .v _, .v _, .v _, .v _, .v _, .v _, .v _] lay80 lay4 rfl ?_
    refine v_store (H' := [⟨[_, _, _, _, _, _, _, _], 80, true⟩]) lay80 rfl rfl rfl rfl rfl rfl ?_
    refine v_assign (c := .v (.int .i64 0)) rfl ?_
    refine v_nil ?_
    refine q_n ?_
    refine w_ret ?_
    refine r_r rfl ?_
    obtain rfl : i = xs.length := by omega
    rw [← hp, List.drop_length]
    exact a_tup (.cons (a_agg (.cons tr_v (.cons tr_v (.cons tr_v (.cons tr_v (.cons tr_v (.cons tr_v (.cons tr_v (.cons tr_v .nil))))))))) (.cons tr_v .nil))
  have hi1 : i < xs.length := by omega
  have htk := tk_at hs hi1
  refine v_nil ?_
  refine q_n ?_
  refine w_t rfl ?_
  refine w_skip ?_
  refine q_n ?_
  refine w_seq ?_
  refine w_block ?_
  refine w_seq ?_
  refine w_seq ?_
  refine w_reg rfl ?_
  refine v_move rfl ?_
  refine v_move rfl ?_
  refine v_nil_vw rfl ?_
  refine v_fa_vw (off' := 0) lay28 rfl rfl rfl ?_
  refine v_load_vw (.c (_)) lay26 rfl rfl rfl ?_
  refine v_move rfl ?_
  refine v_idx_e (k := 9) (i) stc_len lay26 lay82 rfl rfl rfl (rfl) rfl (rfl) (hi1) ?_
  refine v_fa_vw (off' := 8) lay82 rfl rfl rfl ?_
  refine v_load_vw (.c (.v _)) lay2 rfl rfl rfl ?_
  refine v_lss lay2 rfl rfl (fun h3 => ?_) (fun h3 => ?_)
  · have hr3 := h3
    refine v_nil ?_
    refine q_n ?_
    refine w_t rfl ?_
    refine w_seq ?_
    refine w_draw [0, 1, 3, 7, 0, 31, 63, 127, 0, 256, 768, 1792, 0, 7936, 16128, 32512, 0, 130816, 255, 524287] [⟨0, 0, []⟩, ⟨1, 0, []⟩, ⟨2, 0, []⟩, ⟨3, 0, []⟩, ⟨4, 0, []⟩, ⟨5, 0, []⟩, ⟨6, 0, []⟩, ⟨7, 0, []⟩, ⟨8, 0, []⟩, ⟨9, 0, []⟩, ⟨10, 0, []⟩, ⟨11, 0, []⟩, ⟨12, 0, []⟩, ⟨13, 0, []⟩, ⟨14, 0, []⟩, ⟨15, 0, []⟩, ⟨16, 0, []⟩, ⟨17, 0, []⟩, ⟨18, 1, [11, 15]⟩, ⟨19, 0, []⟩] rfl rfl ?_
    refine d_q rfl rfl rfl rfl rfl ?_
    refine v_move rfl ?_
    refine v_nil ?_
    refine d_q rfl rfl rfl rfl rfl ?_
    refine v_nil_vw rfl ?_
    refine v_nil ?_
    refine d_q rfl rfl rfl rfl rfl ?_
    refine v_fa_vw (off' := 0) lay28 rfl rfl rfl ?_
    refine v_nil ?_
    refine d_q rfl rfl rfl rfl rfl ?_
    refine v_load_vw (.c (_)) lay26 rfl rfl rfl ?_
    refine v_nil ?_
    refine d_q rfl rfl rfl rfl rfl ?_
    refine v_move rfl ?_
    refine v_nil ?_
    refine d_q rfl rfl rfl rfl rfl ?_
    refine v_idx_e (k := 9) (i) stc_len lay26 lay82 rfl rfl rfl (rfl) rfl (rfl) (hi1) ?_
    refine v_nil ?_
    refine d_q rfl rfl rfl rfl rfl ?_
    refine v_fa_vw (off' := 0) lay82 rfl rfl rfl ?_
    refine v_nil ?_
    refine d_q rfl rfl rfl rfl rfl ?_
    refine v_load_vw (.agg [.v _, .v _, .v _, .v _, .v _, .v _, .v _, .v _]) lay80 rfl rfl rfl ?_
    refine v_nil ?_
    refine d_q rfl rfl rfl rfl rfl ?_
    refine v_move rfl ?_
    refine v_nil ?_
    refine d_q rfl rfl rfl rfl rfl ?_
    refine v_nil_vw rfl ?_
    refine v_nil ?_
    refine d_q rfl rfl rfl rfl rfl ?_
    refine v_fa_vw (off' := 0) lay28 rfl rfl rfl ?_
    refine v_nil ?_
    refine d_q rfl rfl rfl rfl rfl ?_
    refine v_load_vw (.c (_)) lay26 rfl rfl rfl ?_
    refine v_nil ?_
    refine d_q rfl rfl rfl rfl rfl ?_
    refine v_move rfl ?_
    refine v_nil ?_
    refine d_q rfl rfl rfl rfl rfl ?_
    refine v_idx_e (k := 9) (i) stc_len lay26 lay82 rfl rfl rfl (rfl) rfl (rfl) (hi1) ?_
    refine v_nil ?_
    refine d_q rfl rfl rfl rfl rfl ?_
    refine v_fa_vw (off' := 8) lay82 rfl rfl rfl ?_
    refine v_nil ?_
    refine d_q rfl rfl rfl rfl rfl ?_
    refine v_load_vw (.c (.v _)) lay2 rfl rfl rfl ?_
    refine v_nil ?_
    refine d_q rfl rfl rfl rfl rfl ?_
    refine v_move rfl ?_
    refine v_nil ?_
    refine d_q rfl rfl rfl rfl rfl ?_
    refine v_sub lay2 rfl rfl (i64r (by omega)) ?_
    refine v_nil ?_
    refine d_e rfl rfl rfl ?_
    refine v_store (H' := [⟨[_, _, _, _, _, _, _, _], 80, true⟩]) lay80 rfl rfl rfl rfl rfl rfl ?_
    refine v_nil ⟨⟨ag_load_vw (.c (.v _)) lay2 rfl rfl rfl, ⟨ag_load_vw (.c (_)) lay26 rfl rfl rfl, ⟨trivial, ⟨trivial, trivial⟩⟩⟩⟩, ?_⟩
    refine d_q rfl rfl rfl rfl rfl ?_
    refine v_assign rfl ?_
    refine v_nil ?_
    refine d_nil ?_
    refine q_n ?_
    refine w_ret (q_r (q_br (q_r (q_r (q_br (q_r ?_))))))
    refine r_r rfl ?_
    rw [← hp, at_at hi1, if_pos hr3]
    exact a_tup (.cons (a_agg (.cons tr_v (.cons tr_v (.cons tr_v (.cons tr_v (.cons tr_v (.cons tr_v (.cons tr_v (.cons tr_v .nil))))))))) (.cons tr_v .nil))
  have hr3 := h3
  refine v_nil ?_
  refine q_n ?_
  refine w_f rfl ?_
  refine w_skip ?_
  refine q_n ?_
  refine w_seq ?_
  refine w_reg rfl ?_
  refine v_move rfl ?_
  refine v_move rfl ?_
  refine v_nil_vw rfl ?_
  refine v_fa_vw (off' := 0) lay28 rfl rfl rfl ?_
  refine v_load_vw (.c (_)) lay26 rfl rfl rfl ?_
  refine v_move rfl ?_
  refine v_idx_e (k := 9) (i) stc_len lay26 lay82 rfl rfl rfl (rfl) rfl (rfl) (hi1) ?_
  refine v_fa_vw (off' := 8) lay82 rfl rfl rfl ?_
  refine v_load_vw (.c (.v _)) lay2 rfl rfl rfl ?_
  refine v_sub lay2 rfl rfl (i64r (by omega)) ?_
  refine v_assign rfl ?_
  refine v_nil ?_
  refine q_n ?_
  refine w_seq ?_
  refine w_seq ?_
  refine w_reg rfl ?_
  refine v_move rfl ?_
  refine v_move rfl ?_
  refine v_nil_vw rfl ?_
  refine v_fa_vw (off' := 1) lay28 rfl rfl rfl ?_
  refine v_load_vw (.c (.v _)) lay2 rfl rfl rfl ?_
  refine v_lss lay2 rfl rfl (fun h7 => ?_) (fun h7 => ?_)
  rotate_left
  · have hr4 := h7
    refine v_nil ?_
    refine q_n ?_
    refine w_f rfl ?_
    refine w_skip ?_
    refine q_n ?_
    refine w_reg rfl ?_
    refine v_move rfl ?_
    refine v_move rfl ?_
    refine v_nil_vw rfl ?_
    refine v_fa_vw (off' := 1) lay28 rfl rfl rfl ?_
    refine v_load_vw (.c (.v _)) lay2 rfl rfl rfl ?_
    refine v_sub lay2 rfl rfl (i64r (by omega)) ?_
    refine v_assign rfl ?_
    refine v_nil ?_
    refine q_bn ?_
    refine q_n ?_
    refine w_reg rfl ?_
    refine v_move rfl ?_
    refine v_add lay3 rfl rfl (i64r (by omega)) ?_
    refine v_assign rfl ?_
    refine v_nil ?_
    refine q_n ?_
    rw [at_at hi1, if_neg hr3, if_neg hr4] at hp
    refine ⟨_, _, _, ?_, ⟨i + 1, r - xs[i].2 - b, rfl, by omega, hp, ⟨by omega, by omega⟩, rfl, rfl⟩, by omega⟩
    exact turn [some 0] rfl rfl rfl ⟨⟨_, rfl, (.cons tr_v (.cons tr_v (.cons tr_v (.cons tr_v (.cons tr_v (.cons tr_v (.cons tr_v (.cons tr_v .nil))))))))⟩, trivial⟩ ⟨tr_vw, tr_v, tr_pt rfl, tr_v, trivial⟩
  have hr4 := h7
  refine v_nil ?_
  refine q_n ?_
  refine w_t rfl ?_
  refine w_seq ?_
  refine w_draw [0, 0, 2, 6, 14, 0, 62, 1, 255] [⟨0, 0, []⟩, ⟨1, 0, []⟩, ⟨2, 0, []⟩, ⟨3, 0, []⟩, ⟨4, 0, []⟩, ⟨5, 0, []⟩, ⟨6, 0, []⟩, ⟨7, 1, [4]⟩, ⟨8, 0, []⟩] rfl rfl ?_
  refine d_q rfl rfl rfl rfl rfl ?_
  refine v_build_a [.v _, .v _, .v _, .v _, .v _, .v _, .v _, .v _] lay80 lay4 rfl ?_
  refine v_nil ?_
  refine d_q rfl rfl rfl rfl rfl ?_
  refine v_move rfl ?_
  refine v_nil ?_
  refine d_q rfl rfl rfl rfl rfl ?_
  refine v_nil_vw rfl ?_
  refine v_nil ?_
  refine d_q rfl rfl rfl rfl rfl ?_
  refine v_fa_vw (off' := 1) lay28 rfl rfl rfl ?_
  refine v_nil ?_
  refine d_q rfl rfl rfl rfl rfl ?_
  refine v_load_vw (.c (.v _)) lay2 rfl rfl rfl ?_
  refine v_nil ?_
  refine d_q rfl rfl rfl rfl rfl ?_
  refine v_move rfl ?_
  refine v_nil ?_
  refine d_q rfl rfl rfl rfl rfl ?_
  refine v_sub lay2 rfl rfl (i64r (by omega)) ?_
  refine v_nil ?_
  refine d_e rfl rfl rfl ?_
  refine v_store (H' := [⟨[_, _, _, _, _, _, _, _], 80, true⟩]) lay80 rfl rfl rfl rfl rfl rfl ?_
  refine v_nil ⟨⟨ag_load_vw (.c (.v _)) lay2 rfl rfl rfl, trivial⟩, ?_⟩
  refine d_q rfl rfl rfl rfl rfl ?_
  refine v_assign rfl ?_
  refine v_nil ?_
  refine d_nil ?_
  refine q_n ?_
  refine w_ret (q_r (q_br (q_r (q_r (q_br (q_r ?_))))))
  refine r_r rfl ?_
  rw [← hp, at_at hi1, if_neg hr3, if_pos hr4]
  exact a_tup (.cons (a_agg (.cons tr_v (.cons tr_v (.cons tr_v (.cons tr_v (.cons tr_v (.cons tr_v (.cons tr_v (.cons tr_v .nil))))))))) (.cons tr_v .nil))
theorem c57 (xs : List Slo) (b f : Int) (t : Int) (hk : okP xs b f) (n : Nat) (hn : cyc xs b = n) (ht : 0 ≤ t ∧ t ≤ 1000000) : PureC X 57 [.c (.vw false (pln true xs b f) 0), cI t] (cI ((t - f) % n)) := by
  refine PureC.of_body (drawD_ok X) (fun _ _ => Go.Proofs.Try.call57 _ _) Go.Proofs.Try.func57 rfl (n := 20) rfl ?_
  obtain ⟨n1, n2, n3, n4, n5⟩ := ok_n hk hn
  have hT := tmod_in (a := t) (show (1 : Int) ≤ n by omega)
  refine w_seq ?_
  refine w_reg rfl ?_
  refine v_assign (c := .v (.int .i64 0)) rfl ?_
  refine v_nil ?_
  refine q_n ?_
  refine w_seq ?_
  refine w_reg rfl ?_
  refine v_move rfl ?_
  refine v_call (c33n _ _ _ hk hn) rfl rfl rfl (.cons vw_vw .nil) ?_
  refine v_assign rfl ?_
  refine v_nil ?_
  refine q_n ?_
  refine w_seq ?_
  refine w_draw [0, 0, 3, 0, 8, 24, 56, 127, 0, 511, 0, 2047, 4095] [⟨0, 0, []⟩, ⟨1, 0, []⟩, ⟨2, 0, []⟩, ⟨3, 0, []⟩, ⟨4, 0, []⟩, ⟨5, 0, []⟩, ⟨6, 0, []⟩, ⟨7, 0, []⟩, ⟨8, 0, []⟩, ⟨9, 0, []⟩, ⟨10, 0, []⟩, ⟨11, 0, []⟩, ⟨12, 0, []⟩] rfl rfl ?_
  refine d_q rfl rfl rfl rfl rfl ?_
  refine v_move rfl ?_
  refine v_nil ?_
  refine d_q rfl rfl rfl rfl rfl ?_
  refine v_move rfl ?_
  refine v_nil ?_
  refine d_q rfl rfl rfl rfl rfl ?_
  refine v_rem lay2 rfl rfl (by omega) ?_
  refine v_nil ?_
  refine d_q rfl rfl rfl rfl rfl ?_
  refine v_move rfl ?_
  refine v_nil ?_
  refine d_q rfl rfl rfl rfl rfl ?_
  refine v_nil_vw rfl ?_
  refine v_nil ?_
  refine d_q rfl rfl rfl rfl rfl ?_
  refine v_fa_vw (off' := 2) lay28 rfl rfl rfl ?_
  refine v_nil ?_
  refine d_q rfl rfl rfl rfl rfl ?_
  refine v_load_vw (.c (.v _)) lay2 rfl rfl rfl ?_
  refine v_nil ?_
  refine d_q rfl rfl rfl rfl rfl ?_
  refine v_sub lay2 rfl rfl (i64r (by omega)) ?_
  refine v_nil ?_
  refine d_q rfl rfl rfl rfl rfl ?_
  refine v_move rfl ?_
  refine v_nil ?_
  refine d_q rfl rfl rfl rfl rfl ?_
  refine v_add lay2 rfl rfl (i64r (by omega)) ?_
  refine v_nil ?_
  refine d_q rfl rfl rfl rfl rfl ?_
  refine v_move rfl ?_
  refine v_nil ?_
  refine d_q rfl rfl rfl rfl rfl ?_
  refine v_rem lay2 rfl rfl (by omega) ?_
  refine v_nil ?_
  refine d_q rfl rfl rfl rfl rfl ?_
  refine v_assign rfl ?_
  refine v_nil ?_
  refine d_nil ?_
  refine q_n ?_
  refine w_ret ?_
  refine r_r rfl ?_
  exact a_i (pl_eq (by omega) ht.1 ⟨n3, n4⟩)
theorem c65 (xs : List Slo) (b f : Int) (hk : okP xs b f) (m n : Nat) (hn : cyc xs b = n) (hm : m < 8) : PureC X 65 [.c (.vw false (pln true xs b f) 0), cI m] (.tup [.c (.sl true n 1 (flat bo (gr0 xs b m n))), cI (cnb (fun k : Nat => gr xs b m k) n)]) := by
  refine PureC.of_body (drawD_ok X) (fun _ _ => Go.Proofs.Try.call65 _ _) Go.Proofs.Try.func65 rfl (n := 37) rfl ?_
  obtain ⟨n1, n2, n3, n4, n5⟩ := ok_n hk hn
  refine w_seq ?_
  refine w_reg rfl ?_
  refine v_assign rfl ?_
  refine v_assign (c := .v (.int .i64 0)) rfl ?_
  refine v_nil ?_
  refine q_n ?_
  refine w_seq ?_
  refine w_reg rfl ?_
  refine v_lit (flat bo []) (H' := [_]) lay73 lay4 rfl rfl ⟨by decide, by decide⟩ rfl rfl ?_
  refine v_assign rfl ?_
  refine v_nil ?_
  refine q_n ?_
  refine w_seq ?_
  refine w_reg rfl ?_
  refine v_assign (c := .v (.int .i64 0)) rfl ?_
  refine v_nil ?_
  refine q_n ?_
  refine w_seq ?_
  refine w_seq ?_
  refine w_reg rfl ?_
  refine v_assign (c := .v (.int .i64 0)) rfl ?_
  refine v_nil ?_
  refine q_n ?_
  refine w_block ?_
  refine w_loop (fun k sl H => ∃ i : Nat, k = n - i ∧ i ≤ n ∧ sl = sls [(0, .c (.vw false (pln true xs b f) 0)), (1, cI m), (6, .c (.mu 0 0 i 1)), (7, cI (cnb (fun k : Nat => gr xs b m k) i)), (8, cI i)] ∧ H = [⟨flat bo ((List.range i).map fun k : Nat => gr xs b m k), 4, true⟩]) ?_ ?_
  · refine ⟨_, _, _, ?_, 0, rfl, Nat.zero_le _, rfl, rfl⟩
    exact turn [some 0] rfl rfl rfl ⟨⟨_, rfl, trc_flat bo_sc (xs := []) rfl⟩, trivial⟩ ⟨tr_vw, tr_v, tr_mun rfl rfl, tr_v, tr_v, trivial⟩
  rintro k sl H ⟨i, rfl, hi, rfl, rfl⟩
  have hcl := cnb_le (F := fun k : Nat => gr xs b m k) (i := i)
  refine w_seq ?_
  refine w_seq ?_
  refine w_reg rfl ?_
  refine v_move rfl ?_
  refine v_move rfl ?_
  refine v_call (c33n _ _ _ hk hn) rfl rfl rfl (.cons vw_vw .nil) ?_
  refine v_lss lay2 rfl rfl (fun h1 => ?_) (fun h1 => ?_)
  rotate_left
  · refine v_nil ?_
    refine q_n ?_
    refine w_f rfl ?_
    refine w_exit ?_
    refine q_e ?_
    refine q_e ?_
    refine q_hit ?_
    refine q_n ?_
    refine w_seq ?_
    refine w_reg rfl ?_
    refine v_move rfl ?_
    refine v_move rfl ?_
    refine v_assign rfl ?_
    refine v_assign rfl ?_
    refine v_nil ?_
    refine q_n ?_
    refine w_ret ?_
    refine r_r rfl ?_
    obtain rfl : i = n := by omega
    exact a_tup (.cons (a_flat2 bo_sc bo_len rfl rfl (by simp [gr0]) rfl) (.cons tr_v .nil))
  refine v_nil ?_
  refine q_n ?_
  refine w_t rfl ?_
  refine w_skip ?_
  refine q_n ?_
  refine w_seq ?_
  refine w_block ?_
  refine w_seq ?_
  refine w_reg rfl ?_
  refine v_move rfl ?_
  refine v_move rfl ?_
  refine v_call (c56 _ _ _ _ hk.1.2.1 hk.1.2.2 n5 (by omega)) rfl rfl rfl (.cons vw_vw (.cons vw_v .nil)) ?_
  refine v_move_t rfl ?_
  refine v_extract_a rfl rfl ?_
  refine v_extract_c rfl rfl ?_
  refine v_alloc (m := 1) (H' := [_, ⟨[.v _, .v _, .v _, .v _, .v _, .v _, .v _, .v _], 80, true⟩]) lay80 rfl rfl ?_
  refine v_store (H' := [_, ⟨[_, _, _, _, _, _, _, _], 80, true⟩]) lay80 rfl rfl rfl rfl rfl rfl ?_
  refine v_assign rfl ?_
  refine v_nil ?_
  refine q_n ?_
  refine w_seq ?_
  refine w_reg rfl ?_
  refine v_move rfl ?_
  refine v_move rfl ?_
  refine v_idx_arr_e (k := 1) (m) lay80 lay4 rfl rfl rfl (rfl) (hm) ?_
  refine v_load_flat_e (enc := bo) (ys := pl (atR xs b i).1) m 0 (.c (.v (.bool ((atR xs b i).1 ⟨m, hm⟩)))) bo_len lay4 rfl rfl (by omega) hm (by decide) (pl_ld _ hm _) ?_
  refine v_lit (flat bo [(atR xs b i).1 ⟨m, hm⟩]) (H' := [_, _, _]) lay73 lay4 rfl rfl ⟨by decide, by decide⟩ rfl rfl ?_
  refine v_app_flat (H' := [_, _, _, _]) bo_sc bo_len lay73 lay4 rfl rfl (by simp) rfl rfl (by simp) rfl rfl (by unfold maxLen; simp only []; omega) rfl rfl ?_
  refine v_assign rfl ?_
  refine v_nil ?_
  refine q_n ?_
  refine w_seq ?_
  refine w_reg rfl ?_
  refine v_move rfl ?_
  refine v_idx_arr_e (k := 1) (m) lay80 lay4 rfl rfl rfl (rfl) (hm) ?_
  refine v_load_flatb (enc := bo) (ys := pl (atR xs b i).1) m 0 bo_len lay4 rfl rfl (by omega) hm (by decide) (pl_ld _ hm _) (fun h2 => ?_) (fun h2 => ?_)
  rotate_left
  · have hg := h2
    refine v_nil ?_
    refine q_n ?_
    refine w_f rfl ?_
    refine w_skip ?_
    refine q_bn ?_
    refine q_n ?_
    refine w_reg rfl ?_
    refine v_move rfl ?_
    refine v_add lay2 rfl rfl (i64r (by omega)) ?_
    refine v_assign rfl ?_
    refine v_nil ?_
    refine q_n ?_
    rw [gr_eq hm] at hg
    refine ⟨_, _, _, ?_, ⟨i + 1, rfl, by omega, rfl, rfl⟩, by omega⟩
    exact turn [some 3] rfl rfl rfl ⟨⟨_, rfl, trc_flat bo_sc (snoc_eq (fun k : Nat => gr xs b m k) i (gr_eq hm).symm)⟩, trivial⟩ ⟨tr_vw, tr_v, tr_mun rfl (by simp), tr_i (cnb_f hg), tr_v, trivial⟩
  have hg := h2
  refine v_nil ?_
  refine q_n ?_
  refine w_t rfl ?_
  refine w_reg rfl ?_
  refine v_move rfl ?_
  refine v_add lay2 rfl rfl (i64r (by omega)) ?_
  refine v_assign rfl ?_
  refine v_nil ?_
  refine q_bn ?_
  refine q_n ?_
  refine w_reg rfl ?_
  refine v_move rfl ?_
  refine v_add lay2 rfl rfl (i64r (by omega)) ?_
  refine v_assign rfl ?_
  refine v_nil ?_
  refine q_n ?_
  rw [gr_eq hm] at hg
  refine ⟨_, _, _, ?_, ⟨i + 1, rfl, by omega, rfl, rfl⟩, by omega⟩
  exact turn [some 3] rfl rfl rfl ⟨⟨_, rfl, trc_flat bo_sc (snoc_eq (fun k : Nat => gr xs b m k) i (gr_eq hm).symm)⟩, trivial⟩ ⟨tr_vw, tr_v, tr_mun rfl (by simp), tr_i (cnb_t hg), tr_v, trivial⟩
theorem c45 (xs : List Slo) (b f : Int) (hk : okP xs b f) (m n : Nat) (hn : cyc xs b = n) (hm : m < 8) (hg : grn xs b m n) : PureC X 45 [.c (.vw false (pln true xs b f) 0), cI m] (cI (bgn (xs, b, f) m n)) := by
  refine PureC.of_body (drawD_ok X) (fun _ _ => Go.Proofs.Try.call45 _ _) Go.Proofs.Try.func45 rfl (n := 25) rfl ?_
  obtain ⟨n1, n2, n3, n4, n5⟩ := ok_n hk hn
  refine w_seq ?_
  refine w_reg rfl ?_
  refine v_assign (c := .v (.int .i64 0)) rfl ?_
  refine v_nil ?_
  refine q_n ?_
  refine w_seq ?_
  refine w_reg rfl ?_
  refine v_move rfl ?_
  refine v_move rfl ?_
  refine v_call (c65 _ _ _ hk m n hn hm) rfl rfl rfl (.cons vw_vw (.cons vw_v .nil)) ?_
  refine v_move_t rfl ?_
  refine v_extract_c rfl rfl ?_
  refine v_extract_c rfl rfl ?_
  refine v_assign rfl ?_
  refine v_assign rfl ?_
  refine v_nil ?_
  refine q_n ?_
  refine w_seq ?_
  refine w_seq ?_
  refine w_reg rfl ?_
  refine v_assign (c := .v (.int .i64 0)) rfl ?_
  refine v_nil ?_
  refine q_n ?_
  refine w_block ?_
  refine w_loop (fun k sl H => ∃ i : Nat, k = n - i ∧ i ≤ n ∧ (∀ x ∈ (gr0 xs b m n).take i, ¬ x = true) ∧ sl = sls [(5, .c (.sl false n 1 (flat bo (gr0 xs b m n)))), (7, cI i)] ∧ H = []) ?_ ?_
  · refine ⟨_, _, _, ?_, 0, rfl, Nat.zero_le _, by simp, rfl, rfl⟩
    exact turn0 ⟨(.c (.sl (fun h => by cases h))), tr_v, trivial⟩
  rintro k sl H ⟨i, rfl, hi, hp, rfl, rfl⟩
  refine w_seq ?_
  refine w_seq ?_
  refine w_reg rfl ?_
  refine v_move rfl ?_
  refine v_move rfl ?_
  refine v_len_sl lay73 rfl ?_
  refine v_lss lay3 rfl rfl (fun h1 => ?_) (fun h1 => ?_)
  rotate_left
  · refine v_nil ?_
    refine q_n ?_
    refine w_f rfl ?_
    refine w_exit ?_
    refine q_e ?_
    refine q_e ?_
    refine q_hit ?_
    refine q_n ?_
    refine w_seq ?_
    refine w_reg rfl ?_
    refine v_assign (c := .v (.int .i64 0)) rfl ?_
    refine v_nil ?_
    refine q_n ?_
    refine w_ret ?_
    refine r_r rfl ?_
    obtain rfl : i = n := by omega
    exfalso
    obtain ⟨x, hx, h2⟩ := gr0_ex hg
    rw [List.take_of_length_le (by rw [gr0_len]; exact Nat.le_refl _)] at hp
    exact hp x hx h2
  have hi1 : i < (gr0 xs b m n).length := by rw [gr0_len]; omega
  refine v_nil ?_
  refine q_n ?_
  refine w_t rfl ?_
  refine w_skip ?_
  refine q_n ?_
  refine w_seq ?_
  refine w_block ?_
  refine w_seq ?_
  refine w_reg rfl ?_
  refine v_move rfl ?_
  refine v_move rfl ?_
  refine v_idx_e (k := 1) (i) bo_len lay73 lay4 rfl rfl rfl (by rw [gr0_len]) rfl (rfl) (hi1) ?_
  refine v_load_vwb lay4 rfl rfl rfl (fun h3 => ?_) (fun h3 => ?_)
  · have hgb := h3
    refine v_nil ?_
    refine q_n ?_
    refine w_t rfl ?_
    refine w_seq ?_
    refine w_reg rfl ?_
    refine v_move rfl ?_
    refine v_assign rfl ?_
    refine v_nil ?_
    refine q_n ?_
    refine w_ret (q_br (q_r (q_r (q_br (q_r ?_)))))
    refine r_r rfl ?_
    exact a_i (by unfold bgn; simp only []; rw [gr0_eq]; exact (fix_hit hi1 hp hgb).symm)
  have hgb := h3
  refine v_nil ?_
  refine q_n ?_
  refine w_f rfl ?_
  refine w_skip ?_
  refine q_bn ?_
  refine q_n ?_
  refine w_reg rfl ?_
  refine v_move rfl ?_
  refine v_add lay3 rfl rfl (i64r (by omega)) ?_
  refine v_assign rfl ?_
  refine v_nil ?_
  refine q_n ?_
  refine ⟨_, _, _, ?_, ⟨i + 1, rfl, by omega, all_step hi1 hp (by rw [hgb]; decide), rfl, rfl⟩, by omega⟩
  exact turn0 ⟨tr_sl, tr_v, trivial⟩
end Go.VL
namespace Go.VL
open Go.RowKit
set_option maxRecDepth 20000
set_option maxHeartbeats 8000000
theorem c64 (a : Int) : PureC X 64 [cI a] (cB (decide (0 ≤ a ∧ a ≤ 7))) := by
  refine PureC.of_body (drawD_ok X) (fun _ _ => Go.Proofs.Try.call64 _ _) Go.Proofs.Try.func64 rfl (n := 5) rfl ?_
  refine w_seq ?_
  refine w_reg rfl ?_
  refine v_assign (c := .v (.bool false)) rfl ?_
  refine v_nil ?_
  refine q_n ?_
  refine w_seq ?_
  refine w_reg rfl ?_
  refine v_move rfl ?_
  refine v_callb (cIn _ _ _) rfl rfl (.cons vw_v (.cons vw_v (.cons vw_v .nil))) (fun h1 => ?_) (fun h1 => ?_)
  · refine v_assign rfl ?_
    refine v_nil ?_
    refine q_n ?_
    refine w_ret ?_
    refine r_r rfl ?_
    exact a_b (by simp_all)
  refine v_assign rfl ?_
  refine v_nil ?_
  refine q_n ?_
  refine w_ret ?_
  refine r_r rfl ?_
  exact a_b (by simp_all)
theorem c44 (ps : List Pln) (ts : List Int) (m n : Nat) (hW : okW ps ts m n) : PureC X 44 [.c (pls false ps), .c (ints false ts), cI m] (cI 0) := by
  refine PureC.of_body (drawD_ok X) (fun _ _ => Go.Proofs.Try.call44 _ _) Go.Proofs.Try.func44 rfl (n := 86) rfl ?_
  have w1 := hW.ne
  have w2 := hW.le
  have w3 := hW.tl
  have w4 := hW.mm
  have h0 := hW.at (show 0 < ps.length by omega)
  obtain ⟨z1, z2, z3, z4, z5⟩ := ok_n h0.1 h0.2.1
  refine w_seq ?_
  refine w_reg rfl ?_
  refine v_assign (c := .v (.int .i64 0)) rfl ?_
  refine v_nil ?_
  refine q_n ?_
  refine w_seq ?_
  refine w_seq ?_
  refine w_reg rfl ?_
  refine v_assign (c := .v (.int .i64 0)) rfl ?_
  refine v_nil ?_
  refine q_n ?_
  refine w_block ?_
  refine w_loop (fun k sl H => ∃ i : Nat, k = ps.length - i ∧ i ≤ ps.length ∧ sl = sls [(0, .c (pls false ps)), (1, .c (ints false ts)), (2, cI m), (7, cI i)] ∧ H = []) ?_ ?_
  · refine ⟨_, _, _, ?_, 0, rfl, Nat.zero_le _, rfl, rfl⟩
    exact turn0 ⟨tr_sl, tr_sl, tr_v, tr_v, trivial⟩
  rintro k sl H ⟨i, rfl, hi, rfl, rfl⟩
  refine w_seq ?_
  refine w_seq ?_
  refine w_reg rfl ?_
  refine v_move rfl ?_
  refine v_move rfl ?_
  refine v_len_sl lay38 rfl ?_
  refine v_lss lay3 rfl rfl (fun h1 => ?_) (fun h1 => ?_)
  · have hi2 : i < ps.length := by omega
    obtain ⟨hk, hn, hg⟩ := hW.at hi2
    obtain ⟨n1, n2, n3, n4, n5⟩ := ok_n hk hn
    refine v_nil ?_
    refine q_n ?_
    refine w_t rfl ?_
    refine w_skip ?_
    refine q_n ?_
    refine w_seq ?_
    refine w_block ?_
    refine w_seq ?_
    refine w_reg rfl ?_
    refine v_move rfl ?_
    refine v_move rfl ?_
    refine v_idx_e (k := 3) (i) plc_len lay38 lay28 rfl rfl rfl (rfl) rfl (rfl) (hi2) ?_
    refine v_callb (c31 _ _ _ (by omega)) rfl rfl (.cons vw_vw .nil) (fun h3 => ?_) (fun h3 => ?_)
    rotate_left
    · exact absurd hk h3
    refine v_not false rfl rfl ?_
    refine v_nil ?_
    refine q_n ?_
    refine w_f rfl ?_
    refine w_skip ?_
    refine q_bn ?_
    refine q_n ?_
    refine w_reg rfl ?_
    refine v_move rfl ?_
    refine v_add lay3 rfl rfl (i64r (by omega)) ?_
    refine v_assign rfl ?_
    refine v_nil ?_
    refine q_n ?_
    refine ⟨_, _, _, ?_, ⟨i + 1, rfl, by omega, rfl, rfl⟩, by omega⟩
    exact turn0 ⟨tr_sl, tr_sl, tr_v, tr_i (by push_cast; omega), trivial⟩
  refine v_nil ?_
  refine q_n ?_
  refine w_f rfl ?_
  refine w_exit ?_
  refine q_e ?_
  refine q_e ?_
  refine q_hit ?_
  refine q_n ?_
  refine w_seq ?_
  refine w_reg rfl ?_
  refine v_move rfl ?_
  refine v_len_sl lay38 rfl ?_
  refine v_callb (cIn _ _ _) rfl rfl (.cons vw_v (.cons vw_v (.cons vw_v .nil))) (fun h4 => ?_) (fun h4 => ?_)
  rotate_left
  · exact absurd (by omega) h4
  refine v_move rfl ?_
  refine v_guard_on rfl rfl ?_
  refine v_move rfl ?_
  refine v_guard_on rfl rfl ?_
  refine v_len_sl lay36 rfl ?_
  refine v_guard_on rfl rfl ?_
  refine v_add lay3 rfl rfl (i64r (by omega)) ?_
  refine v_guard_on rfl rfl ?_
  refine v_move rfl ?_
  refine v_guard_on rfl rfl ?_
  refine v_len_sl lay38 rfl ?_
  refine v_guard_on rfl rfl ?_
  refine v_eql lay3 rfl rfl (fun h5 => ?_) (fun h5 => ?_)
  rotate_left
  · exact absurd (by omega) h5
  refine v_pick_t rfl rfl ?_
  refine v_move rfl ?_
  refine v_guard_on rfl rfl ?_
  refine v_move rfl ?_
  refine v_guard_on rfl rfl ?_
  refine v_callb (c64 _) rfl rfl (.cons vw_v .nil) (fun h6 => ?_) (fun h6 => ?_)
  rotate_left
  · exact absurd (by omega) h6
  refine v_pick_t rfl rfl ?_
  refine v_assign rfl ?_
  refine v_nil ?_
  refine q_n ?_
  refine w_seq ?_
  refine w_seq ?_
  refine w_reg rfl ?_
  refine v_assign (c := .v (.int .i64 0)) rfl ?_
  refine v_nil ?_
  refine q_n ?_
  refine w_block ?_
  refine w_loop (fun k sl H => ∃ i : Nat, k = ts.length - i ∧ i ≤ ts.length ∧ sl = sls [(0, .c (pls false ps)), (1, .c (ints false ts)), (2, cI m), (8, cB true), (9, cI i)] ∧ H = []) ?_ ?_
  · refine ⟨_, _, _, ?_, 0, rfl, Nat.zero_le _, rfl, rfl⟩
    exact turn0 ⟨tr_sl, tr_sl, tr_v, tr_v, tr_v, trivial⟩
  rintro k sl H ⟨i, rfl, hi, rfl, rfl⟩
  refine w_seq ?_
  refine w_seq ?_
  refine w_reg rfl ?_
  refine v_move rfl ?_
  refine v_move rfl ?_
  refine v_len_sl lay36 rfl ?_
  refine v_lss lay3 rfl rfl (fun h7 => ?_) (fun h7 => ?_)
  · have hi2 : i < ts.length := by omega
    have htj := hW.tr _ (List.getElem_mem hi2)
    refine v_move rfl ?_
    refine v_guard_on rfl rfl ?_
    refine v_move rfl ?_
    refine v_pick_t rfl rfl ?_
    refine v_nil ?_
    refine q_n ?_
    refine w_t rfl ?_
    refine w_skip ?_
    refine q_n ?_
    refine w_seq ?_
    refine w_block ?_
    refine w_reg rfl ?_
    refine v_move rfl ?_
    refine v_move rfl ?_
    refine v_idx_e (k := 1) (i) int_len lay36 lay2 rfl rfl rfl (rfl) rfl (rfl) (hi2) ?_
    refine v_load_vw (.c (.v _)) lay2 rfl rfl rfl ?_
    refine v_callb (cIn _ _ _) rfl rfl (.cons vw_v (.cons vw_v (.cons vw_v .nil))) (fun h9 => ?_) (fun h9 => ?_)
    rotate_left
    · exact absurd (by omega) h9
    refine v_assign rfl ?_
    refine v_nil ?_
    refine q_bn ?_
    refine q_n ?_
    refine w_reg rfl ?_
    refine v_move rfl ?_
    refine v_add lay3 rfl rfl (i64r (by omega)) ?_
    refine v_assign rfl ?_
    refine v_nil ?_
    refine q_n ?_
    refine ⟨_, _, _, ?_, ⟨i + 1, rfl, by omega, rfl, rfl⟩, by omega⟩
    exact turn0 ⟨tr_sl, tr_sl, tr_v, tr_v, tr_i (by push_cast; omega), trivial⟩
  refine v_move rfl ?_
  refine v_guard_off rfl rfl rfl ?_
  refine v_pick_f (v := .v (.bool false)) rfl rfl ?_
  refine v_nil ?_
  refine q_n ?_
  refine w_f rfl ?_
  refine w_exit ?_
  refine q_e ?_
  refine q_e ?_
  refine q_hit ?_
  refine q_n ?_
  refine w_seq ?_
  refine w_seq ?_
  refine w_reg rfl ?_
  refine v_move rfl ?_
  refine v_not false rfl rfl ?_
  refine v_nil ?_
  refine q_n ?_
  refine w_f rfl ?_
  refine w_skip ?_
  refine q_n ?_
  refine w_seq ?_
  refine w_seq ?_
  refine w_reg rfl ?_
  refine v_assign (c := .v (.int .i64 1)) rfl ?_
  refine v_nil ?_
  refine q_n ?_
  refine w_block ?_
  refine w_loop (fun k sl H => ∃ i : Nat, k = ps.length - i ∧ 1 ≤ i ∧ i ≤ ps.length ∧ sl = sls [(0, .c (pls false ps)), (1, .c (ints false ts)), (2, cI m), (10, cI i)] ∧ H = []) ?_ ?_
  · refine ⟨_, _, _, ?_, 1, rfl, by omega, by omega, rfl, rfl⟩
    exact turn0 ⟨tr_sl, tr_sl, tr_v, tr_v, trivial⟩
  rintro k sl H ⟨i, rfl, hi1, hi, rfl, rfl⟩
  refine w_seq ?_
  refine w_seq ?_
  refine w_reg rfl ?_
  refine v_move rfl ?_
  refine v_move rfl ?_
  refine v_len_sl lay38 rfl ?_
  refine v_lss lay3 rfl rfl (fun h10 => ?_) (fun h10 => ?_)
  · have hi2 : i < ps.length := by omega
    obtain ⟨hk, hn, hg⟩ := hW.at hi2
    obtain ⟨n1, n2, n3, n4, n5⟩ := ok_n hk hn
    refine v_nil ?_
    refine q_n ?_
    refine w_t rfl ?_
    refine w_skip ?_
    refine q_n ?_
    refine w_seq ?_
    refine w_block ?_
    refine w_seq ?_
    refine w_draw [0, 0, 3, 7, 0, 16, 63, 127] [⟨0, 0, []⟩, ⟨1, 0, []⟩, ⟨2, 0, []⟩, ⟨3, 0, []⟩, ⟨4, 0, []⟩, ⟨5, 0, []⟩, ⟨6, 0, []⟩, ⟨7, 0, []⟩] rfl rfl ?_
    refine d_q rfl rfl rfl rfl rfl ?_
    refine v_move rfl ?_
    refine v_nil ?_
    refine d_q rfl rfl rfl rfl rfl ?_
    refine v_move rfl ?_
    refine v_nil ?_
    refine d_q rfl rfl rfl rfl rfl ?_
    refine v_idx_e (k := 3) (i) plc_len lay38 lay28 rfl rfl rfl (rfl) rfl (rfl) (hi2) ?_
    refine v_nil ?_
    refine d_call (c33n _ _ _ hk hn) rfl rfl rfl rfl rfl (.cons vw_vw .nil) ?_
    refine d_q rfl rfl rfl rfl rfl ?_
    refine v_move rfl ?_
    refine v_nil ?_
    refine d_q rfl rfl rfl rfl rfl ?_
    refine v_idx_e (k := 3) (0) plc_len lay38 lay28 rfl rfl rfl (rfl) rfl (rfl) (by omega) ?_
    refine v_nil ?_
    refine d_call (c33n _ _ _ h0.1 h0.2.1) rfl rfl rfl rfl rfl (.cons vw_vw .nil) ?_
    refine d_q rfl rfl rfl rfl rfl ?_
    refine v_neq lay2 rfl rfl (fun h13 => ?_) (fun h13 => ?_)
    · exact absurd rfl h13
    refine v_nil ?_
    refine d_nil ?_
    refine q_n ?_
    refine w_f rfl ?_
    refine w_skip ?_
    refine q_bn ?_
    refine q_n ?_
    refine w_reg rfl ?_
    refine v_move rfl ?_
    refine v_add lay3 rfl rfl (i64r (by omega)) ?_
    refine v_assign rfl ?_
    refine v_nil ?_
    refine q_n ?_
    refine ⟨_, _, _, ?_, ⟨i + 1, rfl, by omega, by omega, rfl, rfl⟩, by omega⟩
    exact turn0 ⟨tr_sl, tr_sl, tr_v, tr_i (by push_cast; omega), trivial⟩
  refine v_nil ?_
  refine q_n ?_
  refine w_f rfl ?_
  refine w_exit ?_
  refine q_e ?_
  refine q_e ?_
  refine q_hit ?_
  refine q_n ?_
  refine w_seq ?_
  refine w_seq ?_
  refine w_reg rfl ?_
  refine v_assign (c := .v (.int .i64 0)) rfl ?_
  refine v_nil ?_
  refine q_n ?_
  refine w_block ?_
  refine w_loop (fun k sl H => ∃ i : Nat, k = ps.length - i ∧ i ≤ ps.length ∧ sl = sls [(0, .c (pls false ps)), (1, .c (ints false ts)), (2, cI m), (11, cI i)] ∧ H = []) ?_ ?_
  · refine ⟨_, _, _, ?_, 0, rfl, Nat.zero_le _, rfl, rfl⟩
    exact turn0 ⟨tr_sl, tr_sl, tr_v, tr_v, trivial⟩
  rintro k sl H ⟨i, rfl, hi, rfl, rfl⟩
  refine w_seq ?_
  refine w_seq ?_
  refine w_reg rfl ?_
  refine v_move rfl ?_
  refine v_move rfl ?_
  refine v_len_sl lay38 rfl ?_
  refine v_lss lay3 rfl rfl (fun h14 => ?_) (fun h14 => ?_)
  rotate_left
  · refine v_nil ?_
    refine q_n ?_
    refine w_f rfl ?_
    refine w_exit ?_
    refine q_e ?_
    refine q_e ?_
    refine q_hit ?_
    refine q_n ?_
    refine w_seq ?_
    refine w_reg rfl ?_
    refine v_assign (c := .v (.int .i64 0)) rfl ?_
    refine v_nil ?_
    refine q_n ?_
    refine w_ret ?_
    refine r_r rfl ?_
    exact a_i rfl
  have hi2 : i < ps.length := by omega
  obtain ⟨hk, hn, hg⟩ := hW.at hi2
  obtain ⟨n1, n2, n3, n4, n5⟩ := ok_n hk hn
  refine v_nil ?_
  refine q_n ?_
  refine w_t rfl ?_
  refine w_skip ?_
  refine q_n ?_
  refine w_seq ?_
  refine w_block ?_
  refine w_seq ?_
  refine w_reg rfl ?_
  refine v_move rfl ?_
  refine v_move rfl ?_
  refine v_idx_e (k := 3) (i) plc_len lay38 lay28 rfl rfl rfl (rfl) rfl (rfl) (hi2) ?_
  refine v_move rfl ?_
  refine v_call (c65 _ _ _ hk m n hn w4) rfl rfl rfl (.cons vw_vw (.cons vw_v .nil)) ?_
  refine v_move_t rfl ?_
  refine v_extract_c rfl rfl ?_
  refine v_extract_c rfl rfl ?_
  refine v_assign rfl ?_
  refine v_assign rfl ?_
  refine v_nil ?_
  refine q_n ?_
  refine w_seq ?_
  refine w_reg rfl ?_
  refine v_move rfl ?_
  refine v_eql lay2 rfl rfl (fun h16 => ?_) (fun h16 => ?_)
  · exact absurd h16 (by have := cnb_grn hg; omega)
  refine v_nil ?_
  refine q_n ?_
  refine w_f rfl ?_
  refine w_skip ?_
  refine q_bn ?_
  refine q_n ?_
  refine w_reg rfl ?_
  refine v_move rfl ?_
  refine v_add lay3 rfl rfl (i64r (by omega)) ?_
  refine v_assign rfl ?_
  refine v_nil ?_
  refine q_n ?_
  refine ⟨_, _, _, ?_, ⟨i + 1, rfl, by omega, rfl, rfl⟩, by omega⟩
  exact turn0 ⟨tr_sl, tr_sl, tr_v, tr_i (by push_cast; omega), trivial⟩
theorem c34 (xs : List Slo) (b f q : Int) (hx : xs.length ≤ 2 ^ 40) : PureC X 34 [.c (.vw false (pln true xs b f) 0), cI q] (.agg (pln true xs b q)) := (c34l xs b f q hx).pure pl_frz
theorem c45p (p : Pln) (hk : okP p.1 p.2.1 p.2.2) (m n : Nat) (hn : cyc p.1 p.2.1 = n) (hm : m < 8) (hg : grn p.1 p.2.1 m n) : PureC X 45 [.c (.vw false (plc p) 0), cI m] (cI (bgn p m n)) := c45 p.1 p.2.1 p.2.2 hk m n hn hm hg
theorem c14 (ps : List Pln) (ts : List Int) (m n : Nat) (hW : okW ps ts m n) : PureC X 14 [.c (pls false ps), .c (ints false ts), cI m] (.tup [.c (.sl true ps.length 3 (flat plc ((List.range ps.length).map (wvp ps ts m n)))), cI 0]) := by
  refine PureC.of_body (drawD_ok X) (fun _ _ => Go.Proofs.Try.call14 _ _) Go.Proofs.Try.func14 rfl (n := 75) rfl ?_
  have w1 := hW.ne
  have w2 := hW.le
  have w3 := hW.tl
  have w4 := hW.mm
  have h0 := hW.at (show 0 < ps.length by omega)
  obtain ⟨z1, z2, z3, z4, z5⟩ := ok_n h0.1 h0.2.1
  refine w_seq ?_
  refine w_reg rfl ?_
  refine v_assign rfl ?_
  refine v_assign (c := .v (.int .i64 0)) rfl ?_
  refine v_nil ?_
  refine q_n ?_
  refine w_seq ?_
  refine w_seq ?_
  refine w_reg rfl ?_
  refine v_move rfl ?_
  refine v_move rfl ?_
  refine v_move rfl ?_
  refine v_call (c44 ps ts m n hW) rfl rfl rfl (.cons vw_sl (.cons vw_sl (.cons vw_v .nil))) ?_
  refine v_assign rfl ?_
  refine v_nil ?_
  refine q_n ?_
  refine w_seq ?_
  refine w_reg rfl ?_
  refine v_move rfl ?_
  refine v_neq lay2 rfl rfl (fun h1 => ?_) (fun h1 => ?_)
  · exact absurd rfl h1
  have hb0 := bgn_rng h0.2.2
  refine v_nil ?_
  refine q_n ?_
  refine w_f rfl ?_
  refine w_skip ?_
  refine q_n ?_
  refine w_seq ?_
  refine w_reg rfl ?_
  refine v_move rfl ?_
  refine v_idx_e (k := 3) (0) plc_len lay38 lay28 rfl rfl rfl (rfl) rfl (rfl) (by omega) ?_
  refine v_call (c33n _ _ _ h0.1 h0.2.1) rfl rfl rfl (.cons vw_vw .nil) ?_
  refine v_assign rfl ?_
  refine v_nil ?_
  refine q_n ?_
  refine w_seq ?_
  refine w_draw [0, 1, 0, 4, 12, 28, 63, 127, 255] [⟨0, 0, []⟩, ⟨1, 0, []⟩, ⟨2, 0, []⟩, ⟨3, 0, []⟩, ⟨4, 0, []⟩, ⟨5, 0, []⟩, ⟨6, 0, []⟩, ⟨7, 1, []⟩, ⟨8, 0, []⟩] rfl rfl ?_
  refine d_q rfl rfl rfl rfl rfl ?_
  refine v_move rfl ?_
  refine v_nil ?_
  refine d_q rfl rfl rfl rfl rfl ?_
  refine v_idx_e (k := 3) (0) plc_len lay38 lay28 rfl rfl rfl (rfl) rfl (rfl) (by omega) ?_
  refine v_nil ?_
  refine d_q rfl rfl rfl rfl rfl ?_
  refine v_move rfl ?_
  refine v_nil ?_
  refine d_q rfl rfl rfl rfl rfl ?_
  refine v_idx_e (k := 3) (0) plc_len lay38 lay28 rfl rfl rfl (rfl) rfl (rfl) (by omega) ?_
  refine v_nil ?_
  refine d_q rfl rfl rfl rfl rfl ?_
  refine v_fa_vw (off' := 2) lay28 rfl rfl rfl ?_
  refine v_nil ?_
  refine d_q rfl rfl rfl rfl rfl ?_
  refine v_load_vw (.c (.v _)) lay2 rfl rfl rfl ?_
  refine v_nil ?_
  refine d_call (c34 _ _ _ _ (by omega)) rfl rfl rfl rfl rfl (.cons vw_vw (.cons vw_v .nil)) ?_
  refine d_e rfl rfl rfl ?_
  refine v_lit (flat plc [(ps[0].1, ps[0].2.1, ps[0].2.2)]) (H' := [_]) lay38 lay28 rfl rfl ⟨by decide, by decide⟩ rfl rfl ?_
  refine v_nil ⟨again_nil, ?_⟩
  refine d_q rfl rfl rfl rfl rfl ?_
  refine v_assign rfl ?_
  refine v_nil ?_
  refine d_nil ?_
  refine q_n ?_
  refine w_seq ?_
  refine w_draw [0, 1, 3, 7, 0, 16, 0, 112, 255, 511] [⟨0, 0, []⟩, ⟨1, 0, []⟩, ⟨2, 0, []⟩, ⟨3, 0, []⟩, ⟨4, 0, []⟩, ⟨5, 0, []⟩, ⟨6, 0, []⟩, ⟨7, 0, []⟩, ⟨8, 0, []⟩, ⟨9, 0, []⟩] rfl rfl ?_
  refine d_q rfl rfl rfl rfl rfl ?_
  refine v_move rfl ?_
  refine v_nil ?_
  refine d_q rfl rfl rfl rfl rfl ?_
  refine v_idx_e (k := 3) (0) plc_len lay38 lay28 rfl rfl rfl (rfl) rfl (rfl) (by omega) ?_
  refine v_nil ?_
  refine d_q rfl rfl rfl rfl rfl ?_
  refine v_fa_vw (off' := 2) lay28 rfl rfl rfl ?_
  refine v_nil ?_
  refine d_q rfl rfl rfl rfl rfl ?_
  refine v_load_vw (.c (.v _)) lay2 rfl rfl rfl ?_
  refine v_nil ?_
  refine d_q rfl rfl rfl rfl rfl ?_
  refine v_move rfl ?_
  refine v_nil ?_
  refine d_q rfl rfl rfl rfl rfl ?_
  refine v_idx_e (k := 3) (0) plc_len lay38 lay28 rfl rfl rfl (rfl) rfl (rfl) (by omega) ?_
  refine v_nil ?_
  refine d_q rfl rfl rfl rfl rfl ?_
  refine v_move rfl ?_
  refine v_nil ?_
  refine d_call (c45p ps[0] h0.1 m n h0.2.1 w4 h0.2.2) rfl rfl rfl rfl rfl (.cons vw_vw (.cons vw_v .nil)) ?_
  refine d_q rfl rfl rfl rfl rfl ?_
  refine v_add lay2 rfl rfl (i64r (by omega)) ?_
  refine v_nil ?_
  refine d_q rfl rfl rfl rfl rfl ?_
  refine v_assign rfl ?_
  refine v_nil ?_
  refine d_nil ?_
  refine q_n ?_
  refine w_seq ?_
  refine w_seq ?_
  refine w_reg rfl ?_
  refine v_assign (c := .v (.int .i64 1)) rfl ?_
  refine v_nil ?_
  refine q_n ?_
  refine w_block ?_
  refine w_loop (fun k sl H => ∃ q : Nat, k = ps.length - (q + 1) ∧ q + 1 ≤ ps.length ∧ sl = sls [(0, .c (pls false ps)), (1, .c (ints false ts)), (2, cI m), (9, cI n), (10, .c (.mu 0 0 (q + 1) 3)), (11, cI ((pa ps 0).2.2 + bgn (pa ps 0) m n + sumT ts q)), (12, cI ((q + 1 : Nat) : Int))] ∧ H = [⟨flat plc ((List.range (q + 1)).map (wvp ps ts m n)), 28, true⟩]) ?_ ?_
  · have hw0 : wvp ps ts m n 0 = (ps[0].1, ps[0].2.1, ps[0].2.2) := by unfold wvp; rw [wof_0 (by rw [pa_at (show 0 < ps.length by omega)]; exact ⟨z3, z4⟩), pa_at (show 0 < ps.length by omega)] <;> rfl
    refine ⟨_, _, _, ?_, 0, rfl, by omega, rfl, rfl⟩
    exact turn [some 0] rfl rfl rfl ⟨⟨_, rfl, trc_flatz plc_sc (congrArg (fun z => flat plc [z]) hw0.symm)⟩, trivial⟩ ⟨tr_sl, tr_sl, tr_v, tr_v, tr_mun rfl rfl, tr_i (by rw [pa_at (show 0 < ps.length by omega), sumT_0]; exact (Int.add_zero _).symm), tr_v, trivial⟩
  rintro k sl H ⟨q, rfl, hi, rfl, rfl⟩
  refine w_seq ?_
  refine w_seq ?_
  refine w_reg rfl ?_
  refine v_move rfl ?_
  refine v_move rfl ?_
  refine v_len_sl lay38 rfl ?_
  refine v_lss lay3 rfl rfl (fun h7 => ?_) (fun h7 => ?_)
  rotate_left
  · refine v_nil ?_
    refine q_n ?_
    refine w_f rfl ?_
    refine w_exit ?_
    refine q_e ?_
    refine q_e ?_
    refine q_hit ?_
    refine q_n ?_
    refine w_seq ?_
    refine w_reg rfl ?_
    refine v_move rfl ?_
    refine v_assign rfl ?_
    refine v_assign (c := .v (.int .i64 0)) rfl ?_
    refine v_nil ?_
    refine q_n ?_
    refine w_ret ?_
    refine r_r rfl ?_
    obtain hqe : q + 1 = ps.length := by omega
    rw [← hqe]
    exact a_tup (.cons (a_flatz plc_sc plc_len rfl rfl (by simp) rfl) (.cons tr_v .nil))
  have hi2 : q + 1 < ps.length := by omega
  obtain ⟨hk, hn, hg⟩ := hW.at hi2
  obtain ⟨n1, n2, n3, n4, n5⟩ := ok_n hk hn
  have hq : q < ts.length := by omega
  have htq := hW.tr _ (List.getElem_mem hq)
  have hS := sumT_rng hW.tr (i := q) (by omega)
  have hbi := bgn_rng hg
  have hbz : 0 ≤ bgn (pa ps 0) m n ∧ bgn (pa ps 0) m n < n := by rw [pa_at (show 0 < ps.length by omega)]; exact hb0
  have hoz : 0 ≤ (pa ps 0).2.2 ∧ (pa ps 0).2.2 < n := by rw [pa_at (show 0 < ps.length by omega)]; exact ⟨z3, z4⟩
  have hT := tmod_in (a := (pa ps 0).2.2 + bgn (pa ps 0) m n + sumT ts q + ts[q] - bgn ps[q + 1] m n) (show (1 : Int) ≤ n by omega)
  have hwn : wvp ps ts m n (q + 1) = (ps[q + 1].1, ps[q + 1].2.1, (((pa ps 0).2.2 + bgn (pa ps 0) m n + sumT ts q + ts[q] - bgn ps[q + 1] m n).tmod n + n).tmod n) := by unfold wvp wof; rw [mo_eq (by omega), sumT_step hq, pa_at hi2, show (pa ps 0).2.2 + bgn (pa ps 0) m n + (sumT ts q + ts[q]) - bgn ps[q + 1] m n = (pa ps 0).2.2 + bgn (pa ps 0) m n + sumT ts q + ts[q] - bgn ps[q + 1] m n by omega]
  refine v_nil ?_
  refine q_n ?_
  refine w_t rfl ?_
  refine w_skip ?_
  refine q_n ?_
  refine w_seq ?_
  refine w_block ?_
  refine w_seq ?_
  refine w_reg rfl ?_
  refine v_move rfl ?_
  refine v_move rfl ?_
  refine v_move rfl ?_
  refine v_sub lay3 rfl rfl (i64r (by omega)) ?_
  refine v_idx_e (k := 1) (q) int_len lay36 lay2 rfl rfl rfl (rfl) rfl (by push_cast; omega) (hq) ?_
  refine v_load_vw (.c (.v _)) lay2 rfl rfl rfl ?_
  refine v_add lay2 rfl rfl (i64r (by omega)) ?_
  refine v_assign rfl ?_
  refine v_nil ?_
  refine q_n ?_
  refine w_draw [0, 0, 0, 6, 0, 0, 0, 96, 0, 480, 1008, 0, 4080, 0, 16368, 0, 65520, 131070, 262142, 524287, 1048575] [⟨0, 0, []⟩, ⟨1, 0, []⟩, ⟨2, 0, []⟩, ⟨3, 0, []⟩, ⟨4, 0, []⟩, ⟨5, 0, []⟩, ⟨6, 0, []⟩, ⟨7, 0, []⟩, ⟨8, 0, []⟩, ⟨9, 0, []⟩, ⟨10, 0, []⟩, ⟨11, 0, []⟩, ⟨12, 0, []⟩, ⟨13, 0, []⟩, ⟨14, 0, []⟩, ⟨15, 0, []⟩, ⟨16, 0, []⟩, ⟨17, 0, []⟩, ⟨18, 2, []⟩, ⟨19, 1, []⟩, ⟨20, 0, []⟩] rfl rfl ?_
  refine d_q rfl rfl rfl rfl rfl ?_
  refine v_move rfl ?_
  refine v_nil ?_
  refine d_q rfl rfl rfl rfl rfl ?_
  refine v_move rfl ?_
  refine v_nil ?_
  refine d_q rfl rfl rfl rfl rfl ?_
  refine v_move rfl ?_
  refine v_nil ?_
  refine d_q rfl rfl rfl rfl rfl ?_
  refine v_idx_e (k := 3) (q + 1) plc_len lay38 lay28 rfl rfl rfl (rfl) rfl (rfl) (hi2) ?_
  refine v_nil ?_
  refine d_q rfl rfl rfl rfl rfl ?_
  refine v_move rfl ?_
  refine v_nil ?_
  refine d_q rfl rfl rfl rfl rfl ?_
  refine v_move rfl ?_
  refine v_nil ?_
  refine d_q rfl rfl rfl rfl rfl ?_
  refine v_move rfl ?_
  refine v_nil ?_
  refine d_q rfl rfl rfl rfl rfl ?_
  refine v_idx_e (k := 3) (q + 1) plc_len lay38 lay28 rfl rfl rfl (rfl) rfl (rfl) (hi2) ?_
  refine v_nil ?_
  refine d_q rfl rfl rfl rfl rfl ?_
  refine v_move rfl ?_
  refine v_nil ?_
  refine d_call (c45p ps[q + 1] hk m n hn w4 hg) rfl rfl rfl rfl rfl (.cons vw_vw (.cons vw_v .nil)) ?_
  refine d_q rfl rfl rfl rfl rfl ?_
  refine v_sub lay2 rfl rfl (i64r (by omega)) ?_
  refine v_nil ?_
  refine d_q rfl rfl rfl rfl rfl ?_
  refine v_move rfl ?_
  refine v_nil ?_
  refine d_q rfl rfl rfl rfl rfl ?_
  refine v_rem lay2 rfl rfl (by omega) ?_
  refine v_nil ?_
  refine d_q rfl rfl rfl rfl rfl ?_
  refine v_move rfl ?_
  refine v_nil ?_
  refine d_q rfl rfl rfl rfl rfl ?_
  refine v_add lay2 rfl rfl (i64r (by omega)) ?_
  refine v_nil ?_
  refine d_q rfl rfl rfl rfl rfl ?_
  refine v_move rfl ?_
  refine v_nil ?_
  refine d_q rfl rfl rfl rfl rfl ?_
  refine v_rem lay2 rfl rfl (by omega) ?_
  refine v_nil ?_
  refine d_call (c34 _ _ _ _ (by omega)) rfl rfl rfl rfl rfl (.cons vw_vw (.cons vw_v .nil)) ?_
  refine d_z (.c (.sl true 1 3 (flat plc [(ps[q + 1].1, ps[q + 1].2.1, (((pa ps 0).2.2 + bgn (pa ps 0) m n + sumT ts q + ts[q] - bgn ps[q + 1] m n).tmod n + n).tmod n)]))) rfl rfl rfl ?_
  refine d_e rfl rfl rfl ?_
  refine v_app_flatz_sl (H' := [_, _]) plc_sc plc_len lay38 lay28 rfl rfl (by simp) rfl rfl rfl (by unfold maxLen; simp only []; omega) rfl rfl ?_
  refine v_nil ⟨again_nil, ?_⟩
  refine d_q rfl rfl rfl rfl rfl ?_
  refine v_assign rfl ?_
  refine v_nil ?_
  refine d_nil ?_
  refine q_bn ?_
  refine q_n ?_
  refine w_reg rfl ?_
  refine v_move rfl ?_
  refine v_add lay3 rfl rfl (i64r (by omega)) ?_
  refine v_assign rfl ?_
  refine v_nil ?_
  refine q_n ?_
  refine ⟨_, _, _, ?_, ⟨q + 1, rfl, by omega, rfl, rfl⟩, by omega⟩
  exact turn [some 1] rfl rfl rfl ⟨⟨_, rfl, trc_flatz plc_sc (snoc_eq _ (q + 1) hwn)⟩, trivial⟩ ⟨tr_sl, tr_sl, tr_v, tr_v, tr_mun rfl (by simp), tr_i (by rw [sumT_step hq]; omega), tr_i (by push_cast; omega), trivial⟩
end Go.VL
namespace Go.VL
open Go.RowKit
set_option maxRecDepth 20000
set_option maxHeartbeats 8000000
theorem emr {a : Int} {n : Nat} (h1 : 1 ≤ n) (h2 : n ≤ 240) : 0 ≤ a % n ∧ a % n ≤ 1000 := by
  have := Int.emod_lt_of_pos a (show (0 : Int) < n by omega)
  exact ⟨Int.emod_nonneg _ (by omega), by omega⟩
theorem mtb_no {ps : List Pln} {ts : List Int} {m n t j : Nat} (hj : j ≤ ps.length) (h : mtb ps ts m n t j = false) : mtb ps ts m n t ps.length = false := by
  rw [Bool.eq_false_iff]
  intro h1
  rw [mtb_mono hj h1] at h
  cases h
theorem c28 (ps : List Pln) (ts : List Int) (m n : Nat) (hW : okW ps ts m n) : PureC X 28 [.c (pls false ps), .c (ints false ts), cI m] (.tup [cI (wid ps ts m n n), cI 0]) := by
  refine PureC.of_body (drawD_ok X) (fun _ _ => Go.Proofs.Try.call28 _ _) Go.Proofs.Try.func28 rfl (n := 68) rfl ?_
  have w1 := hW.ne
  have w2 := hW.le
  have w3 := hW.tl
  have w4 := hW.mm
  have h0 := hW.at (show 0 < ps.length by omega)
  obtain ⟨z1, z2, z3, z4, z5⟩ := ok_n h0.1 h0.2.1
  refine w_seq ?_
  refine w_reg rfl ?_
  refine v_assign (c := .v (.int .i64 0)) rfl ?_
  refine v_assign (c := .v (.int .i64 0)) rfl ?_
  refine v_nil ?_
  refine q_n ?_
  refine w_seq ?_
  refine w_seq ?_
  refine w_reg rfl ?_
  refine v_move rfl ?_
  refine v_move rfl ?_
  refine v_move rfl ?_
  refine v_call (c44 ps ts m n hW) rfl rfl rfl (.cons vw_sl (.cons vw_sl (.cons vw_v .nil))) ?_
  refine v_assign rfl ?_
  refine v_nil ?_
  refine q_n ?_
  refine w_seq ?_
  refine w_reg rfl ?_
  refine v_move rfl ?_
  refine v_neq lay2 rfl rfl (fun h1 => ?_) (fun h1 => ?_)
  · exact absurd rfl h1
  refine v_nil ?_
  refine q_n ?_
  refine w_f rfl ?_
  refine w_skip ?_
  refine q_n ?_
  refine w_seq ?_
  refine w_reg rfl ?_
  refine v_assign (c := .v (.int .i64 0)) rfl ?_
  refine v_nil ?_
  refine q_n ?_
  refine w_seq ?_
  refine w_seq ?_
  refine w_reg rfl ?_
  refine v_assign (c := .v (.int .i64 0)) rfl ?_
  refine v_nil ?_
  refine q_n ?_
  refine w_block ?_
  refine w_loop (fun k sl H => ∃ i : Nat, k = n - i ∧ i ≤ n ∧ sl = sls [(0, .c (pls false ps)), (1, .c (ints false ts)), (2, cI m), (9, cI (wid ps ts m n i)), (10, cI i)] ∧ H = []) ?_ ?_
  · refine ⟨_, _, _, ?_, 0, rfl, Nat.zero_le _, rfl, rfl⟩
    exact turn0 ⟨tr_sl, tr_sl, tr_v, tr_v, tr_v, trivial⟩
  rintro k sl H ⟨i, rfl, hi, rfl, rfl⟩
  have hcl : wid ps ts m n i ≤ i := cnb_le
  refine w_seq ?_
  refine w_seq ?_
  refine w_reg rfl ?_
  refine v_move rfl ?_
  refine v_move rfl ?_
  refine v_idx_e (k := 3) (0) plc_len lay38 lay28 rfl rfl rfl (rfl) rfl (rfl) (by omega) ?_
  refine v_call (c33n _ _ _ h0.1 h0.2.1) rfl rfl rfl (.cons vw_vw .nil) ?_
  refine v_lss lay2 rfl rfl (fun h3 => ?_) (fun h3 => ?_)
  rotate_left
  · refine v_nil ?_
    refine q_n ?_
    refine w_f rfl ?_
    refine w_exit ?_
    refine q_e ?_
    refine q_e ?_
    refine q_hit ?_
    refine q_n ?_
    refine w_seq ?_
    refine w_reg rfl ?_
    refine v_move rfl ?_
    refine v_assign rfl ?_
    refine v_assign (c := .v (.int .i64 0)) rfl ?_
    refine v_nil ?_
    refine q_n ?_
    refine w_ret ?_
    refine r_r rfl ?_
    obtain rfl : i = n := by omega
    exact a_tup (.cons tr_v (.cons tr_v .nil))
  refine v_nil ?_
  refine q_n ?_
  refine w_t rfl ?_
  refine w_skip ?_
  refine q_n ?_
  refine w_seq ?_
  refine w_block ?_
  refine w_seq ?_
  refine w_reg rfl ?_
  refine v_move rfl ?_
  refine v_assign rfl ?_
  refine v_nil ?_
  refine q_n ?_
  refine w_seq ?_
  refine w_reg rfl ?_
  refine v_assign (c := .v (.bool true)) rfl ?_
  refine v_nil ?_
  refine q_n ?_
  refine w_seq ?_
  refine w_seq ?_
  refine w_reg rfl ?_
  refine v_assign (c := .v (.int .i64 0)) rfl ?_
  refine v_nil ?_
  refine q_n ?_
  refine w_block ?_
  refine w_loop (fun k sl H => ∃ j : Nat, k = ps.length - j ∧ j ≤ ps.length ∧ sl = sls [(0, .c (pls false ps)), (1, .c (ints false ts)), (2, cI m), (9, cI (wid ps ts m n i)), (10, cI i), (11, cI ((i : Int) + sumT ts (j - 1))), (12, cB (mtb ps ts m n i j)), (13, cI j)] ∧ H = []) ?_ ?_
  · refine ⟨_, _, _, ?_, 0, rfl, Nat.zero_le _, rfl, rfl⟩
    exact turn0 ⟨tr_sl, tr_sl, tr_v, tr_v, tr_v, tr_i (by simp [sumT]), tr_v, tr_v, trivial⟩
  rintro k sl H ⟨j, rfl, hj, rfl, rfl⟩
  have hS := sumT_rng hW.tr (i := j - 1) (by omega)
  rcases hacc : mtb ps ts m n i j with _ | _
  · skip
    refine w_seq ?_
    refine w_seq ?_
    refine w_reg rfl ?_
    refine v_move rfl ?_
    refine v_move rfl ?_
    refine v_len_sl lay38 rfl ?_
    refine v_lss lay3 rfl rfl (fun h4 => ?_) (fun h4 => ?_)
    rotate_left
    · refine v_move rfl ?_
      refine v_guard_off rfl rfl rfl ?_
      refine v_pick_f (v := .v (.bool false)) rfl rfl ?_
      refine v_nil ?_
      refine q_n ?_
      refine w_f rfl ?_
      refine w_exit ?_
      refine q_e ?_
      refine q_e ?_
      refine q_hit ?_
      refine q_n ?_
      refine w_seq ?_
      refine w_reg rfl ?_
      refine v_move rfl ?_
      refine v_nil ?_
      refine q_n ?_
      refine w_f rfl ?_
      refine w_skip ?_
      refine q_bn ?_
      refine q_n ?_
      refine w_reg rfl ?_
      refine v_move rfl ?_
      refine v_add lay2 rfl rfl (i64r (by omega)) ?_
      refine v_assign rfl ?_
      refine v_nil ?_
      refine q_n ?_
      have hno := mtb_no hj hacc
      refine ⟨_, _, _, ?_, ⟨i + 1, rfl, by omega, rfl, rfl⟩, by omega⟩
      exact turn0 ⟨tr_sl, tr_sl, tr_v, tr_i (cnb_f hno), tr_i (by push_cast; omega), trivial⟩
    have hi1 : j < ps.length := by omega
    obtain ⟨hk, hn, hg⟩ := hW.at hi1
    obtain ⟨n1, n2, n3, n4, n5⟩ := ok_n hk hn
    refine v_move rfl ?_
    refine v_guard_on rfl rfl ?_
    refine v_move rfl ?_
    refine v_pick_t rfl rfl ?_
    refine v_nil ?_
    refine q_n ?_
    refine w_f rfl ?_
    refine w_exit ?_
    refine q_e ?_
    refine q_e ?_
    refine q_hit ?_
    refine q_n ?_
    refine w_seq ?_
    refine w_reg rfl ?_
    refine v_move rfl ?_
    refine v_nil ?_
    refine q_n ?_
    refine w_f rfl ?_
    refine w_skip ?_
    refine q_bn ?_
    refine q_n ?_
    refine w_reg rfl ?_
    refine v_move rfl ?_
    refine v_add lay2 rfl rfl (i64r (by omega)) ?_
    refine v_assign rfl ?_
    refine v_nil ?_
    refine q_n ?_
    have hno := mtb_no hj hacc
    refine ⟨_, _, _, ?_, ⟨i + 1, rfl, by omega, rfl, rfl⟩, by omega⟩
    exact turn0 ⟨tr_sl, tr_sl, tr_v, tr_i (cnb_f hno), tr_i (by push_cast; omega), trivial⟩
  · skip
    refine w_seq ?_
    refine w_seq ?_
    refine w_reg rfl ?_
    refine v_move rfl ?_
    refine v_move rfl ?_
    refine v_len_sl lay38 rfl ?_
    refine v_lss lay3 rfl rfl (fun h5 => ?_) (fun h5 => ?_)
    rotate_left
    · refine v_move rfl ?_
      refine v_guard_off rfl rfl rfl ?_
      refine v_pick_f (v := .v (.bool false)) rfl rfl ?_
      refine v_nil ?_
      refine q_n ?_
      refine w_f rfl ?_
      refine w_exit ?_
      refine q_e ?_
      refine q_e ?_
      refine q_hit ?_
      refine q_n ?_
      refine w_seq ?_
      refine w_reg rfl ?_
      refine v_move rfl ?_
      refine v_nil ?_
      refine q_n ?_
      refine w_t rfl ?_
      refine w_reg rfl ?_
      refine v_move rfl ?_
      refine v_add lay2 rfl rfl (i64r (by omega)) ?_
      refine v_assign rfl ?_
      refine v_nil ?_
      refine q_bn ?_
      refine q_n ?_
      refine w_reg rfl ?_
      refine v_move rfl ?_
      refine v_add lay2 rfl rfl (i64r (by omega)) ?_
      refine v_assign rfl ?_
      refine v_nil ?_
      refine q_n ?_
      obtain rfl : j = ps.length := by omega
      refine ⟨_, _, _, ?_, ⟨i + 1, rfl, by omega, rfl, rfl⟩, by omega⟩
      exact turn0 ⟨tr_sl, tr_sl, tr_v, tr_i (cnb_t hacc), tr_i (by push_cast; omega), trivial⟩
    have hi1 : j < ps.length := by omega
    obtain ⟨hk, hn, hg⟩ := hW.at hi1
    obtain ⟨n1, n2, n3, n4, n5⟩ := ok_n hk hn
    refine v_move rfl ?_
    refine v_guard_on rfl rfl ?_
    refine v_move rfl ?_
    refine v_pick_t rfl rfl ?_
    refine v_nil ?_
    refine q_n ?_
    refine w_t rfl ?_
    refine w_skip ?_
    refine q_n ?_
    refine w_seq ?_
    refine w_block ?_
    refine w_seq ?_
    refine w_seq ?_
    refine w_reg rfl ?_
    refine v_move rfl ?_
    refine v_gtr lay3 rfl rfl (fun h6 => ?_) (fun h6 => ?_)
    rotate_left
    · obtain rfl : j = 0 := by omega
      have hx : (i : Int) + sumT ts (0 - 1) = (i : Int) + sumT ts 0 := rfl
      refine v_nil ?_
      refine q_n ?_
      refine w_f rfl ?_
      refine w_skip ?_
      refine q_n ?_
      refine w_seq ?_
      refine w_draw [0, 0, 3, 0, 0, 24, 0, 120, 255, 511, 1023, 1023, 0, 6143, 16383] [⟨0, 0, []⟩, ⟨1, 0, []⟩, ⟨2, 0, []⟩, ⟨3, 0, []⟩, ⟨4, 0, []⟩, ⟨5, 0, []⟩, ⟨6, 0, []⟩, ⟨7, 0, []⟩, ⟨8, 0, []⟩, ⟨9, 0, []⟩, ⟨10, 0, []⟩, ⟨11, 0, []⟩, ⟨12, 1, [7, 8]⟩, ⟨13, 1, []⟩, ⟨14, 0, []⟩] rfl rfl ?_
      refine d_q rfl rfl rfl rfl rfl ?_
      refine v_move rfl ?_
      refine v_nil ?_
      refine d_q rfl rfl rfl rfl rfl ?_
      refine v_move rfl ?_
      refine v_nil ?_
      refine d_q rfl rfl rfl rfl rfl ?_
      refine v_idx_e (k := 3) (0) plc_len lay38 lay28 rfl rfl rfl (rfl) rfl (rfl) (hi1) ?_
      refine v_nil ?_
      refine d_q rfl rfl rfl rfl rfl ?_
      refine v_move rfl ?_
      refine v_nil ?_
      refine d_q rfl rfl rfl rfl rfl ?_
      refine v_move rfl ?_
      refine v_nil ?_
      refine d_q rfl rfl rfl rfl rfl ?_
      refine v_idx_e (k := 3) (0) plc_len lay38 lay28 rfl rfl rfl (rfl) rfl (rfl) (hi1) ?_
      refine v_nil ?_
      refine d_q rfl rfl rfl rfl rfl ?_
      refine v_move rfl ?_
      refine v_nil ?_
      refine d_call (c57 _ _ _ _ hk n hn (by omega)) rfl rfl rfl rfl rfl (.cons vw_vw (.cons vw_v .nil)) ?_
      refine d_call (c56 _ _ _ _ hk.1.2.1 hk.1.2.2 n5 (emr n1 n2)) rfl rfl rfl rfl rfl (.cons vw_vw (.cons vw_v .nil)) ?_
      refine d_q rfl rfl rfl rfl rfl ?_
      refine v_move_t rfl ?_
      refine v_nil ?_
      refine d_q rfl rfl rfl rfl rfl ?_
      refine v_extract_a rfl rfl ?_
      refine v_nil ?_
      refine d_q rfl rfl rfl rfl rfl ?_
      refine v_extract_c rfl rfl ?_
      refine v_nil ?_
      refine d_e rfl rfl rfl ?_
      refine v_alloc (m := 0) (H' := [⟨[.v _, .v _, .v _, .v _, .v _, .v _, .v _, .v _], 80, true⟩]) lay80 rfl rfl ?_
      refine v_nil ⟨⟨ag_if rfl (ag_call (c56 _ _ _ _ hk.1.2.1 hk.1.2.2 n5 (emr n1 n2)) rfl rfl rfl (.cons vw_vw (.cons vw_v .nil))), ⟨ag_if rfl (ag_call (c57 _ _ _ _ hk n hn (by omega)) rfl rfl rfl (.cons vw_vw (.cons vw_v .nil))), trivial⟩⟩, ?_⟩
      refine d_e rfl rfl rfl ?_
      refine v_store (H' := [⟨[_, _, _, _, _, _, _, _], 80, true⟩]) lay80 rfl rfl rfl rfl rfl rfl ?_
      refine v_nil ⟨again_nil, ?_⟩
      refine d_q rfl rfl rfl rfl rfl ?_
      refine v_assign rfl ?_
      refine v_nil ?_
      refine d_nil ?_
      refine q_n ?_
      refine w_reg rfl ?_
      refine v_move rfl ?_
      refine v_idx_arr_e (k := 1) (m) lay80 lay4 rfl rfl rfl (rfl) (w4) ?_
      refine v_load_flat_e (enc := bo) (ys := pl (atR ps[0].1 ps[0].2.1 (((i : Int) + sumT ts (0 - 1) - ps[0].2.2) % n)).1) m 0 (.c (.v (.bool ((atR ps[0].1 ps[0].2.1 (((i : Int) + sumT ts (0 - 1) - ps[0].2.2) % n)).1 ⟨m, w4⟩)))) bo_len lay4 rfl rfl (by omega) w4 (by decide) (pl_ld _ w4 _) ?_
      refine v_assign rfl ?_
      refine v_nil ?_
      refine q_bn ?_
      refine q_n ?_
      refine w_reg rfl ?_
      refine v_move rfl ?_
      refine v_add lay3 rfl rfl (i64r (by omega)) ?_
      refine v_assign rfl ?_
      refine v_nil ?_
      refine q_n ?_
      refine ⟨_, _, _, ?_, ⟨0 + 1, rfl, by omega, rfl, rfl⟩, by omega⟩
      exact turn0 ⟨tr_sl, tr_sl, tr_v, tr_v, tr_v, tr_i hx, tr_bb (by rw [mtb_s hi1 hx, hacc, gr_eq w4] <;> rfl), tr_i (by first | rfl | (push_cast; omega)), trivial⟩
    obtain ⟨q, rfl⟩ : ∃ q, j = q + 1 := ⟨j - 1, by omega⟩
    have hq : q < ts.length := by omega
    have htq := hW.tr _ (List.getElem_mem hq)
    have hx : (i : Int) + sumT ts (q + 1 - 1) + ts[q] = (i : Int) + sumT ts (q + 1) := by rw [sumT_step hq]; simp only [Nat.add_sub_cancel]; omega
    refine v_nil ?_
    refine q_n ?_
    refine w_t rfl ?_
    refine w_reg rfl ?_
    refine v_move rfl ?_
    refine v_move rfl ?_
    refine v_move rfl ?_
    refine v_sub lay3 rfl rfl (i64r (by omega)) ?_
    refine v_idx_e (k := 1) (q) int_len lay36 lay2 rfl rfl rfl (rfl) rfl (by push_cast; omega) (hq) ?_
    refine v_load_vw (.c (.v _)) lay2 rfl rfl rfl ?_
    refine v_add lay2 rfl rfl (i64r (by omega)) ?_
    refine v_assign rfl ?_
    refine v_nil ?_
    refine q_n ?_
    refine w_seq ?_
    refine w_draw [0, 0, 3, 0, 0, 24, 0, 120, 255, 511, 1023, 1023, 0, 6143, 16383] [⟨0, 0, []⟩, ⟨1, 0, []⟩, ⟨2, 0, []⟩, ⟨3, 0, []⟩, ⟨4, 0, []⟩, ⟨5, 0, []⟩, ⟨6, 0, []⟩, ⟨7, 0, []⟩, ⟨8, 0, []⟩, ⟨9, 0, []⟩, ⟨10, 0, []⟩, ⟨11, 0, []⟩, ⟨12, 1, [7, 8]⟩, ⟨13, 1, []⟩, ⟨14, 0, []⟩] rfl rfl ?_
    refine d_q rfl rfl rfl rfl rfl ?_
    refine v_move rfl ?_
    refine v_nil ?_
    refine d_q rfl rfl rfl rfl rfl ?_
    refine v_move rfl ?_
    refine v_nil ?_
    refine d_q rfl rfl rfl rfl rfl ?_
    refine v_idx_e (k := 3) (q + 1) plc_len lay38 lay28 rfl rfl rfl (rfl) rfl (rfl) (hi1) ?_
    refine v_nil ?_
    refine d_q rfl rfl rfl rfl rfl ?_
    refine v_move rfl ?_
    refine v_nil ?_
    refine d_q rfl rfl rfl rfl rfl ?_
    refine v_move rfl ?_
    refine v_nil ?_
    refine d_q rfl rfl rfl rfl rfl ?_
    refine v_idx_e (k := 3) (q + 1) plc_len lay38 lay28 rfl rfl rfl (rfl) rfl (rfl) (hi1) ?_
    refine v_nil ?_
    refine d_q rfl rfl rfl rfl rfl ?_
    refine v_move rfl ?_
    refine v_nil ?_
    refine d_call (c57 _ _ _ _ hk n hn (by omega)) rfl rfl rfl rfl rfl (.cons vw_vw (.cons vw_v .nil)) ?_
    refine d_call (c56 _ _ _ _ hk.1.2.1 hk.1.2.2 n5 (emr n1 n2)) rfl rfl rfl rfl rfl (.cons vw_vw (.cons vw_v .nil)) ?_
    refine d_q rfl rfl rfl rfl rfl ?_
    refine v_move_t rfl ?_
    refine v_nil ?_
    refine d_q rfl rfl rfl rfl rfl ?_
    refine v_extract_a rfl rfl ?_
    refine v_nil ?_
    refine d_q rfl rfl rfl rfl rfl ?_
    refine v_extract_c rfl rfl ?_
    refine v_nil ?_
    refine d_e rfl rfl rfl ?_
    refine v_alloc (m := 0) (H' := [⟨[.v _, .v _, .v _, .v _, .v _, .v _, .v _, .v _], 80, true⟩]) lay80 rfl rfl ?_
    refine v_nil ⟨⟨ag_if rfl (ag_call (c56 _ _ _ _ hk.1.2.1 hk.1.2.2 n5 (emr n1 n2)) rfl rfl rfl (.cons vw_vw (.cons vw_v .nil))), ⟨ag_if rfl (ag_call (c57 _ _ _ _ hk n hn (by omega)) rfl rfl rfl (.cons vw_vw (.cons vw_v .nil))), trivial⟩⟩, ?_⟩
    refine d_e rfl rfl rfl ?_
    refine v_store (H' := [⟨[_, _, _, _, _, _, _, _], 80, true⟩]) lay80 rfl rfl rfl rfl rfl rfl ?_
    refine v_nil ⟨again_nil, ?_⟩
    refine d_q rfl rfl rfl rfl rfl ?_
    refine v_assign rfl ?_
    refine v_nil ?_
    refine d_nil ?_
    refine q_n ?_
    refine w_reg rfl ?_
    refine v_move rfl ?_
    refine v_idx_arr_e (k := 1) (m) lay80 lay4 rfl rfl rfl (rfl) (w4) ?_
    refine v_load_flat_e (enc := bo) (ys := pl (atR ps[q + 1].1 ps[q + 1].2.1 (((i : Int) + sumT ts (q + 1 - 1) + ts[q] - ps[q + 1].2.2) % n)).1) m 0 (.c (.v (.bool ((atR ps[q + 1].1 ps[q + 1].2.1 (((i : Int) + sumT ts (q + 1 - 1) + ts[q] - ps[q + 1].2.2) % n)).1 ⟨m, w4⟩)))) bo_len lay4 rfl rfl (by omega) w4 (by decide) (pl_ld _ w4 _) ?_
    refine v_assign rfl ?_
    refine v_nil ?_
    refine q_bn ?_
    refine q_n ?_
    refine w_reg rfl ?_
    refine v_move rfl ?_
    refine v_add lay3 rfl rfl (i64r (by omega)) ?_
    refine v_assign rfl ?_
    refine v_nil ?_
    refine q_n ?_
    refine ⟨_, _, _, ?_, ⟨q + 1 + 1, rfl, by omega, rfl, rfl⟩, by omega⟩
    exact turn0 ⟨tr_sl, tr_sl, tr_v, tr_v, tr_v, tr_i hx, tr_bb (by rw [mtb_s hi1 hx, hacc, gr_eq w4] <;> rfl), tr_i (by first | rfl | (push_cast; omega)), trivial⟩
end Go.VL
namespace Go.VL
open Go.RowKit
set_option maxRecDepth 20000
set_option maxHeartbeats 8000000
def stv (s : Slo) : List Value := [.bool (s.1 0), .bool (s.1 1), .bool (s.1 2), .bool (s.1 3), .bool (s.1 4), .bool (s.1 5), .bool (s.1 6), .bool (s.1 7), .int .i64 s.2]
def stl (s : Slo) : List Lit := [.bool (s.1 0), .bool (s.1 1), .bool (s.1 2), .bool (s.1 3), .bool (s.1 4), .bool (s.1 5), .bool (s.1 6), .bool (s.1 7), .int .i64 s.2]
theorem st_wf {s : Slo} (h : 1 ≤ s.2 ∧ s.2 ≤ 240) : (Lit.int .i64 s.2).wf = true := by
  simp only [Lit.wf, decide_eq_true_eq, Bool.and_eq_true]
  exact ⟨show (-9223372036854775808 : Int) ≤ s.2 by omega, show s.2 ≤ (9223372036854775807 : Int) by omega⟩
theorem st_lits {s : Slo} (h : 1 ≤ s.2 ∧ s.2 ≤ 240) : X.P.keyLits 3 82 (stv s) = some (stl s) := by
  have hw := st_wf h
  have e : ∀ w : Bool, w = true → Option.map List.flatten (do
      let a ← (some [Lit.bool (s.1 0), .bool (s.1 1), .bool (s.1 2), .bool (s.1 3), .bool (s.1 4), .bool (s.1 5), .bool (s.1 6), .bool (s.1 7)])
      let b ← (if IntKind.i64 = IntKind.i64 ∧ w = true then some [Lit.int .i64 s.2] else none)
      pure [a, b]) = some (stl s) := fun w hw => by subst hw; rfl
  refine Eq.trans ?_ (e _ hw)
  kernel_rfl
theorem stl_inj {a b : Slo} : a = b ↔ stl a = stl b := by
  refine ⟨fun e => by rw [e], fun e => ?_⟩
  simp only [stl, List.cons.injEq, Lit.bool.injEq, Lit.int.injEq, true_and, and_true] at e
  obtain ⟨h0, h1, h2, h3, h4, h5, h6, h7, h8⟩ := e
  refine Prod.ext ?_ h8
  funext ⟨i, hi⟩
  match i, hi with
  | 0, _ => exact h0
  | 1, _ => exact h1
  | 2, _ => exact h2
  | 3, _ => exact h3
  | 4, _ => exact h4
  | 5, _ => exact h5
  | 6, _ => exact h6
  | 7, _ => exact h7
theorem rq82 {x y : Operand} {ty2 : TypeId} {ρ : Operand → V} {a b : Slo} (ha : 1 ≤ a.2 ∧ a.2 ≤ 240) (hb : 1 ≤ b.2 ∧ b.2 ≤ 240) (hx : ρ x = .agg (stc a)) (hy : ρ y = .agg (stc b)) : RawQ X (.binOp .neq 82 x y ty2) ρ (cB (decide (¬ a = b))) :=
  rq_neqD (vs1 := stv a) (vs2 := stv b) 3 9997 rfl (by kernel_rfl) (by kernel_rfl) (by kernel_rfl) (st_lits ha) (st_lits hb) stl_inj (by kernel_rfl) hx hy
theorem pln_ext (p q : Pln) : p = q ↔ p.1 = q.1 ∧ p.2.1 = q.2.1 ∧ p.2.2 = q.2.2 := by
  rw [Prod.ext_iff, Prod.ext_iff]
theorem c52 (p q : Pln) (hp : ticksOk p.1) (hq : ticksOk q.1) (hx : p.1.length ≤ 2 ^ 40) (hy : q.1.length ≤ 2 ^ 40) : PureC X 52 [.c (.vw false (plc p) 0), .c (.vw false (plc q) 0)] (cB (decide (p = q))) := by
  refine PureC.of_body (drawD_ok X) (fun _ _ => Go.Proofs.Try.call52 _ _) Go.Proofs.Try.func52 rfl (n := 61) rfl ?_
  refine w_seq ?_
  refine w_reg rfl ?_
  refine v_assign (c := .v (.bool false)) rfl ?_
  refine v_nil ?_
  refine q_n ?_
  refine w_seq ?_
  refine w_seq ?_
  refine w_draw [0, 1, 3, 7, 15, 0, 32, 96, 224, 480, 1023] [⟨0, 0, []⟩, ⟨1, 0, []⟩, ⟨2, 0, []⟩, ⟨3, 0, []⟩, ⟨4, 0, []⟩, ⟨5, 0, []⟩, ⟨6, 0, []⟩, ⟨7, 0, []⟩, ⟨8, 0, []⟩, ⟨9, 0, []⟩, ⟨10, 0, []⟩] rfl rfl ?_
  refine d_q rfl rfl rfl rfl rfl ?_
  refine v_move rfl ?_
  refine v_nil ?_
  refine d_q rfl rfl rfl rfl rfl ?_
  refine v_nil_vw rfl ?_
  refine v_nil ?_
  refine d_q rfl rfl rfl rfl rfl ?_
  refine v_fa_vw (off' := 0) lay28 rfl rfl rfl ?_
  refine v_nil ?_
  refine d_q rfl rfl rfl rfl rfl ?_
  refine v_load_vw (.c (_)) lay26 rfl rfl rfl ?_
  refine v_nil ?_
  refine d_q rfl rfl rfl rfl rfl ?_
  refine v_len_sl lay26 rfl ?_
  refine v_nil ?_
  refine d_q rfl rfl rfl rfl rfl ?_
  refine v_move rfl ?_
  refine v_nil ?_
  refine d_q rfl rfl rfl rfl rfl ?_
  refine v_nil_vw rfl ?_
  refine v_nil ?_
  refine d_q rfl rfl rfl rfl rfl ?_
  refine v_fa_vw (off' := 0) lay28 rfl rfl rfl ?_
  refine v_nil ?_
  refine d_q rfl rfl rfl rfl rfl ?_
  refine v_load_vw (.c (_)) lay26 rfl rfl rfl ?_
  refine v_nil ?_
  refine d_q rfl rfl rfl rfl rfl ?_
  refine v_len_sl lay26 rfl ?_
  refine v_nil ?_
  refine d_q rfl rfl rfl rfl rfl ?_
  refine v_neq lay3 rfl rfl (fun h1 => ?_) (fun h1 => ?_)
  · have hl := h1
    refine v_nil ?_
    refine d_nil ?_
    refine q_n ?_
    refine w_t rfl ?_
    refine w_seq ?_
    refine w_reg rfl ?_
    refine v_assign (c := .v (.bool false)) rfl ?_
    refine v_nil ?_
    refine q_n ?_
    refine w_ret (q_r ?_)
    refine r_r rfl ?_
    exact a_b (by simp only [Bool.false_eq_true, false_iff]; rintro rfl; exact hl rfl)
  have hl := h1
  refine v_nil ?_
  refine d_nil ?_
  refine q_n ?_
  refine w_f rfl ?_
  refine w_skip ?_
  refine q_n ?_
  refine w_seq ?_
  refine w_seq ?_
  refine w_reg rfl ?_
  refine v_assign (c := .v (.int .i64 0)) rfl ?_
  refine v_nil ?_
  refine q_n ?_
  refine w_block ?_
  refine w_loop (fun k sl H => ∃ i : Nat, k = p.1.length - i ∧ i ≤ p.1.length ∧ p.1.take i = q.1.take i ∧ sl = sls [(0, .c (.vw false (plc p) 0)), (1, .c (.vw false (plc q) 0)), (5, cI i)] ∧ H = []) ?_ ?_
  · refine ⟨_, _, _, ?_, 0, rfl, Nat.zero_le _, rfl, rfl, rfl⟩
    exact turn0 ⟨tr_vw, tr_vw, tr_v, trivial⟩
  rintro k sl H ⟨i, rfl, hi, hpq, rfl, rfl⟩
  refine w_seq ?_
  refine w_seq ?_
  refine w_reg rfl ?_
  refine v_move rfl ?_
  refine v_move rfl ?_
  refine v_nil_vw rfl ?_
  refine v_fa_vw (off' := 0) lay28 rfl rfl rfl ?_
  refine v_load_vw (.c (_)) lay26 rfl rfl rfl ?_
  refine v_len_sl lay26 rfl ?_
  refine v_lss lay3 rfl rfl (fun h2 => ?_) (fun h2 => ?_)
  · have i1 : i < p.1.length := by omega
    have i2 : i < q.1.length := by omega
    refine v_nil ?_
    refine q_n ?_
    refine w_t rfl ?_
    refine w_skip ?_
    refine q_n ?_
    refine w_seq ?_
    refine w_block ?_
    refine w_seq ?_
    refine w_draw [0, 1, 3, 7, 0, 31, 63, 0, 128, 384, 896, 0, 3968, 8064, 16383] [⟨0, 0, []⟩, ⟨1, 0, []⟩, ⟨2, 0, []⟩, ⟨3, 0, []⟩, ⟨4, 0, []⟩, ⟨5, 0, []⟩, ⟨6, 0, []⟩, ⟨7, 0, []⟩, ⟨8, 0, []⟩, ⟨9, 0, []⟩, ⟨10, 0, []⟩, ⟨11, 0, []⟩, ⟨12, 0, []⟩, ⟨13, 0, []⟩, ⟨14, 0, []⟩] rfl rfl ?_
    refine d_q rfl rfl rfl rfl rfl ?_
    refine v_move rfl ?_
    refine v_nil ?_
    refine d_q rfl rfl rfl rfl rfl ?_
    refine v_nil_vw rfl ?_
    refine v_nil ?_
    refine d_q rfl rfl rfl rfl rfl ?_
    refine v_fa_vw (off' := 0) lay28 rfl rfl rfl ?_
    refine v_nil ?_
    refine d_q rfl rfl rfl rfl rfl ?_
    refine v_load_vw (.c (_)) lay26 rfl rfl rfl ?_
    refine v_nil ?_
    refine d_q rfl rfl rfl rfl rfl ?_
    refine v_move rfl ?_
    refine v_nil ?_
    refine d_q rfl rfl rfl rfl rfl ?_
    refine v_idx_e (k := 9) (i) stc_len lay26 lay82 rfl rfl rfl (rfl) rfl (rfl) (i1) ?_
    refine v_nil ?_
    refine d_q rfl rfl rfl rfl rfl ?_
    refine v_load_vw (.agg [.v _, .v _, .v _, .v _, .v _, .v _, .v _, .v _, .v _]) lay82 rfl rfl rfl ?_
    refine v_nil ?_
    refine d_q rfl rfl rfl rfl rfl ?_
    refine v_move rfl ?_
    refine v_nil ?_
    refine d_q rfl rfl rfl rfl rfl ?_
    refine v_nil_vw rfl ?_
    refine v_nil ?_
    refine d_q rfl rfl rfl rfl rfl ?_
    refine v_fa_vw (off' := 0) lay28 rfl rfl rfl ?_
    refine v_nil ?_
    refine d_q rfl rfl rfl rfl rfl ?_
    refine v_load_vw (.c (_)) lay26 rfl rfl rfl ?_
    refine v_nil ?_
    refine d_q rfl rfl rfl rfl rfl ?_
    refine v_move rfl ?_
    refine v_nil ?_
    refine d_q rfl rfl rfl rfl rfl ?_
    refine v_idx_e (k := 9) (i) stc_len lay26 lay82 rfl rfl rfl (rfl) rfl (rfl) (i2) ?_
    refine v_nil ?_
    refine d_q rfl rfl rfl rfl rfl ?_
    refine v_load_vw (.agg [.v _, .v _, .v _, .v _, .v _, .v _, .v _, .v _, .v _]) lay82 rfl rfl rfl ?_
    refine v_nil ?_
    refine d_rawb (rq82 (a := p.1[i]) (b := q.1[i]) (tk_at hp i1) (tk_at hq i2) rfl rfl) rfl rfl rfl rfl rfl (fun h5 => ?_) (fun h5 => ?_)
    · have heq := h5
      refine d_nil ?_
      refine q_n ?_
      refine w_t rfl ?_
      refine w_seq ?_
      refine w_reg rfl ?_
      refine v_assign (c := .v (.bool false)) rfl ?_
      refine v_nil ?_
      refine q_n ?_
      refine w_ret (q_br (q_r (q_r (q_br (q_r ?_)))))
      refine r_r rfl ?_
      exact a_b (by simp only [Bool.false_eq_true, false_iff]; rintro rfl; exact heq rfl)
    have heq := h5
    refine d_nil ?_
    refine q_n ?_
    refine w_f rfl ?_
    refine w_skip ?_
    refine q_bn ?_
    refine q_n ?_
    refine w_reg rfl ?_
    refine v_move rfl ?_
    refine v_add lay3 rfl rfl (i64r (by omega)) ?_
    refine v_assign rfl ?_
    refine v_nil ?_
    refine q_n ?_
    refine ⟨_, _, _, ?_, ⟨i + 1, rfl, by omega, take_step_eq hpq i1 i2 (Decidable.not_not.1 heq), rfl, rfl⟩, by omega⟩
    exact turn0 ⟨tr_vw, tr_vw, tr_v, trivial⟩
  have hpe : p.1 = q.1 := take_all_eq hpq (by omega) (by omega)
  refine v_nil ?_
  refine q_n ?_
  refine w_f rfl ?_
  refine w_exit ?_
  refine q_e ?_
  refine q_e ?_
  refine q_hit ?_
  refine q_n ?_
  refine w_seq ?_
  refine w_draw [0, 1, 3, 7, 0, 16, 48, 112, 255, 511, 1023, 2047, 4095, 8191, 1023, 17407, 50175, 115711, 262143, 524287, 1048575] [⟨0, 0, []⟩, ⟨1, 0, []⟩, ⟨2, 0, []⟩, ⟨3, 0, []⟩, ⟨4, 0, []⟩, ⟨5, 0, []⟩, ⟨6, 0, []⟩, ⟨7, 0, []⟩, ⟨8, 0, []⟩, ⟨9, 0, []⟩, ⟨10, 0, []⟩, ⟨11, 0, []⟩, ⟨12, 0, []⟩, ⟨13, 0, []⟩, ⟨14, 0, []⟩, ⟨15, 0, []⟩, ⟨16, 0, []⟩, ⟨17, 0, []⟩, ⟨18, 0, []⟩, ⟨19, 0, []⟩, ⟨20, 0, []⟩] rfl rfl ?_
  refine d_q rfl rfl rfl rfl rfl ?_
  refine v_move rfl ?_
  refine v_nil ?_
  refine d_q rfl rfl rfl rfl rfl ?_
  refine v_nil_vw rfl ?_
  refine v_nil ?_
  refine d_q rfl rfl rfl rfl rfl ?_
  refine v_fa_vw (off' := 1) lay28 rfl rfl rfl ?_
  refine v_nil ?_
  refine d_q rfl rfl rfl rfl rfl ?_
  refine v_load_vw (.c (.v _)) lay2 rfl rfl rfl ?_
  refine v_nil ?_
  refine d_q rfl rfl rfl rfl rfl ?_
  refine v_move rfl ?_
  refine v_nil ?_
  refine d_q rfl rfl rfl rfl rfl ?_
  refine v_nil_vw rfl ?_
  refine v_nil ?_
  refine d_q rfl rfl rfl rfl rfl ?_
  refine v_fa_vw (off' := 1) lay28 rfl rfl rfl ?_
  refine v_nil ?_
  refine d_q rfl rfl rfl rfl rfl ?_
  refine v_load_vw (.c (.v _)) lay2 rfl rfl rfl ?_
  refine v_nil ?_
  refine d_q rfl rfl rfl rfl rfl ?_
  refine v_eql lay2 rfl rfl (fun h6 => ?_) (fun h6 => ?_)
  rotate_left
  · refine v_nil ?_
    refine d_q rfl rfl rfl rfl rfl ?_
    refine v_move rfl ?_
    refine v_nil ?_
    refine d_off rfl rfl ?_
    refine d_off rfl rfl ?_
    refine d_off rfl rfl ?_
    refine d_off rfl rfl ?_
    refine d_off rfl rfl ?_
    refine d_off rfl rfl ?_
    refine d_off rfl rfl ?_
    refine d_off rfl rfl ?_
    refine d_off rfl rfl ?_
    refine d_q rfl rfl rfl rfl rfl ?_
    refine v_pick_f (v := .v (.bool false)) rfl rfl ?_
    refine v_nil ?_
    refine d_q rfl rfl rfl rfl rfl ?_
    refine v_assign rfl ?_
    refine v_nil ?_
    refine d_nil ?_
    refine q_n ?_
    refine w_ret ?_
    refine r_r rfl ?_
    exact a_b (by rw [pln_ext]; simp_all)
  refine v_nil ?_
  refine d_q rfl rfl rfl rfl rfl ?_
  refine v_move rfl ?_
  refine v_nil ?_
  refine d_q rfl rfl rfl rfl rfl ?_
  refine v_move rfl ?_
  refine v_nil ?_
  refine d_q rfl rfl rfl rfl rfl ?_
  refine v_nil_vw rfl ?_
  refine v_nil ?_
  refine d_q rfl rfl rfl rfl rfl ?_
  refine v_fa_vw (off' := 2) lay28 rfl rfl rfl ?_
  refine v_nil ?_
  refine d_q rfl rfl rfl rfl rfl ?_
  refine v_load_vw (.c (.v _)) lay2 rfl rfl rfl ?_
  refine v_nil ?_
  refine d_q rfl rfl rfl rfl rfl ?_
  refine v_move rfl ?_
  refine v_nil ?_
  refine d_q rfl rfl rfl rfl rfl ?_
  refine v_nil_vw rfl ?_
  refine v_nil ?_
  refine d_q rfl rfl rfl rfl rfl ?_
  refine v_fa_vw (off' := 2) lay28 rfl rfl rfl ?_
  refine v_nil ?_
  refine d_q rfl rfl rfl rfl rfl ?_
  refine v_load_vw (.c (.v _)) lay2 rfl rfl rfl ?_
  refine v_nil ?_
  refine d_q rfl rfl rfl rfl rfl ?_
  refine v_eql lay2 rfl rfl (fun h7 => ?_) (fun h7 => ?_)
  · refine v_nil ?_
    refine d_q rfl rfl rfl rfl rfl ?_
    refine v_pick_t rfl rfl ?_
    refine v_nil ?_
    refine d_q rfl rfl rfl rfl rfl ?_
    refine v_assign rfl ?_
    refine v_nil ?_
    refine d_nil ?_
    refine q_n ?_
    refine w_ret ?_
    refine r_r rfl ?_
    exact a_b (by rw [pln_ext]; simp_all)
  refine v_nil ?_
  refine d_q rfl rfl rfl rfl rfl ?_
  refine v_pick_t rfl rfl ?_
  refine v_nil ?_
  refine d_q rfl rfl rfl rfl rfl ?_
  refine v_assign rfl ?_
  refine v_nil ?_
  refine d_nil ?_
  refine q_n ?_
  refine w_ret ?_
  refine r_r rfl ?_
  exact a_b (by rw [pln_ext]; simp_all)
theorem c25 (p q : Pln) (hp : ticksOk p.1) (hq : ticksOk q.1) (hx : p.1.length ≤ 2 ^ 40) (hy : q.1.length ≤ 2 ^ 40) : PureC X 25 [.agg (plf p), .agg (plf q)] (cB (decide (p = q))) := by
  refine PureC.of_body (drawD_ok X) (fun _ _ => Go.Proofs.Try.call25 _ _) Go.Proofs.Try.func25 rfl (n := 6) rfl ?_
  refine w_seq ?_
  refine w_reg rfl ?_
  refine v_box (m := 0) (H' := [_]) lay28 rfl rfl rfl ?_
  refine v_box (m := 1) (H' := [_, _]) lay28 rfl rfl rfl ?_
  refine v_assign (c := .v (.bool false)) rfl ?_
  refine v_nil ?_
  refine q_n ?_
  refine w_seq ?_
  refine w_reg rfl ?_
  refine v_callb (c52 p q hp hq hx hy) rfl rfl (.cons (vw_pt rfl (.cons (.sl (fun h => by cases h)) (.cons .v (.cons .v .nil)))) (.cons (vw_pt rfl (.cons (.sl (fun h => by cases h)) (.cons .v (.cons .v .nil)))) .nil)) (fun h1 => ?_) (fun h1 => ?_)
  · refine v_assign rfl ?_
    refine v_nil ?_
    refine q_n ?_
    refine w_ret ?_
    refine r_r rfl ?_
    exact a_b (by simp_all)
  refine v_assign rfl ?_
  refine v_nil ?_
  refine q_n ?_
  refine w_ret ?_
  refine r_r rfl ?_
  exact a_b (by simp_all)
end Go.VL
namespace Go.VL
open Go.RowKit
set_option maxRecDepth 20000
set_option maxHeartbeats 8000000

abbrev srcO (code : List Int) (a s : Int) : Ob := srcT 105 code a s
theorem c74 {H : List Ob} {id : Nat} (code : List Int) (a : Nat) (s : Int) (hlt : id < H.length) (hc : ∀ b ∈ code, 0 ≤ b ∧ b ≤ 255) (_ : code.length ≤ 2 ^ 40) (ha : (a : Int) ≤ 2 ^ 40) : DetC X 74 [.c (.pt id 0)] (H.set id (srcO code a s)) (cI (nxR code a s)) (H.set id (srcO code ((a : Int) + 1) (nxS code a s))) := by
  refine DetC.of_body (drawD_ok X) (fun _ _ => Go.Proofs.Try.call74 _ _) Go.Proofs.Try.func74 rfl (n := 62) rfl ?_
  refine w_seq ?_
  refine w_reg rfl ?_
  refine v_assign (c := .v (.int .i64 0)) rfl ?_
  refine v_nil ?_
  refine q_n ?_
  refine w_seq ?_
  refine w_reg rfl ?_
  refine v_assign (c := .v (.int .i64 0)) rfl ?_
  refine v_nil ?_
  refine q_n ?_
  refine w_seq ?_
  refine w_seq ?_
  refine w_draw [0, 1, 3, 7, 0, 16, 48, 112, 240, 511] [⟨0, 0, []⟩, ⟨1, 0, []⟩, ⟨2, 0, []⟩, ⟨3, 0, []⟩, ⟨4, 0, []⟩, ⟨5, 0, []⟩, ⟨6, 0, []⟩, ⟨7, 0, []⟩, ⟨8, 0, []⟩, ⟨9, 0, []⟩] rfl rfl ?_
  refine d_q rfl rfl rfl rfl rfl ?_
  refine v_move rfl ?_
  refine v_nil ?_
  refine d_q rfl rfl rfl rfl rfl ?_
  refine v_nil_pt rfl ?_
  refine v_nil ?_
  refine d_q rfl rfl rfl rfl rfl ?_
  refine v_fa_pt (off' := 1) lay105 rfl rfl rfl ?_
  refine v_nil ?_
  refine d_q rfl rfl rfl rfl rfl ?_
  refine v_load_pt (.c _) lay3 rfl (List.getElem?_set_self hlt) rfl rfl ?_
  refine v_nil ?_
  refine d_q rfl rfl rfl rfl rfl ?_
  refine v_move rfl ?_
  refine v_nil ?_
  refine d_q rfl rfl rfl rfl rfl ?_
  refine v_nil_pt rfl ?_
  refine v_nil ?_
  refine d_q rfl rfl rfl rfl rfl ?_
  refine v_fa_pt (off' := 0) lay105 rfl rfl rfl ?_
  refine v_nil ?_
  refine d_q rfl rfl rfl rfl rfl ?_
  refine v_load_pt (.c _) lay48 rfl (List.getElem?_set_self hlt) rfl rfl ?_
  refine v_nil ?_
  refine d_q rfl rfl rfl rfl rfl ?_
  refine v_len_sl lay48 rfl ?_
  refine v_nil ?_
  refine d_q rfl rfl rfl rfl rfl ?_
  refine v_lss lay3 rfl rfl (fun h1 => ?_) (fun h1 => ?_)
  rotate_left
  · have ha1 : ¬ a < code.length := by omega
    have hb := and_le (x := (sd s 0).fdiv (2 ^ min (40 : Int).toNat IntKind.u64.bits)) (k := 8) (y := 255) (by decide) (by decide)
    unfold sd at hb
    refine v_nil ?_
    refine d_nil ?_
    refine q_n ?_
    refine w_f rfl ?_
    refine w_skip ?_
    refine q_n ?_
    refine w_seq ?_
    refine w_reg rfl ?_
    refine v_move rfl ?_
    refine v_nil_pt rfl ?_
    refine v_fa_pt (off' := 1) lay105 rfl rfl rfl ?_
    refine v_load_pt (.c _) lay3 rfl (List.getElem?_set_self hlt) rfl rfl ?_
    refine v_add lay3 rfl rfl (i64r (by omega)) ?_
    refine v_nil_pt rfl ?_
    refine v_fa_pt (off' := 1) lay105 rfl rfl rfl ?_
    refine v_store (H' := H.set id ⟨[_, _, _], 105, true⟩) lay3 rfl rfl (List.getElem?_set_self hlt) rfl rfl (List.set_set ..) ?_
    refine v_nil ?_
    refine q_n ?_
    refine w_seq ?_
    refine w_reg rfl ?_
    refine v_move rfl ?_
    refine v_move rfl ?_
    refine v_nil_pt rfl ?_
    refine v_fa_pt (off' := 2) lay105 rfl rfl rfl ?_
    refine v_load_pt (.c _) lay103 rfl (List.getElem?_set_self hlt) rfl rfl ?_
    refine v_bin (c := .v (.int .u64 _)) lay103 rfl rfl rfl ?_
    refine v_move rfl ?_
    refine v_conv_ii lay3 lay103 rfl (u64r (by omega)) ?_
    refine v_bin (c := .v (.int .u64 _)) lay103 rfl rfl rfl ?_
    refine v_bin (c := .v (.int .u64 _)) lay103 rfl rfl rfl ?_
    refine v_nil_pt rfl ?_
    refine v_fa_pt (off' := 2) lay105 rfl rfl rfl ?_
    refine v_store (H' := H.set id ⟨[_, _, _], 105, true⟩) lay103 rfl rfl (List.getElem?_set_self hlt) rfl rfl (List.set_set ..) ?_
    refine v_nil ?_
    refine q_n ?_
    refine w_seq ?_
    refine w_seq ?_
    refine w_draw [0, 1, 3, 7, 0, 16, 48, 112, 240, 511] [⟨0, 0, []⟩, ⟨1, 0, []⟩, ⟨2, 0, []⟩, ⟨3, 0, []⟩, ⟨4, 0, []⟩, ⟨5, 0, []⟩, ⟨6, 0, []⟩, ⟨7, 0, []⟩, ⟨8, 0, []⟩, ⟨9, 0, []⟩] rfl rfl ?_
    refine d_q rfl rfl rfl rfl rfl ?_
    refine v_move rfl ?_
    refine v_nil ?_
    refine d_q rfl rfl rfl rfl rfl ?_
    refine v_nil_pt rfl ?_
    refine v_nil ?_
    refine d_q rfl rfl rfl rfl rfl ?_
    refine v_fa_pt (off' := 1) lay105 rfl rfl rfl ?_
    refine v_nil ?_
    refine d_q rfl rfl rfl rfl rfl ?_
    refine v_load_pt (.c _) lay3 rfl (List.getElem?_set_self hlt) rfl rfl ?_
    refine v_nil ?_
    refine d_q rfl rfl rfl rfl rfl ?_
    refine v_move rfl ?_
    refine v_nil ?_
    refine d_q rfl rfl rfl rfl rfl ?_
    refine v_nil_pt rfl ?_
    refine v_nil ?_
    refine d_q rfl rfl rfl rfl rfl ?_
    refine v_fa_pt (off' := 0) lay105 rfl rfl rfl ?_
    refine v_nil ?_
    refine d_q rfl rfl rfl rfl rfl ?_
    refine v_load_pt (.c _) lay48 rfl (List.getElem?_set_self hlt) rfl rfl ?_
    refine v_nil ?_
    refine d_q rfl rfl rfl rfl rfl ?_
    refine v_len_sl lay48 rfl ?_
    refine v_nil ?_
    refine d_q rfl rfl rfl rfl rfl ?_
    refine v_leq lay3 rfl rfl (fun h4 => ?_) (fun h4 => ?_)
    · exact absurd h4 (by omega)
    refine v_nil ?_
    refine d_nil ?_
    refine q_n ?_
    refine w_f rfl ?_
    refine w_skip ?_
    refine q_n ?_
    refine w_seq ?_
    refine w_reg rfl ?_
    refine v_move rfl ?_
    refine v_nil_pt rfl ?_
    refine v_fa_pt (off' := 2) lay105 rfl rfl rfl ?_
    refine v_load_pt (.c _) lay103 rfl (List.getElem?_set_self hlt) rfl rfl ?_
    refine v_shr lay103 rfl rfl rfl (by decide) ?_
    refine v_and lay103 rfl rfl rfl ?_
    refine v_conv_ii lay103 lay2 rfl (i64r (by omega)) ?_
    refine v_assign rfl ?_
    refine v_nil ?_
    refine q_n ?_
    refine w_ret ?_
    refine r_r rfl ?_
    exact ⟨congrArg (fun z => (cI z : V)) (nxR_out ha1), congrArg (fun z => H.set id (srcO code ((a : Int) + 1) z)) (nxS_out ha1)⟩
  have ha1 : a < code.length := by omega
  have hb := hc _ (List.getElem_mem ha1)
  refine v_nil ?_
  refine d_nil ?_
  refine q_n ?_
  refine w_t rfl ?_
  refine w_draw [0, 1, 3, 7, 0, 16, 48, 112, 255, 511, 1023, 2047] [⟨0, 0, []⟩, ⟨1, 0, []⟩, ⟨2, 0, []⟩, ⟨3, 0, []⟩, ⟨4, 0, []⟩, ⟨5, 0, []⟩, ⟨6, 0, []⟩, ⟨7, 0, []⟩, ⟨8, 0, []⟩, ⟨9, 0, []⟩, ⟨10, 0, []⟩, ⟨11, 0, []⟩] rfl rfl ?_
  refine d_q rfl rfl rfl rfl rfl ?_
  refine v_move rfl ?_
  refine v_nil ?_
  refine d_q rfl rfl rfl rfl rfl ?_
  refine v_nil_pt rfl ?_
  refine v_nil ?_
  refine d_q rfl rfl rfl rfl rfl ?_
  refine v_fa_pt (off' := 0) lay105 rfl rfl rfl ?_
  refine v_nil ?_
  refine d_q rfl rfl rfl rfl rfl ?_
  refine v_load_pt (.c _) lay48 rfl (List.getElem?_set_self hlt) rfl rfl ?_
  refine v_nil ?_
  refine d_q rfl rfl rfl rfl rfl ?_
  refine v_move rfl ?_
  refine v_nil ?_
  refine d_q rfl rfl rfl rfl rfl ?_
  refine v_nil_pt rfl ?_
  refine v_nil ?_
  refine d_q rfl rfl rfl rfl rfl ?_
  refine v_fa_pt (off' := 1) lay105 rfl rfl rfl ?_
  refine v_nil ?_
  refine d_q rfl rfl rfl rfl rfl ?_
  refine v_load_pt (.c _) lay3 rfl (List.getElem?_set_self hlt) rfl rfl ?_
  refine v_nil ?_
  refine d_q rfl rfl rfl rfl rfl ?_
  refine v_idx_e (k := 1) (a) byt_len lay48 lay5 rfl rfl rfl (rfl) rfl (rfl) (by omega) ?_
  refine v_nil ?_
  refine d_q rfl rfl rfl rfl rfl ?_
  refine v_load_vw (.c (.v _)) lay5 rfl rfl rfl ?_
  refine v_nil ?_
  refine d_q rfl rfl rfl rfl rfl ?_
  refine v_conv_ii lay5 lay3 rfl (i64r (by omega)) ?_
  refine v_nil ?_
  refine d_q rfl rfl rfl rfl rfl ?_
  refine v_assign rfl ?_
  refine v_nil ?_
  refine d_nil ?_
  refine q_n ?_
  refine w_seq ?_
  refine w_reg rfl ?_
  refine v_move rfl ?_
  refine v_nil_pt rfl ?_
  refine v_fa_pt (off' := 1) lay105 rfl rfl rfl ?_
  refine v_load_pt (.c _) lay3 rfl (List.getElem?_set_self hlt) rfl rfl ?_
  refine v_add lay3 rfl rfl (i64r (by omega)) ?_
  refine v_nil_pt rfl ?_
  refine v_fa_pt (off' := 1) lay105 rfl rfl rfl ?_
  refine v_store (H' := H.set id ⟨[_, _, _], 105, true⟩) lay3 rfl rfl (List.getElem?_set_self hlt) rfl rfl (List.set_set ..) ?_
  refine v_nil ?_
  refine q_n ?_
  refine w_seq ?_
  refine w_reg rfl ?_
  refine v_move rfl ?_
  refine v_move rfl ?_
  refine v_nil_pt rfl ?_
  refine v_fa_pt (off' := 2) lay105 rfl rfl rfl ?_
  refine v_load_pt (.c _) lay103 rfl (List.getElem?_set_self hlt) rfl rfl ?_
  refine v_bin (c := .v (.int .u64 _)) lay103 rfl rfl rfl ?_
  refine v_move rfl ?_
  refine v_conv_ii lay3 lay103 rfl (u64r (by omega)) ?_
  refine v_bin (c := .v (.int .u64 _)) lay103 rfl rfl rfl ?_
  refine v_bin (c := .v (.int .u64 _)) lay103 rfl rfl rfl ?_
  refine v_nil_pt rfl ?_
  refine v_fa_pt (off' := 2) lay105 rfl rfl rfl ?_
  refine v_store (H' := H.set id ⟨[_, _, _], 105, true⟩) lay103 rfl rfl (List.getElem?_set_self hlt) rfl rfl (List.set_set ..) ?_
  refine v_nil ?_
  refine q_n ?_
  refine w_seq ?_
  refine w_seq ?_
  refine w_draw [0, 1, 3, 7, 0, 16, 48, 112, 240, 511] [⟨0, 0, []⟩, ⟨1, 0, []⟩, ⟨2, 0, []⟩, ⟨3, 0, []⟩, ⟨4, 0, []⟩, ⟨5, 0, []⟩, ⟨6, 0, []⟩, ⟨7, 0, []⟩, ⟨8, 0, []⟩, ⟨9, 0, []⟩] rfl rfl ?_
  refine d_q rfl rfl rfl rfl rfl ?_
  refine v_move rfl ?_
  refine v_nil ?_
  refine d_q rfl rfl rfl rfl rfl ?_
  refine v_nil_pt rfl ?_
  refine v_nil ?_
  refine d_q rfl rfl rfl rfl rfl ?_
  refine v_fa_pt (off' := 1) lay105 rfl rfl rfl ?_
  refine v_nil ?_
  refine d_q rfl rfl rfl rfl rfl ?_
  refine v_load_pt (.c _) lay3 rfl (List.getElem?_set_self hlt) rfl rfl ?_
  refine v_nil ?_
  refine d_q rfl rfl rfl rfl rfl ?_
  refine v_move rfl ?_
  refine v_nil ?_
  refine d_q rfl rfl rfl rfl rfl ?_
  refine v_nil_pt rfl ?_
  refine v_nil ?_
  refine d_q rfl rfl rfl rfl rfl ?_
  refine v_fa_pt (off' := 0) lay105 rfl rfl rfl ?_
  refine v_nil ?_
  refine d_q rfl rfl rfl rfl rfl ?_
  refine v_load_pt (.c _) lay48 rfl (List.getElem?_set_self hlt) rfl rfl ?_
  refine v_nil ?_
  refine d_q rfl rfl rfl rfl rfl ?_
  refine v_len_sl lay48 rfl ?_
  refine v_nil ?_
  refine d_q rfl rfl rfl rfl rfl ?_
  refine v_leq lay3 rfl rfl (fun h3 => ?_) (fun h3 => ?_)
  rotate_left
  · exact absurd h3 (by omega)
  refine v_nil ?_
  refine d_nil ?_
  refine q_n ?_
  refine w_t rfl ?_
  refine w_seq ?_
  refine w_reg rfl ?_
  refine v_move rfl ?_
  refine v_assign rfl ?_
  refine v_nil ?_
  refine q_n ?_
  refine w_ret (q_r ?_)
  refine r_r rfl ?_
  exact ⟨congrArg (fun z => (cI z : V)) (nxR_in ha1), congrArg (fun z => H.set id (srcO code ((a : Int) + 1) z)) (nxS_in ha1)⟩
theorem c74' {H : List Ob} {id : Nat} (code : List Int) (a s : Int) (hlt : id < H.length) (hc : ∀ b ∈ code, 0 ≤ b ∧ b ≤ 255) (hl : code.length ≤ 2 ^ 40) (h0 : 0 ≤ a) (ha : a ≤ 2 ^ 40) : DetC X 74 [.c (.pt id 0)] (H.set id (srcO code a s)) (cI (nxR code a s)) (H.set id (srcO code (a + 1) (nxS code a s))) := by
  obtain ⟨q, rfl⟩ := Int.eq_ofNat_of_zero_le h0
  exact c74 code q s hlt hc hl ha
theorem c51a {H : List Ob} {id : Nat} (code : List Int) (n a s : Int) (hlt : id < H.length) (hc : ∀ b ∈ code, 0 ≤ b ∧ b ≤ 255) (hl : code.length ≤ 2 ^ 40) (h0 : 0 ≤ a) (ha : a ≤ 2 ^ 40) (hn : n ≤ 200) : DetC X 51 [.c (.pt id 0), cI n] (H.set id (srcO code a s)) (cI (pkR code n a s)) (H.set id (srcO code (pkA n a) (pkS code n a s))) := by
  refine DetC.of_body (drawD_ok X) (fun _ _ => Go.Proofs.Try.call51 _ _) Go.Proofs.Try.func51 rfl (n := 20) rfl ?_
  refine w_seq ?_
  refine w_reg rfl ?_
  refine v_assign (c := .v (.int .i64 0)) rfl ?_
  refine v_nil ?_
  refine q_n ?_
  refine w_seq ?_
  refine w_seq ?_
  refine w_reg rfl ?_
  refine v_move rfl ?_
  refine v_leq lay2 rfl rfl (fun h1 => ?_) (fun h1 => ?_)
  · refine v_nil ?_
    refine q_n ?_
    refine w_t rfl ?_
    refine w_seq ?_
    refine w_reg rfl ?_
    refine v_assign (c := .v (.int .i64 0)) rfl ?_
    refine v_nil ?_
    refine q_n ?_
    refine w_ret (q_r ?_)
    refine r_r rfl ?_
    obtain ⟨e1, e2⟩ := pk_if1 (t := 105) (code := code) (a := a) (s := s) h1
    exact ⟨congrArg (fun z => (cI z : V)) e1, congrArg (fun z => H.set id z) e2⟩
  refine v_nil ?_
  refine q_n ?_
  refine w_f rfl ?_
  refine w_skip ?_
  refine q_n ?_
  refine w_seq ?_
  refine w_reg rfl ?_
  refine v_move rfl ?_
  refine v_det (H' := H.set id (srcO code (a + 1) (nxS code a s))) (c74' code a s hlt hc hl h0 ha) rfl rfl ?_
  refine v_assign rfl ?_
  refine v_nil ?_
  refine q_n ?_
  refine w_seq ?_
  refine w_seq ?_
  refine w_reg rfl ?_
  refine v_move rfl ?_
  refine v_gtr lay2 rfl rfl (fun h2 => ?_) (fun h2 => ?_)
  · exact absurd h2 (by omega)
  refine v_nil ?_
  refine q_n ?_
  refine w_f rfl ?_
  refine w_skip ?_
  refine q_n ?_
  refine w_seq ?_
  refine w_reg rfl ?_
  refine v_move rfl ?_
  refine v_move rfl ?_
  refine v_rem lay2 rfl rfl (by omega) ?_
  refine v_assign rfl ?_
  refine v_nil ?_
  refine q_n ?_
  refine w_ret ?_
  refine r_r rfl ?_
  obtain ⟨e1, e2⟩ := pk_if2 (t := 105) (code := code) (a := a) (s := s) h1 hn
  exact ⟨congrArg (fun z => (cI z : V)) e1, congrArg (fun z => H.set id z) e2⟩
/-- A number, picked. -/
theorem c51 {H H' : List Ob} {id : Nat} (code : List Int) (n a s : Int) (ho : H[id]? = some (srcO code a s)) (hc : ∀ b ∈ code, 0 ≤ b ∧ b ≤ 255) (hl : code.length ≤ 2 ^ 40) (h0 : 0 ≤ a) (ha : a ≤ 2 ^ 40) (hn : n ≤ 200) (hH : H.set id (srcO code (pkA n a) (pkS code n a s)) = H') : DetC X 51 [.c (.pt id 0), cI n] H (cI (pkR code n a s)) H' := by
  subst hH
  have h := c51a (H := H) (id := id) code n a s (List.getElem?_eq_some_iff.1 ho).1 hc hl h0 ha hn
  rw [set_same ho] at h
  exact h
section
variable {all r : List Oper} {K : Sl → List Ob → Prop} {sl : Sl} {H : List Ob} {d : Tmp} {ty : TypeId} {ps : String} {af : Array Edge}
theorem v_pick {f : Operand} {args : Array Operand} {tys : Array TypeId} {id : Nat} {code : List Int} {n a s : Int} (H1 : Int → Int → List Ob) (ho : H[id]? = some (srcO code a s)) (hc : ∀ b ∈ code, 0 ≤ b ∧ b ≤ 255) (hl : code.length ≤ 2 ^ 40) (h0 : 0 ≤ a ∧ a ≤ 2 ^ 40) (hn : n ≤ 200) (hf : rho X.G sl f = .c (.fn 51 [])) (has : args.toList.map (rho X.G sl) = [.c (.pt id 0), cI n]) (hH : ∀ a' s', H.set id (srcO code a' s') = H1 a' s')
    (h : ∀ q a' s', 0 ≤ q ∧ (1 < n → q < n) ∧ (n ≤ 1 → q = 0) → a ≤ a' ∧ a' ≤ a + 2 → vops X all r K (upd sl d (cI q)) (H1 a' s')) : vops X all (⟨some d, .call ⟨.value f, args, tys⟩, ty, ps, af, none⟩ :: r) K sl H := by
  have hp := pk_rng (code := code) (n := n) (a := a) (s := s) hc
  exact v_det (c51 code n a s ho hc hl h0.1 h0.2 hn (hH _ _)) hf has (h _ _ _ ⟨hp.1, hp.2.1, hp.2.2.1⟩ hp.2.2.2)
end
end Go.VL
namespace Go.VL
open Go.RowKit
set_option maxRecDepth 20000
set_option maxHeartbeats 8000000
/-- Eight truths, drawn. -/
def phN (code : List Int) (a s : Int) : Nat → Ph × Int × Int
  | 0 => (zg, a, s)
  | i + 1 => (putG (phN code a s i).1 i (decide (pkR code 3 (phN code a s i).2.1 (phN code a s i).2.2 = 0)), pkA 3 (phN code a s i).2.1, pkS code 3 (phN code a s i).2.1 (phN code a s i).2.2)
theorem phN_t {code : List Int} {a s : Int} {i : Nat} (h : pkR code 3 (phN code a s i).2.1 (phN code a s i).2.2 = 0) : putG (phN code a s i).1 i true = (phN code a s (i + 1)).1 := by
  simp only [phN, h, decide_true]
theorem phN_f {code : List Int} {a s : Int} {i : Nat} (h : ¬ pkR code 3 (phN code a s i).2.1 (phN code a s i).2.2 = 0) : putG (phN code a s i).1 i false = (phN code a s (i + 1)).1 := by
  simp only [phN, h, decide_false]
theorem phN_rng {code : List Int} {a s : Int} (hc : ∀ b ∈ code, 0 ≤ b ∧ b ≤ 255) : ∀ i : Nat, a ≤ (phN code a s i).2.1 ∧ (phN code a s i).2.1 ≤ a + 2 * i
  | 0 => by simp [phN]
  | i + 1 => by
    have h := phN_rng (a := a) (s := s) hc i
    have h2 := pk_rng (code := code) (n := 3) (a := (phN code a s i).2.1) (s := (phN code a s i).2.2) hc
    simp only [phN]
    push_cast
    omega
theorem c33y (xs : List Slo) (b f : Int) (hs : ticksOk xs) (hb : 0 ≤ b ∧ b ≤ 240) (hc : cyc xs b ≤ 240) (hx : xs.length ≤ 2 ^ 40) : PureC X 33 [.c (.vw false (pln true xs b f) 0)] (cI (cyc xs b)) := by
  have e : cyS xs b 0 = cyc xs b := by rw [cyS_ok hs hb (by omega)]; omega
  rw [← e]
  exact c33 xs b f hx
theorem tk6 {xs : List Slo} (h : ∀ x ∈ xs, 1 ≤ x.2 ∧ x.2 ≤ 6) : ticksOk xs := fun x hx => by have := h x hx; omega
theorem cyc6 {b : Int} (hb : 0 ≤ b ∧ b ≤ 2) : ∀ {xs : List Slo}, (∀ x ∈ xs, 1 ≤ x.2 ∧ x.2 ≤ 6) → (xs.length : Int) ≤ cyc xs b ∧ cyc xs b ≤ 8 * xs.length
  | [], _ => by simp [cyc]
  | s :: r, h => by
    have h1 := h s (by simp)
    have h2 := cyc6 hb (xs := r) fun x hx => h x (by simp [hx])
    simp only [cyc, List.length_cons]
    push_cast
    omega
theorem set0_facts {xs ys : List Slo} {b : Int} {m : Nat} (h0 : 0 < xs.length) (hm : m < 8) (hs : ∀ x ∈ xs, 1 ≤ x.2 ∧ x.2 ≤ 6) (h : xs.set 0 (putG (xs[0]).1 m true, (xs[0]).2) = ys) : xs.length = ys.length ∧ (∀ x ∈ ys, 1 ≤ x.2 ∧ x.2 ≤ 6) ∧ gr ys b m 0 = true := by
  match xs, h0 with
  | s :: r, _ =>
    simp only [List.getElem_cons_zero, List.set_cons_zero] at h
    subst h
    have h1 := hs s (by simp)
    refine ⟨by simp, fun x hx => ?_, ?_⟩
    · rcases List.mem_cons.1 hx with rfl | hx
      · exact h1
      · exact hs x (by simp [hx])
    · rw [← gr_eq hm]
      unfold atR
      rw [if_pos (by simp only []; omega)]
      simp [putG]
/-- What is drawn: plans that are one plan but for their offsets. -/
structure okR (ps : List Pln) (ts : List Int) (m n : Nat) : Prop extends okW ps ts m n where
  same : ∃ (ys : List Slo) (b : Int), (∀ p ∈ ps, p.1 = ys ∧ p.2.1 = b) ∧ gr ys b m 0 = true
theorem okR_of {ys : List Slo} {b : Int} {os ts : List Int} {m n : Nat} (h1 : 1 ≤ ys.length) (h4 : ys.length ≤ 4) (hb : 0 ≤ b ∧ b ≤ 2) (hs : ∀ x ∈ ys, 1 ≤ x.2 ∧ x.2 ≤ 6) (hn : cyc ys b = n) (hm : m < 8) (hg : gr ys b m 0 = true) (ho : 1 ≤ os.length) (ho4 : os.length ≤ 4) (hos : ∀ o ∈ os, 0 ≤ o ∧ o < n) (htl : ts.length + 1 = os.length) (hts : ∀ t ∈ ts, 0 ≤ t ∧ t ≤ 39) :
    okR (os.map fun o => ((ys, b, o) : Pln)) ts m n := by
  have hc := cyc6 hb hs
  exact {
    ne := by simpa using ho
    le := by simp only [List.length_map]; omega
    tl := by simpa using htl
    tr := fun t ht => by have := hts t ht; omega
    mm := hm
    ok := fun p hp => by
      obtain ⟨o, ho, rfl⟩ := List.mem_map.1 hp
      have := hos o ho
      exact ⟨⟨⟨by simp only []; omega, by simp only []; omega⟩, tk6 hs, by simp only []; omega⟩, by simp only []; omega, by simp only []; omega⟩
    cy := fun p hp => by
      obtain ⟨o, ho, rfl⟩ := List.mem_map.1 hp
      exact hn
    gn := fun p hp => by
      obtain ⟨o, ho, rfl⟩ := List.mem_map.1 hp
      exact ⟨0, by omega, hg⟩
    same := ⟨ys, b, fun p hp => by
      obtain ⟨o, ho, rfl⟩ := List.mem_map.1 hp
      exact ⟨rfl, rfl⟩, hg⟩ }
theorem c73 (code : List Int) (a s b : Int) (xs : List Slo) (hc : ∀ b ∈ code, 0 ≤ b ∧ b ≤ 255) (hl : code.length ≤ 2 ^ 40) (h0 : 0 ≤ a) (ha : a ≤ 2 ^ 30) : DetC X 73 [.c (.pt 0 0)] [srcO code a s, ⟨[.v (.slice none 0 0), .v (.int .i64 0), .v (.int .i64 0)], 28, true⟩, ⟨[.mu 3 0 xs.length 9, .v (.int .i64 (b)), .v (.int .i64 (0))], 28, true⟩, ⟨flat stc xs, 82, true⟩] (.agg (phc (phN code a s 8).1)) [srcO code (phN code a s 8).2.1 (phN code a s 8).2.2, ⟨[.v (.slice none 0 0), .v (.int .i64 0), .v (.int .i64 0)], 28, true⟩, ⟨[.mu 3 0 xs.length 9, .v (.int .i64 (b)), .v (.int .i64 (0))], 28, true⟩, ⟨flat stc xs, 82, true⟩] := by
  refine GraphC.of_body (drawD_ok X) (fun _ _ => Go.Proofs.Try.call73 _ _) Go.Proofs.Try.func73 rfl (n := 15) rfl rfl ?_
  refine w_seq ?_
  refine w_reg rfl ?_
  refine v_alloc (m := 4) (H' := [_, _, _, _, ⟨[.v _, .v _, .v _, .v _, .v _, .v _, .v _, .v _], 80, true⟩]) lay80 rfl rfl ?_
  refine v_nil ?_
  refine q_n ?_
  refine w_seq ?_
  refine w_reg rfl ?_
  refine v_build_a [.v _, .v _, .v _, .v _, .v _, .v _, .v _, .v _] lay80 lay4 rfl ?_
  refine v_alloc (m := 5) (H' := [_, _, _, _, _, ⟨[.v _, .v _, .v _, .v _, .v _, .v _, .v _, .v _], 80, true⟩]) lay80 rfl rfl ?_
  refine v_store (H' := [_, _, _, _, _, ⟨[_, _, _, _, _, _, _, _], 80, true⟩]) lay80 rfl rfl rfl rfl rfl rfl ?_
  refine v_nil ?_
  refine q_n ?_
  refine w_seq ?_
  refine w_seq ?_
  refine w_reg rfl ?_
  refine v_assign (c := .v (.int .i64 0)) rfl ?_
  refine v_nil ?_
  refine q_n ?_
  refine w_block ?_
  refine w_loop (fun k sl H => ∃ i : Nat, k = 8 - i ∧ i ≤ 8 ∧ sl = sls [(0, .c (.pt 0 0)), (2, .c (.pt 4 0)), (3, .c (.pt 5 0)), (4, cI i)] ∧ H = [srcO code (phN code a s i).2.1 (phN code a s i).2.2, ⟨[.v (.slice none 0 0), .v (.int .i64 0), .v (.int .i64 0)], 28, true⟩, ⟨[.mu 3 0 xs.length 9, .v (.int .i64 (b)), .v (.int .i64 (0))], 28, true⟩, ⟨flat stc xs, 82, true⟩, ⟨phc zg, 80, true⟩, ⟨flat bo (pl (phN code a s i).1), 80, true⟩]) ?_ ?_
  · refine ⟨_, _, _, ?_, 0, rfl, Nat.zero_le _, rfl, rfl⟩
    exact turn [some 0, some 1, some 2, some 3, some 4, some 5] rfl rfl rfl ⟨⟨_, rfl, .cons tr_sl (.cons tr_v (.cons tr_v .nil))⟩, ⟨_, rfl, .cons tr_v (.cons tr_v (.cons tr_v .nil))⟩, ⟨_, rfl, .cons (tr_mu rfl) (.cons tr_v (.cons tr_v .nil))⟩, ⟨_, rfl, trc_flat stc_sc rfl⟩, ⟨_, rfl, (.cons tr_v (.cons tr_v (.cons tr_v (.cons tr_v (.cons tr_v (.cons tr_v (.cons tr_v (.cons tr_v .nil))))))))⟩, ⟨_, rfl, trc_flat bo_sc rfl⟩, trivial⟩ ⟨tr_pt rfl, tr_pt rfl, tr_pt rfl, tr_v, trivial⟩
  rintro k sl H ⟨i, rfl, hi, rfl, rfl⟩
  have hr := phN_rng (a := a) (s := s) hc i
  refine w_seq ?_
  refine w_seq ?_
  refine w_reg rfl ?_
  refine v_move rfl ?_
  refine v_lss lay3 rfl rfl (fun h1 => ?_) (fun h1 => ?_)
  rotate_left
  · refine v_nil ?_
    refine q_n ?_
    refine w_f rfl ?_
    refine w_exit ?_
    refine q_e ?_
    refine q_e ?_
    refine q_hit ?_
    refine q_n ?_
    refine w_seq ?_
    refine w_reg rfl ?_
    refine v_load_pt (.agg [_, _, _, _, _, _, _, _]) lay80 rfl rfl rfl rfl ?_
    refine v_store (H' := [_, _, _, _, ⟨[_, _, _, _, _, _, _, _], 80, true⟩, _]) lay80 rfl rfl rfl rfl rfl rfl ?_
    refine v_nil ?_
    refine q_n ?_
    refine w_ret ?_
    refine r_r rfl ?_
    obtain rfl : i = 8 := by omega
    exact g_ans (H1 := [srcO code (phN code a s 8).2.1 (phN code a s 8).2.2, ⟨[.v (.slice none 0 0), .v (.int .i64 0), .v (.int .i64 0)], 28, true⟩, ⟨[.mu 3 0 xs.length 9, .v (.int .i64 (b)), .v (.int .i64 (0))], 28, true⟩, ⟨flat stc xs, 82, true⟩]) [some 0, some 1, some 2, some 3] rfl rfl rfl ⟨(fun _ => ⟨_, rfl, .cons tr_sl (.cons tr_v (.cons tr_v .nil))⟩), (fun _ => ⟨_, rfl, .cons tr_v (.cons tr_v (.cons tr_v .nil))⟩), (fun _ => ⟨_, rfl, .cons (tr_mu rfl) (.cons tr_v (.cons tr_v .nil))⟩), (fun _ => ⟨_, rfl, trc_flat stc_sc rfl⟩), trivial⟩ (tr_agg (.cons tr_v (.cons tr_v (.cons tr_v (.cons tr_v (.cons tr_v (.cons tr_v (.cons tr_v (.cons tr_v .nil))))))))) ⟨rfl, rfl⟩
  have hi1 : i < 8 := by omega
  refine v_nil ?_
  refine q_n ?_
  refine w_t rfl ?_
  refine w_skip ?_
  refine q_n ?_
  refine w_seq ?_
  refine w_block ?_
  refine w_reg rfl ?_
  refine v_move rfl ?_
  refine v_move rfl ?_
  refine v_inl (n := 9) (drawD_ok X) (fun _ _ => Go.Proofs.Try.call83 _ _) Go.Proofs.Try.func83 rfl rfl rfl rfl ?_
  refine w_seq ?_
  refine w_reg rfl ?_
  refine v_assign (c := .v (.bool false)) rfl ?_
  refine v_nil ?_
  refine q_n ?_
  refine w_seq ?_
  refine w_reg rfl ?_
  refine v_move rfl ?_
  refine v_move rfl ?_
  refine v_det (H' := [srcO code (pkA 3 ((phN code a s i).2.1)) (pkS code 3 ((phN code a s i).2.1) ((phN code a s i).2.2)), _, _, _, _, _]) (c51 code 3 ((phN code a s i).2.1) ((phN code a s i).2.2) rfl hc hl (by omega) (by omega) (by omega) rfl) rfl rfl ?_
  refine v_eql lay2 rfl rfl (fun h2 => ?_) (fun h2 => ?_)
  · have hpk := h2
    refine v_assign rfl ?_
    refine v_nil ?_
    refine q_n ?_
    refine w_ret ?_
    refine r_r rfl ?_
    refine v_idx_arr_e (k := 1) (i) lay80 lay4 rfl rfl rfl (rfl) (hi1) ?_
    refine v_store_flat (H' := [_, _, _, _, _, _]) i 0 (true) bo_len lay4 rfl rfl rfl (by omega) (by rw [pl_len]; exact hi1) rfl rfl (rfl) rfl ?_
    refine v_nil ?_
    refine q_bn ?_
    refine q_n ?_
    refine w_reg rfl ?_
    refine v_move rfl ?_
    refine v_add lay3 rfl rfl (i64r (by omega)) ?_
    refine v_assign rfl ?_
    refine v_nil ?_
    refine q_n ?_
    refine ⟨_, _, _, ?_, ⟨i + 1, rfl, by omega, rfl, rfl⟩, by omega⟩
    exact turn [some 0, some 1, some 2, some 3, some 4, some 5] rfl rfl rfl ⟨⟨_, rfl, .cons tr_sl (.cons tr_v (.cons tr_v .nil))⟩, ⟨_, rfl, .cons tr_v (.cons tr_v (.cons tr_v .nil))⟩, ⟨_, rfl, .cons (tr_mu rfl) (.cons tr_v (.cons tr_v .nil))⟩, ⟨_, rfl, trc_flat stc_sc rfl⟩, ⟨_, rfl, (.cons tr_v (.cons tr_v (.cons tr_v (.cons tr_v (.cons tr_v (.cons tr_v (.cons tr_v (.cons tr_v .nil))))))))⟩, ⟨_, rfl, trc_flat bo_sc (congrArg (flat bo) ((pl_set _ hi1 _).trans (congrArg pl (phN_t hpk))))⟩, trivial⟩ ⟨tr_pt rfl, tr_pt rfl, tr_pt rfl, tr_v, trivial⟩
  have hpk := h2
  refine v_assign rfl ?_
  refine v_nil ?_
  refine q_n ?_
  refine w_ret ?_
  refine r_r rfl ?_
  refine v_idx_arr_e (k := 1) (i) lay80 lay4 rfl rfl rfl (rfl) (hi1) ?_
  refine v_store_flat (H' := [_, _, _, _, _, _]) i 0 (false) bo_len lay4 rfl rfl rfl (by omega) (by rw [pl_len]; exact hi1) rfl rfl (rfl) rfl ?_
  refine v_nil ?_
  refine q_bn ?_
  refine q_n ?_
  refine w_reg rfl ?_
  refine v_move rfl ?_
  refine v_add lay3 rfl rfl (i64r (by omega)) ?_
  refine v_assign rfl ?_
  refine v_nil ?_
  refine q_n ?_
  refine ⟨_, _, _, ?_, ⟨i + 1, rfl, by omega, rfl, rfl⟩, by omega⟩
  exact turn [some 0, some 1, some 2, some 3, some 4, some 5] rfl rfl rfl ⟨⟨_, rfl, .cons tr_sl (.cons tr_v (.cons tr_v .nil))⟩, ⟨_, rfl, .cons tr_v (.cons tr_v (.cons tr_v .nil))⟩, ⟨_, rfl, .cons (tr_mu rfl) (.cons tr_v (.cons tr_v .nil))⟩, ⟨_, rfl, trc_flat stc_sc rfl⟩, ⟨_, rfl, (.cons tr_v (.cons tr_v (.cons tr_v (.cons tr_v (.cons tr_v (.cons tr_v (.cons tr_v (.cons tr_v .nil))))))))⟩, ⟨_, rfl, trc_flat bo_sc (congrArg (flat bo) ((pl_set _ hi1 _).trans (congrArg pl (phN_f hpk))))⟩, trivial⟩ ⟨tr_pt rfl, tr_pt rfl, tr_pt rfl, tr_v, trivial⟩
end Go.VL
namespace Go.VL
open Go.RowKit
set_option maxRecDepth 20000
set_option maxHeartbeats 8000000
theorem c33w (xs : List Slo) (b f : Int) (hs : ticksOk xs) (hb : 0 ≤ b ∧ b ≤ 240) (hc : cyc xs b ≤ 240) (hx : xs.length ≤ 2 ^ 40) {n : Nat} (hn : cyc xs b = n) : PureC X 33 [.c (.vw false (pln true xs b f) 0)] (cI n) := by
  rw [← hn]
  exact c33y xs b f hs hb hc hx
theorem c24 (code : List Int) (hc : ∀ b ∈ code, 0 ≤ b ∧ b ≤ 255) (hl : code.length ≤ 2 ^ 40) : PureE X 24 [.c (.sl false code.length 1 (flat byt code))] (fun r => ∃ (ps : List Pln) (ts : List Int) (m n : Nat), okR ps ts m n ∧ r = .tup [.c (pls true ps), .c (ints true ts), cI m]) := by
  refine PureE.of_body (drawD_ok X) (fun _ _ => Go.Proofs.Try.call24 _ _) Go.Proofs.Try.func24 rfl (n := 51) rfl ?_
  refine w_seq ?_
  refine w_reg rfl ?_
  refine v_assign rfl ?_
  refine v_assign rfl ?_
  refine v_assign (c := .v (.int .i64 0)) rfl ?_
  refine v_nil ?_
  refine q_n ?_
  refine w_seq ?_
  refine w_reg rfl ?_
  refine v_move rfl ?_
  refine v_inl (n := 6) (drawD_ok X) (fun _ _ => Go.Proofs.Try.call49 _ _) Go.Proofs.Try.func49 rfl rfl rfl rfl ?_
  refine w_seq ?_
  refine w_reg rfl ?_
  refine v_assign (c := .v _) rfl ?_
  refine v_nil ?_
  refine q_n ?_
  refine w_seq ?_
  refine w_reg rfl ?_
  refine v_move rfl ?_
  refine v_build [(0, 1), (1, 1), (2, 1)] [_, .v _, .v _] lay105 rfl rfl ?_
  refine v_box (m := 0) (H' := [_]) lay105 rfl rfl rfl ?_
  refine v_assign rfl ?_
  refine v_nil ?_
  refine q_n ?_
  refine w_ret ?_
  refine r_r rfl ?_
  refine v_assign rfl ?_
  refine v_nil ?_
  refine q_n ?_
  refine w_seq ?_
  refine w_reg rfl ?_
  refine v_move rfl ?_
  refine v_inl (n := 31) (drawD_ok X) (fun _ _ => Go.Proofs.Try.call50 _ _) Go.Proofs.Try.func50 rfl rfl rfl rfl ?_
  refine w_seq ?_
  refine w_reg rfl ?_
  refine v_alloc (m := 1) (H' := [_, ⟨[.v _, .v _, .v _], 28, true⟩]) lay28 rfl rfl ?_
  refine v_nil ?_
  refine q_n ?_
  refine w_seq ?_
  refine w_reg rfl ?_
  refine v_move rfl ?_
  refine v_pick (fun a' s' => [srcO _ a' s', _]) rfl hc (by omega) ⟨by omega, by omega⟩ (by omega) rfl rfl (fun a' s' => rfl) ?_
  intro q1 a1 s1 hq1 ha1
  refine v_build [(0, 1), (1, 1), (2, 1)] [.v _, .v _, .v _] lay28 rfl rfl ?_
  refine v_alloc (m := 2) (H' := [_, _, ⟨[.v _, .v _, .v _], 28, true⟩]) lay28 rfl rfl ?_
  refine v_store (H' := [_, _, ⟨[_, _, _], 28, true⟩]) lay28 rfl rfl rfl rfl rfl rfl ?_
  refine v_nil ?_
  refine q_n ?_
  refine w_seq ?_
  refine w_seq ?_
  refine w_reg rfl ?_
  refine v_move rfl ?_
  refine v_pick (fun a' s' => [srcO _ a' s', _, _]) rfl hc (by omega) ⟨by omega, by omega⟩ (by omega) rfl rfl (fun a' s' => rfl) ?_
  intro q2 a2 s2 hq2 ha2
  refine v_add lay2 rfl rfl (i64r (by omega)) ?_
  refine v_assign rfl ?_
  refine v_nil ?_
  refine q_n ?_
  refine w_block ?_
  refine w_loop (fun k sl H => ∃ (j : Nat) (xs : List Slo) (a s : Int), k = j ∧ xs.length + j ≤ 4 ∧ 1 ≤ xs.length + j ∧ (∀ x ∈ xs, 1 ≤ x.2 ∧ x.2 ≤ 6) ∧ (0 ≤ a ∧ a ≤ 4 + 18 * xs.length) ∧ sl = sls [(0, .c (.pt 0 0)), (2, .c (.pt 1 0)), (3, .c (.pt 2 0)), (4, cI j)] ∧ H = [srcO code a s, ⟨[.v (.slice none 0 0), .v (.int .i64 0), .v (.int .i64 0)], 28, true⟩, ⟨[.mu 3 0 xs.length 9, .v (.int .i64 (q1)), .v (.int .i64 (0))], 28, true⟩, ⟨flat stc xs, 82, true⟩]) ?_ ?_
  · obtain ⟨j0, hj0⟩ : ∃ j : Nat, 1 + q2 = j := Int.eq_ofNat_of_zero_le (by omega)
    refine ⟨_, _, _, ?_, j0, [], a2, s2, rfl, by simp; omega, by simp; omega, (fun x hx => by cases hx), ⟨by omega, by simp; omega⟩, rfl, rfl⟩
    exact turn [some 0, some 1, some 2, none] rfl rfl rfl ⟨⟨_, rfl, .cons tr_sl (.cons tr_v (.cons tr_v .nil))⟩, ⟨_, rfl, .cons tr_v (.cons tr_v (.cons tr_v .nil))⟩, ⟨_, rfl, .cons (tr_nil rfl) (.cons tr_v (.cons tr_v .nil))⟩, rfl, trivial⟩ ⟨tr_pt rfl, tr_pt rfl, tr_pt rfl, tr_i hj0, trivial⟩
  rintro k sl H ⟨j, xs, a, s, hkj, hl1, hl2, hs, h0, rfl, rfl⟩
  have hcy := cyc6 (b := q1) (by omega) hs
  refine w_seq ?_
  refine w_seq ?_
  refine w_reg rfl ?_
  refine v_move rfl ?_
  refine v_gtr lay2 rfl rfl (fun h1 => ?_) (fun h1 => ?_)
  · refine v_nil ?_
    refine q_n ?_
    refine w_t rfl ?_
    refine w_skip ?_
    refine q_n ?_
    refine w_seq ?_
    refine w_block ?_
    refine w_draw [0, 1, 0, 4, 0, 28, 60, 124, 252, 511, 1023, 2047] [⟨0, 0, []⟩, ⟨1, 0, []⟩, ⟨2, 0, []⟩, ⟨4, 0, []⟩, ⟨3, 1, [1]⟩, ⟨5, 1, [1]⟩, ⟨6, 0, []⟩, ⟨7, 0, []⟩, ⟨8, 2, []⟩, ⟨9, 1, []⟩, ⟨10, 0, []⟩, ⟨11, 1, []⟩] rfl rfl ?_
    refine d_q rfl rfl rfl rfl rfl ?_
    refine v_fa_pt (off' := 0) lay28 rfl rfl rfl ?_
    refine v_nil ?_
    refine d_q rfl rfl rfl rfl rfl ?_
    refine v_load_pt (.c _) lay26 rfl rfl rfl rfl ?_
    refine v_nil ?_
    refine d_q rfl rfl rfl rfl rfl ?_
    refine v_move rfl ?_
    refine v_nil ?_
    refine d_q rfl rfl rfl rfl rfl ?_
    refine v_move rfl ?_
    refine v_nil ?_
    refine d_det (H' := [_, _, _, _]) (c73 code a s _ xs hc (by omega) (by omega) (by omega)) rfl rfl rfl rfl ⟨ag_load_pt (.c _) lay26 rfl rfl rfl rfl, trivial⟩ ?_
    have hph := phN_rng (a := a) (s := s) hc 8
    refine d_det (H' := [_, _, _, _]) (c51 code 6 (phN code a s 8).2.1 (phN code a s 8).2.2 rfl hc (by omega) (by omega) (by omega) (by omega) rfl) rfl rfl rfl rfl ⟨ag_load_pt (.c _) lay26 rfl rfl rfl rfl, trivial⟩ ?_
    have hpk := pk_rng (code := code) (n := 6) (a := (phN code a s 8).2.1) (s := (phN code a s 8).2.2) hc
    refine d_q rfl rfl rfl rfl rfl ?_
    refine v_add lay2 rfl rfl (i64r (by omega)) ?_
    refine v_nil ?_
    refine d_q rfl rfl rfl rfl rfl ?_
    refine v_build [(0, 8), (8, 1)] [.v _, .v _, .v _, .v _, .v _, .v _, .v _, .v _, .v _] lay82 rfl rfl ?_
    refine v_nil ?_
    refine d_z (.c (.sl true 1 9 (flat stc [((phN code a s 8).1, 1 + pkR code 6 (phN code a s 8).2.1 (phN code a s 8).2.2)]))) rfl rfl rfl ?_
    refine d_e rfl rfl rfl ?_
    refine v_app_flat_sl (H' := [_, _, _, _, _]) stc_sc stc_len lay26 lay82 rfl rfl (by simp) rfl rfl rfl (by unfold maxLen; simp only []; omega) rfl rfl ?_
    refine v_nil ⟨again_nil, ?_⟩
    refine d_q rfl rfl rfl rfl rfl ?_
    refine v_fa_pt (off' := 0) lay28 rfl rfl rfl ?_
    refine v_nil ?_
    refine d_e rfl rfl rfl ?_
    refine v_store (H' := [_, _, ⟨[_, _, _], 28, true⟩, _, _]) lay26 rfl rfl rfl rfl rfl rfl ?_
    refine v_nil ⟨again_nil, ?_⟩
    refine d_nil ?_
    refine q_bn ?_
    refine q_n ?_
    refine w_reg rfl ?_
    refine v_move rfl ?_
    refine v_sub lay2 rfl rfl (i64r (by omega)) ?_
    refine v_assign rfl ?_
    refine v_nil ?_
    refine q_n ?_
    refine ⟨_, _, _, ?_, ⟨j - 1, xs ++ [((phN code a s 8).1, 1 + pkR code 6 (phN code a s 8).2.1 (phN code a s 8).2.2)], pkA 6 (phN code a s 8).2.1, pkS code 6 (phN code a s 8).2.1 (phN code a s 8).2.2, rfl, by simp; omega, by simp; omega, fun x hx => ?_, ⟨?_, ?_⟩, rfl, rfl⟩, by omega⟩
    · exact turn [some 0, some 1, some 2, some 4] rfl rfl rfl ⟨⟨_, rfl, .cons tr_sl (.cons tr_v (.cons tr_v .nil))⟩, ⟨_, rfl, .cons tr_v (.cons tr_v (.cons tr_v .nil))⟩, ⟨_, rfl, .cons (tr_mun rfl (by simp)) (.cons tr_v (.cons tr_v .nil))⟩, ⟨_, rfl, trc_flat stc_sc rfl⟩, trivial⟩ ⟨tr_pt rfl, tr_pt rfl, tr_pt rfl, tr_i (by omega), trivial⟩
    · rcases List.mem_append.1 hx with hx | hx
      · exact hs x hx
      · simp only [List.mem_singleton] at hx
        subst hx
        simp only []
        omega
    · omega
    · simp; omega
  refine v_nil ?_
  refine q_n ?_
  refine w_f rfl ?_
  refine w_exit ?_
  refine q_e ?_
  refine q_e ?_
  refine q_hit ?_
  refine q_n ?_
  refine w_seq ?_
  refine w_reg rfl ?_
  refine v_move rfl ?_
  refine v_call (c33y _ _ _ (tk6 hs) (by omega) (by omega) (by omega)) rfl rfl rfl (.cons (vw_pt rfl (.cons (dn_flat stc_sc stc_len rfl trivial rfl) (.cons .v (.cons .v .nil)))) .nil) ?_
  refine v_pick (fun a' s' => [srcO _ a' s', _, _, _]) rfl hc (by omega) ⟨by omega, by omega⟩ (by omega) rfl rfl (fun a' s' => rfl) ?_
  intro q3 a3 s3 hq3 ha3
  refine v_fa_pt (off' := 2) lay28 rfl rfl rfl ?_
  refine v_store (H' := [_, _, ⟨[_, _, _], 28, true⟩, _]) lay2 rfl rfl rfl rfl rfl rfl ?_
  refine v_nil ?_
  refine q_n ?_
  refine w_seq ?_
  refine w_reg rfl ?_
  refine v_load_pt (.agg [_, _, _]) lay28 rfl rfl rfl rfl ?_
  refine v_store (H' := [_, ⟨[_, _, _], 28, true⟩, _, _]) lay28 rfl rfl rfl rfl rfl rfl ?_
  refine v_nil ?_
  refine q_n ?_
  refine w_ret ?_
  refine r_r rfl ?_
  refine v_alloc (m := 4) (H' := [_, _, _, _, ⟨[.v _, .v _, .v _], 28, true⟩]) lay28 rfl rfl ?_
  refine v_store (H' := [_, _, _, _, ⟨[_, _, _], 28, true⟩]) lay28 rfl rfl rfl rfl rfl rfl ?_
  refine v_nil ?_
  refine q_n ?_
  refine w_seq ?_
  refine w_reg rfl ?_
  refine v_move rfl ?_
  refine v_pick (fun a' s' => [srcO _ a' s', _, _, _, _]) rfl hc (by omega) ⟨by omega, by omega⟩ (by omega) rfl rfl (fun a' s' => rfl) ?_
  intro q4 a4 s4 hq4 ha4
  obtain ⟨m, rfl⟩ : ∃ m : Nat, q4 = m := Int.eq_ofNat_of_zero_le (by omega)
  have hm : m < 8 := by omega
  have hx0 : 0 < xs.length := by omega
  refine v_assign rfl ?_
  refine v_nil ?_
  refine q_n ?_
  refine w_seq ?_
  refine w_reg rfl ?_
  refine v_fa_pt (off' := 0) lay28 rfl rfl rfl ?_
  refine v_load_pt (.c _) lay26 rfl rfl rfl rfl ?_
  refine v_move rfl ?_
  refine v_idx_mu_e (k := 9) (off := 0) (0) lay26 lay82 rfl rfl rfl (rfl) (hx0) ?_
  refine v_fa_pt (off' := _) lay82 rfl rfl rfl ?_
  refine v_idx_arr_e (k := 1) (m) lay80 lay4 rfl rfl rfl (rfl) (hm) ?_
  refine v_store_flat_e (H' := [_, _, _, _, _]) (0) (0 + m * 1) ((putG (xs[0]).1 m true, (xs[0]).2)) stc_len lay4 rfl rfl rfl (by omega) (hx0) rfl (by show 0 + m * 1 + 1 ≤ 9; omega) (st_put (xs[0]) hm true) rfl ?_
  refine v_nil ?_
  refine q_n ?_
  refine w_seq ?_
  refine w_reg rfl ?_
  generalize hys : xs.set 0 (putG (xs[0]).1 m true, (xs[0]).2) = ys
  obtain ⟨hyl, hys2, hyg⟩ := set0_facts (b := q1) hx0 hm hs hys
  rw [hyl]
  have hcz := cyc6 (b := q1) (by omega) hys2
  obtain ⟨n, hn⟩ : ∃ n : Nat, cyc ys q1 = n := Int.eq_ofNat_of_zero_le (by omega)
  refine v_call (c33w ys q1 q3 (tk6 hys2) (by omega) (by omega) (by omega) hn) rfl rfl rfl (.cons (vw_pt rfl (.cons (dn_flat stc_sc stc_len rfl trivial rfl) (.cons .v (.cons .v .nil)))) .nil) ?_
  refine v_assign rfl ?_
  refine v_nil ?_
  refine q_n ?_
  refine w_seq ?_
  refine w_reg rfl ?_
  refine v_lit (flat plc []) (H' := [_, _, _, _, _, _]) lay38 lay28 rfl rfl ⟨by decide, by decide⟩ rfl rfl ?_
  refine v_assign rfl ?_
  refine v_nil ?_
  refine q_n ?_
  refine w_seq ?_
  refine w_reg rfl ?_
  refine v_lit (flat int []) (H' := [_, _, _, _, _, _, _]) lay36 lay2 rfl rfl ⟨by decide, by decide⟩ rfl rfl ?_
  refine v_assign rfl ?_
  refine v_nil ?_
  refine q_n ?_
  refine w_seq ?_
  refine w_seq ?_
  refine w_reg rfl ?_
  refine v_move rfl ?_
  refine v_pick (fun a' s' => [srcO _ a' s', _, _, _, _, _, _]) rfl hc (by omega) ⟨by omega, by omega⟩ (by omega) rfl rfl (fun a' s' => rfl) ?_
  intro q5 a5 s5 hq5 ha5
  refine v_add lay2 rfl rfl (i64r (by omega)) ?_
  refine v_assign rfl ?_
  refine v_nil ?_
  refine q_n ?_
  refine w_block ?_
  refine w_loop (fun k sl H => ∃ (k0 : Nat) (os ts : List Int) (a s : Int), k = k0 ∧ (os.length + k0 ≤ 4 ∧ 1 ≤ os.length + k0) ∧ (k0 = 0 → ts.length + 1 = os.length) ∧ (0 < k0 → ts.length = os.length) ∧ (∀ o ∈ os, 0 ≤ o ∧ o < n) ∧ (∀ t ∈ ts, 0 ≤ t ∧ t ≤ 39) ∧ (0 ≤ a ∧ a ≤ 100 + 4 * os.length) ∧ sl = sls [(5, .c (.pt 0 0)), (6, .c (.pt 2 0)), (7, cI m), (8, cI n), (9, .c (.mu 3 0 os.length 3)), (10, .c (.mu 4 0 ts.length 1)), (11, cI k0)] ∧ H = [srcO code a s, ⟨flat stc ys, 82, true⟩, ⟨[.mu 1 0 ys.length 9, .v (.int .i64 (q1)), .v (.int .i64 (q3))], 28, true⟩, ⟨flat plc (os.map fun o => ((ys, q1, o) : Pln)), 28, true⟩, ⟨flat int ts, 2, true⟩]) ?_ ?_
  · obtain ⟨k0, hk0⟩ : ∃ k : Nat, 1 + q5 = k := Int.eq_ofNat_of_zero_le (by omega)
    refine ⟨_, _, _, ?_, k0, [], [], a5, s5, rfl, ⟨by simp; omega, by simp; omega⟩, fun h => by omega, fun h => rfl, (fun x hx => by cases hx), (fun x hx => by cases hx), ⟨by omega, by simp; omega⟩, rfl, rfl⟩
    exact turn [some 0, some 3, some 4, some 5, some 6] rfl rfl rfl ⟨⟨_, rfl, .cons tr_sl (.cons tr_v (.cons tr_v .nil))⟩, ⟨_, rfl, trc_flat stc_sc rfl⟩, ⟨_, rfl, .cons (tr_mu rfl) (.cons tr_v (.cons tr_v .nil))⟩, ⟨_, rfl, trc_flatz plc_sc (xs := []) rfl⟩, ⟨_, rfl, trc_flat int_sc (xs := []) rfl⟩, trivial⟩ ⟨tr_pt rfl, tr_pt rfl, tr_v, tr_v, tr_mun rfl rfl, tr_mun rfl rfl, tr_i hk0, trivial⟩
  rintro k sl H ⟨k0, os, ts, a, s, hkj, hl3, hz, hnz, hos, hts, h0, rfl, rfl⟩
  refine w_seq ?_
  refine w_seq ?_
  refine w_reg rfl ?_
  refine v_move rfl ?_
  refine v_gtr lay2 rfl rfl (fun h3 => ?_) (fun h3 => ?_)
  rotate_left
  · refine v_nil ?_
    refine q_n ?_
    refine w_f rfl ?_
    refine w_exit ?_
    refine q_e ?_
    refine q_e ?_
    refine q_hit ?_
    refine q_n ?_
    refine w_seq ?_
    refine w_reg rfl ?_
    refine v_move rfl ?_
    refine v_move rfl ?_
    refine v_move rfl ?_
    refine v_assign rfl ?_
    refine v_assign rfl ?_
    refine v_assign rfl ?_
    refine v_nil ?_
    refine q_n ?_
    refine w_ret ?_
    refine r_r rfl ?_
    exact ⟨_, ⟨_, ts, m, n, okR_of (by omega) (by omega) (by omega) hys2 hn hm hyg (by omega) (by omega) hos (hz (by omega)) hts, rfl⟩, a_tup (.cons (a_flatz plc_sc plc_len rfl rfl (by simp) (by simp)) (.cons (a_flat2 int_sc int_len rfl rfl rfl rfl) (.cons tr_v .nil)))⟩
  refine v_nil ?_
  refine q_n ?_
  refine w_t rfl ?_
  refine w_skip ?_
  refine q_n ?_
  refine w_seq ?_
  refine w_block ?_
  refine w_seq ?_
  refine w_reg rfl ?_
  refine v_move rfl ?_
  refine v_move rfl ?_
  refine v_move rfl ?_
  refine v_pick (fun a' s' => [srcO _ a' s', _, _, _, _]) rfl hc (by omega) ⟨by omega, by omega⟩ (by omega) rfl rfl (fun a' s' => rfl) ?_
  intro q6 a6 s6 hq6 ha6
  refine v_call (c34 _ _ _ _ (by omega)) rfl rfl rfl (.cons (vw_pt rfl (.cons (dn_flat stc_sc stc_len rfl trivial rfl) (.cons .v (.cons .v .nil)))) (.cons vw_v .nil)) ?_
  refine v_lit (flat plc [(ys, q1, q6)]) (H' := [_, _, _, _, _, _]) lay38 lay28 rfl rfl ⟨by decide, by decide⟩ rfl rfl ?_
  refine v_app_flatz (H' := [_, _, _, _, _, _, _]) plc_sc plc_len lay38 lay28 rfl rfl (by simp) rfl rfl (by simp) rfl rfl (by unfold maxLen; simp only []; omega) rfl rfl ?_
  refine v_assign rfl ?_
  refine v_nil ?_
  refine q_n ?_
  refine w_seq ?_
  refine w_reg rfl ?_
  refine v_move rfl ?_
  refine v_gtr lay2 rfl rfl (fun h4 => ?_) (fun h4 => ?_)
  rotate_left
  · refine v_nil ?_
    refine q_n ?_
    refine w_f rfl ?_
    refine w_skip ?_
    refine q_bn ?_
    refine q_n ?_
    refine w_reg rfl ?_
    refine v_move rfl ?_
    refine v_sub lay2 rfl rfl (i64r (by omega)) ?_
    refine v_assign rfl ?_
    refine v_nil ?_
    refine q_n ?_
    refine ⟨_, _, _, ?_, ⟨k0 - 1, os ++ [q6], ts, a6, s6, rfl, ⟨by simp; omega, by simp; omega⟩, fun h => ?_, fun h => ?_, fun o ho => ?_, fun t ht => ?_, ⟨?_, ?_⟩, rfl, rfl⟩, by omega⟩
    · exact turn [some 0, some 1, some 2, some 6, some 4] rfl rfl rfl ⟨⟨_, rfl, .cons tr_sl (.cons tr_v (.cons tr_v .nil))⟩, ⟨_, rfl, trc_flat stc_sc rfl⟩, ⟨_, rfl, .cons (tr_mu rfl) (.cons tr_v (.cons tr_v .nil))⟩, ⟨_, rfl, trc_flatz plc_sc (by simp [flat])⟩, ⟨_, rfl, trc_flat int_sc rfl⟩, trivial⟩ ⟨tr_pt rfl, tr_pt rfl, tr_v, tr_v, tr_mun rfl (by simp), tr_mun rfl rfl, tr_i (by omega), trivial⟩
    · simp only [List.length_append, List.length_cons, List.length_nil]; omega
    · simp only [List.length_append, List.length_cons, List.length_nil]; omega
    · rcases List.mem_append.1 ho with ho | ho
      · exact hos o ho
      · simp only [List.mem_singleton] at ho
        subst ho
        omega
    · exact hts t ht
    · omega
    · simp; omega
  refine v_nil ?_
  refine q_n ?_
  refine w_t rfl ?_
  refine w_reg rfl ?_
  refine v_move rfl ?_
  refine v_move rfl ?_
  refine v_pick (fun a' s' => [srcO _ a' s', _, _, _, _, _, _]) rfl hc (by omega) ⟨by omega, by omega⟩ (by omega) rfl rfl (fun a' s' => rfl) ?_
  intro q7 a7 s7 hq7 ha7
  refine v_lit (flat int [_]) (H' := [_, _, _, _, _, _, _, _]) lay36 lay2 rfl rfl ⟨by decide, by decide⟩ rfl rfl ?_
  refine v_app_flat (H' := [_, _, _, _, _, _, _, _, _]) int_sc int_len lay36 lay2 rfl rfl (by simp) rfl rfl (by simp) rfl rfl (by unfold maxLen; simp only []; omega) rfl rfl ?_
  refine v_assign rfl ?_
  refine v_nil ?_
  refine q_bn ?_
  refine q_n ?_
  refine w_reg rfl ?_
  refine v_move rfl ?_
  refine v_sub lay2 rfl rfl (i64r (by omega)) ?_
  refine v_assign rfl ?_
  refine v_nil ?_
  refine q_n ?_
  refine ⟨_, _, _, ?_, ⟨k0 - 1, os ++ [q6], ts ++ [q7], a7, s7, rfl, ⟨by simp; omega, by simp; omega⟩, fun h => ?_, fun h => ?_, fun o ho => ?_, fun t ht => ?_, ⟨?_, ?_⟩, rfl, rfl⟩, by omega⟩
  · exact turn [some 0, some 1, some 2, some 6, some 8] rfl rfl rfl ⟨⟨_, rfl, .cons tr_sl (.cons tr_v (.cons tr_v .nil))⟩, ⟨_, rfl, trc_flat stc_sc rfl⟩, ⟨_, rfl, .cons (tr_mu rfl) (.cons tr_v (.cons tr_v .nil))⟩, ⟨_, rfl, trc_flatz plc_sc (by simp [flat])⟩, ⟨_, rfl, trc_flat int_sc rfl⟩, trivial⟩ ⟨tr_pt rfl, tr_pt rfl, tr_v, tr_v, tr_mun rfl (by simp), tr_mun rfl (by simp), tr_i (by omega), trivial⟩
  · simp only [List.length_append, List.length_cons, List.length_nil]; omega
  · simp only [List.length_append, List.length_cons, List.length_nil]; omega
  · rcases List.mem_append.1 ho with ho | ho
    · exact hos o ho
    · simp only [List.mem_singleton] at ho
      subst ho
      omega
  · rcases List.mem_append.1 ht with ht | ht
    · exact hts t ht
    · simp only [List.mem_singleton] at ht
      subst ht
      omega
  · omega
  · simp; omega
end Go.VL
namespace Go.VL
open Go.RowKit
set_option maxRecDepth 20000
set_option maxHeartbeats 8000000
def wvL (ps : List Pln) (ts : List Int) (m n : Nat) : List Pln := (List.range ps.length).map (wvp ps ts m n)
theorem wvL_len {ps : List Pln} {ts : List Int} {m n : Nat} : (wvL ps ts m n).length = ps.length := by simp [wvL]
theorem wvL_at {ps : List Pln} {ts : List Int} {m n i : Nat} (h : i < (wvL ps ts m n).length) : (wvL ps ts m n)[i] = wvp ps ts m n i := mk_at h
theorem okR.at {ps : List Pln} {ts : List Int} {m n : Nat} (h : okR ps ts m n) : ∃ (ys : List Slo) (b : Int), gr ys b m 0 = true ∧ (∀ i, i < ps.length → (pa ps i).1 = ys ∧ (pa ps i).2.1 = b ∧ okP ys b (pa ps i).2.2) ∧ cyc ys b = n ∧ grn ys b m n ∧ 1 ≤ n := by
  obtain ⟨ys, b, hs, hg⟩ := h.same
  have h0 : 0 < ps.length := by have := h.ne; omega
  have hi : ∀ i, i < ps.length → (pa ps i).1 = ys ∧ (pa ps i).2.1 = b ∧ okP ys b (pa ps i).2.2 := fun i hi => by
    rw [pa_at hi]
    obtain ⟨e1, e2⟩ := hs _ (List.getElem_mem hi)
    have := h.ok _ (List.getElem_mem hi)
    rw [e1, e2] at this
    exact ⟨e1, e2, this⟩
  have hc := h.cy _ (List.getElem_mem h0)
  have hgn := h.gn _ (List.getElem_mem h0)
  obtain ⟨e1, e2⟩ := hs _ (List.getElem_mem h0)
  rw [e1, e2] at hc hgn
  exact ⟨ys, b, hg, hi, hc, hgn, by obtain ⟨k, hk, -⟩ := hgn; omega⟩
theorem bgn_same {p q : Pln} {m n : Nat} (h1 : p.1 = q.1) (h2 : p.2.1 = q.2.1) : bgn p m n = bgn q m n := by
  unfold bgn
  rw [gr0_eq, gr0_eq, h1, h2]
theorem okW_due {ps : List Pln} {ts : List Int} {m n : Nat} (h : okR ps ts m n) : okW (wvL ps ts m n) ts m n := by
  obtain ⟨ys, b, hg, hi, hc, hgn, hn⟩ := h.at
  have hm : ∀ p ∈ wvL ps ts m n, p.1 = ys ∧ p.2.1 = b ∧ (0 ≤ p.2.2 ∧ p.2.2 < n) := fun p hp => by
    obtain ⟨i, hi2, rfl⟩ := List.mem_map.1 hp
    have hi3 := hi i (List.mem_range.1 hi2)
    exact ⟨hi3.1, hi3.2.1, wof_rng (by omega)⟩
  have h0 := (hi 0 (by have := h.ne; omega)).2.2
  exact {
    ne := by rw [wvL_len]; exact h.ne
    le := by rw [wvL_len]; exact h.le
    tl := by rw [wvL_len]; exact h.tl
    tr := h.tr
    mm := h.mm
    ok := fun p hp => by
      obtain ⟨e1, e2, e3, e4⟩ := hm p hp
      rw [e1, e2]
      exact ⟨h0.1, h0.2.1, by omega, by omega⟩
    cy := fun p hp => by
      obtain ⟨e1, e2, -⟩ := hm p hp
      rw [e1, e2]
      exact hc
    gn := fun p hp => by
      obtain ⟨e1, e2, -⟩ := hm p hp
      rw [e1, e2]
      exact hgn }
theorem mtb_all {ps : List Pln} {ts : List Int} {m n t : Nat} {G : Bool} (h : ∀ j, j < ps.length → gr (pa ps j).1 (pa ps j).2.1 m (((t : Int) + sumT ts j - (pa ps j).2.2) % n) = G) : ∀ {j : Nat}, j + 1 ≤ ps.length → mtb ps ts m n t (j + 1) = G
  | 0, hj => by simp only [mtb, h 0 (by omega), Bool.true_and]
  | j + 1, hj => by
    rw [mtb, mtb_all h (by omega), h (j + 1) (by omega), Bool.and_self]
theorem cnb_ext {F G : Nat → Bool} {i : Nat} (h : ∀ k, k < i → F k = G k) : cnb F i = cnb G i := by
  have h1 := cnb_mono (F := F) (G := G) (i := i) fun k hk e => by rw [← h k hk]; exact e
  have h2 := cnb_mono (F := G) (G := F) (i := i) fun k hk e => by rw [h k hk]; exact e
  omega
theorem wid_due {ps : List Pln} {ts : List Int} {m n : Nat} (h : okR ps ts m n) (h0 : 0 < ps.length) : wid (wvL ps ts m n) ts m n n = cgr ps[0].1 ps[0].2.1 ps[0].2.2 m n n := by
  obtain ⟨ys, b, hg, hi, hc, hgn, hn⟩ := h.at
  refine cnb_ext fun t ht => ?_
  have hl : (wvL ps ts m n).length = (ps.length - 1) + 1 := by rw [wvL_len]; omega
  rw [hl]
  refine mtb_all (fun j hj => ?_) (by omega)
  have hj' : j < ps.length := by rw [wvL_len] at hj; exact hj
  rw [pa_at hj, wvL_at hj]
  obtain ⟨e1, e2, -⟩ := hi j hj'
  obtain ⟨f1, f2, -⟩ := hi 0 h0
  have hb := bgn_same (m := m) (n := n) (e1.trans f1.symm) (e2.trans f2.symm)
  rw [← pa_at h0]
  simp only [wvp, wof]
  rw [e1, e2, f1, f2, hb, em_sub]
  congr 2
  omega
theorem wid_le {ps : List Pln} {ts : List Int} {m n : Nat} (h0 : 0 < ps.length) : wid ps ts m n n ≤ cgr ps[0].1 ps[0].2.1 ps[0].2.2 m n n := by
  refine cnb_mono fun t ht e => ?_
  have e1 := mtb_mono (i := 1) (by omega) e
  simp only [mtb, Bool.true_and] at e1
  rw [pa_at h0, sumT_0] at e1
  rw [← e1]
  congr 2
  omega
theorem wid_one {ps : List Pln} {ts : List Int} {m n : Nat} (h0 : 0 < ps.length) (h1 : ps.length = 1) : wid ps ts m n n = cgr ps[0].1 ps[0].2.1 ps[0].2.2 m n n := by
  refine cnb_ext fun t ht => ?_
  rw [h1]
  simp only [mtb, Bool.true_and]
  rw [pa_at h0, sumT_0]
  congr 2
  omega
theorem cgr_pos {ps : List Pln} {ts : List Int} {m n : Nat} (h : okR ps ts m n) (h0 : 0 < ps.length) : 1 ≤ cgr ps[0].1 ps[0].2.1 ps[0].2.2 m n n := by
  obtain ⟨ys, b, hg, hi, hc, hgn, hn⟩ := h.at
  obtain ⟨f1, f2, f3⟩ := hi 0 h0
  rw [pa_at h0] at f1 f2 f3
  have h4 := ok_n f3 hc
  refine cnb_pos (k := ps[0].2.2.toNat) (by omega) ?_
  rw [f1, f2, Int.toNat_of_nonneg (by omega), show (0 : Int) + ps[0].2.2 - ps[0].2.2 = 0 by omega, Int.zero_emod]
  exact hg
theorem due_same {ps : List Pln} {ts : List Int} {m n i : Nat} (h : i < ps.length) (h' : i < (wvL ps ts m n).length) : (((wvL ps ts m n)[i].1, (wvL ps ts m n)[i].2.1, ps[i].2.2) : Pln) = ps[i] := by
  rw [wvL_at h']
  simp only [wvp]
  rw [pa_at h]
theorem c27q (ps : List Pln) (ts : List Int) (m n : Nat) (hW : okW ps ts m n) {q : Nat} (hq : ps.length = q) : PureC X 27 [.c (.sl false q 3 (flat plc ps)), .c (ints false ts), cI m] (.tup [cI (wid ps ts m n n), cI 0]) := by
  subst hq
  exact c27 ps ts m n hW
theorem c28q (ps : List Pln) (ts : List Int) (m n : Nat) (hW : okW ps ts m n) {q : Nat} (hq : ps.length = q) : PureC X 28 [.c (.sl false q 3 (flat plc ps)), .c (ints false ts), cI m] (.tup [cI (wid ps ts m n n), cI 0]) := by
  subst hq
  exact c28 ps ts m n hW
theorem c17w (ps : List Pln) (ts : List Int) (m n : Nat) (hW : okW ps ts m n) : PureC X 17 [.c (pls false ps), .c (ints false ts), cI m] (.tup [.c (.sl true ps.length 3 (flat plc (wvL ps ts m n))), cI 0]) := c17 ps ts m n hW
theorem c14w (ps : List Pln) (ts : List Int) (m n : Nat) (hW : okW ps ts m n) : PureC X 14 [.c (pls false ps), .c (ints false ts), cI m] (.tup [.c (.sl true ps.length 3 (flat plc (wvL ps ts m n))), cI 0]) := c14 ps ts m n hW
theorem c23 (code : List Int) : PureC X 23 [.c (.sl false code.length 1 (flat byt code))] (cB (decide (4096 < (code.length : Int)))) := by
  refine PureC.of_body (drawD_ok X) (fun _ _ => Go.Proofs.Try.call23 _ _) Go.Proofs.Try.func23 rfl (n := 6) rfl ?_
  refine w_seq ?_
  refine w_reg rfl ?_
  refine v_assign (c := .v (.bool false)) rfl ?_
  refine v_nil ?_
  refine q_n ?_
  refine w_seq ?_
  refine w_reg rfl ?_
  refine v_move rfl ?_
  refine v_len_sl lay48 rfl ?_
  refine v_gtr lay3 rfl rfl (fun h1 => ?_) (fun h1 => ?_)
  · refine v_assign rfl ?_
    refine v_nil ?_
    refine q_n ?_
    refine w_ret ?_
    refine r_r rfl ?_
    exact a_b (by simp_all)
  refine v_assign rfl ?_
  refine v_nil ?_
  refine q_n ?_
  refine w_ret ?_
  refine r_r rfl ?_
  exact a_b (by simp_all)
theorem c5 (code more : List Int) (hc : ∀ b ∈ code, 0 ≤ b ∧ b ≤ 255) (hl : code.length ≤ maxLen) (_ : more.length ≤ maxLen) : PureC X 5 [.c (.sl false code.length 1 (flat byt code)), .c (.sl false more.length 1 (flat byt more))] (cB true) := by
  refine PureC.of_body (drawD_ok X) (fun _ _ => Go.Proofs.Try.call5 _ _) Go.Proofs.Try.func5 rfl (n := 185) rfl ?_
  refine w_seq ?_
  refine w_reg rfl ?_
  refine v_assign (c := .v (.bool false)) rfl ?_
  refine v_nil ?_
  refine q_n ?_
  refine w_seq ?_
  refine w_seq ?_
  refine w_reg rfl ?_
  refine v_move rfl ?_
  refine v_callb (c23 _) rfl rfl (.cons vw_sl .nil) (fun h1 => ?_) (fun h1 => ?_)
  · refine v_move rfl ?_
    refine v_guard_off rfl rfl rfl ?_
    refine v_guard_off rfl rfl rfl ?_
    refine v_pick_t (v := .v (.bool true)) rfl rfl ?_
    refine v_nil ?_
    refine q_n ?_
    refine w_t rfl ?_
    refine w_seq ?_
    refine w_reg rfl ?_
    refine v_assign (c := .v (.bool true)) rfl ?_
    refine v_nil ?_
    refine q_n ?_
    refine w_ret (q_r ?_)
    refine r_r rfl ?_
    exact tr_v
  refine v_move rfl ?_
  refine v_guard_on rfl rfl ?_
  refine v_move rfl ?_
  refine v_guard_on rfl rfl ?_
  refine v_callb (c23 _) rfl rfl (.cons vw_sl .nil) (fun h2 => ?_) (fun h2 => ?_)
  · refine v_pick_f rfl rfl ?_
    refine v_nil ?_
    refine q_n ?_
    refine w_t rfl ?_
    refine w_seq ?_
    refine w_reg rfl ?_
    refine v_assign (c := .v (.bool true)) rfl ?_
    refine v_nil ?_
    refine q_n ?_
    refine w_ret (q_r ?_)
    refine r_r rfl ?_
    exact tr_v
  refine v_pick_f rfl rfl ?_
  refine v_nil ?_
  refine q_n ?_
  refine w_f rfl ?_
  refine w_skip ?_
  refine q_n ?_
  refine w_seq ?_
  refine w_reg rfl ?_
  refine v_move rfl ?_
  refine v_callE (c24 code hc (by unfold maxLen at hl; omega)) (by rintro _ ⟨ps, ts, m, n, -, rfl⟩; rfl) rfl rfl (.cons vw_sl .nil) ?_
  rintro _ ⟨ps, ts, m, n, hR, rfl⟩
  have hW := hR.tookW
  have hD := okW_due hR
  have hdl : (wvL ps ts m n).length = ps.length := wvL_len
  have w1 := hW.ne
  have w2 := hW.le
  have w4 := hW.mm
  have h00 : 0 < ps.length := by omega
  have g1 := wid_due hR h00
  have g2 := wid_le (ts := ts) (m := m) (n := n) h00
  have g3 := cgr_pos hR h00
  obtain ⟨hk0, hn0, hg0⟩ := hW.at h00
  refine v_move_t rfl ?_
  refine v_extract_c rfl rfl ?_
  refine v_extract_c rfl rfl ?_
  refine v_extract_c rfl rfl ?_
  refine v_assign rfl ?_
  refine v_assign rfl ?_
  refine v_assign rfl ?_
  refine v_nil ?_
  refine q_n ?_
  refine w_seq ?_
  refine w_reg rfl ?_
  refine v_move rfl ?_
  refine v_move rfl ?_
  refine v_move rfl ?_
  refine v_call (c17w ps ts m n hW) rfl rfl rfl (.cons vw_sl (.cons vw_sl (.cons vw_v .nil))) ?_
  refine v_move_t rfl ?_
  refine v_extract_c rfl rfl ?_
  refine v_extract_c rfl rfl ?_
  refine v_assign rfl ?_
  refine v_assign rfl ?_
  refine v_nil ?_
  refine q_n ?_
  refine w_seq ?_
  refine w_reg rfl ?_
  refine v_move rfl ?_
  refine v_move rfl ?_
  refine v_move rfl ?_
  refine v_call (c14w ps ts m n hW) rfl rfl rfl (.cons vw_sl (.cons vw_sl (.cons vw_v .nil))) ?_
  refine v_move_t rfl ?_
  refine v_extract_c rfl rfl ?_
  refine v_extract_c rfl rfl ?_
  refine v_assign rfl ?_
  refine v_assign rfl ?_
  refine v_nil ?_
  refine q_n ?_
  refine w_seq ?_
  refine w_seq ?_
  refine w_reg rfl ?_
  refine v_move rfl ?_
  refine v_move rfl ?_
  refine v_neq lay2 rfl rfl (fun h3 => ?_) (fun h3 => ?_)
  · exfalso; omega
  refine v_move rfl ?_
  refine v_guard_on rfl rfl ?_
  refine v_move rfl ?_
  refine v_guard_on rfl rfl ?_
  refine v_neq lay2 rfl rfl (fun h4 => ?_) (fun h4 => ?_)
  · exfalso; omega
  refine v_pick_f rfl rfl ?_
  refine v_move rfl ?_
  refine v_guard_on rfl rfl ?_
  refine v_move rfl ?_
  refine v_guard_on rfl rfl ?_
  refine v_len_sl lay38 rfl ?_
  refine v_guard_on rfl rfl ?_
  refine v_move rfl ?_
  refine v_guard_on rfl rfl ?_
  refine v_len_sl lay38 rfl ?_
  refine v_guard_on rfl rfl ?_
  refine v_neq lay3 rfl rfl (fun h5 => ?_) (fun h5 => ?_)
  · exfalso; omega
  refine v_pick_f rfl rfl ?_
  refine v_nil ?_
  refine q_n ?_
  refine w_f rfl ?_
  refine w_skip ?_
  refine q_n ?_
  refine w_seq ?_
  refine w_seq ?_
  refine w_reg rfl ?_
  refine v_assign (c := .v (.int .i64 0)) rfl ?_
  refine v_nil ?_
  refine q_n ?_
  refine w_block ?_
  refine w_loop (fun k sl H => ∃ i : Nat, k = ps.length - i ∧ i ≤ ps.length ∧ sl = sls [(5, .c (pls true ps)), (6, .c (ints true ts)), (7, cI m), (8, .c (.sl true ps.length 3 (flat plc (wvL ps ts m n)))), (10, .c (.sl true ps.length 3 (flat plc (wvL ps ts m n)))), (12, cI i)] ∧ H = []) ?_ ?_
  · refine ⟨_, _, _, ?_, 0, rfl, Nat.zero_le _, rfl, rfl⟩
    exact turn0 ⟨tr_sl, tr_sl, tr_v, tr_sl, tr_sl, tr_v, trivial⟩
  rintro k sl H ⟨i, rfl, hi, rfl, rfl⟩
  refine w_seq ?_
  refine w_seq ?_
  refine w_reg rfl ?_
  refine v_move rfl ?_
  refine v_move rfl ?_
  refine v_len_sl lay38 rfl ?_
  refine v_lss lay3 rfl rfl (fun h6 => ?_) (fun h6 => ?_)
  rotate_left
  · refine v_nil ?_
    refine q_n ?_
    refine w_f rfl ?_
    refine w_exit ?_
    refine q_e ?_
    refine q_e ?_
    refine q_hit ?_
    refine q_n ?_
    refine w_seq ?_
    refine w_reg rfl ?_
    refine v_move rfl ?_
    refine v_move rfl ?_
    refine v_move rfl ?_
    refine v_call (c27 ps ts m n hW) rfl rfl rfl (.cons vw_sl (.cons vw_sl (.cons vw_v .nil))) ?_
    refine v_move_t rfl ?_
    refine v_extract_c rfl rfl ?_
    refine v_extract_c rfl rfl ?_
    refine v_assign rfl ?_
    refine v_assign rfl ?_
    refine v_nil ?_
    refine q_n ?_
    refine w_seq ?_
    refine w_reg rfl ?_
    refine v_move rfl ?_
    refine v_move rfl ?_
    refine v_move rfl ?_
    refine v_call (c27q (wvL ps ts m n) ts m n hD hdl) rfl rfl rfl (.cons vw_sl (.cons vw_sl (.cons vw_v .nil))) ?_
    refine v_move_t rfl ?_
    refine v_extract_c rfl rfl ?_
    refine v_extract_c rfl rfl ?_
    refine v_assign rfl ?_
    refine v_assign rfl ?_
    refine v_nil ?_
    refine q_n ?_
    refine w_seq ?_
    refine w_reg rfl ?_
    refine v_move rfl ?_
    refine v_move rfl ?_
    refine v_move rfl ?_
    refine v_call (c28q (wvL ps ts m n) ts m n hD hdl) rfl rfl rfl (.cons vw_sl (.cons vw_sl (.cons vw_v .nil))) ?_
    refine v_move_t rfl ?_
    refine v_extract_c rfl rfl ?_
    refine v_extract_c rfl rfl ?_
    refine v_assign rfl ?_
    refine v_assign rfl ?_
    refine v_nil ?_
    refine q_n ?_
    refine w_seq ?_
    refine w_reg rfl ?_
    refine v_move rfl ?_
    refine v_idx_e (k := 3) (0) plc_len lay38 lay28 rfl rfl rfl (by first | rfl | exact wvL_len.symm) rfl (rfl) (h00) ?_
    refine v_load_vw (.agg [_, .v _, .v _]) lay28 rfl rfl rfl ?_
    refine v_move rfl ?_
    refine v_call (c29 ps[0].1 ps[0].2.1 ps[0].2.2 hk0 m n hn0 w4 hg0) rfl rfl rfl (.cons (vw_agg (.cons vw_sl (.cons vw_v (.cons vw_v .nil)))) (.cons vw_v .nil)) ?_
    refine v_move_t rfl ?_
    refine v_extract_c rfl rfl ?_
    refine v_extract_c rfl rfl ?_
    refine v_assign rfl ?_
    refine v_assign rfl ?_
    refine v_nil ?_
    refine q_n ?_
    refine w_seq ?_
    refine w_seq ?_
    refine w_reg rfl ?_
    refine v_move rfl ?_
    refine v_neq lay2 rfl rfl (fun h17 => ?_) (fun h17 => ?_)
    · exfalso; omega
    refine v_move rfl ?_
    refine v_guard_on rfl rfl ?_
    refine v_move rfl ?_
    refine v_guard_on rfl rfl ?_
    refine v_move rfl ?_
    refine v_guard_on rfl rfl ?_
    refine v_neq lay2 rfl rfl (fun h18 => ?_) (fun h18 => ?_)
    · exfalso; omega
    refine v_pick_f rfl rfl ?_
    refine v_move rfl ?_
    refine v_guard_on rfl rfl ?_
    refine v_move rfl ?_
    refine v_guard_on rfl rfl ?_
    refine v_neq lay2 rfl rfl (fun h19 => ?_) (fun h19 => ?_)
    · exfalso; omega
    refine v_pick_f rfl rfl ?_
    refine v_move rfl ?_
    refine v_guard_on rfl rfl ?_
    refine v_move rfl ?_
    refine v_guard_on rfl rfl ?_
    refine v_move rfl ?_
    refine v_guard_on rfl rfl ?_
    refine v_neq lay2 rfl rfl (fun h20 => ?_) (fun h20 => ?_)
    · exfalso; omega
    refine v_pick_f rfl rfl ?_
    refine v_move rfl ?_
    refine v_guard_on rfl rfl ?_
    refine v_move rfl ?_
    refine v_guard_on rfl rfl ?_
    refine v_neq lay2 rfl rfl (fun h21 => ?_) (fun h21 => ?_)
    · exfalso; omega
    refine v_pick_f rfl rfl ?_
    refine v_move rfl ?_
    refine v_guard_on rfl rfl ?_
    refine v_move rfl ?_
    refine v_guard_on rfl rfl ?_
    refine v_lss lay2 rfl rfl (fun h22 => ?_) (fun h22 => ?_)
    · exfalso; omega
    refine v_pick_f rfl rfl ?_
    refine v_move rfl ?_
    refine v_guard_on rfl rfl ?_
    refine v_move rfl ?_
    refine v_guard_on rfl rfl ?_
    refine v_move rfl ?_
    refine v_guard_on rfl rfl ?_
    refine v_gtr lay2 rfl rfl (fun h23 => ?_) (fun h23 => ?_)
    · exfalso; omega
    refine v_pick_f rfl rfl ?_
    refine v_move rfl ?_
    refine v_guard_on rfl rfl ?_
    refine v_move rfl ?_
    refine v_guard_on rfl rfl ?_
    refine v_lss lay2 rfl rfl (fun h24 => ?_) (fun h24 => ?_)
    · exfalso; omega
    refine v_pick_f rfl rfl ?_
    refine v_move rfl ?_
    refine v_guard_on rfl rfl ?_
    refine v_move rfl ?_
    refine v_guard_on rfl rfl ?_
    refine v_move rfl ?_
    refine v_guard_on rfl rfl ?_
    refine v_gtr lay2 rfl rfl (fun h25 => ?_) (fun h25 => ?_)
    · exfalso; omega
    refine v_pick_f rfl rfl ?_
    refine v_nil ?_
    refine q_n ?_
    refine w_f rfl ?_
    refine w_skip ?_
    refine q_n ?_
    refine w_seq ?_
    refine w_reg rfl ?_
    refine v_move rfl ?_
    refine v_move rfl ?_
    refine v_eql lay2 rfl rfl (fun h26 => ?_) (fun h26 => ?_)
    rotate_left
    · exfalso; omega
    refine v_move rfl ?_
    refine v_guard_on rfl rfl ?_
    refine v_move rfl ?_
    refine v_guard_on rfl rfl ?_
    refine v_len_sl lay38 rfl ?_
    refine v_guard_on rfl rfl ?_
    refine v_gtr lay3 rfl rfl (fun h27 => ?_) (fun h27 => ?_)
    · refine v_guard_on rfl rfl ?_
      refine v_move rfl ?_
      refine v_guard_off rfl rfl rfl ?_
      refine v_guard_off rfl rfl rfl ?_
      refine v_guard_off rfl rfl rfl ?_
      refine v_guard_on rfl rfl ?_
      refine v_pick_t (v := .v (.bool true)) rfl rfl ?_
      refine v_pick_t rfl rfl ?_
      refine v_assign rfl ?_
      refine v_nil ?_
      refine q_n ?_
      refine w_ret ?_
      refine r_r rfl ?_
      exact tr_v
    refine v_guard_on rfl rfl ?_
    refine v_move rfl ?_
    refine v_guard_on rfl rfl ?_
    refine v_move rfl ?_
    refine v_guard_on rfl rfl ?_
    refine v_move rfl ?_
    refine v_guard_on rfl rfl ?_
    refine v_eql lay2 rfl rfl (fun h28 => ?_) (fun h28 => ?_)
    rotate_left
    · exfalso; have := wid_one (ts := ts) (m := m) (n := n) h00 (by omega); omega
    refine v_guard_on rfl rfl ?_
    refine v_pick_f rfl rfl ?_
    refine v_pick_t rfl rfl ?_
    refine v_assign rfl ?_
    refine v_nil ?_
    refine q_n ?_
    refine w_ret ?_
    refine r_r rfl ?_
    exact tr_v
  have hi1 : i < ps.length := by omega
  have hi2 : i < (wvL ps ts m n).length := by omega
  refine v_nil ?_
  refine q_n ?_
  refine w_t rfl ?_
  refine w_skip ?_
  refine q_n ?_
  refine w_seq ?_
  refine w_block ?_
  refine w_seq ?_
  refine w_reg rfl ?_
  refine v_move rfl ?_
  refine v_move rfl ?_
  refine v_idx_e (k := 3) (i) plc_len lay38 lay28 rfl rfl rfl (by first | rfl | exact wvL_len.symm) rfl (rfl) (hi2) ?_
  refine v_load_vw (.agg [_, .v _, .v _]) lay28 rfl rfl rfl ?_
  refine v_alloc (m := 0) (H' := [⟨[.v _, .v _, .v _], 28, true⟩]) lay28 rfl rfl ?_
  refine v_store (H' := [⟨[_, _, _], 28, true⟩]) lay28 rfl rfl rfl rfl rfl rfl ?_
  refine v_nil ?_
  refine q_n ?_
  refine w_seq ?_
  refine w_reg rfl ?_
  refine v_move rfl ?_
  refine v_move rfl ?_
  refine v_idx_e (k := 3) (i) plc_len lay38 lay28 rfl rfl rfl (by first | rfl | exact wvL_len.symm) rfl (rfl) (hi1) ?_
  refine v_fa_vw (off' := 2) lay28 rfl rfl rfl ?_
  refine v_load_vw (.c (.v _)) lay2 rfl rfl rfl ?_
  refine v_fa_pt (off' := 2) lay28 rfl rfl rfl ?_
  refine v_store (H' := [⟨[_, _, _], 28, true⟩]) lay2 rfl rfl rfl rfl rfl rfl ?_
  refine v_nil ?_
  refine q_n ?_
  refine w_seq ?_
  refine w_draw [0, 0, 3, 7, 0, 0, 48, 112, 255, 511, 1023, 2047, 2047, 2047, 14335, 30719, 65535, 131071, 262143, 524287, 1048575, 1048575, 4194303, 8388607, 16777215, 33554431, 67108863] [⟨0, 0, []⟩, ⟨1, 0, []⟩, ⟨2, 0, []⟩, ⟨3, 0, []⟩, ⟨4, 0, []⟩, ⟨5, 0, []⟩, ⟨6, 0, []⟩, ⟨7, 0, []⟩, ⟨8, 0, []⟩, ⟨9, 0, []⟩, ⟨10, 0, []⟩, ⟨11, 0, []⟩, ⟨12, 0, []⟩, ⟨13, 0, []⟩, ⟨14, 0, []⟩, ⟨15, 0, []⟩, ⟨16, 0, []⟩, ⟨17, 0, []⟩, ⟨18, 0, []⟩, ⟨19, 0, []⟩, ⟨20, 0, []⟩, ⟨21, 0, []⟩, ⟨22, 0, []⟩, ⟨23, 0, []⟩, ⟨24, 0, []⟩, ⟨25, 0, []⟩, ⟨26, 0, []⟩] rfl rfl ?_
  refine d_q rfl rfl rfl rfl rfl ?_
  refine v_move rfl ?_
  refine v_nil ?_
  refine d_q rfl rfl rfl rfl rfl ?_
  refine v_move rfl ?_
  refine v_nil ?_
  refine d_q rfl rfl rfl rfl rfl ?_
  refine v_idx_e (k := 3) (i) plc_len lay38 lay28 rfl rfl rfl (by first | rfl | exact wvL_len.symm) rfl (rfl) (hi2) ?_
  refine v_nil ?_
  refine d_q rfl rfl rfl rfl rfl ?_
  refine v_load_vw (.agg [_, .v _, .v _]) lay28 rfl rfl rfl ?_
  refine v_nil ?_
  refine d_q rfl rfl rfl rfl rfl ?_
  refine v_move rfl ?_
  refine v_nil ?_
  refine d_q rfl rfl rfl rfl rfl ?_
  refine v_move rfl ?_
  refine v_nil ?_
  refine d_q rfl rfl rfl rfl rfl ?_
  refine v_idx_e (k := 3) (i) plc_len lay38 lay28 rfl rfl rfl (by first | rfl | exact wvL_len.symm) rfl (rfl) (hi2) ?_
  refine v_nil ?_
  refine d_q rfl rfl rfl rfl rfl ?_
  refine v_load_vw (.agg [_, .v _, .v _]) lay28 rfl rfl rfl ?_
  refine v_nil ?_
  refine d_callb (c25 (wvL ps ts m n)[i] (wvL ps ts m n)[i] (by have := (hD.at hi2).1; exact this.1.2.1) (by have := (hD.at hi2).1; exact this.1.2.1) (by have := (hD.at hi2).1.1.1; omega) (by have := (hD.at hi2).1.1.1; omega)) rfl rfl rfl rfl (.cons (vw_agg (.cons vw_sl (.cons vw_v (.cons vw_v .nil)))) (.cons (vw_agg (.cons vw_sl (.cons vw_v (.cons vw_v .nil)))) .nil)) (fun h11 => ?_) (fun h11 => ?_)
  rotate_left
  · exact absurd rfl h11
  refine d_q rfl rfl rfl rfl rfl ?_
  refine v_not false rfl rfl ?_
  refine v_nil ?_
  refine d_q rfl rfl rfl rfl rfl ?_
  refine v_move rfl ?_
  refine v_nil ?_
  refine d_q rfl rfl rfl rfl rfl ?_
  refine v_load_pt (.agg [_, _, _]) lay28 rfl rfl rfl rfl ?_
  refine v_nil ?_
  refine d_q rfl rfl rfl rfl rfl ?_
  refine v_move rfl ?_
  refine v_nil ?_
  refine d_q rfl rfl rfl rfl rfl ?_
  refine v_move rfl ?_
  refine v_nil ?_
  refine d_q rfl rfl rfl rfl rfl ?_
  refine v_idx_e (k := 3) (i) plc_len lay38 lay28 rfl rfl rfl (by first | rfl | exact wvL_len.symm) rfl (rfl) (hi1) ?_
  refine v_nil ?_
  refine d_q rfl rfl rfl rfl rfl ?_
  refine v_load_vw (.agg [_, .v _, .v _]) lay28 rfl rfl rfl ?_
  refine v_nil ?_
  refine d_callb (c25 ((wvL ps ts m n)[i].1, (wvL ps ts m n)[i].2.1, ps[i].2.2) ps[i] (by have := (hD.at hi2).1; exact this.1.2.1) (by have := (hW.at hi1).1; exact this.1.2.1) (by have := (hD.at hi2).1.1.1; simp only []; omega) (by have := (hW.at hi1).1.1.1; omega)) rfl rfl rfl rfl (.cons (vw_agg (.cons vw_sl (.cons vw_v (.cons vw_v .nil)))) (.cons (vw_agg (.cons vw_sl (.cons vw_v (.cons vw_v .nil)))) .nil)) (fun h13 => ?_) (fun h13 => ?_)
  rotate_left
  · exact absurd (due_same hi1 hi2) h13
  refine d_q rfl rfl rfl rfl rfl ?_
  refine v_not false rfl rfl ?_
  refine v_nil ?_
  refine d_q rfl rfl rfl rfl rfl ?_
  refine v_pick_f rfl rfl ?_
  refine v_nil ?_
  refine d_q rfl rfl rfl rfl rfl ?_
  refine v_move rfl ?_
  refine v_nil ?_
  refine d_q rfl rfl rfl rfl rfl ?_
  refine v_move rfl ?_
  refine v_nil ?_
  refine d_q rfl rfl rfl rfl rfl ?_
  refine v_move rfl ?_
  refine v_nil ?_
  refine d_q rfl rfl rfl rfl rfl ?_
  refine v_idx_e (k := 3) (i) plc_len lay38 lay28 rfl rfl rfl (by first | rfl | exact wvL_len.symm) rfl (rfl) (hi2) ?_
  refine v_nil ?_
  refine d_q rfl rfl rfl rfl rfl ?_
  refine v_load_vw (.agg [_, .v _, .v _]) lay28 rfl rfl rfl ?_
  refine v_nil ?_
  refine d_callb (c26 _ _ _ (by have := (hD.at hi2).1.1.1; omega)) rfl rfl rfl rfl (.cons (vw_agg (.cons vw_sl (.cons vw_v (.cons vw_v .nil)))) .nil) (fun h15 => ?_) (fun h15 => ?_)
  rotate_left
  · exact absurd (hD.at hi2).1 h15
  refine d_q rfl rfl rfl rfl rfl ?_
  refine v_not false rfl rfl ?_
  refine v_nil ?_
  refine d_q rfl rfl rfl rfl rfl ?_
  refine v_pick_f rfl rfl ?_
  refine v_nil ?_
  refine d_nil ?_
  refine q_n ?_
  refine w_f rfl ?_
  refine w_skip ?_
  refine q_bn ?_
  refine q_n ?_
  refine w_reg rfl ?_
  refine v_move rfl ?_
  refine v_add lay3 rfl rfl (i64r (by omega)) ?_
  refine v_assign rfl ?_
  refine v_nil ?_
  refine q_n ?_
  refine ⟨_, _, _, ?_, ⟨i + 1, rfl, by omega, rfl, rfl⟩, by omega⟩
  exact turn0 ⟨tr_sl, tr_sl, tr_v, tr_sl, tr_sl, tr_v, trivial⟩
end Go.VL
namespace Go.Proofs.Ythamafbbdaembaa
namespace B0
open Go.RowKit Go.WideShapes Go.ChangeShapes Go.ChangeAt
section
variable {H : Type} {enc : TypeId × Value → H} {P : Program}

theorem post_of_below {f : Func} {s : ChangeSpec} {apart fresh handsOn again : Bool} {W W' : World} {args : Array Value} {v : Value} {ds gs : List (DataW H)} {before pa pv : List MemPlace}
    (hW : DataW.Whole enc P f.params.toList s.vars apart W args.toList ds gs before)
    (hres : ∀ (b : Nat) (sp : Nat → Bool) (hd : Bool), DataW.TrodAll enc P W' b sp hd f.resultTypes.toList (v.resultList f.resultTypes.size) (s.fn H (ds ++ gs)).results [])
    (hargs : ∀ sp : Nat → Bool, (∀ p ∈ before, sp p.block = true) → DataW.TrodAll enc P W' 0 sp true f.params.toList args.toList (s.fn H (ds ++ gs)).args pa)
    (hvars : ∀ sp : Nat → Bool, (∀ p ∈ before, sp p.block = true) → DataW.TrodVars enc P W' sp s.vars (s.fn H (ds ++ gs)).vars pv)
    (hps : before = pa ++ pv) (hb : Below W.heap.size W W')
    (hok : ∀ (j : Nat) (t : TypeId) (r : Value), f.resultTypes[j]? = some t → (v.resultList f.resultTypes.size)[j]? = some r → Value.okWide P W' .any 0 t r) :
    s.post enc P f apart fresh handsOn again W args v W' := by
  have hlt : ∀ p ∈ before, p.block < W.heap.size := fun p hp => hW.lt p hp
  have hold : ∀ p ∈ before, (fun b => decide (b < W.heap.size)) p.block = true := fun p hp => by simpa using hlt p hp
  refine ⟨ds, gs, before, [], pa, pv, hW, hres _ _ _, hargs _ hold, hvars _ hold, World.keptBut_mono (fun p hp => ⟨hp, ?_⟩) (hb.frame (· ∈ before)), fun _ => ?_⟩
  · rw [hps, List.mem_append] at hp
    exact Or.inr hp
  · obtain ⟨_, _, _, _, _, hz, hn⟩ := hW
    refine ⟨hok, _, _, ([] ++ pa) ++ pv, ⟨[] ++ pa, pv, trodAll_append (hargs _ (fun _ _ => rfl)) (hres _ _ _), hvars _ (fun _ _ => rfl), rfl, ?_, ?_⟩, ?_⟩
    · intro b off hp
      have hin : MemPlace.cell b off ∈ before := by rw [hps]; simpa using hp
      rw [hb.frozen (hlt _ hin)]
      exact hz b off hin
    · intro ha
      have := hn ha
      rw [hps] at this
      simpa using this
    · intro p hp _
      rw [hps]
      simpa using hp

theorem trodAll_stays (hl : laidOutB P = true) {W W' : World} {sp' : Nat → Bool} : ∀ {ts : List TypeId} {vs : List Value} {ds : List (DataW H)} {ps : List MemPlace},
    (∀ t ∈ ts, P.readableRec t = true ∧ t < P.types.size) → DataW.TrodAll enc P W 0 (fun _ => true) true ts vs ds ps → (∀ p ∈ ps, W.sameAt W' p) → (∀ p ∈ ps, sp' p.block = true) →
    DataW.TrodAll enc P W' 0 sp' true ts vs ds ps
  | [], vs, ds, ps, _, h, _, _ => by
    obtain ⟨rfl, rfl, rfl⟩ := trodAll_nil h
    exact rfl
  | t :: ts, vs, ds, ps, ht, h, hsame, hsp => by
    obtain ⟨v, vs', d, ds', p, q, rfl, rfl, rfl, h0, h1⟩ := trodAll_cons h
    exact ⟨p, q, Go.WideElems.Trod_stays hl (ht t (by simp)).1 (ht t (by simp)).2 h0 (fun x hx => hsame x (by simp [hx])) (fun x hx => hsp x (by simp [hx])),
      trodAll_stays hl (fun u hu => ht u (by simp [hu])) h1 (fun x hx => hsame x (by simp [hx])) (fun x hx => hsp x (by simp [hx])), rfl⟩

/-- A law: whatever the arguments, the call returns true and turns nothing that was there. -/
theorem lift {C : Checked} {os : Os} {f : FuncId} {fn : Func} {s : ChangeSpec} {conds : List PathCond} {tb : TypeId}
    (own : ownKnob C.prog.godebug = none) (started : os.Started) (noInit : C.prog.inits.idxOf? f = none) (hfn : C.prog.funcs[f]? = some fn)
    (witness : ∃ (w : World) (tape : Tape) (i : Input), w.os = os ∧ (w.forCall tape i).Shaped C.prog ∧ i.vars = [] ∧ Input.okWide C.prog (w.forCall tape i) .any w.heap.size f i ∧
      s.pre6 enc C.prog fn conds false (w.forCall tape i).memory i.args ∧ ({} : Assume).holds C.prog (lone (Frame.enter C.prog f i.args .normal) [] (w.forCall tape i)))
    (hl : laidOutB C.prog = true) (hp : (fn.params.toList.all fun t => C.prog.readableRec t && decide (t < C.prog.types.size)) = true)
    (hv : s.vars = []) (hr : fn.resultTypes = #[tb]) (htb : C.prog.underlying tb = some .bool)
    (hs : ∀ ds : List (DataW H), ds.length = fn.params.toList.length → s.fn H ds = { results := [.lit (.bool true)], args := ds })
    (contract : ∀ (W : World) (base : Nat) (args : Array Value) (ds : List (DataW H)) (p : List MemPlace),
      (∀ (j : Nat) t v, fn.params[j]? = some t → args[j]? = some v → Value.okWide C.prog W .any base t v) →
      DataW.TrodAll enc C.prog W 0 (fun _ => true) true fn.params.toList args.toList ds p →
      Calls C.prog f args W fun e W' => e = .returned (.bool true) ∧ Below W.heap.size W W') :
    ReturnsInHanded {} C os f .any (s.pre6 enc C.prog fn conds false) (s.post enc C.prog fn false true false false) := by
  refine returnsInHanded_of_change own started noInit hfn witness ?_
  intro W base args ds gs before hval hW _ _
  have hW' := hW
  obtain ⟨p, q, hA, hV, rfl, hfz, hnd⟩ := hW
  rw [hv] at hV
  obtain ⟨rfl, rfl⟩ := trodVars_none hV
  have hlen : ∀ {ts : List TypeId} {vs : List Value} {ds : List (DataW H)} {ps : List MemPlace}, DataW.TrodAll enc C.prog W 0 (fun _ => true) true ts vs ds ps → ds.length = ts.length := by
    intro ts
    induction ts with
    | nil => intro vs ds ps h; obtain ⟨rfl, rfl, rfl⟩ := trodAll_nil h; rfl
    | cons t ts ih => intro vs ds ps h; obtain ⟨v, vs', d, ds', p, q, rfl, rfl, rfl, h0, h1⟩ := trodAll_cons h; simp [ih h1]
  have hsd : s.fn H (ds ++ []) = { results := [.lit (.bool true)], args := ds } := by rw [List.append_nil]; exact hs ds (hlen hA)
  have hp' : ∀ t ∈ fn.params.toList, C.prog.readableRec t = true ∧ t < C.prog.types.size := fun t ht => by simpa using List.all_eq_true.1 hp t ht
  refine (contract W base args ds p hval hA).mono fun e W' ⟨he, hb⟩ => ?_
  refine ⟨.bool true, he, post_of_below (pa := p) (pv := []) hW' ?_ ?_ ?_ rfl hb ?_⟩
  · intro b sp hd
    rw [hsd, hr]
    exact trodAll_mk1 ⟨1, by simp [DataW.trod, Value.cells, htb]⟩
  · intro sp hsp
    rw [hsd]
    exact trodAll_stays hl hp' hA (fun x hx => hb.same (hW'.lt x (by simp [hx]))) (fun x hx => hsp x (by simp [hx]))
  · intro sp hsp
    rw [hsd, hv]
    exact rfl
  · exact ok_one hr rfl (okWide_bool_mk htb true)
end
end B0
end Go.Proofs.Ythamafbbdaembaa
