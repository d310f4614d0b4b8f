/- Texts of one proof, put together: P2, P3, P1, P4, B0. -/
import Derived.Test.YtenaamehifbfeaaM4
import Derived.Test.YtenaamehifbfeaaRows
import Derived.ProofKit
import Derived.Below
import Derived.ChangeSame
import Derived.Handed
import Derived.KernelRfl
namespace Go.VL
open Go.RowKit
set_option maxRecDepth 20000
set_option maxHeartbeats 8000000
theorem i16r {a : Int} (h : -32768 ≤ a ∧ a ≤ 32767) : IntKind.i16.min ≤ a ∧ a ≤ IntKind.i16.max := h
abbrev srcO (code : List Int) (a s : Int) : Ob := srcT 138 code a s
theorem c123 {H : List Ob} {id : Nat} (code : List Int) (a : Nat) (s : Int) (hlt : id < H.length) (hc : B8 code) (_ : code.length ≤ 2 ^ 40) (ha : (a : Int) ≤ 2 ^ 40) : DetC X 123 [.c (.pt id 0)] (H.set id (srcO code a s)) (cI (nxR code a s)) (H.set id (srcO code ((a : Int) + 1) (nxS code a s))) := by
  refine DetC.of_body (drawD_ok X) (fun _ _ => Go.Proofs.Try.call123 _ _) Go.Proofs.Try.func123 rfl (n := 62) rfl ?_
  refine w_seq ?_
  refine w_reg rfl ?_
  refine v_assign (c := .v (.int .i64 0)) rfl ?_
  refine v_nil ?_
  refine q_n ?_
  refine w_seq ?_
  refine w_reg rfl ?_
  refine v_assign (c := .v (.int .i64 0)) rfl ?_
  refine v_nil ?_
  refine q_n ?_
  refine w_seq ?_
  refine w_seq ?_
  refine w_draw [0, 1, 3, 7, 0, 16, 48, 112, 240, 511] [⟨0, 0, []⟩, ⟨1, 0, []⟩, ⟨2, 0, []⟩, ⟨3, 0, []⟩, ⟨4, 0, []⟩, ⟨5, 0, []⟩, ⟨6, 0, []⟩, ⟨7, 0, []⟩, ⟨8, 0, []⟩, ⟨9, 0, []⟩] rfl rfl ?_
  refine d_q rfl rfl rfl rfl rfl ?_
  refine v_move rfl ?_
  refine v_nil ?_
  refine d_q rfl rfl rfl rfl rfl ?_
  refine v_nil_pt rfl ?_
  refine v_nil ?_
  refine d_q rfl rfl rfl rfl rfl ?_
  refine v_fa_pt (off' := 1) lay138 rfl rfl rfl ?_
  refine v_nil ?_
  refine d_q rfl rfl rfl rfl rfl ?_
  refine v_load_pt (.c _) lay3 rfl (List.getElem?_set_self hlt) rfl rfl ?_
  refine v_nil ?_
  refine d_q rfl rfl rfl rfl rfl ?_
  refine v_move rfl ?_
  refine v_nil ?_
  refine d_q rfl rfl rfl rfl rfl ?_
  refine v_nil_pt rfl ?_
  refine v_nil ?_
  refine d_q rfl rfl rfl rfl rfl ?_
  refine v_fa_pt (off' := 0) lay138 rfl rfl rfl ?_
  refine v_nil ?_
  refine d_q rfl rfl rfl rfl rfl ?_
  refine v_load_pt (.c _) lay47 rfl (List.getElem?_set_self hlt) rfl rfl ?_
  refine v_nil ?_
  refine d_q rfl rfl rfl rfl rfl ?_
  refine v_len_sl lay47 rfl ?_
  refine v_nil ?_
  refine d_q rfl rfl rfl rfl rfl ?_
  refine v_lss lay3 rfl rfl (fun h1 => ?_) (fun h1 => ?_)
  rotate_left
  · have ha1 : ¬ a < code.length := by omega
    have hb := and_le (x := (sd s 0).fdiv (2 ^ min (40 : Int).toNat IntKind.u64.bits)) (k := 8) (y := 255) (by decide) (by decide)
    unfold sd at hb
    refine v_nil ?_
    refine d_nil ?_
    refine q_n ?_
    refine w_f rfl ?_
    refine w_skip ?_
    refine q_n ?_
    refine w_seq ?_
    refine w_reg rfl ?_
    refine v_move rfl ?_
    refine v_nil_pt rfl ?_
    refine v_fa_pt (off' := 1) lay138 rfl rfl rfl ?_
    refine v_load_pt (.c _) lay3 rfl (List.getElem?_set_self hlt) rfl rfl ?_
    refine v_add lay3 rfl rfl (i64r (by omega)) ?_
    refine v_nil_pt rfl ?_
    refine v_fa_pt (off' := 1) lay138 rfl rfl rfl ?_
    refine v_store (H' := H.set id ⟨[_, _, _], 138, true⟩) lay3 rfl rfl (List.getElem?_set_self hlt) rfl rfl (List.set_set ..) ?_
    refine v_nil ?_
    refine q_n ?_
    refine w_seq ?_
    refine w_reg rfl ?_
    refine v_move rfl ?_
    refine v_move rfl ?_
    refine v_nil_pt rfl ?_
    refine v_fa_pt (off' := 2) lay138 rfl rfl rfl ?_
    refine v_load_pt (.c _) lay136 rfl (List.getElem?_set_self hlt) rfl rfl ?_
    refine v_bin (c := .v (.int .u64 _)) lay136 rfl rfl rfl ?_
    refine v_move rfl ?_
    refine v_conv_ii lay3 lay136 rfl (u64r (by omega)) ?_
    refine v_bin (c := .v (.int .u64 _)) lay136 rfl rfl rfl ?_
    refine v_bin (c := .v (.int .u64 _)) lay136 rfl rfl rfl ?_
    refine v_nil_pt rfl ?_
    refine v_fa_pt (off' := 2) lay138 rfl rfl rfl ?_
    refine v_store (H' := H.set id ⟨[_, _, _], 138, true⟩) lay136 rfl rfl (List.getElem?_set_self hlt) rfl rfl (List.set_set ..) ?_
    refine v_nil ?_
    refine q_n ?_
    refine w_seq ?_
    refine w_seq ?_
    refine w_draw [0, 1, 3, 7, 0, 16, 48, 112, 240, 511] [⟨0, 0, []⟩, ⟨1, 0, []⟩, ⟨2, 0, []⟩, ⟨3, 0, []⟩, ⟨4, 0, []⟩, ⟨5, 0, []⟩, ⟨6, 0, []⟩, ⟨7, 0, []⟩, ⟨8, 0, []⟩, ⟨9, 0, []⟩] rfl rfl ?_
    refine d_q rfl rfl rfl rfl rfl ?_
    refine v_move rfl ?_
    refine v_nil ?_
    refine d_q rfl rfl rfl rfl rfl ?_
    refine v_nil_pt rfl ?_
    refine v_nil ?_
    refine d_q rfl rfl rfl rfl rfl ?_
    refine v_fa_pt (off' := 1) lay138 rfl rfl rfl ?_
    refine v_nil ?_
    refine d_q rfl rfl rfl rfl rfl ?_
    refine v_load_pt (.c _) lay3 rfl (List.getElem?_set_self hlt) rfl rfl ?_
    refine v_nil ?_
    refine d_q rfl rfl rfl rfl rfl ?_
    refine v_move rfl ?_
    refine v_nil ?_
    refine d_q rfl rfl rfl rfl rfl ?_
    refine v_nil_pt rfl ?_
    refine v_nil ?_
    refine d_q rfl rfl rfl rfl rfl ?_
    refine v_fa_pt (off' := 0) lay138 rfl rfl rfl ?_
    refine v_nil ?_
    refine d_q rfl rfl rfl rfl rfl ?_
    refine v_load_pt (.c _) lay47 rfl (List.getElem?_set_self hlt) rfl rfl ?_
    refine v_nil ?_
    refine d_q rfl rfl rfl rfl rfl ?_
    refine v_len_sl lay47 rfl ?_
    refine v_nil ?_
    refine d_q rfl rfl rfl rfl rfl ?_
    refine v_leq lay3 rfl rfl (fun h4 => ?_) (fun h4 => ?_)
    · exact absurd h4 (by omega)
    refine v_nil ?_
    refine d_nil ?_
    refine q_n ?_
    refine w_f rfl ?_
    refine w_skip ?_
    refine q_n ?_
    refine w_seq ?_
    refine w_reg rfl ?_
    refine v_move rfl ?_
    refine v_nil_pt rfl ?_
    refine v_fa_pt (off' := 2) lay138 rfl rfl rfl ?_
    refine v_load_pt (.c _) lay136 rfl (List.getElem?_set_self hlt) rfl rfl ?_
    refine v_shr lay136 rfl rfl rfl (by decide) ?_
    refine v_and lay136 rfl rfl rfl ?_
    refine v_conv_ii lay136 lay2 rfl (i64r (by omega)) ?_
    refine v_assign rfl ?_
    refine v_nil ?_
    refine q_n ?_
    refine w_ret ?_
    refine r_r rfl ?_
    exact ⟨congrArg (fun z => (cI z : V)) (nxR_out ha1), congrArg (fun z => H.set id (srcO code ((a : Int) + 1) z)) (nxS_out ha1)⟩
  have ha1 : a < code.length := by omega
  have hb := hc _ (List.getElem_mem ha1)
  refine v_nil ?_
  refine d_nil ?_
  refine q_n ?_
  refine w_t rfl ?_
  refine w_draw [0, 1, 3, 7, 0, 16, 48, 112, 255, 511, 1023, 2047] [⟨0, 0, []⟩, ⟨1, 0, []⟩, ⟨2, 0, []⟩, ⟨3, 0, []⟩, ⟨4, 0, []⟩, ⟨5, 0, []⟩, ⟨6, 0, []⟩, ⟨7, 0, []⟩, ⟨8, 0, []⟩, ⟨9, 0, []⟩, ⟨10, 0, []⟩, ⟨11, 0, []⟩] rfl rfl ?_
  refine d_q rfl rfl rfl rfl rfl ?_
  refine v_move rfl ?_
  refine v_nil ?_
  refine d_q rfl rfl rfl rfl rfl ?_
  refine v_nil_pt rfl ?_
  refine v_nil ?_
  refine d_q rfl rfl rfl rfl rfl ?_
  refine v_fa_pt (off' := 0) lay138 rfl rfl rfl ?_
  refine v_nil ?_
  refine d_q rfl rfl rfl rfl rfl ?_
  refine v_load_pt (.c _) lay47 rfl (List.getElem?_set_self hlt) rfl rfl ?_
  refine v_nil ?_
  refine d_q rfl rfl rfl rfl rfl ?_
  refine v_move rfl ?_
  refine v_nil ?_
  refine d_q rfl rfl rfl rfl rfl ?_
  refine v_nil_pt rfl ?_
  refine v_nil ?_
  refine d_q rfl rfl rfl rfl rfl ?_
  refine v_fa_pt (off' := 1) lay138 rfl rfl rfl ?_
  refine v_nil ?_
  refine d_q rfl rfl rfl rfl rfl ?_
  refine v_load_pt (.c _) lay3 rfl (List.getElem?_set_self hlt) rfl rfl ?_
  refine v_nil ?_
  refine d_q rfl rfl rfl rfl rfl ?_
  refine v_idx_e (k := 1) (a) be_len lay47 lay5 rfl rfl rfl (rfl) rfl (rfl) (by omega) ?_
  refine v_nil ?_
  refine d_q rfl rfl rfl rfl rfl ?_
  refine v_load_vw (.c (.v _)) lay5 rfl rfl rfl ?_
  refine v_nil ?_
  refine d_q rfl rfl rfl rfl rfl ?_
  refine v_conv_ii lay5 lay3 rfl (i64r (by omega)) ?_
  refine v_nil ?_
  refine d_q rfl rfl rfl rfl rfl ?_
  refine v_assign rfl ?_
  refine v_nil ?_
  refine d_nil ?_
  refine q_n ?_
  refine w_seq ?_
  refine w_reg rfl ?_
  refine v_move rfl ?_
  refine v_nil_pt rfl ?_
  refine v_fa_pt (off' := 1) lay138 rfl rfl rfl ?_
  refine v_load_pt (.c _) lay3 rfl (List.getElem?_set_self hlt) rfl rfl ?_
  refine v_add lay3 rfl rfl (i64r (by omega)) ?_
  refine v_nil_pt rfl ?_
  refine v_fa_pt (off' := 1) lay138 rfl rfl rfl ?_
  refine v_store (H' := H.set id ⟨[_, _, _], 138, true⟩) lay3 rfl rfl (List.getElem?_set_self hlt) rfl rfl (List.set_set ..) ?_
  refine v_nil ?_
  refine q_n ?_
  refine w_seq ?_
  refine w_reg rfl ?_
  refine v_move rfl ?_
  refine v_move rfl ?_
  refine v_nil_pt rfl ?_
  refine v_fa_pt (off' := 2) lay138 rfl rfl rfl ?_
  refine v_load_pt (.c _) lay136 rfl (List.getElem?_set_self hlt) rfl rfl ?_
  refine v_bin (c := .v (.int .u64 _)) lay136 rfl rfl rfl ?_
  refine v_move rfl ?_
  refine v_conv_ii lay3 lay136 rfl (u64r (by omega)) ?_
  refine v_bin (c := .v (.int .u64 _)) lay136 rfl rfl rfl ?_
  refine v_bin (c := .v (.int .u64 _)) lay136 rfl rfl rfl ?_
  refine v_nil_pt rfl ?_
  refine v_fa_pt (off' := 2) lay138 rfl rfl rfl ?_
  refine v_store (H' := H.set id ⟨[_, _, _], 138, true⟩) lay136 rfl rfl (List.getElem?_set_self hlt) rfl rfl (List.set_set ..) ?_
  refine v_nil ?_
  refine q_n ?_
  refine w_seq ?_
  refine w_seq ?_
  refine w_draw [0, 1, 3, 7, 0, 16, 48, 112, 240, 511] [⟨0, 0, []⟩, ⟨1, 0, []⟩, ⟨2, 0, []⟩, ⟨3, 0, []⟩, ⟨4, 0, []⟩, ⟨5, 0, []⟩, ⟨6, 0, []⟩, ⟨7, 0, []⟩, ⟨8, 0, []⟩, ⟨9, 0, []⟩] rfl rfl ?_
  refine d_q rfl rfl rfl rfl rfl ?_
  refine v_move rfl ?_
  refine v_nil ?_
  refine d_q rfl rfl rfl rfl rfl ?_
  refine v_nil_pt rfl ?_
  refine v_nil ?_
  refine d_q rfl rfl rfl rfl rfl ?_
  refine v_fa_pt (off' := 1) lay138 rfl rfl rfl ?_
  refine v_nil ?_
  refine d_q rfl rfl rfl rfl rfl ?_
  refine v_load_pt (.c _) lay3 rfl (List.getElem?_set_self hlt) rfl rfl ?_
  refine v_nil ?_
  refine d_q rfl rfl rfl rfl rfl ?_
  refine v_move rfl ?_
  refine v_nil ?_
  refine d_q rfl rfl rfl rfl rfl ?_
  refine v_nil_pt rfl ?_
  refine v_nil ?_
  refine d_q rfl rfl rfl rfl rfl ?_
  refine v_fa_pt (off' := 0) lay138 rfl rfl rfl ?_
  refine v_nil ?_
  refine d_q rfl rfl rfl rfl rfl ?_
  refine v_load_pt (.c _) lay47 rfl (List.getElem?_set_self hlt) rfl rfl ?_
  refine v_nil ?_
  refine d_q rfl rfl rfl rfl rfl ?_
  refine v_len_sl lay47 rfl ?_
  refine v_nil ?_
  refine d_q rfl rfl rfl rfl rfl ?_
  refine v_leq lay3 rfl rfl (fun h3 => ?_) (fun h3 => ?_)
  rotate_left
  · exact absurd h3 (by omega)
  refine v_nil ?_
  refine d_nil ?_
  refine q_n ?_
  refine w_t rfl ?_
  refine w_seq ?_
  refine w_reg rfl ?_
  refine v_move rfl ?_
  refine v_assign rfl ?_
  refine v_nil ?_
  refine q_n ?_
  refine w_ret (q_r ?_)
  refine r_r rfl ?_
  exact ⟨congrArg (fun z => (cI z : V)) (nxR_in ha1), congrArg (fun z => H.set id (srcO code ((a : Int) + 1) z)) (nxS_in ha1)⟩
theorem c123' {H : List Ob} {id : Nat} (code : List Int) (a s : Int) (hlt : id < H.length) (hc : B8 code) (hl : code.length ≤ 2 ^ 40) (h0 : 0 ≤ a) (ha : a ≤ 2 ^ 40) : DetC X 123 [.c (.pt id 0)] (H.set id (srcO code a s)) (cI (nxR code a s)) (H.set id (srcO code (a + 1) (nxS code a s))) := by
  obtain ⟨q, rfl⟩ := Int.eq_ofNat_of_zero_le h0
  exact c123 code q s hlt hc hl ha
theorem c100a {H : List Ob} {id : Nat} (code : List Int) (n a s : Int) (hlt : id < H.length) (hc : B8 code) (hl : code.length ≤ 2 ^ 40) (h0 : 0 ≤ a) (ha : a ≤ 2 ^ 30) (hn : n ≤ 2 ^ 40) : DetC X 100 [.c (.pt id 0), cI n] (H.set id (srcO code a s)) (cI (dpR code n a s)) (H.set id (srcO code (dpA n a) (dpS code n a s))) := by
  refine DetC.of_body (drawD_ok X) (fun _ _ => Go.Proofs.Try.call100 _ _) Go.Proofs.Try.func100 rfl (n := 20) rfl ?_
  have hx1 := nxR_rng (code := code) (a := a) (s := s) hc
  have hx2 := nxR_rng (code := code) (a := a + 1) (s := nxS code a s) hc
  refine w_seq ?_
  refine w_reg rfl ?_
  refine v_assign (c := .v (.int .i64 0)) rfl ?_
  refine v_nil ?_
  refine q_n ?_
  refine w_seq ?_
  refine w_seq ?_
  refine w_reg rfl ?_
  refine v_move rfl ?_
  refine v_leq lay2 rfl rfl (fun h1 => ?_) (fun h1 => ?_)
  · refine v_nil ?_
    refine q_n ?_
    refine w_t rfl ?_
    refine w_seq ?_
    refine w_reg rfl ?_
    refine v_assign (c := .v (.int .i64 0)) rfl ?_
    refine v_nil ?_
    refine q_n ?_
    refine w_ret (q_r ?_)
    refine r_r rfl ?_
    obtain ⟨e1, e2⟩ := dp_if1 (t := 138) (code := code) (a := a) (s := s) h1
    exact ⟨congrArg (fun z => (cI z : V)) e1, congrArg (fun z => H.set id z) e2⟩
  refine v_nil ?_
  refine q_n ?_
  refine w_f rfl ?_
  refine w_skip ?_
  refine q_n ?_
  refine w_seq ?_
  refine w_reg rfl ?_
  refine v_move rfl ?_
  refine v_det (H' := H.set id (srcO code (a + 1) (nxS code a s))) (c123' code a s hlt hc hl h0 (by omega)) rfl rfl ?_
  refine v_assign rfl ?_
  refine v_nil ?_
  refine q_n ?_
  refine w_seq ?_
  refine w_seq ?_
  refine w_reg rfl ?_
  refine v_move rfl ?_
  refine v_gtr lay2 rfl rfl (fun h2 => ?_) (fun h2 => ?_)
  rotate_left
  · refine v_nil ?_
    refine q_n ?_
    refine w_f rfl ?_
    refine w_skip ?_
    refine q_n ?_
    refine w_seq ?_
    refine w_reg rfl ?_
    refine v_move rfl ?_
    refine v_move rfl ?_
    refine v_rem lay2 rfl rfl (by omega) ?_
    refine v_assign rfl ?_
    refine v_nil ?_
    refine q_n ?_
    refine w_ret ?_
    refine r_r rfl ?_
    obtain ⟨e1, e2⟩ := dp_if2 (t := 138) (code := code) (a := a) (s := s) h1 (by omega)
    exact ⟨congrArg (fun z => (cI z : V)) e1, congrArg (fun z => H.set id z) e2⟩
  refine v_nil ?_
  refine q_n ?_
  refine w_t rfl ?_
  refine w_reg rfl ?_
  refine v_move rfl ?_
  refine v_mul lay2 rfl rfl (i64r (by omega)) ?_
  refine v_move rfl ?_
  refine v_det (H' := H.set id (srcO code (a + 1 + 1) (nxS code (a + 1) (nxS code a s)))) (c123' code (a + 1) (nxS code a s) hlt hc hl (by omega) (by omega)) rfl rfl ?_
  refine v_add lay2 rfl rfl (i64r (by omega)) ?_
  refine v_assign rfl ?_
  refine v_nil ?_
  refine q_n ?_
  refine w_seq ?_
  refine w_reg rfl ?_
  refine v_move rfl ?_
  refine v_move rfl ?_
  refine v_rem lay2 rfl rfl (by omega) ?_
  refine v_assign rfl ?_
  refine v_nil ?_
  refine q_n ?_
  refine w_ret ?_
  refine r_r rfl ?_
  obtain ⟨e1, e2⟩ := dp_if3 (t := 138) (code := code) (a := a) (s := s) h1 (by omega)
  exact ⟨congrArg (fun z => (cI z : V)) e1, congrArg (fun z => H.set id z) e2⟩
/-- A number, picked. -/
theorem c100 {H H' : List Ob} {id : Nat} (code : List Int) (n a s : Int) (ho : H[id]? = some (srcO code a s)) (hc : B8 code) (hl : code.length ≤ 2 ^ 40) (h0 : 0 ≤ a) (ha : a ≤ 2 ^ 30) (hn : n ≤ 2 ^ 40) (hH : H.set id (srcO code (dpA n a) (dpS code n a s)) = H') : DetC X 100 [.c (.pt id 0), cI n] H (cI (dpR code n a s)) H' := by
  subst hH
  have h := c100a (H := H) (id := id) code n a s (List.getElem?_eq_some_iff.1 ho).1 hc hl h0 ha hn
  rw [set_same ho] at h
  exact h
section
variable {all r : List Oper} {K : Sl → List Ob → Prop} {sl : Sl} {H : List Ob} {d : Tmp} {ty : TypeId} {ps : String} {af : Array Edge}
theorem v_pick {f : Operand} {args : Array Operand} {tys : Array TypeId} {id : Nat} {code : List Int} {n a s : Int} (H1 : Int → Int → List Ob) (ho : H[id]? = some (srcO code a s)) (hc : B8 code) (hl : code.length ≤ 2 ^ 40) (h0 : 0 ≤ a ∧ a ≤ 2 ^ 30) (hn : n ≤ 2 ^ 40) (hf : rho X.G sl f = .c (.fn 100 [])) (has : args.toList.map (rho X.G sl) = [.c (.pt id 0), cI n]) (hH : ∀ a' s', H.set id (srcO code a' s') = H1 a' s')
    (h : ∀ q a' s', 0 ≤ q ∧ (1 < n → q < n) ∧ (n ≤ 1 → q = 0) → a ≤ a' ∧ a' ≤ a + 2 → vops X all r K (upd sl d (cI q)) (H1 a' s')) : vops X all (⟨some d, .call ⟨.value f, args, tys⟩, ty, ps, af, none⟩ :: r) K sl H := by
  have hp := dp_rng (code := code) (n := n) (a := a) (s := s) hc
  exact v_det (c100 code n a s ho hc hl h0.1 h0.2 hn (hH _ _)) hf has (h _ _ _ ⟨hp.1, hp.2.1, hp.2.2.1⟩ hp.2.2.2)
end
end Go.VL
namespace Go.VL
open Go.RowKit
set_option maxRecDepth 20000
set_option maxHeartbeats 8000000
/-- A list, drawn so far: the next turn is tu. -/
structure drL (xs : List Tal) (tu : Int) : Prop where
  ok : okL xs
  lt : ∀ x ∈ xs, x.1 < tu
  mem : ∀ {x : Tal}, x ∈ xs → (0 ≤ x.2.1 ∧ x.2.1 ≤ 29) ∧ 0 ≤ x.2.2 ∧ x.2.2 ≤ 1000
  tu : 0 ≤ tu ∧ tu ≤ 5 + 4 * xs.length
def drW (xs : List Tal) : Prop := ∃ tu, drL xs tu ∧ xs.length ≤ 8
theorem drL_nil {tu : Int} (h : 0 ≤ tu ∧ tu ≤ 5) : drL [] tu := ⟨⟨by simp, fun i hi => by simp at hi⟩, (fun x hx => by cases hx), (fun hx => by cases hx), by simpa using h⟩
theorem okL_snoc {xs : List Tal} {x : Tal} (h : okL xs) (hl : xs.length < 96) (h1 : 0 ≤ x.1 ∧ x.1 ≤ 65535) (h2 : 0 ≤ x.2.1) (h3 : 0 ≤ x.2.2 ∧ x.2.2 ≤ 1000) (h4 : ∀ y ∈ xs, y.1 < x.1) : okL (xs ++ [x]) := by
  refine ⟨by simp; omega, fun i hi => ?_⟩
  by_cases e : i < xs.length
  · obtain ⟨g1, g2, g3, g5, g6⟩ := h.2 i e
    have e0 : (xs ++ [x])[i] = xs[i] := List.getElem_append_left e
    refine ⟨by rw [e0]; exact g1, by rw [e0]; exact g2, by rw [e0]; exact g3, by rw [e0]; exact g5, fun q hq eq => ?_⟩
    have hq' : q < xs.length := by omega
    rw [e0, List.getElem_append_left hq']
    exact g6 q hq' eq
  · obtain rfl : i = xs.length := by simp at hi; omega
    have e0 : (xs ++ [x])[xs.length] = x := by simp
    refine ⟨by rw [e0]; exact h1, by rw [e0]; exact h2, by rw [e0]; exact h3.1, by rw [e0]; exact h3.2, fun q hq eq => ?_⟩
    have hq' : q < xs.length := by omega
    rw [e0, List.getElem_append_left hq']
    exact h4 _ (List.getElem_mem hq')
theorem drL_snoc {xs : List Tal} {tu c f d : Int} (h : drL xs tu) (hl : xs.length ≤ 8) (hc : 0 ≤ c ∧ c ≤ 29) (hf : 0 ≤ f ∧ f ≤ 1000) (hd : 0 ≤ d ∧ d ≤ 3) : drL (xs ++ [(tu, c, f)]) (tu + (1 + d)) := by
  have ht := h.tu
  refine ⟨okL_snoc h.ok (by omega) (by simp only []; omega) hc.1 hf h.lt, fun x hx => ?_, fun {x} hx => ?_, by simp; omega⟩
  · rcases List.mem_append.1 hx with hx | hx
    · have := h.lt x hx
      omega
    · simp only [List.mem_singleton] at hx
      subst hx
      simp only []
      omega
  · rcases List.mem_append.1 hx with hx | hx
    · exact h.mem hx
    · simp only [List.mem_singleton] at hx
      subst hx
      exact ⟨hc, hf⟩
theorem mul_rng {a b : Int} (ha : 0 ≤ a ∧ a ≤ 3) (hb : 0 ≤ b ∧ b ≤ 1) : 0 ≤ a * b ∧ a * b ≤ 3 := by
  rcases (show b = 0 ∨ b = 1 by omega) with rfl | rfl
  · simp
  · simpa using ha
theorem c49 (code : List Int) (hc : B8 code) (hl : code.length ≤ 2 ^ 40) : PureE X 49 [.c (bys false code)] (fun r => ∃ xs : List Tal, drW xs ∧ r = .c (tals true xs)) := by
  refine PureE.of_body (drawD_ok X) (fun _ _ => Go.Proofs.Try.call49 _ _) Go.Proofs.Try.func49 rfl (n := 6) rfl ?_
  refine w_seq ?_
  refine w_reg rfl ?_
  refine v_assign rfl ?_
  refine v_nil ?_
  refine q_n ?_
  refine w_seq ?_
  refine w_reg rfl ?_
  refine v_move rfl ?_
  refine v_inl (n := 6) (drawD_ok X) (fun _ _ => Go.Proofs.Try.call99 _ _) Go.Proofs.Try.func99 rfl rfl rfl rfl ?_
  refine w_seq ?_
  refine w_reg rfl ?_
  refine v_assign (c := .v _) rfl ?_
  refine v_nil ?_
  refine q_n ?_
  refine w_seq ?_
  refine w_reg rfl ?_
  refine v_move rfl ?_
  refine v_build [(0, 1), (1, 1), (2, 1)] [_, .v _, .v _] lay138 rfl rfl ?_
  refine v_box (m := 0) (H' := [_]) lay138 rfl rfl rfl ?_
  refine v_assign rfl ?_
  refine v_nil ?_
  refine q_n ?_
  refine w_ret ?_
  refine r_r rfl ?_
  refine v_inl (n := 60) (drawD_ok X) (fun _ _ => Go.Proofs.Try.call98 _ _) Go.Proofs.Try.func98 rfl rfl rfl rfl ?_
  refine w_seq ?_
  refine w_reg rfl ?_
  refine v_assign rfl ?_
  refine v_nil ?_
  refine q_n ?_
  refine w_seq ?_
  refine w_reg rfl ?_
  refine v_lit (flat te []) (H' := [_, _]) lay40 lay27 rfl rfl ⟨by decide, by decide⟩ rfl rfl ?_
  refine v_assign rfl ?_
  refine v_nil ?_
  refine q_n ?_
  refine w_seq ?_
  refine w_reg rfl ?_
  refine v_move rfl ?_
  refine v_pick (fun a' s' => [srcO _ a' s', _]) rfl hc (by omega) ⟨by omega, by omega⟩ (by omega) rfl rfl (fun a' s' => rfl) ?_
  intro q1 a1 s1 hq1 ha1
  refine v_assign rfl ?_
  refine v_nil ?_
  refine q_n ?_
  refine w_seq ?_
  refine w_seq ?_
  refine w_reg rfl ?_
  refine v_move rfl ?_
  refine v_pick (fun a' s' => [srcO _ a' s', _]) rfl hc (by omega) ⟨by omega, by omega⟩ (by omega) rfl rfl (fun a' s' => rfl) ?_
  intro q2 a2 s2 hq2 ha2
  refine v_assign rfl ?_
  refine v_nil ?_
  refine q_n ?_
  refine w_block ?_
  refine w_loop (fun k sl H => ∃ (j : Nat) (xs : List Tal) (tu a s : Int), k = j ∧ xs.length + j ≤ 8 ∧ drL xs tu ∧ (0 ≤ a ∧ a ≤ 4 + 12 * xs.length) ∧ sl = sls [(0, .c (.pt 0 0)), (3, .c (.mu 1 0 xs.length 3)), (4, cI tu), (5, cI j)] ∧ H = [srcO code a s, ⟨flat te xs, 27, true⟩]) ?_ ?_
  · obtain ⟨j0, hj0⟩ : ∃ j : Nat, q2 = j := Int.eq_ofNat_of_zero_le (by omega)
    refine ⟨_, _, _, ?_, j0, [], q1, a2, s2, rfl, by simp; omega, drL_nil (by omega), ⟨by omega, by simp; omega⟩, rfl, rfl⟩
    exact turn [some 0, some 1] rfl rfl rfl ⟨⟨_, rfl, .cons tr_sl (.cons tr_v (.cons tr_v .nil))⟩, ⟨_, rfl, trc_flat te_sc rfl⟩, trivial⟩ ⟨tr_pt rfl, tr_mun rfl rfl, tr_v, tr_i hj0, trivial⟩
  rintro k sl H ⟨j, xs, tu, a, s, hkj, hl1, hd, h0, rfl, rfl⟩
  have htu := hd.tu
  refine w_seq ?_
  refine w_seq ?_
  refine w_reg rfl ?_
  refine v_move rfl ?_
  refine v_gtr lay2 rfl rfl (fun h1 => ?_) (fun h1 => ?_)
  rotate_left
  · refine v_nil ?_
    refine q_n ?_
    refine w_f rfl ?_
    refine w_exit ?_
    refine q_e ?_
    refine q_e ?_
    refine q_hit ?_
    refine q_n ?_
    refine w_seq ?_
    refine w_reg rfl ?_
    refine v_move rfl ?_
    refine v_assign rfl ?_
    refine v_nil ?_
    refine q_n ?_
    refine w_ret ?_
    refine r_r rfl ?_
    refine v_assign rfl ?_
    refine v_nil ?_
    refine q_n ?_
    refine w_ret ?_
    refine r_r rfl ?_
    exact ⟨_, ⟨xs, ⟨_, hd, by omega⟩, rfl⟩, a_flat te_sc te_len rfl rfl⟩
  refine v_nil ?_
  refine q_n ?_
  refine w_t rfl ?_
  refine w_skip ?_
  refine q_n ?_
  refine w_seq ?_
  refine w_block ?_
  refine w_seq ?_
  refine w_reg rfl ?_
  refine v_move rfl ?_
  refine v_move rfl ?_
  refine v_pick (fun a' s' => [srcO _ a' s', _]) rfl hc (by omega) ⟨by omega, by omega⟩ (by omega) rfl rfl (fun a' s' => rfl) ?_
  intro q3 a3 s3 hq3 ha3
  refine v_conv_ii lay2 lay23 rfl (i16r (by omega)) ?_
  refine v_move rfl ?_
  refine v_pick (fun a' s' => [srcO _ a' s', _]) rfl hc (by omega) ⟨by omega, by omega⟩ (by omega) rfl rfl (fun a' s' => rfl) ?_
  intro q4 a4 s4 hq4 ha4
  refine v_conv_ii lay2 lay23 rfl (i16r (by omega)) ?_
  refine v_build [(0, 1), (1, 1), (2, 1)] [.v _, .v _, .v _] lay27 rfl rfl ?_
  refine v_alloc (m := 2) (H' := [_, _, ⟨[.v _, .v _, .v _], 27, true⟩]) lay27 rfl rfl ?_
  refine v_store (H' := [_, _, ⟨[_, _, _], 27, true⟩]) lay27 rfl rfl rfl rfl rfl rfl ?_
  refine v_nil ?_
  refine q_n ?_
  refine w_seq ?_
  refine w_seq ?_
  refine w_reg rfl ?_
  refine v_move rfl ?_
  refine v_len_mu lay40 rfl ?_
  refine v_gtr lay3 rfl rfl (fun h2 => ?_) (fun h2 => ?_)
  rotate_left
  · refine v_move rfl ?_
    refine v_guard_off rfl rfl rfl ?_
    refine v_guard_off rfl rfl rfl ?_
    refine v_pick_f (v := .v (.bool false)) rfl rfl ?_
    refine v_nil ?_
    refine q_n ?_
    refine w_f rfl ?_
    refine w_skip ?_
    refine q_n ?_
    refine w_seq ?_
    refine w_reg rfl ?_
    refine v_move rfl ?_
    refine v_load_pt (.agg [_, _, _]) lay27 rfl rfl rfl rfl ?_
    refine v_lit (flat te [(tu, q3, q4)]) (H' := [_, _, _, _]) lay40 lay27 rfl rfl ⟨by decide, by decide⟩ rfl rfl ?_
    refine v_app_flat (H' := [_, _, _, _, _]) te_sc te_len lay40 lay27 rfl rfl (by simp) rfl rfl (by simp) rfl rfl (by unfold maxLen; simp only []; omega) rfl rfl ?_
    refine v_assign rfl ?_
    refine v_nil ?_
    refine q_n ?_
    refine w_reg rfl ?_
    refine v_move rfl ?_
    refine v_move rfl ?_
    refine v_pick (fun a' s' => [srcO _ a' s', _, _, _, _]) rfl hc (by omega) ⟨by omega, by omega⟩ (by omega) rfl rfl (fun a' s' => rfl) ?_
    intro q10 a10 s10 hq10 ha10
    refine v_move rfl ?_
    refine v_pick (fun a' s' => [srcO _ a' s', _, _, _, _]) rfl hc (by omega) ⟨by omega, by omega⟩ (by omega) rfl rfl (fun a' s' => rfl) ?_
    intro q11 a11 s11 hq11 ha11
    have hmul := mul_rng (a := q10) (b := q11) (by omega) (by omega)
    refine v_mul lay2 rfl rfl (i64r (by omega)) ?_
    refine v_add lay2 rfl rfl (i64r (by omega)) ?_
    refine v_add lay2 rfl rfl (i64r (by omega)) ?_
    refine v_assign rfl ?_
    refine v_nil ?_
    refine q_bn ?_
    refine q_n ?_
    refine w_reg rfl ?_
    refine v_move rfl ?_
    refine v_sub lay2 rfl rfl (i64r (by omega)) ?_
    refine v_assign rfl ?_
    refine v_nil ?_
    refine q_n ?_
    refine ⟨_, _, _, ?_, ⟨j - 1, xs ++ [(tu, q3, q4)], tu + (1 + q10 * q11), a11, s11, rfl, by simp; omega, drL_snoc hd (by omega) (by omega) (by omega) (by omega), ⟨by omega, by simp; omega⟩, rfl, rfl⟩, by omega⟩
    exact turn [some 0, some 4] rfl rfl rfl ⟨⟨_, rfl, .cons tr_sl (.cons tr_v (.cons tr_v .nil))⟩, ⟨_, rfl, trc_flat te_sc rfl⟩, trivial⟩ ⟨tr_pt rfl, tr_mun rfl (by simp), tr_v, tr_i (by omega), trivial⟩
  have hlen : xs.length - 1 < xs.length := by omega
  refine v_move rfl ?_
  refine v_guard_on rfl rfl ?_
  refine v_move rfl ?_
  refine v_guard_on rfl rfl ?_
  refine v_inl (n := 9) (drawD_ok X) (fun _ _ => Go.Proofs.Try.call122 _ _) Go.Proofs.Try.func122 rfl rfl rfl rfl ?_
  refine w_seq ?_
  refine w_reg rfl ?_
  refine v_assign (c := .v (.bool false)) rfl ?_
  refine v_nil ?_
  refine q_n ?_
  refine w_seq ?_
  refine w_reg rfl ?_
  refine v_move rfl ?_
  refine v_move rfl ?_
  refine v_pick (fun a' s' => [srcO _ a' s', _, _]) rfl hc (by omega) ⟨by omega, by omega⟩ (by omega) rfl rfl (fun a' s' => rfl) ?_
  intro q5 a5 s5 hq5 ha5
  refine v_eql lay2 rfl rfl (fun h3 => ?_) (fun h3 => ?_)
  rotate_left
  · refine v_assign rfl ?_
    refine v_nil ?_
    refine q_n ?_
    refine w_ret ?_
    refine r_r rfl ?_
    refine v_pick_t rfl rfl ?_
    refine v_nil ?_
    refine q_n ?_
    refine w_f rfl ?_
    refine w_skip ?_
    refine q_n ?_
    refine w_seq ?_
    refine w_reg rfl ?_
    refine v_move rfl ?_
    refine v_load_pt (.agg [_, _, _]) lay27 rfl rfl rfl rfl ?_
    refine v_lit (flat te [(tu, q3, q4)]) (H' := [_, _, _, _]) lay40 lay27 rfl rfl ⟨by decide, by decide⟩ rfl rfl ?_
    refine v_app_flat (H' := [_, _, _, _, _]) te_sc te_len lay40 lay27 rfl rfl (by simp) rfl rfl (by simp) rfl rfl (by unfold maxLen; simp only []; omega) rfl rfl ?_
    refine v_assign rfl ?_
    refine v_nil ?_
    refine q_n ?_
    refine w_reg rfl ?_
    refine v_move rfl ?_
    refine v_move rfl ?_
    refine v_pick (fun a' s' => [srcO _ a' s', _, _, _, _]) rfl hc (by omega) ⟨by omega, by omega⟩ (by omega) rfl rfl (fun a' s' => rfl) ?_
    intro q8 a8 s8 hq8 ha8
    refine v_move rfl ?_
    refine v_pick (fun a' s' => [srcO _ a' s', _, _, _, _]) rfl hc (by omega) ⟨by omega, by omega⟩ (by omega) rfl rfl (fun a' s' => rfl) ?_
    intro q9 a9 s9 hq9 ha9
    have hmul := mul_rng (a := q8) (b := q9) (by omega) (by omega)
    refine v_mul lay2 rfl rfl (i64r (by omega)) ?_
    refine v_add lay2 rfl rfl (i64r (by omega)) ?_
    refine v_add lay2 rfl rfl (i64r (by omega)) ?_
    refine v_assign rfl ?_
    refine v_nil ?_
    refine q_bn ?_
    refine q_n ?_
    refine w_reg rfl ?_
    refine v_move rfl ?_
    refine v_sub lay2 rfl rfl (i64r (by omega)) ?_
    refine v_assign rfl ?_
    refine v_nil ?_
    refine q_n ?_
    refine ⟨_, _, _, ?_, ⟨j - 1, xs ++ [(tu, q3, q4)], tu + (1 + q8 * q9), a9, s9, rfl, by simp; omega, drL_snoc hd (by omega) (by omega) (by omega) (by omega), ⟨by omega, by simp; omega⟩, rfl, rfl⟩, by omega⟩
    exact turn [some 0, some 4] rfl rfl rfl ⟨⟨_, rfl, .cons tr_sl (.cons tr_v (.cons tr_v .nil))⟩, ⟨_, rfl, trc_flat te_sc rfl⟩, trivial⟩ ⟨tr_pt rfl, tr_mun rfl (by simp), tr_v, tr_i (by omega), trivial⟩
  refine v_assign rfl ?_
  refine v_nil ?_
  refine q_n ?_
  refine w_ret ?_
  refine r_r rfl ?_
  refine v_pick_t rfl rfl ?_
  refine v_nil ?_
  refine q_n ?_
  refine w_t rfl ?_
  refine w_seq ?_
  refine w_reg rfl ?_
  refine v_move rfl ?_
  refine v_move rfl ?_
  refine v_len_mu lay40 rfl ?_
  refine v_sub lay3 rfl rfl (i64r (by omega)) ?_
  refine v_idx_mu_e (k := 3) (off := 0) ((xs.length - 1)) lay40 lay27 rfl rfl rfl ((by omega)) (hlen) ?_
  refine v_fa_pt (off' := _) lay27 rfl rfl rfl ?_
  refine v_load_flat (xs.length - 1) 1 (.c (.v _)) te_len lay23 rfl rfl (by omega) (by omega) rfl rfl ?_
  refine v_fa_pt (off' := 1) lay27 rfl rfl rfl ?_
  refine v_store (H' := [_, _, ⟨[_, _, _], 27, true⟩]) lay23 rfl rfl rfl rfl rfl rfl ?_
  refine v_nil ?_
  refine q_n ?_
  refine w_reg rfl ?_
  refine v_move rfl ?_
  refine v_move rfl ?_
  refine v_len_mu lay40 rfl ?_
  refine v_sub lay3 rfl rfl (i64r (by omega)) ?_
  refine v_idx_mu_e (k := 3) (off := 0) ((xs.length - 1)) lay40 lay27 rfl rfl rfl ((by omega)) (hlen) ?_
  refine v_fa_pt (off' := _) lay27 rfl rfl rfl ?_
  refine v_load_flat (xs.length - 1) 2 (.c (.v _)) te_len lay23 rfl rfl (by omega) (by omega) rfl rfl ?_
  refine v_fa_pt (off' := 2) lay27 rfl rfl rfl ?_
  refine v_store (H' := [_, _, ⟨[_, _, _], 27, true⟩]) lay23 rfl rfl rfl rfl rfl rfl ?_
  refine v_nil ?_
  refine q_n ?_
  refine w_seq ?_
  refine w_reg rfl ?_
  refine v_move rfl ?_
  refine v_load_pt (.agg [_, _, _]) lay27 rfl rfl rfl rfl ?_
  refine v_lit (flat te [(tu, (xs[(xs.length - 1)]).2.1, (xs[(xs.length - 1)]).2.2)]) (H' := [_, _, _, _]) lay40 lay27 rfl rfl ⟨by decide, by decide⟩ rfl rfl ?_
  refine v_app_flat (H' := [_, _, _, _, _]) te_sc te_len lay40 lay27 rfl rfl (by simp) rfl rfl (by simp) rfl rfl (by unfold maxLen; simp only []; omega) rfl rfl ?_
  refine v_assign rfl ?_
  refine v_nil ?_
  refine q_n ?_
  refine w_reg rfl ?_
  refine v_move rfl ?_
  refine v_move rfl ?_
  refine v_pick (fun a' s' => [srcO _ a' s', _, _, _, _]) rfl hc (by omega) ⟨by omega, by omega⟩ (by omega) rfl rfl (fun a' s' => rfl) ?_
  intro q6 a6 s6 hq6 ha6
  refine v_move rfl ?_
  refine v_pick (fun a' s' => [srcO _ a' s', _, _, _, _]) rfl hc (by omega) ⟨by omega, by omega⟩ (by omega) rfl rfl (fun a' s' => rfl) ?_
  intro q7 a7 s7 hq7 ha7
  have hmul := mul_rng (a := q6) (b := q7) (by omega) (by omega)
  refine v_mul lay2 rfl rfl (i64r (by omega)) ?_
  refine v_add lay2 rfl rfl (i64r (by omega)) ?_
  refine v_add lay2 rfl rfl (i64r (by omega)) ?_
  refine v_assign rfl ?_
  refine v_nil ?_
  refine q_bn ?_
  refine q_n ?_
  refine w_reg rfl ?_
  refine v_move rfl ?_
  refine v_sub lay2 rfl rfl (i64r (by omega)) ?_
  refine v_assign rfl ?_
  refine v_nil ?_
  refine q_n ?_
  refine ⟨_, _, _, ?_, ⟨j - 1, xs ++ [(tu, (xs[(xs.length - 1)]).2.1, (xs[(xs.length - 1)]).2.2)], tu + (1 + q6 * q7), a7, s7, rfl, by simp; omega, drL_snoc hd (by omega) (hd.mem (List.getElem_mem hlen)).1 (hd.mem (List.getElem_mem hlen)).2 (by omega), ⟨by omega, by simp; omega⟩, rfl, rfl⟩, by omega⟩
  exact turn [some 0, some 4] rfl rfl rfl ⟨⟨_, rfl, .cons tr_sl (.cons tr_v (.cons tr_v .nil))⟩, ⟨_, rfl, trc_flat te_sc rfl⟩, trivial⟩ ⟨tr_pt rfl, tr_mun rfl (by simp), tr_v, tr_i (by omega), trivial⟩
end Go.VL
namespace Go.VL
open Go.RowKit
set_option maxRecDepth 20000
set_option maxHeartbeats 4000000
theorem u8_eq (n : Int) : IntKind.u8.wrap n = n % 256 := by
  simp only [IntKind.wrap, IntKind.bits, IntKind.signed]
  simp
theorem i16_eq {n : Int} (h : -32768 ≤ n ∧ n ≤ 32767) : IntKind.i16.wrap n = n := wrap_of (k := .i16) h
theorem getD_app {P R : List Int} {q : Nat} : (P ++ R).getD (P.length + q) 0 = R.getD q 0 := by
  rw [List.getD_eq_getElem?_getD, List.getElem?_append_right (by omega), List.getD_eq_getElem?_getD, show P.length + q - P.length = q by omega]
theorem nz_mod {a : Int} (h : ¬ a.tmod 251 = 0) : ¬ a % 251 = 0 := fun h1 => h (Int.tmod_eq_zero_of_dvd (Int.dvd_of_emod_eq_zero h1))
/-- The bytes of a tally stand in a packet where they should. -/
def hasR (ds : List Int) (xs : List Tal) (i : Nat) : Prop := ∃ P Z, P.length = 3 + 7 * i ∧ ds = P ++ (recB i (xs.getD i (0, 0, 0)).1 (xs.getD i (0, 0, 0)).2.1 (xs.getD i (0, 0, 0)).2.2 ++ Z)
theorem recB_len (i t c f : Int) : (recB i t c f).length = 7 := rfl
theorem pk_has (xs : List Tal) {i : Nat} : ∀ {n : Nat}, i < n → ∃ Z, pk xs n = pk xs i ++ (recB i (xs.getD i (0, 0, 0)).1 (xs.getD i (0, 0, 0)).2.1 (xs.getD i (0, 0, 0)).2.2 ++ Z)
  | n + 1, h => by
    by_cases h1 : i = n
    · subst h1
      exact ⟨[], by rw [pk]; simp⟩
    · obtain ⟨Z, hZ⟩ := pk_has xs (i := i) (n := n) (by omega)
      exact ⟨Z ++ recB n (xs.getD n (0, 0, 0)).1 (xs.getD n (0, 0, 0)).2.1 (xs.getD n (0, 0, 0)).2.2, by rw [pk, hZ]; simp⟩
theorem pk_hasR {xs : List Tal} {i n : Nat} (h : i < n) (E : List Int) : hasR (pk xs n ++ E) xs i := by
  obtain ⟨Z, hZ⟩ := pk_has xs h
  exact ⟨pk xs i, Z ++ E, pk_len xs i, by rw [hZ]; simp⟩
theorem hasR.take {ds : List Int} {xs : List Tal} {i cut : Nat} (h : hasR ds xs i) (hc : 3 + 7 * (i + 1) ≤ cut) : hasR (ds.take cut) xs i := by
  obtain ⟨P, Z, hl, rfl⟩ := h
  refine ⟨P, Z.take (cut - P.length - 7), hl, ?_⟩
  rw [List.take_append, List.take_append, List.take_of_length_le (by omega), List.take_of_length_le (by rw [recB_len]; omega), recB_len]
theorem hasR.six {ds : List Int} {xs : List Tal} {i : Nat} (h : hasR ds xs i) : six ds i = [sx (xs.getD i (0, 0, 0)).1, sx (xs.getD i (0, 0, 0)).2.1, sx (xs.getD i (0, 0, 0)).2.2].flatten ∧ rgt ds i := by
  obtain ⟨P, Z, hl, rfl⟩ := h
  have h1 : VL.six (P ++ (recB i (xs.getD i (0, 0, 0)).1 (xs.getD i (0, 0, 0)).2.1 (xs.getD i (0, 0, 0)).2.2 ++ Z)) i = [sx (xs.getD i (0, 0, 0)).1, sx (xs.getD i (0, 0, 0)).2.1, sx (xs.getD i (0, 0, 0)).2.2].flatten := by
    unfold VL.six
    rw [← hl, List.drop_left]
    rfl
  refine ⟨h1, ?_⟩
  unfold rgt
  rw [h1, ← hl, getD_app]
  rfl
theorem okL.at {xs : List Tal} (h : okL xs) {i : Nat} (hi : i < xs.length) : (0 ≤ xs[i].1 ∧ xs[i].1 ≤ 65535) ∧ 0 ≤ xs[i].2.1 ∧ 0 ≤ xs[i].2.2 ∧ xs[i].2.2 ≤ 1000 := by
  obtain ⟨h1, h2, h3, h4, -⟩ := h.2 i hi
  exact ⟨h1, h2, h3, h4⟩
theorem hasR.tal {ds : List Int} {xs : List Tal} {i : Nat} (h : hasR ds xs i) (hok : okL xs) (hb : T16 xs) (hi : i < xs.length) : tl6 (VL.six ds i) = xs[i] := by
  have hk := hok.at hi
  have hb := hb _ (List.getElem_mem hi)
  rw [h.six.1, getD_at hi]
  refine tal_ext ⟨?_, ?_, ?_⟩
  · show (IntKind.u8.wrap xs[i].1) + 256 * (IntKind.u8.wrap (xs[i].1 / 256)) = _
    rw [u8_eq, u8_eq]
    omega
  · show IntKind.i16.wrap ((IntKind.u8.wrap xs[i].2.1) + 256 * (IntKind.u8.wrap (xs[i].2.1 / 256))) = _
    rw [u8_eq, u8_eq, i16_eq (by omega)]
    omega
  · show IntKind.i16.wrap ((IntKind.u8.wrap xs[i].2.2) + 256 * (IntKind.u8.wrap (xs[i].2.2 / 256))) = _
    rw [u8_eq, u8_eq, i16_eq (by omega)]
    omega
theorem tls_eq {ds : List Int} {xs : List Tal} (hok : okL xs) (hb : T16 xs) {k : Nat} (hk : k ≤ xs.length) (h : ∀ i, i < k → hasR ds xs i) : tls ds k = xs.take k := by
  refine List.ext_getElem (by simp [tls]; omega) fun i h1 h2 => ?_
  have hik : i < k := by simpa [tls] using h1
  rw [List.getElem_take]
  simp only [tls, List.getElem_map, List.getElem_range]
  exact (h i hik).tal hok hb (by omega)
theorem okL_take {xs : List Tal} (h : okL xs) (k : Nat) : okL (xs.take k) := by
  have hl : (xs.take k).length ≤ xs.length := by simp; omega
  refine ⟨by have := h.1; omega, fun i hi => ?_⟩
  obtain ⟨h1, h2, h3, h4, h5⟩ := h.2 i (by omega)
  refine ⟨?_, ?_, ?_, ?_, fun q hq e => ?_⟩
  · rw [List.getElem_take]; exact h1
  · rw [List.getElem_take]; exact h2
  · rw [List.getElem_take]; exact h3
  · rw [List.getElem_take]; exact h4
  · rw [List.getElem_take, List.getElem_take]; exact h5 q (by omega) e
theorem pk_head {xs : List Tal} (hl : xs.length ≤ 96) : ∀ n, ∃ Z, pk xs n = 68 :: 84 :: (xs.length : Int) :: Z ∧ Z.length = 7 * n
  | 0 => ⟨[], by rw [pk, u8_eq]; simp; omega, rfl⟩
  | n + 1 => by
    obtain ⟨Z, h1, h2⟩ := pk_head hl n
    exact ⟨Z ++ recB n (xs.getD n (0, 0, 0)).1 (xs.getD n (0, 0, 0)).2.1 (xs.getD n (0, 0, 0)).2.2, by rw [pk, h1]; simp, by rw [List.length_append, recB_len]; omega⟩
theorem hd_of {n : Int} {Z : List Int} (hn : n ≤ 96) (hZ : Z.length ≤ 673) : hdR (68 :: 84 :: n :: Z) = (n, 0) := by
  rw [hd_0 (by simp; omega) ⟨by simp, rfl, rfl, hn⟩]
  rfl
abbrev due (xs : List Tal) : List Int := pk xs xs.length ++ [(ck (pk xs xs.length)).2]
theorem due_len (xs : List Tal) : (due xs).length = 7 * xs.length + 4 := by
  rw [List.length_append, pk_len]
  simp
  omega
theorem due_b8 (xs : List Tal) : B8 (due xs) := fun x hx => by
  rcases List.mem_append.1 hx with h | h
  · exact pk_b8 xs _ x h
  · simp only [List.mem_singleton] at h
    subst h
    have := (ck_in (pk_b8 xs xs.length)).2
    omega
theorem okB_all {ds : List Int} (h0 : okB ds 0 = true) : ∀ {n : Nat}, (∀ i, i < n → rgt ds i) → okB ds n = true
  | 0, _ => h0
  | n + 1, h => by rw [okB_t (okB_all h0 fun i hi => h i (by omega))]; exact decide_eq_true (h n (by omega))
theorem okB_no {ds : List Int} {i : Nat} (h : okB ds i = false) : ∀ {n : Nat}, i ≤ n → okB ds n = false
  | 0, hn => by obtain rfl : i = 0 := by omega
                exact h
  | n + 1, hn => by
    by_cases e : i = n + 1
    · rw [← e]; exact h
    · exact okB_f (okB_no h (by omega))
theorem last_app {A : List Int} {x : Int} : (A ++ [x]).getD ((A ++ [x]).length - 1) 0 = x ∧ ((A ++ [x]).drop 0).take ((A ++ [x]).length - 1 - 0) = A := by
  constructor
  · simp [List.getD_eq_getElem?_getD]
  · simp
/-- What is read from a packet is what was written. -/
theorem rd_due {xs : List Tal} (hok : okL xs) (hb : T16 xs) : rdR (due xs) = (xs, 0) := by
  obtain ⟨Z, h1, h2⟩ := pk_head hok.1 xs.length
  have hl := hok.1
  have hh : hdR (due xs) = ((xs.length : Int), 0) := by
    unfold due
    rw [h1]
    exact hd_of (by omega) (by simp; omega)
  have ht : tls (due xs) xs.length = xs := by
    rw [tls_eq hok hb (Nat.le_refl _) fun i hi => pk_hasR hi _, List.take_length]
  have h0 : okB (due xs) 0 = true := by
    unfold okB due
    rw [last_app.1, last_app.2]
    simp
  rw [rd_0 (N := xs.length) (by rw [hh]) (by rw [hh]) (due_len xs) (okB_all h0 fun i hi => (pk_hasR hi _).six.2) (by rw [ht]; exact hok), ht]
theorem tn_eq {ds : List Int} {xs : List Tal} (hok : okL xs) (hb : T16 xs) {K : Nat} (hK : K = min ((ds.length - 3) / 7) xs.length) (h : ∀ i, i < K → hasR ds xs i) : ∀ {d i : Nat}, i + d = K → tn ds xs.length (xs.length - i) i = K
  | 0, i, hd => by
    refine (tn_stop (t := tn ds xs.length (xs.length - i) i) (N := xs.length) (i := i) (fun ⟨h1, h2, _, _⟩ => ?_) rfl).trans (by omega)
    have : (i + 1) ≤ (ds.length - 3) / 7 := by omega
    omega
  | d + 1, i, hd => by
    have hd7 := Nat.div_mul_le_self (ds.length - 3) 7
    have h4 : okL (tls ds (i + 1)) := by rw [tls_eq hok hb (by omega) fun j hj => h j (by omega)]; exact okL_take hok _
    rw [tn_go (ds := ds) (N := xs.length) (i := i) (by omega) (by omega) (h i (by omega)).six.2 h4]
    exact tn_eq hok hb hK h (d := d) (i := i + 1) (by omega)
/-- A torn packet has the first tallies. -/
theorem tr_due {xs : List Tal} (hok : okL xs) (hb : T16 xs) {cut : Nat} (h3 : 3 ≤ cut) (hc : cut ≤ (due xs).length) : trR ((due xs).take cut) = (xs.take (min ((cut - 3) / 7) xs.length), 0) := by
  obtain ⟨Z, h1, h2⟩ := pk_head hok.1 xs.length
  have hl := hok.1
  have hdl := due_len xs
  have hlen : ((due xs).take cut).length = cut := by simp only [List.length_take]; omega
  have hh : hdR ((due xs).take cut) = ((xs.length : Int), 0) := by
    obtain ⟨c, rfl⟩ : ∃ c, cut = c + 3 := ⟨cut - 3, by omega⟩
    unfold due
    rw [h1]
    exact hd_of (by omega) (by simp; omega)
  have hR : ∀ i, i < min ((cut - 3) / 7) xs.length → hasR ((due xs).take cut) xs i := fun i hi => (pk_hasR (by omega) _).take (by omega)
  rw [tr_0 (N := xs.length) (by rw [hh]) (by rw [hh]) (i := min ((cut - 3) / 7) xs.length) (tn_eq hok hb (K := min ((cut - 3) / 7) xs.length) (by rw [hlen]) hR (d := min ((cut - 3) / 7) xs.length) (i := 0) (by omega))]
  rw [tls_eq hok hb (by omega) hR]
theorem stp_ex (a b x : Int) : ∃ k l : Int, stp (a, b) x = (a + x - 251 * k, b + a + x - 251 * l) := by
  refine ⟨(a + x).tdiv 251, (a + x).tdiv 251 + (b + (a + x).tmod 251).tdiv 251, ?_⟩
  unfold stp
  simp only []
  have e1 := Int.mul_tdiv_add_tmod (a + x) 251
  have e2 := Int.mul_tdiv_add_tmod (b + (a + x).tmod 251) 251
  refine Prod.ext ?_ ?_
  · show (a + x).tmod 251 = _
    omega
  · show (b + (a + x).tmod 251).tmod 251 = _
    omega
theorem ck7 (x0 x1 x2 x3 x4 x5 x6 : Int) : ∃ M : Int, (ck [x0, x1, x2, x3, x4, x5, x6]).2 = 8 + 7 * x0 + 6 * x1 + 5 * x2 + 4 * x3 + 3 * x4 + 2 * x5 + x6 - 251 * M := by
  show ∃ M : Int, (stp (stp (stp (stp (stp (stp (stp (1, 1) x0) x1) x2) x3) x4) x5) x6).2 = _
  obtain ⟨k0, l0, e0⟩ := stp_ex 1 1 x0
  rw [e0]
  obtain ⟨k1, l1, e1⟩ := stp_ex (1 + x0 - 251 * k0) (1 + 1 + x0 - 251 * l0) x1
  rw [e1]
  obtain ⟨k2, l2, e2⟩ := stp_ex (1 + x0 - 251 * k0 + x1 - 251 * k1) (1 + 1 + x0 - 251 * l0 + (1 + x0 - 251 * k0) + x1 - 251 * l1) x2
  rw [e2]
  generalize hA2 : (1 + x0 - 251 * k0 + x1 - 251 * k1 + x2 - 251 * k2) = A2
  generalize hB2 : (1 + 1 + x0 - 251 * l0 + (1 + x0 - 251 * k0) + x1 - 251 * l1 + (1 + x0 - 251 * k0 + x1 - 251 * k1) + x2 - 251 * l2) = B2
  obtain ⟨k3, l3, e3⟩ := stp_ex A2 B2 x3
  rw [e3]
  obtain ⟨k4, l4, e4⟩ := stp_ex (A2 + x3 - 251 * k3) (B2 + A2 + x3 - 251 * l3) x4
  rw [e4]
  obtain ⟨k5, l5, e5⟩ := stp_ex (A2 + x3 - 251 * k3 + x4 - 251 * k4) (B2 + A2 + x3 - 251 * l3 + (A2 + x3 - 251 * k3) + x4 - 251 * l4) x5
  rw [e5]
  obtain ⟨k6, l6, e6⟩ := stp_ex (A2 + x3 - 251 * k3 + x4 - 251 * k4 + x5 - 251 * k5) (B2 + A2 + x3 - 251 * l3 + (A2 + x3 - 251 * k3) + x4 - 251 * l4 + (A2 + x3 - 251 * k3 + x4 - 251 * k4) + x5 - 251 * l5) x6
  rw [e6]
  refine ⟨4 * k0 + 4 * k1 + 4 * k2 + 3 * k3 + 2 * k4 + k5 + l0 + l1 + l2 + l3 + l4 + l5 + l6 + 2 * k0 + k1, ?_⟩
  simp only []
  subst hA2 hB2
  omega
theorem six_bent {i x0 x1 x2 x3 x4 x5 : Int} {r : Nat} (hr : r < 6) {v : Int} (hne : ¬ ([x0, x1, x2, x3, x4, x5].getD r 0 - v).tmod 251 = 0) : ¬ (ck ([i] ++ [x0, x1, x2, x3, x4, x5].set r v)).2 = (ck ([i] ++ [x0, x1, x2, x3, x4, x5])).2 := by
  have hne := nz_mod hne
  obtain ⟨M, hM⟩ := ck7 i x0 x1 x2 x3 x4 x5
  have hM' : (ck ([i] ++ [x0, x1, x2, x3, x4, x5])).2 = _ := hM
  rw [hM']
  intro hq
  match r, hr with
  | 0, _ =>
    obtain ⟨M', h'⟩ := ck7 i v x1 x2 x3 x4 x5
    have h2 := h'.symm.trans hq
    simp only [List.getD_cons_zero] at hne
    omega
  | 1, _ =>
    obtain ⟨M', h'⟩ := ck7 i x0 v x2 x3 x4 x5
    have h2 := h'.symm.trans hq
    simp only [List.getD_cons_zero, List.getD_cons_succ] at hne
    omega
  | 2, _ =>
    obtain ⟨M', h'⟩ := ck7 i x0 x1 v x3 x4 x5
    have h2 := h'.symm.trans hq
    simp only [List.getD_cons_zero, List.getD_cons_succ] at hne
    omega
  | 3, _ =>
    obtain ⟨M', h'⟩ := ck7 i x0 x1 x2 v x4 x5
    have h2 := h'.symm.trans hq
    simp only [List.getD_cons_zero, List.getD_cons_succ] at hne
    omega
  | 4, _ =>
    obtain ⟨M', h'⟩ := ck7 i x0 x1 x2 x3 v x5
    have h2 := h'.symm.trans hq
    simp only [List.getD_cons_zero, List.getD_cons_succ] at hne
    omega
  | 5, _ =>
    obtain ⟨M', h'⟩ := ck7 i x0 x1 x2 x3 x4 v
    have h2 := h'.symm.trans hq
    simp only [List.getD_cons_zero, List.getD_cons_succ] at hne
    omega
/-- A byte that is changed in a tally's bytes is told by their check. -/
theorem rgt_bent {ds : List Int} {xs : List Tal} {i r : Nat} (h : hasR ds xs i) (hr : r < 7) {v : Int} (hne : ¬ (ds.getD (3 + 7 * i + r) 0 - v).tmod 251 = 0) : ¬ rgt (ds.set (3 + 7 * i + r) v) i := by
  obtain ⟨P, Z, hl, rfl⟩ := h
  have hg : ∀ (R : List Int) (q : Nat), (P ++ (R ++ Z)).getD (3 + 7 * i + q) 0 = (R ++ Z).getD q 0 := fun R q => by
    rw [List.getD_eq_getElem?_getD, List.getElem?_append_right (by omega), List.getD_eq_getElem?_getD, show 3 + 7 * i + q - P.length = q by omega]
  rw [hg] at hne
  rw [List.set_append_right _ _ (by omega), show 3 + 7 * i + r - P.length = r by omega, List.set_append_left _ _ (by rw [recB_len]; exact hr)]
  unfold rgt
  rw [hg]
  unfold VL.six
  rw [← hl, List.drop_left]
  unfold recB sx at hne ⊢
  generalize IntKind.u8.wrap (xs.getD i (0, 0, 0)).1 = x0 at *
  generalize IntKind.u8.wrap ((xs.getD i (0, 0, 0)).1 / 256) = x1 at *
  generalize IntKind.u8.wrap (xs.getD i (0, 0, 0)).2.1 = x2 at *
  generalize IntKind.u8.wrap ((xs.getD i (0, 0, 0)).2.1 / 256) = x3 at *
  generalize IntKind.u8.wrap (xs.getD i (0, 0, 0)).2.2 = x4 at *
  generalize IntKind.u8.wrap ((xs.getD i (0, 0, 0)).2.2 / 256) = x5 at *
  simp only [List.flatten_cons, List.flatten_nil, List.append_nil, List.cons_append, List.nil_append] at hne ⊢
  by_cases h6 : r = 6
  · subst h6
    simp only [List.set_cons_succ, List.set_cons_zero, List.cons_append, List.nil_append, List.getD_cons_succ, List.getD_cons_zero, List.take_succ_cons, List.take_zero] at hne ⊢
    intro e
    rw [e, Int.sub_self] at hne
    exact hne rfl
  · have h5 : r < 6 := by omega
    have hb := six_bent (i := IntKind.u8.wrap i) (x0 := x0) (x1 := x1) (x2 := x2) (x3 := x3) (x4 := x4) (x5 := x5) h5 (v := v) (by
      match r, h5 with
      | 0, _ => exact hne
      | 1, _ => exact hne
      | 2, _ => exact hne
      | 3, _ => exact hne
      | 4, _ => exact hne
      | 5, _ => exact hne)
    match r, h5 with
    | 0, _ => exact hb
    | 1, _ => exact hb
    | 2, _ => exact hb
    | 3, _ => exact hb
    | 4, _ => exact hb
    | 5, _ => exact hb
/-- A packet with a byte changed is no packet, but for those by which checks are alike. -/
theorem rd_bent {xs : List Tal} (hok : okL xs) {q : Nat} (hq : q < (due xs).length) {v : Int} (hv : 0 ≤ v ∧ v ≤ 255) (hne : ¬ ((due xs)[q] - v).tmod 251 = 0) : (rdR ((due xs).set q v)).2 = 8 ∨ (rdR ((due xs).set q v)).2 = 5 := by
  have hl := hok.1
  have hdl := due_len xs
  have hb : B8 ((due xs).set q v) := fun x hx => by
    rcases List.mem_or_eq_of_mem_set hx with h | rfl
    · exact due_b8 xs x h
    · exact hv
  have hlen : ((due xs).set q v).length = 7 * xs.length + 4 := by rw [List.length_set, hdl]
  by_cases hc : (hdR ((due xs).set q v)).2 = 0
  · obtain ⟨N, hN, -, -, -, h2⟩ := hd_ok hb hc
    by_cases h7 : ((due xs).set q v).length = 7 * N + 4
    · left
      obtain rfl : N = xs.length := by omega
      have hf : okB ((due xs).set q v) xs.length = false := by
        have hh : headOk ((due xs).set q v) := by
          by_cases h : headOk ((due xs).set q v)
          · exact h
          · rw [hd_5 (by omega) h] at hc; cases hc
        obtain ⟨_, a0, a1, _⟩ := hh
        have a2 := h2 (by omega)
        rw [List.getElem_set] at a0 a1 a2
        obtain ⟨Z, z1, z2⟩ := pk_head hok.1 xs.length
        have d0 : (due xs)[0]'(by omega) = 68 := by unfold due; simp only [z1]; rfl
        have d1 : (due xs)[1]'(by omega) = 84 := by unfold due; simp only [z1]; rfl
        have d2 : (due xs)[2]'(by omega) = (xs.length : Int) := by unfold due; simp only [z1]; rfl
        have hs : ∀ w : Int, (due xs)[q] = w → v = w → False := fun w e1 e2 => hne (by rw [e1, e2, Int.sub_self]; rfl)
        by_cases q0 : q = 0
        · subst q0; exact (hs _ d0 (by simpa using a0)).elim
        by_cases q1 : q = 1
        · subst q1; exact (hs _ d1 (by simpa using a1)).elim
        by_cases q2 : q = 2
        · subst q2; exact (hs _ d2 (by simpa using a2)).elim
        by_cases q3 : q = 3 + 7 * xs.length
        · subst q3
          refine okB_no (i := 0) ?_ (Nat.zero_le _)
          have e : (due xs).set (3 + 7 * xs.length) v = pk xs xs.length ++ [v] := by
            unfold due
            rw [List.set_append_right _ _ (by rw [pk_len]; omega), pk_len, Nat.sub_self]
            rfl
          have e2 : (due xs)[3 + 7 * xs.length] = (ck (pk xs xs.length)).2 := by
            unfold due
            rw [List.getElem_append_right (by rw [pk_len]; omega)]
            simp
          rw [e]
          unfold okB
          rw [last_app.1, last_app.2, ← e2]
          exact beq_false_of_ne fun e3 => hs v e3 rfl
        · obtain ⟨i, r, hr, rfl⟩ : ∃ i r, r < 7 ∧ q = 3 + 7 * i + r := ⟨(q - 3) / 7, (q - 3) % 7, Nat.mod_lt _ (by decide), by omega⟩
          have hi : i < xs.length := by omega
          have hn := rgt_bent (pk_hasR (xs := xs) hi [(ck (pk xs xs.length)).2]) hr (v := v) (by rw [getD_i hq]; exact hne)
          refine okB_no (i := i + 1) ?_ hi
          simp only [okB]
          rw [decide_eq_false hn, Bool.and_false]
      rw [rd_3 hc hN h7 hf]
    · right
      rw [rd_2 hc hN h7]
  · right
    rw [rd_1 hc]
    by_cases h : headOk ((due xs).set q v)
    · rw [hd_0 (by omega) h] at hc
      exact absurd rfl hc
    · rw [hd_5 (by omega) h]
end Go.VL
namespace Go.VL
open Go.RowKit
set_option maxRecDepth 20000
set_option maxHeartbeats 8000000
theorem rq27 {x y : Operand} {ty2 : TypeId} {ρ : Operand → V} {a b : Tal} (hx : ρ x = .agg (te a)) (hy : ρ y = .agg (te b)) : RawQ X (.binOp .neq 27 x y ty2) ρ (cB (decide (¬ a = b))) :=
  rq_neqK (X := X) (p := a = b) [(2, 0), (23, 1), (23, 2)] (by kernel_rfl) (by kernel_rfl) (by kernel_rfl) (by kernel_rfl)
    (fun q hq => by
      simp only [List.mem_cons, List.not_mem_nil, or_false] at hq
      rcases hq with rfl | rfl | rfl
      · exact keyInt (k' := .i64) (by kernel_rfl) rfl rfl
      · exact keyInt (k' := .i16) (by kernel_rfl) rfl rfl
      · exact keyInt (k' := .i16) (by kernel_rfl) rfl rfl)
    ⟨fun h q _ => by rw [h], fun h => by
      have h0 := h (2, 0) (by simp)
      have h1 := h (23, 1) (by simp)
      have h2 := h (23, 2) (by simp)
      simp [te, tal] at h0 h1 h2
      exact tal_ext ⟨h0, h1, h2⟩⟩ hx hy
theorem te_step {α : Type} {xs ys : List α} {i : Nat} (h : xs.take i = ys.take i) (h1 : i < xs.length) (h2 : i < ys.length) (he : xs[i] = ys[i]) : xs.take (i + 1) = ys.take (i + 1) := by
  rw [List.take_succ_eq_append_getElem h1, List.take_succ_eq_append_getElem h2, h, he]
theorem te_all {α : Type} {xs ys : List α} {i : Nat} (h : xs.take i = ys.take i) (h1 : i = xs.length) (h2 : ys.length = xs.length) : xs = ys := by
  subst h1
  rwa [List.take_length, ← h2, List.take_length] at h
theorem te_ne {α : Type} {xs ys : List α} {i : Nat} (h1 : i < xs.length) (h2 : i < ys.length) (he : ¬ xs[i] = ys[i]) : ¬ xs = ys := by
  rintro rfl
  exact he rfl
theorem drW.ok {xs : List Tal} (h : drW xs) : okL xs ∧ T16 xs ∧ xs.length ≤ 8 := by
  obtain ⟨tu, hd, hl⟩ := h
  exact ⟨hd.ok, fun x hx => by have := hd.mem hx; omega, hl⟩
theorem c29d (xs : List Tal) (hd : drW xs) : PureC X 29 [.c (tals false xs)] (.tup [.c (bys true (due xs)), cI 0]) := by
  obtain ⟨h1, h2, h3⟩ := hd.ok
  have h := c29 xs (by omega) h2
  rwa [pkR_0 h1] at h
theorem c30d (xs : List Tal) (hd : drW xs) : PureC X 30 [.c (tals false xs)] (.tup [.c (bys true (due xs)), cI 0]) := by
  obtain ⟨h1, h2, h3⟩ := hd.ok
  have h := c30 xs (by omega) h2
  rwa [pkR_0 h1] at h
theorem c43d (xs : List Tal) (hd : drW xs) : PureC X 43 [.c (bys false (due xs))] (.tup [.c (tals true xs), cI 0]) := by
  obtain ⟨h1, h2, h3⟩ := hd.ok
  have h := c43 (due xs) (by have := due_len xs; omega) (due_b8 xs)
  rwa [rd_due h1 h2] at h
theorem c41d (xs : List Tal) (hd : drW xs) (c : Nat) (hc : c + 3 ≤ (due xs).length) : PureC X 41 [.c (.sl false (c + 3 - 0) 1 (flat be (((due xs).drop 0).take (c + 3 - 0))))] (.tup [.c (tals true (xs.take (min (c / 7) xs.length))), cI 0]) := by
  obtain ⟨h1, h2, h3⟩ := hd.ok
  have hb : B8 ((due xs).take (c + 3)) := fun x hx => due_b8 xs x (List.mem_of_mem_take hx)
  have hl : ((due xs).take (c + 3)).length = c + 3 := by simp only [List.length_take]; omega
  have h : PureC X 41 [.c (.sl false ((due xs).take (c + 3)).length 1 (flat be ((due xs).take (c + 3))))] (.tup [.c (tals true (trR ((due xs).take (c + 3))).1), cI (trR ((due xs).take (c + 3))).2]) := c41 ((due xs).take (c + 3)) (by have := due_len xs; omega) hb
  rw [tr_due h1 h2 (by omega) hc, hl, show (c + 3 - 3) / 7 = c / 7 by rw [Nat.add_sub_cancel]] at h
  simpa using h
theorem c43n (n : Nat) (ds : List Int) (hn : n = ds.length) (hx : ds.length ≤ 2 ^ 40) (hb : B8 ds) : PureC X 43 [.c (.sl false n 1 (flat be ds))] (.tup [.c (tals true (rdR ds).1), cI (rdR ds).2]) := by rw [hn]; exact c43 ds hx hb
theorem c42n (n : Nat) (ds : List Int) (hn : n = ds.length) (hx : ds.length ≤ 2 ^ 40) (hb : B8 ds) : PureC X 42 [.c (.sl false n 1 (flat be ds))] (.tup [.c (tals true (rdR ds).1), cI (rdR ds).2]) := by rw [hn]; exact c42 ds hx hb
theorem set_b8 {ds : List Int} (h : B8 ds) {i : Nat} {w : Int} (hw : 0 ≤ w ∧ w ≤ 255) : B8 (ds.set i w) := fun x hx => by
  rcases List.mem_or_eq_of_mem_set hx with h1 | rfl
  · exact h x h1
  · exact hw
theorem c48 (code : List Int) : PureC X 48 [.c (bys false code)] (cB (decide (4096 < (code.length : Int)))) := by
  refine PureC.of_body (drawD_ok X) (fun _ _ => Go.Proofs.Try.call48 _ _) Go.Proofs.Try.func48 rfl (n := 6) rfl ?_
  refine w_seq ?_
  refine w_reg rfl ?_
  refine v_assign (c := .v (.bool false)) rfl ?_
  refine v_nil ?_
  refine q_n ?_
  refine w_seq ?_
  refine w_reg rfl ?_
  refine v_move rfl ?_
  refine v_len_sl lay47 rfl ?_
  refine v_gtr lay3 rfl rfl (fun h1 => ?_) (fun h1 => ?_)
  · refine v_assign rfl ?_
    refine v_nil ?_
    refine q_n ?_
    refine w_ret ?_
    refine r_r rfl ?_
    exact a_b (by simp_all)
  refine v_assign rfl ?_
  refine v_nil ?_
  refine q_n ?_
  refine w_ret ?_
  refine r_r rfl ?_
  exact a_b (by simp_all)
theorem c51 (code : List Int) (n : Int) (hc : B8 code) (hl : code.length ≤ 2 ^ 40) (hn : n ≤ 2 ^ 40) : PureC X 51 [.c (bys false code), cI n] (cI (dpR code n 0 0)) := by
  refine PureC.of_body (drawD_ok X) (fun _ _ => Go.Proofs.Try.call51 _ _) Go.Proofs.Try.func51 rfl (n := 9) rfl ?_
  refine w_seq ?_
  refine w_reg rfl ?_
  refine v_assign (c := .v (.int .i64 0)) rfl ?_
  refine v_nil ?_
  refine q_n ?_
  refine w_seq ?_
  refine w_reg rfl ?_
  refine v_move rfl ?_
  refine v_inl (n := 6) (drawD_ok X) (fun _ _ => Go.Proofs.Try.call99 _ _) Go.Proofs.Try.func99 rfl rfl rfl rfl ?_
  refine w_seq ?_
  refine w_reg rfl ?_
  refine v_assign (c := .v _) rfl ?_
  refine v_nil ?_
  refine q_n ?_
  refine w_seq ?_
  refine w_reg rfl ?_
  refine v_move rfl ?_
  refine v_build [(0, 1), (1, 1), (2, 1)] [_, .v _, .v _] lay138 rfl rfl ?_
  refine v_box (m := 0) (H' := [_]) lay138 rfl rfl rfl ?_
  refine v_assign rfl ?_
  refine v_nil ?_
  refine q_n ?_
  refine w_ret ?_
  refine r_r rfl ?_
  refine v_move rfl ?_
  refine v_det (H' := [srcO code (dpA n 0) (dpS code n 0 0)]) (c100 code n 0 0 rfl hc (by omega) (by omega) (by omega) (by omega) rfl) rfl rfl ?_
  refine v_assign rfl ?_
  refine v_nil ?_
  refine q_n ?_
  refine w_ret ?_
  refine r_r rfl ?_
  exact tr_v
theorem c50 (xs ys : List Tal) (n : Nat) (hn : n = ys.length) (hx : xs.length ≤ 2 ^ 40) : PureC X 50 [.c (tals false xs), .c (.sl false n 3 (flat te ys))] (cB (decide (xs = ys))) := by
  refine PureC.of_body (drawD_ok X) (fun _ _ => Go.Proofs.Try.call50 _ _) Go.Proofs.Try.func50 rfl (n := 26) rfl ?_
  subst hn
  refine w_seq ?_
  refine w_reg rfl ?_
  refine v_assign (c := .v (.bool false)) rfl ?_
  refine v_nil ?_
  refine q_n ?_
  refine w_seq ?_
  refine w_seq ?_
  refine w_reg rfl ?_
  refine v_move rfl ?_
  refine v_len_sl lay40 rfl ?_
  refine v_move rfl ?_
  refine v_len_sl lay40 rfl ?_
  refine v_neq lay3 rfl rfl (fun h1 => ?_) (fun h1 => ?_)
  · refine v_nil ?_
    refine q_n ?_
    refine w_t rfl ?_
    refine w_seq ?_
    refine w_reg rfl ?_
    refine v_assign (c := .v (.bool false)) rfl ?_
    refine v_nil ?_
    refine q_n ?_
    refine w_ret (q_r ?_)
    refine r_r rfl ?_
    exact a_b (by simp only [Bool.false_eq_true, false_iff]; rintro rfl; exact h1 rfl)
  refine v_nil ?_
  refine q_n ?_
  refine w_f rfl ?_
  refine w_skip ?_
  refine q_n ?_
  refine w_seq ?_
  refine w_seq ?_
  refine w_reg rfl ?_
  refine v_assign (c := .v (.int .i64 0)) rfl ?_
  refine v_nil ?_
  refine q_n ?_
  refine w_block ?_
  refine w_loop (fun k sl H => ∃ i : Nat, k = xs.length - i ∧ i ≤ xs.length ∧ xs.take i = ys.take i ∧ sl = sls [(0, .c (tals false xs)), (1, .c (tals false ys)), (5, cI i)] ∧ H = []) ?_ ?_
  · refine ⟨_, _, _, ?_, 0, rfl, Nat.zero_le _, rfl, rfl, rfl⟩
    exact turn0 ⟨tr_sl, tr_sl, tr_v, trivial⟩
  rintro k sl H ⟨i, rfl, hi, hp, rfl, rfl⟩
  refine w_seq ?_
  refine w_seq ?_
  refine w_reg rfl ?_
  refine v_move rfl ?_
  refine v_move rfl ?_
  refine v_len_sl lay40 rfl ?_
  refine v_lss lay3 rfl rfl (fun h2 => ?_) (fun h2 => ?_)
  rotate_left
  · refine v_nil ?_
    refine q_n ?_
    refine w_f rfl ?_
    refine w_exit ?_
    refine q_e ?_
    refine q_e ?_
    refine q_hit ?_
    refine q_n ?_
    refine w_seq ?_
    refine w_reg rfl ?_
    refine v_assign (c := .v (.bool true)) rfl ?_
    refine v_nil ?_
    refine q_n ?_
    refine w_ret ?_
    refine r_r rfl ?_
    exact a_b (by simp only [true_iff]; exact te_all hp (by omega) (by omega))
  have i1 : i < xs.length := by omega
  have i2 : i < ys.length := by omega
  refine v_nil ?_
  refine q_n ?_
  refine w_t rfl ?_
  refine w_skip ?_
  refine q_n ?_
  refine w_seq ?_
  refine w_block ?_
  refine w_seq ?_
  refine w_draw [0, 0, 3, 7, 0, 0, 48, 112, 255] [⟨0, 0, []⟩, ⟨1, 0, []⟩, ⟨2, 0, []⟩, ⟨3, 0, []⟩, ⟨4, 0, []⟩, ⟨5, 0, []⟩, ⟨6, 0, []⟩, ⟨7, 0, []⟩, ⟨8, 0, []⟩] rfl rfl ?_
  refine d_q rfl rfl rfl rfl rfl ?_
  refine v_move rfl ?_
  refine v_nil ?_
  refine d_q rfl rfl rfl rfl rfl ?_
  refine v_move rfl ?_
  refine v_nil ?_
  refine d_q rfl rfl rfl rfl rfl ?_
  refine v_idx_e (k := 3) (i) te_len lay40 lay27 rfl rfl rfl (rfl) rfl (rfl) (i1) ?_
  refine v_nil ?_
  refine d_q rfl rfl rfl rfl rfl ?_
  refine v_load_vw (.agg [.v _, .v _, .v _]) lay27 rfl rfl rfl ?_
  refine v_nil ?_
  refine d_q rfl rfl rfl rfl rfl ?_
  refine v_move rfl ?_
  refine v_nil ?_
  refine d_q rfl rfl rfl rfl rfl ?_
  refine v_move rfl ?_
  refine v_nil ?_
  refine d_q rfl rfl rfl rfl rfl ?_
  refine v_idx_e (k := 3) (i) te_len lay40 lay27 rfl rfl rfl (rfl) rfl (rfl) (i2) ?_
  refine v_nil ?_
  refine d_q rfl rfl rfl rfl rfl ?_
  refine v_load_vw (.agg [.v _, .v _, .v _]) lay27 rfl rfl rfl ?_
  refine v_nil ?_
  refine d_rawb (rq27 (a := xs[i]) (b := ys[i]) rfl rfl) rfl rfl rfl rfl rfl (fun h5 => ?_) (fun h5 => ?_)
  · have hne := h5
    refine d_nil ?_
    refine q_n ?_
    refine w_t rfl ?_
    refine w_seq ?_
    refine w_reg rfl ?_
    refine v_assign (c := .v (.bool false)) rfl ?_
    refine v_nil ?_
    refine q_n ?_
    refine w_ret (q_br (q_r (q_r (q_br (q_r ?_)))))
    refine r_r rfl ?_
    exact a_b (by simp only [Bool.false_eq_true, false_iff]; exact te_ne i1 i2 hne)
  have hne := h5
  refine d_nil ?_
  refine q_n ?_
  refine w_f rfl ?_
  refine w_skip ?_
  refine q_bn ?_
  refine q_n ?_
  refine w_reg rfl ?_
  refine v_move rfl ?_
  refine v_add lay3 rfl rfl (i64r (by omega)) ?_
  refine v_assign rfl ?_
  refine v_nil ?_
  refine q_n ?_
  refine ⟨_, _, _, ?_, ⟨i + 1, rfl, by omega, te_step hp i1 i2 (Decidable.of_not_not hne), rfl, rfl⟩, by omega⟩
  exact turn0 ⟨tr_sl, tr_sl, tr_v, trivial⟩
theorem c12 (code more : List Int) (hc : B8 code) (hm : B8 more) (hl : code.length ≤ maxLen) (hl2 : more.length ≤ maxLen) : PureC X 12 [.c (bys false code), .c (bys false more)] (cB true) := by
  refine PureC.of_body (drawD_ok X) (fun _ _ => Go.Proofs.Try.call12 _ _) Go.Proofs.Try.func12 rfl (n := 170) rfl ?_
  refine w_seq ?_
  refine w_reg rfl ?_
  refine v_assign (c := .v (.bool false)) rfl ?_
  refine v_nil ?_
  refine q_n ?_
  refine w_seq ?_
  refine w_seq ?_
  refine w_reg rfl ?_
  refine v_move rfl ?_
  refine v_callb (c48 _) rfl rfl (.cons vw_sl .nil) (fun h1 => ?_) (fun h1 => ?_)
  · refine v_move rfl ?_
    refine v_guard_off rfl rfl rfl ?_
    refine v_guard_off rfl rfl rfl ?_
    refine v_pick_t (v := .v (.bool true)) rfl rfl ?_
    refine v_nil ?_
    refine q_n ?_
    refine w_t rfl ?_
    refine w_seq ?_
    refine w_reg rfl ?_
    refine v_assign (c := .v (.bool true)) rfl ?_
    refine v_nil ?_
    refine q_n ?_
    refine w_ret (q_r ?_)
    refine r_r rfl ?_
    exact tr_v
  refine v_move rfl ?_
  refine v_guard_on rfl rfl ?_
  refine v_move rfl ?_
  refine v_guard_on rfl rfl ?_
  refine v_callb (c48 _) rfl rfl (.cons vw_sl .nil) (fun h2 => ?_) (fun h2 => ?_)
  · refine v_pick_f rfl rfl ?_
    refine v_nil ?_
    refine q_n ?_
    refine w_t rfl ?_
    refine w_seq ?_
    refine w_reg rfl ?_
    refine v_assign (c := .v (.bool true)) rfl ?_
    refine v_nil ?_
    refine q_n ?_
    refine w_ret (q_r ?_)
    refine r_r rfl ?_
    exact tr_v
  refine v_pick_f rfl rfl ?_
  refine v_nil ?_
  refine q_n ?_
  refine w_f rfl ?_
  refine w_skip ?_
  refine q_n ?_
  refine w_seq ?_
  refine w_reg rfl ?_
  refine v_move rfl ?_
  refine v_callE (c49 code hc (by unfold maxLen at hl; omega)) (by rintro _ ⟨xs, -, rfl⟩; rfl) rfl rfl (.cons vw_sl .nil) ?_
  rintro _ ⟨xs, hd, rfl⟩
  obtain ⟨k1, k2, k3⟩ := hd.ok
  have hdl := due_len xs
  refine v_assign rfl ?_
  refine v_nil ?_
  refine q_n ?_
  refine w_seq ?_
  refine w_reg rfl ?_
  refine v_move rfl ?_
  refine v_call (c30d xs hd) rfl rfl rfl (.cons vw_sl .nil) ?_
  refine v_move_t rfl ?_
  refine v_extract_c rfl rfl ?_
  refine v_extract_c rfl rfl ?_
  refine v_assign rfl ?_
  refine v_assign rfl ?_
  refine v_nil ?_
  refine q_n ?_
  refine w_seq ?_
  refine w_reg rfl ?_
  refine v_move rfl ?_
  refine v_call (c29d xs hd) rfl rfl rfl (.cons vw_sl .nil) ?_
  refine v_move_t rfl ?_
  refine v_extract_c rfl rfl ?_
  refine v_extract_c rfl rfl ?_
  refine v_assign rfl ?_
  refine v_assign rfl ?_
  refine v_nil ?_
  refine q_n ?_
  refine w_seq ?_
  refine w_seq ?_
  refine w_reg rfl ?_
  refine v_move rfl ?_
  refine v_move rfl ?_
  refine v_neq lay2 rfl rfl (fun h3 => ?_) (fun h3 => ?_)
  · exact absurd (by decide) h3
  refine v_move rfl ?_
  refine v_guard_on rfl rfl ?_
  refine v_move rfl ?_
  refine v_guard_on rfl rfl ?_
  refine v_neq lay2 rfl rfl (fun h4 => ?_) (fun h4 => ?_)
  · exact absurd (by decide) h4
  refine v_pick_f rfl rfl ?_
  refine v_move rfl ?_
  refine v_guard_on rfl rfl ?_
  refine v_move rfl ?_
  refine v_guard_on rfl rfl ?_
  refine v_conv_bs lay47 lay9 lay5 rfl (by_be _) ?_
  refine v_guard_on rfl rfl ?_
  refine v_move rfl ?_
  refine v_guard_on rfl rfl ?_
  refine v_conv_bs lay47 lay9 lay5 rfl (by_be _) ?_
  refine v_guard_on rfl rfl ?_
  refine v_binb lay9 rfl rfl rfl (fun h5 => ?_) (fun h5 => ?_)
  · exact absurd h5 (by simp)
  refine v_pick_f rfl rfl ?_
  refine v_move rfl ?_
  refine v_guard_on rfl rfl ?_
  refine v_move rfl ?_
  refine v_guard_on rfl rfl ?_
  refine v_len_sl lay47 rfl ?_
  refine v_guard_on rfl rfl ?_
  refine v_move rfl ?_
  refine v_guard_on rfl rfl ?_
  refine v_len_sl lay40 rfl ?_
  refine v_guard_on rfl rfl ?_
  refine v_mul lay3 rfl rfl (i64r (by omega)) ?_
  refine v_guard_on rfl rfl ?_
  refine v_add lay3 rfl rfl (i64r (by omega)) ?_
  refine v_guard_on rfl rfl ?_
  refine v_neq lay3 rfl rfl (fun h6 => ?_) (fun h6 => ?_)
  · exact absurd (by omega) h6
  refine v_pick_f rfl rfl ?_
  refine v_nil ?_
  refine q_n ?_
  refine w_f rfl ?_
  refine w_skip ?_
  refine q_n ?_
  refine w_seq ?_
  refine w_reg rfl ?_
  refine v_move rfl ?_
  refine v_call (c43d xs hd) rfl rfl rfl (.cons vw_sl .nil) ?_
  refine v_move_t rfl ?_
  refine v_extract_c rfl rfl ?_
  refine v_extract_c rfl rfl ?_
  refine v_assign rfl ?_
  refine v_assign rfl ?_
  refine v_nil ?_
  refine q_n ?_
  refine w_seq ?_
  refine w_seq ?_
  refine w_reg rfl ?_
  refine v_move rfl ?_
  refine v_neq lay2 rfl rfl (fun h7 => ?_) (fun h7 => ?_)
  · exact absurd (by decide) h7
  refine v_move rfl ?_
  refine v_guard_on rfl rfl ?_
  refine v_move rfl ?_
  refine v_guard_on rfl rfl ?_
  refine v_move rfl ?_
  refine v_guard_on rfl rfl ?_
  refine v_callb (c50 _ _ _ rfl (by omega)) rfl rfl (.cons vw_sl (.cons vw_sl .nil)) (fun h8 => ?_) (fun h8 => ?_)
  rotate_left
  · exact absurd rfl h8
  refine v_guard_on rfl rfl ?_
  refine v_not false rfl rfl ?_
  refine v_pick_f rfl rfl ?_
  refine v_nil ?_
  refine q_n ?_
  refine w_f rfl ?_
  refine w_skip ?_
  refine q_n ?_
  refine w_seq ?_
  refine w_reg rfl ?_
  refine v_move rfl ?_
  refine v_move rfl ?_
  refine v_len_sl lay47 rfl ?_
  refine v_sub lay2 rfl rfl (i64r (by omega)) ?_
  refine v_call (c51 more (((due xs).length : Int) - 2) hm (by omega) (by omega)) rfl rfl rfl (.cons vw_sl (.cons vw_v .nil)) ?_
  have hq1 := dp_rng (code := more) (n := ((due xs).length : Int) - 2) (a := 0) (s := 0) hm
  generalize dpR more (((due xs).length : Int) - 2) 0 0 = q1 at hq1 ⊢
  obtain ⟨c1, rfl⟩ : ∃ c : Nat, q1 = c := Int.eq_ofNat_of_zero_le hq1.1
  have hc1 : c1 + 3 ≤ (due xs).length := by omega
  refine v_add lay2 rfl rfl (i64r (by omega)) ?_
  refine v_assign rfl ?_
  refine v_nil ?_
  refine q_n ?_
  refine w_seq ?_
  refine w_reg rfl ?_
  refine v_move rfl ?_
  refine v_move rfl ?_
  refine v_slice_sl (0) (c1 + 3) be_len lay47 lay5 rfl rfl rfl rfl rfl (rfl) ((by omega)) (by omega) ?_
  refine v_call (c41d xs hd c1 hc1) rfl rfl rfl (.cons vw_sl .nil) ?_
  refine v_move_t rfl ?_
  refine v_extract_c rfl rfl ?_
  refine v_extract_c rfl rfl ?_
  refine v_assign rfl ?_
  refine v_assign rfl ?_
  refine v_nil ?_
  refine q_n ?_
  refine w_seq ?_
  refine w_reg rfl ?_
  refine v_move rfl ?_
  refine v_sub lay2 rfl rfl (i64r (by omega)) ?_
  have hd7 : ((3 : Int) + c1 - 3).tdiv 7 = ((c1 / 7 : Nat) : Int) := by rw [show (3 : Int) + c1 - 3 = c1 by omega]; rfl
  refine v_quo lay2 rfl rfl (by decide) (i64r (by rw [hd7]; omega)) ?_
  rw [hd7]
  refine v_move rfl ?_
  refine v_len_sl lay40 rfl ?_
  refine v_min rfl rfl ?_
  have hmin : (if ((xs.length : Nat) : Int) < ((c1 / 7 : Nat) : Int) then ((xs.length : Nat) : Int) else ((c1 / 7 : Nat) : Int)) = ((min (c1 / 7) xs.length : Nat) : Int) := by split <;> omega
  rw [hmin]
  refine v_assign rfl ?_
  refine v_nil ?_
  refine q_n ?_
  refine w_seq ?_
  refine w_seq ?_
  refine w_reg rfl ?_
  refine v_move rfl ?_
  refine v_neq lay2 rfl rfl (fun h9 => ?_) (fun h9 => ?_)
  · exact absurd (by decide) h9
  refine v_move rfl ?_
  refine v_guard_on rfl rfl ?_
  refine v_move rfl ?_
  refine v_guard_on rfl rfl ?_
  refine v_len_sl lay40 rfl ?_
  refine v_guard_on rfl rfl ?_
  refine v_move rfl ?_
  refine v_guard_on rfl rfl ?_
  refine v_neq lay2 rfl rfl (fun h10 => ?_) (fun h10 => ?_)
  · exact absurd (by simp) h10
  refine v_pick_f rfl rfl ?_
  refine v_move rfl ?_
  refine v_guard_on rfl rfl ?_
  refine v_move rfl ?_
  refine v_guard_on rfl rfl ?_
  refine v_move rfl ?_
  refine v_guard_on rfl rfl ?_
  refine v_move rfl ?_
  refine v_guard_on rfl rfl ?_
  refine v_slice_sl (0) (min (c1 / 7) xs.length) te_len lay40 lay27 rfl rfl rfl rfl rfl (rfl) (rfl) (by omega) ?_
  refine v_guard_on rfl rfl ?_
  refine v_callb (c50 (xs.take (min (c1 / 7) xs.length)) _ _ (by simp) (by simp; omega)) rfl rfl (.cons vw_sl (.cons vw_sl .nil)) (fun h11 => ?_) (fun h11 => ?_)
  rotate_left
  · exact absurd (by simp) h11
  refine v_guard_on rfl rfl ?_
  refine v_not false rfl rfl ?_
  refine v_pick_f rfl rfl ?_
  refine v_nil ?_
  refine q_n ?_
  refine w_f rfl ?_
  refine w_skip ?_
  refine q_n ?_
  refine w_seq ?_
  refine w_reg rfl ?_
  refine v_lit (flat be []) (H' := [_]) lay47 lay5 rfl rfl ⟨by decide, by decide⟩ rfl rfl ?_
  refine v_move rfl ?_
  refine v_app_flat_sl (H' := [_, ⟨flat be (due xs), 5, true⟩]) be_sc be_len lay47 lay5 rfl rfl rfl rfl rfl rfl (by unfold maxLen; simp only []; omega) rfl rfl ?_
  refine v_assign rfl ?_
  refine v_nil ?_
  refine q_n ?_
  refine w_seq ?_
  refine w_reg rfl ?_
  refine v_move rfl ?_
  refine v_move rfl ?_
  refine v_len_mu lay47 rfl ?_
  refine v_call (c51 more (((0 + (due xs).length : Nat) : Int)) hm (by omega) (by omega)) rfl rfl rfl (.cons vw_sl (.cons vw_v .nil)) ?_
  have hq2 := dp_rng (code := more) (n := ((0 + (due xs).length : Nat) : Int)) (a := 0) (s := 0) hm
  generalize dpR more (((0 + (due xs).length : Nat) : Int)) 0 0 = q2 at hq2 ⊢
  obtain ⟨c2, rfl⟩ : ∃ c : Nat, q2 = c := Int.eq_ofNat_of_zero_le hq2.1
  have hc2 : c2 < (due xs).length := by omega
  have hold := due_b8 xs _ (List.getElem_mem hc2)
  have hq3 := dp_rng (code := code) (n := 255) (a := 0) (s := 0) hc
  refine v_assign rfl ?_
  refine v_nil ?_
  refine q_n ?_
  refine w_seq ?_
  refine w_reg rfl ?_
  refine v_move rfl ?_
  refine v_move rfl ?_
  refine v_idx_mu_e (k := 1) (off := 0) (c2) lay47 lay5 rfl rfl rfl (rfl) (by omega) ?_
  refine v_load_flat c2 0 (.c (.v _)) be_len lay5 rfl rfl (by omega) (by first | exact hc2 | exact hc3) rfl rfl ?_
  refine v_assign rfl ?_
  refine v_nil ?_
  refine q_n ?_
  refine w_seq ?_
  refine w_draw [0, 0, 0, 0, 12, 28, 0, 64, 192, 448, 1020, 2047, 4095] [⟨0, 0, []⟩, ⟨1, 0, []⟩, ⟨2, 0, []⟩, ⟨3, 0, []⟩, ⟨4, 0, []⟩, ⟨5, 0, []⟩, ⟨6, 0, []⟩, ⟨7, 0, []⟩, ⟨8, 0, []⟩, ⟨9, 0, []⟩, ⟨10, 0, []⟩, ⟨11, 0, []⟩, ⟨12, 1, []⟩] rfl rfl ?_
  refine d_q rfl rfl rfl rfl rfl ?_
  refine v_move rfl ?_
  refine v_nil ?_
  refine d_q rfl rfl rfl rfl rfl ?_
  refine v_move rfl ?_
  refine v_nil ?_
  refine d_q rfl rfl rfl rfl rfl ?_
  refine v_move rfl ?_
  refine v_nil ?_
  refine d_q rfl rfl rfl rfl rfl ?_
  refine v_move rfl ?_
  refine v_nil ?_
  refine d_q rfl rfl rfl rfl rfl ?_
  refine v_idx_mu_e (k := 1) (off := 0) (c2) lay47 lay5 rfl rfl rfl (rfl) (by omega) ?_
  refine v_nil ?_
  refine d_q rfl rfl rfl rfl rfl ?_
  refine v_load_flat c2 0 (.c (.v _)) be_len lay5 rfl rfl (by omega) (by first | exact hc2 | exact hc3) rfl rfl ?_
  refine v_nil ?_
  refine d_q rfl rfl rfl rfl rfl ?_
  refine v_move rfl ?_
  refine v_nil ?_
  refine d_call (c51 code 255 hc (by unfold maxLen at hl; omega) (by omega)) rfl rfl rfl rfl rfl (.cons vw_sl (.cons vw_v .nil)) ?_
  refine d_q rfl rfl rfl rfl rfl ?_
  refine v_add lay2 rfl rfl (i64r (by omega)) ?_
  refine v_nil ?_
  refine d_q rfl rfl rfl rfl rfl ?_
  refine v_conv_iw lay2 lay5 rfl ?_
  refine v_nil ?_
  refine d_q rfl rfl rfl rfl rfl ?_
  refine v_bin (c := .v (.int .u8 _)) lay5 rfl rfl rfl ?_
  refine v_nil ?_
  refine d_q rfl rfl rfl rfl rfl ?_
  refine v_idx_mu_e (k := 1) (off := 0) (c2) lay47 lay5 rfl rfl rfl (rfl) (by omega) ?_
  refine v_nil ?_
  refine d_e rfl rfl rfl ?_
  have hw : 0 ≤ (bits .xor .u8 (due xs)[c2] (IntKind.u8.wrap (1 + dpR code 255 0 0))) ∧ (bits .xor .u8 (due xs)[c2] (IntKind.u8.wrap (1 + dpR code 255 0 0))) ≤ 255 := w8_in _
  generalize hwe : (bits .xor .u8 (due xs)[c2] (IntKind.u8.wrap (1 + dpR code 255 0 0))) = w at hw ⊢
  have hc3 : c2 < ((due xs).set c2 w).length := by rw [List.length_set]; exact hc2
  have hws : ((due xs).set c2 w)[c2] = w := List.getElem_set_self ..
  refine v_store_flat (H' := [_, _]) c2 0 (w) be_len lay5 rfl rfl rfl (by omega) hc2 rfl rfl (rfl) rfl ?_
  refine v_nil ⟨again_nil, ?_⟩
  refine d_nil ?_
  refine q_n ?_
  refine w_seq ?_
  refine w_reg rfl ?_
  refine v_move rfl ?_
  refine v_call (c43n _ ((due xs).set c2 w) (by simp) (by rw [List.length_set]; omega) (set_b8 (due_b8 xs) hw)) rfl rfl rfl (.cons (vw_mu2 be_sc be_len rfl (by first | (simp; done) | (simp; omega))) .nil) ?_
  refine v_move_t rfl ?_
  refine v_extract_c rfl rfl ?_
  refine v_extract_c rfl rfl ?_
  refine v_assign rfl ?_
  refine v_assign rfl ?_
  refine v_nil ?_
  refine q_n ?_
  refine w_seq ?_
  refine w_reg rfl ?_
  refine v_move rfl ?_
  refine v_call (c42n _ ((due xs).set c2 w) (by simp) (by rw [List.length_set]; omega) (set_b8 (due_b8 xs) hw)) rfl rfl rfl (.cons (vw_mu2 be_sc be_len rfl (by first | (simp; done) | (simp; omega))) .nil) ?_
  refine v_move_t rfl ?_
  refine v_extract_c rfl rfl ?_
  refine v_extract_c rfl rfl ?_
  refine v_assign rfl ?_
  refine v_assign rfl ?_
  refine v_nil ?_
  refine q_n ?_
  refine w_seq ?_
  refine w_seq ?_
  refine w_reg rfl ?_
  refine v_move rfl ?_
  refine v_move rfl ?_
  refine v_neq lay2 rfl rfl (fun h15 => ?_) (fun h15 => ?_)
  · exact absurd rfl h15
  refine v_move rfl ?_
  refine v_guard_on rfl rfl ?_
  refine v_move rfl ?_
  refine v_guard_on rfl rfl ?_
  refine v_move rfl ?_
  refine v_guard_on rfl rfl ?_
  refine v_callb (c50 _ _ _ rfl (by have := rd_len ((due xs).set c2 w); omega)) rfl rfl (.cons vw_sl (.cons vw_sl .nil)) (fun h16 => ?_) (fun h16 => ?_)
  rotate_left
  · exact absurd rfl h16
  refine v_guard_on rfl rfl ?_
  refine v_not false rfl rfl ?_
  refine v_pick_f rfl rfl ?_
  refine v_nil ?_
  refine q_n ?_
  refine w_f rfl ?_
  refine w_skip ?_
  refine q_n ?_
  refine w_seq ?_
  refine w_seq ?_
  refine w_reg rfl ?_
  refine v_move rfl ?_
  refine v_conv_ii lay5 lay2 rfl (i64r (by first | omega | (rw [hws]; omega))) ?_
  refine v_move rfl ?_
  refine v_move rfl ?_
  refine v_idx_mu_e (k := 1) (off := 0) (c2) lay47 lay5 rfl rfl rfl (rfl) (by omega) ?_
  refine v_load_flat c2 0 (.c (.v _)) be_len lay5 rfl rfl (by omega) (by first | exact hc2 | exact hc3) rfl rfl ?_
  refine v_conv_ii lay5 lay2 rfl (i64r (by first | omega | (rw [hws]; omega))) ?_
  refine v_sub lay2 rfl rfl (i64r (by omega)) ?_
  refine v_rem lay2 rfl rfl (by decide) ?_
  refine v_neq lay2 rfl rfl (fun h18 => ?_) (fun h18 => ?_)
  rotate_left
  · refine v_nil ?_
    refine q_n ?_
    refine w_f rfl ?_
    refine w_skip ?_
    refine q_n ?_
    refine w_seq ?_
    refine w_reg rfl ?_
    refine v_assign (c := .v (.bool true)) rfl ?_
    refine v_nil ?_
    refine q_n ?_
    refine w_ret ?_
    refine r_r rfl ?_
    exact tr_v
  have hne := h18
  rw [hws] at hne
  have hrd := rd_bent k1 hc2 hw hne
  refine v_nil ?_
  refine q_n ?_
  refine w_t rfl ?_
  refine w_seq ?_
  refine w_reg rfl ?_
  refine v_move rfl ?_
  refine v_eql lay2 rfl rfl (fun h19 => ?_) (fun h19 => ?_)
  · refine v_move rfl ?_
    refine v_guard_off rfl rfl rfl ?_
    refine v_guard_off rfl rfl rfl ?_
    refine v_pick_t (v := .v (.bool true)) rfl rfl ?_
    refine v_assign rfl ?_
    refine v_nil ?_
    refine q_n ?_
    refine w_ret (q_r ?_)
    refine r_r rfl ?_
    exact tr_v
  refine v_move rfl ?_
  refine v_guard_on rfl rfl ?_
  refine v_move rfl ?_
  refine v_guard_on rfl rfl ?_
  refine v_eql lay2 rfl rfl (fun h20 => ?_) (fun h20 => ?_)
  rotate_left
  · exfalso; omega
  refine v_pick_f rfl rfl ?_
  refine v_assign rfl ?_
  refine v_nil ?_
  refine q_n ?_
  refine w_ret (q_r ?_)
  refine r_r rfl ?_
  exact tr_v
end Go.VL
namespace Go.Proofs.Ytenaamehifbfeaa
namespace B0
open Go.RowKit Go.WideShapes Go.ChangeShapes Go.ChangeAt
section
variable {H : Type} {enc : TypeId × Value → H} {P : Program}

theorem post_of_below {f : Func} {s : ChangeSpec} {apart fresh handsOn again : Bool} {W W' : World} {args : Array Value} {v : Value} {ds gs : List (DataW H)} {before pa pv : List MemPlace}
    (hW : DataW.Whole enc P f.params.toList s.vars apart W args.toList ds gs before)
    (hres : ∀ (b : Nat) (sp : Nat → Bool) (hd : Bool), DataW.TrodAll enc P W' b sp hd f.resultTypes.toList (v.resultList f.resultTypes.size) (s.fn H (ds ++ gs)).results [])
    (hargs : ∀ sp : Nat → Bool, (∀ p ∈ before, sp p.block = true) → DataW.TrodAll enc P W' 0 sp true f.params.toList args.toList (s.fn H (ds ++ gs)).args pa)
    (hvars : ∀ sp : Nat → Bool, (∀ p ∈ before, sp p.block = true) → DataW.TrodVars enc P W' sp s.vars (s.fn H (ds ++ gs)).vars pv)
    (hps : before = pa ++ pv) (hb : Below W.heap.size W W')
    (hok : ∀ (j : Nat) (t : TypeId) (r : Value), f.resultTypes[j]? = some t → (v.resultList f.resultTypes.size)[j]? = some r → Value.okWide P W' .any 0 t r) :
    s.post enc P f apart fresh handsOn again W args v W' := by
  have hlt : ∀ p ∈ before, p.block < W.heap.size := fun p hp => hW.lt p hp
  have hold : ∀ p ∈ before, (fun b => decide (b < W.heap.size)) p.block = true := fun p hp => by simpa using hlt p hp
  refine ⟨ds, gs, before, [], pa, pv, hW, hres _ _ _, hargs _ hold, hvars _ hold, World.keptBut_mono (fun p hp => ⟨hp, ?_⟩) (hb.frame (· ∈ before)), fun _ => ?_⟩
  · rw [hps, List.mem_append] at hp
    exact Or.inr hp
  · obtain ⟨_, _, _, _, _, hz, hn⟩ := hW
    refine ⟨hok, _, _, ([] ++ pa) ++ pv, ⟨[] ++ pa, pv, trodAll_append (hargs _ (fun _ _ => rfl)) (hres _ _ _), hvars _ (fun _ _ => rfl), rfl, ?_, ?_⟩, ?_⟩
    · intro b off hp
      have hin : MemPlace.cell b off ∈ before := by rw [hps]; simpa using hp
      rw [hb.frozen (hlt _ hin)]
      exact hz b off hin
    · intro ha
      have := hn ha
      rw [hps] at this
      simpa using this
    · intro p hp _
      rw [hps]
      simpa using hp

theorem trodAll_stays (hl : laidOutB P = true) {W W' : World} {sp' : Nat → Bool} : ∀ {ts : List TypeId} {vs : List Value} {ds : List (DataW H)} {ps : List MemPlace},
    (∀ t ∈ ts, P.readableRec t = true ∧ t < P.types.size) → DataW.TrodAll enc P W 0 (fun _ => true) true ts vs ds ps → (∀ p ∈ ps, W.sameAt W' p) → (∀ p ∈ ps, sp' p.block = true) →
    DataW.TrodAll enc P W' 0 sp' true ts vs ds ps
  | [], vs, ds, ps, _, h, _, _ => by
    obtain ⟨rfl, rfl, rfl⟩ := trodAll_nil h
    exact rfl
  | t :: ts, vs, ds, ps, ht, h, hsame, hsp => by
    obtain ⟨v, vs', d, ds', p, q, rfl, rfl, rfl, h0, h1⟩ := trodAll_cons h
    exact ⟨p, q, Go.WideElems.Trod_stays hl (ht t (by simp)).1 (ht t (by simp)).2 h0 (fun x hx => hsame x (by simp [hx])) (fun x hx => hsp x (by simp [hx])),
      trodAll_stays hl (fun u hu => ht u (by simp [hu])) h1 (fun x hx => hsame x (by simp [hx])) (fun x hx => hsp x (by simp [hx])), rfl⟩

/-- A law: whatever the arguments, the call returns true and turns nothing that was there. -/
theorem lift {C : Checked} {os : Os} {f : FuncId} {fn : Func} {s : ChangeSpec} {conds : List PathCond} {tb : TypeId}
    (own : ownKnob C.prog.godebug = none) (started : os.Started) (noInit : C.prog.inits.idxOf? f = none) (hfn : C.prog.funcs[f]? = some fn)
    (witness : ∃ (w : World) (tape : Tape) (i : Input), w.os = os ∧ (w.forCall tape i).Shaped C.prog ∧ i.vars = [] ∧ Input.okWide C.prog (w.forCall tape i) .any w.heap.size f i ∧
      s.pre6 enc C.prog fn conds false (w.forCall tape i).memory i.args ∧ ({} : Assume).holds C.prog (lone (Frame.enter C.prog f i.args .normal) [] (w.forCall tape i)))
    (hl : laidOutB C.prog = true) (hp : (fn.params.toList.all fun t => C.prog.readableRec t && decide (t < C.prog.types.size)) = true)
    (hv : s.vars = []) (hr : fn.resultTypes = #[tb]) (htb : C.prog.underlying tb = some .bool)
    (hs : ∀ ds : List (DataW H), ds.length = fn.params.toList.length → s.fn H ds = { results := [.lit (.bool true)], args := ds })
    (contract : ∀ (W : World) (base : Nat) (args : Array Value) (ds : List (DataW H)) (p : List MemPlace),
      (∀ (j : Nat) t v, fn.params[j]? = some t → args[j]? = some v → Value.okWide C.prog W .any base t v) →
      DataW.TrodAll enc C.prog W 0 (fun _ => true) true fn.params.toList args.toList ds p →
      Calls C.prog f args W fun e W' => e = .returned (.bool true) ∧ Below W.heap.size W W') :
    ReturnsInHanded {} C os f .any (s.pre6 enc C.prog fn conds false) (s.post enc C.prog fn false true false false) := by
  refine returnsInHanded_of_change own started noInit hfn witness ?_
  intro W base args ds gs before hval hW _ _
  have hW' := hW
  obtain ⟨p, q, hA, hV, rfl, hfz, hnd⟩ := hW
  rw [hv] at hV
  obtain ⟨rfl, rfl⟩ := trodVars_none hV
  have hlen : ∀ {ts : List TypeId} {vs : List Value} {ds : List (DataW H)} {ps : List MemPlace}, DataW.TrodAll enc C.prog W 0 (fun _ => true) true ts vs ds ps → ds.length = ts.length := by
    intro ts
    induction ts with
    | nil => intro vs ds ps h; obtain ⟨rfl, rfl, rfl⟩ := trodAll_nil h; rfl
    | cons t ts ih => intro vs ds ps h; obtain ⟨v, vs', d, ds', p, q, rfl, rfl, rfl, h0, h1⟩ := trodAll_cons h; simp [ih h1]
  have hsd : s.fn H (ds ++ []) = { results := [.lit (.bool true)], args := ds } := by rw [List.append_nil]; exact hs ds (hlen hA)
  have hp' : ∀ t ∈ fn.params.toList, C.prog.readableRec t = true ∧ t < C.prog.types.size := fun t ht => by simpa using List.all_eq_true.1 hp t ht
  refine (contract W base args ds p hval hA).mono fun e W' ⟨he, hb⟩ => ?_
  refine ⟨.bool true, he, post_of_below (pa := p) (pv := []) hW' ?_ ?_ ?_ rfl hb ?_⟩
  · intro b sp hd
    rw [hsd, hr]
    exact trodAll_mk1 ⟨1, by simp [DataW.trod, Value.cells, htb]⟩
  · intro sp hsp
    rw [hsd]
    exact trodAll_stays hl hp' hA (fun x hx => hb.same (hW'.lt x (by simp [hx]))) (fun x hx => hsp x (by simp [hx]))
  · intro sp hsp
    rw [hsd, hv]
    exact rfl
  · exact ok_one hr rfl (okWide_bool_mk htb true)
end
end B0
end Go.Proofs.Ytenaamehifbfeaa
