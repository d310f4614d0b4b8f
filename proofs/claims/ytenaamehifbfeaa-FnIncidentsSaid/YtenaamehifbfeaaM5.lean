/- Texts of one proof, put together: P2, P3, P1, P4, P5, P5b, C3, P6, P7. -/
import Derived.Test.YtenaamehifbfeaaM4
import Derived.Test.YtenaamehifbfeaaM3
namespace Go.VL
open Go.RowKit
set_option maxRecDepth 20000
set_option maxHeartbeats 8000000
theorem i16r {a : Int} (h : -32768 ≤ a ∧ a ≤ 32767) : IntKind.i16.min ≤ a ∧ a ≤ IntKind.i16.max := h
abbrev srcO (code : List Int) (a s : Int) : Ob := srcT 138 code a s
theorem c123 {H : List Ob} {id : Nat} (code : List Int) (a : Nat) (s : Int) (hlt : id < H.length) (hc : B8 code) (_ : code.length ≤ 2 ^ 40) (ha : (a : Int) ≤ 2 ^ 40) : DetC X 123 [.c (.pt id 0)] (H.set id (srcO code a s)) (cI (nxR code a s)) (H.set id (srcO code ((a : Int) + 1) (nxS code a s))) := by
  refine DetC.of_body (drawD_ok X) (fun _ _ => Go.Proofs.Try.call123 _ _) Go.Proofs.Try.func123 rfl (n := 62) rfl ?_
  refine w_seq ?_
  refine w_reg rfl ?_
  refine v_assign (c := .v (.int .i64 0)) rfl ?_
  refine v_nil ?_
  refine q_n ?_
  refine w_seq ?_
  refine w_reg rfl ?_
  refine v_assign (c := .v (.int .i64 0)) rfl ?_
  refine v_nil ?_
  refine q_n ?_
  refine w_seq ?_
  refine w_seq ?_
  refine w_draw [0, 1, 3, 7, 0, 16, 48, 112, 240, 511] [⟨0, 0, []⟩, ⟨1, 0, []⟩, ⟨2, 0, []⟩, ⟨3, 0, []⟩, ⟨4, 0, []⟩, ⟨5, 0, []⟩, ⟨6, 0, []⟩, ⟨7, 0, []⟩, ⟨8, 0, []⟩, ⟨9, 0, []⟩] rfl rfl ?_
  refine d_q rfl rfl rfl rfl rfl ?_
  refine v_move rfl ?_
  refine v_nil ?_
  refine d_q rfl rfl rfl rfl rfl ?_
  refine v_nil_pt rfl ?_
  refine v_nil ?_
  refine d_q rfl rfl rfl rfl rfl ?_
  refine v_fa_pt (off' := 1) lay138 rfl rfl rfl ?_
  refine v_nil ?_
  refine d_q rfl rfl rfl rfl rfl ?_
  refine v_load_pt (.c _) lay3 rfl (List.getElem?_set_self hlt) rfl rfl ?_
  refine v_nil ?_
  refine d_q rfl rfl rfl rfl rfl ?_
  refine v_move rfl ?_
  refine v_nil ?_
  refine d_q rfl rfl rfl rfl rfl ?_
  refine v_nil_pt rfl ?_
  refine v_nil ?_
  refine d_q rfl rfl rfl rfl rfl ?_
  refine v_fa_pt (off' := 0) lay138 rfl rfl rfl ?_
  refine v_nil ?_
  refine d_q rfl rfl rfl rfl rfl ?_
  refine v_load_pt (.c _) lay47 rfl (List.getElem?_set_self hlt) rfl rfl ?_
  refine v_nil ?_
  refine d_q rfl rfl rfl rfl rfl ?_
  refine v_len_sl lay47 rfl ?_
  refine v_nil ?_
  refine d_q rfl rfl rfl rfl rfl ?_
  refine v_lss lay3 rfl rfl (fun h1 => ?_) (fun h1 => ?_)
  rotate_left
  · have ha1 : ¬ a < code.length := by omega
    have hb := and_le (x := (sd s 0).fdiv (2 ^ min (40 : Int).toNat IntKind.u64.bits)) (k := 8) (y := 255) (by decide) (by decide)
    unfold sd at hb
    refine v_nil ?_
    refine d_nil ?_
    refine q_n ?_
    refine w_f rfl ?_
    refine w_skip ?_
    refine q_n ?_
    refine w_seq ?_
    refine w_reg rfl ?_
    refine v_move rfl ?_
    refine v_nil_pt rfl ?_
    refine v_fa_pt (off' := 1) lay138 rfl rfl rfl ?_
    refine v_load_pt (.c _) lay3 rfl (List.getElem?_set_self hlt) rfl rfl ?_
    refine v_add lay3 rfl rfl (i64r (by omega)) ?_
    refine v_nil_pt rfl ?_
    refine v_fa_pt (off' := 1) lay138 rfl rfl rfl ?_
    refine v_store (H' := H.set id ⟨[_, _, _], 138, true⟩) lay3 rfl rfl (List.getElem?_set_self hlt) rfl rfl (List.set_set ..) ?_
    refine v_nil ?_
    refine q_n ?_
    refine w_seq ?_
    refine w_reg rfl ?_
    refine v_move rfl ?_
    refine v_move rfl ?_
    refine v_nil_pt rfl ?_
    refine v_fa_pt (off' := 2) lay138 rfl rfl rfl ?_
    refine v_load_pt (.c _) lay136 rfl (List.getElem?_set_self hlt) rfl rfl ?_
    refine v_bin (c := .v (.int .u64 _)) lay136 rfl rfl rfl ?_
    refine v_move rfl ?_
    refine v_conv_ii lay3 lay136 rfl (u64r (by omega)) ?_
    refine v_bin (c := .v (.int .u64 _)) lay136 rfl rfl rfl ?_
    refine v_bin (c := .v (.int .u64 _)) lay136 rfl rfl rfl ?_
    refine v_nil_pt rfl ?_
    refine v_fa_pt (off' := 2) lay138 rfl rfl rfl ?_
    refine v_store (H' := H.set id ⟨[_, _, _], 138, true⟩) lay136 rfl rfl (List.getElem?_set_self hlt) rfl rfl (List.set_set ..) ?_
    refine v_nil ?_
    refine q_n ?_
    refine w_seq ?_
    refine w_seq ?_
    refine w_draw [0, 1, 3, 7, 0, 16, 48, 112, 240, 511] [⟨0, 0, []⟩, ⟨1, 0, []⟩, ⟨2, 0, []⟩, ⟨3, 0, []⟩, ⟨4, 0, []⟩, ⟨5, 0, []⟩, ⟨6, 0, []⟩, ⟨7, 0, []⟩, ⟨8, 0, []⟩, ⟨9, 0, []⟩] rfl rfl ?_
    refine d_q rfl rfl rfl rfl rfl ?_
    refine v_move rfl ?_
    refine v_nil ?_
    refine d_q rfl rfl rfl rfl rfl ?_
    refine v_nil_pt rfl ?_
    refine v_nil ?_
    refine d_q rfl rfl rfl rfl rfl ?_
    refine v_fa_pt (off' := 1) lay138 rfl rfl rfl ?_
    refine v_nil ?_
    refine d_q rfl rfl rfl rfl rfl ?_
    refine v_load_pt (.c _) lay3 rfl (List.getElem?_set_self hlt) rfl rfl ?_
    refine v_nil ?_
    refine d_q rfl rfl rfl rfl rfl ?_
    refine v_move rfl ?_
    refine v_nil ?_
    refine d_q rfl rfl rfl rfl rfl ?_
    refine v_nil_pt rfl ?_
    refine v_nil ?_
    refine d_q rfl rfl rfl rfl rfl ?_
    refine v_fa_pt (off' := 0) lay138 rfl rfl rfl ?_
    refine v_nil ?_
    refine d_q rfl rfl rfl rfl rfl ?_
    refine v_load_pt (.c _) lay47 rfl (List.getElem?_set_self hlt) rfl rfl ?_
    refine v_nil ?_
    refine d_q rfl rfl rfl rfl rfl ?_
    refine v_len_sl lay47 rfl ?_
    refine v_nil ?_
    refine d_q rfl rfl rfl rfl rfl ?_
    refine v_leq lay3 rfl rfl (fun h4 => ?_) (fun h4 => ?_)
    · exact absurd h4 (by omega)
    refine v_nil ?_
    refine d_nil ?_
    refine q_n ?_
    refine w_f rfl ?_
    refine w_skip ?_
    refine q_n ?_
    refine w_seq ?_
    refine w_reg rfl ?_
    refine v_move rfl ?_
    refine v_nil_pt rfl ?_
    refine v_fa_pt (off' := 2) lay138 rfl rfl rfl ?_
    refine v_load_pt (.c _) lay136 rfl (List.getElem?_set_self hlt) rfl rfl ?_
    refine v_shr lay136 rfl rfl rfl (by decide) ?_
    refine v_and lay136 rfl rfl rfl ?_
    refine v_conv_ii lay136 lay2 rfl (i64r (by omega)) ?_
    refine v_assign rfl ?_
    refine v_nil ?_
    refine q_n ?_
    refine w_ret ?_
    refine r_r rfl ?_
    exact ⟨congrArg (fun z => (cI z : V)) (nxR_out ha1), congrArg (fun z => H.set id (srcO code ((a : Int) + 1) z)) (nxS_out ha1)⟩
  have ha1 : a < code.length := by omega
  have hb := hc _ (List.getElem_mem ha1)
  refine v_nil ?_
  refine d_nil ?_
  refine q_n ?_
  refine w_t rfl ?_
  refine w_draw [0, 1, 3, 7, 0, 16, 48, 112, 255, 511, 1023, 2047] [⟨0, 0, []⟩, ⟨1, 0, []⟩, ⟨2, 0, []⟩, ⟨3, 0, []⟩, ⟨4, 0, []⟩, ⟨5, 0, []⟩, ⟨6, 0, []⟩, ⟨7, 0, []⟩, ⟨8, 0, []⟩, ⟨9, 0, []⟩, ⟨10, 0, []⟩, ⟨11, 0, []⟩] rfl rfl ?_
  refine d_q rfl rfl rfl rfl rfl ?_
  refine v_move rfl ?_
  refine v_nil ?_
  refine d_q rfl rfl rfl rfl rfl ?_
  refine v_nil_pt rfl ?_
  refine v_nil ?_
  refine d_q rfl rfl rfl rfl rfl ?_
  refine v_fa_pt (off' := 0) lay138 rfl rfl rfl ?_
  refine v_nil ?_
  refine d_q rfl rfl rfl rfl rfl ?_
  refine v_load_pt (.c _) lay47 rfl (List.getElem?_set_self hlt) rfl rfl ?_
  refine v_nil ?_
  refine d_q rfl rfl rfl rfl rfl ?_
  refine v_move rfl ?_
  refine v_nil ?_
  refine d_q rfl rfl rfl rfl rfl ?_
  refine v_nil_pt rfl ?_
  refine v_nil ?_
  refine d_q rfl rfl rfl rfl rfl ?_
  refine v_fa_pt (off' := 1) lay138 rfl rfl rfl ?_
  refine v_nil ?_
  refine d_q rfl rfl rfl rfl rfl ?_
  refine v_load_pt (.c _) lay3 rfl (List.getElem?_set_self hlt) rfl rfl ?_
  refine v_nil ?_
  refine d_q rfl rfl rfl rfl rfl ?_
  refine v_idx_e (k := 1) (a) be_len lay47 lay5 rfl rfl rfl (rfl) rfl (rfl) (by omega) ?_
  refine v_nil ?_
  refine d_q rfl rfl rfl rfl rfl ?_
  refine v_load_vw (.c (.v _)) lay5 rfl rfl rfl ?_
  refine v_nil ?_
  refine d_q rfl rfl rfl rfl rfl ?_
  refine v_conv_ii lay5 lay3 rfl (i64r (by omega)) ?_
  refine v_nil ?_
  refine d_q rfl rfl rfl rfl rfl ?_
  refine v_assign rfl ?_
  refine v_nil ?_
  refine d_nil ?_
  refine q_n ?_
  refine w_seq ?_
  refine w_reg rfl ?_
  refine v_move rfl ?_
  refine v_nil_pt rfl ?_
  refine v_fa_pt (off' := 1) lay138 rfl rfl rfl ?_
  refine v_load_pt (.c _) lay3 rfl (List.getElem?_set_self hlt) rfl rfl ?_
  refine v_add lay3 rfl rfl (i64r (by omega)) ?_
  refine v_nil_pt rfl ?_
  refine v_fa_pt (off' := 1) lay138 rfl rfl rfl ?_
  refine v_store (H' := H.set id ⟨[_, _, _], 138, true⟩) lay3 rfl rfl (List.getElem?_set_self hlt) rfl rfl (List.set_set ..) ?_
  refine v_nil ?_
  refine q_n ?_
  refine w_seq ?_
  refine w_reg rfl ?_
  refine v_move rfl ?_
  refine v_move rfl ?_
  refine v_nil_pt rfl ?_
  refine v_fa_pt (off' := 2) lay138 rfl rfl rfl ?_
  refine v_load_pt (.c _) lay136 rfl (List.getElem?_set_self hlt) rfl rfl ?_
  refine v_bin (c := .v (.int .u64 _)) lay136 rfl rfl rfl ?_
  refine v_move rfl ?_
  refine v_conv_ii lay3 lay136 rfl (u64r (by omega)) ?_
  refine v_bin (c := .v (.int .u64 _)) lay136 rfl rfl rfl ?_
  refine v_bin (c := .v (.int .u64 _)) lay136 rfl rfl rfl ?_
  refine v_nil_pt rfl ?_
  refine v_fa_pt (off' := 2) lay138 rfl rfl rfl ?_
  refine v_store (H' := H.set id ⟨[_, _, _], 138, true⟩) lay136 rfl rfl (List.getElem?_set_self hlt) rfl rfl (List.set_set ..) ?_
  refine v_nil ?_
  refine q_n ?_
  refine w_seq ?_
  refine w_seq ?_
  refine w_draw [0, 1, 3, 7, 0, 16, 48, 112, 240, 511] [⟨0, 0, []⟩, ⟨1, 0, []⟩, ⟨2, 0, []⟩, ⟨3, 0, []⟩, ⟨4, 0, []⟩, ⟨5, 0, []⟩, ⟨6, 0, []⟩, ⟨7, 0, []⟩, ⟨8, 0, []⟩, ⟨9, 0, []⟩] rfl rfl ?_
  refine d_q rfl rfl rfl rfl rfl ?_
  refine v_move rfl ?_
  refine v_nil ?_
  refine d_q rfl rfl rfl rfl rfl ?_
  refine v_nil_pt rfl ?_
  refine v_nil ?_
  refine d_q rfl rfl rfl rfl rfl ?_
  refine v_fa_pt (off' := 1) lay138 rfl rfl rfl ?_
  refine v_nil ?_
  refine d_q rfl rfl rfl rfl rfl ?_
  refine v_load_pt (.c _) lay3 rfl (List.getElem?_set_self hlt) rfl rfl ?_
  refine v_nil ?_
  refine d_q rfl rfl rfl rfl rfl ?_
  refine v_move rfl ?_
  refine v_nil ?_
  refine d_q rfl rfl rfl rfl rfl ?_
  refine v_nil_pt rfl ?_
  refine v_nil ?_
  refine d_q rfl rfl rfl rfl rfl ?_
  refine v_fa_pt (off' := 0) lay138 rfl rfl rfl ?_
  refine v_nil ?_
  refine d_q rfl rfl rfl rfl rfl ?_
  refine v_load_pt (.c _) lay47 rfl (List.getElem?_set_self hlt) rfl rfl ?_
  refine v_nil ?_
  refine d_q rfl rfl rfl rfl rfl ?_
  refine v_len_sl lay47 rfl ?_
  refine v_nil ?_
  refine d_q rfl rfl rfl rfl rfl ?_
  refine v_leq lay3 rfl rfl (fun h3 => ?_) (fun h3 => ?_)
  rotate_left
  · exact absurd h3 (by omega)
  refine v_nil ?_
  refine d_nil ?_
  refine q_n ?_
  refine w_t rfl ?_
  refine w_seq ?_
  refine w_reg rfl ?_
  refine v_move rfl ?_
  refine v_assign rfl ?_
  refine v_nil ?_
  refine q_n ?_
  refine w_ret (q_r ?_)
  refine r_r rfl ?_
  exact ⟨congrArg (fun z => (cI z : V)) (nxR_in ha1), congrArg (fun z => H.set id (srcO code ((a : Int) + 1) z)) (nxS_in ha1)⟩
theorem c123' {H : List Ob} {id : Nat} (code : List Int) (a s : Int) (hlt : id < H.length) (hc : B8 code) (hl : code.length ≤ 2 ^ 40) (h0 : 0 ≤ a) (ha : a ≤ 2 ^ 40) : DetC X 123 [.c (.pt id 0)] (H.set id (srcO code a s)) (cI (nxR code a s)) (H.set id (srcO code (a + 1) (nxS code a s))) := by
  obtain ⟨q, rfl⟩ := Int.eq_ofNat_of_zero_le h0
  exact c123 code q s hlt hc hl ha
theorem c100a {H : List Ob} {id : Nat} (code : List Int) (n a s : Int) (hlt : id < H.length) (hc : B8 code) (hl : code.length ≤ 2 ^ 40) (h0 : 0 ≤ a) (ha : a ≤ 2 ^ 30) (hn : n ≤ 2 ^ 40) : DetC X 100 [.c (.pt id 0), cI n] (H.set id (srcO code a s)) (cI (dpR code n a s)) (H.set id (srcO code (dpA n a) (dpS code n a s))) := by
  refine DetC.of_body (drawD_ok X) (fun _ _ => Go.Proofs.Try.call100 _ _) Go.Proofs.Try.func100 rfl (n := 20) rfl ?_
  have hx1 := nxR_rng (code := code) (a := a) (s := s) hc
  have hx2 := nxR_rng (code := code) (a := a + 1) (s := nxS code a s) hc
  refine w_seq ?_
  refine w_reg rfl ?_
  refine v_assign (c := .v (.int .i64 0)) rfl ?_
  refine v_nil ?_
  refine q_n ?_
  refine w_seq ?_
  refine w_seq ?_
  refine w_reg rfl ?_
  refine v_move rfl ?_
  refine v_leq lay2 rfl rfl (fun h1 => ?_) (fun h1 => ?_)
  · refine v_nil ?_
    refine q_n ?_
    refine w_t rfl ?_
    refine w_seq ?_
    refine w_reg rfl ?_
    refine v_assign (c := .v (.int .i64 0)) rfl ?_
    refine v_nil ?_
    refine q_n ?_
    refine w_ret (q_r ?_)
    refine r_r rfl ?_
    obtain ⟨e1, e2⟩ := dp_if1 (t := 138) (code := code) (a := a) (s := s) h1
    exact ⟨congrArg (fun z => (cI z : V)) e1, congrArg (fun z => H.set id z) e2⟩
  refine v_nil ?_
  refine q_n ?_
  refine w_f rfl ?_
  refine w_skip ?_
  refine q_n ?_
  refine w_seq ?_
  refine w_reg rfl ?_
  refine v_move rfl ?_
  refine v_det (H' := H.set id (srcO code (a + 1) (nxS code a s))) (c123' code a s hlt hc hl h0 (by omega)) rfl rfl ?_
  refine v_assign rfl ?_
  refine v_nil ?_
  refine q_n ?_
  refine w_seq ?_
  refine w_seq ?_
  refine w_reg rfl ?_
  refine v_move rfl ?_
  refine v_gtr lay2 rfl rfl (fun h2 => ?_) (fun h2 => ?_)
  rotate_left
  · refine v_nil ?_
    refine q_n ?_
    refine w_f rfl ?_
    refine w_skip ?_
    refine q_n ?_
    refine w_seq ?_
    refine w_reg rfl ?_
    refine v_move rfl ?_
    refine v_move rfl ?_
    refine v_rem lay2 rfl rfl (by omega) ?_
    refine v_assign rfl ?_
    refine v_nil ?_
    refine q_n ?_
    refine w_ret ?_
    refine r_r rfl ?_
    obtain ⟨e1, e2⟩ := dp_if2 (t := 138) (code := code) (a := a) (s := s) h1 (by omega)
    exact ⟨congrArg (fun z => (cI z : V)) e1, congrArg (fun z => H.set id z) e2⟩
  refine v_nil ?_
  refine q_n ?_
  refine w_t rfl ?_
  refine w_reg rfl ?_
  refine v_move rfl ?_
  refine v_mul lay2 rfl rfl (i64r (by omega)) ?_
  refine v_move rfl ?_
  refine v_det (H' := H.set id (srcO code (a + 1 + 1) (nxS code (a + 1) (nxS code a s)))) (c123' code (a + 1) (nxS code a s) hlt hc hl (by omega) (by omega)) rfl rfl ?_
  refine v_add lay2 rfl rfl (i64r (by omega)) ?_
  refine v_assign rfl ?_
  refine v_nil ?_
  refine q_n ?_
  refine w_seq ?_
  refine w_reg rfl ?_
  refine v_move rfl ?_
  refine v_move rfl ?_
  refine v_rem lay2 rfl rfl (by omega) ?_
  refine v_assign rfl ?_
  refine v_nil ?_
  refine q_n ?_
  refine w_ret ?_
  refine r_r rfl ?_
  obtain ⟨e1, e2⟩ := dp_if3 (t := 138) (code := code) (a := a) (s := s) h1 (by omega)
  exact ⟨congrArg (fun z => (cI z : V)) e1, congrArg (fun z => H.set id z) e2⟩
/-- A number, picked. -/
theorem c100 {H H' : List Ob} {id : Nat} (code : List Int) (n a s : Int) (ho : H[id]? = some (srcO code a s)) (hc : B8 code) (hl : code.length ≤ 2 ^ 40) (h0 : 0 ≤ a) (ha : a ≤ 2 ^ 30) (hn : n ≤ 2 ^ 40) (hH : H.set id (srcO code (dpA n a) (dpS code n a s)) = H') : DetC X 100 [.c (.pt id 0), cI n] H (cI (dpR code n a s)) H' := by
  subst hH
  have h := c100a (H := H) (id := id) code n a s (List.getElem?_eq_some_iff.1 ho).1 hc hl h0 ha hn
  rw [set_same ho] at h
  exact h
section
variable {all r : List Oper} {K : Sl → List Ob → Prop} {sl : Sl} {H : List Ob} {d : Tmp} {ty : TypeId} {ps : String} {af : Array Edge}
theorem v_pick {f : Operand} {args : Array Operand} {tys : Array TypeId} {id : Nat} {code : List Int} {n a s : Int} (H1 : Int → Int → List Ob) (ho : H[id]? = some (srcO code a s)) (hc : B8 code) (hl : code.length ≤ 2 ^ 40) (h0 : 0 ≤ a ∧ a ≤ 2 ^ 30) (hn : n ≤ 2 ^ 40) (hf : rho X.G sl f = .c (.fn 100 [])) (has : args.toList.map (rho X.G sl) = [.c (.pt id 0), cI n]) (hH : ∀ a' s', H.set id (srcO code a' s') = H1 a' s')
    (h : ∀ q a' s', 0 ≤ q ∧ (1 < n → q < n) ∧ (n ≤ 1 → q = 0) → a ≤ a' ∧ a' ≤ a + 2 → vops X all r K (upd sl d (cI q)) (H1 a' s')) : vops X all (⟨some d, .call ⟨.value f, args, tys⟩, ty, ps, af, none⟩ :: r) K sl H := by
  have hp := dp_rng (code := code) (n := n) (a := a) (s := s) hc
  exact v_det (c100 code n a s ho hc hl h0.1 h0.2 hn (hH _ _)) hf has (h _ _ _ ⟨hp.1, hp.2.1, hp.2.2.1⟩ hp.2.2.2)
end
end Go.VL
namespace Go.VL
open Go.RowKit
set_option maxRecDepth 20000
set_option maxHeartbeats 8000000
/-- A list, drawn so far: the next turn is tu. -/
structure drL (xs : List Tal) (tu : Int) : Prop where
  ok : okL xs
  lt : ∀ x ∈ xs, x.1 < tu
  mem : ∀ {x : Tal}, x ∈ xs → (0 ≤ x.2.1 ∧ x.2.1 ≤ 29) ∧ 0 ≤ x.2.2 ∧ x.2.2 ≤ 1000
  tu : 0 ≤ tu ∧ tu ≤ 5 + 4 * xs.length
def drW (xs : List Tal) : Prop := ∃ tu, drL xs tu ∧ xs.length ≤ 8
theorem drL_nil {tu : Int} (h : 0 ≤ tu ∧ tu ≤ 5) : drL [] tu := ⟨⟨by simp, fun i hi => by simp at hi⟩, (fun x hx => by cases hx), (fun hx => by cases hx), by simpa using h⟩
theorem okL_snoc {xs : List Tal} {x : Tal} (h : okL xs) (hl : xs.length < 96) (h1 : 0 ≤ x.1 ∧ x.1 ≤ 65535) (h2 : 0 ≤ x.2.1) (h3 : 0 ≤ x.2.2 ∧ x.2.2 ≤ 1000) (h4 : ∀ y ∈ xs, y.1 < x.1) : okL (xs ++ [x]) := by
  refine ⟨by simp; omega, fun i hi => ?_⟩
  by_cases e : i < xs.length
  · obtain ⟨g1, g2, g3, g5, g6⟩ := h.2 i e
    have e0 : (xs ++ [x])[i] = xs[i] := List.getElem_append_left e
    refine ⟨by rw [e0]; exact g1, by rw [e0]; exact g2, by rw [e0]; exact g3, by rw [e0]; exact g5, fun q hq eq => ?_⟩
    have hq' : q < xs.length := by omega
    rw [e0, List.getElem_append_left hq']
    exact g6 q hq' eq
  · obtain rfl : i = xs.length := by simp at hi; omega
    have e0 : (xs ++ [x])[xs.length] = x := by simp
    refine ⟨by rw [e0]; exact h1, by rw [e0]; exact h2, by rw [e0]; exact h3.1, by rw [e0]; exact h3.2, fun q hq eq => ?_⟩
    have hq' : q < xs.length := by omega
    rw [e0, List.getElem_append_left hq']
    exact h4 _ (List.getElem_mem hq')
theorem drL_snoc {xs : List Tal} {tu c f d : Int} (h : drL xs tu) (hl : xs.length ≤ 8) (hc : 0 ≤ c ∧ c ≤ 29) (hf : 0 ≤ f ∧ f ≤ 1000) (hd : 0 ≤ d ∧ d ≤ 3) : drL (xs ++ [(tu, c, f)]) (tu + (1 + d)) := by
  have ht := h.tu
  refine ⟨okL_snoc h.ok (by omega) (by simp only []; omega) hc.1 hf h.lt, fun x hx => ?_, fun {x} hx => ?_, by simp; omega⟩
  · rcases List.mem_append.1 hx with hx | hx
    · have := h.lt x hx
      omega
    · simp only [List.mem_singleton] at hx
      subst hx
      simp only []
      omega
  · rcases List.mem_append.1 hx with hx | hx
    · exact h.mem hx
    · simp only [List.mem_singleton] at hx
      subst hx
      exact ⟨hc, hf⟩
theorem mul_rng {a b : Int} (ha : 0 ≤ a ∧ a ≤ 3) (hb : 0 ≤ b ∧ b ≤ 1) : 0 ≤ a * b ∧ a * b ≤ 3 := by
  rcases (show b = 0 ∨ b = 1 by omega) with rfl | rfl
  · simp
  · simpa using ha
theorem c49 (code : List Int) (hc : B8 code) (hl : code.length ≤ 2 ^ 40) : PureE X 49 [.c (bys false code)] (fun r => ∃ xs : List Tal, drW xs ∧ r = .c (tals true xs)) := by
  refine PureE.of_body (drawD_ok X) (fun _ _ => Go.Proofs.Try.call49 _ _) Go.Proofs.Try.func49 rfl (n := 6) rfl ?_
  refine w_seq ?_
  refine w_reg rfl ?_
  refine v_assign rfl ?_
  refine v_nil ?_
  refine q_n ?_
  refine w_seq ?_
  refine w_reg rfl ?_
  refine v_move rfl ?_
  refine v_inl (n := 6) (drawD_ok X) (fun _ _ => Go.Proofs.Try.call99 _ _) Go.Proofs.Try.func99 rfl rfl rfl rfl ?_
  refine w_seq ?_
  refine w_reg rfl ?_
  refine v_assign (c := .v _) rfl ?_
  refine v_nil ?_
  refine q_n ?_
  refine w_seq ?_
  refine w_reg rfl ?_
  refine v_move rfl ?_
  refine v_build [(0, 1), (1, 1), (2, 1)] [_, .v _, .v _] lay138 rfl rfl ?_
  refine v_box (m := 0) (H' := [_]) lay138 rfl rfl rfl ?_
  refine v_assign rfl ?_
  refine v_nil ?_
  refine q_n ?_
  refine w_ret ?_
  refine r_r rfl ?_
  refine v_inl (n := 60) (drawD_ok X) (fun _ _ => Go.Proofs.Try.call98 _ _) Go.Proofs.Try.func98 rfl rfl rfl rfl ?_
  refine w_seq ?_
  refine w_reg rfl ?_
  refine v_assign rfl ?_
  refine v_nil ?_
  refine q_n ?_
  refine w_seq ?_
  refine w_reg rfl ?_
  refine v_lit (flat te []) (H' := [_, _]) lay40 lay27 rfl rfl ⟨by decide, by decide⟩ rfl rfl ?_
  refine v_assign rfl ?_
  refine v_nil ?_
  refine q_n ?_
  refine w_seq ?_
  refine w_reg rfl ?_
  refine v_move rfl ?_
  refine v_pick (fun a' s' => [srcO _ a' s', _]) rfl hc (by omega) ⟨by omega, by omega⟩ (by omega) rfl rfl (fun a' s' => rfl) ?_
  intro q1 a1 s1 hq1 ha1
  refine v_assign rfl ?_
  refine v_nil ?_
  refine q_n ?_
  refine w_seq ?_
  refine w_seq ?_
  refine w_reg rfl ?_
  refine v_move rfl ?_
  refine v_pick (fun a' s' => [srcO _ a' s', _]) rfl hc (by omega) ⟨by omega, by omega⟩ (by omega) rfl rfl (fun a' s' => rfl) ?_
  intro q2 a2 s2 hq2 ha2
  refine v_assign rfl ?_
  refine v_nil ?_
  refine q_n ?_
  refine w_block ?_
  refine w_loop (fun k sl H => ∃ (j : Nat) (xs : List Tal) (tu a s : Int), k = j ∧ xs.length + j ≤ 8 ∧ drL xs tu ∧ (0 ≤ a ∧ a ≤ 4 + 12 * xs.length) ∧ sl = sls [(0, .c (.pt 0 0)), (3, .c (.mu 1 0 xs.length 3)), (4, cI tu), (5, cI j)] ∧ H = [srcO code a s, ⟨flat te xs, 27, true⟩]) ?_ ?_
  · obtain ⟨j0, hj0⟩ : ∃ j : Nat, q2 = j := Int.eq_ofNat_of_zero_le (by omega)
    refine ⟨_, _, _, ?_, j0, [], q1, a2, s2, rfl, by simp; omega, drL_nil (by omega), ⟨by omega, by simp; omega⟩, rfl, rfl⟩
    exact turn [some 0, some 1] rfl rfl rfl ⟨⟨_, rfl, .cons tr_sl (.cons tr_v (.cons tr_v .nil))⟩, ⟨_, rfl, trc_flat te_sc rfl⟩, trivial⟩ ⟨tr_pt rfl, tr_mun rfl rfl, tr_v, tr_i hj0, trivial⟩
  rintro k sl H ⟨j, xs, tu, a, s, hkj, hl1, hd, h0, rfl, rfl⟩
  have htu := hd.tu
  refine w_seq ?_
  refine w_seq ?_
  refine w_reg rfl ?_
  refine v_move rfl ?_
  refine v_gtr lay2 rfl rfl (fun h1 => ?_) (fun h1 => ?_)
  rotate_left
  · refine v_nil ?_
    refine q_n ?_
    refine w_f rfl ?_
    refine w_exit ?_
    refine q_e ?_
    refine q_e ?_
    refine q_hit ?_
    refine q_n ?_
    refine w_seq ?_
    refine w_reg rfl ?_
    refine v_move rfl ?_
    refine v_assign rfl ?_
    refine v_nil ?_
    refine q_n ?_
    refine w_ret ?_
    refine r_r rfl ?_
    refine v_assign rfl ?_
    refine v_nil ?_
    refine q_n ?_
    refine w_ret ?_
    refine r_r rfl ?_
    exact ⟨_, ⟨xs, ⟨_, hd, by omega⟩, rfl⟩, a_flat te_sc te_len rfl rfl⟩
  refine v_nil ?_
  refine q_n ?_
  refine w_t rfl ?_
  refine w_skip ?_
  refine q_n ?_
  refine w_seq ?_
  refine w_block ?_
  refine w_seq ?_
  refine w_reg rfl ?_
  refine v_move rfl ?_
  refine v_move rfl ?_
  refine v_pick (fun a' s' => [srcO _ a' s', _]) rfl hc (by omega) ⟨by omega, by omega⟩ (by omega) rfl rfl (fun a' s' => rfl) ?_
  intro q3 a3 s3 hq3 ha3
  refine v_conv_ii lay2 lay23 rfl (i16r (by omega)) ?_
  refine v_move rfl ?_
  refine v_pick (fun a' s' => [srcO _ a' s', _]) rfl hc (by omega) ⟨by omega, by omega⟩ (by omega) rfl rfl (fun a' s' => rfl) ?_
  intro q4 a4 s4 hq4 ha4
  refine v_conv_ii lay2 lay23 rfl (i16r (by omega)) ?_
  refine v_build [(0, 1), (1, 1), (2, 1)] [.v _, .v _, .v _] lay27 rfl rfl ?_
  refine v_alloc (m := 2) (H' := [_, _, ⟨[.v _, .v _, .v _], 27, true⟩]) lay27 rfl rfl ?_
  refine v_store (H' := [_, _, ⟨[_, _, _], 27, true⟩]) lay27 rfl rfl rfl rfl rfl rfl ?_
  refine v_nil ?_
  refine q_n ?_
  refine w_seq ?_
  refine w_seq ?_
  refine w_reg rfl ?_
  refine v_move rfl ?_
  refine v_len_mu lay40 rfl ?_
  refine v_gtr lay3 rfl rfl (fun h2 => ?_) (fun h2 => ?_)
  rotate_left
  · refine v_move rfl ?_
    refine v_guard_off rfl rfl rfl ?_
    refine v_guard_off rfl rfl rfl ?_
    refine v_pick_f (v := .v (.bool false)) rfl rfl ?_
    refine v_nil ?_
    refine q_n ?_
    refine w_f rfl ?_
    refine w_skip ?_
    refine q_n ?_
    refine w_seq ?_
    refine w_reg rfl ?_
    refine v_move rfl ?_
    refine v_load_pt (.agg [_, _, _]) lay27 rfl rfl rfl rfl ?_
    refine v_lit (flat te [(tu, q3, q4)]) (H' := [_, _, _, _]) lay40 lay27 rfl rfl ⟨by decide, by decide⟩ rfl rfl ?_
    refine v_app_flat (H' := [_, _, _, _, _]) te_sc te_len lay40 lay27 rfl rfl (by simp) rfl rfl (by simp) rfl rfl (by unfold maxLen; simp only []; omega) rfl rfl ?_
    refine v_assign rfl ?_
    refine v_nil ?_
    refine q_n ?_
    refine w_reg rfl ?_
    refine v_move rfl ?_
    refine v_move rfl ?_
    refine v_pick (fun a' s' => [srcO _ a' s', _, _, _, _]) rfl hc (by omega) ⟨by omega, by omega⟩ (by omega) rfl rfl (fun a' s' => rfl) ?_
    intro q10 a10 s10 hq10 ha10
    refine v_move rfl ?_
    refine v_pick (fun a' s' => [srcO _ a' s', _, _, _, _]) rfl hc (by omega) ⟨by omega, by omega⟩ (by omega) rfl rfl (fun a' s' => rfl) ?_
    intro q11 a11 s11 hq11 ha11
    have hmul := mul_rng (a := q10) (b := q11) (by omega) (by omega)
    refine v_mul lay2 rfl rfl (i64r (by omega)) ?_
    refine v_add lay2 rfl rfl (i64r (by omega)) ?_
    refine v_add lay2 rfl rfl (i64r (by omega)) ?_
    refine v_assign rfl ?_
    refine v_nil ?_
    refine q_bn ?_
    refine q_n ?_
    refine w_reg rfl ?_
    refine v_move rfl ?_
    refine v_sub lay2 rfl rfl (i64r (by omega)) ?_
    refine v_assign rfl ?_
    refine v_nil ?_
    refine q_n ?_
    refine ⟨_, _, _, ?_, ⟨j - 1, xs ++ [(tu, q3, q4)], tu + (1 + q10 * q11), a11, s11, rfl, by simp; omega, drL_snoc hd (by omega) (by omega) (by omega) (by omega), ⟨by omega, by simp; omega⟩, rfl, rfl⟩, by omega⟩
    exact turn [some 0, some 4] rfl rfl rfl ⟨⟨_, rfl, .cons tr_sl (.cons tr_v (.cons tr_v .nil))⟩, ⟨_, rfl, trc_flat te_sc rfl⟩, trivial⟩ ⟨tr_pt rfl, tr_mun rfl (by simp), tr_v, tr_i (by omega), trivial⟩
  have hlen : xs.length - 1 < xs.length := by omega
  refine v_move rfl ?_
  refine v_guard_on rfl rfl ?_
  refine v_move rfl ?_
  refine v_guard_on rfl rfl ?_
  refine v_inl (n := 9) (drawD_ok X) (fun _ _ => Go.Proofs.Try.call122 _ _) Go.Proofs.Try.func122 rfl rfl rfl rfl ?_
  refine w_seq ?_
  refine w_reg rfl ?_
  refine v_assign (c := .v (.bool false)) rfl ?_
  refine v_nil ?_
  refine q_n ?_
  refine w_seq ?_
  refine w_reg rfl ?_
  refine v_move rfl ?_
  refine v_move rfl ?_
  refine v_pick (fun a' s' => [srcO _ a' s', _, _]) rfl hc (by omega) ⟨by omega, by omega⟩ (by omega) rfl rfl (fun a' s' => rfl) ?_
  intro q5 a5 s5 hq5 ha5
  refine v_eql lay2 rfl rfl (fun h3 => ?_) (fun h3 => ?_)
  rotate_left
  · refine v_assign rfl ?_
    refine v_nil ?_
    refine q_n ?_
    refine w_ret ?_
    refine r_r rfl ?_
    refine v_pick_t rfl rfl ?_
    refine v_nil ?_
    refine q_n ?_
    refine w_f rfl ?_
    refine w_skip ?_
    refine q_n ?_
    refine w_seq ?_
    refine w_reg rfl ?_
    refine v_move rfl ?_
    refine v_load_pt (.agg [_, _, _]) lay27 rfl rfl rfl rfl ?_
    refine v_lit (flat te [(tu, q3, q4)]) (H' := [_, _, _, _]) lay40 lay27 rfl rfl ⟨by decide, by decide⟩ rfl rfl ?_
    refine v_app_flat (H' := [_, _, _, _, _]) te_sc te_len lay40 lay27 rfl rfl (by simp) rfl rfl (by simp) rfl rfl (by unfold maxLen; simp only []; omega) rfl rfl ?_
    refine v_assign rfl ?_
    refine v_nil ?_
    refine q_n ?_
    refine w_reg rfl ?_
    refine v_move rfl ?_
    refine v_move rfl ?_
    refine v_pick (fun a' s' => [srcO _ a' s', _, _, _, _]) rfl hc (by omega) ⟨by omega, by omega⟩ (by omega) rfl rfl (fun a' s' => rfl) ?_
    intro q8 a8 s8 hq8 ha8
    refine v_move rfl ?_
    refine v_pick (fun a' s' => [srcO _ a' s', _, _, _, _]) rfl hc (by omega) ⟨by omega, by omega⟩ (by omega) rfl rfl (fun a' s' => rfl) ?_
    intro q9 a9 s9 hq9 ha9
    have hmul := mul_rng (a := q8) (b := q9) (by omega) (by omega)
    refine v_mul lay2 rfl rfl (i64r (by omega)) ?_
    refine v_add lay2 rfl rfl (i64r (by omega)) ?_
    refine v_add lay2 rfl rfl (i64r (by omega)) ?_
    refine v_assign rfl ?_
    refine v_nil ?_
    refine q_bn ?_
    refine q_n ?_
    refine w_reg rfl ?_
    refine v_move rfl ?_
    refine v_sub lay2 rfl rfl (i64r (by omega)) ?_
    refine v_assign rfl ?_
    refine v_nil ?_
    refine q_n ?_
    refine ⟨_, _, _, ?_, ⟨j - 1, xs ++ [(tu, q3, q4)], tu + (1 + q8 * q9), a9, s9, rfl, by simp; omega, drL_snoc hd (by omega) (by omega) (by omega) (by omega), ⟨by omega, by simp; omega⟩, rfl, rfl⟩, by omega⟩
    exact turn [some 0, some 4] rfl rfl rfl ⟨⟨_, rfl, .cons tr_sl (.cons tr_v (.cons tr_v .nil))⟩, ⟨_, rfl, trc_flat te_sc rfl⟩, trivial⟩ ⟨tr_pt rfl, tr_mun rfl (by simp), tr_v, tr_i (by omega), trivial⟩
  refine v_assign rfl ?_
  refine v_nil ?_
  refine q_n ?_
  refine w_ret ?_
  refine r_r rfl ?_
  refine v_pick_t rfl rfl ?_
  refine v_nil ?_
  refine q_n ?_
  refine w_t rfl ?_
  refine w_seq ?_
  refine w_reg rfl ?_
  refine v_move rfl ?_
  refine v_move rfl ?_
  refine v_len_mu lay40 rfl ?_
  refine v_sub lay3 rfl rfl (i64r (by omega)) ?_
  refine v_idx_mu_e (k := 3) (off := 0) ((xs.length - 1)) lay40 lay27 rfl rfl rfl ((by omega)) (hlen) ?_
  refine v_fa_pt (off' := _) lay27 rfl rfl rfl ?_
  refine v_load_flat (xs.length - 1) 1 (.c (.v _)) te_len lay23 rfl rfl (by omega) (by omega) rfl rfl ?_
  refine v_fa_pt (off' := 1) lay27 rfl rfl rfl ?_
  refine v_store (H' := [_, _, ⟨[_, _, _], 27, true⟩]) lay23 rfl rfl rfl rfl rfl rfl ?_
  refine v_nil ?_
  refine q_n ?_
  refine w_reg rfl ?_
  refine v_move rfl ?_
  refine v_move rfl ?_
  refine v_len_mu lay40 rfl ?_
  refine v_sub lay3 rfl rfl (i64r (by omega)) ?_
  refine v_idx_mu_e (k := 3) (off := 0) ((xs.length - 1)) lay40 lay27 rfl rfl rfl ((by omega)) (hlen) ?_
  refine v_fa_pt (off' := _) lay27 rfl rfl rfl ?_
  refine v_load_flat (xs.length - 1) 2 (.c (.v _)) te_len lay23 rfl rfl (by omega) (by omega) rfl rfl ?_
  refine v_fa_pt (off' := 2) lay27 rfl rfl rfl ?_
  refine v_store (H' := [_, _, ⟨[_, _, _], 27, true⟩]) lay23 rfl rfl rfl rfl rfl rfl ?_
  refine v_nil ?_
  refine q_n ?_
  refine w_seq ?_
  refine w_reg rfl ?_
  refine v_move rfl ?_
  refine v_load_pt (.agg [_, _, _]) lay27 rfl rfl rfl rfl ?_
  refine v_lit (flat te [(tu, (xs[(xs.length - 1)]).2.1, (xs[(xs.length - 1)]).2.2)]) (H' := [_, _, _, _]) lay40 lay27 rfl rfl ⟨by decide, by decide⟩ rfl rfl ?_
  refine v_app_flat (H' := [_, _, _, _, _]) te_sc te_len lay40 lay27 rfl rfl (by simp) rfl rfl (by simp) rfl rfl (by unfold maxLen; simp only []; omega) rfl rfl ?_
  refine v_assign rfl ?_
  refine v_nil ?_
  refine q_n ?_
  refine w_reg rfl ?_
  refine v_move rfl ?_
  refine v_move rfl ?_
  refine v_pick (fun a' s' => [srcO _ a' s', _, _, _, _]) rfl hc (by omega) ⟨by omega, by omega⟩ (by omega) rfl rfl (fun a' s' => rfl) ?_
  intro q6 a6 s6 hq6 ha6
  refine v_move rfl ?_
  refine v_pick (fun a' s' => [srcO _ a' s', _, _, _, _]) rfl hc (by omega) ⟨by omega, by omega⟩ (by omega) rfl rfl (fun a' s' => rfl) ?_
  intro q7 a7 s7 hq7 ha7
  have hmul := mul_rng (a := q6) (b := q7) (by omega) (by omega)
  refine v_mul lay2 rfl rfl (i64r (by omega)) ?_
  refine v_add lay2 rfl rfl (i64r (by omega)) ?_
  refine v_add lay2 rfl rfl (i64r (by omega)) ?_
  refine v_assign rfl ?_
  refine v_nil ?_
  refine q_bn ?_
  refine q_n ?_
  refine w_reg rfl ?_
  refine v_move rfl ?_
  refine v_sub lay2 rfl rfl (i64r (by omega)) ?_
  refine v_assign rfl ?_
  refine v_nil ?_
  refine q_n ?_
  refine ⟨_, _, _, ?_, ⟨j - 1, xs ++ [(tu, (xs[(xs.length - 1)]).2.1, (xs[(xs.length - 1)]).2.2)], tu + (1 + q6 * q7), a7, s7, rfl, by simp; omega, drL_snoc hd (by omega) (hd.mem (List.getElem_mem hlen)).1 (hd.mem (List.getElem_mem hlen)).2 (by omega), ⟨by omega, by simp; omega⟩, rfl, rfl⟩, by omega⟩
  exact turn [some 0, some 4] rfl rfl rfl ⟨⟨_, rfl, .cons tr_sl (.cons tr_v (.cons tr_v .nil))⟩, ⟨_, rfl, trc_flat te_sc rfl⟩, trivial⟩ ⟨tr_pt rfl, tr_mun rfl (by simp), tr_v, tr_i (by omega), trivial⟩
end Go.VL
namespace Go.VL
open Go.RowKit
set_option maxRecDepth 20000
set_option maxHeartbeats 4000000
theorem u8_eq (n : Int) : IntKind.u8.wrap n = n % 256 := by
  simp only [IntKind.wrap, IntKind.bits, IntKind.signed]
  simp
theorem i16_eq {n : Int} (h : -32768 ≤ n ∧ n ≤ 32767) : IntKind.i16.wrap n = n := wrap_of (k := .i16) h
theorem getD_app {P R : List Int} {q : Nat} : (P ++ R).getD (P.length + q) 0 = R.getD q 0 := by
  rw [List.getD_eq_getElem?_getD, List.getElem?_append_right (by omega), List.getD_eq_getElem?_getD, show P.length + q - P.length = q by omega]
theorem nz_mod {a : Int} (h : ¬ a.tmod 251 = 0) : ¬ a % 251 = 0 := fun h1 => h (Int.tmod_eq_zero_of_dvd (Int.dvd_of_emod_eq_zero h1))
/-- The bytes of a tally stand in a packet where they should. -/
def hasR (ds : List Int) (xs : List Tal) (i : Nat) : Prop := ∃ P Z, P.length = 3 + 7 * i ∧ ds = P ++ (recB i (xs.getD i (0, 0, 0)).1 (xs.getD i (0, 0, 0)).2.1 (xs.getD i (0, 0, 0)).2.2 ++ Z)
theorem recB_len (i t c f : Int) : (recB i t c f).length = 7 := rfl
theorem pk_has (xs : List Tal) {i : Nat} : ∀ {n : Nat}, i < n → ∃ Z, pk xs n = pk xs i ++ (recB i (xs.getD i (0, 0, 0)).1 (xs.getD i (0, 0, 0)).2.1 (xs.getD i (0, 0, 0)).2.2 ++ Z)
  | n + 1, h => by
    by_cases h1 : i = n
    · subst h1
      exact ⟨[], by rw [pk]; simp⟩
    · obtain ⟨Z, hZ⟩ := pk_has xs (i := i) (n := n) (by omega)
      exact ⟨Z ++ recB n (xs.getD n (0, 0, 0)).1 (xs.getD n (0, 0, 0)).2.1 (xs.getD n (0, 0, 0)).2.2, by rw [pk, hZ]; simp⟩
theorem pk_hasR {xs : List Tal} {i n : Nat} (h : i < n) (E : List Int) : hasR (pk xs n ++ E) xs i := by
  obtain ⟨Z, hZ⟩ := pk_has xs h
  exact ⟨pk xs i, Z ++ E, pk_len xs i, by rw [hZ]; simp⟩
theorem hasR.take {ds : List Int} {xs : List Tal} {i cut : Nat} (h : hasR ds xs i) (hc : 3 + 7 * (i + 1) ≤ cut) : hasR (ds.take cut) xs i := by
  obtain ⟨P, Z, hl, rfl⟩ := h
  refine ⟨P, Z.take (cut - P.length - 7), hl, ?_⟩
  rw [List.take_append, List.take_append, List.take_of_length_le (by omega), List.take_of_length_le (by rw [recB_len]; omega), recB_len]
theorem hasR.six {ds : List Int} {xs : List Tal} {i : Nat} (h : hasR ds xs i) : six ds i = [sx (xs.getD i (0, 0, 0)).1, sx (xs.getD i (0, 0, 0)).2.1, sx (xs.getD i (0, 0, 0)).2.2].flatten ∧ rgt ds i := by
  obtain ⟨P, Z, hl, rfl⟩ := h
  have h1 : VL.six (P ++ (recB i (xs.getD i (0, 0, 0)).1 (xs.getD i (0, 0, 0)).2.1 (xs.getD i (0, 0, 0)).2.2 ++ Z)) i = [sx (xs.getD i (0, 0, 0)).1, sx (xs.getD i (0, 0, 0)).2.1, sx (xs.getD i (0, 0, 0)).2.2].flatten := by
    unfold VL.six
    rw [← hl, List.drop_left]
    rfl
  refine ⟨h1, ?_⟩
  unfold rgt
  rw [h1, ← hl, getD_app]
  rfl
theorem okL.at {xs : List Tal} (h : okL xs) {i : Nat} (hi : i < xs.length) : (0 ≤ xs[i].1 ∧ xs[i].1 ≤ 65535) ∧ 0 ≤ xs[i].2.1 ∧ 0 ≤ xs[i].2.2 ∧ xs[i].2.2 ≤ 1000 := by
  obtain ⟨h1, h2, h3, h4, -⟩ := h.2 i hi
  exact ⟨h1, h2, h3, h4⟩
theorem hasR.tal {ds : List Int} {xs : List Tal} {i : Nat} (h : hasR ds xs i) (hok : okL xs) (hb : T16 xs) (hi : i < xs.length) : tl6 (VL.six ds i) = xs[i] := by
  have hk := hok.at hi
  have hb := hb _ (List.getElem_mem hi)
  rw [h.six.1, getD_at hi]
  refine tal_ext ⟨?_, ?_, ?_⟩
  · show (IntKind.u8.wrap xs[i].1) + 256 * (IntKind.u8.wrap (xs[i].1 / 256)) = _
    rw [u8_eq, u8_eq]
    omega
  · show IntKind.i16.wrap ((IntKind.u8.wrap xs[i].2.1) + 256 * (IntKind.u8.wrap (xs[i].2.1 / 256))) = _
    rw [u8_eq, u8_eq, i16_eq (by omega)]
    omega
  · show IntKind.i16.wrap ((IntKind.u8.wrap xs[i].2.2) + 256 * (IntKind.u8.wrap (xs[i].2.2 / 256))) = _
    rw [u8_eq, u8_eq, i16_eq (by omega)]
    omega
theorem tls_eq {ds : List Int} {xs : List Tal} (hok : okL xs) (hb : T16 xs) {k : Nat} (hk : k ≤ xs.length) (h : ∀ i, i < k → hasR ds xs i) : tls ds k = xs.take k := by
  refine List.ext_getElem (by simp [tls]; omega) fun i h1 h2 => ?_
  have hik : i < k := by simpa [tls] using h1
  rw [List.getElem_take]
  simp only [tls, List.getElem_map, List.getElem_range]
  exact (h i hik).tal hok hb (by omega)
theorem okL_take {xs : List Tal} (h : okL xs) (k : Nat) : okL (xs.take k) := by
  have hl : (xs.take k).length ≤ xs.length := by simp; omega
  refine ⟨by have := h.1; omega, fun i hi => ?_⟩
  obtain ⟨h1, h2, h3, h4, h5⟩ := h.2 i (by omega)
  refine ⟨?_, ?_, ?_, ?_, fun q hq e => ?_⟩
  · rw [List.getElem_take]; exact h1
  · rw [List.getElem_take]; exact h2
  · rw [List.getElem_take]; exact h3
  · rw [List.getElem_take]; exact h4
  · rw [List.getElem_take, List.getElem_take]; exact h5 q (by omega) e
theorem pk_head {xs : List Tal} (hl : xs.length ≤ 96) : ∀ n, ∃ Z, pk xs n = 68 :: 84 :: (xs.length : Int) :: Z ∧ Z.length = 7 * n
  | 0 => ⟨[], by rw [pk, u8_eq]; simp; omega, rfl⟩
  | n + 1 => by
    obtain ⟨Z, h1, h2⟩ := pk_head hl n
    exact ⟨Z ++ recB n (xs.getD n (0, 0, 0)).1 (xs.getD n (0, 0, 0)).2.1 (xs.getD n (0, 0, 0)).2.2, by rw [pk, h1]; simp, by rw [List.length_append, recB_len]; omega⟩
theorem hd_of {n : Int} {Z : List Int} (hn : n ≤ 96) (hZ : Z.length ≤ 673) : hdR (68 :: 84 :: n :: Z) = (n, 0) := by
  rw [hd_0 (by simp; omega) ⟨by simp, rfl, rfl, hn⟩]
  rfl
abbrev due (xs : List Tal) : List Int := pk xs xs.length ++ [(ck (pk xs xs.length)).2]
theorem due_len (xs : List Tal) : (due xs).length = 7 * xs.length + 4 := by
  rw [List.length_append, pk_len]
  simp
  omega
theorem due_b8 (xs : List Tal) : B8 (due xs) := fun x hx => by
  rcases List.mem_append.1 hx with h | h
  · exact pk_b8 xs _ x h
  · simp only [List.mem_singleton] at h
    subst h
    have := (ck_in (pk_b8 xs xs.length)).2
    omega
theorem okB_all {ds : List Int} (h0 : okB ds 0 = true) : ∀ {n : Nat}, (∀ i, i < n → rgt ds i) → okB ds n = true
  | 0, _ => h0
  | n + 1, h => by rw [okB_t (okB_all h0 fun i hi => h i (by omega))]; exact decide_eq_true (h n (by omega))
theorem okB_no {ds : List Int} {i : Nat} (h : okB ds i = false) : ∀ {n : Nat}, i ≤ n → okB ds n = false
  | 0, hn => by obtain rfl : i = 0 := by omega
                exact h
  | n + 1, hn => by
    by_cases e : i = n + 1
    · rw [← e]; exact h
    · exact okB_f (okB_no h (by omega))
theorem last_app {A : List Int} {x : Int} : (A ++ [x]).getD ((A ++ [x]).length - 1) 0 = x ∧ ((A ++ [x]).drop 0).take ((A ++ [x]).length - 1 - 0) = A := by
  constructor
  · simp [List.getD_eq_getElem?_getD]
  · simp
/-- What is read from a packet is what was written. -/
theorem rd_due {xs : List Tal} (hok : okL xs) (hb : T16 xs) : rdR (due xs) = (xs, 0) := by
  obtain ⟨Z, h1, h2⟩ := pk_head hok.1 xs.length
  have hl := hok.1
  have hh : hdR (due xs) = ((xs.length : Int), 0) := by
    unfold due
    rw [h1]
    exact hd_of (by omega) (by simp; omega)
  have ht : tls (due xs) xs.length = xs := by
    rw [tls_eq hok hb (Nat.le_refl _) fun i hi => pk_hasR hi _, List.take_length]
  have h0 : okB (due xs) 0 = true := by
    unfold okB due
    rw [last_app.1, last_app.2]
    simp
  rw [rd_0 (N := xs.length) (by rw [hh]) (by rw [hh]) (due_len xs) (okB_all h0 fun i hi => (pk_hasR hi _).six.2) (by rw [ht]; exact hok), ht]
theorem tn_eq {ds : List Int} {xs : List Tal} (hok : okL xs) (hb : T16 xs) {K : Nat} (hK : K = min ((ds.length - 3) / 7) xs.length) (h : ∀ i, i < K → hasR ds xs i) : ∀ {d i : Nat}, i + d = K → tn ds xs.length (xs.length - i) i = K
  | 0, i, hd => by
    refine (tn_stop (t := tn ds xs.length (xs.length - i) i) (N := xs.length) (i := i) (fun ⟨h1, h2, _, _⟩ => ?_) rfl).trans (by omega)
    have : (i + 1) ≤ (ds.length - 3) / 7 := by omega
    omega
  | d + 1, i, hd => by
    have hd7 := Nat.div_mul_le_self (ds.length - 3) 7
    have h4 : okL (tls ds (i + 1)) := by rw [tls_eq hok hb (by omega) fun j hj => h j (by omega)]; exact okL_take hok _
    rw [tn_go (ds := ds) (N := xs.length) (i := i) (by omega) (by omega) (h i (by omega)).six.2 h4]
    exact tn_eq hok hb hK h (d := d) (i := i + 1) (by omega)
/-- A torn packet has the first tallies. -/
theorem tr_due {xs : List Tal} (hok : okL xs) (hb : T16 xs) {cut : Nat} (h3 : 3 ≤ cut) (hc : cut ≤ (due xs).length) : trR ((due xs).take cut) = (xs.take (min ((cut - 3) / 7) xs.length), 0) := by
  obtain ⟨Z, h1, h2⟩ := pk_head hok.1 xs.length
  have hl := hok.1
  have hdl := due_len xs
  have hlen : ((due xs).take cut).length = cut := by simp only [List.length_take]; omega
  have hh : hdR ((due xs).take cut) = ((xs.length : Int), 0) := by
    obtain ⟨c, rfl⟩ : ∃ c, cut = c + 3 := ⟨cut - 3, by omega⟩
    unfold due
    rw [h1]
    exact hd_of (by omega) (by simp; omega)
  have hR : ∀ i, i < min ((cut - 3) / 7) xs.length → hasR ((due xs).take cut) xs i := fun i hi => (pk_hasR (by omega) _).take (by omega)
  rw [tr_0 (N := xs.length) (by rw [hh]) (by rw [hh]) (i := min ((cut - 3) / 7) xs.length) (tn_eq hok hb (K := min ((cut - 3) / 7) xs.length) (by rw [hlen]) hR (d := min ((cut - 3) / 7) xs.length) (i := 0) (by omega))]
  rw [tls_eq hok hb (by omega) hR]
theorem stp_ex (a b x : Int) : ∃ k l : Int, stp (a, b) x = (a + x - 251 * k, b + a + x - 251 * l) := by
  refine ⟨(a + x).tdiv 251, (a + x).tdiv 251 + (b + (a + x).tmod 251).tdiv 251, ?_⟩
  unfold stp
  simp only []
  have e1 := Int.mul_tdiv_add_tmod (a + x) 251
  have e2 := Int.mul_tdiv_add_tmod (b + (a + x).tmod 251) 251
  refine Prod.ext ?_ ?_
  · show (a + x).tmod 251 = _
    omega
  · show (b + (a + x).tmod 251).tmod 251 = _
    omega
theorem ck7 (x0 x1 x2 x3 x4 x5 x6 : Int) : ∃ M : Int, (ck [x0, x1, x2, x3, x4, x5, x6]).2 = 8 + 7 * x0 + 6 * x1 + 5 * x2 + 4 * x3 + 3 * x4 + 2 * x5 + x6 - 251 * M := by
  show ∃ M : Int, (stp (stp (stp (stp (stp (stp (stp (1, 1) x0) x1) x2) x3) x4) x5) x6).2 = _
  obtain ⟨k0, l0, e0⟩ := stp_ex 1 1 x0
  rw [e0]
  obtain ⟨k1, l1, e1⟩ := stp_ex (1 + x0 - 251 * k0) (1 + 1 + x0 - 251 * l0) x1
  rw [e1]
  obtain ⟨k2, l2, e2⟩ := stp_ex (1 + x0 - 251 * k0 + x1 - 251 * k1) (1 + 1 + x0 - 251 * l0 + (1 + x0 - 251 * k0) + x1 - 251 * l1) x2
  rw [e2]
  generalize hA2 : (1 + x0 - 251 * k0 + x1 - 251 * k1 + x2 - 251 * k2) = A2
  generalize hB2 : (1 + 1 + x0 - 251 * l0 + (1 + x0 - 251 * k0) + x1 - 251 * l1 + (1 + x0 - 251 * k0 + x1 - 251 * k1) + x2 - 251 * l2) = B2
  obtain ⟨k3, l3, e3⟩ := stp_ex A2 B2 x3
  rw [e3]
  obtain ⟨k4, l4, e4⟩ := stp_ex (A2 + x3 - 251 * k3) (B2 + A2 + x3 - 251 * l3) x4
  rw [e4]
  obtain ⟨k5, l5, e5⟩ := stp_ex (A2 + x3 - 251 * k3 + x4 - 251 * k4) (B2 + A2 + x3 - 251 * l3 + (A2 + x3 - 251 * k3) + x4 - 251 * l4) x5
  rw [e5]
  obtain ⟨k6, l6, e6⟩ := stp_ex (A2 + x3 - 251 * k3 + x4 - 251 * k4 + x5 - 251 * k5) (B2 + A2 + x3 - 251 * l3 + (A2 + x3 - 251 * k3) + x4 - 251 * l4 + (A2 + x3 - 251 * k3 + x4 - 251 * k4) + x5 - 251 * l5) x6
  rw [e6]
  refine ⟨4 * k0 + 4 * k1 + 4 * k2 + 3 * k3 + 2 * k4 + k5 + l0 + l1 + l2 + l3 + l4 + l5 + l6 + 2 * k0 + k1, ?_⟩
  simp only []
  subst hA2 hB2
  omega
theorem six_bent {i x0 x1 x2 x3 x4 x5 : Int} {r : Nat} (hr : r < 6) {v : Int} (hne : ¬ ([x0, x1, x2, x3, x4, x5].getD r 0 - v).tmod 251 = 0) : ¬ (ck ([i] ++ [x0, x1, x2, x3, x4, x5].set r v)).2 = (ck ([i] ++ [x0, x1, x2, x3, x4, x5])).2 := by
  have hne := nz_mod hne
  obtain ⟨M, hM⟩ := ck7 i x0 x1 x2 x3 x4 x5
  have hM' : (ck ([i] ++ [x0, x1, x2, x3, x4, x5])).2 = _ := hM
  rw [hM']
  intro hq
  match r, hr with
  | 0, _ =>
    obtain ⟨M', h'⟩ := ck7 i v x1 x2 x3 x4 x5
    have h2 := h'.symm.trans hq
    simp only [List.getD_cons_zero] at hne
    omega
  | 1, _ =>
    obtain ⟨M', h'⟩ := ck7 i x0 v x2 x3 x4 x5
    have h2 := h'.symm.trans hq
    simp only [List.getD_cons_zero, List.getD_cons_succ] at hne
    omega
  | 2, _ =>
    obtain ⟨M', h'⟩ := ck7 i x0 x1 v x3 x4 x5
    have h2 := h'.symm.trans hq
    simp only [List.getD_cons_zero, List.getD_cons_succ] at hne
    omega
  | 3, _ =>
    obtain ⟨M', h'⟩ := ck7 i x0 x1 x2 v x4 x5
    have h2 := h'.symm.trans hq
    simp only [List.getD_cons_zero, List.getD_cons_succ] at hne
    omega
  | 4, _ =>
    obtain ⟨M', h'⟩ := ck7 i x0 x1 x2 x3 v x5
    have h2 := h'.symm.trans hq
    simp only [List.getD_cons_zero, List.getD_cons_succ] at hne
    omega
  | 5, _ =>
    obtain ⟨M', h'⟩ := ck7 i x0 x1 x2 x3 x4 v
    have h2 := h'.symm.trans hq
    simp only [List.getD_cons_zero, List.getD_cons_succ] at hne
    omega
/-- A byte that is changed in a tally's bytes is told by their check. -/
theorem rgt_bent {ds : List Int} {xs : List Tal} {i r : Nat} (h : hasR ds xs i) (hr : r < 7) {v : Int} (hne : ¬ (ds.getD (3 + 7 * i + r) 0 - v).tmod 251 = 0) : ¬ rgt (ds.set (3 + 7 * i + r) v) i := by
  obtain ⟨P, Z, hl, rfl⟩ := h
  have hg : ∀ (R : List Int) (q : Nat), (P ++ (R ++ Z)).getD (3 + 7 * i + q) 0 = (R ++ Z).getD q 0 := fun R q => by
    rw [List.getD_eq_getElem?_getD, List.getElem?_append_right (by omega), List.getD_eq_getElem?_getD, show 3 + 7 * i + q - P.length = q by omega]
  rw [hg] at hne
  rw [List.set_append_right _ _ (by omega), show 3 + 7 * i + r - P.length = r by omega, List.set_append_left _ _ (by rw [recB_len]; exact hr)]
  unfold rgt
  rw [hg]
  unfold VL.six
  rw [← hl, List.drop_left]
  unfold recB sx at hne ⊢
  generalize IntKind.u8.wrap (xs.getD i (0, 0, 0)).1 = x0 at *
  generalize IntKind.u8.wrap ((xs.getD i (0, 0, 0)).1 / 256) = x1 at *
  generalize IntKind.u8.wrap (xs.getD i (0, 0, 0)).2.1 = x2 at *
  generalize IntKind.u8.wrap ((xs.getD i (0, 0, 0)).2.1 / 256) = x3 at *
  generalize IntKind.u8.wrap (xs.getD i (0, 0, 0)).2.2 = x4 at *
  generalize IntKind.u8.wrap ((xs.getD i (0, 0, 0)).2.2 / 256) = x5 at *
  simp only [List.flatten_cons, List.flatten_nil, List.append_nil, List.cons_append, List.nil_append] at hne ⊢
  by_cases h6 : r = 6
  · subst h6
    simp only [List.set_cons_succ, List.set_cons_zero, List.cons_append, List.nil_append, List.getD_cons_succ, List.getD_cons_zero, List.take_succ_cons, List.take_zero] at hne ⊢
    intro e
    rw [e, Int.sub_self] at hne
    exact hne rfl
  · have h5 : r < 6 := by omega
    have hb := six_bent (i := IntKind.u8.wrap i) (x0 := x0) (x1 := x1) (x2 := x2) (x3 := x3) (x4 := x4) (x5 := x5) h5 (v := v) (by
      match r, h5 with
      | 0, _ => exact hne
      | 1, _ => exact hne
      | 2, _ => exact hne
      | 3, _ => exact hne
      | 4, _ => exact hne
      | 5, _ => exact hne)
    match r, h5 with
    | 0, _ => exact hb
    | 1, _ => exact hb
    | 2, _ => exact hb
    | 3, _ => exact hb
    | 4, _ => exact hb
    | 5, _ => exact hb
/-- A packet with a byte changed is no packet, but for those by which checks are alike. -/
theorem rd_bent {xs : List Tal} (hok : okL xs) {q : Nat} (hq : q < (due xs).length) {v : Int} (hv : 0 ≤ v ∧ v ≤ 255) (hne : ¬ ((due xs)[q] - v).tmod 251 = 0) : (rdR ((due xs).set q v)).2 = 8 ∨ (rdR ((due xs).set q v)).2 = 5 := by
  have hl := hok.1
  have hdl := due_len xs
  have hb : B8 ((due xs).set q v) := fun x hx => by
    rcases List.mem_or_eq_of_mem_set hx with h | rfl
    · exact due_b8 xs x h
    · exact hv
  have hlen : ((due xs).set q v).length = 7 * xs.length + 4 := by rw [List.length_set, hdl]
  by_cases hc : (hdR ((due xs).set q v)).2 = 0
  · obtain ⟨N, hN, -, -, -, h2⟩ := hd_ok hb hc
    by_cases h7 : ((due xs).set q v).length = 7 * N + 4
    · left
      obtain rfl : N = xs.length := by omega
      have hf : okB ((due xs).set q v) xs.length = false := by
        have hh : headOk ((due xs).set q v) := by
          by_cases h : headOk ((due xs).set q v)
          · exact h
          · rw [hd_5 (by omega) h] at hc; cases hc
        obtain ⟨_, a0, a1, _⟩ := hh
        have a2 := h2 (by omega)
        rw [List.getElem_set] at a0 a1 a2
        obtain ⟨Z, z1, z2⟩ := pk_head hok.1 xs.length
        have d0 : (due xs)[0]'(by omega) = 68 := by unfold due; simp only [z1]; rfl
        have d1 : (due xs)[1]'(by omega) = 84 := by unfold due; simp only [z1]; rfl
        have d2 : (due xs)[2]'(by omega) = (xs.length : Int) := by unfold due; simp only [z1]; rfl
        have hs : ∀ w : Int, (due xs)[q] = w → v = w → False := fun w e1 e2 => hne (by rw [e1, e2, Int.sub_self]; rfl)
        by_cases q0 : q = 0
        · subst q0; exact (hs _ d0 (by simpa using a0)).elim
        by_cases q1 : q = 1
        · subst q1; exact (hs _ d1 (by simpa using a1)).elim
        by_cases q2 : q = 2
        · subst q2; exact (hs _ d2 (by simpa using a2)).elim
        by_cases q3 : q = 3 + 7 * xs.length
        · subst q3
          refine okB_no (i := 0) ?_ (Nat.zero_le _)
          have e : (due xs).set (3 + 7 * xs.length) v = pk xs xs.length ++ [v] := by
            unfold due
            rw [List.set_append_right _ _ (by rw [pk_len]; omega), pk_len, Nat.sub_self]
            rfl
          have e2 : (due xs)[3 + 7 * xs.length] = (ck (pk xs xs.length)).2 := by
            unfold due
            rw [List.getElem_append_right (by rw [pk_len]; omega)]
            simp
          rw [e]
          unfold okB
          rw [last_app.1, last_app.2, ← e2]
          exact beq_false_of_ne fun e3 => hs v e3 rfl
        · obtain ⟨i, r, hr, rfl⟩ : ∃ i r, r < 7 ∧ q = 3 + 7 * i + r := ⟨(q - 3) / 7, (q - 3) % 7, Nat.mod_lt _ (by decide), by omega⟩
          have hi : i < xs.length := by omega
          have hn := rgt_bent (pk_hasR (xs := xs) hi [(ck (pk xs xs.length)).2]) hr (v := v) (by rw [getD_i hq]; exact hne)
          refine okB_no (i := i + 1) ?_ hi
          simp only [okB]
          rw [decide_eq_false hn, Bool.and_false]
      rw [rd_3 hc hN h7 hf]
    · right
      rw [rd_2 hc hN h7]
  · right
    rw [rd_1 hc]
    by_cases h : headOk ((due xs).set q v)
    · rw [hd_0 (by omega) h] at hc
      exact absurd rfl hc
    · rw [hd_5 (by omega) h]
end Go.VL
namespace Go.VL
open Go.RowKit
set_option maxRecDepth 20000
set_option maxHeartbeats 8000000
theorem rq27 {x y : Operand} {ty2 : TypeId} {ρ : Operand → V} {a b : Tal} (hx : ρ x = .agg (te a)) (hy : ρ y = .agg (te b)) : RawQ X (.binOp .neq 27 x y ty2) ρ (cB (decide (¬ a = b))) :=
  rq_neqK (X := X) (p := a = b) [(2, 0), (23, 1), (23, 2)] (by kernel_rfl) (by kernel_rfl) (by kernel_rfl) (by kernel_rfl)
    (fun q hq => by
      simp only [List.mem_cons, List.not_mem_nil, or_false] at hq
      rcases hq with rfl | rfl | rfl
      · exact keyInt (k' := .i64) (by kernel_rfl) rfl rfl
      · exact keyInt (k' := .i16) (by kernel_rfl) rfl rfl
      · exact keyInt (k' := .i16) (by kernel_rfl) rfl rfl)
    ⟨fun h q _ => by rw [h], fun h => by
      have h0 := h (2, 0) (by simp)
      have h1 := h (23, 1) (by simp)
      have h2 := h (23, 2) (by simp)
      simp [te, tal] at h0 h1 h2
      exact tal_ext ⟨h0, h1, h2⟩⟩ hx hy
theorem te_step {α : Type} {xs ys : List α} {i : Nat} (h : xs.take i = ys.take i) (h1 : i < xs.length) (h2 : i < ys.length) (he : xs[i] = ys[i]) : xs.take (i + 1) = ys.take (i + 1) := by
  rw [List.take_succ_eq_append_getElem h1, List.take_succ_eq_append_getElem h2, h, he]
theorem te_all {α : Type} {xs ys : List α} {i : Nat} (h : xs.take i = ys.take i) (h1 : i = xs.length) (h2 : ys.length = xs.length) : xs = ys := by
  subst h1
  rwa [List.take_length, ← h2, List.take_length] at h
theorem te_ne {α : Type} {xs ys : List α} {i : Nat} (h1 : i < xs.length) (h2 : i < ys.length) (he : ¬ xs[i] = ys[i]) : ¬ xs = ys := by
  rintro rfl
  exact he rfl
theorem drW.ok {xs : List Tal} (h : drW xs) : okL xs ∧ T16 xs ∧ xs.length ≤ 8 := by
  obtain ⟨tu, hd, hl⟩ := h
  exact ⟨hd.ok, fun x hx => by have := hd.mem hx; omega, hl⟩
theorem c29d (xs : List Tal) (hd : drW xs) : PureC X 29 [.c (tals false xs)] (.tup [.c (bys true (due xs)), cI 0]) := by
  obtain ⟨h1, h2, h3⟩ := hd.ok
  have h := c29 xs (by omega) h2
  rwa [pkR_0 h1] at h
theorem c30d (xs : List Tal) (hd : drW xs) : PureC X 30 [.c (tals false xs)] (.tup [.c (bys true (due xs)), cI 0]) := by
  obtain ⟨h1, h2, h3⟩ := hd.ok
  have h := c30 xs (by omega) h2
  rwa [pkR_0 h1] at h
theorem c43d (xs : List Tal) (hd : drW xs) : PureC X 43 [.c (bys false (due xs))] (.tup [.c (tals true xs), cI 0]) := by
  obtain ⟨h1, h2, h3⟩ := hd.ok
  have h := c43 (due xs) (by have := due_len xs; omega) (due_b8 xs)
  rwa [rd_due h1 h2] at h
theorem c41d (xs : List Tal) (hd : drW xs) (c : Nat) (hc : c + 3 ≤ (due xs).length) : PureC X 41 [.c (.sl false (c + 3 - 0) 1 (flat be (((due xs).drop 0).take (c + 3 - 0))))] (.tup [.c (tals true (xs.take (min (c / 7) xs.length))), cI 0]) := by
  obtain ⟨h1, h2, h3⟩ := hd.ok
  have hb : B8 ((due xs).take (c + 3)) := fun x hx => due_b8 xs x (List.mem_of_mem_take hx)
  have hl : ((due xs).take (c + 3)).length = c + 3 := by simp only [List.length_take]; omega
  have h : PureC X 41 [.c (.sl false ((due xs).take (c + 3)).length 1 (flat be ((due xs).take (c + 3))))] (.tup [.c (tals true (trR ((due xs).take (c + 3))).1), cI (trR ((due xs).take (c + 3))).2]) := c41 ((due xs).take (c + 3)) (by have := due_len xs; omega) hb
  rw [tr_due h1 h2 (by omega) hc, hl, show (c + 3 - 3) / 7 = c / 7 by rw [Nat.add_sub_cancel]] at h
  simpa using h
theorem c43n (n : Nat) (ds : List Int) (hn : n = ds.length) (hx : ds.length ≤ 2 ^ 40) (hb : B8 ds) : PureC X 43 [.c (.sl false n 1 (flat be ds))] (.tup [.c (tals true (rdR ds).1), cI (rdR ds).2]) := by rw [hn]; exact c43 ds hx hb
theorem c42n (n : Nat) (ds : List Int) (hn : n = ds.length) (hx : ds.length ≤ 2 ^ 40) (hb : B8 ds) : PureC X 42 [.c (.sl false n 1 (flat be ds))] (.tup [.c (tals true (rdR ds).1), cI (rdR ds).2]) := by rw [hn]; exact c42 ds hx hb
theorem set_b8 {ds : List Int} (h : B8 ds) {i : Nat} {w : Int} (hw : 0 ≤ w ∧ w ≤ 255) : B8 (ds.set i w) := fun x hx => by
  rcases List.mem_or_eq_of_mem_set hx with h1 | rfl
  · exact h x h1
  · exact hw
theorem c48 (code : List Int) : PureC X 48 [.c (bys false code)] (cB (decide (4096 < (code.length : Int)))) := by
  refine PureC.of_body (drawD_ok X) (fun _ _ => Go.Proofs.Try.call48 _ _) Go.Proofs.Try.func48 rfl (n := 6) rfl ?_
  refine w_seq ?_
  refine w_reg rfl ?_
  refine v_assign (c := .v (.bool false)) rfl ?_
  refine v_nil ?_
  refine q_n ?_
  refine w_seq ?_
  refine w_reg rfl ?_
  refine v_move rfl ?_
  refine v_len_sl lay47 rfl ?_
  refine v_gtr lay3 rfl rfl (fun h1 => ?_) (fun h1 => ?_)
  · refine v_assign rfl ?_
    refine v_nil ?_
    refine q_n ?_
    refine w_ret ?_
    refine r_r rfl ?_
    exact a_b (by simp_all)
  refine v_assign rfl ?_
  refine v_nil ?_
  refine q_n ?_
  refine w_ret ?_
  refine r_r rfl ?_
  exact a_b (by simp_all)
theorem c51 (code : List Int) (n : Int) (hc : B8 code) (hl : code.length ≤ 2 ^ 40) (hn : n ≤ 2 ^ 40) : PureC X 51 [.c (bys false code), cI n] (cI (dpR code n 0 0)) := by
  refine PureC.of_body (drawD_ok X) (fun _ _ => Go.Proofs.Try.call51 _ _) Go.Proofs.Try.func51 rfl (n := 9) rfl ?_
  refine w_seq ?_
  refine w_reg rfl ?_
  refine v_assign (c := .v (.int .i64 0)) rfl ?_
  refine v_nil ?_
  refine q_n ?_
  refine w_seq ?_
  refine w_reg rfl ?_
  refine v_move rfl ?_
  refine v_inl (n := 6) (drawD_ok X) (fun _ _ => Go.Proofs.Try.call99 _ _) Go.Proofs.Try.func99 rfl rfl rfl rfl ?_
  refine w_seq ?_
  refine w_reg rfl ?_
  refine v_assign (c := .v _) rfl ?_
  refine v_nil ?_
  refine q_n ?_
  refine w_seq ?_
  refine w_reg rfl ?_
  refine v_move rfl ?_
  refine v_build [(0, 1), (1, 1), (2, 1)] [_, .v _, .v _] lay138 rfl rfl ?_
  refine v_box (m := 0) (H' := [_]) lay138 rfl rfl rfl ?_
  refine v_assign rfl ?_
  refine v_nil ?_
  refine q_n ?_
  refine w_ret ?_
  refine r_r rfl ?_
  refine v_move rfl ?_
  refine v_det (H' := [srcO code (dpA n 0) (dpS code n 0 0)]) (c100 code n 0 0 rfl hc (by omega) (by omega) (by omega) (by omega) rfl) rfl rfl ?_
  refine v_assign rfl ?_
  refine v_nil ?_
  refine q_n ?_
  refine w_ret ?_
  refine r_r rfl ?_
  exact tr_v
theorem c50 (xs ys : List Tal) (n : Nat) (hn : n = ys.length) (hx : xs.length ≤ 2 ^ 40) : PureC X 50 [.c (tals false xs), .c (.sl false n 3 (flat te ys))] (cB (decide (xs = ys))) := by
  refine PureC.of_body (drawD_ok X) (fun _ _ => Go.Proofs.Try.call50 _ _) Go.Proofs.Try.func50 rfl (n := 26) rfl ?_
  subst hn
  refine w_seq ?_
  refine w_reg rfl ?_
  refine v_assign (c := .v (.bool false)) rfl ?_
  refine v_nil ?_
  refine q_n ?_
  refine w_seq ?_
  refine w_seq ?_
  refine w_reg rfl ?_
  refine v_move rfl ?_
  refine v_len_sl lay40 rfl ?_
  refine v_move rfl ?_
  refine v_len_sl lay40 rfl ?_
  refine v_neq lay3 rfl rfl (fun h1 => ?_) (fun h1 => ?_)
  · refine v_nil ?_
    refine q_n ?_
    refine w_t rfl ?_
    refine w_seq ?_
    refine w_reg rfl ?_
    refine v_assign (c := .v (.bool false)) rfl ?_
    refine v_nil ?_
    refine q_n ?_
    refine w_ret (q_r ?_)
    refine r_r rfl ?_
    exact a_b (by simp only [Bool.false_eq_true, false_iff]; rintro rfl; exact h1 rfl)
  refine v_nil ?_
  refine q_n ?_
  refine w_f rfl ?_
  refine w_skip ?_
  refine q_n ?_
  refine w_seq ?_
  refine w_seq ?_
  refine w_reg rfl ?_
  refine v_assign (c := .v (.int .i64 0)) rfl ?_
  refine v_nil ?_
  refine q_n ?_
  refine w_block ?_
  refine w_loop (fun k sl H => ∃ i : Nat, k = xs.length - i ∧ i ≤ xs.length ∧ xs.take i = ys.take i ∧ sl = sls [(0, .c (tals false xs)), (1, .c (tals false ys)), (5, cI i)] ∧ H = []) ?_ ?_
  · refine ⟨_, _, _, ?_, 0, rfl, Nat.zero_le _, rfl, rfl, rfl⟩
    exact turn0 ⟨tr_sl, tr_sl, tr_v, trivial⟩
  rintro k sl H ⟨i, rfl, hi, hp, rfl, rfl⟩
  refine w_seq ?_
  refine w_seq ?_
  refine w_reg rfl ?_
  refine v_move rfl ?_
  refine v_move rfl ?_
  refine v_len_sl lay40 rfl ?_
  refine v_lss lay3 rfl rfl (fun h2 => ?_) (fun h2 => ?_)
  rotate_left
  · refine v_nil ?_
    refine q_n ?_
    refine w_f rfl ?_
    refine w_exit ?_
    refine q_e ?_
    refine q_e ?_
    refine q_hit ?_
    refine q_n ?_
    refine w_seq ?_
    refine w_reg rfl ?_
    refine v_assign (c := .v (.bool true)) rfl ?_
    refine v_nil ?_
    refine q_n ?_
    refine w_ret ?_
    refine r_r rfl ?_
    exact a_b (by simp only [true_iff]; exact te_all hp (by omega) (by omega))
  have i1 : i < xs.length := by omega
  have i2 : i < ys.length := by omega
  refine v_nil ?_
  refine q_n ?_
  refine w_t rfl ?_
  refine w_skip ?_
  refine q_n ?_
  refine w_seq ?_
  refine w_block ?_
  refine w_seq ?_
  refine w_draw [0, 0, 3, 7, 0, 0, 48, 112, 255] [⟨0, 0, []⟩, ⟨1, 0, []⟩, ⟨2, 0, []⟩, ⟨3, 0, []⟩, ⟨4, 0, []⟩, ⟨5, 0, []⟩, ⟨6, 0, []⟩, ⟨7, 0, []⟩, ⟨8, 0, []⟩] rfl rfl ?_
  refine d_q rfl rfl rfl rfl rfl ?_
  refine v_move rfl ?_
  refine v_nil ?_
  refine d_q rfl rfl rfl rfl rfl ?_
  refine v_move rfl ?_
  refine v_nil ?_
  refine d_q rfl rfl rfl rfl rfl ?_
  refine v_idx_e (k := 3) (i) te_len lay40 lay27 rfl rfl rfl (rfl) rfl (rfl) (i1) ?_
  refine v_nil ?_
  refine d_q rfl rfl rfl rfl rfl ?_
  refine v_load_vw (.agg [.v _, .v _, .v _]) lay27 rfl rfl rfl ?_
  refine v_nil ?_
  refine d_q rfl rfl rfl rfl rfl ?_
  refine v_move rfl ?_
  refine v_nil ?_
  refine d_q rfl rfl rfl rfl rfl ?_
  refine v_move rfl ?_
  refine v_nil ?_
  refine d_q rfl rfl rfl rfl rfl ?_
  refine v_idx_e (k := 3) (i) te_len lay40 lay27 rfl rfl rfl (rfl) rfl (rfl) (i2) ?_
  refine v_nil ?_
  refine d_q rfl rfl rfl rfl rfl ?_
  refine v_load_vw (.agg [.v _, .v _, .v _]) lay27 rfl rfl rfl ?_
  refine v_nil ?_
  refine d_rawb (rq27 (a := xs[i]) (b := ys[i]) rfl rfl) rfl rfl rfl rfl rfl (fun h5 => ?_) (fun h5 => ?_)
  · have hne := h5
    refine d_nil ?_
    refine q_n ?_
    refine w_t rfl ?_
    refine w_seq ?_
    refine w_reg rfl ?_
    refine v_assign (c := .v (.bool false)) rfl ?_
    refine v_nil ?_
    refine q_n ?_
    refine w_ret (q_br (q_r (q_r (q_br (q_r ?_)))))
    refine r_r rfl ?_
    exact a_b (by simp only [Bool.false_eq_true, false_iff]; exact te_ne i1 i2 hne)
  have hne := h5
  refine d_nil ?_
  refine q_n ?_
  refine w_f rfl ?_
  refine w_skip ?_
  refine q_bn ?_
  refine q_n ?_
  refine w_reg rfl ?_
  refine v_move rfl ?_
  refine v_add lay3 rfl rfl (i64r (by omega)) ?_
  refine v_assign rfl ?_
  refine v_nil ?_
  refine q_n ?_
  refine ⟨_, _, _, ?_, ⟨i + 1, rfl, by omega, te_step hp i1 i2 (Decidable.of_not_not hne), rfl, rfl⟩, by omega⟩
  exact turn0 ⟨tr_sl, tr_sl, tr_v, trivial⟩
theorem c12 (code more : List Int) (hc : B8 code) (hm : B8 more) (hl : code.length ≤ maxLen) (hl2 : more.length ≤ maxLen) : PureC X 12 [.c (bys false code), .c (bys false more)] (cB true) := by
  refine PureC.of_body (drawD_ok X) (fun _ _ => Go.Proofs.Try.call12 _ _) Go.Proofs.Try.func12 rfl (n := 170) rfl ?_
  refine w_seq ?_
  refine w_reg rfl ?_
  refine v_assign (c := .v (.bool false)) rfl ?_
  refine v_nil ?_
  refine q_n ?_
  refine w_seq ?_
  refine w_seq ?_
  refine w_reg rfl ?_
  refine v_move rfl ?_
  refine v_callb (c48 _) rfl rfl (.cons vw_sl .nil) (fun h1 => ?_) (fun h1 => ?_)
  · refine v_move rfl ?_
    refine v_guard_off rfl rfl rfl ?_
    refine v_guard_off rfl rfl rfl ?_
    refine v_pick_t (v := .v (.bool true)) rfl rfl ?_
    refine v_nil ?_
    refine q_n ?_
    refine w_t rfl ?_
    refine w_seq ?_
    refine w_reg rfl ?_
    refine v_assign (c := .v (.bool true)) rfl ?_
    refine v_nil ?_
    refine q_n ?_
    refine w_ret (q_r ?_)
    refine r_r rfl ?_
    exact tr_v
  refine v_move rfl ?_
  refine v_guard_on rfl rfl ?_
  refine v_move rfl ?_
  refine v_guard_on rfl rfl ?_
  refine v_callb (c48 _) rfl rfl (.cons vw_sl .nil) (fun h2 => ?_) (fun h2 => ?_)
  · refine v_pick_f rfl rfl ?_
    refine v_nil ?_
    refine q_n ?_
    refine w_t rfl ?_
    refine w_seq ?_
    refine w_reg rfl ?_
    refine v_assign (c := .v (.bool true)) rfl ?_
    refine v_nil ?_
    refine q_n ?_
    refine w_ret (q_r ?_)
    refine r_r rfl ?_
    exact tr_v
  refine v_pick_f rfl rfl ?_
  refine v_nil ?_
  refine q_n ?_
  refine w_f rfl ?_
  refine w_skip ?_
  refine q_n ?_
  refine w_seq ?_
  refine w_reg rfl ?_
  refine v_move rfl ?_
  refine v_callE (c49 code hc (by unfold maxLen at hl; omega)) (by rintro _ ⟨xs, -, rfl⟩; rfl) rfl rfl (.cons vw_sl .nil) ?_
  rintro _ ⟨xs, hd, rfl⟩
  obtain ⟨k1, k2, k3⟩ := hd.ok
  have hdl := due_len xs
  refine v_assign rfl ?_
  refine v_nil ?_
  refine q_n ?_
  refine w_seq ?_
  refine w_reg rfl ?_
  refine v_move rfl ?_
  refine v_call (c30d xs hd) rfl rfl rfl (.cons vw_sl .nil) ?_
  refine v_move_t rfl ?_
  refine v_extract_c rfl rfl ?_
  refine v_extract_c rfl rfl ?_
  refine v_assign rfl ?_
  refine v_assign rfl ?_
  refine v_nil ?_
  refine q_n ?_
  refine w_seq ?_
  refine w_reg rfl ?_
  refine v_move rfl ?_
  refine v_call (c29d xs hd) rfl rfl rfl (.cons vw_sl .nil) ?_
  refine v_move_t rfl ?_
  refine v_extract_c rfl rfl ?_
  refine v_extract_c rfl rfl ?_
  refine v_assign rfl ?_
  refine v_assign rfl ?_
  refine v_nil ?_
  refine q_n ?_
  refine w_seq ?_
  refine w_seq ?_
  refine w_reg rfl ?_
  refine v_move rfl ?_
  refine v_move rfl ?_
  refine v_neq lay2 rfl rfl (fun h3 => ?_) (fun h3 => ?_)
  · exact absurd (by decide) h3
  refine v_move rfl ?_
  refine v_guard_on rfl rfl ?_
  refine v_move rfl ?_
  refine v_guard_on rfl rfl ?_
  refine v_neq lay2 rfl rfl (fun h4 => ?_) (fun h4 => ?_)
  · exact absurd (by decide) h4
  refine v_pick_f rfl rfl ?_
  refine v_move rfl ?_
  refine v_guard_on rfl rfl ?_
  refine v_move rfl ?_
  refine v_guard_on rfl rfl ?_
  refine v_conv_bs lay47 lay9 lay5 rfl (by_be _) ?_
  refine v_guard_on rfl rfl ?_
  refine v_move rfl ?_
  refine v_guard_on rfl rfl ?_
  refine v_conv_bs lay47 lay9 lay5 rfl (by_be _) ?_
  refine v_guard_on rfl rfl ?_
  refine v_binb lay9 rfl rfl rfl (fun h5 => ?_) (fun h5 => ?_)
  · exact absurd h5 (by simp)
  refine v_pick_f rfl rfl ?_
  refine v_move rfl ?_
  refine v_guard_on rfl rfl ?_
  refine v_move rfl ?_
  refine v_guard_on rfl rfl ?_
  refine v_len_sl lay47 rfl ?_
  refine v_guard_on rfl rfl ?_
  refine v_move rfl ?_
  refine v_guard_on rfl rfl ?_
  refine v_len_sl lay40 rfl ?_
  refine v_guard_on rfl rfl ?_
  refine v_mul lay3 rfl rfl (i64r (by omega)) ?_
  refine v_guard_on rfl rfl ?_
  refine v_add lay3 rfl rfl (i64r (by omega)) ?_
  refine v_guard_on rfl rfl ?_
  refine v_neq lay3 rfl rfl (fun h6 => ?_) (fun h6 => ?_)
  · exact absurd (by omega) h6
  refine v_pick_f rfl rfl ?_
  refine v_nil ?_
  refine q_n ?_
  refine w_f rfl ?_
  refine w_skip ?_
  refine q_n ?_
  refine w_seq ?_
  refine w_reg rfl ?_
  refine v_move rfl ?_
  refine v_call (c43d xs hd) rfl rfl rfl (.cons vw_sl .nil) ?_
  refine v_move_t rfl ?_
  refine v_extract_c rfl rfl ?_
  refine v_extract_c rfl rfl ?_
  refine v_assign rfl ?_
  refine v_assign rfl ?_
  refine v_nil ?_
  refine q_n ?_
  refine w_seq ?_
  refine w_seq ?_
  refine w_reg rfl ?_
  refine v_move rfl ?_
  refine v_neq lay2 rfl rfl (fun h7 => ?_) (fun h7 => ?_)
  · exact absurd (by decide) h7
  refine v_move rfl ?_
  refine v_guard_on rfl rfl ?_
  refine v_move rfl ?_
  refine v_guard_on rfl rfl ?_
  refine v_move rfl ?_
  refine v_guard_on rfl rfl ?_
  refine v_callb (c50 _ _ _ rfl (by omega)) rfl rfl (.cons vw_sl (.cons vw_sl .nil)) (fun h8 => ?_) (fun h8 => ?_)
  rotate_left
  · exact absurd rfl h8
  refine v_guard_on rfl rfl ?_
  refine v_not false rfl rfl ?_
  refine v_pick_f rfl rfl ?_
  refine v_nil ?_
  refine q_n ?_
  refine w_f rfl ?_
  refine w_skip ?_
  refine q_n ?_
  refine w_seq ?_
  refine w_reg rfl ?_
  refine v_move rfl ?_
  refine v_move rfl ?_
  refine v_len_sl lay47 rfl ?_
  refine v_sub lay2 rfl rfl (i64r (by omega)) ?_
  refine v_call (c51 more (((due xs).length : Int) - 2) hm (by omega) (by omega)) rfl rfl rfl (.cons vw_sl (.cons vw_v .nil)) ?_
  have hq1 := dp_rng (code := more) (n := ((due xs).length : Int) - 2) (a := 0) (s := 0) hm
  generalize dpR more (((due xs).length : Int) - 2) 0 0 = q1 at hq1 ⊢
  obtain ⟨c1, rfl⟩ : ∃ c : Nat, q1 = c := Int.eq_ofNat_of_zero_le hq1.1
  have hc1 : c1 + 3 ≤ (due xs).length := by omega
  refine v_add lay2 rfl rfl (i64r (by omega)) ?_
  refine v_assign rfl ?_
  refine v_nil ?_
  refine q_n ?_
  refine w_seq ?_
  refine w_reg rfl ?_
  refine v_move rfl ?_
  refine v_move rfl ?_
  refine v_slice_sl (0) (c1 + 3) be_len lay47 lay5 rfl rfl rfl rfl rfl (rfl) ((by omega)) (by omega) ?_
  refine v_call (c41d xs hd c1 hc1) rfl rfl rfl (.cons vw_sl .nil) ?_
  refine v_move_t rfl ?_
  refine v_extract_c rfl rfl ?_
  refine v_extract_c rfl rfl ?_
  refine v_assign rfl ?_
  refine v_assign rfl ?_
  refine v_nil ?_
  refine q_n ?_
  refine w_seq ?_
  refine w_reg rfl ?_
  refine v_move rfl ?_
  refine v_sub lay2 rfl rfl (i64r (by omega)) ?_
  have hd7 : ((3 : Int) + c1 - 3).tdiv 7 = ((c1 / 7 : Nat) : Int) := by rw [show (3 : Int) + c1 - 3 = c1 by omega]; rfl
  refine v_quo lay2 rfl rfl (by decide) (i64r (by rw [hd7]; omega)) ?_
  rw [hd7]
  refine v_move rfl ?_
  refine v_len_sl lay40 rfl ?_
  refine v_min rfl rfl ?_
  have hmin : (if ((xs.length : Nat) : Int) < ((c1 / 7 : Nat) : Int) then ((xs.length : Nat) : Int) else ((c1 / 7 : Nat) : Int)) = ((min (c1 / 7) xs.length : Nat) : Int) := by split <;> omega
  rw [hmin]
  refine v_assign rfl ?_
  refine v_nil ?_
  refine q_n ?_
  refine w_seq ?_
  refine w_seq ?_
  refine w_reg rfl ?_
  refine v_move rfl ?_
  refine v_neq lay2 rfl rfl (fun h9 => ?_) (fun h9 => ?_)
  · exact absurd (by decide) h9
  refine v_move rfl ?_
  refine v_guard_on rfl rfl ?_
  refine v_move rfl ?_
  refine v_guard_on rfl rfl ?_
  refine v_len_sl lay40 rfl ?_
  refine v_guard_on rfl rfl ?_
  refine v_move rfl ?_
  refine v_guard_on rfl rfl ?_
  refine v_neq lay2 rfl rfl (fun h10 => ?_) (fun h10 => ?_)
  · exact absurd (by simp) h10
  refine v_pick_f rfl rfl ?_
  refine v_move rfl ?_
  refine v_guard_on rfl rfl ?_
  refine v_move rfl ?_
  refine v_guard_on rfl rfl ?_
  refine v_move rfl ?_
  refine v_guard_on rfl rfl ?_
  refine v_move rfl ?_
  refine v_guard_on rfl rfl ?_
  refine v_slice_sl (0) (min (c1 / 7) xs.length) te_len lay40 lay27 rfl rfl rfl rfl rfl (rfl) (rfl) (by omega) ?_
  refine v_guard_on rfl rfl ?_
  refine v_callb (c50 (xs.take (min (c1 / 7) xs.length)) _ _ (by simp) (by simp; omega)) rfl rfl (.cons vw_sl (.cons vw_sl .nil)) (fun h11 => ?_) (fun h11 => ?_)
  rotate_left
  · exact absurd (by simp) h11
  refine v_guard_on rfl rfl ?_
  refine v_not false rfl rfl ?_
  refine v_pick_f rfl rfl ?_
  refine v_nil ?_
  refine q_n ?_
  refine w_f rfl ?_
  refine w_skip ?_
  refine q_n ?_
  refine w_seq ?_
  refine w_reg rfl ?_
  refine v_lit (flat be []) (H' := [_]) lay47 lay5 rfl rfl ⟨by decide, by decide⟩ rfl rfl ?_
  refine v_move rfl ?_
  refine v_app_flat_sl (H' := [_, ⟨flat be (due xs), 5, true⟩]) be_sc be_len lay47 lay5 rfl rfl rfl rfl rfl rfl (by unfold maxLen; simp only []; omega) rfl rfl ?_
  refine v_assign rfl ?_
  refine v_nil ?_
  refine q_n ?_
  refine w_seq ?_
  refine w_reg rfl ?_
  refine v_move rfl ?_
  refine v_move rfl ?_
  refine v_len_mu lay47 rfl ?_
  refine v_call (c51 more (((0 + (due xs).length : Nat) : Int)) hm (by omega) (by omega)) rfl rfl rfl (.cons vw_sl (.cons vw_v .nil)) ?_
  have hq2 := dp_rng (code := more) (n := ((0 + (due xs).length : Nat) : Int)) (a := 0) (s := 0) hm
  generalize dpR more (((0 + (due xs).length : Nat) : Int)) 0 0 = q2 at hq2 ⊢
  obtain ⟨c2, rfl⟩ : ∃ c : Nat, q2 = c := Int.eq_ofNat_of_zero_le hq2.1
  have hc2 : c2 < (due xs).length := by omega
  have hold := due_b8 xs _ (List.getElem_mem hc2)
  have hq3 := dp_rng (code := code) (n := 255) (a := 0) (s := 0) hc
  refine v_assign rfl ?_
  refine v_nil ?_
  refine q_n ?_
  refine w_seq ?_
  refine w_reg rfl ?_
  refine v_move rfl ?_
  refine v_move rfl ?_
  refine v_idx_mu_e (k := 1) (off := 0) (c2) lay47 lay5 rfl rfl rfl (rfl) (by omega) ?_
  refine v_load_flat c2 0 (.c (.v _)) be_len lay5 rfl rfl (by omega) (by first | exact hc2 | exact hc3) rfl rfl ?_
  refine v_assign rfl ?_
  refine v_nil ?_
  refine q_n ?_
  refine w_seq ?_
  refine w_draw [0, 0, 0, 0, 12, 28, 0, 64, 192, 448, 1020, 2047, 4095] [⟨0, 0, []⟩, ⟨1, 0, []⟩, ⟨2, 0, []⟩, ⟨3, 0, []⟩, ⟨4, 0, []⟩, ⟨5, 0, []⟩, ⟨6, 0, []⟩, ⟨7, 0, []⟩, ⟨8, 0, []⟩, ⟨9, 0, []⟩, ⟨10, 0, []⟩, ⟨11, 0, []⟩, ⟨12, 1, []⟩] rfl rfl ?_
  refine d_q rfl rfl rfl rfl rfl ?_
  refine v_move rfl ?_
  refine v_nil ?_
  refine d_q rfl rfl rfl rfl rfl ?_
  refine v_move rfl ?_
  refine v_nil ?_
  refine d_q rfl rfl rfl rfl rfl ?_
  refine v_move rfl ?_
  refine v_nil ?_
  refine d_q rfl rfl rfl rfl rfl ?_
  refine v_move rfl ?_
  refine v_nil ?_
  refine d_q rfl rfl rfl rfl rfl ?_
  refine v_idx_mu_e (k := 1) (off := 0) (c2) lay47 lay5 rfl rfl rfl (rfl) (by omega) ?_
  refine v_nil ?_
  refine d_q rfl rfl rfl rfl rfl ?_
  refine v_load_flat c2 0 (.c (.v _)) be_len lay5 rfl rfl (by omega) (by first | exact hc2 | exact hc3) rfl rfl ?_
  refine v_nil ?_
  refine d_q rfl rfl rfl rfl rfl ?_
  refine v_move rfl ?_
  refine v_nil ?_
  refine d_call (c51 code 255 hc (by unfold maxLen at hl; omega) (by omega)) rfl rfl rfl rfl rfl (.cons vw_sl (.cons vw_v .nil)) ?_
  refine d_q rfl rfl rfl rfl rfl ?_
  refine v_add lay2 rfl rfl (i64r (by omega)) ?_
  refine v_nil ?_
  refine d_q rfl rfl rfl rfl rfl ?_
  refine v_conv_iw lay2 lay5 rfl ?_
  refine v_nil ?_
  refine d_q rfl rfl rfl rfl rfl ?_
  refine v_bin (c := .v (.int .u8 _)) lay5 rfl rfl rfl ?_
  refine v_nil ?_
  refine d_q rfl rfl rfl rfl rfl ?_
  refine v_idx_mu_e (k := 1) (off := 0) (c2) lay47 lay5 rfl rfl rfl (rfl) (by omega) ?_
  refine v_nil ?_
  refine d_e rfl rfl rfl ?_
  have hw : 0 ≤ (bits .xor .u8 (due xs)[c2] (IntKind.u8.wrap (1 + dpR code 255 0 0))) ∧ (bits .xor .u8 (due xs)[c2] (IntKind.u8.wrap (1 + dpR code 255 0 0))) ≤ 255 := w8_in _
  generalize hwe : (bits .xor .u8 (due xs)[c2] (IntKind.u8.wrap (1 + dpR code 255 0 0))) = w at hw ⊢
  have hc3 : c2 < ((due xs).set c2 w).length := by rw [List.length_set]; exact hc2
  have hws : ((due xs).set c2 w)[c2] = w := List.getElem_set_self ..
  refine v_store_flat (H' := [_, _]) c2 0 (w) be_len lay5 rfl rfl rfl (by omega) hc2 rfl rfl (rfl) rfl ?_
  refine v_nil ⟨again_nil, ?_⟩
  refine d_nil ?_
  refine q_n ?_
  refine w_seq ?_
  refine w_reg rfl ?_
  refine v_move rfl ?_
  refine v_call (c43n _ ((due xs).set c2 w) (by simp) (by rw [List.length_set]; omega) (set_b8 (due_b8 xs) hw)) rfl rfl rfl (.cons (vw_mu2 be_sc be_len rfl (by first | (simp; done) | (simp; omega))) .nil) ?_
  refine v_move_t rfl ?_
  refine v_extract_c rfl rfl ?_
  refine v_extract_c rfl rfl ?_
  refine v_assign rfl ?_
  refine v_assign rfl ?_
  refine v_nil ?_
  refine q_n ?_
  refine w_seq ?_
  refine w_reg rfl ?_
  refine v_move rfl ?_
  refine v_call (c42n _ ((due xs).set c2 w) (by simp) (by rw [List.length_set]; omega) (set_b8 (due_b8 xs) hw)) rfl rfl rfl (.cons (vw_mu2 be_sc be_len rfl (by first | (simp; done) | (simp; omega))) .nil) ?_
  refine v_move_t rfl ?_
  refine v_extract_c rfl rfl ?_
  refine v_extract_c rfl rfl ?_
  refine v_assign rfl ?_
  refine v_assign rfl ?_
  refine v_nil ?_
  refine q_n ?_
  refine w_seq ?_
  refine w_seq ?_
  refine w_reg rfl ?_
  refine v_move rfl ?_
  refine v_move rfl ?_
  refine v_neq lay2 rfl rfl (fun h15 => ?_) (fun h15 => ?_)
  · exact absurd rfl h15
  refine v_move rfl ?_
  refine v_guard_on rfl rfl ?_
  refine v_move rfl ?_
  refine v_guard_on rfl rfl ?_
  refine v_move rfl ?_
  refine v_guard_on rfl rfl ?_
  refine v_callb (c50 _ _ _ rfl (by have := rd_len ((due xs).set c2 w); omega)) rfl rfl (.cons vw_sl (.cons vw_sl .nil)) (fun h16 => ?_) (fun h16 => ?_)
  rotate_left
  · exact absurd rfl h16
  refine v_guard_on rfl rfl ?_
  refine v_not false rfl rfl ?_
  refine v_pick_f rfl rfl ?_
  refine v_nil ?_
  refine q_n ?_
  refine w_f rfl ?_
  refine w_skip ?_
  refine q_n ?_
  refine w_seq ?_
  refine w_seq ?_
  refine w_reg rfl ?_
  refine v_move rfl ?_
  refine v_conv_ii lay5 lay2 rfl (i64r (by first | omega | (rw [hws]; omega))) ?_
  refine v_move rfl ?_
  refine v_move rfl ?_
  refine v_idx_mu_e (k := 1) (off := 0) (c2) lay47 lay5 rfl rfl rfl (rfl) (by omega) ?_
  refine v_load_flat c2 0 (.c (.v _)) be_len lay5 rfl rfl (by omega) (by first | exact hc2 | exact hc3) rfl rfl ?_
  refine v_conv_ii lay5 lay2 rfl (i64r (by first | omega | (rw [hws]; omega))) ?_
  refine v_sub lay2 rfl rfl (i64r (by omega)) ?_
  refine v_rem lay2 rfl rfl (by decide) ?_
  refine v_neq lay2 rfl rfl (fun h18 => ?_) (fun h18 => ?_)
  rotate_left
  · refine v_nil ?_
    refine q_n ?_
    refine w_f rfl ?_
    refine w_skip ?_
    refine q_n ?_
    refine w_seq ?_
    refine w_reg rfl ?_
    refine v_assign (c := .v (.bool true)) rfl ?_
    refine v_nil ?_
    refine q_n ?_
    refine w_ret ?_
    refine r_r rfl ?_
    exact tr_v
  have hne := h18
  rw [hws] at hne
  have hrd := rd_bent k1 hc2 hw hne
  refine v_nil ?_
  refine q_n ?_
  refine w_t rfl ?_
  refine w_seq ?_
  refine w_reg rfl ?_
  refine v_move rfl ?_
  refine v_eql lay2 rfl rfl (fun h19 => ?_) (fun h19 => ?_)
  · refine v_move rfl ?_
    refine v_guard_off rfl rfl rfl ?_
    refine v_guard_off rfl rfl rfl ?_
    refine v_pick_t (v := .v (.bool true)) rfl rfl ?_
    refine v_assign rfl ?_
    refine v_nil ?_
    refine q_n ?_
    refine w_ret (q_r ?_)
    refine r_r rfl ?_
    exact tr_v
  refine v_move rfl ?_
  refine v_guard_on rfl rfl ?_
  refine v_move rfl ?_
  refine v_guard_on rfl rfl ?_
  refine v_eql lay2 rfl rfl (fun h20 => ?_) (fun h20 => ?_)
  rotate_left
  · exfalso; omega
  refine v_pick_f rfl rfl ?_
  refine v_assign rfl ?_
  refine v_nil ?_
  refine q_n ?_
  refine w_ret (q_r ?_)
  refine r_r rfl ?_
  exact tr_v
end Go.VL
namespace Go.VL
open Go.RowKit
set_option maxRecDepth 20000
set_option maxHeartbeats 8000000
abbrev ta (xs : List Tal) (i : Nat) : Tal := xs.getD i (0, 0, 0)
/-- Has it told the same before, and not nothing? -/
def stk (xs : List Tal) (i : Nat) : Bool := decide (0 < i ∧ ¬ (ta xs i).2.1 = 0 ∧ (ta xs (i - 1)).2.1 = (ta xs i).2.1 ∧ (ta xs (i - 1)).2.2 = (ta xs i).2.2)
def rn (xs : List Tal) (i : Nat) : Int := if i = 0 then 0 else if (ta xs (i - 1)).2.1 = 0 then 0 else 1
noncomputable def fsR (xs : List Tal) : Int × Int := open Classical in if h : ∃ i, i < xs.length ∧ stk xs i = true ∧ ∀ j, j < i → stk xs j = false then ((ta xs h.choose).1, 0) else (0, 6)
theorem fs_hit {xs : List Tal} {i : Nat} (hi : i < xs.length) (hp : ∀ j, j < i → stk xs j = false) (h : stk xs i = true) : fsR xs = (xs[i].1, 0) := by
  have hex : ∃ i, i < xs.length ∧ stk xs i = true ∧ ∀ j, j < i → stk xs j = false := ⟨i, hi, h, hp⟩
  unfold fsR
  rw [dif_pos hex]
  obtain ⟨-, h2, h3⟩ := hex.choose_spec
  have e : hex.choose = i := by
    rcases Nat.lt_trichotomy hex.choose i with h4 | h4 | h4
    · rw [hp _ h4] at h2; cases h2
    · exact h4
    · rw [h3 _ h4] at h; cases h
  rw [e, ta, getD_at hi]
theorem fs_none {xs : List Tal} (hp : ∀ j, j < xs.length → stk xs j = false) : fsR xs = (0, 6) := by
  unfold fsR
  rw [dif_neg]
  rintro ⟨i, h1, h2, -⟩
  rw [hp i h1] at h2
  cases h2
theorem stk_step {xs : List Tal} {i : Nat} (hp : ∀ j, j < i → stk xs j = false) (h : stk xs i = false) : ∀ j, j < i + 1 → stk xs j = false := fun j hj => by
  by_cases e : j = i
  · rw [e]; exact h
  · exact hp j (by omega)
section
variable {xs : List Tal} {i q : Nat}
theorem stk_0 (h : ¬ (0 : Int) < i) : stk xs i = false := decide_eq_false fun ⟨h1, _⟩ => by omega
theorem stk_z (hi : i < xs.length) (h : xs[i].2.1 = 0) : stk xs i = false := decide_eq_false fun ⟨_, h2, _⟩ => h2 (by rw [ta, getD_at hi]; exact h)
theorem stk_r (h : ¬ 0 < rn xs i) : stk xs i = false := decide_eq_false fun ⟨h1, h2, h3, _⟩ => h (by
  unfold rn
  rw [if_neg (by omega), if_neg (by rw [h3]; exact h2)]
  decide)
theorem stk_c (hi : q + 1 < xs.length) (hq : q < xs.length) (h : ¬ xs[q].2.1 = xs[q + 1].2.1) : stk xs (q + 1) = false := decide_eq_false fun ⟨_, _, h3, _⟩ => h (by
  rw [Nat.add_sub_cancel, ta, ta, getD_at hi, getD_at hq] at h3
  exact h3)
theorem stk_f (hi : q + 1 < xs.length) (hq : q < xs.length) (h : ¬ xs[q].2.2 = xs[q + 1].2.2) : stk xs (q + 1) = false := decide_eq_false fun ⟨_, _, _, h4⟩ => h (by
  rw [Nat.add_sub_cancel, ta, ta, getD_at hi, getD_at hq] at h4
  exact h4)
theorem stk_t (hi : q + 1 < xs.length) (hq : q < xs.length) (h0 : ¬ xs[q + 1].2.1 = 0) (h1 : xs[q].2.1 = xs[q + 1].2.1) (h2 : xs[q].2.2 = xs[q + 1].2.2) : stk xs (q + 1) = true := decide_eq_true (by
  rw [Nat.add_sub_cancel, ta, ta, getD_at hi, getD_at hq]
  exact ⟨by omega, h0, h1, h2⟩)
theorem rn_z (hi : i < xs.length) (h : xs[i].2.1 = 0) : (0 : Int) = rn xs (i + 1) := by
  unfold rn
  rw [if_neg (by omega), Nat.add_sub_cancel, ta, getD_at hi, if_pos h]
theorem rn_1 (hi : i < xs.length) (h : ¬ xs[i].2.1 = 0) : (1 : Int) = rn xs (i + 1) := by
  unfold rn
  rw [if_neg (by omega), Nat.add_sub_cancel, ta, getD_at hi, if_neg h]
theorem rn_q (hi : q + 1 < xs.length) (hq : q < xs.length) (h0 : ¬ xs[q + 1].2.1 = 0) (h1 : xs[q].2.1 = xs[q + 1].2.1) : rn xs (q + 1) = 1 := by
  rw [← rn_1 hq (by rw [h1]; exact h0)]
theorem rn_pos (h : 0 < rn xs i) : ∃ q, i = q + 1 := by
  unfold rn at h
  split at h
  · exact absurd h (by decide)
  · exact ⟨i - 1, by omega⟩
theorem rn_rng : 0 ≤ rn xs i ∧ rn xs i ≤ 1 := by
  unfold rn
  split
  · decide
  · split <;> decide
end
theorem a_2p {H : List Ob} {a b : Int} {r : Int × Int} (h : r = (a, b)) : TrV H [] (.tup [cI a, cI b]) (.tup [cI r.1, cI r.2]) := by
  rw [h]
  exact a_tup (.cons tr_v (.cons tr_v .nil))
theorem c52 (xs : List Tal) (hk : okL xs) (hb : T16 xs) (hx : xs.length ≤ 2 ^ 40) : PureC X 52 [.c (tals false xs), cI 2] (.tup [cI (fsR xs).1, cI (fsR xs).2]) := by
  refine PureC.of_body (drawD_ok X) (fun _ _ => Go.Proofs.Try.call52 _ _) Go.Proofs.Try.func52 rfl (n := 67) rfl ?_
  refine w_seq ?_
  refine w_reg rfl ?_
  refine v_assign (c := .v (.int .i64 0)) rfl ?_
  refine v_assign (c := .v (.int .i64 0)) rfl ?_
  refine v_nil ?_
  refine q_n ?_
  refine w_seq ?_
  refine w_seq ?_
  refine w_reg rfl ?_
  refine v_move rfl ?_
  refine v_callb (c58 _ (by omega) (by assumption)) rfl rfl (.cons vw_sl .nil) (fun h1 => ?_) (fun h1 => ?_)
  rotate_left
  · exact absurd hk h1
  refine v_not false rfl rfl ?_
  refine v_call (c65 _ _) rfl rfl rfl (.cons vw_v (.cons vw_v .nil)) ?_
  refine v_move rfl ?_
  refine v_callb (c81 _) rfl rfl (.cons vw_v .nil) (fun h2 => ?_) (fun h2 => ?_)
  rotate_left
  · exact absurd (by omega) h2
  refine v_not false rfl rfl ?_
  refine v_call (c65 _ _) rfl rfl rfl (.cons vw_v (.cons vw_v .nil)) ?_
  refine v_lit (flat int [_, _]) (H' := [_]) lay118 lay2 rfl rfl ⟨by decide, by decide⟩ rfl rfl ?_
  refine v_call (c64 [_, _] (Nat.le_of_ble_eq_true rfl)) rfl rfl rfl (.cons (vw_mu2 int_sc int_len rfl (by first | (simp; done) | (simp; omega))) .nil) ?_
  refine v_assign rfl ?_
  refine v_nil ?_
  refine q_n ?_
  refine w_seq ?_
  refine w_reg rfl ?_
  refine v_move rfl ?_
  refine v_neq lay2 rfl rfl (fun h3 => ?_) (fun h3 => ?_)
  · exact absurd (by rfl) h3
  refine v_nil ?_
  refine q_n ?_
  refine w_f rfl ?_
  refine w_skip ?_
  refine q_n ?_
  refine w_seq ?_
  refine w_reg rfl ?_
  refine v_assign (c := .v (.int .i64 0)) rfl ?_
  refine v_nil ?_
  refine q_n ?_
  refine w_seq ?_
  refine w_seq ?_
  refine w_reg rfl ?_
  refine v_move rfl ?_
  refine v_len_sl lay40 rfl ?_
  refine v_move (c := .v (.int .i64 0)) rfl ?_
  refine v_nil ?_
  refine q_n ?_
  refine w_block ?_
  refine w_loop (fun k sl H => ∃ i : Nat, k = xs.length - i ∧ i ≤ xs.length ∧ (∀ j, j < i → stk xs j = false) ∧ sl = sls [(0, .c (tals false xs)), (1, cI 2), (7, cI (rn xs i)), (23, .c (tals false xs)), (24, cI xs.length), (25, cI i)] ∧ H = []) ?_ ?_
  · refine ⟨_, _, _, ?_, 0, rfl, Nat.zero_le _, (fun j hj => by omega), rfl, rfl⟩
    exact turn0 ⟨tr_sl, tr_v, tr_v, tr_sl, tr_v, tr_v, trivial⟩
  rintro k sl H ⟨i, rfl, hi, hp, rfl, rfl⟩
  have hrr := rn_rng (xs := xs) (i := i)
  refine w_seq ?_
  refine w_reg rfl ?_
  refine v_lss lay3 rfl rfl (fun h4 => ?_) (fun h4 => ?_)
  rotate_left
  · refine v_nil ?_
    refine q_n ?_
    refine w_seq ?_
    refine w_f rfl ?_
    refine w_exit ?_
    refine q_e ?_
    refine q_e ?_
    refine q_hit ?_
    refine q_n ?_
    refine w_seq ?_
    refine w_reg rfl ?_
    refine v_assign (c := .v (.int .i64 0)) rfl ?_
    refine v_assign (c := .v (.int .i64 6)) rfl ?_
    refine v_nil ?_
    refine q_n ?_
    refine w_ret ?_
    refine r_r rfl ?_
    obtain rfl : i = xs.length := by omega
    exact a_2p (fs_none hp)
  have hi1 : i < xs.length := by omega
  refine v_nil ?_
  refine q_n ?_
  refine w_seq ?_
  refine w_t rfl ?_
  refine w_skip ?_
  refine q_n ?_
  refine w_seq ?_
  refine w_block ?_
  refine w_seq ?_
  refine w_reg rfl ?_
  refine v_move rfl ?_
  refine v_idx_e (k := 3) (i) te_len lay40 lay27 rfl rfl rfl (rfl) rfl (rfl) (hi1) ?_
  refine v_load_vw (.agg [.v _, .v _, .v _]) lay27 rfl rfl rfl ?_
  refine v_alloc (m := 0) (H' := [⟨[.v _, .v _, .v _], 27, true⟩]) lay27 rfl rfl ?_
  refine v_assign rfl ?_
  refine v_store (H' := [⟨[_, _, _], 27, true⟩]) lay27 rfl rfl rfl rfl rfl rfl ?_
  refine v_nil ?_
  refine q_n ?_
  refine w_seq ?_
  refine w_block ?_
  refine w_seq ?_
  refine w_reg rfl ?_
  refine v_fa_pt (off' := 1) lay27 rfl rfl rfl ?_
  refine v_load_pt (.c _) lay23 rfl rfl rfl rfl ?_
  refine v_eql lay23 rfl rfl (fun h6 => ?_) (fun h6 => ?_)
  · have hz := h6
    refine v_assign rfl ?_
    refine v_nil ?_
    refine q_n ?_
    refine w_t rfl ?_
    refine w_reg rfl ?_
    refine v_assign (c := .v (.int .i64 0)) rfl ?_
    refine v_nil ?_
    refine q_bn ?_
    refine q_n ?_
    refine w_seq ?_
    refine w_reg rfl ?_
    refine v_move rfl ?_
    refine v_move rfl ?_
    refine v_geq lay2 rfl rfl (fun h7 => ?_) (fun h7 => ?_)
    · exfalso; omega
    refine v_nil ?_
    refine q_n ?_
    refine w_f rfl ?_
    refine w_skip ?_
    refine q_bn ?_
    refine q_n ?_
    refine w_reg rfl ?_
    refine v_add lay3 rfl rfl (i64r (by omega)) ?_
    refine v_move rfl ?_
    refine v_nil ?_
    refine q_n ?_
    refine ⟨_, _, _, ?_, ⟨i + 1, rfl, by omega, stk_step hp (stk_z hi1 hz), rfl, rfl⟩, by omega⟩
    exact turn0 ⟨tr_sl, tr_v, tr_i (rn_z hi1 hz), tr_sl, tr_v, tr_v, trivial⟩
  have hz := h6
  refine v_assign rfl ?_
  refine v_nil ?_
  refine q_n ?_
  refine w_f rfl ?_
  refine w_seq ?_
  refine w_draw [0, 1, 3, 7, 15, 7, 7, 71, 231, 487, 999, 2047, 4095, 8191, 16383, 32767, 16383, 16383, 147455, 475135, 999423, 2047999, 4194303, 8388607, 16777215] [⟨0, 0, []⟩, ⟨1, 0, []⟩, ⟨2, 0, []⟩, ⟨3, 0, []⟩, ⟨4, 0, []⟩, ⟨5, 0, []⟩, ⟨6, 0, []⟩, ⟨7, 0, []⟩, ⟨8, 0, []⟩, ⟨9, 0, []⟩, ⟨10, 0, []⟩, ⟨11, 0, []⟩, ⟨12, 0, []⟩, ⟨13, 0, []⟩, ⟨14, 0, []⟩, ⟨15, 0, []⟩, ⟨16, 0, []⟩, ⟨17, 0, []⟩, ⟨18, 0, []⟩, ⟨19, 0, []⟩, ⟨20, 0, []⟩, ⟨21, 0, []⟩, ⟨22, 0, []⟩, ⟨23, 0, []⟩, ⟨24, 0, []⟩] rfl rfl ?_
  refine d_q rfl rfl rfl rfl rfl ?_
  refine v_move rfl ?_
  refine v_nil ?_
  refine d_q rfl rfl rfl rfl rfl ?_
  refine v_gtr lay3 rfl rfl (fun h8 => ?_) (fun h8 => ?_)
  rotate_left
  · have hs1 := h8
    refine v_nil ?_
    refine d_q rfl rfl rfl rfl rfl ?_
    refine v_move rfl ?_
    refine v_nil ?_
    refine d_off rfl rfl ?_
    refine d_off rfl rfl ?_
    refine d_off rfl rfl ?_
    refine d_off rfl rfl ?_
    refine d_off rfl rfl ?_
    refine d_off rfl rfl ?_
    refine d_off rfl rfl ?_
    refine d_off rfl rfl ?_
    refine d_off rfl rfl ?_
    refine d_q rfl rfl rfl rfl rfl ?_
    refine v_pick_f (v := .v (.bool false)) rfl rfl ?_
    refine v_nil ?_
    refine d_q rfl rfl rfl rfl rfl ?_
    refine v_move rfl ?_
    refine v_nil ?_
    refine d_off rfl rfl ?_
    refine d_off rfl rfl ?_
    refine d_off rfl rfl ?_
    refine d_off rfl rfl ?_
    refine d_off rfl rfl ?_
    refine d_off rfl rfl ?_
    refine d_off rfl rfl ?_
    refine d_off rfl rfl ?_
    refine d_off rfl rfl ?_
    refine d_q rfl rfl rfl rfl rfl ?_
    refine v_pick_f (v := .v (.bool false)) rfl rfl ?_
    refine v_nil ?_
    refine d_q rfl rfl rfl rfl rfl ?_
    refine v_assign rfl ?_
    refine v_nil ?_
    refine d_nil ?_
    refine q_n ?_
    refine w_f rfl ?_
    refine w_reg rfl ?_
    refine v_assign (c := .v (.int .i64 1)) rfl ?_
    refine v_nil ?_
    refine q_bn ?_
    refine q_n ?_
    refine w_seq ?_
    refine w_reg rfl ?_
    refine v_move rfl ?_
    refine v_move rfl ?_
    refine v_geq lay2 rfl rfl (fun h16 => ?_) (fun h16 => ?_)
    · exfalso; omega
    refine v_nil ?_
    refine q_n ?_
    refine w_f rfl ?_
    refine w_skip ?_
    refine q_bn ?_
    refine q_n ?_
    refine w_reg rfl ?_
    refine v_add lay3 rfl rfl (i64r (by omega)) ?_
    refine v_move rfl ?_
    refine v_nil ?_
    refine q_n ?_
    refine ⟨_, _, _, ?_, ⟨i + 1, rfl, by omega, stk_step hp (stk_0 hs1), rfl, rfl⟩, by omega⟩
    exact turn0 ⟨tr_sl, tr_v, tr_i (rn_1 hi1 hz), tr_sl, tr_v, tr_v, trivial⟩
  have hs1 := h8
  obtain ⟨q, rfl⟩ : ∃ q, i = q + 1 := ⟨i - 1, by omega⟩
  have hq1 : q < xs.length := by omega
  refine v_nil ?_
  refine d_q rfl rfl rfl rfl rfl ?_
  refine v_move rfl ?_
  refine v_nil ?_
  refine d_q rfl rfl rfl rfl rfl ?_
  refine v_fa_pt (off' := 1) lay27 rfl rfl rfl ?_
  refine v_nil ?_
  refine d_q rfl rfl rfl rfl rfl ?_
  refine v_load_pt (.c _) lay23 rfl rfl rfl rfl ?_
  refine v_nil ?_
  refine d_q rfl rfl rfl rfl rfl ?_
  refine v_move rfl ?_
  refine v_nil ?_
  refine d_q rfl rfl rfl rfl rfl ?_
  refine v_move rfl ?_
  refine v_nil ?_
  refine d_q rfl rfl rfl rfl rfl ?_
  refine v_sub lay3 rfl rfl (i64r (by omega)) ?_
  refine v_nil ?_
  refine d_q rfl rfl rfl rfl rfl ?_
  refine v_idx_e (k := 3) (q) te_len lay40 lay27 rfl rfl rfl (rfl) rfl (by omega) (hq1) ?_
  refine v_nil ?_
  refine d_q rfl rfl rfl rfl rfl ?_
  refine v_fa_vw (off' := 1) lay27 rfl rfl rfl ?_
  refine v_nil ?_
  refine d_q rfl rfl rfl rfl rfl ?_
  refine v_load_vw (.c (.v _)) lay23 rfl rfl rfl ?_
  refine v_nil ?_
  refine d_q rfl rfl rfl rfl rfl ?_
  refine v_eql lay23 rfl rfl (fun h10 => ?_) (fun h10 => ?_)
  rotate_left
  · have hs2 := h10
    refine v_nil ?_
    refine d_q rfl rfl rfl rfl rfl ?_
    refine v_pick_t rfl rfl ?_
    refine v_nil ?_
    refine d_q rfl rfl rfl rfl rfl ?_
    refine v_move rfl ?_
    refine v_nil ?_
    refine d_off rfl rfl ?_
    refine d_off rfl rfl ?_
    refine d_off rfl rfl ?_
    refine d_off rfl rfl ?_
    refine d_off rfl rfl ?_
    refine d_off rfl rfl ?_
    refine d_off rfl rfl ?_
    refine d_off rfl rfl ?_
    refine d_off rfl rfl ?_
    refine d_q rfl rfl rfl rfl rfl ?_
    refine v_pick_f (v := .v (.bool false)) rfl rfl ?_
    refine v_nil ?_
    refine d_q rfl rfl rfl rfl rfl ?_
    refine v_assign rfl ?_
    refine v_nil ?_
    refine d_nil ?_
    refine q_n ?_
    refine w_f rfl ?_
    refine w_reg rfl ?_
    refine v_assign (c := .v (.int .i64 1)) rfl ?_
    refine v_nil ?_
    refine q_bn ?_
    refine q_n ?_
    refine w_seq ?_
    refine w_reg rfl ?_
    refine v_move rfl ?_
    refine v_move rfl ?_
    refine v_geq lay2 rfl rfl (fun h15 => ?_) (fun h15 => ?_)
    · exfalso; omega
    refine v_nil ?_
    refine q_n ?_
    refine w_f rfl ?_
    refine w_skip ?_
    refine q_bn ?_
    refine q_n ?_
    refine w_reg rfl ?_
    refine v_add lay3 rfl rfl (i64r (by omega)) ?_
    refine v_move rfl ?_
    refine v_nil ?_
    refine q_n ?_
    refine ⟨_, _, _, ?_, ⟨q + 1 + 1, rfl, by omega, stk_step hp (stk_c hi1 hq1 (fun h => hs2 h.symm)), rfl, rfl⟩, by omega⟩
    exact turn0 ⟨tr_sl, tr_v, tr_i (rn_1 hi1 hz), tr_sl, tr_v, tr_v, trivial⟩
  have hs2 := h10
  have hr1 := rn_q hi1 hq1 hz hs2.symm
  refine v_nil ?_
  refine d_q rfl rfl rfl rfl rfl ?_
  refine v_pick_t rfl rfl ?_
  refine v_nil ?_
  refine d_q rfl rfl rfl rfl rfl ?_
  refine v_move rfl ?_
  refine v_nil ?_
  refine d_q rfl rfl rfl rfl rfl ?_
  refine v_fa_pt (off' := 2) lay27 rfl rfl rfl ?_
  refine v_nil ?_
  refine d_q rfl rfl rfl rfl rfl ?_
  refine v_load_pt (.c _) lay23 rfl rfl rfl rfl ?_
  refine v_nil ?_
  refine d_q rfl rfl rfl rfl rfl ?_
  refine v_move rfl ?_
  refine v_nil ?_
  refine d_q rfl rfl rfl rfl rfl ?_
  refine v_move rfl ?_
  refine v_nil ?_
  refine d_q rfl rfl rfl rfl rfl ?_
  refine v_sub lay3 rfl rfl (i64r (by omega)) ?_
  refine v_nil ?_
  refine d_q rfl rfl rfl rfl rfl ?_
  refine v_idx_e (k := 3) (q) te_len lay40 lay27 rfl rfl rfl (rfl) rfl (by omega) (hq1) ?_
  refine v_nil ?_
  refine d_q rfl rfl rfl rfl rfl ?_
  refine v_fa_vw (off' := 2) lay27 rfl rfl rfl ?_
  refine v_nil ?_
  refine d_q rfl rfl rfl rfl rfl ?_
  refine v_load_vw (.c (.v _)) lay23 rfl rfl rfl ?_
  refine v_nil ?_
  refine d_q rfl rfl rfl rfl rfl ?_
  refine v_eql lay23 rfl rfl (fun h12 => ?_) (fun h12 => ?_)
  rotate_left
  · have hs3 := h12
    refine v_nil ?_
    refine d_q rfl rfl rfl rfl rfl ?_
    refine v_pick_t rfl rfl ?_
    refine v_nil ?_
    refine d_q rfl rfl rfl rfl rfl ?_
    refine v_assign rfl ?_
    refine v_nil ?_
    refine d_nil ?_
    refine q_n ?_
    refine w_f rfl ?_
    refine w_reg rfl ?_
    refine v_assign (c := .v (.int .i64 1)) rfl ?_
    refine v_nil ?_
    refine q_bn ?_
    refine q_n ?_
    refine w_seq ?_
    refine w_reg rfl ?_
    refine v_move rfl ?_
    refine v_move rfl ?_
    refine v_geq lay2 rfl rfl (fun h14 => ?_) (fun h14 => ?_)
    · exfalso; omega
    refine v_nil ?_
    refine q_n ?_
    refine w_f rfl ?_
    refine w_skip ?_
    refine q_bn ?_
    refine q_n ?_
    refine w_reg rfl ?_
    refine v_add lay3 rfl rfl (i64r (by omega)) ?_
    refine v_move rfl ?_
    refine v_nil ?_
    refine q_n ?_
    refine ⟨_, _, _, ?_, ⟨q + 1 + 1, rfl, by omega, stk_step hp (stk_f hi1 hq1 (fun h => hs3 h.symm)), rfl, rfl⟩, by omega⟩
    exact turn0 ⟨tr_sl, tr_v, tr_i (rn_1 hi1 hz), tr_sl, tr_v, tr_v, trivial⟩
  have hs3 := h12
  refine v_nil ?_
  refine d_q rfl rfl rfl rfl rfl ?_
  refine v_pick_t rfl rfl ?_
  refine v_nil ?_
  refine d_q rfl rfl rfl rfl rfl ?_
  refine v_assign rfl ?_
  refine v_nil ?_
  refine d_nil ?_
  refine q_n ?_
  refine w_t rfl ?_
  refine w_reg rfl ?_
  refine v_move rfl ?_
  refine v_add lay2 rfl rfl (i64r (by omega)) ?_
  refine v_assign rfl ?_
  refine v_nil ?_
  refine q_bn ?_
  refine q_n ?_
  refine w_seq ?_
  refine w_reg rfl ?_
  refine v_move rfl ?_
  refine v_move rfl ?_
  refine v_geq lay2 rfl rfl (fun h13 => ?_) (fun h13 => ?_)
  rotate_left
  · exfalso; omega
  refine v_nil ?_
  refine q_n ?_
  refine w_t rfl ?_
  refine w_seq ?_
  refine w_reg rfl ?_
  refine v_fa_pt (off' := 0) lay27 rfl rfl rfl ?_
  refine v_load_pt (.c _) lay2 rfl rfl rfl rfl ?_
  refine v_assign rfl ?_
  refine v_assign (c := .v (.int .i64 0)) rfl ?_
  refine v_nil ?_
  refine q_n ?_
  refine w_ret (q_br (q_r (q_r (q_br (q_r ?_)))))
  refine r_r rfl ?_
  exact a_2p (fs_hit hi1 hp (stk_t hi1 hq1 hz hs2.symm hs3.symm))
theorem c53 (xs : List Tal) (hk : okL xs) (hx : xs.length ≤ 2 ^ 40) : PureC X 53 [.c (tals false xs), cI 2] (.tup [cI (fsR xs).1, cI (fsR xs).2]) := by
  refine PureC.of_body (drawD_ok X) (fun _ _ => Go.Proofs.Try.call53 _ _) Go.Proofs.Try.func53 rfl (n := 68) rfl ?_
  refine w_seq ?_
  refine w_reg rfl ?_
  refine v_assign (c := .v (.int .i64 0)) rfl ?_
  refine v_assign (c := .v (.int .i64 0)) rfl ?_
  refine v_nil ?_
  refine q_n ?_
  refine w_seq ?_
  refine w_seq ?_
  refine w_reg rfl ?_
  refine v_move rfl ?_
  refine v_callb (c70 _ (by omega)) rfl rfl (.cons vw_sl .nil) (fun h1 => ?_) (fun h1 => ?_)
  rotate_left
  · exact absurd hk h1
  refine v_not false rfl rfl ?_
  refine v_nil ?_
  refine q_n ?_
  refine w_f rfl ?_
  refine w_skip ?_
  refine q_n ?_
  refine w_seq ?_
  refine w_seq ?_
  refine w_reg rfl ?_
  refine v_move rfl ?_
  refine v_callb (c78 _) rfl rfl (.cons vw_v .nil) (fun h2 => ?_) (fun h2 => ?_)
  rotate_left
  · exact absurd (by omega) h2
  refine v_not false rfl rfl ?_
  refine v_nil ?_
  refine q_n ?_
  refine w_f rfl ?_
  refine w_skip ?_
  refine q_n ?_
  refine w_seq ?_
  refine w_reg rfl ?_
  refine v_assign (c := .v (.int .i64 0)) rfl ?_
  refine v_nil ?_
  refine q_n ?_
  refine w_seq ?_
  refine w_seq ?_
  refine w_reg rfl ?_
  refine v_assign (c := .v (.int .i64 0)) rfl ?_
  refine v_nil ?_
  refine q_n ?_
  refine w_block ?_
  refine w_loop (fun k sl H => ∃ i : Nat, k = xs.length - i ∧ i ≤ xs.length ∧ (∀ j, j < i → stk xs j = false) ∧ sl = sls [(0, .c (tals false xs)), (1, cI 2), (6, cI (rn xs i)), (7, cI i)] ∧ H = []) ?_ ?_
  · refine ⟨_, _, _, ?_, 0, rfl, Nat.zero_le _, (fun j hj => by omega), rfl, rfl⟩
    exact turn0 ⟨tr_sl, tr_v, tr_v, tr_v, trivial⟩
  rintro k sl H ⟨i, rfl, hi, hp, rfl, rfl⟩
  have hrr := rn_rng (xs := xs) (i := i)
  refine w_seq ?_
  refine w_seq ?_
  refine w_reg rfl ?_
  refine v_move rfl ?_
  refine v_move rfl ?_
  refine v_len_sl lay40 rfl ?_
  refine v_lss lay3 rfl rfl (fun h3 => ?_) (fun h3 => ?_)
  rotate_left
  · refine v_nil ?_
    refine q_n ?_
    refine w_f rfl ?_
    refine w_exit ?_
    refine q_e ?_
    refine q_e ?_
    refine q_hit ?_
    refine q_n ?_
    refine w_seq ?_
    refine w_reg rfl ?_
    refine v_assign (c := .v (.int .i64 0)) rfl ?_
    refine v_assign (c := .v (.int .i64 6)) rfl ?_
    refine v_nil ?_
    refine q_n ?_
    refine w_ret ?_
    refine r_r rfl ?_
    obtain rfl : i = xs.length := by omega
    exact a_2p (fs_none hp)
  have hi1 : i < xs.length := by omega
  refine v_nil ?_
  refine q_n ?_
  refine w_t rfl ?_
  refine w_skip ?_
  refine q_n ?_
  refine w_seq ?_
  refine w_block ?_
  refine w_seq ?_
  refine w_reg rfl ?_
  refine v_move rfl ?_
  refine v_move rfl ?_
  refine v_idx_e (k := 3) (i) te_len lay40 lay27 rfl rfl rfl (rfl) rfl (rfl) (hi1) ?_
  refine v_assign rfl ?_
  refine v_nil ?_
  refine q_n ?_
  refine w_seq ?_
  refine w_block ?_
  refine w_seq ?_
  refine w_reg rfl ?_
  refine v_move rfl ?_
  refine v_nil_vw rfl ?_
  refine v_fa_vw (off' := 1) lay27 rfl rfl rfl ?_
  refine v_load_vw (.c (.v _)) lay23 rfl rfl rfl ?_
  refine v_eql lay23 rfl rfl (fun h5 => ?_) (fun h5 => ?_)
  · have hz := h5
    refine v_assign rfl ?_
    refine v_nil ?_
    refine q_n ?_
    refine w_t rfl ?_
    refine w_reg rfl ?_
    refine v_assign (c := .v (.int .i64 0)) rfl ?_
    refine v_nil ?_
    refine q_bn ?_
    refine q_n ?_
    refine w_seq ?_
    refine w_reg rfl ?_
    refine v_move rfl ?_
    refine v_move rfl ?_
    refine v_eql lay2 rfl rfl (fun h6 => ?_) (fun h6 => ?_)
    · exfalso; omega
    refine v_nil ?_
    refine q_n ?_
    refine w_f rfl ?_
    refine w_skip ?_
    refine q_bn ?_
    refine q_n ?_
    refine w_reg rfl ?_
    refine v_move rfl ?_
    refine v_add lay3 rfl rfl (i64r (by omega)) ?_
    refine v_assign rfl ?_
    refine v_nil ?_
    refine q_n ?_
    refine ⟨_, _, _, ?_, ⟨i + 1, rfl, by omega, stk_step hp (stk_z hi1 hz), rfl, rfl⟩, by omega⟩
    exact turn0 ⟨tr_sl, tr_v, tr_i (rn_z hi1 hz), tr_v, trivial⟩
  have hz := h5
  refine v_assign rfl ?_
  refine v_nil ?_
  refine q_n ?_
  refine w_f rfl ?_
  refine w_seq ?_
  refine w_draw [0, 1, 3, 7, 7, 23, 63, 127, 255, 7, 519, 1543, 3591, 8191, 16383, 32767, 65535, 65535, 196607, 524287, 1048575, 2097151, 65535, 4259839, 12648447, 29425663, 67108863, 134217727, 268435455] [⟨0, 0, []⟩, ⟨1, 0, []⟩, ⟨2, 0, []⟩, ⟨3, 0, []⟩, ⟨4, 0, []⟩, ⟨5, 0, []⟩, ⟨6, 0, []⟩, ⟨7, 0, []⟩, ⟨8, 0, []⟩, ⟨9, 0, []⟩, ⟨10, 0, []⟩, ⟨11, 0, []⟩, ⟨12, 0, []⟩, ⟨13, 0, []⟩, ⟨14, 0, []⟩, ⟨15, 0, []⟩, ⟨16, 0, []⟩, ⟨17, 0, []⟩, ⟨18, 0, []⟩, ⟨19, 0, []⟩, ⟨20, 0, []⟩, ⟨21, 0, []⟩, ⟨22, 0, []⟩, ⟨23, 0, []⟩, ⟨24, 0, []⟩, ⟨25, 0, []⟩, ⟨26, 0, []⟩, ⟨27, 0, []⟩, ⟨28, 0, []⟩] rfl rfl ?_
  refine d_q rfl rfl rfl rfl rfl ?_
  refine v_move rfl ?_
  refine v_nil ?_
  refine d_q rfl rfl rfl rfl rfl ?_
  refine v_gtr lay2 rfl rfl (fun h7 => ?_) (fun h7 => ?_)
  rotate_left
  · have hs1 := h7
    refine v_nil ?_
    refine d_q rfl rfl rfl rfl rfl ?_
    refine v_move rfl ?_
    refine v_nil ?_
    refine d_off rfl rfl ?_
    refine d_off rfl rfl ?_
    refine d_off rfl rfl ?_
    refine d_off rfl rfl ?_
    refine d_off rfl rfl ?_
    refine d_off rfl rfl ?_
    refine d_off rfl rfl ?_
    refine d_off rfl rfl ?_
    refine d_off rfl rfl ?_
    refine d_off rfl rfl ?_
    refine d_off rfl rfl ?_
    refine d_q rfl rfl rfl rfl rfl ?_
    refine v_pick_f (v := .v (.bool false)) rfl rfl ?_
    refine v_nil ?_
    refine d_q rfl rfl rfl rfl rfl ?_
    refine v_move rfl ?_
    refine v_nil ?_
    refine d_off rfl rfl ?_
    refine d_off rfl rfl ?_
    refine d_off rfl rfl ?_
    refine d_off rfl rfl ?_
    refine d_off rfl rfl ?_
    refine d_off rfl rfl ?_
    refine d_off rfl rfl ?_
    refine d_off rfl rfl ?_
    refine d_off rfl rfl ?_
    refine d_off rfl rfl ?_
    refine d_off rfl rfl ?_
    refine d_q rfl rfl rfl rfl rfl ?_
    refine v_pick_f (v := .v (.bool false)) rfl rfl ?_
    refine v_nil ?_
    refine d_q rfl rfl rfl rfl rfl ?_
    refine v_assign rfl ?_
    refine v_nil ?_
    refine d_nil ?_
    refine q_n ?_
    refine w_f rfl ?_
    refine w_reg rfl ?_
    refine v_assign (c := .v (.int .i64 1)) rfl ?_
    refine v_nil ?_
    refine q_bn ?_
    refine q_n ?_
    refine w_seq ?_
    refine w_reg rfl ?_
    refine v_move rfl ?_
    refine v_move rfl ?_
    refine v_eql lay2 rfl rfl (fun h15 => ?_) (fun h15 => ?_)
    · exfalso; omega
    refine v_nil ?_
    refine q_n ?_
    refine w_f rfl ?_
    refine w_skip ?_
    refine q_bn ?_
    refine q_n ?_
    refine w_reg rfl ?_
    refine v_move rfl ?_
    refine v_add lay3 rfl rfl (i64r (by omega)) ?_
    refine v_assign rfl ?_
    refine v_nil ?_
    refine q_n ?_
    refine ⟨_, _, _, ?_, ⟨i + 1, rfl, by omega, stk_step hp (stk_r hs1), rfl, rfl⟩, by omega⟩
    exact turn0 ⟨tr_sl, tr_v, tr_i (rn_1 hi1 hz), tr_v, trivial⟩
  have hs1 := h7
  obtain ⟨q, rfl⟩ := rn_pos hs1
  have hq1 : q < xs.length := by omega
  refine v_nil ?_
  refine d_q rfl rfl rfl rfl rfl ?_
  refine v_move rfl ?_
  refine v_nil ?_
  refine d_q rfl rfl rfl rfl rfl ?_
  refine v_move rfl ?_
  refine v_nil ?_
  refine d_q rfl rfl rfl rfl rfl ?_
  refine v_move rfl ?_
  refine v_nil ?_
  refine d_q rfl rfl rfl rfl rfl ?_
  refine v_sub lay3 rfl rfl (i64r (by omega)) ?_
  refine v_nil ?_
  refine d_q rfl rfl rfl rfl rfl ?_
  refine v_idx_e (k := 3) (q) te_len lay40 lay27 rfl rfl rfl (rfl) rfl (by omega) (hq1) ?_
  refine v_nil ?_
  refine d_q rfl rfl rfl rfl rfl ?_
  refine v_fa_vw (off' := 1) lay27 rfl rfl rfl ?_
  refine v_nil ?_
  refine d_q rfl rfl rfl rfl rfl ?_
  refine v_load_vw (.c (.v _)) lay23 rfl rfl rfl ?_
  refine v_nil ?_
  refine d_q rfl rfl rfl rfl rfl ?_
  refine v_move rfl ?_
  refine v_nil ?_
  refine d_q rfl rfl rfl rfl rfl ?_
  refine v_nil_vw rfl ?_
  refine v_nil ?_
  refine d_q rfl rfl rfl rfl rfl ?_
  refine v_fa_vw (off' := 1) lay27 rfl rfl rfl ?_
  refine v_nil ?_
  refine d_q rfl rfl rfl rfl rfl ?_
  refine v_load_vw (.c (.v _)) lay23 rfl rfl rfl ?_
  refine v_nil ?_
  refine d_q rfl rfl rfl rfl rfl ?_
  refine v_eql lay23 rfl rfl (fun h9 => ?_) (fun h9 => ?_)
  rotate_left
  · have hs2 := h9
    refine v_nil ?_
    refine d_q rfl rfl rfl rfl rfl ?_
    refine v_pick_t rfl rfl ?_
    refine v_nil ?_
    refine d_q rfl rfl rfl rfl rfl ?_
    refine v_move rfl ?_
    refine v_nil ?_
    refine d_off rfl rfl ?_
    refine d_off rfl rfl ?_
    refine d_off rfl rfl ?_
    refine d_off rfl rfl ?_
    refine d_off rfl rfl ?_
    refine d_off rfl rfl ?_
    refine d_off rfl rfl ?_
    refine d_off rfl rfl ?_
    refine d_off rfl rfl ?_
    refine d_off rfl rfl ?_
    refine d_off rfl rfl ?_
    refine d_q rfl rfl rfl rfl rfl ?_
    refine v_pick_f (v := .v (.bool false)) rfl rfl ?_
    refine v_nil ?_
    refine d_q rfl rfl rfl rfl rfl ?_
    refine v_assign rfl ?_
    refine v_nil ?_
    refine d_nil ?_
    refine q_n ?_
    refine w_f rfl ?_
    refine w_reg rfl ?_
    refine v_assign (c := .v (.int .i64 1)) rfl ?_
    refine v_nil ?_
    refine q_bn ?_
    refine q_n ?_
    refine w_seq ?_
    refine w_reg rfl ?_
    refine v_move rfl ?_
    refine v_move rfl ?_
    refine v_eql lay2 rfl rfl (fun h14 => ?_) (fun h14 => ?_)
    · exfalso; omega
    refine v_nil ?_
    refine q_n ?_
    refine w_f rfl ?_
    refine w_skip ?_
    refine q_bn ?_
    refine q_n ?_
    refine w_reg rfl ?_
    refine v_move rfl ?_
    refine v_add lay3 rfl rfl (i64r (by omega)) ?_
    refine v_assign rfl ?_
    refine v_nil ?_
    refine q_n ?_
    refine ⟨_, _, _, ?_, ⟨q + 1 + 1, rfl, by omega, stk_step hp (stk_c hi1 hq1 (fun h => hs2 h)), rfl, rfl⟩, by omega⟩
    exact turn0 ⟨tr_sl, tr_v, tr_i (rn_1 hi1 hz), tr_v, trivial⟩
  have hs2 := h9
  have hr1 := rn_q hi1 hq1 hz hs2
  refine v_nil ?_
  refine d_q rfl rfl rfl rfl rfl ?_
  refine v_pick_t rfl rfl ?_
  refine v_nil ?_
  refine d_q rfl rfl rfl rfl rfl ?_
  refine v_move rfl ?_
  refine v_nil ?_
  refine d_q rfl rfl rfl rfl rfl ?_
  refine v_move rfl ?_
  refine v_nil ?_
  refine d_q rfl rfl rfl rfl rfl ?_
  refine v_move rfl ?_
  refine v_nil ?_
  refine d_q rfl rfl rfl rfl rfl ?_
  refine v_sub lay3 rfl rfl (i64r (by omega)) ?_
  refine v_nil ?_
  refine d_q rfl rfl rfl rfl rfl ?_
  refine v_idx_e (k := 3) (q) te_len lay40 lay27 rfl rfl rfl (rfl) rfl (by omega) (hq1) ?_
  refine v_nil ?_
  refine d_q rfl rfl rfl rfl rfl ?_
  refine v_fa_vw (off' := 2) lay27 rfl rfl rfl ?_
  refine v_nil ?_
  refine d_q rfl rfl rfl rfl rfl ?_
  refine v_load_vw (.c (.v _)) lay23 rfl rfl rfl ?_
  refine v_nil ?_
  refine d_q rfl rfl rfl rfl rfl ?_
  refine v_move rfl ?_
  refine v_nil ?_
  refine d_q rfl rfl rfl rfl rfl ?_
  refine v_nil_vw rfl ?_
  refine v_nil ?_
  refine d_q rfl rfl rfl rfl rfl ?_
  refine v_fa_vw (off' := 2) lay27 rfl rfl rfl ?_
  refine v_nil ?_
  refine d_q rfl rfl rfl rfl rfl ?_
  refine v_load_vw (.c (.v _)) lay23 rfl rfl rfl ?_
  refine v_nil ?_
  refine d_q rfl rfl rfl rfl rfl ?_
  refine v_eql lay23 rfl rfl (fun h11 => ?_) (fun h11 => ?_)
  rotate_left
  · have hs3 := h11
    refine v_nil ?_
    refine d_q rfl rfl rfl rfl rfl ?_
    refine v_pick_t rfl rfl ?_
    refine v_nil ?_
    refine d_q rfl rfl rfl rfl rfl ?_
    refine v_assign rfl ?_
    refine v_nil ?_
    refine d_nil ?_
    refine q_n ?_
    refine w_f rfl ?_
    refine w_reg rfl ?_
    refine v_assign (c := .v (.int .i64 1)) rfl ?_
    refine v_nil ?_
    refine q_bn ?_
    refine q_n ?_
    refine w_seq ?_
    refine w_reg rfl ?_
    refine v_move rfl ?_
    refine v_move rfl ?_
    refine v_eql lay2 rfl rfl (fun h13 => ?_) (fun h13 => ?_)
    · exfalso; omega
    refine v_nil ?_
    refine q_n ?_
    refine w_f rfl ?_
    refine w_skip ?_
    refine q_bn ?_
    refine q_n ?_
    refine w_reg rfl ?_
    refine v_move rfl ?_
    refine v_add lay3 rfl rfl (i64r (by omega)) ?_
    refine v_assign rfl ?_
    refine v_nil ?_
    refine q_n ?_
    refine ⟨_, _, _, ?_, ⟨q + 1 + 1, rfl, by omega, stk_step hp (stk_f hi1 hq1 (fun h => hs3 h)), rfl, rfl⟩, by omega⟩
    exact turn0 ⟨tr_sl, tr_v, tr_i (rn_1 hi1 hz), tr_v, trivial⟩
  have hs3 := h11
  refine v_nil ?_
  refine d_q rfl rfl rfl rfl rfl ?_
  refine v_pick_t rfl rfl ?_
  refine v_nil ?_
  refine d_q rfl rfl rfl rfl rfl ?_
  refine v_assign rfl ?_
  refine v_nil ?_
  refine d_nil ?_
  refine q_n ?_
  refine w_t rfl ?_
  refine w_reg rfl ?_
  refine v_move rfl ?_
  refine v_add lay2 rfl rfl (i64r (by omega)) ?_
  refine v_assign rfl ?_
  refine v_nil ?_
  refine q_bn ?_
  refine q_n ?_
  refine w_seq ?_
  refine w_reg rfl ?_
  refine v_move rfl ?_
  refine v_move rfl ?_
  refine v_eql lay2 rfl rfl (fun h12 => ?_) (fun h12 => ?_)
  rotate_left
  · exfalso; omega
  refine v_nil ?_
  refine q_n ?_
  refine w_t rfl ?_
  refine w_seq ?_
  refine w_reg rfl ?_
  refine v_move rfl ?_
  refine v_nil_vw rfl ?_
  refine v_fa_vw (off' := 0) lay27 rfl rfl rfl ?_
  refine v_load_vw (.c (.v _)) lay2 rfl rfl rfl ?_
  refine v_assign rfl ?_
  refine v_assign (c := .v (.int .i64 0)) rfl ?_
  refine v_nil ?_
  refine q_n ?_
  refine w_ret (q_br (q_r (q_r (q_br (q_r ?_)))))
  refine r_r rfl ?_
  exact a_2p (fs_hit hi1 hp (stk_t hi1 hq1 hz hs2 hs3))
end Go.VL
namespace Go.VL
open Go.RowKit
section
variable {X : Cx} {all r : List Oper} {K : Sl → List Ob → Prop} {sl : Sl} {H : List Ob} {ty : TypeId} {ps : String} {af : Array Edge}
theorem v_clear {α : Type} {enc : α → List C} {ys : List α} {s : Operand} {t e : TypeId} {a b : Nat} {z : List Value} {L : Lay} {id m k : Nat} {tt : TypeId} (a0 : α) {H' : List Ob} (l : Nat) (he : ∀ a, (enc a).length = k) (hz : enc a0 = L.zero.map cOf) (hL : X.lay t = some ⟨.slice e, a, b, z⟩) (hLe : X.lay e = some L) (hk : L.size = k)
    (hs : rho X.G sl s = .c (.mu id (l * k) m k)) (ho : H[id]? = some ⟨flat enc ys, tt, true⟩) (hb : l + m ≤ ys.length) (hH : H.set id ⟨flat enc (ys.take l ++ List.replicate m a0 ++ ys.drop (l + m)), tt, true⟩ = H') (h : vops X all r K sl H') :
    vops X all (⟨none, .call ⟨.builtin .clear, #[s], #[t]⟩, ty, ps, af, none⟩ :: r) K sl H := by
  have hl : l * k + m * k ≤ (flat enc ys).length := by
    rw [flat_length he, ← Nat.add_mul]
    exact Nat.mul_le_mul_right _ hb
  refine v_e (f := ⟨.any, H', L.size = k ∧ true = true ∧ l * k + m * k ≤ (flat enc ys).length⟩) rfl rfl ?_ ⟨hk, rfl, hl⟩ rfl rfl h
  simp only [eve, hL, hLe, hs, ho]
  have hzf : zeros L m = flat enc (List.replicate m a0) := zeros_flat hz m
  have hc : setCells (flat enc ys) (l * k) (zeros L m) = flat enc (ys.take l ++ List.replicate m a0 ++ ys.drop (l + m)) := by
    have e1 : flat enc ys = flat enc (ys.take l) ++ (flat enc ((ys.drop l).take m) ++ flat enc (ys.drop (l + m))) := by
      rw [← flat_append, ← flat_append, ← List.drop_drop, List.take_append_drop, List.take_append_drop]
    have l1 : (flat enc (ys.take l)).length = l * k := by rw [flat_length he, List.length_take, Nat.min_eq_left (by omega)]
    have l2 : (flat enc ((ys.drop l).take m)).length = m * k := by rw [flat_length he, List.length_take, List.length_drop, Nat.min_eq_left (by omega)]
    have l3 : (flat enc (List.replicate m a0)).length = m * k := by rw [flat_length he, List.length_replicate]
    rw [hzf, flat_append, flat_append, e1]
    unfold setCells
    rw [l3]
    generalize flat enc (ys.take l) = A at l1 ⊢
    generalize flat enc ((ys.drop l).take m) = B at l2 ⊢
    rw [← l1, List.take_left, ← l2, ← List.drop_drop, List.drop_left, List.drop_left]
  rw [hc, hH]
theorem v_clear_end {s : Operand} {t e : TypeId} {a b : Nat} {z : List Value} {L : Lay} {o : Bool} {k : Nat} {cs : List C} (hL : X.lay t = some ⟨.slice e, a, b, z⟩) (hLe : X.lay e = some L) (hs : rho X.G sl s = .c (.sl o 0 k cs)) (h : vops X all r K sl H) :
    vops X all (⟨none, .call ⟨.builtin .clear, #[s], #[t]⟩, ty, ps, af, none⟩ :: r) K sl H :=
  v_e (f := ⟨.any, H, 0 = 0⟩) rfl rfl (by simp only [eve, hL, hLe, hs]) rfl rfl rfl h
end
/-- The first elements of a live slice, answered. -/
theorem a_flat_pre {α : Type} {enc : α → List C} {H : List Ob} {id q off k : Nat} {zs xs : List α} {t : TypeId} (hsc : ∀ a, (enc a).all sc = true) (he : ∀ a, (enc a).length = k) (ho : H[id]? = some ⟨flat enc zs, t, true⟩) (hoff : off = 0) (hx : zs.take q = xs) (hl : q ≤ zs.length) : TrV H [] (.c (.mu id off q k)) (.c (.sl true q k (flat enc xs))) := by
  subst hoff hx
  have h1 : q * k ≤ (flat enc zs).length := by rw [flat_length he]; exact Nat.mul_le_mul_right _ hl
  have hsub : sub (flat enc zs) 0 (q * k) = flat enc (zs.take q) := by
    have h2 : (flat enc (zs.take q)).length = q * k := by rw [flat_length he, List.length_take, Nat.min_eq_left hl]
    have e1 : flat enc zs = flat enc (zs.take q) ++ flat enc (zs.drop q) := by rw [← flat_append, List.take_append_drop]
    unfold sub
    rw [List.drop_zero, e1, ← h2, List.take_left]
  refine .c (.dn (.mu ho rfl gone_nil (by simpa using h1) (by rw [flat_length he, List.length_take, Nat.min_eq_left hl]) fun j c c' h2 h3 => ?_))
  simp only [] at h2
  rw [hsub] at h2
  have := Option.some.inj (h2.symm.trans h3)
  subst this
  exact Dn.sc (sc_flat hsc _ c (List.mem_of_getElem? h2))
theorem tr_fnp {H : List Ob} {gg : List (Option Nat)} {g : FuncId} {i j o : Nat} (h : gg[j]? = some (some i)) : TrV H gg (.c (.fn g [.pt i o])) (.c (.fn g [.pt j o])) := .c (.fn rfl (fun q c c' h1 h2 => by
  match q, h1, h2 with
  | 0, h1, h2 =>
    simp only [List.getElem?_cons_zero, Option.some.injEq] at h1 h2
    subst h1 h2
    exact .pt h
  | q + 1, h1, _ => simp at h1))
end Go.VL
namespace Go.VL
open Go.RowKit
set_option maxRecDepth 20000
def fl (n : Int) : Option Nat := some (FloatKind.f32.nearest n)
def fge (x y : Option Nat) : Bool := ford .f32 x y == some .gt || ford .f32 x y == some .eq
/-- So much fuller above than below that it may be an incident. -/
def hot (most share : Option Nat) (a b : Int) : Bool := fge (fop .sub .f32 (fl a) (fl b)) most && fge (fop .sub .f32 (fl a) (fl b)) (fop .mul .f32 share (fl a))
theorem and_tt {a b : Bool} (h1 : a = true) (h2 : b = true) : (a && b) = true := by rw [h1, h2]; rfl
theorem and_f1 {a b : Bool} (h1 : a = false) : (a && b) = false := by rw [h1]; rfl
theorem and_f2 {a b : Bool} (h2 : b = false) : (a && b) = false := by rw [h2, Bool.and_false]
/-- The first incident in the turns that are left, after so many that may be one. -/
def inc (most share : Option Nat) (times : Int) (ys : List Tal) : List Tal → Int → Int × Int
  | [], _ => (0, 6)
  | t :: r, now => if 0 ≤ fnd ys t.1 then
      if hot most share t.2.2 (ys.getD (fnd ys t.1).toNat (0, 0, 0)).2.2 = true then if now + 1 = times then (t.1, 0) else inc most share times ys r (now + 1)
      else if 0 = times then (t.1, 0) else inc most share times ys r 0
    else inc most share times ys r now
section
variable {most share : Option Nat} {times now : Int} {ys xs : List Tal} {i q : Nat}
theorem inc_skip (hi : i < xs.length) (h : ¬ 0 ≤ fnd ys xs[i].1) : inc most share times ys (xs.drop i) now = inc most share times ys (xs.drop (i + 1)) now := by
  rw [List.drop_eq_getElem_cons hi]
  simp only [inc, if_neg h]
theorem inc_hot (hi : i < xs.length) (hq : q < ys.length) (e : fnd ys xs[i].1 = q) (h : hot most share xs[i].2.2 ys[q].2.2 = true) : inc most share times ys (xs.drop i) now = if now + 1 = times then (xs[i].1, 0) else inc most share times ys (xs.drop (i + 1)) (now + 1) := by
  rw [List.drop_eq_getElem_cons hi]
  simp only [inc]
  rw [if_pos (by omega), e, Int.toNat_natCast, List.getD_eq_getElem?_getD, List.getElem?_eq_getElem hq, Option.getD_some, if_pos h]
theorem inc_cold (hi : i < xs.length) (hq : q < ys.length) (e : fnd ys xs[i].1 = q) (h : hot most share xs[i].2.2 ys[q].2.2 = false) : inc most share times ys (xs.drop i) now = if 0 = times then (xs[i].1, 0) else inc most share times ys (xs.drop (i + 1)) 0 := by
  rw [List.drop_eq_getElem_cons hi]
  simp only [inc]
  rw [if_pos (by omega), e, Int.toNat_natCast, List.getD_eq_getElem?_getD, List.getElem?_eq_getElem hq, Option.getD_some, if_neg (by rw [h]; decide)]
end
/-- The first incident of two lists, with a code. -/
noncomputable def fiR (xs ys : List Tal) (most share : Option Nat) (times : Int) : Int × Int :=
  if okL xs ∧ okL ys then if amtB most = true ∧ shOk share ∧ 1 ≤ times ∧ times ≤ 96 then inc most share times ys xs 0 else (0, 2) else (0, 1)
theorem a_2 {H : List Ob} {a b : Int} {r : Int × Int} (h : r = (a, b)) : TrV H [] (.tup [cI a, cI b]) (.tup [cI r.1, cI r.2]) := by
  rw [h]
  exact a_tup (.cons tr_v (.cons tr_v .nil))
section
variable {xs ys : List Tal} {most share : Option Nat} {times : Int}
theorem fi_0 (h1 : okL xs) (h2 : okL ys) (h3 : amtB most = true) (h4 : shOk share) (h5 : 1 ≤ times ∧ times ≤ 96) : fiR xs ys most share times = inc most share times ys xs 0 := by
  unfold fiR
  rw [if_pos ⟨h1, h2⟩, if_pos ⟨h3, h4, h5.1, h5.2⟩]
theorem fi_2 (h1 : okL xs) (h2 : okL ys) (h : ¬ (amtB most = true ∧ shOk share ∧ 1 ≤ times ∧ times ≤ 96)) : fiR xs ys most share times = (0, 2) := by
  unfold fiR
  rw [if_pos ⟨h1, h2⟩, if_neg h]
theorem fi_1 (h : ¬ (okL xs ∧ okL ys)) : fiR xs ys most share times = (0, 1) := by
  unfold fiR
  rw [if_neg h]
end
theorem srt_of {ys : List Tal} (h : okL ys) : srt ys := by
  intro a b hb hab
  induction b with
  | zero => omega
  | succ b ih =>
    have h1 := (h.2 (b + 1) hb).2.2.2.2 b (by omega) rfl
    by_cases he : a = b
    · subst he; exact h1
    · have := ih (by omega) (by omega)
      omega

theorem c34 (xs ys : List Tal) (most share : Option Nat) (times : Int) (hx : xs.length ≤ 2 ^ 40) (hy : ys.length ≤ 2 ^ 40) : PureC X 34 [.c (tals false xs), .c (tals false ys), .c (.f .f32 most), .c (.f .f32 share), cI times] (.tup [cI (fiR xs ys most share times).1, cI (fiR xs ys most share times).2]) := by
  refine PureC.of_body (drawD_ok X) (fun _ _ => Go.Proofs.Try.call34 _ _) Go.Proofs.Try.func34 rfl (n := 87) rfl ?_
  refine w_seq ?_
  refine w_reg rfl ?_
  refine v_assign (c := .v (.int .i64 0)) rfl ?_
  refine v_assign (c := .v (.int .i64 0)) rfl ?_
  refine v_nil ?_
  refine q_n ?_
  refine w_seq ?_
  refine w_seq ?_
  refine w_reg rfl ?_
  refine v_move rfl ?_
  refine v_callb (c70 _ (by omega)) rfl rfl (.cons vw_sl .nil) (fun h1 => ?_) (fun h1 => ?_)
  · skip
    refine v_not false rfl rfl ?_
    refine v_move rfl ?_
    refine v_guard_on rfl rfl ?_
    refine v_move rfl ?_
    refine v_guard_on rfl rfl ?_
    refine v_callb (c70 _ (by omega)) rfl rfl (.cons vw_sl .nil) (fun h2 => ?_) (fun h2 => ?_)
    · skip
      refine v_guard_on rfl rfl ?_
      refine v_not false rfl rfl ?_
      refine v_pick_f rfl rfl ?_
      refine v_nil ?_
      refine q_n ?_
      refine w_f rfl ?_
      refine w_skip ?_
      refine q_n ?_
      refine w_seq ?_
      refine w_seq ?_
      refine w_reg rfl ?_
      refine v_move rfl ?_
      refine v_callb (c77 _) rfl rfl (.cons vw_f .nil) (fun h3 => ?_) (fun h3 => ?_)
      · skip
        refine v_not false rfl rfl ?_
        refine v_move rfl ?_
        refine v_guard_on rfl rfl ?_
        refine v_move rfl ?_
        refine v_guard_on rfl rfl ?_
        refine v_callb (c71 _) rfl rfl (.cons vw_f .nil) (fun h4 => ?_) (fun h4 => ?_)
        · skip
          refine v_guard_on rfl rfl ?_
          refine v_not false rfl rfl ?_
          refine v_pick_f rfl rfl ?_
          refine v_move rfl ?_
          refine v_guard_on rfl rfl ?_
          refine v_move rfl ?_
          refine v_guard_on rfl rfl ?_
          refine v_callb (c78 _) rfl rfl (.cons vw_v .nil) (fun h5 => ?_) (fun h5 => ?_)
          · skip
            refine v_guard_on rfl rfl ?_
            refine v_not false rfl rfl ?_
            refine v_pick_f rfl rfl ?_
            refine v_nil ?_
            refine q_n ?_
            refine w_f rfl ?_
            refine w_skip ?_
            refine q_n ?_
            refine w_seq ?_
            refine w_reg rfl ?_
            refine v_assign (c := .v (.int .i64 0)) rfl ?_
            refine v_nil ?_
            refine q_n ?_
            refine w_seq ?_
            refine w_seq ?_
            refine w_reg rfl ?_
            refine v_assign (c := .v (.int .i64 0)) rfl ?_
            refine v_nil ?_
            refine q_n ?_
            refine w_block ?_
            refine w_loop (fun k sl H => ∃ (i : Nat) (now : Int), k = xs.length - i ∧ i ≤ xs.length ∧ 0 ≤ now ∧ now ≤ i ∧ inc most share times ys (xs.drop i) now = inc most share times ys xs 0 ∧ sl = sls [(0, .c (tals false xs)), (1, .c (tals false ys)), (2, .c (.f .f32 most)), (3, .c (.f .f32 share)), (4, cI times), (12, cI now), (13, cI i)] ∧ H = []) ?_ ?_
            · refine ⟨_, _, _, ?_, 0, 0, rfl, Nat.zero_le _, by omega, by omega, by rw [List.drop_zero], rfl, rfl⟩
              exact turn0 ⟨tr_sl, tr_sl, tr_f, tr_f, tr_v, tr_v, tr_v, trivial⟩
            · rintro k sl H ⟨i, now, rfl, hi, hn0, hn1, hp, rfl, rfl⟩
              refine w_seq ?_
              refine w_seq ?_
              refine w_reg rfl ?_
              refine v_move rfl ?_
              refine v_move rfl ?_
              refine v_len_sl lay40 rfl ?_
              refine v_lss lay3 rfl rfl (fun h6 => ?_) (fun h6 => ?_)
              · skip
                refine v_nil ?_
                refine q_n ?_
                refine w_t rfl ?_
                refine w_skip ?_
                refine q_n ?_
                refine w_seq ?_
                refine w_block ?_
                refine w_seq ?_
                refine w_reg rfl ?_
                refine v_move rfl ?_
                refine v_move rfl ?_
                refine v_move rfl ?_
                refine v_idx (k := 3) te_len lay40 lay27 rfl rfl rfl rfl rfl (by omega) (fun q7 hq7 e7 => ?_)
                obtain rfl : i = q7 := by omega
                refine v_fa_vw (off' := 0) lay27 rfl rfl rfl ?_
                refine v_load_vw (.c (.v _)) lay2 rfl rfl rfl ?_
                refine v_call (c79 _ _ (by omega)) rfl rfl rfl (.cons vw_sl (.cons vw_v .nil)) ?_
                refine v_assign rfl ?_
                refine v_nil ?_
                refine q_n ?_
                refine w_seq ?_
                refine w_seq ?_
                refine w_reg rfl ?_
                refine v_move rfl ?_
                refine v_lss lay3 rfl rfl (fun h8 => ?_) (fun h8 => ?_)
                · skip
                  refine v_nil ?_
                  refine q_n ?_
                  refine w_t rfl ?_
                  refine w_exit ?_
                  refine q_e ?_
                  refine q_hit ?_
                  refine q_n ?_
                  refine w_reg rfl ?_
                  refine v_move rfl ?_
                  refine v_add lay3 rfl rfl (i64r (by omega)) ?_
                  refine v_assign rfl ?_
                  refine v_nil ?_
                  refine q_n ?_
                  refine ⟨_, _, _, ?_, ⟨i + 1, now, rfl, by omega, by omega, by omega, ?_, rfl, rfl⟩, by omega⟩
                  · exact turn0 ⟨tr_sl, tr_sl, tr_f, tr_f, tr_v, tr_v, tr_v, trivial⟩
                  · rw [← hp, ← inc_skip hq7 (by omega)]
                · skip
                  refine v_nil ?_
                  refine q_n ?_
                  refine w_f rfl ?_
                  refine w_skip ?_
                  refine q_n ?_
                  refine w_seq ?_
                  refine w_reg rfl ?_
                  refine v_move rfl ?_
                  refine v_move rfl ?_
                  refine v_idx (k := 3) te_len lay40 lay27 rfl rfl rfl rfl rfl (by omega) (fun q9 hq9 e9 => ?_)
                  obtain rfl : i = q9 := by omega
                  refine v_fa_vw (off' := 2) lay27 rfl rfl rfl ?_
                  refine v_load_vw (.c (.v _)) lay23 rfl rfl rfl ?_
                  refine v_conv_if lay23 lay22 rfl ?_
                  refine v_assign rfl ?_
                  refine v_nil ?_
                  refine q_n ?_
                  refine w_seq ?_
                  refine w_reg rfl ?_
                  refine v_move rfl ?_
                  refine v_move rfl ?_
                  refine v_move rfl ?_
                  refine v_idx (k := 3) te_len lay40 lay27 rfl rfl rfl rfl rfl (by have hb := fnd_lt (Int.not_lt.1 h8); omega) (fun q10 hq10 e10 => ?_)
                  refine v_fa_vw (off' := 2) lay27 rfl rfl rfl ?_
                  refine v_load_vw (.c (.v _)) lay23 rfl rfl rfl ?_
                  refine v_conv_if lay23 lay22 rfl ?_
                  refine v_bin (c := .f _ _) lay22 rfl rfl rfl ?_
                  refine v_assign rfl ?_
                  refine v_nil ?_
                  refine q_n ?_
                  refine w_seq ?_
                  refine w_seq ?_
                  refine w_reg rfl ?_
                  refine v_move rfl ?_
                  refine v_move rfl ?_
                  refine v_binb lay22 rfl rfl rfl (fun h11 => ?_) (fun h11 => ?_)
                  · skip
                    refine v_move rfl ?_
                    refine v_guard_on rfl rfl ?_
                    refine v_move rfl ?_
                    refine v_guard_on rfl rfl ?_
                    refine v_move rfl ?_
                    refine v_guard_on rfl rfl ?_
                    refine v_move rfl ?_
                    refine v_guard_on rfl rfl ?_
                    refine v_bin (c := .f _ _) lay22 rfl rfl rfl ?_
                    refine v_guard_on rfl rfl ?_
                    refine v_binb lay22 rfl rfl rfl (fun h12 => ?_) (fun h12 => ?_)
                    · skip
                      refine v_pick_t rfl rfl ?_
                      refine v_nil ?_
                      refine q_n ?_
                      refine w_t rfl ?_
                      refine w_reg rfl ?_
                      refine v_move rfl ?_
                      refine v_add lay2 rfl rfl (i64r (by omega)) ?_
                      refine v_assign rfl ?_
                      refine v_nil ?_
                      refine q_n ?_
                      refine w_seq ?_
                      refine w_reg rfl ?_
                      refine v_move rfl ?_
                      refine v_move rfl ?_
                      refine v_eql lay2 rfl rfl (fun h13 => ?_) (fun h13 => ?_)
                      · skip
                        refine v_nil ?_
                        refine q_n ?_
                        refine w_t rfl ?_
                        refine w_seq ?_
                        refine w_reg rfl ?_
                        refine v_move rfl ?_
                        refine v_move rfl ?_
                        refine v_idx (k := 3) te_len lay40 lay27 rfl rfl rfl rfl rfl (by omega) (fun q14 hq14 e14 => ?_)
                        obtain rfl : i = q14 := by omega
                        refine v_fa_vw (off' := 0) lay27 rfl rfl rfl ?_
                        refine v_load_vw (.c (.v _)) lay2 rfl rfl rfl ?_
                        refine v_assign rfl ?_
                        refine v_assign (c := .v (.int .i64 0)) rfl ?_
                        refine v_nil ?_
                        refine q_n ?_
                        refine w_ret (q_br (q_r (q_r (q_br (q_r ?_)))))
                        refine r_r rfl ?_
                        exact a_2 ((fi_0 h1 h2 h3 h4 h5).trans (by rw [← hp, inc_hot hq7 hq10 e10 (and_tt h11 h12), if_pos h13]))
                      · skip
                        refine v_nil ?_
                        refine q_n ?_
                        refine w_f rfl ?_
                        refine w_skip ?_
                        refine q_bn ?_
                        refine q_n ?_
                        refine w_reg rfl ?_
                        refine v_move rfl ?_
                        refine v_add lay3 rfl rfl (i64r (by omega)) ?_
                        refine v_assign rfl ?_
                        refine v_nil ?_
                        refine q_n ?_
                        refine ⟨_, _, _, ?_, ⟨i + 1, now + 1, rfl, by omega, by omega, by omega, ?_, rfl, rfl⟩, by omega⟩
                        · exact turn0 ⟨tr_sl, tr_sl, tr_f, tr_f, tr_v, tr_v, tr_v, trivial⟩
                        · rw [← hp, inc_hot hq7 hq10 e10 (and_tt h11 h12), if_neg h13]
                    · skip
                      refine v_pick_t rfl rfl ?_
                      refine v_nil ?_
                      refine q_n ?_
                      refine w_f rfl ?_
                      refine w_reg rfl ?_
                      refine v_assign (c := .v (.int .i64 0)) rfl ?_
                      refine v_nil ?_
                      refine q_n ?_
                      refine w_seq ?_
                      refine w_reg rfl ?_
                      refine v_move rfl ?_
                      refine v_move rfl ?_
                      refine v_eql lay2 rfl rfl (fun h15 => ?_) (fun h15 => ?_)
                      · skip
                        refine v_nil ?_
                        refine q_n ?_
                        refine w_t rfl ?_
                        refine w_seq ?_
                        refine w_reg rfl ?_
                        refine v_move rfl ?_
                        refine v_move rfl ?_
                        refine v_idx (k := 3) te_len lay40 lay27 rfl rfl rfl rfl rfl (by omega) (fun q16 hq16 e16 => ?_)
                        obtain rfl : i = q16 := by omega
                        refine v_fa_vw (off' := 0) lay27 rfl rfl rfl ?_
                        refine v_load_vw (.c (.v _)) lay2 rfl rfl rfl ?_
                        refine v_assign rfl ?_
                        refine v_assign (c := .v (.int .i64 0)) rfl ?_
                        refine v_nil ?_
                        refine q_n ?_
                        refine w_ret (q_br (q_r (q_r (q_br (q_r ?_)))))
                        refine r_r rfl ?_
                        exact a_2 ((fi_0 h1 h2 h3 h4 h5).trans (by rw [← hp, inc_cold hq7 hq10 e10 (and_f2 h12), if_pos h15]))
                      · skip
                        refine v_nil ?_
                        refine q_n ?_
                        refine w_f rfl ?_
                        refine w_skip ?_
                        refine q_bn ?_
                        refine q_n ?_
                        refine w_reg rfl ?_
                        refine v_move rfl ?_
                        refine v_add lay3 rfl rfl (i64r (by omega)) ?_
                        refine v_assign rfl ?_
                        refine v_nil ?_
                        refine q_n ?_
                        refine ⟨_, _, _, ?_, ⟨i + 1, 0, rfl, by omega, by omega, by omega, ?_, rfl, rfl⟩, by omega⟩
                        · exact turn0 ⟨tr_sl, tr_sl, tr_f, tr_f, tr_v, tr_v, tr_v, trivial⟩
                        · rw [← hp, inc_cold hq7 hq10 e10 (and_f2 h12), if_neg h15]
                  · skip
                    refine v_move rfl ?_
                    refine v_guard_off rfl rfl rfl ?_
                    refine v_guard_off rfl rfl rfl ?_
                    refine v_guard_off rfl rfl rfl ?_
                    refine v_guard_off rfl rfl rfl ?_
                    refine v_guard_off rfl rfl rfl ?_
                    refine v_pick_f (v := .v (.bool false)) rfl rfl ?_
                    refine v_nil ?_
                    refine q_n ?_
                    refine w_f rfl ?_
                    refine w_reg rfl ?_
                    refine v_assign (c := .v (.int .i64 0)) rfl ?_
                    refine v_nil ?_
                    refine q_n ?_
                    refine w_seq ?_
                    refine w_reg rfl ?_
                    refine v_move rfl ?_
                    refine v_move rfl ?_
                    refine v_eql lay2 rfl rfl (fun h17 => ?_) (fun h17 => ?_)
                    · skip
                      refine v_nil ?_
                      refine q_n ?_
                      refine w_t rfl ?_
                      refine w_seq ?_
                      refine w_reg rfl ?_
                      refine v_move rfl ?_
                      refine v_move rfl ?_
                      refine v_idx (k := 3) te_len lay40 lay27 rfl rfl rfl rfl rfl (by omega) (fun q18 hq18 e18 => ?_)
                      obtain rfl : i = q18 := by omega
                      refine v_fa_vw (off' := 0) lay27 rfl rfl rfl ?_
                      refine v_load_vw (.c (.v _)) lay2 rfl rfl rfl ?_
                      refine v_assign rfl ?_
                      refine v_assign (c := .v (.int .i64 0)) rfl ?_
                      refine v_nil ?_
                      refine q_n ?_
                      refine w_ret (q_br (q_r (q_r (q_br (q_r ?_)))))
                      refine r_r rfl ?_
                      exact a_2 ((fi_0 h1 h2 h3 h4 h5).trans (by rw [← hp, inc_cold hq7 hq10 e10 (and_f1 h11), if_pos h17]))
                    · skip
                      refine v_nil ?_
                      refine q_n ?_
                      refine w_f rfl ?_
                      refine w_skip ?_
                      refine q_bn ?_
                      refine q_n ?_
                      refine w_reg rfl ?_
                      refine v_move rfl ?_
                      refine v_add lay3 rfl rfl (i64r (by omega)) ?_
                      refine v_assign rfl ?_
                      refine v_nil ?_
                      refine q_n ?_
                      refine ⟨_, _, _, ?_, ⟨i + 1, 0, rfl, by omega, by omega, by omega, ?_, rfl, rfl⟩, by omega⟩
                      · exact turn0 ⟨tr_sl, tr_sl, tr_f, tr_f, tr_v, tr_v, tr_v, trivial⟩
                      · rw [← hp, inc_cold hq7 hq10 e10 (and_f1 h11), if_neg h17]
              · skip
                refine v_nil ?_
                refine q_n ?_
                refine w_f rfl ?_
                refine w_exit ?_
                refine q_e ?_
                refine q_e ?_
                refine q_hit ?_
                refine q_n ?_
                refine w_seq ?_
                refine w_reg rfl ?_
                refine v_assign (c := .v (.int .i64 0)) rfl ?_
                refine v_assign (c := .v (.int .i64 6)) rfl ?_
                refine v_nil ?_
                refine q_n ?_
                refine w_ret ?_
                refine r_r rfl ?_
                obtain rfl : i = xs.length := by omega
                rw [List.drop_length] at hp
                exact a_2 ((fi_0 h1 h2 h3 h4 h5).trans hp.symm)
          · skip
            refine v_guard_on rfl rfl ?_
            refine v_not true rfl rfl ?_
            refine v_pick_f rfl rfl ?_
            refine v_nil ?_
            refine q_n ?_
            refine w_t rfl ?_
            refine w_seq ?_
            refine w_reg rfl ?_
            refine v_assign (c := .v (.int .i64 0)) rfl ?_
            refine v_assign (c := .v (.int .i64 2)) rfl ?_
            refine v_nil ?_
            refine q_n ?_
            refine w_ret (q_r ?_)
            refine r_r rfl ?_
            exact a_2 (fi_2 h1 h2 fun h => h5 h.2.2)
        · skip
          refine v_guard_on rfl rfl ?_
          refine v_not true rfl rfl ?_
          refine v_pick_f rfl rfl ?_
          refine v_move rfl ?_
          refine v_guard_off rfl rfl rfl ?_
          refine v_guard_off rfl rfl rfl ?_
          refine v_guard_off rfl rfl rfl ?_
          refine v_pick_t (v := .v (.bool true)) rfl rfl ?_
          refine v_nil ?_
          refine q_n ?_
          refine w_t rfl ?_
          refine w_seq ?_
          refine w_reg rfl ?_
          refine v_assign (c := .v (.int .i64 0)) rfl ?_
          refine v_assign (c := .v (.int .i64 2)) rfl ?_
          refine v_nil ?_
          refine q_n ?_
          refine w_ret (q_r ?_)
          refine r_r rfl ?_
          exact a_2 (fi_2 h1 h2 fun h => h4 h.2.1)
      · skip
        refine v_not true rfl rfl ?_
        refine v_move rfl ?_
        refine v_guard_off rfl rfl rfl ?_
        refine v_guard_off rfl rfl rfl ?_
        refine v_guard_off rfl rfl rfl ?_
        refine v_pick_t (v := .v (.bool true)) rfl rfl ?_
        refine v_move rfl ?_
        refine v_guard_off rfl rfl rfl ?_
        refine v_guard_off rfl rfl rfl ?_
        refine v_guard_off rfl rfl rfl ?_
        refine v_pick_t (v := .v (.bool true)) rfl rfl ?_
        refine v_nil ?_
        refine q_n ?_
        refine w_t rfl ?_
        refine w_seq ?_
        refine w_reg rfl ?_
        refine v_assign (c := .v (.int .i64 0)) rfl ?_
        refine v_assign (c := .v (.int .i64 2)) rfl ?_
        refine v_nil ?_
        refine q_n ?_
        refine w_ret (q_r ?_)
        refine r_r rfl ?_
        exact a_2 (fi_2 h1 h2 fun h => h3 h.1)
    · skip
      refine v_guard_on rfl rfl ?_
      refine v_not true rfl rfl ?_
      refine v_pick_f rfl rfl ?_
      refine v_nil ?_
      refine q_n ?_
      refine w_t rfl ?_
      refine w_seq ?_
      refine w_reg rfl ?_
      refine v_assign (c := .v (.int .i64 0)) rfl ?_
      refine v_assign (c := .v (.int .i64 1)) rfl ?_
      refine v_nil ?_
      refine q_n ?_
      refine w_ret (q_r ?_)
      refine r_r rfl ?_
      exact a_2 (fi_1 fun h => h2 h.2)
  · skip
    refine v_not true rfl rfl ?_
    refine v_move rfl ?_
    refine v_guard_off rfl rfl rfl ?_
    refine v_guard_off rfl rfl rfl ?_
    refine v_guard_off rfl rfl rfl ?_
    refine v_pick_t (v := .v (.bool true)) rfl rfl ?_
    refine v_nil ?_
    refine q_n ?_
    refine w_t rfl ?_
    refine w_seq ?_
    refine w_reg rfl ?_
    refine v_assign (c := .v (.int .i64 0)) rfl ?_
    refine v_assign (c := .v (.int .i64 1)) rfl ?_
    refine v_nil ?_
    refine q_n ?_
    refine w_ret (q_r ?_)
    refine r_r rfl ?_
    exact a_2 (fi_1 fun h => h1 h.1)

theorem c35 (xs ys : List Tal) (most share : Option Nat) (times : Int) (hx : xs.length ≤ 2 ^ 40) (hy : ys.length ≤ 2 ^ 40) (hb : T16 xs) (hb2 : T16 ys) (hm : Sg most) (hsh : Sg share) : PureC X 35 [.c (tals false xs), .c (tals false ys), .c (.f .f32 most), .c (.f .f32 share), cI times] (.tup [cI (fiR xs ys most share times).1, cI (fiR xs ys most share times).2]) := by
  refine PureC.of_body (drawD_ok X) (fun _ _ => Go.Proofs.Try.call35 _ _) Go.Proofs.Try.func35 rfl (n := 92) rfl ?_
  refine w_seq ?_
  refine w_reg rfl ?_
  refine v_assign (c := .v (.int .i64 0)) rfl ?_
  refine v_assign (c := .v (.int .i64 0)) rfl ?_
  refine v_nil ?_
  refine q_n ?_
  refine w_seq ?_
  refine w_seq ?_
  refine w_reg rfl ?_
  refine v_move rfl ?_
  refine v_callb (c58 _ (by omega) (by assumption)) rfl rfl (.cons vw_sl .nil) (fun h1 => ?_) (fun h1 => ?_)
  · skip
    refine v_not false rfl rfl ?_
    refine v_move rfl ?_
    refine v_guard_on rfl rfl ?_
    refine v_move rfl ?_
    refine v_guard_on rfl rfl ?_
    refine v_callb (c58 _ (by omega) (by assumption)) rfl rfl (.cons vw_sl .nil) (fun h2 => ?_) (fun h2 => ?_)
    · skip
      refine v_guard_on rfl rfl ?_
      refine v_not false rfl rfl ?_
      refine v_pick_f rfl rfl ?_
      refine v_call (c65 _ _) rfl rfl rfl (.cons vw_v (.cons vw_v .nil)) ?_
      refine v_move rfl ?_
      refine v_callb (c80 _ (by assumption)) rfl rfl (.cons vw_f .nil) (fun h3 => ?_) (fun h3 => ?_)
      · skip
        refine v_not false rfl rfl ?_
        refine v_move rfl ?_
        refine v_guard_on rfl rfl ?_
        refine v_move rfl ?_
        refine v_guard_on rfl rfl ?_
        refine v_callb (c73 _ (by assumption)) rfl rfl (.cons vw_f .nil) (fun h4 => ?_) (fun h4 => ?_)
        · skip
          refine v_guard_on rfl rfl ?_
          refine v_not false rfl rfl ?_
          refine v_pick_f rfl rfl ?_
          refine v_move rfl ?_
          refine v_guard_on rfl rfl ?_
          refine v_move rfl ?_
          refine v_guard_on rfl rfl ?_
          refine v_callb (c81 _) rfl rfl (.cons vw_v .nil) (fun h5 => ?_) (fun h5 => ?_)
          · skip
            refine v_guard_on rfl rfl ?_
            refine v_not false rfl rfl ?_
            refine v_pick_f rfl rfl ?_
            refine v_call (c65 _ _) rfl rfl rfl (.cons vw_v (.cons vw_v .nil)) ?_
            refine v_lit (flat int [_, _]) (H' := [_]) lay118 lay2 rfl rfl ⟨by decide, by decide⟩ rfl rfl ?_
            refine v_call (c64 [_, _] (Nat.le_of_ble_eq_true rfl)) rfl rfl rfl (.cons (vw_mu int_sc int_len rfl rfl) .nil) ?_
            refine v_assign rfl ?_
            refine v_nil ?_
            refine q_n ?_
            refine w_seq ?_
            refine w_reg rfl ?_
            refine v_move rfl ?_
            refine v_neq lay2 rfl rfl (fun h6 => ?_) (fun h6 => ?_)
            · skip
              exact absurd (by decide) h6
            · skip
              refine v_nil ?_
              refine q_n ?_
              refine w_f rfl ?_
              refine w_skip ?_
              refine q_n ?_
              refine w_seq ?_
              refine w_reg rfl ?_
              refine v_assign (c := .v (.int .i64 0)) rfl ?_
              refine v_nil ?_
              refine q_n ?_
              refine w_seq ?_
              refine w_seq ?_
              refine w_reg rfl ?_
              refine v_move rfl ?_
              refine v_len_sl lay40 rfl ?_
              refine v_move (c := .v (.int .i64 0)) rfl ?_
              refine v_nil ?_
              refine q_n ?_
              refine w_block ?_
              refine w_loop (fun k sl H => ∃ (i : Nat) (now : Int), k = xs.length - i ∧ i ≤ xs.length ∧ 0 ≤ now ∧ now ≤ i ∧ inc most share times ys (xs.drop i) now = inc most share times ys xs 0 ∧ sl = sls [(0, .c (tals false xs)), (1, .c (tals false ys)), (2, .c (.f .f32 most)), (3, .c (.f .f32 share)), (4, cI times), (13, cI now), (48, .c (tals false xs)), (49, cI xs.length), (50, cI i)] ∧ H = []) ?_ ?_
              · refine ⟨_, _, _, ?_, 0, 0, rfl, Nat.zero_le _, by omega, by omega, by rw [List.drop_zero], rfl, rfl⟩
                exact turn0 ⟨tr_sl, tr_sl, tr_f, tr_f, tr_v, tr_v, tr_sl, tr_v, tr_v, trivial⟩
              · rintro k sl H ⟨i, now, rfl, hi, hn0, hn1, hp, rfl, rfl⟩
                refine w_seq ?_
                refine w_reg rfl ?_
                refine v_lss lay3 rfl rfl (fun h7 => ?_) (fun h7 => ?_)
                · skip
                  refine v_nil ?_
                  refine q_n ?_
                  refine w_seq ?_
                  refine w_t rfl ?_
                  refine w_skip ?_
                  refine q_n ?_
                  refine w_seq ?_
                  refine w_block ?_
                  refine w_seq ?_
                  refine w_reg rfl ?_
                  refine v_idx (k := 3) te_len lay40 lay27 rfl rfl rfl rfl rfl (by omega) (fun q8 hq8 e8 => ?_)
                  obtain rfl : i = q8 := by omega
                  refine v_load_vw (.agg [.v _, .v _, .v _]) lay27 rfl rfl rfl ?_
                  refine v_alloc (m := 0) (H' := [⟨[.v _, .v _, .v _], 27, true⟩]) lay27 rfl rfl ?_
                  refine v_store (H' := [⟨[_, _, _], 27, true⟩]) lay27 rfl rfl rfl rfl rfl rfl ?_
                  refine v_nil ?_
                  refine q_n ?_
                  refine w_seq ?_
                  refine w_reg rfl ?_
                  refine v_move rfl ?_
                  refine v_fa_pt (off' := 0) lay27 rfl rfl rfl ?_
                  refine v_load_pt (.c _) lay2 rfl rfl rfl rfl ?_
                  refine dec_split (p := 0 ≤ fnd ys xs[i].1) (fun h9 => ?_) (fun h9 => ?_)
                  · refine v_call (c82t _ _ hy (srt_of h2) h9) rfl rfl rfl (.cons vw_sl (.cons vw_v .nil)) ?_
                    refine v_move_t rfl ?_
                    refine v_extract_c rfl rfl ?_
                    refine v_extract_c rfl rfl ?_
                    refine v_assign rfl ?_
                    refine v_assign rfl ?_
                    refine v_nil ?_
                    refine q_n ?_
                    refine w_seq ?_
                    refine w_seq ?_
                    refine w_reg rfl ?_
                    refine v_move rfl ?_
                    refine v_not false rfl rfl ?_
                    refine v_nil ?_
                    refine q_n ?_
                    refine w_f rfl ?_
                    refine w_skip ?_
                    refine q_n ?_
                    refine w_seq ?_
                    refine w_reg rfl ?_
                    refine v_fa_pt (off' := 2) lay27 rfl rfl rfl ?_
                    refine v_load_pt (.c _) lay23 rfl rfl rfl rfl ?_
                    refine v_conv_if lay23 lay22 rfl ?_
                    refine v_assign rfl ?_
                    refine v_nil ?_
                    refine q_n ?_
                    refine w_seq ?_
                    refine w_seq ?_
                    refine w_reg rfl ?_
                    refine v_move rfl ?_
                    refine v_move rfl ?_
                    refine v_move rfl ?_
                    refine v_idx (k := 3) te_len lay40 lay27 rfl rfl rfl rfl rfl (by have hb := fnd_lt h9; omega) (fun q10 hq10 e10 => ?_)
                    refine v_fa_vw (off' := 2) lay27 rfl rfl rfl ?_
                    refine v_load_vw (.c (.v _)) lay23 rfl rfl rfl ?_
                    refine v_conv_if lay23 lay22 rfl ?_
                    refine v_bin (c := .f _ _) lay22 rfl rfl rfl ?_
                    refine v_assign rfl ?_
                    refine v_nil ?_
                    refine q_n ?_
                    refine w_seq ?_
                    refine w_reg rfl ?_
                    refine v_move rfl ?_
                    refine v_move rfl ?_
                    refine v_binb lay22 rfl rfl rfl (fun h11 => ?_) (fun h11 => ?_)
                    · skip
                      refine v_move rfl ?_
                      refine v_guard_on rfl rfl ?_
                      refine v_move rfl ?_
                      refine v_guard_on rfl rfl ?_
                      refine v_move rfl ?_
                      refine v_guard_on rfl rfl ?_
                      refine v_move rfl ?_
                      refine v_guard_on rfl rfl ?_
                      refine v_bin (c := .f _ _) lay22 rfl rfl rfl ?_
                      refine v_guard_on rfl rfl ?_
                      refine v_binb lay22 rfl rfl rfl (fun h12 => ?_) (fun h12 => ?_)
                      · skip
                        refine v_pick_t rfl rfl ?_
                        refine v_nil ?_
                        refine q_n ?_
                        refine w_t rfl ?_
                        refine w_reg rfl ?_
                        refine v_move rfl ?_
                        refine v_add lay2 rfl rfl (i64r (by omega)) ?_
                        refine v_assign rfl ?_
                        refine v_nil ?_
                        refine q_n ?_
                        refine w_seq ?_
                        refine w_reg rfl ?_
                        refine v_move rfl ?_
                        refine v_move rfl ?_
                        refine v_eql lay2 rfl rfl (fun h13 => ?_) (fun h13 => ?_)
                        · skip
                          refine v_nil ?_
                          refine q_n ?_
                          refine w_t rfl ?_
                          refine w_seq ?_
                          refine w_reg rfl ?_
                          refine v_fa_pt (off' := 0) lay27 rfl rfl rfl ?_
                          refine v_load_pt (.c _) lay2 rfl rfl rfl rfl ?_
                          refine v_assign rfl ?_
                          refine v_assign (c := .v (.int .i64 0)) rfl ?_
                          refine v_nil ?_
                          refine q_n ?_
                          refine w_ret (q_br (q_r (q_r (q_br (q_r ?_)))))
                          refine r_r rfl ?_
                          exact a_2 ((fi_0 h1 h2 h3 h4 h5).trans (by rw [← hp, inc_hot hq8 hq10 e10 (and_tt h11 h12), if_pos h13]))
                        · skip
                          refine v_nil ?_
                          refine q_n ?_
                          refine w_f rfl ?_
                          refine w_skip ?_
                          refine q_bn ?_
                          refine q_n ?_
                          refine w_reg rfl ?_
                          refine v_add lay3 rfl rfl (i64r (by omega)) ?_
                          refine v_move rfl ?_
                          refine v_nil ?_
                          refine q_n ?_
                          refine ⟨_, _, _, ?_, ⟨i + 1, now + 1, rfl, by omega, by omega, by omega, ?_, rfl, rfl⟩, by omega⟩
                          · exact turn0 ⟨tr_sl, tr_sl, tr_f, tr_f, tr_v, tr_v, tr_sl, tr_v, tr_v, trivial⟩
                          · rw [← hp, inc_hot hq8 hq10 e10 (and_tt h11 h12), if_neg h13]
                      · skip
                        refine v_pick_t rfl rfl ?_
                        refine v_nil ?_
                        refine q_n ?_
                        refine w_f rfl ?_
                        refine w_reg rfl ?_
                        refine v_assign (c := .v (.int .i64 0)) rfl ?_
                        refine v_nil ?_
                        refine q_n ?_
                        refine w_seq ?_
                        refine w_reg rfl ?_
                        refine v_move rfl ?_
                        refine v_move rfl ?_
                        refine v_eql lay2 rfl rfl (fun h14 => ?_) (fun h14 => ?_)
                        · skip
                          refine v_nil ?_
                          refine q_n ?_
                          refine w_t rfl ?_
                          refine w_seq ?_
                          refine w_reg rfl ?_
                          refine v_fa_pt (off' := 0) lay27 rfl rfl rfl ?_
                          refine v_load_pt (.c _) lay2 rfl rfl rfl rfl ?_
                          refine v_assign rfl ?_
                          refine v_assign (c := .v (.int .i64 0)) rfl ?_
                          refine v_nil ?_
                          refine q_n ?_
                          refine w_ret (q_br (q_r (q_r (q_br (q_r ?_)))))
                          refine r_r rfl ?_
                          exact a_2 ((fi_0 h1 h2 h3 h4 h5).trans (by rw [← hp, inc_cold hq8 hq10 e10 (and_f2 h12), if_pos h14]))
                        · skip
                          refine v_nil ?_
                          refine q_n ?_
                          refine w_f rfl ?_
                          refine w_skip ?_
                          refine q_bn ?_
                          refine q_n ?_
                          refine w_reg rfl ?_
                          refine v_add lay3 rfl rfl (i64r (by omega)) ?_
                          refine v_move rfl ?_
                          refine v_nil ?_
                          refine q_n ?_
                          refine ⟨_, _, _, ?_, ⟨i + 1, 0, rfl, by omega, by omega, by omega, ?_, rfl, rfl⟩, by omega⟩
                          · exact turn0 ⟨tr_sl, tr_sl, tr_f, tr_f, tr_v, tr_v, tr_sl, tr_v, tr_v, trivial⟩
                          · rw [← hp, inc_cold hq8 hq10 e10 (and_f2 h12), if_neg h14]
                    · skip
                      refine v_move rfl ?_
                      refine v_guard_off rfl rfl rfl ?_
                      refine v_guard_off rfl rfl rfl ?_
                      refine v_guard_off rfl rfl rfl ?_
                      refine v_guard_off rfl rfl rfl ?_
                      refine v_guard_off rfl rfl rfl ?_
                      refine v_pick_f (v := .v (.bool false)) rfl rfl ?_
                      refine v_nil ?_
                      refine q_n ?_
                      refine w_f rfl ?_
                      refine w_reg rfl ?_
                      refine v_assign (c := .v (.int .i64 0)) rfl ?_
                      refine v_nil ?_
                      refine q_n ?_
                      refine w_seq ?_
                      refine w_reg rfl ?_
                      refine v_move rfl ?_
                      refine v_move rfl ?_
                      refine v_eql lay2 rfl rfl (fun h15 => ?_) (fun h15 => ?_)
                      · skip
                        refine v_nil ?_
                        refine q_n ?_
                        refine w_t rfl ?_
                        refine w_seq ?_
                        refine w_reg rfl ?_
                        refine v_fa_pt (off' := 0) lay27 rfl rfl rfl ?_
                        refine v_load_pt (.c _) lay2 rfl rfl rfl rfl ?_
                        refine v_assign rfl ?_
                        refine v_assign (c := .v (.int .i64 0)) rfl ?_
                        refine v_nil ?_
                        refine q_n ?_
                        refine w_ret (q_br (q_r (q_r (q_br (q_r ?_)))))
                        refine r_r rfl ?_
                        exact a_2 ((fi_0 h1 h2 h3 h4 h5).trans (by rw [← hp, inc_cold hq8 hq10 e10 (and_f1 h11), if_pos h15]))
                      · skip
                        refine v_nil ?_
                        refine q_n ?_
                        refine w_f rfl ?_
                        refine w_skip ?_
                        refine q_bn ?_
                        refine q_n ?_
                        refine w_reg rfl ?_
                        refine v_add lay3 rfl rfl (i64r (by omega)) ?_
                        refine v_move rfl ?_
                        refine v_nil ?_
                        refine q_n ?_
                        refine ⟨_, _, _, ?_, ⟨i + 1, 0, rfl, by omega, by omega, by omega, ?_, rfl, rfl⟩, by omega⟩
                        · exact turn0 ⟨tr_sl, tr_sl, tr_f, tr_f, tr_v, tr_v, tr_sl, tr_v, tr_v, trivial⟩
                        · rw [← hp, inc_cold hq8 hq10 e10 (and_f1 h11), if_neg h15]
                  · refine v_call (c82f _ _ hy (srt_of h2) h9) rfl rfl rfl (.cons vw_sl (.cons vw_v .nil)) ?_
                    refine v_move_t rfl ?_
                    refine v_extract_c rfl rfl ?_
                    refine v_extract_c rfl rfl ?_
                    refine v_assign rfl ?_
                    refine v_assign rfl ?_
                    refine v_nil ?_
                    refine q_n ?_
                    refine w_seq ?_
                    refine w_seq ?_
                    refine w_reg rfl ?_
                    refine v_move rfl ?_
                    refine v_not true rfl rfl ?_
                    refine v_nil ?_
                    refine q_n ?_
                    refine w_t rfl ?_
                    refine w_exit ?_
                    refine q_e ?_
                    refine q_hit ?_
                    refine q_n ?_
                    refine w_reg rfl ?_
                    refine v_add lay3 rfl rfl (i64r (by omega)) ?_
                    refine v_move rfl ?_
                    refine v_nil ?_
                    refine q_n ?_
                    refine ⟨_, _, _, ?_, ⟨i + 1, now, rfl, by omega, by omega, by omega, ?_, rfl, rfl⟩, by omega⟩
                    · exact turn0 ⟨tr_sl, tr_sl, tr_f, tr_f, tr_v, tr_v, tr_sl, tr_v, tr_v, trivial⟩
                    · rw [← hp, ← inc_skip hq8 h9]
                · skip
                  refine v_nil ?_
                  refine q_n ?_
                  refine w_seq ?_
                  refine w_f rfl ?_
                  refine w_exit ?_
                  refine q_e ?_
                  refine q_e ?_
                  refine q_hit ?_
                  refine q_n ?_
                  refine w_seq ?_
                  refine w_reg rfl ?_
                  refine v_assign (c := .v (.int .i64 0)) rfl ?_
                  refine v_assign (c := .v (.int .i64 6)) rfl ?_
                  refine v_nil ?_
                  refine q_n ?_
                  refine w_ret ?_
                  refine r_r rfl ?_
                  obtain rfl : i = xs.length := by omega
                  rw [List.drop_length] at hp
                  exact a_2 ((fi_0 h1 h2 h3 h4 h5).trans hp.symm)
          · skip
            refine v_guard_on rfl rfl ?_
            refine v_not true rfl rfl ?_
            refine v_pick_f rfl rfl ?_
            refine v_call (c65 _ _) rfl rfl rfl (.cons vw_v (.cons vw_v .nil)) ?_
            refine v_lit (flat int [_, _]) (H' := [_]) lay118 lay2 rfl rfl ⟨by decide, by decide⟩ rfl rfl ?_
            refine v_call (c64 [_, _] (Nat.le_of_ble_eq_true rfl)) rfl rfl rfl (.cons (vw_mu int_sc int_len rfl rfl) .nil) ?_
            refine v_assign rfl ?_
            refine v_nil ?_
            refine q_n ?_
            refine w_seq ?_
            refine w_reg rfl ?_
            refine v_move rfl ?_
            refine v_neq lay2 rfl rfl (fun h16 => ?_) (fun h16 => ?_)
            · skip
              refine v_nil ?_
              refine q_n ?_
              refine w_t rfl ?_
              refine w_seq ?_
              refine w_reg rfl ?_
              refine v_move rfl ?_
              refine v_assign (c := .v (.int .i64 0)) rfl ?_
              refine v_assign rfl ?_
              refine v_nil ?_
              refine q_n ?_
              refine w_ret (q_r ?_)
              refine r_r rfl ?_
              exact a_2 (fi_2 h1 h2 fun h => h5 h.2.2)
            · skip
              exact absurd h16 (by decide)
        · skip
          refine v_guard_on rfl rfl ?_
          refine v_not true rfl rfl ?_
          refine v_pick_f rfl rfl ?_
          refine v_move rfl ?_
          refine v_guard_off rfl rfl rfl ?_
          refine v_guard_off rfl rfl rfl ?_
          refine v_guard_off rfl rfl rfl ?_
          refine v_pick_t (v := .v (.bool true)) rfl rfl ?_
          refine v_call (c65 _ _) rfl rfl rfl (.cons vw_v (.cons vw_v .nil)) ?_
          refine v_lit (flat int [_, _]) (H' := [_]) lay118 lay2 rfl rfl ⟨by decide, by decide⟩ rfl rfl ?_
          refine v_call (c64 [_, _] (Nat.le_of_ble_eq_true rfl)) rfl rfl rfl (.cons (vw_mu int_sc int_len rfl rfl) .nil) ?_
          refine v_assign rfl ?_
          refine v_nil ?_
          refine q_n ?_
          refine w_seq ?_
          refine w_reg rfl ?_
          refine v_move rfl ?_
          refine v_neq lay2 rfl rfl (fun h17 => ?_) (fun h17 => ?_)
          · skip
            refine v_nil ?_
            refine q_n ?_
            refine w_t rfl ?_
            refine w_seq ?_
            refine w_reg rfl ?_
            refine v_move rfl ?_
            refine v_assign (c := .v (.int .i64 0)) rfl ?_
            refine v_assign rfl ?_
            refine v_nil ?_
            refine q_n ?_
            refine w_ret (q_r ?_)
            refine r_r rfl ?_
            exact a_2 (fi_2 h1 h2 fun h => h4 h.2.1)
          · skip
            exact absurd h17 (by decide)
      · skip
        refine v_not true rfl rfl ?_
        refine v_move rfl ?_
        refine v_guard_off rfl rfl rfl ?_
        refine v_guard_off rfl rfl rfl ?_
        refine v_guard_off rfl rfl rfl ?_
        refine v_pick_t (v := .v (.bool true)) rfl rfl ?_
        refine v_move rfl ?_
        refine v_guard_off rfl rfl rfl ?_
        refine v_guard_off rfl rfl rfl ?_
        refine v_guard_off rfl rfl rfl ?_
        refine v_pick_t (v := .v (.bool true)) rfl rfl ?_
        refine v_call (c65 _ _) rfl rfl rfl (.cons vw_v (.cons vw_v .nil)) ?_
        refine v_lit (flat int [_, _]) (H' := [_]) lay118 lay2 rfl rfl ⟨by decide, by decide⟩ rfl rfl ?_
        refine v_call (c64 [_, _] (Nat.le_of_ble_eq_true rfl)) rfl rfl rfl (.cons (vw_mu int_sc int_len rfl rfl) .nil) ?_
        refine v_assign rfl ?_
        refine v_nil ?_
        refine q_n ?_
        refine w_seq ?_
        refine w_reg rfl ?_
        refine v_move rfl ?_
        refine v_neq lay2 rfl rfl (fun h18 => ?_) (fun h18 => ?_)
        · skip
          refine v_nil ?_
          refine q_n ?_
          refine w_t rfl ?_
          refine w_seq ?_
          refine w_reg rfl ?_
          refine v_move rfl ?_
          refine v_assign (c := .v (.int .i64 0)) rfl ?_
          refine v_assign rfl ?_
          refine v_nil ?_
          refine q_n ?_
          refine w_ret (q_r ?_)
          refine r_r rfl ?_
          exact a_2 (fi_2 h1 h2 fun h => h3 h.1)
        · skip
          exact absurd h18 (by decide)
    · skip
      refine v_guard_on rfl rfl ?_
      refine v_not true rfl rfl ?_
      refine v_pick_f rfl rfl ?_
      refine v_call (c65 _ _) rfl rfl rfl (.cons vw_v (.cons vw_v .nil)) ?_
      refine v_move rfl ?_
      refine v_callb (c80 _ (by assumption)) rfl rfl (.cons vw_f .nil) (fun h19 => ?_) (fun h19 => ?_)
      · skip
        refine v_not false rfl rfl ?_
        refine v_move rfl ?_
        refine v_guard_on rfl rfl ?_
        refine v_move rfl ?_
        refine v_guard_on rfl rfl ?_
        refine v_callb (c73 _ (by assumption)) rfl rfl (.cons vw_f .nil) (fun h20 => ?_) (fun h20 => ?_)
        · skip
          refine v_guard_on rfl rfl ?_
          refine v_not false rfl rfl ?_
          refine v_pick_f rfl rfl ?_
          refine v_move rfl ?_
          refine v_guard_on rfl rfl ?_
          refine v_move rfl ?_
          refine v_guard_on rfl rfl ?_
          refine v_callb (c81 _) rfl rfl (.cons vw_v .nil) (fun h21 => ?_) (fun h21 => ?_)
          · skip
            refine v_guard_on rfl rfl ?_
            refine v_not false rfl rfl ?_
            refine v_pick_f rfl rfl ?_
            refine v_call (c65 _ _) rfl rfl rfl (.cons vw_v (.cons vw_v .nil)) ?_
            refine v_lit (flat int [_, _]) (H' := [_]) lay118 lay2 rfl rfl ⟨by decide, by decide⟩ rfl rfl ?_
            refine v_call (c64 [_, _] (Nat.le_of_ble_eq_true rfl)) rfl rfl rfl (.cons (vw_mu int_sc int_len rfl rfl) .nil) ?_
            refine v_assign rfl ?_
            refine v_nil ?_
            refine q_n ?_
            refine w_seq ?_
            refine w_reg rfl ?_
            refine v_move rfl ?_
            refine v_neq lay2 rfl rfl (fun h22 => ?_) (fun h22 => ?_)
            · skip
              refine v_nil ?_
              refine q_n ?_
              refine w_t rfl ?_
              refine w_seq ?_
              refine w_reg rfl ?_
              refine v_move rfl ?_
              refine v_assign (c := .v (.int .i64 0)) rfl ?_
              refine v_assign rfl ?_
              refine v_nil ?_
              refine q_n ?_
              refine w_ret (q_r ?_)
              refine r_r rfl ?_
              exact a_2 (fi_1 fun h => h2 h.2)
            · skip
              exact absurd h22 (by decide)
          · skip
            refine v_guard_on rfl rfl ?_
            refine v_not true rfl rfl ?_
            refine v_pick_f rfl rfl ?_
            refine v_call (c65 _ _) rfl rfl rfl (.cons vw_v (.cons vw_v .nil)) ?_
            refine v_lit (flat int [_, _]) (H' := [_]) lay118 lay2 rfl rfl ⟨by decide, by decide⟩ rfl rfl ?_
            refine v_call (c64 [_, _] (Nat.le_of_ble_eq_true rfl)) rfl rfl rfl (.cons (vw_mu int_sc int_len rfl rfl) .nil) ?_
            refine v_assign rfl ?_
            refine v_nil ?_
            refine q_n ?_
            refine w_seq ?_
            refine w_reg rfl ?_
            refine v_move rfl ?_
            refine v_neq lay2 rfl rfl (fun h23 => ?_) (fun h23 => ?_)
            · skip
              refine v_nil ?_
              refine q_n ?_
              refine w_t rfl ?_
              refine w_seq ?_
              refine w_reg rfl ?_
              refine v_move rfl ?_
              refine v_assign (c := .v (.int .i64 0)) rfl ?_
              refine v_assign rfl ?_
              refine v_nil ?_
              refine q_n ?_
              refine w_ret (q_r ?_)
              refine r_r rfl ?_
              exact a_2 (fi_1 fun h => h2 h.2)
            · skip
              exact absurd h23 (by decide)
        · skip
          refine v_guard_on rfl rfl ?_
          refine v_not true rfl rfl ?_
          refine v_pick_f rfl rfl ?_
          refine v_move rfl ?_
          refine v_guard_off rfl rfl rfl ?_
          refine v_guard_off rfl rfl rfl ?_
          refine v_guard_off rfl rfl rfl ?_
          refine v_pick_t (v := .v (.bool true)) rfl rfl ?_
          refine v_call (c65 _ _) rfl rfl rfl (.cons vw_v (.cons vw_v .nil)) ?_
          refine v_lit (flat int [_, _]) (H' := [_]) lay118 lay2 rfl rfl ⟨by decide, by decide⟩ rfl rfl ?_
          refine v_call (c64 [_, _] (Nat.le_of_ble_eq_true rfl)) rfl rfl rfl (.cons (vw_mu int_sc int_len rfl rfl) .nil) ?_
          refine v_assign rfl ?_
          refine v_nil ?_
          refine q_n ?_
          refine w_seq ?_
          refine w_reg rfl ?_
          refine v_move rfl ?_
          refine v_neq lay2 rfl rfl (fun h24 => ?_) (fun h24 => ?_)
          · skip
            refine v_nil ?_
            refine q_n ?_
            refine w_t rfl ?_
            refine w_seq ?_
            refine w_reg rfl ?_
            refine v_move rfl ?_
            refine v_assign (c := .v (.int .i64 0)) rfl ?_
            refine v_assign rfl ?_
            refine v_nil ?_
            refine q_n ?_
            refine w_ret (q_r ?_)
            refine r_r rfl ?_
            exact a_2 (fi_1 fun h => h2 h.2)
          · skip
            exact absurd h24 (by decide)
      · skip
        refine v_not true rfl rfl ?_
        refine v_move rfl ?_
        refine v_guard_off rfl rfl rfl ?_
        refine v_guard_off rfl rfl rfl ?_
        refine v_guard_off rfl rfl rfl ?_
        refine v_pick_t (v := .v (.bool true)) rfl rfl ?_
        refine v_move rfl ?_
        refine v_guard_off rfl rfl rfl ?_
        refine v_guard_off rfl rfl rfl ?_
        refine v_guard_off rfl rfl rfl ?_
        refine v_pick_t (v := .v (.bool true)) rfl rfl ?_
        refine v_call (c65 _ _) rfl rfl rfl (.cons vw_v (.cons vw_v .nil)) ?_
        refine v_lit (flat int [_, _]) (H' := [_]) lay118 lay2 rfl rfl ⟨by decide, by decide⟩ rfl rfl ?_
        refine v_call (c64 [_, _] (Nat.le_of_ble_eq_true rfl)) rfl rfl rfl (.cons (vw_mu int_sc int_len rfl rfl) .nil) ?_
        refine v_assign rfl ?_
        refine v_nil ?_
        refine q_n ?_
        refine w_seq ?_
        refine w_reg rfl ?_
        refine v_move rfl ?_
        refine v_neq lay2 rfl rfl (fun h25 => ?_) (fun h25 => ?_)
        · skip
          refine v_nil ?_
          refine q_n ?_
          refine w_t rfl ?_
          refine w_seq ?_
          refine w_reg rfl ?_
          refine v_move rfl ?_
          refine v_assign (c := .v (.int .i64 0)) rfl ?_
          refine v_assign rfl ?_
          refine v_nil ?_
          refine q_n ?_
          refine w_ret (q_r ?_)
          refine r_r rfl ?_
          exact a_2 (fi_1 fun h => h2 h.2)
        · skip
          exact absurd h25 (by decide)
  · skip
    refine v_not true rfl rfl ?_
    refine v_move rfl ?_
    refine v_guard_off rfl rfl rfl ?_
    refine v_guard_off rfl rfl rfl ?_
    refine v_guard_off rfl rfl rfl ?_
    refine v_pick_t (v := .v (.bool true)) rfl rfl ?_
    refine v_call (c65 _ _) rfl rfl rfl (.cons vw_v (.cons vw_v .nil)) ?_
    refine v_move rfl ?_
    refine v_callb (c80 _ (by assumption)) rfl rfl (.cons vw_f .nil) (fun h26 => ?_) (fun h26 => ?_)
    · skip
      refine v_not false rfl rfl ?_
      refine v_move rfl ?_
      refine v_guard_on rfl rfl ?_
      refine v_move rfl ?_
      refine v_guard_on rfl rfl ?_
      refine v_callb (c73 _ (by assumption)) rfl rfl (.cons vw_f .nil) (fun h27 => ?_) (fun h27 => ?_)
      · skip
        refine v_guard_on rfl rfl ?_
        refine v_not false rfl rfl ?_
        refine v_pick_f rfl rfl ?_
        refine v_move rfl ?_
        refine v_guard_on rfl rfl ?_
        refine v_move rfl ?_
        refine v_guard_on rfl rfl ?_
        refine v_callb (c81 _) rfl rfl (.cons vw_v .nil) (fun h28 => ?_) (fun h28 => ?_)
        · skip
          refine v_guard_on rfl rfl ?_
          refine v_not false rfl rfl ?_
          refine v_pick_f rfl rfl ?_
          refine v_call (c65 _ _) rfl rfl rfl (.cons vw_v (.cons vw_v .nil)) ?_
          refine v_lit (flat int [_, _]) (H' := [_]) lay118 lay2 rfl rfl ⟨by decide, by decide⟩ rfl rfl ?_
          refine v_call (c64 [_, _] (Nat.le_of_ble_eq_true rfl)) rfl rfl rfl (.cons (vw_mu int_sc int_len rfl rfl) .nil) ?_
          refine v_assign rfl ?_
          refine v_nil ?_
          refine q_n ?_
          refine w_seq ?_
          refine w_reg rfl ?_
          refine v_move rfl ?_
          refine v_neq lay2 rfl rfl (fun h29 => ?_) (fun h29 => ?_)
          · skip
            refine v_nil ?_
            refine q_n ?_
            refine w_t rfl ?_
            refine w_seq ?_
            refine w_reg rfl ?_
            refine v_move rfl ?_
            refine v_assign (c := .v (.int .i64 0)) rfl ?_
            refine v_assign rfl ?_
            refine v_nil ?_
            refine q_n ?_
            refine w_ret (q_r ?_)
            refine r_r rfl ?_
            exact a_2 (fi_1 fun h => h1 h.1)
          · skip
            exact absurd h29 (by decide)
        · skip
          refine v_guard_on rfl rfl ?_
          refine v_not true rfl rfl ?_
          refine v_pick_f rfl rfl ?_
          refine v_call (c65 _ _) rfl rfl rfl (.cons vw_v (.cons vw_v .nil)) ?_
          refine v_lit (flat int [_, _]) (H' := [_]) lay118 lay2 rfl rfl ⟨by decide, by decide⟩ rfl rfl ?_
          refine v_call (c64 [_, _] (Nat.le_of_ble_eq_true rfl)) rfl rfl rfl (.cons (vw_mu int_sc int_len rfl rfl) .nil) ?_
          refine v_assign rfl ?_
          refine v_nil ?_
          refine q_n ?_
          refine w_seq ?_
          refine w_reg rfl ?_
          refine v_move rfl ?_
          refine v_neq lay2 rfl rfl (fun h30 => ?_) (fun h30 => ?_)
          · skip
            refine v_nil ?_
            refine q_n ?_
            refine w_t rfl ?_
            refine w_seq ?_
            refine w_reg rfl ?_
            refine v_move rfl ?_
            refine v_assign (c := .v (.int .i64 0)) rfl ?_
            refine v_assign rfl ?_
            refine v_nil ?_
            refine q_n ?_
            refine w_ret (q_r ?_)
            refine r_r rfl ?_
            exact a_2 (fi_1 fun h => h1 h.1)
          · skip
            exact absurd h30 (by decide)
      · skip
        refine v_guard_on rfl rfl ?_
        refine v_not true rfl rfl ?_
        refine v_pick_f rfl rfl ?_
        refine v_move rfl ?_
        refine v_guard_off rfl rfl rfl ?_
        refine v_guard_off rfl rfl rfl ?_
        refine v_guard_off rfl rfl rfl ?_
        refine v_pick_t (v := .v (.bool true)) rfl rfl ?_
        refine v_call (c65 _ _) rfl rfl rfl (.cons vw_v (.cons vw_v .nil)) ?_
        refine v_lit (flat int [_, _]) (H' := [_]) lay118 lay2 rfl rfl ⟨by decide, by decide⟩ rfl rfl ?_
        refine v_call (c64 [_, _] (Nat.le_of_ble_eq_true rfl)) rfl rfl rfl (.cons (vw_mu int_sc int_len rfl rfl) .nil) ?_
        refine v_assign rfl ?_
        refine v_nil ?_
        refine q_n ?_
        refine w_seq ?_
        refine w_reg rfl ?_
        refine v_move rfl ?_
        refine v_neq lay2 rfl rfl (fun h31 => ?_) (fun h31 => ?_)
        · skip
          refine v_nil ?_
          refine q_n ?_
          refine w_t rfl ?_
          refine w_seq ?_
          refine w_reg rfl ?_
          refine v_move rfl ?_
          refine v_assign (c := .v (.int .i64 0)) rfl ?_
          refine v_assign rfl ?_
          refine v_nil ?_
          refine q_n ?_
          refine w_ret (q_r ?_)
          refine r_r rfl ?_
          exact a_2 (fi_1 fun h => h1 h.1)
        · skip
          exact absurd h31 (by decide)
    · skip
      refine v_not true rfl rfl ?_
      refine v_move rfl ?_
      refine v_guard_off rfl rfl rfl ?_
      refine v_guard_off rfl rfl rfl ?_
      refine v_guard_off rfl rfl rfl ?_
      refine v_pick_t (v := .v (.bool true)) rfl rfl ?_
      refine v_move rfl ?_
      refine v_guard_off rfl rfl rfl ?_
      refine v_guard_off rfl rfl rfl ?_
      refine v_guard_off rfl rfl rfl ?_
      refine v_pick_t (v := .v (.bool true)) rfl rfl ?_
      refine v_call (c65 _ _) rfl rfl rfl (.cons vw_v (.cons vw_v .nil)) ?_
      refine v_lit (flat int [_, _]) (H' := [_]) lay118 lay2 rfl rfl ⟨by decide, by decide⟩ rfl rfl ?_
      refine v_call (c64 [_, _] (Nat.le_of_ble_eq_true rfl)) rfl rfl rfl (.cons (vw_mu int_sc int_len rfl rfl) .nil) ?_
      refine v_assign rfl ?_
      refine v_nil ?_
      refine q_n ?_
      refine w_seq ?_
      refine w_reg rfl ?_
      refine v_move rfl ?_
      refine v_neq lay2 rfl rfl (fun h32 => ?_) (fun h32 => ?_)
      · skip
        refine v_nil ?_
        refine q_n ?_
        refine w_t rfl ?_
        refine w_seq ?_
        refine w_reg rfl ?_
        refine v_move rfl ?_
        refine v_assign (c := .v (.int .i64 0)) rfl ?_
        refine v_assign rfl ?_
        refine v_nil ?_
        refine q_n ?_
        refine w_ret (q_r ?_)
        refine r_r rfl ?_
        exact a_2 (fi_1 fun h => h1 h.1)
      · skip
        exact absurd h32 (by decide)

theorem c6 (xs ys : List Tal) (most share : Option Nat) (times : Int) (hx : xs.length ≤ maxLen) (hy : ys.length ≤ maxLen) (hb : T16 xs) (hb2 : T16 ys) (hm : Sg most) (hsh : Sg share) : PureC X 6 [.c (tals false xs), .c (tals false ys), .c (.f .f32 most), .c (.f .f32 share), cI times] (cB true) := by
  refine PureC.of_body (drawD_ok X) (fun _ _ => Go.Proofs.Try.call6 _ _) Go.Proofs.Try.func6 rfl (n := 70) rfl ?_
  refine w_seq ?_
  refine w_reg rfl ?_
  refine v_assign (c := .v (.bool false)) rfl ?_
  refine v_nil ?_
  refine q_n ?_
  refine w_seq ?_
  refine w_reg rfl ?_
  refine v_assign (c := .v (.int .i64 1048576)) rfl ?_
  refine v_nil ?_
  refine q_n ?_
  refine w_seq ?_
  refine w_reg rfl ?_
  refine v_move rfl ?_
  refine v_move rfl ?_
  refine v_call (c20 _ _ (by omega) (by assumption)) rfl rfl rfl (.cons vw_sl (.cons vw_v .nil)) ?_
  refine v_assign rfl ?_
  refine v_nil ?_
  refine q_n ?_
  refine w_seq ?_
  refine w_seq ?_
  refine w_reg rfl ?_
  refine v_move rfl ?_
  refine v_lss lay3 rfl rfl (fun h1 => ?_) (fun h1 => ?_)
  · skip
    refine v_nil ?_
    refine q_n ?_
    refine w_t rfl ?_
    refine w_seq ?_
    refine w_reg rfl ?_
    refine v_assign (c := .v (.bool true)) rfl ?_
    refine v_nil ?_
    refine q_n ?_
    refine w_ret (q_r ?_)
    refine r_r rfl ?_
    exact tr_v
  · skip
    have hs1 := szr_in h1
    refine v_nil ?_
    refine q_n ?_
    refine w_f rfl ?_
    refine w_skip ?_
    refine q_n ?_
    refine w_seq ?_
    refine w_reg rfl ?_
    refine v_move rfl ?_
    refine v_move rfl ?_
    refine v_call (c20 _ _ (by omega) (by assumption)) rfl rfl rfl (.cons vw_sl (.cons vw_v .nil)) ?_
    refine v_assign rfl ?_
    refine v_nil ?_
    refine q_n ?_
    refine w_seq ?_
    refine w_seq ?_
    refine w_reg rfl ?_
    refine v_move rfl ?_
    refine v_lss lay3 rfl rfl (fun h2 => ?_) (fun h2 => ?_)
    · skip
      refine v_nil ?_
      refine q_n ?_
      refine w_t rfl ?_
      refine w_seq ?_
      refine w_reg rfl ?_
      refine v_assign (c := .v (.bool true)) rfl ?_
      refine v_nil ?_
      refine q_n ?_
      refine w_ret (q_r ?_)
      refine r_r rfl ?_
      exact tr_v
    · skip
      have hs2 := szr_in h2
      refine v_nil ?_
      refine q_n ?_
      refine w_f rfl ?_
      refine w_skip ?_
      refine q_n ?_
      refine w_seq ?_
      refine w_reg rfl ?_
      refine v_move rfl ?_
      refine v_call (c22 _ (by omega)) rfl rfl rfl (.cons vw_sl .nil) ?_
      refine v_move rfl ?_
      refine v_call (c22 _ (by omega)) rfl rfl rfl (.cons vw_sl .nil) ?_
      refine v_move rfl ?_
      refine v_move rfl ?_
      refine v_move rfl ?_
      refine v_call (c34 _ _ _ _ _ (by omega) (by omega)) rfl rfl rfl (.cons vw_sl (.cons vw_sl (.cons vw_f (.cons vw_f (.cons vw_v .nil))))) ?_
      refine v_move_t rfl ?_
      refine v_extract_c rfl rfl ?_
      refine v_extract_c rfl rfl ?_
      refine v_assign rfl ?_
      refine v_assign rfl ?_
      refine v_nil ?_
      refine q_n ?_
      refine w_seq ?_
      refine w_reg rfl ?_
      refine v_move rfl ?_
      refine v_call (c22 _ (by omega)) rfl rfl rfl (.cons vw_sl .nil) ?_
      refine v_assign rfl ?_
      refine v_nil ?_
      refine q_n ?_
      refine w_seq ?_
      refine w_reg rfl ?_
      refine v_move rfl ?_
      refine v_call (c22 _ (by omega)) rfl rfl rfl (.cons vw_sl .nil) ?_
      refine v_assign rfl ?_
      refine v_nil ?_
      refine q_n ?_
      refine w_seq ?_
      refine w_reg rfl ?_
      refine v_move rfl ?_
      refine v_move rfl ?_
      refine v_move rfl ?_
      refine v_move rfl ?_
      refine v_move rfl ?_
      refine v_call (c35 _ _ _ _ _ (by omega) (by omega) (by assumption) (by assumption) (by assumption) (by assumption)) rfl rfl rfl (.cons vw_sl (.cons vw_sl (.cons vw_f (.cons vw_f (.cons vw_v .nil))))) ?_
      refine v_move_t rfl ?_
      refine v_extract_c rfl rfl ?_
      refine v_extract_c rfl rfl ?_
      refine v_assign rfl ?_
      refine v_assign rfl ?_
      refine v_nil ?_
      refine q_n ?_
      refine w_seq ?_
      refine w_seq ?_
      refine w_reg rfl ?_
      refine v_move rfl ?_
      refine v_move rfl ?_
      refine v_neq lay2 rfl rfl (fun h3 => ?_) (fun h3 => ?_)
      · skip
        exact absurd rfl h3
      · skip
        refine v_move rfl ?_
        refine v_guard_on rfl rfl ?_
        refine v_move rfl ?_
        refine v_guard_on rfl rfl ?_
        refine v_move rfl ?_
        refine v_guard_on rfl rfl ?_
        refine v_neq lay2 rfl rfl (fun h4 => ?_) (fun h4 => ?_)
        · skip
          exact absurd rfl h4
        · skip
          refine v_pick_f rfl rfl ?_
          refine v_nil ?_
          refine q_n ?_
          refine w_f rfl ?_
          refine w_skip ?_
          refine q_n ?_
          refine w_seq ?_
          refine w_seq ?_
          refine w_reg rfl ?_
          refine v_move rfl ?_
          refine v_move rfl ?_
          refine v_call (c22 _ (by omega)) rfl rfl rfl (.cons vw_sl .nil) ?_
          refine v_callb (c25 _ _ (by omega)) rfl rfl (.cons vw_sl (.cons vw_sl .nil)) (fun h5 => ?_) (fun h5 => ?_)
          · skip
            refine v_not false rfl rfl ?_
            refine v_nil ?_
            refine q_n ?_
            refine w_f rfl ?_
            refine w_skip ?_
            refine q_n ?_
            refine w_seq ?_
            refine w_seq ?_
            refine w_reg rfl ?_
            refine v_move rfl ?_
            refine v_move rfl ?_
            refine v_call (c22 _ (by omega)) rfl rfl rfl (.cons vw_sl .nil) ?_
            refine v_callb (c25 _ _ (by omega)) rfl rfl (.cons vw_sl (.cons vw_sl .nil)) (fun h6 => ?_) (fun h6 => ?_)
            · skip
              refine v_not false rfl rfl ?_
              refine v_nil ?_
              refine q_n ?_
              refine w_f rfl ?_
              refine w_skip ?_
              refine q_n ?_
              refine w_seq ?_
              refine w_reg rfl ?_
              refine v_assign (c := .v (.bool true)) rfl ?_
              refine v_nil ?_
              refine q_n ?_
              refine w_ret ?_
              refine r_r rfl ?_
              exact tr_v
            · skip
              exact absurd rfl h6
          · skip
            exact absurd rfl h5
end Go.VL
namespace Go.VL
open Go.RowKit
set_option maxRecDepth 20000
set_option maxHeartbeats 8000000
/-- A tally that is not wrong. -/
def gdB (t : Tal) : Bool := decide (t.2.1 ≤ 20 ∧ (t.2.1 = 0 ∨ 0 < t.2.2))
def bdP (t : Tal) : Prop := 20 < t.2.1 ∨ (0 < t.2.1 ∧ t.2.2 = 0)
instance (t : Tal) : Decidable (bdP t) := by unfold bdP; infer_instance
theorem gd_bd {xs : List Tal} (h : okL xs) {i : Nat} (hi : i < xs.length) : (bdP xs[i] ↔ gdB xs[i] = false) ∧ (¬ bdP xs[i] ↔ gdB xs[i] = true) := by
  have hk := h.at hi
  unfold bdP gdB
  simp only [decide_eq_true_eq, decide_eq_false_iff_not]
  omega
theorem fi_snoc {xs : List Tal} {i : Nat} (hi : i < xs.length) (h : gdB xs[i] = true) : (xs.take i).filter gdB ++ [xs[i]] = (xs.take (i + 1)).filter gdB := by
  rw [List.take_succ_eq_append_getElem hi, List.filter_append]
  simp [h]
theorem fi_skip {xs : List Tal} {i : Nat} (hi : i < xs.length) (h : gdB xs[i] = false) : (xs.take (i + 1)).filter gdB = (xs.take i).filter gdB := by
  rw [List.take_succ_eq_append_getElem hi, List.filter_append]
  simp [h]
theorem fi_le {xs : List Tal} (i : Nat) : ((xs.take i).filter gdB).length ≤ i := Nat.le_trans (List.length_filter_le _ _) (by simp; omega)
theorem fi_all {xs : List Tal} (h : okL xs) (hp : ∀ x ∈ xs, ¬ bdP x) : xs.filter gdB = xs := by
  rw [List.filter_eq_self]
  intro x hx
  obtain ⟨i, hi, rfl⟩ := List.getElem_of_mem hx
  exact (gd_bd h hi).2.1 (hp _ hx)
theorem okL_filter {xs : List Tal} (h : okL xs) (p : Tal → Bool) : okL (xs.filter p) := by
  have hs := srt_of h
  have hpw : xs.Pairwise (fun a b => a.1 < b.1) := by
    rw [List.pairwise_iff_getElem]
    exact fun i j hi hj hij => hs i j hj hij
  have hpf := hpw.filter p
  refine ⟨Nat.le_trans (List.length_filter_le _ _) h.1, fun i hi => ?_⟩
  have hm : (xs.filter p)[i] ∈ xs := (List.mem_filter.1 (List.getElem_mem hi)).1
  obtain ⟨j, hj, e⟩ := List.getElem_of_mem hm
  have hk := h.at hj
  rw [e] at hk
  refine ⟨hk.1, hk.2.1, hk.2.2.1, hk.2.2.2, fun q hq eq => ?_⟩
  exact List.pairwise_iff_getElem.1 hpf q i hq hi (by omega)
theorem t16_filter {xs : List Tal} (h : T16 xs) (p : Tal → Bool) : T16 (xs.filter p) := fun x hx => h x (List.mem_filter.1 hx).1
def fix {α : Type} (pr : α → Prop) [DecidablePred pr] (xs : List α) : Int := match xs.findIdx? (fun x => decide (pr x)) with
  | some i => (i : Int)
  | none => -1
theorem fix_none {α : Type} {pr : α → Prop} [DecidablePred pr] {xs : List α} (h : ∀ x ∈ xs, ¬ pr x) : fix pr xs = -1 := by
  unfold fix
  rw [List.findIdx?_eq_none_iff.2 (by simpa using h)]
theorem fix_hit {α : Type} {pr : α → Prop} [DecidablePred pr] {xs : List α} {i : Nat} (hi : i < xs.length) (h : ∀ x ∈ xs.take i, ¬ pr x) (h1 : pr xs[i]) : fix pr xs = i := by
  unfold fix
  rw [List.findIdx?_eq_some_iff_getElem.2 ⟨hi, by simpa using h1, fun j hj => by
    simpa using h xs[j] (by rw [List.mem_take_iff_getElem]; exact ⟨j, by omega, rfl⟩)⟩]
theorem fix_cases {α : Type} (pr : α → Prop) [DecidablePred pr] (xs : List α) : (fix pr xs = -1 ∧ ∀ x ∈ xs, ¬ pr x) ∨ ∃ i : Nat, ∃ hi : i < xs.length, fix pr xs = i ∧ pr xs[i] ∧ ∀ x ∈ xs.take i, ¬ pr x := by
  cases h : xs.findIdx? (fun x => decide (pr x)) with
  | none =>
    have := List.findIdx?_eq_none_iff.1 h
    simp only [decide_eq_false_iff_not] at this
    exact .inl ⟨fix_none this, this⟩
  | some i =>
    obtain ⟨h1, h2, h3⟩ := List.findIdx?_eq_some_iff_getElem.1 h
    have hp : ∀ x ∈ xs.take i, ¬ pr x := fun x hx => by
      rw [List.mem_take_iff_getElem] at hx
      obtain ⟨j, hj, rfl⟩ := hx
      simpa using h3 j (by omega)
    exact .inr ⟨i, h1, fix_hit h1 hp (by simpa using h2), by simpa using h2, hp⟩
theorem tr_fn1 {H : List Ob} {gg : List (Option Nat)} {g : FuncId} {cs : List C} : TrV H gg (.c (.fn g [.vw false cs 0])) (.c (.fn g [.vw false cs 0])) := .c (.fn rfl (same_of fun c hc => Tr.stay (by simp at hc; subst hc; rfl)))
/-- Tallies, as they are moved forward. -/
def dl (xs : List Tal) (j : Nat) : List Tal := (xs.take j).filter gdB ++ xs.drop ((xs.take j).filter gdB).length
theorem dl_len {xs : List Tal} {j : Nat} (hj : j ≤ xs.length) : (dl xs j).length = xs.length := by
  have := fi_le (xs := xs) j
  simp only [dl, List.length_append, List.length_drop]
  omega
theorem dl_at {xs : List Tal} {j : Nat} (hj : j < xs.length) (h : j < (dl xs j).length) : (dl xs j)[j] = xs[j] := by
  have := fi_le (xs := xs) j
  have e : (dl xs j)[j]? = some xs[j] := by
    unfold dl
    rw [List.getElem?_append_right this, List.getElem?_drop, show ((xs.take j).filter gdB).length + (j - ((xs.take j).filter gdB).length) = j by omega]
    exact List.getElem?_eq_getElem hj
  rw [List.getElem?_eq_getElem h] at e
  exact Option.some.inj e
theorem dl_set {xs : List Tal} {j : Nat} (hj : j < xs.length) (h : gdB xs[j] = true) : (dl xs j).set ((xs.take j).filter gdB).length xs[j] = dl xs (j + 1) := by
  have hl := fi_le (xs := xs) j
  have e := fi_snoc hj h
  unfold dl
  rw [← e, List.set_append_right _ _ (Nat.le_refl _), Nat.sub_self, List.length_append, List.append_assoc]
  congr 1
  rw [List.drop_eq_getElem_cons (show ((xs.take j).filter gdB).length < xs.length by omega)]
  rfl
theorem dl_skip {xs : List Tal} {j : Nat} (hj : j < xs.length) (h : gdB xs[j] = false) : dl xs j = dl xs (j + 1) := by
  unfold dl
  rw [fi_skip hj h]
theorem dl_first {xs : List Tal} (h : okL xs) {i : Nat} (hi : i < xs.length) (hp : ∀ x ∈ xs.take i, ¬ bdP x) (hb : bdP xs[i]) : (xs.take (i + 1)).filter gdB = xs.take i ∧ dl xs (i + 1) = xs := by
  have e1 : (xs.take i).filter gdB = xs.take i := fi_all (okL_take h i) hp
  have e2 := fi_skip hi ((gd_bd h hi).1.1 hb)
  rw [e1] at e2
  refine ⟨e2, ?_⟩
  unfold dl
  rw [e2, List.length_take, Nat.min_eq_left (by omega), List.take_append_drop]
theorem fi_lt {xs : List Tal} (h : okL xs) {i j : Nat} (hi : i < xs.length) (hij : i < j) (hj : j ≤ xs.length) (hb : bdP xs[i]) : ((xs.take j).filter gdB).length < j := by
  have h1 : ((xs.take j).filter gdB).length < (xs.take j).length := List.length_filter_lt_length_iff_exists.2 ⟨xs[i], by rw [List.mem_take_iff_getElem]; exact ⟨i, by omega, rfl⟩, by rw [(gd_bd h hi).1.1 hb]; decide⟩
  rw [List.length_take] at h1
  omega
theorem dl_take {xs R : List Tal} : ((dl xs xs.length).take (xs.filter gdB).length ++ R).take (xs.filter gdB).length = xs.filter gdB := by
  have e : dl xs xs.length = xs.filter gdB ++ xs.drop (xs.filter gdB).length := by unfold dl; rw [List.take_length]
  rw [e, List.take_left, List.take_left]
theorem c102 (t : Tal) : PureC X 102 [.agg (te t), .c (.vw false [.v (.int .i16 20)] 0)] (cB (decide (bdP t))) := by
  refine PureC.of_body (drawD_ok X) (fun _ _ => Go.Proofs.Try.call102 _ _) Go.Proofs.Try.func102 rfl (n := 18) rfl ?_
  refine w_seq ?_
  refine w_reg rfl ?_
  refine v_box (m := 0) (H' := [_]) lay27 rfl rfl rfl ?_
  refine v_assign (c := .v (.bool false)) rfl ?_
  refine v_nil ?_
  refine q_n ?_
  refine w_seq ?_
  refine w_reg rfl ?_
  refine v_fa_pt (off' := 1) lay27 rfl rfl rfl ?_
  refine v_load_pt (.c _) lay23 rfl rfl rfl rfl ?_
  refine v_load_vw (.c (.v _)) lay23 rfl rfl rfl ?_
  refine v_gtr lay23 rfl rfl (fun h1 => ?_) (fun h1 => ?_)
  · refine v_move rfl ?_
    refine v_guard_off rfl rfl rfl ?_
    refine v_guard_off rfl rfl rfl ?_
    refine v_guard_off rfl rfl rfl ?_
    refine v_guard_off rfl rfl rfl ?_
    refine v_guard_un rfl rfl ?_
    refine v_guard_un rfl rfl ?_
    refine v_guard_un rfl rfl ?_
    refine v_guard_off rfl rfl rfl ?_
    refine v_pick_t (v := .v (.bool true)) rfl rfl ?_
    refine v_assign rfl ?_
    refine v_nil ?_
    refine q_n ?_
    refine w_ret ?_
    refine r_r rfl ?_
    exact a_b (by unfold bdP; first | (simp_all; done) | (simp; omega))
  refine v_move rfl ?_
  refine v_guard_on rfl rfl ?_
  refine v_fa_pt (off' := 1) lay27 rfl rfl rfl ?_
  refine v_guard_on rfl rfl ?_
  refine v_load_pt (.c _) lay23 rfl rfl rfl rfl ?_
  refine v_guard_on rfl rfl ?_
  refine v_gtr lay23 rfl rfl (fun h2 => ?_) (fun h2 => ?_)
  rotate_left
  · refine v_guard_on rfl rfl ?_
    refine v_move rfl ?_
    refine v_guard_off rfl rfl rfl ?_
    refine v_guard_off rfl rfl rfl ?_
    refine v_guard_off rfl rfl rfl ?_
    refine v_guard_on rfl rfl ?_
    refine v_pick_f (v := .v (.bool false)) rfl rfl ?_
    refine v_pick_f rfl rfl ?_
    refine v_assign rfl ?_
    refine v_nil ?_
    refine q_n ?_
    refine w_ret ?_
    refine r_r rfl ?_
    exact a_b (by unfold bdP; first | (simp_all; done) | (simp; omega))
  refine v_guard_on rfl rfl ?_
  refine v_move rfl ?_
  refine v_guard_on rfl rfl ?_
  refine v_fa_pt (off' := 2) lay27 rfl rfl rfl ?_
  refine v_guard_on rfl rfl ?_
  refine v_load_pt (.c _) lay23 rfl rfl rfl rfl ?_
  refine v_guard_on rfl rfl ?_
  refine v_eql lay23 rfl rfl (fun h3 => ?_) (fun h3 => ?_)
  · refine v_guard_on rfl rfl ?_
    refine v_pick_t rfl rfl ?_
    refine v_pick_f rfl rfl ?_
    refine v_assign rfl ?_
    refine v_nil ?_
    refine q_n ?_
    refine w_ret ?_
    refine r_r rfl ?_
    exact a_b (by unfold bdP; first | (simp_all; done) | (simp; omega))
  refine v_guard_on rfl rfl ?_
  refine v_pick_t rfl rfl ?_
  refine v_pick_f rfl rfl ?_
  refine v_assign rfl ?_
  refine v_nil ?_
  refine q_n ?_
  refine w_ret ?_
  refine r_r rfl ?_
  exact a_b (by unfold bdP; first | (simp_all; done) | (simp; omega))
theorem c124 (g : FuncId) (cs : List C) (pr : Tal → Prop) [DecidablePred pr] (xs : List Tal) (hx : xs.length ≤ 2 ^ 40) (hF : ∀ x ∈ xs, PureC X g [.agg (te x), .c (.vw false cs 0)] (cB (decide (pr x)))) : PureC X 124 [.c (.sl false xs.length 3 (flat te xs)), .c (.fn g [.vw false cs 0])] (cI (fix pr xs)) := by
  refine PureC.of_body (drawD_ok X) (fun _ _ => Go.Proofs.Try.call124 _ _) Go.Proofs.Try.func124 rfl (n := 19) rfl ?_
  refine w_seq ?_
  refine w_reg rfl ?_
  refine v_assign (c := .v (.int .i64 0)) rfl ?_
  refine v_nil ?_
  refine q_n ?_
  refine w_seq ?_
  refine w_seq ?_
  refine w_reg rfl ?_
  refine v_move rfl ?_
  refine v_len_sl lay40 rfl ?_
  refine v_move (c := .v (.int .i64 0)) rfl ?_
  refine v_nil ?_
  refine q_n ?_
  refine w_block ?_
  refine w_loop (fun k sl H => ∃ i : Nat, k = xs.length - i ∧ i ≤ xs.length ∧ (∀ x ∈ xs.take i, ¬ pr x) ∧ sl = sls [(0, .c (.sl false xs.length 3 (flat te xs))), (1, .c (.fn g [.vw false cs 0])), (7, cI xs.length), (8, cI i)] ∧ H = []) ?_ ?_
  · refine ⟨_, _, _, ?_, 0, rfl, Nat.zero_le _, by simp, rfl, rfl⟩
    exact turn0 ⟨tr_sl, tr_fn1, tr_v, tr_v, trivial⟩
  rintro k sl H ⟨i, rfl, hi, hp, rfl, rfl⟩
  refine w_seq ?_
  refine w_reg rfl ?_
  refine v_lss lay3 rfl rfl (fun h1 => ?_) (fun h1 => ?_)
  rotate_left
  · refine v_nil ?_
    refine q_n ?_
    refine w_seq ?_
    refine w_f rfl ?_
    refine w_exit ?_
    refine q_e ?_
    refine q_e ?_
    refine q_hit ?_
    refine q_n ?_
    refine w_seq ?_
    refine w_reg rfl ?_
    refine v_assign (c := .v (.int .i64 (-1))) rfl ?_
    refine v_nil ?_
    refine q_n ?_
    refine w_ret ?_
    refine r_r rfl ?_
    obtain rfl : i = xs.length := by omega
    rw [List.take_length] at hp
    exact a_i (fix_none hp).symm
  have hj : i < xs.length := by omega
  refine v_nil ?_
  refine q_n ?_
  refine w_seq ?_
  refine w_t rfl ?_
  refine w_skip ?_
  refine q_n ?_
  refine w_seq ?_
  refine w_block ?_
  refine w_seq ?_
  refine w_reg rfl ?_
  refine v_move rfl ?_
  refine v_assign rfl ?_
  refine v_nil ?_
  refine q_n ?_
  refine w_seq ?_
  refine w_reg rfl ?_
  refine v_move rfl ?_
  refine v_move rfl ?_
  refine v_move rfl ?_
  refine v_idx_e (k := 3) (i) te_len lay40 lay27 rfl rfl rfl (rfl) rfl (rfl) ((by omega : i < xs.length)) ?_
  refine v_load_vw (.agg [.v _, .v _, .v _]) lay27 rfl rfl rfl ?_
  refine v_callb (hF _ (List.getElem_mem hj)) rfl rfl (.cons (vw_agg (.cons vw_v (.cons vw_v (.cons vw_v .nil)))) (.cons vw_vw .nil)) (fun h3 => ?_) (fun h3 => ?_)
  · refine v_nil ?_
    refine q_n ?_
    refine w_t rfl ?_
    refine w_seq ?_
    refine w_reg rfl ?_
    refine v_move rfl ?_
    refine v_assign rfl ?_
    refine v_nil ?_
    refine q_n ?_
    refine w_ret (q_br (q_r (q_r (q_br (q_r ?_)))))
    refine r_r rfl ?_
    exact a_i (fix_hit hj hp h3).symm
  refine v_nil ?_
  refine q_n ?_
  refine w_f rfl ?_
  refine w_skip ?_
  refine q_bn ?_
  refine q_n ?_
  refine w_reg rfl ?_
  refine v_add lay3 rfl rfl (i64r (by omega)) ?_
  refine v_move rfl ?_
  refine v_nil ?_
  refine q_n ?_
  refine ⟨_, _, _, ?_, ⟨i + 1, rfl, by omega, all_step hj hp h3, rfl, rfl⟩, by omega⟩
  exact turn0 ⟨tr_sl, tr_fn1, tr_v, tr_v, trivial⟩
theorem c54 (xs : List Tal) (hk : okL xs) (hb : T16 xs) (hx : xs.length ≤ 2 ^ 40) : PureC X 54 [.c (tals false xs), .c (.v (.int .i16 20))] (.tup [.c (tals true (xs.filter gdB)), cI 0]) := by
  refine PureC.of_body (drawD_ok X) (fun _ _ => Go.Proofs.Try.call54 _ _) Go.Proofs.Try.func54 rfl (n := 23) rfl ?_
  refine w_seq ?_
  refine w_reg rfl ?_
  refine v_box (m := 0) (H' := [_]) lay23 rfl rfl rfl ?_
  refine v_assign rfl ?_
  refine v_assign (c := .v (.int .i64 0)) rfl ?_
  refine v_nil ?_
  refine q_n ?_
  refine w_seq ?_
  refine w_seq ?_
  refine w_draw [0, 1, 3, 7, 0, 16, 63, 127, 255, 511] [⟨0, 0, []⟩, ⟨1, 0, []⟩, ⟨2, 0, []⟩, ⟨3, 0, []⟩, ⟨4, 0, []⟩, ⟨5, 0, []⟩, ⟨6, 0, []⟩, ⟨7, 2, []⟩, ⟨8, 0, []⟩, ⟨9, 0, []⟩] rfl rfl ?_
  refine d_q rfl rfl rfl rfl rfl ?_
  refine v_move rfl ?_
  refine v_nil ?_
  refine d_callb (c58 _ (by omega) (by assumption)) rfl rfl rfl rfl (.cons vw_sl .nil) (fun h1 => ?_) (fun h1 => ?_)
  rotate_left
  · exact absurd hk h1
  refine d_q rfl rfl rfl rfl rfl ?_
  refine v_not false rfl rfl ?_
  refine v_nil ?_
  refine d_call (c65 _ _) rfl rfl rfl rfl rfl (.cons vw_v (.cons vw_v .nil)) ?_
  refine d_q rfl rfl rfl rfl rfl ?_
  refine v_load_pt (.c _) lay23 rfl rfl rfl rfl ?_
  refine v_nil ?_
  refine d_q rfl rfl rfl rfl rfl ?_
  refine v_lss lay23 rfl rfl (fun h2 => ?_) (fun h2 => ?_)
  · exact absurd h2 (by decide)
  refine v_nil ?_
  refine d_call (c65 _ _) rfl rfl rfl rfl rfl (.cons vw_v (.cons vw_v .nil)) ?_
  refine d_z (.c (.sl true 2 1 (flat int [_, _]))) rfl rfl rfl ?_
  refine d_call (c64 [_, _] (Nat.le_of_ble_eq_true rfl)) rfl rfl rfl rfl rfl (.cons vw_sl .nil) ?_
  refine d_q rfl rfl rfl rfl rfl ?_
  refine v_assign rfl ?_
  refine v_nil ?_
  refine d_nil ?_
  refine q_n ?_
  refine w_seq ?_
  refine w_reg rfl ?_
  refine v_move rfl ?_
  refine v_neq lay2 rfl rfl (fun h3 => ?_) (fun h3 => ?_)
  · exact absurd (by rfl) h3
  refine v_nil ?_
  refine q_n ?_
  refine w_f rfl ?_
  refine w_skip ?_
  refine q_n ?_
  refine w_seq ?_
  refine w_reg rfl ?_
  refine v_move rfl ?_
  refine v_live1 (N := 1) (H' := [_, _]) (c88l _ (by omega)) (sc_flat te_sc _) rfl rfl rfl rfl rfl rfl (.cons vw_sl .nil) ?_
  refine v_fn rfl ?_
  refine v_inl (n := 42) (drawD_ok X) (fun _ _ => Go.Proofs.Try.call101 _ _) Go.Proofs.Try.func101 rfl rfl rfl rfl ?_
  refine w_seq ?_
  refine w_reg rfl ?_
  refine v_assign rfl ?_
  refine v_nil ?_
  refine q_n ?_
  refine w_seq ?_
  refine w_reg rfl ?_
  refine v_move rfl ?_
  refine v_move rfl ?_
  refine v_call (c124 102 [.v (.int .i16 20)] bdP xs (by omega) (fun x _ => c102 x)) rfl rfl rfl (.cons (vw_mu2 te_sc te_len rfl (by first | (simp; done) | (simp; omega))) (.cons (vw_fn (.cons (vw_pt rfl (.cons .v .nil)) .nil)) .nil)) ?_
  refine v_assign rfl ?_
  refine v_nil ?_
  refine q_n ?_
  refine w_seq ?_
  refine w_seq ?_
  refine w_reg rfl ?_
  refine v_move rfl ?_
  refine v_eql lay3 rfl rfl (fun h4 => ?_) (fun h4 => ?_)
  · have hf := h4
    refine v_nil ?_
    refine q_n ?_
    refine w_t rfl ?_
    refine w_seq ?_
    refine w_reg rfl ?_
    refine v_move rfl ?_
    refine v_assign rfl ?_
    refine v_nil ?_
    refine q_n ?_
    refine w_ret (q_r ?_)
    refine r_r rfl ?_
    refine v_assign rfl ?_
    refine v_assign (c := .v (.int .i64 0)) rfl ?_
    refine v_nil ?_
    refine q_n ?_
    refine w_ret ?_
    refine r_r rfl ?_
    have hall : ∀ x ∈ xs, ¬ bdP x := (fix_cases bdP xs).elim (fun h => h.2) (fun ⟨i, hi, h, _⟩ => by omega)
    rw [fi_all hk hall]
    exact a_tup (.cons (a_flat te_sc te_len rfl rfl) (.cons tr_v .nil))
  obtain ⟨i0, hi0, hf0, hb0, hp0⟩ := (fix_cases bdP xs).resolve_left (fun h => h4 h.1)
  refine v_nil ?_
  refine q_n ?_
  refine w_f rfl ?_
  refine w_skip ?_
  refine q_n ?_
  refine w_seq ?_
  refine w_seq ?_
  refine w_reg rfl ?_
  refine v_move rfl ?_
  refine v_add lay3 rfl rfl (i64r (by omega)) ?_
  refine v_assign rfl ?_
  refine v_nil ?_
  refine q_n ?_
  refine w_block ?_
  refine w_loop (fun k sl H => ∃ j : Nat, k = xs.length - j ∧ j ≤ xs.length ∧ i0 < j ∧ sl = sls [(0, .c (.mu 1 0 xs.length 3)), (1, .c (.fn 102 [.pt 0 0])), (5, cI ((xs.take j).filter gdB).length), (6, cI j)] ∧ H = [⟨[.v (.int .i16 20)], 23, true⟩, ⟨flat te (dl xs j), 27, true⟩]) ?_ ?_
  · obtain ⟨he1, he2⟩ := dl_first hk hi0 hp0 hb0
    refine ⟨_, _, _, ?_, i0 + 1, rfl, by omega, by omega, rfl, rfl⟩
    rw [he1, he2]
    exact turn [some 0, some 1] rfl rfl rfl ⟨⟨_, rfl, .cons tr_v .nil⟩, ⟨_, rfl, trc_flat te_sc rfl⟩, trivial⟩ ⟨tr_mu rfl, tr_fnp rfl, tr_i (by rw [hf0]; simp; omega), tr_i (by rw [hf0]; rfl), trivial⟩
  rintro k sl H ⟨j, rfl, hj, hij, rfl, rfl⟩
  have hfl := fi_le (xs := xs) j
  have hdll := dl_len hj
  have hlt0 := fi_lt hk hi0 hij hj hb0
  have hlt : ((xs.take j).filter gdB).length < xs.length := by omega
  refine w_seq ?_
  refine w_seq ?_
  refine w_reg rfl ?_
  refine v_move rfl ?_
  refine v_move rfl ?_
  refine v_len_mu lay40 rfl ?_
  refine v_lss lay3 rfl rfl (fun h5 => ?_) (fun h5 => ?_)
  rotate_left
  · refine v_nil ?_
    refine q_n ?_
    refine w_f rfl ?_
    refine w_exit ?_
    refine q_e ?_
    refine q_e ?_
    refine q_hit ?_
    refine q_n ?_
    refine w_seq ?_
    refine w_reg rfl ?_
    refine v_move rfl ?_
    refine v_move rfl ?_
    refine v_slice_mu (((xs.take j).filter gdB).length) (xs.length) lay40 lay27 rfl rfl rfl rfl (rfl) (rfl) (by omega) (.inr hlt) ?_
    refine v_clear (H' := [_, _]) ((0, 0, 0)) (((xs.take j).filter gdB).length) te_len rfl lay40 lay27 rfl rfl rfl (by omega) rfl ?_
    refine v_nil ?_
    refine q_n ?_
    refine w_seq ?_
    refine w_reg rfl ?_
    refine v_move rfl ?_
    refine v_move rfl ?_
    refine v_slice_mu (0) (((xs.take j).filter gdB).length) lay40 lay27 rfl rfl rfl rfl (rfl) (rfl) (by omega) (.inl rfl) ?_
    refine v_assign rfl ?_
    refine v_nil ?_
    refine q_n ?_
    refine w_ret ?_
    refine r_r rfl ?_
    refine v_assign rfl ?_
    refine v_assign (c := .v (.int .i64 0)) rfl ?_
    refine v_nil ?_
    refine q_n ?_
    refine w_ret ?_
    refine r_r rfl ?_
    obtain rfl : j = xs.length := by omega
    simp only [List.take_length] at hlt ⊢
    exact a_tup (.cons (a_flat_pre te_sc te_len rfl (by simp) (by rw [List.append_assoc]; exact dl_take) (by simp [dl_len]; omega)) (.cons tr_v .nil))
  have hj1 : j < xs.length := by omega
  have hdj : j < (dl xs j).length := by omega
  have hda := dl_at hj1 hdj
  refine v_nil ?_
  refine q_n ?_
  refine w_t rfl ?_
  refine w_skip ?_
  refine q_n ?_
  refine w_seq ?_
  refine w_block ?_
  refine w_seq ?_
  refine w_reg rfl ?_
  refine v_move rfl ?_
  refine v_move rfl ?_
  refine v_idx_mu_e (k := 3) (off := 0) (j) lay40 lay27 rfl rfl rfl (rfl) (hj1) ?_
  refine v_load_flat j 0 (.agg [.v _, .v _, .v _]) te_len lay27 rfl rfl (by omega) (by omega) rfl rfl ?_
  refine v_alloc (m := 2) (H' := [_, _, ⟨[.v _, .v _, .v _], 27, true⟩]) lay27 rfl rfl ?_
  refine v_store (H' := [_, _, ⟨[_, _, _], 27, true⟩]) lay27 rfl rfl rfl rfl rfl rfl ?_
  refine v_nil ?_
  refine q_n ?_
  refine w_seq ?_
  refine w_reg rfl ?_
  refine v_move rfl ?_
  refine v_load_pt (.agg [_, _, _]) lay27 rfl rfl rfl rfl ?_
  refine v_callb (c102 _) rfl rfl (.cons (vw_agg (.cons vw_v (.cons vw_v (.cons vw_v .nil)))) (.cons (vw_pt rfl (.cons .v .nil)) .nil)) (fun h7 => ?_) (fun h7 => ?_)
  · have hgd := (gd_bd hk hj1).1.1 (by rw [← hda]; exact h7)
    refine v_not false rfl rfl ?_
    refine v_nil ?_
    refine q_n ?_
    refine w_f rfl ?_
    refine w_skip ?_
    refine q_bn ?_
    refine q_n ?_
    refine w_reg rfl ?_
    refine v_move rfl ?_
    refine v_add lay3 rfl rfl (i64r (by omega)) ?_
    refine v_assign rfl ?_
    refine v_nil ?_
    refine q_n ?_
    refine ⟨_, _, _, ?_, ⟨j + 1, rfl, by omega, by omega, rfl, rfl⟩, by omega⟩
    exact turn [some 0, some 1] rfl rfl rfl ⟨⟨_, rfl, .cons tr_v .nil⟩, ⟨_, rfl, trc_flat te_sc (congrArg (flat te) (dl_skip hj1 hgd))⟩, trivial⟩ ⟨tr_mu rfl, tr_fnp rfl, tr_i (by rw [fi_skip hj1 hgd]), tr_v, trivial⟩
  have hgd := (gd_bd hk hj1).2.1 (by rw [← hda]; exact h7)
  refine v_not true rfl rfl ?_
  refine v_nil ?_
  refine q_n ?_
  refine w_t rfl ?_
  refine w_seq ?_
  refine w_reg rfl ?_
  refine v_move rfl ?_
  refine v_move rfl ?_
  refine v_load_pt (.agg [_, _, _]) lay27 rfl rfl rfl rfl ?_
  refine v_idx_mu_e (k := 3) (off := 0) (((xs.take j).filter gdB).length) lay40 lay27 rfl rfl rfl (rfl) ((by omega)) ?_
  refine v_store_flat (H' := [_, _, _]) ((xs.take j).filter gdB).length 0 ((dl xs j)[j]) te_len lay27 rfl rfl rfl (by omega) (by omega) rfl rfl (rfl) rfl ?_
  refine v_nil ?_
  refine q_n ?_
  refine w_reg rfl ?_
  refine v_move rfl ?_
  refine v_add lay3 rfl rfl (i64r (by omega)) ?_
  refine v_assign rfl ?_
  refine v_nil ?_
  refine q_bn ?_
  refine q_n ?_
  refine w_reg rfl ?_
  refine v_move rfl ?_
  refine v_add lay3 rfl rfl (i64r (by omega)) ?_
  refine v_assign rfl ?_
  refine v_nil ?_
  refine q_n ?_
  have hdl : (dl xs j).set ((xs.take j).filter gdB).length (dl xs j)[j] = dl xs (j + 1) := by rw [hda]; exact dl_set hj1 hgd
  refine ⟨_, _, _, ?_, ⟨j + 1, rfl, by omega, by omega, rfl, rfl⟩, by omega⟩
  exact turn [some 0, some 1] rfl rfl rfl ⟨⟨_, rfl, .cons tr_v .nil⟩, ⟨_, rfl, trc_flat te_sc (congrArg (flat te) hdl)⟩, trivial⟩ ⟨tr_mu rfl, tr_fnp rfl, tr_i (by rw [← fi_snoc hj1 hgd]; simp), tr_v, trivial⟩
end Go.VL
namespace Go.VL
open Go.RowKit
set_option maxRecDepth 20000
set_option maxHeartbeats 8000000
theorem fl_facts : ((List.range 200).all fun q => decide (amt (FloatKind.f32.nearest (q : Int))) && decide (FloatKind.f32.nearest (q : Int) < 2 ^ 32)) = true := by kernel_rfl
theorem fl_amt {q : Int} (h : 0 ≤ q ∧ q < 200) : amtB (fl q) = true ∧ Sg (fl q) := by
  obtain ⟨n, rfl⟩ := Int.eq_ofNat_of_zero_le h.1
  have h1 := List.all_eq_true.1 fl_facts n (List.mem_range.2 (by omega))
  simp only [Bool.and_eq_true, decide_eq_true_eq] at h1
  exact ⟨amtB_some.2 h1.1, okF_near _, fun b hb => by simp only [fl, Option.some.injEq] at hb; omega⟩
theorem sh_q : shOk (fOf .f32 1048576000) ∧ Sg (fOf .f32 1048576000) := ⟨of_decide_eq_true (by kernel_rfl), okF_fOf _, fun b hb => by
  have : fOf .f32 1048576000 = some 1048576000 := by kernel_rfl
  rw [this] at hb
  simp only [Option.some.injEq] at hb
  omega⟩
theorem sh_0 : shOk (fOf .f32 0) ∧ Sg (fOf .f32 0) := ⟨of_decide_eq_true (by kernel_rfl), okF_fOf _, fun b hb => by
  have : fOf .f32 0 = some 0 := by kernel_rfl
  rw [this] at hb
  simp only [Option.some.injEq] at hb
  omega⟩
theorem mo_1 : amtB (fOf .f32 1065353216) = true ∧ Sg (fOf .f32 1065353216) := ⟨by kernel_rfl, okF_fOf _, fun b hb => by
  have : fOf .f32 1065353216 = some 1065353216 := by kernel_rfl
  rw [this] at hb
  simp only [Option.some.injEq] at hb
  omega⟩
theorem hot_self {share : Option Nat} {a : Int} (h : 0 ≤ a ∧ a ≤ 1000) : hot (fOf .f32 1065353216) share a a = false := by
  unfold hot fl
  rw [sub_int (by omega) (by omega) (by omega), Int.sub_self]
  exact and_f1 (by kernel_rfl)
theorem fnd_cases (ys : List Tal) (t : Int) : ¬ 0 ≤ fnd ys t ∨ ∃ q, ∃ hq : q < ys.length, fnd ys t = q ∧ ys[q].1 = t := by
  by_cases h : 0 ≤ fnd ys t
  · obtain ⟨q, hq, h1, h2⟩ := fnd_at h
    exact .inr ⟨q, hq, h1, h2⟩
  · exact .inl h
theorem inc_ok {most share : Option Nat} {times : Int} {ys : List Tal} : ∀ {xs : List Tal} {now : Int}, (inc most share times ys xs now).2 = 6 ∨ ((inc most share times ys xs now).2 = 0 ∧ (∃ x ∈ xs, x.1 = (inc most share times ys xs now).1) ∧ ∃ y ∈ ys, y.1 = (inc most share times ys xs now).1)
  | [], _ => .inl rfl
  | x :: r, now => by
    have hm : ∀ {now}, ((inc most share times ys r now).2 = 6 ∨ ((inc most share times ys r now).2 = 0 ∧ (∃ x ∈ r, x.1 = (inc most share times ys r now).1) ∧ ∃ y ∈ ys, y.1 = (inc most share times ys r now).1)) → ((inc most share times ys r now).2 = 6 ∨ ((inc most share times ys r now).2 = 0 ∧ (∃ z ∈ x :: r, z.1 = (inc most share times ys r now).1) ∧ ∃ y ∈ ys, y.1 = (inc most share times ys r now).1)) := fun {now} h => h.imp id fun ⟨a, ⟨z, hz, e⟩, b⟩ => ⟨a, ⟨z, List.mem_cons_of_mem _ hz, e⟩, b⟩
    rcases fnd_cases ys x.1 with h | ⟨q, hq, h1, h2⟩
    · simp only [inc, if_neg h]
      exact hm inc_ok
    · have h0 : 0 ≤ fnd ys x.1 := by omega
      have hy : ∃ y ∈ ys, y.1 = x.1 := ⟨_, List.getElem_mem hq, h2⟩
      simp only [inc, if_pos h0]
      split
      · split
        · exact .inr ⟨rfl, ⟨x, by simp, rfl⟩, hy⟩
        · exact hm inc_ok
      · split
        · exact .inr ⟨rfl, ⟨x, by simp, rfl⟩, hy⟩
        · exact hm inc_ok
theorem inc_self {share : Option Nat} {times : Int} (ht : 1 ≤ times) {ys : List Tal} (hs : srt ys) : ∀ {xs : List Tal}, (∀ x ∈ xs, x ∈ ys ∧ 0 ≤ x.2.2 ∧ x.2.2 ≤ 1000) → inc (fOf .f32 1065353216) share times ys xs 0 = (0, 6)
  | [], _ => rfl
  | x :: r, h => by
    obtain ⟨hx, hr1, hr2⟩ := h x (by simp)
    have ih := inc_self ht hs (xs := r) (share := share) (times := times) fun z hz => h z (by simp [hz])
    rcases fnd_cases ys x.1 with h | ⟨q, hq, h1, h2⟩
    · simp only [inc, if_neg h]
      exact ih
    · have h0 : 0 ≤ fnd ys x.1 := by omega
      obtain ⟨j, hj, e⟩ := List.getElem_of_mem hx
      have hqj : q = j := by
        rcases Nat.lt_trichotomy q j with h4 | h4 | h4
        · have := hs q j hj h4
          rw [e, h2] at this
          omega
        · exact h4
        · have := hs j q hq h4
          rw [e, h2] at this
          omega
      subst hqj
      simp only [inc, if_pos h0]
      have hy : (ys.getD (fnd ys x.1).toNat (0, 0, 0)).2.2 = x.2.2 := by
        rw [h1, Int.toNat_natCast, getD_at hj, e]
      rw [hy, hot_self ⟨hr1, hr2⟩, if_neg (by decide), if_neg (by omega)]
      exact ih
/-- What the law says of the first incident. -/
theorem inc_ex (xs ys : List Tal) (hd : drW xs) (hd' : drW ys) (q t : Int) (hq : 0 ≤ q ∧ q < 200) (ht : 1 ≤ t ∧ t ≤ 96) : ∃ d e : Int, PureC X 35 [.c (tals false xs), .c (tals false ys), .c (.f .f32 (fl q)), .c (.f .f32 (fOf .f32 1048576000)), cI t] (.tup [cI d, cI e])
    ∧ PureC X 34 [.c (tals false xs), .c (tals false ys), .c (.f .f32 (fl q)), .c (.f .f32 (fOf .f32 1048576000)), cI t] (.tup [cI d, cI e]) ∧ (e = 6 ∨ (e = 0 ∧ (∃ x ∈ xs, x.1 = d) ∧ ∃ y ∈ ys, y.1 = d)) := by
  obtain ⟨k1, k2, k3⟩ := hd.ok
  obtain ⟨m1, m2, m3⟩ := hd'.ok
  obtain ⟨f1, f2⟩ := fl_amt hq
  refine ⟨_, _, c35 xs ys (fl q) (fOf .f32 1048576000) t (by omega) (by omega) k2 m2 f2 sh_q.2, c34 xs ys (fl q) (fOf .f32 1048576000) t (by omega) (by omega), ?_⟩
  rw [fi_0 k1 m1 f1 sh_q.1 ht]
  exact inc_ok
theorem inc_no (xs : List Tal) (hd : drW xs) : PureC X 35 [.c (tals false xs), .c (tals false xs), .c (.f .f32 (fOf .f32 1065353216)), .c (.f .f32 (fOf .f32 0)), cI 1] (.tup [cI 0, cI 6]) := by
  obtain ⟨k1, k2, k3⟩ := hd.ok
  have h := c35 xs xs (fOf .f32 1065353216) (fOf .f32 0) 1 (by omega) (by omega) k2 k2 mo_1.2 sh_0.2
  rw [fi_0 k1 k1 mo_1.1 sh_0.1 (by decide), inc_self (by decide) (srt_of k1) fun x hx => ⟨hx, by
    obtain ⟨tu, hdd, -⟩ := hd
    exact (hdd.mem hx).2⟩] at h
  exact h
/-- Has some tally such a turn, so far? -/
def exT (xs : List Tal) (d : Int) : Nat → Bool
  | 0 => false
  | i + 1 => exT xs d i || decide ((ta xs i).1 = d)
theorem ex_mem {xs : List Tal} {d : Int} (h : ∃ x ∈ xs, x.1 = d) : exT xs d xs.length = true := by
  obtain ⟨x, hx, he⟩ := h
  obtain ⟨j, hj, rfl⟩ := List.getElem_of_mem hx
  have : ∀ n, j < n → exT xs d n = true := fun n => by
    induction n with
    | zero => intro h; omega
    | succ n ih =>
      intro h
      simp only [exT]
      by_cases e : j = n
      · subst e
        rw [ta, getD_at hj, decide_eq_true he, Bool.or_true]
      · rw [ih (by omega), Bool.true_or]
  exact this _ hj
theorem ex_t {xs : List Tal} {d : Int} {i : Nat} (h : exT xs d i = true) : true = exT xs d (i + 1) := by simp only [exT, h, Bool.true_or]
theorem ex_y {xs : List Tal} {d : Int} {i : Nat} (hi : i < xs.length) (h : exT xs d i = false) (e : xs[i].1 = d) : true = exT xs d (i + 1) := by
  simp only [exT, h, Bool.false_or]
  rw [ta, getD_at hi, decide_eq_true e]
theorem ex_n {xs : List Tal} {d : Int} {i : Nat} (hi : i < xs.length) (h : exT xs d i = false) (e : ¬ xs[i].1 = d) : false = exT xs d (i + 1) := by
  simp only [exT, h, Bool.false_or]
  rw [ta, getD_at hi, decide_eq_false e]
def smB (xs : List Tal) : Nat → Bool
  | 0 => false
  | i + 1 => smB xs i || stk xs i
theorem sm_iff {xs : List Tal} : ∀ {n : Nat}, smB xs n = true ↔ ∃ i, i < n ∧ stk xs i = true
  | 0 => by simp [smB]
  | n + 1 => by
    simp only [smB, Bool.or_eq_true, sm_iff (n := n)]
    constructor
    · rintro (⟨i, h1, h2⟩ | h)
      · exact ⟨i, by omega, h2⟩
      · exact ⟨n, by omega, h⟩
    · rintro ⟨i, h1, h2⟩
      by_cases e : i = n
      · subst e; exact .inr h2
      · exact .inl ⟨i, by omega, h2⟩
theorem sm_t {xs : List Tal} {i : Nat} (h : smB xs i = true) : true = smB xs (i + 1) := by simp only [smB, h, Bool.true_or]
theorem sm_f {xs : List Tal} {i : Nat} (h : smB xs i = false) {b : Bool} (e : stk xs i = b) : b = smB xs (i + 1) := by simp only [smB, h, Bool.false_or, e]
theorem fs_code {xs : List Tal} : ((fsR xs).2 = 0 ∨ (fsR xs).2 = 6) ∧ ((fsR xs).2 = 0 ↔ smB xs xs.length = true) := by
  by_cases h : ∃ i, i < xs.length ∧ stk xs i = true
  · have hmin : ∃ i, i < xs.length ∧ stk xs i = true ∧ ∀ j, j < i → stk xs j = false := by
      obtain ⟨i, h1, h2⟩ := h
      induction i using Nat.strongRecOn with
      | ind i ih =>
        by_cases hs : ∃ j, j < i ∧ stk xs j = true
        · obtain ⟨j, g1, g2⟩ := hs
          exact ih j g1 (by omega) g2
        · exact ⟨i, h1, h2, fun j hj => by
            cases e : stk xs j with
            | false => rfl
            | true => exact absurd ⟨j, hj, e⟩ hs⟩
    obtain ⟨i, h1, h2, h3⟩ := hmin
    rw [fs_hit h1 h3 h2]
    exact ⟨.inl rfl, ⟨fun _ => sm_iff.2 ⟨i, h1, h2⟩, fun _ => rfl⟩⟩
  · have hn : ∀ j, j < xs.length → stk xs j = false := fun j hj => by
      cases e : stk xs j with
      | false => rfl
      | true => exact absurd ⟨j, hj, e⟩ h
    rw [fs_none hn]
    exact ⟨.inr rfl, ⟨fun h2 => absurd h2 (by decide), fun h2 => absurd (sm_iff.1 h2) h⟩⟩
/-- The calls of the first eight tallies. -/
def gN (xs : List Tal) : Nat → Ph
  | 0 => fun _ => false
  | i + 1 => if i < 8 then putG (gN xs i) i (decide (10 ≤ (ta xs i).2.1)) else gN xs i
theorem gN_y {xs : List Tal} {i : Nat} (hi : i < xs.length) (h8 : i < 8) {b : Bool} (h : decide (10 ≤ xs[i].2.1) = b) : putG (gN xs i) i b = gN xs (i + 1) := by
  simp only [gN, if_pos h8]
  rw [ta, getD_at hi, h]
theorem gN_n {xs : List Tal} {i : Nat} (h8 : ¬ i < 8) : gN xs i = gN xs (i + 1) := by simp only [gN, if_neg h8]
theorem gN_at {xs : List Tal} {m : Nat} (hm : m < 8) : ∀ n, gN xs n ⟨m, hm⟩ = decide (m < n ∧ 10 ≤ (ta xs m).2.1)
  | 0 => by simp [gN]
  | n + 1 => by
    have ih := gN_at (xs := xs) hm n
    simp only [gN]
    by_cases h8 : n < 8
    · rw [if_pos h8]
      unfold putG
      simp only []
      by_cases e : m = n
      · subst e
        simp
      · rw [if_neg e, ih]
        by_cases h : m < n
        · simp [h, show m < n + 1 by omega]
        · simp [h, show ¬ m < n + 1 by omega]
    · rw [if_neg h8, ih]
      simp [show m < n by omega, show m < n + 1 by omega]
theorem gN_t {xs : List Tal} {m n : Nat} {hm : m < 8} (h : gN xs n ⟨m, hm⟩ = true) : m < n ∧ 10 ≤ (ta xs m).2.1 := by
  rw [gN_at hm] at h
  exact of_decide_eq_true h
theorem gN_f {xs : List Tal} {m n : Nat} {hm : m < 8} (h : gN xs n ⟨m, hm⟩ = false) : ¬ (m < n ∧ 10 ≤ (ta xs m).2.1) := by
  rw [gN_at hm] at h
  exact of_decide_eq_false h
theorem pl_ld (g : Ph) {i : Nat} (h : i < 8) (h2 : i < (pl g).length) : mkV false (sub (bo (pl g)[i]) 0 1) = some (cB (g ⟨i, h⟩)) := by
  rw [pl_get g h]
  rfl
theorem c55 (xs : List Tal) (hk : okL xs) (hx : xs.length ≤ 2 ^ 40) : PureC X 55 [.c (tals false xs), .c (.v (.int .i16 20))] (.tup [.c (tals true (xs.filter gdB)), cI 0]) := by
  refine PureC.of_body (drawD_ok X) (fun _ _ => Go.Proofs.Try.call55 _ _) Go.Proofs.Try.func55 rfl (n := 53) rfl ?_
  refine w_seq ?_
  refine w_reg rfl ?_
  refine v_assign rfl ?_
  refine v_assign (c := .v (.int .i64 0)) rfl ?_
  refine v_nil ?_
  refine q_n ?_
  refine w_seq ?_
  refine w_seq ?_
  refine w_reg rfl ?_
  refine v_move rfl ?_
  refine v_callb (c70 _ (by omega)) rfl rfl (.cons vw_sl .nil) (fun h1 => ?_) (fun h1 => ?_)
  rotate_left
  · exact absurd hk h1
  refine v_not false rfl rfl ?_
  refine v_nil ?_
  refine q_n ?_
  refine w_f rfl ?_
  refine w_skip ?_
  refine q_n ?_
  refine w_seq ?_
  refine w_seq ?_
  refine w_reg rfl ?_
  refine v_move rfl ?_
  refine v_lss lay23 rfl rfl (fun h2 => ?_) (fun h2 => ?_)
  · exact absurd h2 (by decide)
  refine v_nil ?_
  refine q_n ?_
  refine w_f rfl ?_
  refine w_skip ?_
  refine q_n ?_
  refine w_seq ?_
  refine w_reg rfl ?_
  refine v_lit (flat te []) (H' := [_]) lay40 lay27 rfl rfl ⟨by decide, by decide⟩ rfl rfl ?_
  refine v_assign rfl ?_
  refine v_nil ?_
  refine q_n ?_
  refine w_seq ?_
  refine w_seq ?_
  refine w_reg rfl ?_
  refine v_assign (c := .v (.int .i64 0)) rfl ?_
  refine v_nil ?_
  refine q_n ?_
  refine w_block ?_
  refine w_loop (fun k sl H => ∃ i : Nat, k = xs.length - i ∧ i ≤ xs.length ∧ sl = sls [(0, .c (tals false xs)), (1, .c (.v (.int .i16 20))), (6, .c (.mu 0 0 ((xs.take i).filter gdB).length 3)), (7, cI i)] ∧ H = [⟨flat te ((xs.take i).filter gdB), 27, true⟩]) ?_ ?_
  · refine ⟨_, _, _, ?_, 0, rfl, Nat.zero_le _, rfl, rfl⟩
    exact turn [some 0] rfl rfl rfl ⟨⟨_, rfl, trc_flat te_sc rfl⟩, trivial⟩ ⟨tr_sl, tr_v, tr_mun rfl rfl, tr_v, trivial⟩
  rintro k sl H ⟨i, rfl, hi, rfl, rfl⟩
  have hfl := fi_le (xs := xs) i
  refine w_seq ?_
  refine w_seq ?_
  refine w_reg rfl ?_
  refine v_move rfl ?_
  refine v_move rfl ?_
  refine v_len_sl lay40 rfl ?_
  refine v_lss lay3 rfl rfl (fun h3 => ?_) (fun h3 => ?_)
  rotate_left
  · refine v_nil ?_
    refine q_n ?_
    refine w_f rfl ?_
    refine w_exit ?_
    refine q_e ?_
    refine q_e ?_
    refine q_hit ?_
    refine q_n ?_
    refine w_seq ?_
    refine w_reg rfl ?_
    refine v_move rfl ?_
    refine v_assign rfl ?_
    refine v_assign (c := .v (.int .i64 0)) rfl ?_
    refine v_nil ?_
    refine q_n ?_
    refine w_ret ?_
    refine r_r rfl ?_
    obtain rfl : i = xs.length := by omega
    simp only [List.take_length]
    exact a_tup (.cons (a_flat te_sc te_len rfl rfl) (.cons tr_v .nil))
  have hi1 : i < xs.length := by omega
  refine v_nil ?_
  refine q_n ?_
  refine w_t rfl ?_
  refine w_skip ?_
  refine q_n ?_
  refine w_seq ?_
  refine w_block ?_
  refine w_seq ?_
  refine w_reg rfl ?_
  refine v_move rfl ?_
  refine v_move rfl ?_
  refine v_idx_e (k := 3) (i) te_len lay40 lay27 rfl rfl rfl (rfl) rfl (rfl) (hi1) ?_
  refine v_fa_vw (off' := 1) lay27 rfl rfl rfl ?_
  refine v_load_vw (.c (.v _)) lay23 rfl rfl rfl ?_
  refine v_move rfl ?_
  refine v_leq lay23 rfl rfl (fun h5 => ?_) (fun h5 => ?_)
  rotate_left
  · have hw1 := h5
    refine v_move rfl ?_
    refine v_guard_off rfl rfl rfl ?_
    refine v_guard_off rfl rfl rfl ?_
    refine v_guard_off rfl rfl rfl ?_
    refine v_guard_off rfl rfl rfl ?_
    refine v_guard_off rfl rfl rfl ?_
    refine v_guard_off rfl rfl rfl ?_
    refine v_guard_off rfl rfl rfl ?_
    refine v_guard_un rfl rfl ?_
    refine v_guard_un rfl rfl ?_
    refine v_guard_un rfl rfl ?_
    refine v_guard_un rfl rfl ?_
    refine v_guard_un rfl rfl ?_
    refine v_guard_un rfl rfl ?_
    refine v_guard_off rfl rfl rfl ?_
    refine v_pick_f (v := .v (.bool false)) rfl rfl ?_
    refine v_nil ?_
    refine q_n ?_
    refine w_f rfl ?_
    refine w_skip ?_
    refine q_bn ?_
    refine q_n ?_
    refine w_reg rfl ?_
    refine v_move rfl ?_
    refine v_add lay3 rfl rfl (i64r (by omega)) ?_
    refine v_assign rfl ?_
    refine v_nil ?_
    refine q_n ?_
    have hgd : gdB xs[i] = false := decide_eq_false (by omega)
    refine ⟨_, _, _, ?_, ⟨i + 1, rfl, by omega, rfl, rfl⟩, by omega⟩
    exact turn [some 0] rfl rfl rfl ⟨⟨_, rfl, trc_flat te_sc (congrArg (flat te) (fi_skip hi1 hgd).symm)⟩, trivial⟩ ⟨tr_sl, tr_v, tr_mun rfl (by rw [fi_skip hi1 hgd]), tr_v, trivial⟩
  have hw1 := h5
  refine v_move rfl ?_
  refine v_guard_on rfl rfl ?_
  refine v_move rfl ?_
  refine v_guard_on rfl rfl ?_
  refine v_move rfl ?_
  refine v_guard_on rfl rfl ?_
  refine v_idx_e (k := 3) (i) te_len lay40 lay27 rfl rfl rfl (rfl) rfl (rfl) (hi1) ?_
  refine v_guard_on rfl rfl ?_
  refine v_fa_vw (off' := 1) lay27 rfl rfl rfl ?_
  refine v_guard_on rfl rfl ?_
  refine v_load_vw (.c (.v _)) lay23 rfl rfl rfl ?_
  refine v_guard_on rfl rfl ?_
  refine v_eql lay23 rfl rfl (fun h7 => ?_) (fun h7 => ?_)
  · have hw2 := h7
    refine v_guard_on rfl rfl ?_
    refine v_move rfl ?_
    refine v_guard_off rfl rfl rfl ?_
    refine v_guard_off rfl rfl rfl ?_
    refine v_guard_off rfl rfl rfl ?_
    refine v_guard_off rfl rfl rfl ?_
    refine v_guard_off rfl rfl rfl ?_
    refine v_guard_off rfl rfl rfl ?_
    refine v_guard_on rfl rfl ?_
    refine v_pick_t (v := .v (.bool true)) rfl rfl ?_
    refine v_pick_t rfl rfl ?_
    refine v_nil ?_
    refine q_n ?_
    refine w_t rfl ?_
    refine w_reg rfl ?_
    refine v_move rfl ?_
    refine v_move rfl ?_
    refine v_move rfl ?_
    refine v_idx_e (k := 3) (i) te_len lay40 lay27 rfl rfl rfl (rfl) rfl (rfl) (hi1) ?_
    refine v_load_vw (.agg [.v _, .v _, .v _]) lay27 rfl rfl rfl ?_
    refine v_lit (flat te [xs[i]]) (H' := [_, _]) lay40 lay27 rfl rfl ⟨by decide, by decide⟩ rfl rfl ?_
    refine v_app_flat (H' := [_, _, _]) te_sc te_len lay40 lay27 rfl rfl (rfl) rfl rfl (rfl) rfl rfl (by unfold maxLen; simp only []; omega) rfl rfl ?_
    refine v_assign rfl ?_
    refine v_nil ?_
    refine q_bn ?_
    refine q_n ?_
    refine w_reg rfl ?_
    refine v_move rfl ?_
    refine v_add lay3 rfl rfl (i64r (by omega)) ?_
    refine v_assign rfl ?_
    refine v_nil ?_
    refine q_n ?_
    have hgd : gdB xs[i] = true := decide_eq_true ⟨hw1, .inl hw2⟩
    refine ⟨_, _, _, ?_, ⟨i + 1, rfl, by omega, rfl, rfl⟩, by omega⟩
    exact turn [some 2] rfl rfl rfl ⟨⟨_, rfl, trc_flat te_sc (congrArg (flat te) (fi_snoc hi1 hgd))⟩, trivial⟩ ⟨tr_sl, tr_v, tr_mun rfl (by rw [← fi_snoc hi1 hgd]; simp), tr_v, trivial⟩
  have hw2 := h7
  refine v_guard_on rfl rfl ?_
  refine v_move rfl ?_
  refine v_guard_on rfl rfl ?_
  refine v_move rfl ?_
  refine v_guard_on rfl rfl ?_
  refine v_move rfl ?_
  refine v_guard_on rfl rfl ?_
  refine v_idx_e (k := 3) (i) te_len lay40 lay27 rfl rfl rfl (rfl) rfl (rfl) (hi1) ?_
  refine v_guard_on rfl rfl ?_
  refine v_fa_vw (off' := 2) lay27 rfl rfl rfl ?_
  refine v_guard_on rfl rfl ?_
  refine v_load_vw (.c (.v _)) lay23 rfl rfl rfl ?_
  refine v_guard_on rfl rfl ?_
  refine v_gtr lay23 rfl rfl (fun h10 => ?_) (fun h10 => ?_)
  rotate_left
  · have hw3 := h10
    refine v_guard_on rfl rfl ?_
    refine v_pick_f rfl rfl ?_
    refine v_pick_t rfl rfl ?_
    refine v_nil ?_
    refine q_n ?_
    refine w_f rfl ?_
    refine w_skip ?_
    refine q_bn ?_
    refine q_n ?_
    refine w_reg rfl ?_
    refine v_move rfl ?_
    refine v_add lay3 rfl rfl (i64r (by omega)) ?_
    refine v_assign rfl ?_
    refine v_nil ?_
    refine q_n ?_
    have hgd : gdB xs[i] = false := decide_eq_false (by omega)
    refine ⟨_, _, _, ?_, ⟨i + 1, rfl, by omega, rfl, rfl⟩, by omega⟩
    exact turn [some 0] rfl rfl rfl ⟨⟨_, rfl, trc_flat te_sc (congrArg (flat te) (fi_skip hi1 hgd).symm)⟩, trivial⟩ ⟨tr_sl, tr_v, tr_mun rfl (by rw [fi_skip hi1 hgd]), tr_v, trivial⟩
  have hw3 := h10
  refine v_guard_on rfl rfl ?_
  refine v_pick_f rfl rfl ?_
  refine v_pick_t rfl rfl ?_
  refine v_nil ?_
  refine q_n ?_
  refine w_t rfl ?_
  refine w_reg rfl ?_
  refine v_move rfl ?_
  refine v_move rfl ?_
  refine v_move rfl ?_
  refine v_idx_e (k := 3) (i) te_len lay40 lay27 rfl rfl rfl (rfl) rfl (rfl) (hi1) ?_
  refine v_load_vw (.agg [.v _, .v _, .v _]) lay27 rfl rfl rfl ?_
  refine v_lit (flat te [xs[i]]) (H' := [_, _]) lay40 lay27 rfl rfl ⟨by decide, by decide⟩ rfl rfl ?_
  refine v_app_flat (H' := [_, _, _]) te_sc te_len lay40 lay27 rfl rfl (rfl) rfl rfl (rfl) rfl rfl (by unfold maxLen; simp only []; omega) rfl rfl ?_
  refine v_assign rfl ?_
  refine v_nil ?_
  refine q_bn ?_
  refine q_n ?_
  refine w_reg rfl ?_
  refine v_move rfl ?_
  refine v_add lay3 rfl rfl (i64r (by omega)) ?_
  refine v_assign rfl ?_
  refine v_nil ?_
  refine q_n ?_
  have hgd : gdB xs[i] = true := decide_eq_true ⟨hw1, .inr hw3⟩
  refine ⟨_, _, _, ?_, ⟨i + 1, rfl, by omega, rfl, rfl⟩, by omega⟩
  exact turn [some 2] rfl rfl rfl ⟨⟨_, rfl, trc_flat te_sc (congrArg (flat te) (fi_snoc hi1 hgd))⟩, trivial⟩ ⟨tr_sl, tr_v, tr_mun rfl (by rw [← fi_snoc hi1 hgd]; simp), tr_v, trivial⟩
theorem c56 (xs : List Tal) (hk : okL xs) (hb : T16 xs) (hx : xs.length ≤ 2 ^ 40) : PureC X 56 [.c (tals false xs), .c (.v (.int .i16 10))] (.tup [.agg (phc (gN xs xs.length)), cI 0]) := by
  refine PureC.of_body (drawD_ok X) (fun _ _ => Go.Proofs.Try.call56 _ _) Go.Proofs.Try.func56 rfl (n := 41) rfl ?_
  refine w_seq ?_
  refine w_reg rfl ?_
  refine v_alloc (m := 0) (H' := [⟨[.v _, .v _, .v _, .v _, .v _, .v _, .v _, .v _], 69, true⟩]) lay69 rfl rfl ?_
  refine v_assign (c := .v (.int .i64 0)) rfl ?_
  refine v_nil ?_
  refine q_n ?_
  refine w_seq ?_
  refine w_reg rfl ?_
  refine v_build_a [.v _, .v _, .v _, .v _, .v _, .v _, .v _, .v _] lay69 lay4 rfl ?_
  refine v_alloc (m := 1) (H' := [_, ⟨[.v _, .v _, .v _, .v _, .v _, .v _, .v _, .v _], 69, true⟩]) lay69 rfl rfl ?_
  refine v_store (H' := [_, ⟨[_, _, _, _, _, _, _, _], 69, true⟩]) lay69 rfl rfl rfl rfl rfl rfl ?_
  refine v_nil ?_
  refine q_n ?_
  refine w_seq ?_
  refine w_seq ?_
  refine w_reg rfl ?_
  refine v_move rfl ?_
  refine v_callb (c58 _ (by omega) (by assumption)) rfl rfl (.cons vw_sl .nil) (fun h1 => ?_) (fun h1 => ?_)
  rotate_left
  · exact absurd hk h1
  refine v_not false rfl rfl ?_
  refine v_call (c65 _ _) rfl rfl rfl (.cons vw_v (.cons vw_v .nil)) ?_
  refine v_move rfl ?_
  refine v_lss lay23 rfl rfl (fun h2 => ?_) (fun h2 => ?_)
  · exact absurd h2 (by decide)
  refine v_call (c65 _ _) rfl rfl rfl (.cons vw_v (.cons vw_v .nil)) ?_
  refine v_lit (flat int [_, _]) (H' := [_, _, _]) lay118 lay2 rfl rfl ⟨by decide, by decide⟩ rfl rfl ?_
  refine v_call (c64 [_, _] (Nat.le_of_ble_eq_true rfl)) rfl rfl rfl (.cons (vw_mu2 int_sc int_len rfl (by first | (simp; done) | (simp; omega))) .nil) ?_
  refine v_assign rfl ?_
  refine v_nil ?_
  refine q_n ?_
  refine w_seq ?_
  refine w_reg rfl ?_
  refine v_move rfl ?_
  refine v_neq lay2 rfl rfl (fun h3 => ?_) (fun h3 => ?_)
  · exact absurd (by rfl) h3
  refine v_nil ?_
  refine q_n ?_
  refine w_f rfl ?_
  refine w_skip ?_
  refine q_n ?_
  refine w_seq ?_
  refine w_seq ?_
  refine w_reg rfl ?_
  refine v_move rfl ?_
  refine v_len_sl lay40 rfl ?_
  refine v_move (c := .v (.int .i64 0)) rfl ?_
  refine v_nil ?_
  refine q_n ?_
  refine w_block ?_
  refine w_loop (fun k sl H => ∃ i : Nat, k = xs.length - i ∧ i ≤ xs.length ∧ sl = sls [(0, .c (tals false xs)), (1, .c (.v (.int .i16 10))), (4, .c (.pt 0 0)), (5, cI 0), (6, .c (.pt 1 0)), (24, .c (tals false xs)), (25, cI xs.length), (26, cI i)] ∧ H = [⟨phc (fun _ => false), 69, true⟩, ⟨flat bo (pl (gN xs i)), 69, true⟩]) ?_ ?_
  · refine ⟨_, _, _, ?_, 0, rfl, Nat.zero_le _, rfl, rfl⟩
    exact turn [some 0, some 1] rfl rfl rfl ⟨⟨_, rfl, .cons tr_v (.cons tr_v (.cons tr_v (.cons tr_v (.cons tr_v (.cons tr_v (.cons tr_v (.cons tr_v .nil)))))))⟩, ⟨_, rfl, trc_flat bo_sc rfl⟩, trivial⟩ ⟨tr_sl, tr_v, tr_pt rfl, tr_v, tr_pt rfl, tr_sl, tr_v, tr_v, trivial⟩
  rintro k sl H ⟨i, rfl, hi, rfl, rfl⟩
  refine w_seq ?_
  refine w_reg rfl ?_
  refine v_lss lay3 rfl rfl (fun h4 => ?_) (fun h4 => ?_)
  rotate_left
  · refine v_nil ?_
    refine q_n ?_
    refine w_seq ?_
    refine w_f rfl ?_
    refine w_exit ?_
    refine q_e ?_
    refine q_e ?_
    refine q_hit ?_
    refine q_n ?_
    refine w_seq ?_
    refine w_reg rfl ?_
    refine v_load_pt (.agg [_, _, _, _, _, _, _, _]) lay69 rfl rfl rfl rfl ?_
    refine v_store (H' := [⟨[_, _, _, _, _, _, _, _], 69, true⟩, _]) lay69 rfl rfl rfl rfl rfl rfl ?_
    refine v_assign (c := .v (.int .i64 0)) rfl ?_
    refine v_nil ?_
    refine q_n ?_
    refine w_ret ?_
    refine r_r rfl ?_
    obtain rfl : i = xs.length := by omega
    exact a_tup (.cons (a_agg (.cons tr_v (.cons tr_v (.cons tr_v (.cons tr_v (.cons tr_v (.cons tr_v (.cons tr_v (.cons tr_v .nil))))))))) (.cons tr_v .nil))
  have hi1 : i < xs.length := by omega
  refine v_nil ?_
  refine q_n ?_
  refine w_seq ?_
  refine w_t rfl ?_
  refine w_skip ?_
  refine q_n ?_
  refine w_seq ?_
  refine w_block ?_
  refine w_seq ?_
  refine w_reg rfl ?_
  refine v_move rfl ?_
  refine v_idx_e (k := 3) (i) te_len lay40 lay27 rfl rfl rfl (rfl) rfl (rfl) (hi1) ?_
  refine v_load_vw (.agg [.v _, .v _, .v _]) lay27 rfl rfl rfl ?_
  refine v_alloc (m := 2) (H' := [_, _, ⟨[.v _, .v _, .v _], 27, true⟩]) lay27 rfl rfl ?_
  refine v_assign rfl ?_
  refine v_store (H' := [_, _, ⟨[_, _, _], 27, true⟩]) lay27 rfl rfl rfl rfl rfl rfl ?_
  refine v_nil ?_
  refine q_n ?_
  refine w_seq ?_
  refine w_reg rfl ?_
  refine v_move rfl ?_
  refine v_lss lay3 rfl rfl (fun h6 => ?_) (fun h6 => ?_)
  rotate_left
  · have h8 : ¬ i < 8 := by omega
    refine v_nil ?_
    refine q_n ?_
    refine w_f rfl ?_
    refine w_skip ?_
    refine q_bn ?_
    refine q_n ?_
    refine w_reg rfl ?_
    refine v_add lay3 rfl rfl (i64r (by omega)) ?_
    refine v_move rfl ?_
    refine v_nil ?_
    refine q_n ?_
    refine ⟨_, _, _, ?_, ⟨i + 1, rfl, by omega, rfl, rfl⟩, by omega⟩
    exact turn [some 0, some 1] rfl rfl rfl ⟨⟨_, rfl, .cons tr_v (.cons tr_v (.cons tr_v (.cons tr_v (.cons tr_v (.cons tr_v (.cons tr_v (.cons tr_v .nil)))))))⟩, ⟨_, rfl, trc_flat bo_sc (congrArg (flat bo) (congrArg pl (gN_n h8)))⟩, trivial⟩ ⟨tr_sl, tr_v, tr_pt rfl, tr_v, tr_pt rfl, tr_sl, tr_v, tr_v, trivial⟩
  have h8 : i < 8 := by omega
  refine v_nil ?_
  refine q_n ?_
  refine w_t rfl ?_
  refine w_reg rfl ?_
  refine v_move rfl ?_
  refine v_fa_pt (off' := 1) lay27 rfl rfl rfl ?_
  refine v_load_pt (.c _) lay23 rfl rfl rfl rfl ?_
  refine v_move rfl ?_
  refine v_geq lay23 rfl rfl (fun h7 => ?_) (fun h7 => ?_)
  · have hc10 : 10 ≤ xs[i].2.1 := h7
    refine v_idx_arr_e (k := 1) (i) lay69 lay4 rfl rfl rfl (rfl) (h8) ?_
    refine v_store_flat (H' := [_, _, _]) i 0 (true) bo_len lay4 rfl rfl rfl (by omega) (by rw [pl_len]; exact h8) rfl rfl (rfl) rfl ?_
    refine v_nil ?_
    refine q_bn ?_
    refine q_n ?_
    refine w_reg rfl ?_
    refine v_add lay3 rfl rfl (i64r (by omega)) ?_
    refine v_move rfl ?_
    refine v_nil ?_
    refine q_n ?_
    refine ⟨_, _, _, ?_, ⟨i + 1, rfl, by omega, rfl, rfl⟩, by omega⟩
    exact turn [some 0, some 1] rfl rfl rfl ⟨⟨_, rfl, .cons tr_v (.cons tr_v (.cons tr_v (.cons tr_v (.cons tr_v (.cons tr_v (.cons tr_v (.cons tr_v .nil)))))))⟩, ⟨_, rfl, trc_flat bo_sc (congrArg (flat bo) ((pl_set _ h8 _).trans (congrArg pl (gN_y hi1 h8 (decide_eq_true hc10)))))⟩, trivial⟩ ⟨tr_sl, tr_v, tr_pt rfl, tr_v, tr_pt rfl, tr_sl, tr_v, tr_v, trivial⟩
  have hc10 : ¬ 10 ≤ xs[i].2.1 := h7
  refine v_idx_arr_e (k := 1) (i) lay69 lay4 rfl rfl rfl (rfl) (h8) ?_
  refine v_store_flat (H' := [_, _, _]) i 0 (false) bo_len lay4 rfl rfl rfl (by omega) (by rw [pl_len]; exact h8) rfl rfl (rfl) rfl ?_
  refine v_nil ?_
  refine q_bn ?_
  refine q_n ?_
  refine w_reg rfl ?_
  refine v_add lay3 rfl rfl (i64r (by omega)) ?_
  refine v_move rfl ?_
  refine v_nil ?_
  refine q_n ?_
  refine ⟨_, _, _, ?_, ⟨i + 1, rfl, by omega, rfl, rfl⟩, by omega⟩
  exact turn [some 0, some 1] rfl rfl rfl ⟨⟨_, rfl, .cons tr_v (.cons tr_v (.cons tr_v (.cons tr_v (.cons tr_v (.cons tr_v (.cons tr_v (.cons tr_v .nil)))))))⟩, ⟨_, rfl, trc_flat bo_sc (congrArg (flat bo) ((pl_set _ h8 _).trans (congrArg pl (gN_y hi1 h8 (decide_eq_false hc10)))))⟩, trivial⟩ ⟨tr_sl, tr_v, tr_pt rfl, tr_v, tr_pt rfl, tr_sl, tr_v, tr_v, trivial⟩
end Go.VL
