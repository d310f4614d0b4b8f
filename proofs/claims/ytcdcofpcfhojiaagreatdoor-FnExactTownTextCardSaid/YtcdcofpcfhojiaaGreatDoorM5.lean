/- Texts of one proof, put together: T18, T19, T20, T21, S4, H1, H2, H3, TO, B0, B1. -/
import Derived.Test.YtcdcofpcfhojiaaGreatDoorM4
import Derived.Shelf.Strings.Builder1
import Derived.Shelf.Strings.Builder2
import Derived.Shelf.Strings.OnBuilder
import Derived.Shelf.Strings.BuilderF
import Derived.Shelf.Strconv.Itoa0
import Derived.Shelf.Strconv.Itoa1
import Derived.Shelf.LaysM
import Derived.Shelf.Strconv.Itoa2
import Derived.Shelf.Strconv.Itoa3
import Derived.Shelf.Strconv.Itoa4
import Derived.Shelf.Strconv.ParseIntEmpty
import Derived.Shelf.Strconv.Clone
import Derived.Shelf.Strconv.SyntaxError
import Derived.Shelf.LaysC
import Derived.Shelf.Strconv.ToError
import Derived.Shelf.Strconv.Lower
import Derived.Shelf.Strconv.ParseUint10
import Derived.Shelf.Strconv.ParseUint10Empty
import Derived.Shelf.Strconv.ParseUint10Any
import Derived.Shelf.Strconv.ParseInt10
import Derived.Shelf.Strconv.RangeError
import Derived.Shelf.Strconv.ToErrorRange
import Derived.Shelf.Strconv.ParseUintEmpty
import Derived.Shelf.Strconv.ParseUint10b64
import Derived.Shelf.Strconv.ParseUint10b32
import Derived.Shelf.Strconv.ParseUint10b16
import Derived.Shelf.Strconv.ParseUint10b8
import Derived.Shelf.Strconv.ParseUint10At
import Derived.Shelf.Strconv.ParseInt10At64
import Derived.Shelf.Strconv.ParseInt10At32
import Derived.Shelf.Strconv.ParseInt10At16
import Derived.Shelf.Strconv.ParseInt10At8
import Derived.Shelf.Strconv.ParseInt10All
import Derived.Shelf.Strconv.ParseIntPublic10
import Derived.Shelf.Strconv.ErrVarParseInt
import Derived.Ground.MpProg
import Derived.Shelf.Pu.ParseUintPublic10
import Derived.Shelf.Strings.Search1
import Derived.Shelf.Strings.Search2
import Derived.Shelf.Strings.Search3
import Derived.Shelf.Strings.Cut
import Derived.Shelf.Strings.Count
import Derived.Shelf.Strings.Shaped
import Derived.Shelf.Strings.Prefix
import Derived.Shelf.Strings.Split
import Derived.Shelf.Strings.SplitShaped
import Derived.Shelf.Unicode.Decode
import Derived.Shelf.Strings.RuneCount
import Derived.Shelf.Strings.Explode
import Derived.Shelf.Bits.Mul64
import Derived.Shelf.Strings.Repeat
import Derived.Shelf.Unicode.DecodeSlow
import Derived.Test.YtcdcofpcfhojiaaGreatDoorProg
import Derived.Test.YtcdcofpcfhojiaaGreatDoorM2
import Derived.Test.YtcdcofpcfhojiaaGreatDoorM3
import Derived.Test.YtcdcofpcfhojiaaGreatDoorRows
import Derived.ProofKit
import Derived.Below
import Derived.ChangeSame
import Derived.Handed
import Derived.KernelRfl
import Derived.LaidMore
import Derived.MakeChecks
import Derived.LaidHandle
namespace Go.VL
open Go.RowKit
set_option maxRecDepth 20000
set_option maxHeartbeats 8000000
def insA (js : List Jo) : List Int := js.flatMap fun j => j.2.1
def outsA (js : List Jo) : List Int := js.flatMap fun j => j.2.2.1
def jAll (np : Nat) (js : List Jo) : Prop := ∀ j ∈ js, jPre j ∧ (-1 ≤ j.2.2.2 ∧ j.2.2.2 ≤ (np : Int) - 1)
instance (np : Nat) (js : List Jo) : Decidable (jAll np js) := by unfold jAll; infer_instance
theorem insA_step {js : List Jo} {i : Nat} (h : i < js.length) : insA (js.take (i + 1)) = insA (js.take i) ++ js[i].2.1 := by
  unfold insA
  rw [List.take_succ_eq_append_getElem h, List.flatMap_append]
  simp only [List.flatMap_cons, List.flatMap_nil, List.append_nil]
theorem outsA_step {js : List Jo} {i : Nat} (h : i < js.length) : outsA (js.take (i + 1)) = outsA (js.take i) ++ js[i].2.2.1 := by
  unfold outsA
  rw [List.take_succ_eq_append_getElem h, List.flatMap_append]
  simp only [List.flatMap_cons, List.flatMap_nil, List.append_nil]
theorem insA_le {js : List Jo} (hj : ∀ j ∈ js, j.2.1.length ≤ 2 ^ 20 ∧ j.2.2.1.length ≤ 2 ^ 20) : ∀ {i : Nat}, i ≤ js.length → (insA (js.take i)).length ≤ 1048576 * i ∧ (outsA (js.take i)).length ≤ 1048576 * i
  | 0, _ => by simp [insA, outsA]
  | i + 1, h => by
    have ih := insA_le hj (i := i) (by omega)
    have h1 := hj _ (List.getElem_mem (show i < js.length by omega))
    rw [insA_step (by omega), outsA_step (by omega), List.length_append, List.length_append]
    omega
theorem cJok (t : Tw) (hB : tB (2 ^ 20) t) (hF : tF t) (hj4 : t.2.2.1.length ≤ 2 ^ 10) : PureC X 70 [.agg (twf false t)] (cB (decide (jAll t.2.2.2.1.length t.2.2.1 ∧ unl t.1.length (insA t.2.2.1) ∧ unl t.1.length (outsA t.2.2.1)))) := by
  refine PureC.of_body (drawD_ok X) (fun _ _ => Go.Proofs.Tryz.call70 _ _) Go.Proofs.Tryz.func70 rfl (n := 69) rfl ?_
  refine w_seq ?_
  refine w_reg rfl ?_
  refine v_box (m := 0) (H' := [_]) lay35 rfl rfl rfl ?_
  refine v_assign (c := .v (.bool false)) rfl ?_
  refine v_nil ?_
  refine q_n ?_
  refine w_seq ?_
  refine w_reg rfl ?_
  refine v_lit (flat int []) (H' := [_, _]) lay73 lay2 rfl rfl ⟨by decide, by decide⟩ rfl rfl ?_
  refine v_lit (flat int []) (H' := [_, _, _]) lay73 lay2 rfl rfl ⟨by decide, by decide⟩ rfl rfl ?_
  refine v_assign rfl ?_
  refine v_assign rfl ?_
  refine v_nil ?_
  refine q_n ?_
  refine w_seq ?_
  refine w_seq ?_
  refine w_reg rfl ?_
  refine v_fa_pt (off' := 2) lay35 rfl rfl rfl ?_
  refine v_load_pt (.c _) lay32 rfl rfl rfl rfl ?_
  refine v_len_sl lay32 rfl ?_
  refine v_move (c := .v (.int .i64 0)) rfl ?_
  refine v_nil ?_
  refine q_n ?_
  refine w_block ?_
  refine w_loop (fun k sl H => ∃ i : Nat, k = t.2.2.1.length - i ∧ i ≤ t.2.2.1.length ∧ (∀ j ∈ t.2.2.1.take i, jPre j ∧ (-1 ≤ j.2.2.2 ∧ j.2.2.2 ≤ (t.2.2.2.1.length : Int) - 1)) ∧ sl = sls [(1, .c (.pt 0 0)), (3, .c (.mu 1 0 (insA (t.2.2.1.take i)).length 1)), (4, .c (.mu 2 0 (outsA (t.2.2.1.take i)).length 1)), (10, .c (jos false t.2.2.1)), (11, cI t.2.2.1.length), (12, cI i)] ∧ H = [⟨twf false t, 35, true⟩, ⟨flat int (insA (t.2.2.1.take i)), 2, true⟩, ⟨flat int (outsA (t.2.2.1.take i)), 2, true⟩]) ?_ ?_
  · refine ⟨_, _, _, ?_, 0, rfl, Nat.zero_le _, by simp, rfl, rfl⟩
    exact turn [some 0, some 1, some 2] rfl rfl rfl ⟨⟨_, rfl, .cons tr_sl (.cons tr_sl (.cons tr_sl (.cons tr_sl (.cons tr_v (.cons tr_f (.cons tr_f .nil))))))⟩, ⟨_, rfl, trc_flat int_sc rfl⟩, ⟨_, rfl, trc_flat int_sc rfl⟩, trivial⟩ ⟨tr_pt rfl, tr_mu rfl, tr_mu rfl, tr_sl, tr_v, tr_v, trivial⟩
  rintro k sl H ⟨i, rfl, hi, hp, rfl, rfl⟩
  have hle := insA_le hB.2.2.2.1 hi
  refine w_seq ?_
  refine w_reg rfl ?_
  refine v_lss lay3 rfl rfl (fun h1 => ?_) (fun h1 => ?_)
  rotate_left
  · obtain rfl : i = t.2.2.1.length := by omega
    rw [List.take_length] at *
    have hall : jAll t.2.2.2.1.length t.2.2.1 := hp
    refine v_nil ?_
    refine q_n ?_
    refine w_seq ?_
    refine w_f rfl ?_
    refine w_exit ?_
    refine q_e ?_
    refine q_e ?_
    refine q_hit ?_
    refine q_n ?_
    refine w_seq ?_
    refine w_reg rfl ?_
    refine v_load_pt (.agg [_, _, _, _, _, _, _]) lay35 rfl rfl rfl rfl ?_
    refine v_move rfl ?_
    refine v_callb (cUnl _ _ hB (by omega)) rfl rfl (.cons (vw_agg (.cons vw_sl (.cons vw_sl (.cons vw_sl (.cons vw_sl (.cons vw_v (.cons vw_f (.cons vw_f .nil)))))))) (.cons (vw_mu2 int_sc int_len rfl (by first | (simp; done) | (simp; omega))) .nil)) (fun h8 => ?_) (fun h8 => ?_)
    rotate_left
    · have hui := h8
      refine v_move rfl ?_
      refine v_guard_off rfl rfl rfl ?_
      refine v_guard_off rfl rfl rfl ?_
      refine v_guard_off rfl rfl rfl ?_
      refine v_pick_f (v := .v (.bool false)) rfl rfl ?_
      refine v_assign rfl ?_
      refine v_nil ?_
      refine q_n ?_
      refine w_ret ?_
      refine r_r rfl ?_
      exact a_b (by simp only [Bool.false_eq_true, false_iff]; exact fun ho => hui ho.2.1)
    have hui := h8
    refine v_move rfl ?_
    refine v_guard_on rfl rfl ?_
    refine v_load_pt (.agg [_, _, _, _, _, _, _]) lay35 rfl rfl rfl rfl ?_
    refine v_guard_on rfl rfl ?_
    refine v_move rfl ?_
    refine v_guard_on rfl rfl ?_
    refine v_callb (cUnl _ _ hB (by omega)) rfl rfl (.cons (vw_agg (.cons vw_sl (.cons vw_sl (.cons vw_sl (.cons vw_sl (.cons vw_v (.cons vw_f (.cons vw_f .nil)))))))) (.cons (vw_mu2 int_sc int_len rfl (by first | (simp; done) | (simp; omega))) .nil)) (fun h9 => ?_) (fun h9 => ?_)
    · have huo := h9
      refine v_pick_t rfl rfl ?_
      refine v_assign rfl ?_
      refine v_nil ?_
      refine q_n ?_
      refine w_ret ?_
      refine r_r rfl ?_
      exact a_b (by simp only [true_iff]; exact ⟨hall, hui, huo⟩)
    have huo := h9
    refine v_pick_t rfl rfl ?_
    refine v_assign rfl ?_
    refine v_nil ?_
    refine q_n ?_
    refine w_ret ?_
    refine r_r rfl ?_
    exact a_b (by simp only [Bool.false_eq_true, false_iff]; exact fun ho => huo ho.2.2)
  have hi1 : i < t.2.2.1.length := by omega
  have hbl := hB.2.2.2.1 _ (List.getElem_mem hi1)
  refine v_nil ?_
  refine q_n ?_
  refine w_seq ?_
  refine w_t rfl ?_
  refine w_skip ?_
  refine q_n ?_
  refine w_seq ?_
  refine w_block ?_
  refine w_seq ?_
  refine w_reg rfl ?_
  refine v_idx_e (k := 25) (i) joc_len lay32 lay75 rfl rfl rfl (rfl) rfl (rfl) (hi1) ?_
  refine v_load_vw (.agg [.v _, .v _, .f _ _, .f _ _, .f _ _, .f _ _, .f _ _, .f _ _, .f _ _, .f _ _, .f _ _, .f _ _, .f _ _, .f _ _, .f _ _, .f _ _, .f _ _, .f _ _, .f _ _, .f _ _, .f _ _, .f _ _, _, _, .v _]) lay75 rfl rfl rfl ?_
  refine v_alloc (m := 3) (H' := [_, _, _, ⟨[.v _, .v _, .f _ _, .f _ _, .f _ _, .f _ _, .f _ _, .f _ _, .f _ _, .f _ _, .f _ _, .f _ _, .f _ _, .f _ _, .f _ _, .f _ _, .f _ _, .f _ _, .f _ _, .f _ _, .f _ _, .f _ _, .v _, .v _, .v _], 75, true⟩]) lay75 rfl rfl ?_
  refine v_store (H' := [_, _, _, ⟨[_, _, _, _, _, _, _, _, _, _, _, _, _, _, _, _, _, _, _, _, _, _, _, _, _], 75, true⟩]) lay75 rfl rfl rfl rfl rfl rfl ?_
  refine v_nil ?_
  refine q_n ?_
  refine w_seq ?_
  refine w_seq ?_
  refine w_reg rfl ?_
  refine v_fa_pt (off' := 0) lay75 rfl rfl rfl ?_
  refine v_load_pt (.agg [_, _, _, _, _, _, _, _, _, _, _, _, _, _, _, _, _, _, _, _, _, _]) lay72 rfl rfl rfl rfl ?_
  refine v_callb (cJnI _ (hF.2.2.1 _ (List.getElem_mem hi1))) rfl rfl (.cons (vw_agg (.cons vw_v (.cons vw_v (.cons vw_f (.cons vw_f (.cons vw_f (.cons vw_f (.cons vw_f (.cons vw_f (.cons vw_f (.cons vw_f (.cons vw_f (.cons vw_f (.cons vw_f (.cons vw_f (.cons vw_f (.cons vw_f (.cons vw_f (.cons vw_f (.cons vw_f (.cons vw_f (.cons vw_f (.cons vw_f .nil))))))))))))))))))))))) .nil) (fun h3 => ?_) (fun h3 => ?_)
  rotate_left
  · have hjn := h3
    refine v_not true rfl rfl ?_
    refine v_move rfl ?_
    refine v_guard_off rfl rfl rfl ?_
    refine v_guard_off rfl rfl rfl ?_
    refine v_guard_off rfl rfl rfl ?_
    refine v_guard_off rfl rfl rfl ?_
    refine v_guard_off rfl rfl rfl ?_
    refine v_guard_off rfl rfl rfl ?_
    refine v_guard_off rfl rfl rfl ?_
    refine v_pick_t (v := .v (.bool true)) rfl rfl ?_
    refine v_move rfl ?_
    refine v_guard_off rfl rfl rfl ?_
    refine v_guard_off rfl rfl rfl ?_
    refine v_guard_off rfl rfl rfl ?_
    refine v_guard_off rfl rfl rfl ?_
    refine v_guard_off rfl rfl rfl ?_
    refine v_guard_off rfl rfl rfl ?_
    refine v_guard_off rfl rfl rfl ?_
    refine v_pick_t (v := .v (.bool true)) rfl rfl ?_
    refine v_move rfl ?_
    refine v_guard_off rfl rfl rfl ?_
    refine v_guard_off rfl rfl rfl ?_
    refine v_guard_off rfl rfl rfl ?_
    refine v_guard_off rfl rfl rfl ?_
    refine v_guard_un rfl rfl ?_
    refine v_guard_un rfl rfl ?_
    refine v_guard_un rfl rfl ?_
    refine v_guard_un rfl rfl ?_
    refine v_guard_un rfl rfl ?_
    refine v_guard_un rfl rfl ?_
    refine v_guard_un rfl rfl ?_
    refine v_guard_off rfl rfl rfl ?_
    refine v_pick_t (v := .v (.bool true)) rfl rfl ?_
    refine v_nil ?_
    refine q_n ?_
    refine w_t rfl ?_
    refine w_seq ?_
    refine w_reg rfl ?_
    refine v_assign (c := .v (.bool false)) rfl ?_
    refine v_nil ?_
    refine q_n ?_
    refine w_ret (q_r (q_br (q_r (q_r (q_br (q_r ?_))))))
    refine r_r rfl ?_
    exact a_b (by simp only [Bool.false_eq_true, false_iff]; exact fun ho => by have hq := ho.1 _ (List.getElem_mem hi1); exact hjn hq.1.1)
  have hjn := h3
  refine v_not false rfl rfl ?_
  refine v_move rfl ?_
  refine v_guard_on rfl rfl ?_
  refine v_fa_pt (off' := 22) lay75 rfl rfl rfl ?_
  refine v_guard_on rfl rfl ?_
  refine v_load_pt (.c _) lay73 rfl rfl rfl rfl ?_
  refine v_guard_on rfl rfl ?_
  refine v_len_sl lay73 rfl ?_
  refine v_guard_on rfl rfl ?_
  refine v_fa_pt (off' := 0) lay75 rfl rfl rfl ?_
  refine v_guard_on rfl rfl ?_
  refine v_fa_pt (off' := 0) lay72 rfl rfl rfl ?_
  refine v_guard_on rfl rfl ?_
  refine v_load_pt (.c _) lay2 rfl rfl rfl rfl ?_
  refine v_guard_on rfl rfl ?_
  refine v_neq lay2 rfl rfl (fun h4 => ?_) (fun h4 => ?_)
  · have hin := h4
    refine v_pick_f rfl rfl ?_
    refine v_move rfl ?_
    refine v_guard_off rfl rfl rfl ?_
    refine v_guard_off rfl rfl rfl ?_
    refine v_guard_off rfl rfl rfl ?_
    refine v_guard_off rfl rfl rfl ?_
    refine v_guard_off rfl rfl rfl ?_
    refine v_guard_off rfl rfl rfl ?_
    refine v_guard_off rfl rfl rfl ?_
    refine v_pick_t (v := .v (.bool true)) rfl rfl ?_
    refine v_move rfl ?_
    refine v_guard_off rfl rfl rfl ?_
    refine v_guard_off rfl rfl rfl ?_
    refine v_guard_off rfl rfl rfl ?_
    refine v_guard_off rfl rfl rfl ?_
    refine v_guard_un rfl rfl ?_
    refine v_guard_un rfl rfl ?_
    refine v_guard_un rfl rfl ?_
    refine v_guard_un rfl rfl ?_
    refine v_guard_un rfl rfl ?_
    refine v_guard_un rfl rfl ?_
    refine v_guard_un rfl rfl ?_
    refine v_guard_off rfl rfl rfl ?_
    refine v_pick_t (v := .v (.bool true)) rfl rfl ?_
    refine v_nil ?_
    refine q_n ?_
    refine w_t rfl ?_
    refine w_seq ?_
    refine w_reg rfl ?_
    refine v_assign (c := .v (.bool false)) rfl ?_
    refine v_nil ?_
    refine q_n ?_
    refine w_ret (q_r (q_br (q_r (q_r (q_br (q_r ?_))))))
    refine r_r rfl ?_
    exact a_b (by simp only [Bool.false_eq_true, false_iff]; exact fun ho => by have hq := ho.1 _ (List.getElem_mem hi1); have q1 := hq.1.2.1; omega)
  have hin := h4
  refine v_pick_f rfl rfl ?_
  refine v_move rfl ?_
  refine v_guard_on rfl rfl ?_
  refine v_fa_pt (off' := 23) lay75 rfl rfl rfl ?_
  refine v_guard_on rfl rfl ?_
  refine v_load_pt (.c _) lay73 rfl rfl rfl rfl ?_
  refine v_guard_on rfl rfl ?_
  refine v_len_sl lay73 rfl ?_
  refine v_guard_on rfl rfl ?_
  refine v_fa_pt (off' := 0) lay75 rfl rfl rfl ?_
  refine v_guard_on rfl rfl ?_
  refine v_fa_pt (off' := 1) lay72 rfl rfl rfl ?_
  refine v_guard_on rfl rfl ?_
  refine v_load_pt (.c _) lay2 rfl rfl rfl rfl ?_
  refine v_guard_on rfl rfl ?_
  refine v_neq lay2 rfl rfl (fun h5 => ?_) (fun h5 => ?_)
  · have hot := h5
    refine v_pick_f rfl rfl ?_
    refine v_move rfl ?_
    refine v_guard_off rfl rfl rfl ?_
    refine v_guard_off rfl rfl rfl ?_
    refine v_guard_off rfl rfl rfl ?_
    refine v_guard_off rfl rfl rfl ?_
    refine v_guard_un rfl rfl ?_
    refine v_guard_un rfl rfl ?_
    refine v_guard_un rfl rfl ?_
    refine v_guard_un rfl rfl ?_
    refine v_guard_un rfl rfl ?_
    refine v_guard_un rfl rfl ?_
    refine v_guard_un rfl rfl ?_
    refine v_guard_off rfl rfl rfl ?_
    refine v_pick_t (v := .v (.bool true)) rfl rfl ?_
    refine v_nil ?_
    refine q_n ?_
    refine w_t rfl ?_
    refine w_seq ?_
    refine w_reg rfl ?_
    refine v_assign (c := .v (.bool false)) rfl ?_
    refine v_nil ?_
    refine q_n ?_
    refine w_ret (q_r (q_br (q_r (q_r (q_br (q_r ?_))))))
    refine r_r rfl ?_
    exact a_b (by simp only [Bool.false_eq_true, false_iff]; exact fun ho => by have hq := ho.1 _ (List.getElem_mem hi1); have q1 := hq.1.2.2; omega)
  have hot := h5
  refine v_pick_f rfl rfl ?_
  refine v_move rfl ?_
  refine v_guard_on rfl rfl ?_
  refine v_fa_pt (off' := 24) lay75 rfl rfl rfl ?_
  refine v_guard_on rfl rfl ?_
  refine v_load_pt (.c _) lay2 rfl rfl rfl rfl ?_
  refine v_guard_on rfl rfl ?_
  refine v_neq lay2 rfl rfl (fun h6 => ?_) (fun h6 => ?_)
  rotate_left
  · have hm1 := h6
    refine v_guard_on rfl rfl ?_
    refine v_move rfl ?_
    refine v_guard_off rfl rfl rfl ?_
    refine v_guard_off rfl rfl rfl ?_
    refine v_guard_off rfl rfl rfl ?_
    refine v_guard_off rfl rfl rfl ?_
    refine v_guard_off rfl rfl rfl ?_
    refine v_guard_off rfl rfl rfl ?_
    refine v_guard_off rfl rfl rfl ?_
    refine v_guard_on rfl rfl ?_
    refine v_pick_f (v := .v (.bool false)) rfl rfl ?_
    refine v_pick_f rfl rfl ?_
    refine v_nil ?_
    refine q_n ?_
    refine w_f rfl ?_
    refine w_skip ?_
    refine q_n ?_
    refine w_draw [0, 0, 2, 7, 0, 0, 32, 127, 255, 511] [⟨0, 0, []⟩, ⟨1, 0, []⟩, ⟨2, 0, []⟩, ⟨4, 0, []⟩, ⟨5, 0, []⟩, ⟨6, 0, []⟩, ⟨3, 1, [6]⟩, ⟨7, 1, []⟩, ⟨8, 0, []⟩, ⟨9, 0, []⟩] rfl rfl ?_
    refine d_q rfl rfl rfl rfl rfl ?_
    refine v_move rfl ?_
    refine v_nil ?_
    refine d_q rfl rfl rfl rfl rfl ?_
    refine v_fa_pt (off' := 22) lay75 rfl rfl rfl ?_
    refine v_nil ?_
    refine d_q rfl rfl rfl rfl rfl ?_
    refine v_load_pt (.c _) lay73 rfl rfl rfl rfl ?_
    refine v_nil ?_
    refine d_q rfl rfl rfl rfl rfl ?_
    refine v_move rfl ?_
    refine v_nil ?_
    refine d_q rfl rfl rfl rfl rfl ?_
    refine v_fa_pt (off' := 23) lay75 rfl rfl rfl ?_
    refine v_nil ?_
    refine d_q rfl rfl rfl rfl rfl ?_
    refine v_load_pt (.c _) lay73 rfl rfl rfl rfl ?_
    refine v_nil ?_
    refine d_e rfl rfl rfl ?_
    refine v_app_flat_sl (H' := [_, _, _, _, _]) int_sc int_len lay73 lay2 rfl rfl (by simp) rfl rfl rfl (by unfold maxLen; simp only []; omega) rfl rfl ?_
    refine v_nil ⟨⟨ag_load_pt (.c _) lay73 rfl rfl rfl rfl, ⟨trivial, trivial⟩⟩, ?_⟩
    refine d_e rfl rfl rfl ?_
    refine v_app_flat_sl (H' := [_, _, _, _, _, _]) int_sc int_len lay73 lay2 rfl rfl (by simp) rfl rfl rfl (by unfold maxLen; simp only []; omega) rfl rfl ?_
    refine v_nil ⟨again_nil, ?_⟩
    refine d_q rfl rfl rfl rfl rfl ?_
    refine v_assign rfl ?_
    refine v_nil ?_
    refine d_q rfl rfl rfl rfl rfl ?_
    refine v_assign rfl ?_
    refine v_nil ?_
    refine d_nil ?_
    refine q_bn ?_
    refine q_n ?_
    refine w_reg rfl ?_
    refine v_add lay3 rfl rfl (i64r (by omega)) ?_
    refine v_move rfl ?_
    refine v_nil ?_
    refine q_n ?_
    have es1 := insA_step hi1
    have es2 := outsA_step hi1
    refine ⟨_, _, _, ?_, ⟨i + 1, rfl, by omega, all_step hi1 hp ⟨⟨hjn, by omega, by omega⟩, by omega⟩, rfl, rfl⟩, by omega⟩
    exact turn [some 0, some 4, some 5] rfl rfl rfl ⟨⟨_, rfl, .cons tr_sl (.cons tr_sl (.cons tr_sl (.cons tr_sl (.cons tr_v (.cons tr_f (.cons tr_f .nil))))))⟩, ⟨_, rfl, trc_flat int_sc (congrArg (flat int) es1.symm)⟩, ⟨_, rfl, trc_flat int_sc (congrArg (flat int) es2.symm)⟩, trivial⟩ ⟨tr_pt rfl, tr_mun rfl (by rw [es1]; simp), tr_mun rfl (by rw [es2]; simp), tr_sl, tr_v, tr_v, trivial⟩
  have hm1 := h6
  refine v_guard_on rfl rfl ?_
  refine v_move rfl ?_
  refine v_guard_on rfl rfl ?_
  refine v_fa_pt (off' := 24) lay75 rfl rfl rfl ?_
  refine v_guard_on rfl rfl ?_
  refine v_load_pt (.c _) lay2 rfl rfl rfl rfl ?_
  refine v_guard_on rfl rfl ?_
  refine v_fa_pt (off' := 3) lay35 rfl rfl rfl ?_
  refine v_guard_on rfl rfl ?_
  refine v_load_pt (.c _) lay33 rfl rfl rfl rfl ?_
  refine v_guard_on rfl rfl ?_
  refine v_len_sl lay33 rfl ?_
  refine v_guard_on rfl rfl ?_
  refine v_callb (cPlace _ _ (by have q1 := hB.2.2.2.2.1; omega)) rfl rfl (.cons vw_v (.cons vw_v .nil)) (fun h7 => ?_) (fun h7 => ?_)
  rotate_left
  · have hpl := h7
    refine v_guard_on rfl rfl ?_
    refine v_not true rfl rfl ?_
    refine v_guard_on rfl rfl ?_
    refine v_pick_t rfl rfl ?_
    refine v_pick_f rfl rfl ?_
    refine v_nil ?_
    refine q_n ?_
    refine w_t rfl ?_
    refine w_seq ?_
    refine w_reg rfl ?_
    refine v_assign (c := .v (.bool false)) rfl ?_
    refine v_nil ?_
    refine q_n ?_
    refine w_ret (q_r (q_br (q_r (q_r (q_br (q_r ?_))))))
    refine r_r rfl ?_
    exact a_b (by simp only [Bool.false_eq_true, false_iff]; exact fun ho => by have hq := ho.1 _ (List.getElem_mem hi1); have q1 := hq.2; omega)
  have hpl := h7
  refine v_guard_on rfl rfl ?_
  refine v_not false rfl rfl ?_
  refine v_guard_on rfl rfl ?_
  refine v_pick_t rfl rfl ?_
  refine v_pick_f rfl rfl ?_
  refine v_nil ?_
  refine q_n ?_
  refine w_f rfl ?_
  refine w_skip ?_
  refine q_n ?_
  refine w_draw [0, 0, 2, 7, 0, 0, 32, 127, 255, 511] [⟨0, 0, []⟩, ⟨1, 0, []⟩, ⟨2, 0, []⟩, ⟨4, 0, []⟩, ⟨5, 0, []⟩, ⟨6, 0, []⟩, ⟨3, 1, [6]⟩, ⟨7, 1, []⟩, ⟨8, 0, []⟩, ⟨9, 0, []⟩] rfl rfl ?_
  refine d_q rfl rfl rfl rfl rfl ?_
  refine v_move rfl ?_
  refine v_nil ?_
  refine d_q rfl rfl rfl rfl rfl ?_
  refine v_fa_pt (off' := 22) lay75 rfl rfl rfl ?_
  refine v_nil ?_
  refine d_q rfl rfl rfl rfl rfl ?_
  refine v_load_pt (.c _) lay73 rfl rfl rfl rfl ?_
  refine v_nil ?_
  refine d_q rfl rfl rfl rfl rfl ?_
  refine v_move rfl ?_
  refine v_nil ?_
  refine d_q rfl rfl rfl rfl rfl ?_
  refine v_fa_pt (off' := 23) lay75 rfl rfl rfl ?_
  refine v_nil ?_
  refine d_q rfl rfl rfl rfl rfl ?_
  refine v_load_pt (.c _) lay73 rfl rfl rfl rfl ?_
  refine v_nil ?_
  refine d_e rfl rfl rfl ?_
  refine v_app_flat_sl (H' := [_, _, _, _, _]) int_sc int_len lay73 lay2 rfl rfl (by simp) rfl rfl rfl (by unfold maxLen; simp only []; omega) rfl rfl ?_
  refine v_nil ⟨⟨ag_load_pt (.c _) lay73 rfl rfl rfl rfl, ⟨trivial, trivial⟩⟩, ?_⟩
  refine d_e rfl rfl rfl ?_
  refine v_app_flat_sl (H' := [_, _, _, _, _, _]) int_sc int_len lay73 lay2 rfl rfl (by simp) rfl rfl rfl (by unfold maxLen; simp only []; omega) rfl rfl ?_
  refine v_nil ⟨again_nil, ?_⟩
  refine d_q rfl rfl rfl rfl rfl ?_
  refine v_assign rfl ?_
  refine v_nil ?_
  refine d_q rfl rfl rfl rfl rfl ?_
  refine v_assign rfl ?_
  refine v_nil ?_
  refine d_nil ?_
  refine q_bn ?_
  refine q_n ?_
  refine w_reg rfl ?_
  refine v_add lay3 rfl rfl (i64r (by omega)) ?_
  refine v_move rfl ?_
  refine v_nil ?_
  refine q_n ?_
  have es1 := insA_step hi1
  have es2 := outsA_step hi1
  refine ⟨_, _, _, ?_, ⟨i + 1, rfl, by omega, all_step hi1 hp ⟨⟨hjn, by omega, by omega⟩, by omega⟩, rfl, rfl⟩, by omega⟩
  exact turn [some 0, some 4, some 5] rfl rfl rfl ⟨⟨_, rfl, .cons tr_sl (.cons tr_sl (.cons tr_sl (.cons tr_sl (.cons tr_v (.cons tr_f (.cons tr_f .nil))))))⟩, ⟨_, rfl, trc_flat int_sc (congrArg (flat int) es1.symm)⟩, ⟨_, rfl, trc_flat int_sc (congrArg (flat int) es2.symm)⟩, trivial⟩ ⟨tr_pt rfl, tr_mun rfl (by rw [es1]; simp), tr_mun rfl (by rw [es2]; simp), tr_sl, tr_v, tr_v, trivial⟩
end Go.VL
namespace Go.VL
open Go.RowKit
set_option maxRecDepth 20000
set_option maxHeartbeats 8000000
/-- A town that is valid, as the program looks at it. -/
def townI (t : Tw) : Prop := tBnd t ∧ (∀ r ∈ t.1, roadOk r) ∧ (jAll t.2.2.2.1.length t.2.2.1 ∧ unl t.1.length (insA t.2.2.1) ∧ unl t.1.length (outsA t.2.2.1)) ∧ (∀ i, (h : i < t.2.1.length) → amtB t.2.1[i] = true ∧ (¬ feq t.2.1[i] → ¬ ∃ j ∈ t.2.2.1, (i : Int) ∈ j.2.2.1)) ∧ (∀ p ∈ t.2.2.2.1, okP p.1 p.2.1 p.2.2) ∧ (0 ≤ t.2.2.2.2.1 ∧ t.2.2.2.2.1 ≤ 1000000000) ∧ ∀ x ∈ [t.2.2.2.2.2.1, t.2.2.2.2.2.2], amtB x = true
instance (t : Tw) : Decidable (townI t) := by unfold townI; infer_instance
theorem two_sg {t : Tw} (hF : tF t) : ∀ x ∈ [t.2.2.2.2.2.1, t.2.2.2.2.2.2], Sg x := by
  intro x hx
  rcases List.mem_cons.1 hx with rfl | hx
  · exact hF.2.2.2.1
  · rw [List.mem_singleton] at hx
    subst hx
    exact hF.2.2.2.2.1
theorem cVtI (t : Tw) (hB : tB (2 ^ 20) t) (hF : tF t) : PureC X 24 [.agg (twf false t)] (cB (decide (townI t))) := by
  refine PureC.of_body (drawD_ok X) (fun _ _ => Go.Proofs.Tryz.call24 _ _) Go.Proofs.Tryz.func24 rfl (n := 80) rfl ?_
  refine w_seq ?_
  refine w_reg rfl ?_
  refine v_box (m := 0) (H' := [_]) lay35 rfl rfl rfl ?_
  refine v_assign (c := .v (.bool false)) rfl ?_
  refine v_nil ?_
  refine q_n ?_
  refine w_seq ?_
  refine w_seq ?_
  refine w_reg rfl ?_
  refine v_fa_pt (off' := 0) lay35 rfl rfl rfl ?_
  refine v_load_pt (.c _) lay31 rfl rfl rfl rfl ?_
  refine v_len_sl lay31 rfl ?_
  refine v_callb (cInR _ _ _) rfl rfl (.cons vw_v (.cons vw_v (.cons vw_v .nil))) (fun h1 => ?_) (fun h1 => ?_)
  rotate_left
  · have hrg := h1
    refine v_not true rfl rfl ?_
    refine v_move rfl ?_
    refine v_guard_off rfl rfl rfl ?_
    refine v_guard_off rfl rfl rfl ?_
    refine v_guard_off rfl rfl rfl ?_
    refine v_guard_off rfl rfl rfl ?_
    refine v_pick_t (v := .v (.bool true)) rfl rfl ?_
    refine v_move rfl ?_
    refine v_guard_off rfl rfl rfl ?_
    refine v_guard_off rfl rfl rfl ?_
    refine v_guard_off rfl rfl rfl ?_
    refine v_guard_off rfl rfl rfl ?_
    refine v_guard_off rfl rfl rfl ?_
    refine v_guard_off rfl rfl rfl ?_
    refine v_guard_off rfl rfl rfl ?_
    refine v_pick_t (v := .v (.bool true)) rfl rfl ?_
    refine v_move rfl ?_
    refine v_guard_off rfl rfl rfl ?_
    refine v_guard_off rfl rfl rfl ?_
    refine v_guard_off rfl rfl rfl ?_
    refine v_guard_off rfl rfl rfl ?_
    refine v_pick_t (v := .v (.bool true)) rfl rfl ?_
    refine v_move rfl ?_
    refine v_guard_off rfl rfl rfl ?_
    refine v_guard_off rfl rfl rfl ?_
    refine v_guard_off rfl rfl rfl ?_
    refine v_guard_off rfl rfl rfl ?_
    refine v_pick_t (v := .v (.bool true)) rfl rfl ?_
    refine v_move rfl ?_
    refine v_guard_off rfl rfl rfl ?_
    refine v_guard_off rfl rfl rfl ?_
    refine v_guard_off rfl rfl rfl ?_
    refine v_pick_t (v := .v (.bool true)) rfl rfl ?_
    refine v_nil ?_
    refine q_n ?_
    refine w_t rfl ?_
    refine w_seq ?_
    refine w_reg rfl ?_
    refine v_assign (c := .v (.bool false)) rfl ?_
    refine v_nil ?_
    refine q_n ?_
    refine w_ret (q_r ?_)
    refine r_r rfl ?_
    exact a_b (by simp only [Bool.false_eq_true, false_iff]; exact fun ho => hrg ho.1.1)
  have hrg := h1
  refine v_not false rfl rfl ?_
  refine v_move rfl ?_
  refine v_guard_on rfl rfl ?_
  refine v_fa_pt (off' := 0) lay35 rfl rfl rfl ?_
  refine v_guard_on rfl rfl ?_
  refine v_load_pt (.c _) lay31 rfl rfl rfl rfl ?_
  refine v_guard_on rfl rfl ?_
  refine v_callb (cAR _ (by have q1 := hB.1; omega) hF.1) rfl rfl (.cons vw_sl .nil) (fun h2 => ?_) (fun h2 => ?_)
  rotate_left
  · have hrd := h2
    refine v_guard_on rfl rfl ?_
    refine v_not true rfl rfl ?_
    refine v_pick_f rfl rfl ?_
    refine v_move rfl ?_
    refine v_guard_off rfl rfl rfl ?_
    refine v_guard_off rfl rfl rfl ?_
    refine v_guard_off rfl rfl rfl ?_
    refine v_guard_off rfl rfl rfl ?_
    refine v_guard_off rfl rfl rfl ?_
    refine v_guard_off rfl rfl rfl ?_
    refine v_guard_off rfl rfl rfl ?_
    refine v_pick_t (v := .v (.bool true)) rfl rfl ?_
    refine v_move rfl ?_
    refine v_guard_off rfl rfl rfl ?_
    refine v_guard_off rfl rfl rfl ?_
    refine v_guard_off rfl rfl rfl ?_
    refine v_guard_off rfl rfl rfl ?_
    refine v_pick_t (v := .v (.bool true)) rfl rfl ?_
    refine v_move rfl ?_
    refine v_guard_off rfl rfl rfl ?_
    refine v_guard_off rfl rfl rfl ?_
    refine v_guard_off rfl rfl rfl ?_
    refine v_guard_off rfl rfl rfl ?_
    refine v_pick_t (v := .v (.bool true)) rfl rfl ?_
    refine v_move rfl ?_
    refine v_guard_off rfl rfl rfl ?_
    refine v_guard_off rfl rfl rfl ?_
    refine v_guard_off rfl rfl rfl ?_
    refine v_pick_t (v := .v (.bool true)) rfl rfl ?_
    refine v_nil ?_
    refine q_n ?_
    refine w_t rfl ?_
    refine w_seq ?_
    refine w_reg rfl ?_
    refine v_assign (c := .v (.bool false)) rfl ?_
    refine v_nil ?_
    refine q_n ?_
    refine w_ret (q_r ?_)
    refine r_r rfl ?_
    exact a_b (by simp only [Bool.false_eq_true, false_iff]; exact fun ho => hrd ho.2.1)
  have hrd := h2
  refine v_guard_on rfl rfl ?_
  refine v_not false rfl rfl ?_
  refine v_pick_f rfl rfl ?_
  refine v_move rfl ?_
  refine v_guard_on rfl rfl ?_
  refine v_fa_pt (off' := 1) lay35 rfl rfl rfl ?_
  refine v_guard_on rfl rfl ?_
  refine v_load_pt (.c _) lay23 rfl rfl rfl rfl ?_
  refine v_guard_on rfl rfl ?_
  refine v_len_sl lay23 rfl ?_
  refine v_guard_on rfl rfl ?_
  refine v_fa_pt (off' := 0) lay35 rfl rfl rfl ?_
  refine v_guard_on rfl rfl ?_
  refine v_load_pt (.c _) lay31 rfl rfl rfl rfl ?_
  refine v_guard_on rfl rfl ?_
  refine v_len_sl lay31 rfl ?_
  refine v_guard_on rfl rfl ?_
  refine v_neq lay3 rfl rfl (fun h3 => ?_) (fun h3 => ?_)
  · have hof := h3
    refine v_pick_f rfl rfl ?_
    refine v_move rfl ?_
    refine v_guard_off rfl rfl rfl ?_
    refine v_guard_off rfl rfl rfl ?_
    refine v_guard_off rfl rfl rfl ?_
    refine v_guard_off rfl rfl rfl ?_
    refine v_pick_t (v := .v (.bool true)) rfl rfl ?_
    refine v_move rfl ?_
    refine v_guard_off rfl rfl rfl ?_
    refine v_guard_off rfl rfl rfl ?_
    refine v_guard_off rfl rfl rfl ?_
    refine v_guard_off rfl rfl rfl ?_
    refine v_pick_t (v := .v (.bool true)) rfl rfl ?_
    refine v_move rfl ?_
    refine v_guard_off rfl rfl rfl ?_
    refine v_guard_off rfl rfl rfl ?_
    refine v_guard_off rfl rfl rfl ?_
    refine v_pick_t (v := .v (.bool true)) rfl rfl ?_
    refine v_nil ?_
    refine q_n ?_
    refine w_t rfl ?_
    refine w_seq ?_
    refine w_reg rfl ?_
    refine v_assign (c := .v (.bool false)) rfl ?_
    refine v_nil ?_
    refine q_n ?_
    refine w_ret (q_r ?_)
    refine r_r rfl ?_
    exact a_b (by simp only [Bool.false_eq_true, false_iff]; exact fun ho => (by have q1 := ho.1.2.1; omega))
  have hof := h3
  refine v_pick_f rfl rfl ?_
  refine v_move rfl ?_
  refine v_guard_on rfl rfl ?_
  refine v_fa_pt (off' := 2) lay35 rfl rfl rfl ?_
  refine v_guard_on rfl rfl ?_
  refine v_load_pt (.c _) lay32 rfl rfl rfl rfl ?_
  refine v_guard_on rfl rfl ?_
  refine v_len_sl lay32 rfl ?_
  refine v_guard_on rfl rfl ?_
  refine v_gtr lay3 rfl rfl (fun h4 => ?_) (fun h4 => ?_)
  · have hjl := h4
    refine v_pick_f rfl rfl ?_
    refine v_move rfl ?_
    refine v_guard_off rfl rfl rfl ?_
    refine v_guard_off rfl rfl rfl ?_
    refine v_guard_off rfl rfl rfl ?_
    refine v_guard_off rfl rfl rfl ?_
    refine v_pick_t (v := .v (.bool true)) rfl rfl ?_
    refine v_move rfl ?_
    refine v_guard_off rfl rfl rfl ?_
    refine v_guard_off rfl rfl rfl ?_
    refine v_guard_off rfl rfl rfl ?_
    refine v_pick_t (v := .v (.bool true)) rfl rfl ?_
    refine v_nil ?_
    refine q_n ?_
    refine w_t rfl ?_
    refine w_seq ?_
    refine w_reg rfl ?_
    refine v_assign (c := .v (.bool false)) rfl ?_
    refine v_nil ?_
    refine q_n ?_
    refine w_ret (q_r ?_)
    refine r_r rfl ?_
    exact a_b (by simp only [Bool.false_eq_true, false_iff]; exact fun ho => (by have q1 := ho.1.2.2.1; omega))
  have hjl := h4
  refine v_pick_f rfl rfl ?_
  refine v_move rfl ?_
  refine v_guard_on rfl rfl ?_
  refine v_fa_pt (off' := 3) lay35 rfl rfl rfl ?_
  refine v_guard_on rfl rfl ?_
  refine v_load_pt (.c _) lay33 rfl rfl rfl rfl ?_
  refine v_guard_on rfl rfl ?_
  refine v_len_sl lay33 rfl ?_
  refine v_guard_on rfl rfl ?_
  refine v_gtr lay3 rfl rfl (fun h5 => ?_) (fun h5 => ?_)
  · have hpl := h5
    refine v_pick_f rfl rfl ?_
    refine v_move rfl ?_
    refine v_guard_off rfl rfl rfl ?_
    refine v_guard_off rfl rfl rfl ?_
    refine v_guard_off rfl rfl rfl ?_
    refine v_pick_t (v := .v (.bool true)) rfl rfl ?_
    refine v_nil ?_
    refine q_n ?_
    refine w_t rfl ?_
    refine w_seq ?_
    refine w_reg rfl ?_
    refine v_assign (c := .v (.bool false)) rfl ?_
    refine v_nil ?_
    refine q_n ?_
    refine w_ret (q_r ?_)
    refine r_r rfl ?_
    exact a_b (by simp only [Bool.false_eq_true, false_iff]; exact fun ho => (by have q1 := ho.1.2.2.2; omega))
  have hpl := h5
  refine v_pick_f rfl rfl ?_
  refine v_move rfl ?_
  refine v_guard_on rfl rfl ?_
  refine v_load_pt (.agg [_, _, _, _, _, _, _]) lay35 rfl rfl rfl rfl ?_
  refine v_guard_on rfl rfl ?_
  refine v_callb (cJok _ hB hF (by omega)) rfl rfl (.cons (vw_agg (.cons vw_sl (.cons vw_sl (.cons vw_sl (.cons vw_sl (.cons vw_v (.cons vw_f (.cons vw_f .nil)))))))) .nil) (fun h6 => ?_) (fun h6 => ?_)
  rotate_left
  · have hjk := h6
    refine v_guard_on rfl rfl ?_
    refine v_not true rfl rfl ?_
    refine v_pick_f rfl rfl ?_
    refine v_nil ?_
    refine q_n ?_
    refine w_t rfl ?_
    refine w_seq ?_
    refine w_reg rfl ?_
    refine v_assign (c := .v (.bool false)) rfl ?_
    refine v_nil ?_
    refine q_n ?_
    refine w_ret (q_r ?_)
    refine r_r rfl ?_
    exact a_b (by simp only [Bool.false_eq_true, false_iff]; exact fun ho => hjk ho.2.2.1)
  have hjk := h6
  refine v_guard_on rfl rfl ?_
  refine v_not false rfl rfl ?_
  refine v_pick_f rfl rfl ?_
  refine v_nil ?_
  refine q_n ?_
  refine w_f rfl ?_
  refine w_skip ?_
  refine q_n ?_
  refine w_seq ?_
  refine w_seq ?_
  refine w_reg rfl ?_
  refine v_fa_pt (off' := 1) lay35 rfl rfl rfl ?_
  refine v_load_pt (.c _) lay23 rfl rfl rfl rfl ?_
  refine v_len_sl lay23 rfl ?_
  refine v_move (c := .v (.int .i64 0)) rfl ?_
  refine v_nil ?_
  refine q_n ?_
  refine w_block ?_
  refine w_loop (fun k sl H => ∃ i : Nat, k = t.2.1.length - i ∧ i ≤ t.2.1.length ∧ (∀ q, q < i → (h : q < t.2.1.length) → amtB t.2.1[q] = true ∧ (¬ feq t.2.1[q] → ¬ ∃ j ∈ t.2.2.1, (q : Int) ∈ j.2.2.1)) ∧ sl = sls [(1, .c (.pt 0 0)), (43, .c (flo false t.2.1)), (44, cI t.2.1.length), (45, cI i)] ∧ H = [⟨twf false t, 35, true⟩]) ?_ ?_
  · refine ⟨_, _, _, ?_, 0, rfl, Nat.zero_le _, fun q hq => by omega, rfl, rfl⟩
    exact turn [some 0] rfl rfl rfl ⟨⟨_, rfl, .cons tr_sl (.cons tr_sl (.cons tr_sl (.cons tr_sl (.cons tr_v (.cons tr_f (.cons tr_f .nil))))))⟩, trivial⟩ ⟨tr_pt rfl, tr_sl, tr_v, tr_v, trivial⟩
  rintro k sl H ⟨i, rfl, hi, hp, rfl, rfl⟩
  refine w_seq ?_
  refine w_reg rfl ?_
  refine v_lss lay3 rfl rfl (fun h7 => ?_) (fun h7 => ?_)
  rotate_left
  · refine v_nil ?_
    refine q_n ?_
    refine w_seq ?_
    refine w_f rfl ?_
    refine w_exit ?_
    refine q_e ?_
    refine q_e ?_
    refine q_hit ?_
    refine q_n ?_
    refine w_seq ?_
    refine w_reg rfl ?_
    refine v_fa_pt (off' := 3) lay35 rfl rfl rfl ?_
    refine v_load_pt (.c _) lay33 rfl rfl rfl rfl ?_
    refine v_callb (cCFp 74 (fun p => ¬ okP p.1 p.2.1 p.2.2) _ (by have := hB.2.2.2.2.1; omega) (fun p hp => cVt1 p (by have := hB.2.2.2.2.2 p hp; omega))) rfl rfl (.cons vw_sl (.cons (vw_fn .nil) .nil)) (fun h12 => ?_) (fun h12 => ?_)
    · have hpk := h12
      refine v_not false rfl rfl ?_
      refine v_move rfl ?_
      refine v_guard_off rfl rfl rfl ?_
      refine v_guard_off rfl rfl rfl ?_
      refine v_guard_off rfl rfl rfl ?_
      refine v_pick_f (v := .v (.bool false)) rfl rfl ?_
      refine v_move rfl ?_
      refine v_guard_off rfl rfl rfl ?_
      refine v_guard_off rfl rfl rfl ?_
      refine v_guard_off rfl rfl rfl ?_
      refine v_guard_off rfl rfl rfl ?_
      refine v_guard_off rfl rfl rfl ?_
      refine v_guard_off rfl rfl rfl ?_
      refine v_pick_f (v := .v (.bool false)) rfl rfl ?_
      refine v_assign rfl ?_
      refine v_nil ?_
      refine q_n ?_
      refine w_ret ?_
      refine r_r rfl ?_
      exact a_b (by simp only [Bool.false_eq_true, false_iff]; exact fun ho => (by obtain ⟨p, q1, q2⟩ := hpk; exact q2 (ho.2.2.2.2.1 p q1)))
    have hpk := h12
    refine v_not true rfl rfl ?_
    refine v_move rfl ?_
    refine v_guard_on rfl rfl ?_
    refine v_fa_pt (off' := 4) lay35 rfl rfl rfl ?_
    refine v_guard_on rfl rfl ?_
    refine v_load_pt (.c _) lay2 rfl rfl rfl rfl ?_
    refine v_guard_on rfl rfl ?_
    refine v_callb (cTick _) rfl rfl (.cons vw_v .nil) (fun h13 => ?_) (fun h13 => ?_)
    rotate_left
    · have htk := h13
      refine v_pick_t rfl rfl ?_
      refine v_move rfl ?_
      refine v_guard_off rfl rfl rfl ?_
      refine v_guard_off rfl rfl rfl ?_
      refine v_guard_off rfl rfl rfl ?_
      refine v_guard_off rfl rfl rfl ?_
      refine v_guard_off rfl rfl rfl ?_
      refine v_guard_off rfl rfl rfl ?_
      refine v_pick_f (v := .v (.bool false)) rfl rfl ?_
      refine v_assign rfl ?_
      refine v_nil ?_
      refine q_n ?_
      refine w_ret ?_
      refine r_r rfl ?_
      exact a_b (by simp only [Bool.false_eq_true, false_iff]; exact fun ho => htk ho.2.2.2.2.2.1)
    have htk := h13
    refine v_pick_t rfl rfl ?_
    refine v_move rfl ?_
    refine v_guard_on rfl rfl ?_
    refine v_fa_pt (off' := 5) lay35 rfl rfl rfl ?_
    refine v_guard_on rfl rfl ?_
    refine v_load_pt (.c _) lay26 rfl rfl rfl rfl ?_
    refine v_guard_on rfl rfl ?_
    refine v_fa_pt (off' := 6) lay35 rfl rfl rfl ?_
    refine v_guard_on rfl rfl ?_
    refine v_load_pt (.c _) lay26 rfl rfl rfl rfl ?_
    refine v_guard_on rfl rfl ?_
    refine v_lit (flat fe [_, _]) (H' := [_, _]) lay23 lay26 rfl rfl ⟨by decide, by decide⟩ rfl rfl ?_
    refine v_guard_on rfl rfl ?_
    refine v_callb (cAA [t.2.2.2.2.2.1, t.2.2.2.2.2.2] (Nat.le_of_ble_eq_true rfl) (two_sg hF)) rfl rfl (.cons (vw_mu2 fe_sc fe_len rfl (by first | (simp; done) | (simp; omega))) .nil) (fun h14 => ?_) (fun h14 => ?_)
    rotate_left
    · have haa := h14
      refine v_pick_t rfl rfl ?_
      refine v_assign rfl ?_
      refine v_nil ?_
      refine q_n ?_
      refine w_ret ?_
      refine r_r rfl ?_
      exact a_b (by simp only [Bool.false_eq_true, false_iff]; exact fun ho => haa ho.2.2.2.2.2.2)
    have haa := h14
    refine v_pick_t rfl rfl ?_
    refine v_assign rfl ?_
    refine v_nil ?_
    refine q_n ?_
    refine w_ret ?_
    refine r_r rfl ?_
    exact a_b (by simp only [true_iff]; exact ⟨⟨hrg, by omega, by omega, by omega⟩, hrd, hjk, fun q h => hp q (by omega) h, fun p q1 => Decidable.byContradiction fun q2 => hpk ⟨p, q1, q2⟩, htk, haa⟩)
  have hi1 : i < t.2.1.length := by omega
  refine v_nil ?_
  refine q_n ?_
  refine w_seq ?_
  refine w_t rfl ?_
  refine w_skip ?_
  refine q_n ?_
  refine w_seq ?_
  refine w_block ?_
  refine w_seq ?_
  refine w_reg rfl ?_
  refine v_move rfl ?_
  refine v_idx_e (k := 1) (i) fe_len lay23 lay26 rfl rfl rfl (rfl) rfl (rfl) (hi1) ?_
  refine v_load_vw (.c (.f _ _)) lay26 rfl rfl rfl ?_
  refine v_assign rfl ?_
  refine v_assign rfl ?_
  refine v_nil ?_
  refine q_n ?_
  refine w_seq ?_
  refine w_reg rfl ?_
  refine v_move rfl ?_
  refine v_callb (cAmI _ (hF.2.1 _ (List.getElem_mem hi1))) rfl rfl (.cons vw_f .nil) (fun h9 => ?_) (fun h9 => ?_)
  rotate_left
  · have ham := h9
    refine v_not true rfl rfl ?_
    refine v_move rfl ?_
    refine v_guard_off rfl rfl rfl ?_
    refine v_guard_off rfl rfl rfl ?_
    refine v_guard_off rfl rfl rfl ?_
    refine v_guard_un rfl rfl ?_
    refine v_guard_un rfl rfl ?_
    refine v_guard_un rfl rfl ?_
    refine v_guard_off rfl rfl rfl ?_
    refine v_pick_t (v := .v (.bool true)) rfl rfl ?_
    refine v_nil ?_
    refine q_n ?_
    refine w_t rfl ?_
    refine w_seq ?_
    refine w_reg rfl ?_
    refine v_assign (c := .v (.bool false)) rfl ?_
    refine v_nil ?_
    refine q_n ?_
    refine w_ret (q_br (q_r (q_r (q_br (q_r ?_)))))
    refine r_r rfl ?_
    exact a_b (by simp only [Bool.false_eq_true, false_iff]; exact fun ho => ham (ho.2.2.2.1 i hi1).1)
  have ham := h9
  refine v_not false rfl rfl ?_
  refine v_move rfl ?_
  refine v_guard_on rfl rfl ?_
  refine v_move rfl ?_
  refine v_guard_on rfl rfl ?_
  refine v_binb lay26 rfl rfl rfl (fun h10 => ?_) (fun h10 => ?_)
  rotate_left
  · have hfe : feq t.2.1[i] := ne_f h10
    refine v_guard_on rfl rfl ?_
    refine v_move rfl ?_
    refine v_guard_off rfl rfl rfl ?_
    refine v_guard_off rfl rfl rfl ?_
    refine v_guard_off rfl rfl rfl ?_
    refine v_guard_on rfl rfl ?_
    refine v_pick_f (v := .v (.bool false)) rfl rfl ?_
    refine v_pick_f rfl rfl ?_
    refine v_nil ?_
    refine q_n ?_
    refine w_f rfl ?_
    refine w_skip ?_
    refine q_bn ?_
    refine q_n ?_
    refine w_reg rfl ?_
    refine v_add lay3 rfl rfl (i64r (by have q1 := hB.2.1; omega)) ?_
    refine v_move rfl ?_
    refine v_nil ?_
    refine q_n ?_
    refine ⟨_, _, _, ?_, ⟨i + 1, rfl, by omega, fun q hq h => ?_, rfl, rfl⟩, by omega⟩
    · exact turn [some 0] rfl rfl rfl ⟨⟨_, rfl, .cons tr_sl (.cons tr_sl (.cons tr_sl (.cons tr_sl (.cons tr_v (.cons tr_f (.cons tr_f .nil))))))⟩, trivial⟩ ⟨tr_pt rfl, tr_sl, tr_v, tr_v, trivial⟩
    · rcases Nat.lt_or_eq_of_le (Nat.le_of_lt_succ hq) with h2 | rfl
      · exact hp q h2 h
      · exact ⟨ham, fun hn => absurd hfe hn⟩
  have hfe : ¬ feq t.2.1[i] := ne_t h10
  refine v_guard_on rfl rfl ?_
  refine v_move rfl ?_
  refine v_guard_on rfl rfl ?_
  refine v_load_pt (.agg [_, _, _, _, _, _, _]) lay35 rfl rfl rfl rfl ?_
  refine v_guard_on rfl rfl ?_
  refine v_move rfl ?_
  refine v_guard_on rfl rfl ?_
  refine v_callb (cIsOut _ _ hB) rfl rfl (.cons (vw_agg (.cons vw_sl (.cons vw_sl (.cons vw_sl (.cons vw_sl (.cons vw_v (.cons vw_f (.cons vw_f .nil)))))))) (.cons vw_v .nil)) (fun h11 => ?_) (fun h11 => ?_)
  · have hou := h11
    refine v_guard_on rfl rfl ?_
    refine v_pick_t rfl rfl ?_
    refine v_pick_f rfl rfl ?_
    refine v_nil ?_
    refine q_n ?_
    refine w_t rfl ?_
    refine w_seq ?_
    refine w_reg rfl ?_
    refine v_assign (c := .v (.bool false)) rfl ?_
    refine v_nil ?_
    refine q_n ?_
    refine w_ret (q_br (q_r (q_r (q_br (q_r ?_)))))
    refine r_r rfl ?_
    exact a_b (by simp only [Bool.false_eq_true, false_iff]; exact fun ho => (ho.2.2.2.1 i hi1).2 hfe hou)
  have hou := h11
  refine v_guard_on rfl rfl ?_
  refine v_pick_t rfl rfl ?_
  refine v_pick_f rfl rfl ?_
  refine v_nil ?_
  refine q_n ?_
  refine w_f rfl ?_
  refine w_skip ?_
  refine q_bn ?_
  refine q_n ?_
  refine w_reg rfl ?_
  refine v_add lay3 rfl rfl (i64r (by have q1 := hB.2.1; omega)) ?_
  refine v_move rfl ?_
  refine v_nil ?_
  refine q_n ?_
  refine ⟨_, _, _, ?_, ⟨i + 1, rfl, by omega, fun q hq h => ?_, rfl, rfl⟩, by omega⟩
  · exact turn [some 0] rfl rfl rfl ⟨⟨_, rfl, .cons tr_sl (.cons tr_sl (.cons tr_sl (.cons tr_sl (.cons tr_v (.cons tr_f (.cons tr_f .nil))))))⟩, trivial⟩ ⟨tr_pt rfl, tr_sl, tr_v, tr_v, trivial⟩
  · rcases Nat.lt_or_eq_of_le (Nat.le_of_lt_succ hq) with h2 | rfl
    · exact hp q h2 h
    · exact ⟨ham, fun hn => hou⟩
end Go.VL
namespace Go.VL
open Go.RowKit
theorem usd_app : ∀ {xs ys : List Int} {u : List Bool}, usd (xs ++ ys) u = if (usd xs u).1 = true then usd ys (usd xs u).2 else usd xs u
  | [], ys, u => by simp [usd]
  | a :: r, ys, u => by
    simp only [List.cons_append, usd]
    split
    · exact usd_app
    · simp
theorem getD_set {u : List Bool} {i j : Nat} (hi : i < u.length) : (u.set i true).getD j true = if i = j then true else u.getD j true := by
  rw [List.getD_eq_getElem?_getD, List.getElem?_set, List.getD_eq_getElem?_getD]
  split
  · rename_i h
    subst h
    simp [hi]
  · rfl
theorem usd_iff : ∀ {xs : List Int} {u : List Bool}, (usd xs u).1 = true ↔ (∀ x ∈ xs, (0 ≤ x ∧ x ≤ (u.length : Int) - 1) ∧ u.getD x.toNat true = false) ∧ xs.Nodup
  | [], u => by simp [usd]
  | a :: r, u => by
    unfold usd
    split
    · rename_i h
      have hl : a.toNat < u.length := by omega
      rw [usd_iff, List.length_set, List.nodup_cons]
      constructor
      · rintro ⟨h1, h2⟩
        have hn : a ∉ r := fun hm => by
          have := (h1 a hm).2
          rw [getD_set hl, if_pos rfl] at this
          cases this
        refine ⟨fun x hx => ?_, hn, h2⟩
        rcases List.mem_cons.1 hx with rfl | hx
        · exact h
        · refine ⟨(h1 x hx).1, ?_⟩
          have := (h1 x hx).2
          rw [getD_set hl] at this
          split at this
          · cases this
          · exact this
      · rintro ⟨h1, h2, h3⟩
        refine ⟨fun x hx => ⟨(h1 x (by simp [hx])).1, ?_⟩, h3⟩
        rw [getD_set hl, if_neg]
        · exact (h1 x (by simp [hx])).2
        · intro e
          have hr := (h1 x (by simp [hx])).1
          have : a = x := by omega
          subst this
          exact h2 hx
    · rename_i h
      simp only [Bool.false_eq_true, false_iff]
      exact fun hc => h (hc.1 a (by simp))
theorem unl_iff {n : Nat} {xs : List Int} : unl n xs ↔ (∀ x ∈ xs, 0 ≤ x ∧ x ≤ (n : Int) - 1) ∧ xs.Nodup := by
  constructor
  · intro h
    refine ⟨fun x hx => ?_, ?_⟩
    · obtain ⟨i, hi, rfl⟩ := List.getElem_of_mem hx
      exact (h i hi).1
    · rw [List.nodup_iff_pairwise_ne, List.pairwise_iff_getElem]
      intro i j hi hj hij e
      refine (h j hj).2 ?_
      rw [← e]
      exact List.mem_take_iff_getElem.2 ⟨i, by omega, rfl⟩
  · rintro ⟨h1, h2⟩ i hi
    refine ⟨h1 _ (List.getElem_mem hi), fun hm => ?_⟩
    obtain ⟨j, hj, e⟩ := List.mem_take_iff_getElem.1 hm
    rw [List.nodup_iff_pairwise_ne, List.pairwise_iff_getElem] at h2
    exact h2 j i (by omega) hi (by omega) e
theorem usd_0 {n : Nat} {xs : List Int} : (usd xs (List.replicate n false)).1 = true ↔ unl n xs := by
  rw [usd_iff, unl_iff, List.length_replicate]
  constructor
  · rintro ⟨h1, h2⟩
    exact ⟨fun x hx => (h1 x hx).1, h2⟩
  · rintro ⟨h1, h2⟩
    refine ⟨fun x hx => ⟨h1 x hx, ?_⟩, h2⟩
    have := h1 x hx
    rw [List.getD_eq_getElem?_getD, List.getElem?_replicate, if_pos (by omega)]
    rfl
theorem usd_mem : ∀ {xs : List Int} {u : List Bool} {k : Nat}, (usd xs u).1 = true → k < u.length → ((usd xs u).2.getD k true = true ↔ u.getD k true = true ∨ (k : Int) ∈ xs)
  | [], u, k, _, _ => by simp [usd]
  | a :: r, u, k, h, hk => by
    unfold usd at h ⊢
    split at h
    · rename_i hc
      rw [if_pos hc, usd_mem h (by rw [List.length_set]; exact hk), getD_set (by omega)]
      by_cases e : a.toNat = k
      · have : (k : Int) = a := by omega
        simp [e, this]
      · have : ¬ (k : Int) = a := by omega
        simp [e, this]
    · cases h
theorem jAll_cons {np : Nat} {j : Jo} {r : List Jo} : jAll np (j :: r) ↔ (jPre j ∧ (-1 ≤ j.2.2.2 ∧ j.2.2.2 ≤ (np : Int) - 1)) ∧ jAll np r := by
  unfold jAll
  exact ⟨fun h => ⟨h j (by simp), fun x hx => h x (by simp [hx])⟩, fun h x hx => by
    rcases List.mem_cons.1 hx with rfl | hx
    · exact h.1
    · exact h.2 x hx⟩
theorem ends_iff {np : Nat} : ∀ {js : List Jo} {a b : List Bool}, (ends np js a b).2.2 = true ↔ jAll np js ∧ (usd (insA js) a).1 = true ∧ (usd (outsA js) b).1 = true
  | [], a, b => by
    refine ⟨fun _ => ⟨(fun j hj => by cases hj), rfl, rfl⟩, fun _ => rfl⟩
  | j :: r, a, b => by
    rw [jAll_cons, show insA (j :: r) = j.2.1 ++ insA r from rfl, show outsA (j :: r) = j.2.2.1 ++ outsA r from rfl, usd_app, usd_app]
    unfold ends
    by_cases h0 : jPre j
    · by_cases h1 : (usd j.2.1 a).1 = true
      · by_cases h2 : (usd j.2.2.1 b).1 = true
        · by_cases h3 : -1 ≤ j.2.2.2 ∧ j.2.2.2 ≤ (np : Int) - 1
          · rw [if_pos h0, if_pos h1, if_pos h2, if_pos h3, if_pos h1, if_pos h2, ends_iff]
            exact ⟨fun h => ⟨⟨⟨h0, h3⟩, h.1⟩, h.2⟩, fun h => ⟨h.1.2, h.2⟩⟩
          · rw [if_pos h0, if_pos h1, if_pos h2, if_neg h3]
            exact ⟨(fun h => by cases h), fun h => absurd h.1.1.2 h3⟩
        · rw [if_pos h0, if_pos h1, if_neg h2, if_neg h2]
          exact ⟨(fun h => by cases h), fun h => absurd h.2.2 h2⟩
      · rw [if_pos h0, if_neg h1, if_neg h1]
        exact ⟨(fun h => by cases h), fun h => absurd h.2.1 h1⟩
    · rw [if_neg h0]
      exact ⟨(fun h => by cases h), fun h => absurd h.1.1.1 h0⟩
theorem ends_out {np : Nat} : ∀ {js : List Jo} {a b : List Bool}, (ends np js a b).2.2 = true → (ends np js a b).2.1 = (usd (outsA js) b).2
  | [], a, b, _ => rfl
  | j :: r, a, b, h => by
    rw [show outsA (j :: r) = j.2.2.1 ++ outsA r from rfl, usd_app]
    unfold ends at h ⊢
    by_cases h0 : jPre j
    · by_cases h1 : (usd j.2.1 a).1 = true
      · by_cases h2 : (usd j.2.2.1 b).1 = true
        · by_cases h3 : -1 ≤ j.2.2.2 ∧ j.2.2.2 ≤ (np : Int) - 1
          · rw [if_pos h0, if_pos h1, if_pos h2, if_pos h3] at h ⊢
            rw [if_pos h2]
            exact ends_out h
          · rw [if_pos h0, if_pos h1, if_pos h2, if_neg h3] at h
            cases h
        · rw [if_pos h0, if_pos h1, if_neg h2] at h
          cases h
      · rw [if_pos h0, if_neg h1] at h
        cases h
    · rw [if_neg h0] at h
      cases h
end Go.VL
namespace Go.VL
open Go.RowKit
theorem endT_iff (t : Tw) : (endT t).2.2 = true ↔ jAll t.2.2.2.1.length t.2.2.1 ∧ unl t.1.length (insA t.2.2.1) ∧ unl t.1.length (outsA t.2.2.1) := by
  rw [ends_iff, usd_0, usd_0]
theorem out_iff {t : Tw} (hE : (endT t).2.2 = true) {i : Nat} (hi : i < t.1.length) : (endT t).2.1.getD i false = true ↔ ∃ j ∈ t.2.2.1, (i : Int) ∈ j.2.2.1 := by
  have h2 := (ends_iff.1 hE).2.2
  have h3 := usd_mem (k := i) h2 (by rw [List.length_replicate]; exact hi)
  have hl := endT_len t
  have e : (endT t).2.1.getD i false = (endT t).2.1.getD i true := by rw [gd (by omega), gd (by omega)]
  rw [e, ends_out hE, h3, List.getD_eq_getElem?_getD, List.getElem?_replicate, if_pos hi]
  simp [outsA]
theorem town_iff (t : Tw) : townOk t ↔ townI t := by
  unfold townOk townI
  constructor
  · rintro ⟨hb, ⟨hE, hR, hP⟩, htk, hc, hw⟩
    have hlen := hb.2.1
    refine ⟨hb, fun r hr => ?_, (endT_iff t).1 hE, fun i hi => ?_, hP, htk, fun x hx => ?_⟩
    · obtain ⟨i, hi, rfl⟩ := List.getElem_of_mem hr
      have := (hR i hi).1
      rwa [gd hi] at this
    · have h := hR i (by omega)
      unfold rOkT at h
      rw [gd (show i < t.2.1.length from hi)] at h
      exact ⟨h.2.1, fun hn ho => hn (h.2.2 ((out_iff hE (by omega)).2 ho))⟩
    · rcases List.mem_cons.1 hx with rfl | hx
      · exact hc
      · rw [List.mem_singleton] at hx
        subst hx
        exact hw
  · rintro ⟨hb, hr, hj, ho, hP, htk, ha⟩
    have hlen := hb.2.1
    have hE := (endT_iff t).2 hj
    refine ⟨hb, ⟨hE, fun i hi => ?_, hP⟩, htk, ha _ (by simp), ha _ (by simp)⟩
    have h := ho i (by omega)
    unfold rOkT
    rw [gd hi, gd (show i < t.2.1.length by omega)]
    exact ⟨hr _ (List.getElem_mem hi), h.1, fun hq => Decidable.byContradiction fun hn => h.2 hn ((out_iff hE hi).1 hq)⟩
end Go.VL
namespace Go.Proofs
open Go.Shelf
def Tryz.lays156_ren : Go.Shelf.Ren := ⟨fun | 156 => 30 | 165 => 86 | 166 => 87 | 169 => 88 | 240 => 146 | 241 => 147 | 276 => 193 | 277 => 194 | n => n, fun | 31 => 57 | 9 => 9 | 3 => 3 | 4 => 4 | 0 => 0 | 20 => 20 | 72 => 148 | 76 => 152 | 70 => 145 | 37 => 146 | 75 => 151 | 127 => 205 | 164 => 247 | 5 => 5 | 80 => 154 | n => n, fun | n => n⟩
theorem Tryz.lays156 : Go.Proofs.Lays.n156 Tryz.prog Tryz.lays156_ren := {
  mixed := by kernel_rfl
  f156 := Tryz.func30.trans (congrArg some (by kernel_rfl))
  f165 := Tryz.func86.trans (congrArg some (by kernel_rfl))
  f166 := Tryz.func87.trans (congrArg some (by kernel_rfl))
  f169 := Tryz.func88.trans (congrArg some (by kernel_rfl))
  f240 := Tryz.func146.trans (congrArg some (by kernel_rfl))
  f241 := Tryz.func147.trans (congrArg some (by kernel_rfl))
  f276 := Tryz.func193.trans (congrArg some (by kernel_rfl))
  f277 := Tryz.func194.trans (congrArg some (by kernel_rfl))
  t0 := Tryz.underlying0
  a0 := Tryz.isAgg0
  z0 := Tryz.sizeOf0
  v0 := Tryz.zeroValue0
  t3 := Tryz.underlying3
  a3 := Tryz.isAgg3
  z3 := Tryz.sizeOf3
  v3 := Tryz.zeroValue3
  t4 := Tryz.underlying4
  a4 := Tryz.isAgg4
  z4 := Tryz.sizeOf4
  v4 := Tryz.zeroValue4
  t9 := Tryz.underlying9
  a9 := Tryz.isAgg9
  z9 := Tryz.sizeOf9
  v9 := Tryz.zeroValue9
  t20 := Tryz.underlying20
  a20 := Tryz.isAgg20
  z20 := Tryz.sizeOf20
  v20 := Tryz.zeroValue20
  t31 := Tryz.underlying57
  a31 := Tryz.isAgg57
  z31 := Tryz.sizeOf57
  v31 := Tryz.zeroValue57
  t37 := Tryz.underlying146
  a37 := Tryz.isAgg146
  z37 := Tryz.sizeOf146
  v37 := Tryz.zeroValue146
  t70 := Tryz.underlying145
  a70 := Tryz.isAgg145
  z70 := Tryz.sizeOf145
  v70 := Tryz.zeroValue145
  t72 := Tryz.underlying148
  a72 := Tryz.isAgg148
  z72 := Tryz.sizeOf148
  v72 := Tryz.zeroValue148
  t75 := Tryz.underlying151
  a75 := Tryz.isAgg151
  z75 := Tryz.sizeOf151
  v75 := Tryz.zeroValue151
  t76 := Tryz.underlying152
  a76 := Tryz.isAgg152
  z76 := Tryz.sizeOf152
  v76 := Tryz.zeroValue152
  t127 := Tryz.underlying205
  a127 := Tryz.isAgg205
  z127 := Tryz.sizeOf205
  v127 := Tryz.zeroValue205
  t164 := Tryz.underlying247
  a164 := Tryz.isAgg247
  z164 := Tryz.sizeOf247
  v164 := Tryz.zeroValue247 }
theorem Tryz.Builder_Extra_156 : Builder.Extra Tryz.prog Tryz.lays156_ren := {
  sizeBuilder := by kernel_rfl
  liesBuilder := by kernel_rfl
  t5 := Tryz.underlying5
  a5 := Tryz.isAgg5
  z5 := Tryz.sizeOf5
  v5 := Tryz.zeroValue5
  infoByte := by kernel_rfl
  cellsByte := by kernel_rfl
  sizeByte := by kernel_rfl
  neB5 := by decide }
open Go.RowKit in
/-- strings.Join: "Join concatenates the elements of its first argument to create a single string. The separator string sep is placed between elements in the resulting string.": HOWEVER MANY ELEMENTS. Below the heap's end the world is as it was. (LAID: no walk: one application.) -/
theorem Tryz.strings_Join (bk o c : Nat) (xs : List ByteArray) (sep : ByteArray) (w : World) (hcells : ∀ (j : Nat) x, xs[j]? = some x → w.cell? ⟨bk, o + j, none⟩ = some (.string x)) (hbk : bk < w.heap.size) (hN : xs.length ≤ 140737488355328) (hcap : xs.length ≤ c) (hlen : (Lib.join (xs.map (·.data.toList)) sep.data.toList).length ≤ 140737488355328) :
    Calls Tryz.prog 30 #[.slice (some ⟨bk, o, none⟩) xs.length c, .string sep] w fun e w' => e = .returned (.string ⟨(Lib.join (xs.map (·.data.toList)) sep.data.toList).toArray⟩) ∧ Below w.heap.size w w' := Any.strings_Join Tryz.lays156 Tryz.Builder_Extra_156 bk o c xs sep w hcells hbk hN hcap hlen
def Tryz.laysM246_ren : Go.Shelf.Ren := ⟨fun | 246 => 141 | 283 => 187 | 284 => 188 | 285 => 189 | 286 => 190 | 129 => 211 | 317 => 210 | 318 => 212 | 319 => 213 | 320 => 214 | 337 => 225 | 338 => 226 | n => n, fun | 2 => 2 | 3 => 3 | 9 => 9 | 4 => 4 | 171 => 238 | 0 => 0 | 53 => 134 | 37 => 146 | 5 => 5 | 173 => 241 | 212 => 266 | 51 => 135 | 20 => 20 | 213 => 267 | 46 => 201 | 232 => 285 | 233 => 286 | n => n, fun | 17 => 1 | 18 => 7 | 19 => 8 | n => n⟩
theorem Tryz.laysM246 : Go.Proofs.LaysM.n246 Tryz.prog Tryz.laysM246_ren := {
  mixed := by kernel_rfl
  f129 := Tryz.func211.trans (congrArg some (by kernel_rfl))
  f246 := Tryz.func141.trans (congrArg some (by kernel_rfl))
  f283 := Tryz.func187.trans (congrArg some (by kernel_rfl))
  f284 := Tryz.func188.trans (congrArg some (by kernel_rfl))
  f285 := Tryz.func189.trans (congrArg some (by kernel_rfl))
  f286 := Tryz.func190.trans (congrArg some (by kernel_rfl))
  f317 := Tryz.func210.trans (congrArg some (by kernel_rfl))
  f318 := Tryz.func212.trans (congrArg some (by kernel_rfl))
  f319 := Tryz.func213.trans (congrArg some (by kernel_rfl))
  f320 := Tryz.func214.trans (congrArg some (by kernel_rfl))
  f337 := Tryz.func225.trans (congrArg some (by kernel_rfl))
  f338 := Tryz.func226.trans (congrArg some (by kernel_rfl))
  t0 := Tryz.underlying0
  a0 := Tryz.isAgg0
  z0 := Tryz.sizeOf0
  v0 := Tryz.zeroValue0
  t2 := Tryz.underlying2
  a2 := Tryz.isAgg2
  z2 := Tryz.sizeOf2
  v2 := Tryz.zeroValue2
  t3 := Tryz.underlying3
  a3 := Tryz.isAgg3
  z3 := Tryz.sizeOf3
  v3 := Tryz.zeroValue3
  t4 := Tryz.underlying4
  a4 := Tryz.isAgg4
  z4 := Tryz.sizeOf4
  v4 := Tryz.zeroValue4
  t5 := Tryz.underlying5
  a5 := Tryz.isAgg5
  z5 := Tryz.sizeOf5
  v5 := Tryz.zeroValue5
  t9 := Tryz.underlying9
  a9 := Tryz.isAgg9
  z9 := Tryz.sizeOf9
  v9 := Tryz.zeroValue9
  t20 := Tryz.underlying20
  a20 := Tryz.isAgg20
  z20 := Tryz.sizeOf20
  v20 := Tryz.zeroValue20
  t37 := Tryz.underlying146
  a37 := Tryz.isAgg146
  z37 := Tryz.sizeOf146
  v37 := Tryz.zeroValue146
  t46 := Tryz.underlying201
  a46 := Tryz.isAgg201
  z46 := Tryz.sizeOf201
  v46 := Tryz.zeroValue201
  t51 := Tryz.underlying135
  a51 := Tryz.isAgg135
  z51 := Tryz.sizeOf135
  v51 := Tryz.zeroValue135
  t53 := Tryz.underlying134
  a53 := Tryz.isAgg134
  z53 := Tryz.sizeOf134
  v53 := Tryz.zeroValue134
  t171 := Tryz.underlying238
  a171 := Tryz.isAgg238
  z171 := Tryz.sizeOf238
  v171 := Tryz.zeroValue238
  t173 := Tryz.underlying241
  a173 := Tryz.isAgg241
  z173 := Tryz.sizeOf241
  v173 := Tryz.zeroValue241
  t212 := Tryz.underlying266
  a212 := Tryz.isAgg266
  z212 := Tryz.sizeOf266
  v212 := Tryz.zeroValue266
  t213 := Tryz.underlying267
  a213 := Tryz.isAgg267
  z213 := Tryz.sizeOf267
  t232 := Tryz.underlying285
  a232 := Tryz.isAgg285
  z232 := Tryz.sizeOf285
  v232 := Tryz.zeroValue285
  t233 := Tryz.underlying286
  a233 := Tryz.isAgg286
  z233 := Tryz.sizeOf286
  v233 := Tryz.zeroValue286
  g17 := by kernel_rfl
  g18 := by kernel_rfl
  g19 := by kernel_rfl
  i0 := by kernel_rfl
  i2 := by kernel_rfl
  i3 := by kernel_rfl
  i4 := by kernel_rfl
  i5 := by kernel_rfl
  i9 := by kernel_rfl
  i20 := by kernel_rfl
  i37 := by kernel_rfl
  i46 := by kernel_rfl
  i51 := by kernel_rfl
  i53 := by kernel_rfl
  i171 := by kernel_rfl
  i173 := by kernel_rfl
  i212 := by kernel_rfl
  i232 := by kernel_rfl
  i233 := by kernel_rfl
  m17 := by kernel_rfl
  m18 := by kernel_rfl
  m19 := by kernel_rfl }
open Go.RowKit Go.Sort Go.Lib in
/-- internal/strconv.FormatInt: "FormatInt returns the string representation of i in the given base": AT BASE 10: i's decimal numeral, for every int64. The world behind the call: the world before it, new blocks behind the heap, draws. (LAID: no walk: one application.) -/
theorem Tryz.internal_strconv_FormatInt_10 (n : Int) (h0 : -9223372036854775808 ≤ n) (h1 : n ≤ 9223372036854775807) (w : World) (htab : Lib.TabIs Tryz.prog w "internal/strconv.uint64pow10" .u64 Lib.pow10Tab) :
    Calls Tryz.prog 141 #[.int .i64 n, .int .i64 10] w fun e w' => e = .returned (.string ⟨(Lib.itoa n).toArray⟩) ∧ ∃ k os, w' = grow (w.drewN k) os := Any.internal_strconv_FormatInt_10 Tryz.laysM246 n h0 h1 w htab
def Tryz.lays105_ren : Go.Shelf.Ren := ⟨fun | 105 => 81 | 212 => 143 | 99 => 101 | 165 => 86 | 166 => 87 | 170 => 144 | 169 => 88 | 263 => 191 | 264 => 192 | 206 => 164 | 240 => 146 | 241 => 147 | 276 => 193 | 277 => 194 | n => n, fun | 9 => 9 | 3 => 3 | 4 => 4 | 20 => 20 | 0 => 0 | 46 => 201 | 109 => 202 | 5 => 5 | 72 => 148 | 76 => 152 | 51 => 135 | 146 => 243 | 53 => 134 | 148 => 245 | 70 => 145 | 37 => 146 | 75 => 151 | 127 => 205 | 164 => 247 | 80 => 154 | n => n, fun | n => n⟩
theorem Tryz.lays105 : Go.Proofs.Lays.n105 Tryz.prog Tryz.lays105_ren := {
  mixed := by kernel_rfl
  f99 := Tryz.func101.trans (congrArg some (by kernel_rfl))
  f105 := Tryz.func81.trans (congrArg some (by kernel_rfl))
  f165 := Tryz.func86.trans (congrArg some (by kernel_rfl))
  f166 := Tryz.func87.trans (congrArg some (by kernel_rfl))
  f169 := Tryz.func88.trans (congrArg some (by kernel_rfl))
  f170 := Tryz.func144.trans (congrArg some (by kernel_rfl))
  f206 := Tryz.func164.trans (congrArg some (by kernel_rfl))
  f212 := Tryz.func143.trans (congrArg some (by kernel_rfl))
  f240 := Tryz.func146.trans (congrArg some (by kernel_rfl))
  f241 := Tryz.func147.trans (congrArg some (by kernel_rfl))
  f263 := Tryz.func191.trans (congrArg some (by kernel_rfl))
  f264 := Tryz.func192.trans (congrArg some (by kernel_rfl))
  f276 := Tryz.func193.trans (congrArg some (by kernel_rfl))
  f277 := Tryz.func194.trans (congrArg some (by kernel_rfl))
  t0 := Tryz.underlying0
  a0 := Tryz.isAgg0
  z0 := Tryz.sizeOf0
  v0 := Tryz.zeroValue0
  t3 := Tryz.underlying3
  a3 := Tryz.isAgg3
  z3 := Tryz.sizeOf3
  v3 := Tryz.zeroValue3
  t4 := Tryz.underlying4
  a4 := Tryz.isAgg4
  z4 := Tryz.sizeOf4
  v4 := Tryz.zeroValue4
  t5 := Tryz.underlying5
  a5 := Tryz.isAgg5
  z5 := Tryz.sizeOf5
  v5 := Tryz.zeroValue5
  t9 := Tryz.underlying9
  a9 := Tryz.isAgg9
  z9 := Tryz.sizeOf9
  v9 := Tryz.zeroValue9
  t20 := Tryz.underlying20
  a20 := Tryz.isAgg20
  z20 := Tryz.sizeOf20
  v20 := Tryz.zeroValue20
  t37 := Tryz.underlying146
  a37 := Tryz.isAgg146
  z37 := Tryz.sizeOf146
  v37 := Tryz.zeroValue146
  t46 := Tryz.underlying201
  a46 := Tryz.isAgg201
  z46 := Tryz.sizeOf201
  v46 := Tryz.zeroValue201
  t51 := Tryz.underlying135
  a51 := Tryz.isAgg135
  z51 := Tryz.sizeOf135
  v51 := Tryz.zeroValue135
  t53 := Tryz.underlying134
  a53 := Tryz.isAgg134
  z53 := Tryz.sizeOf134
  v53 := Tryz.zeroValue134
  t70 := Tryz.underlying145
  a70 := Tryz.isAgg145
  z70 := Tryz.sizeOf145
  v70 := Tryz.zeroValue145
  t72 := Tryz.underlying148
  a72 := Tryz.isAgg148
  z72 := Tryz.sizeOf148
  v72 := Tryz.zeroValue148
  t75 := Tryz.underlying151
  a75 := Tryz.isAgg151
  z75 := Tryz.sizeOf151
  v75 := Tryz.zeroValue151
  t76 := Tryz.underlying152
  a76 := Tryz.isAgg152
  z76 := Tryz.sizeOf152
  v76 := Tryz.zeroValue152
  t109 := Tryz.underlying202
  a109 := Tryz.isAgg202
  z109 := Tryz.sizeOf202
  v109 := Tryz.zeroValue202
  t127 := Tryz.underlying205
  a127 := Tryz.isAgg205
  z127 := Tryz.sizeOf205
  v127 := Tryz.zeroValue205
  t146 := Tryz.underlying243
  a146 := Tryz.isAgg243
  z146 := Tryz.sizeOf243
  v146 := Tryz.zeroValue243
  t148 := Tryz.underlying245
  a148 := Tryz.isAgg245
  z148 := Tryz.sizeOf245
  v148 := Tryz.zeroValue245
  t164 := Tryz.underlying247
  a164 := Tryz.isAgg247
  z164 := Tryz.sizeOf247
  v164 := Tryz.zeroValue247 }
theorem Tryz.Builder_Extra_105 : Builder.Extra Tryz.prog Tryz.lays105_ren := {
  sizeBuilder := by kernel_rfl
  liesBuilder := by kernel_rfl
  t5 := Tryz.underlying5
  a5 := Tryz.isAgg5
  z5 := Tryz.sizeOf5
  v5 := Tryz.zeroValue5
  infoByte := by kernel_rfl
  cellsByte := by kernel_rfl
  sizeByte := by kernel_rfl
  neB5 := by decide }
open Go.RowKit Go.Lib in
/-- **strings.Repeat: count ≥ 0, the result within one allocation: count copies of s.** (LAID: no walk: one application.) -/
theorem Tryz.strings_Repeat (s : ByteArray) (c : Nat) (w : World) (hc : c ≤ 9223372036854775807) (hlen : s.size * c ≤ 140737488355328) :
    Calls Tryz.prog 81 #[.string s, .int .i64 c] w fun e w' => e = .returned (.string ⟨(Lib.repeatL s.data.toList c).toArray⟩) ∧ Below w.heap.size w w' := Any.strings_Repeat Tryz.lays105 Tryz.Builder_Extra_105 s c w hc hlen
end Go.Proofs
namespace Go.VL
open Go.RowKit
set_option maxRecDepth 20000
set_option maxHeartbeats 8000000
abbrev cS (l : List UInt8) : V := .c (.v (.string (tx l)))
def st (l : List UInt8) : List C := [.v (.string (tx l))]
theorem st_len (a : List UInt8) : (st a).length = 1 := rfl
theorem st_sc (a : List UInt8) : (st a).all sc = true := rfl
theorem dig_at (n : Nat) : UInt8.ofNat (IntKind.u8.wrap (48 + (n : Int).tmod 10)).toNat = UInt8.ofNat (48 + n % 10) := by
  have e : (n : Int).tmod 10 = ((n % 10 : Nat) : Int) := rfl
  have h : IntKind.u8.wrap (48 + (n : Int).tmod 10) = ((48 + n % 10 : Nat) : Int) := by
    rw [e]
    refine wrap_of ?_
    show (0 : Int) ≤ _ ∧ _ ≤ (255 : Int)
    omega
  rw [h, Int.toNat_natCast]
theorem dig_one {n : Nat} (h : n < 10) : UInt8.ofNat (IntKind.u8.wrap (48 + (n : Int))).toNat = UInt8.ofNat (48 + n) := by
  have e : IntKind.u8.wrap (48 + (n : Int)) = ((48 + n : Nat) : Int) := by
    refine wrap_of ?_
    show (0 : Int) ≤ _ ∧ _ ≤ (255 : Int)
    omega
  rw [e, Int.toNat_natCast]
theorem dec_step {n : Nat} (h : ¬ n < 10) : Lib.decDigits (n / 10) ++ [UInt8.ofNat (48 + n % 10)] = Lib.decDigits n := by
  rw [Lib.decDigits.eq_1 n, dif_neg h]
theorem dec_len2 {n : Nat} (h : n < 2 ^ 63) : (Lib.decDigits n).length ≤ 19 := by
  have h0 : ∀ (k n : Nat), n < 10 ^ k → (Lib.decDigits n).length ≤ k + (if k = 0 then 1 else 0) := by
    intro k
    induction k with
    | zero => intro n hn; obtain rfl : n = 0 := by omega
              rw [Lib.decDigits_one (by omega)]; decide
    | succ k ih =>
      intro n hn
      by_cases h : n < 10
      · rw [Lib.decDigits_one h]; simp
      · rw [← dec_step h, List.length_append]
        have hk : 0 < k := by
          rcases Nat.eq_zero_or_pos k with rfl | h1
          · exact absurd hn (by omega)
          · exact h1
        have := ih (n / 10) (by rw [Nat.pow_succ] at hn; omega)
        rw [if_neg (by omega)] at this
        simp only [List.length_cons, List.length_nil]
        omega
  have := h0 19 n (by omega)
  rw [if_neg (by omega)] at this
  exact this
abbrev itoa (a : Int) : List UInt8 := Lib.itoa a
theorem itoa_nat (n : Nat) : itoa (n : Int) = Lib.decDigits n := by
  unfold itoa Lib.itoa
  rw [if_neg (by omega), Int.toNat_natCast]
theorem itoa_len {a : Int} (h : 0 ≤ a ∧ a ≤ 9223372036854775807) : (itoa a).length ≤ 19 := by
  obtain ⟨n, rfl⟩ := Int.eq_ofNat_of_zero_le h.1
  rw [itoa_nat]
  exact dec_len2 (by omega)
theorem cFmt (n : Int) (h : -9223372036854775808 ≤ n ∧ n ≤ 9223372036854775807) : PureC X 141 [cI n, cI 10] (cS (itoa n)) :=
  PureC.of_calls (fun _ _ => Go.Proofs.Tryz.call141 _ _) fun w F μ arr hS hr => by
    obtain ⟨x, y, rfl, h1, h2⟩ := two_args hr
    obtain rfl := rv_v h1
    obtain rfl := rv_v h2
    have ht := tab_of hS (g := 1) (vs := Lib.pow10Tab.map (Value.int .u64)) (by show _ ∈ GL; simp [GL]) (name := "internal/strconv.uint64pow10") (by kernel_rfl)
    exact (Go.Proofs.Tryz.internal_strconv_FormatInt_10 n h.1 h.2 w ht).mono fun e w' ⟨he, k, os, hw⟩ => ⟨_, he, hw ▸ Lib.below_grow _ w (Nat.le_refl _) k os, .c (.fz (.v rfl))⟩

theorem cFmtP (n : Int) (h : -9223372036854775808 ≤ n ∧ n ≤ 9223372036854775807) : PureC X 78 [cI n, cI 10] (cS (itoa n)) := by
  refine PureC.of_body (drawD_ok X) (fun _ _ => Go.Proofs.Tryz.call78 _ _) Go.Proofs.Tryz.func78 rfl (n := 8) rfl ?_
  refine w_seq ?_
  refine w_reg rfl ?_
  refine v_assign (c := .v _) rfl ?_
  refine v_nil ?_
  refine q_n ?_
  refine w_seq ?_
  refine w_reg rfl ?_
  refine v_move rfl ?_
  refine v_move rfl ?_
  refine v_call (cFmt _ (by assumption)) rfl rfl rfl (.cons vw_v (.cons vw_v .nil)) ?_
  refine v_assign rfl ?_
  refine v_nil ?_
  refine q_n ?_
  refine w_ret ?_
  refine r_r rfl ?_
  exact tr_v

theorem cDeci (n : Int) (h : -9223372036854775808 ≤ n ∧ n ≤ 9223372036854775807) : PureC X 25 [cI n] (cS (itoa n)) := by
  refine PureC.of_body (drawD_ok X) (fun _ _ => Go.Proofs.Tryz.call25 _ _) Go.Proofs.Tryz.func25 rfl (n := 5) rfl ?_
  refine w_seq ?_
  refine w_reg rfl ?_
  refine v_assign (c := .v _) rfl ?_
  refine v_nil ?_
  refine q_n ?_
  refine w_seq ?_
  refine w_reg rfl ?_
  refine v_move rfl ?_
  refine v_call (cFmtP _ (by assumption)) rfl rfl rfl (.cons vw_v (.cons vw_v .nil)) ?_
  refine v_assign rfl ?_
  refine v_nil ?_
  refine q_n ?_
  refine w_ret ?_
  refine r_r rfl ?_
  exact tr_v

theorem cDecS1 (n : Nat) (hn : n < 2 ^ 63) (ih : ∀ m : Nat, m < n → PureC X 59 [cI (m : Int)] (cS (Lib.decDigits m))) : PureC X 59 [cI (n : Int)] (cS (Lib.decDigits n)) := by
  refine PureC.of_body (drawD_ok X) (fun _ _ => Go.Proofs.Tryz.call59 _ _) Go.Proofs.Tryz.func59 rfl (n := 20) rfl ?_
  have e1 : (n : Int).tdiv 10 = ((n / 10 : Nat) : Int) := rfl
  have e2 : (n : Int).tmod 10 = ((n % 10 : Nat) : Int) := rfl
  refine w_seq ?_
  refine w_reg rfl ?_
  refine v_assign (c := .v _) rfl ?_
  refine v_nil ?_
  refine q_n ?_
  refine w_seq ?_
  refine w_seq ?_
  refine w_reg rfl ?_
  refine v_move rfl ?_
  refine v_geq lay2 rfl rfl (fun h1 => ?_) (fun h1 => ?_)
  rotate_left
  · refine v_nil ?_
    refine q_n ?_
    refine w_f rfl ?_
    refine w_skip ?_
    refine q_n ?_
    refine w_seq ?_
    refine w_reg rfl ?_
    refine v_move rfl ?_
    refine v_add lay2 rfl rfl (i64r (by first | (rw [e2]; omega) | omega)) ?_
    refine v_conv_iw lay2 lay5 rfl ?_
    refine v_lit (flat byt [_]) (H' := [_]) lay146 lay5 rfl rfl ⟨by decide, by decide⟩ rfl rfl ?_
    refine v_conv_live rfl lay146 lay9 lay5 rfl rfl (Nat.le_refl _) rfl (by decide) ?_
    refine v_assign rfl ?_
    refine v_nil ?_
    refine q_n ?_
    refine w_ret ?_
    refine r_r rfl ?_
    exact a_s (by rw [Lib.decDigits_one (by omega), ← dig_one (by omega)]; rfl)
  refine v_nil ?_
  refine q_n ?_
  refine w_t rfl ?_
  refine w_seq ?_
  refine w_draw [0, 1, 3, 0, 8, 24, 56, 120, 248, 511, 1023] [⟨0, 0, []⟩, ⟨1, 0, []⟩, ⟨2, 0, []⟩, ⟨3, 0, []⟩, ⟨4, 0, []⟩, ⟨5, 0, []⟩, ⟨6, 0, []⟩, ⟨7, 2, []⟩, ⟨8, 0, []⟩, ⟨9, 0, []⟩, ⟨10, 0, []⟩] rfl rfl ?_
  refine d_q rfl rfl rfl rfl rfl ?_
  refine v_move rfl ?_
  refine v_nil ?_
  refine d_q rfl rfl rfl rfl rfl ?_
  refine v_quo lay2 rfl rfl (by decide) (i64r (by rw [e1]; omega)) ?_
  refine v_nil ?_
  refine d_call (ih (n / 10) (by omega)) rfl rfl rfl rfl rfl (.cons vw_v .nil) ?_
  refine d_q rfl rfl rfl rfl rfl ?_
  refine v_move rfl ?_
  refine v_nil ?_
  refine d_q rfl rfl rfl rfl rfl ?_
  refine v_rem lay2 rfl rfl (by decide) ?_
  refine v_nil ?_
  refine d_q rfl rfl rfl rfl rfl ?_
  refine v_add lay2 rfl rfl (i64r (by first | (rw [e2]; omega) | omega)) ?_
  refine v_nil ?_
  refine d_q rfl rfl rfl rfl rfl ?_
  refine v_conv_iw lay2 lay5 rfl ?_
  refine v_nil ?_
  refine d_z (.c (.sl true 1 1 (flat byt [IntKind.u8.wrap (48 + (n : Int).tmod 10)]))) rfl rfl rfl ?_
  refine d_q rfl rfl rfl rfl rfl ?_
  refine v_conv_tx lay146 lay9 lay5 rfl (rfl) ?_
  refine v_nil ?_
  refine d_q rfl rfl rfl rfl rfl ?_
  refine v_sadd lay9 rfl rfl (by have := dec_len2 (n := n / 10) (by omega); unfold maxLen; simp only [List.length_map, List.length_cons, List.length_nil]; omega) ?_
  refine v_nil ?_
  refine d_q rfl rfl rfl rfl rfl ?_
  refine v_assign rfl ?_
  refine v_nil ?_
  refine d_nil ?_
  refine q_n ?_
  refine w_ret (q_r ?_)
  refine r_r rfl ?_
  exact a_s (by rw [← dec_step (n := n) (by omega), ← dig_at]; rfl)

theorem cDecS : ∀ n : Nat, n < 2 ^ 63 → PureC X 59 [cI (n : Int)] (cS (Lib.decDigits n)) := by
  intro n
  induction n using Nat.strongRecOn with
  | ind n ih => exact fun hn => cDecS1 n hn fun m hm => ih m hm (by omega)
theorem cDecI (a : Int) (h : 0 ≤ a ∧ a ≤ 9223372036854775807) : PureC X 59 [cI a] (cS (itoa a)) := by
  obtain ⟨n, rfl⟩ := Int.eq_ofNat_of_zero_le h.1
  rw [itoa_nat]
  exact cDecS n (by omega)

/-- The bits of a single, one pattern for none. -/
def xbits : Option Nat → Nat
  | none => 2143289344
  | some b => b
/-- A single as text. -/
def hx (x : Option Nat) : List UInt8 := hexN 8 (xbits x)
theorem hx_len (x : Option Nat) : (hx x).length = 8 := hexN_len _ _
theorem xbits_lt {x : Option Nat} (h : Sg x) : xbits x < 2 ^ 32 := by
  cases x with
  | none => decide
  | some b => exact h.2 b rfl
abbrev hexW : List UInt8 := [48, 49, 50, 51, 52, 53, 54, 55, 56, 57, 97, 98, 99, 100, 101, 102, 103, 104, 105, 106, 107, 108, 109, 110, 111, 112, 113, 114, 115, 116, 117, 118, 119, 120, 121, 122]
theorem w16 {q : Nat} (h : q < 16) : q < hexW.length := Nat.lt_trans h (by decide)
theorem hexw_all : ∀ q < 16, hexW.getD q 0 = hexT.getD q 0 := by decide
theorem hexw_at {n q : Nat} (hq : q < 16) (e : q = n % 16) : hexW[q]'(w16 hq) = hexd n := by
  have h := hexw_all q hq
  rw [List.getD_eq_getElem?_getD, List.getElem?_eq_getElem (w16 hq)] at h
  unfold hexd
  rw [← e]
  exact h
theorem hexw_small {n : Nat} (h : n < 16) : hexW[n]'(w16 h) = hexd n := hexw_at h (Nat.mod_eq_of_lt h).symm
theorem quo16 {k : IntKind} {n i : Nat} (hn : n < 2 ^ 32) (hk : (4294967295 : Int) ≤ k.max ∧ k.min ≤ 0) : k.wrap (((n / 16 ^ i : Nat) : Int).tdiv 16) = ((n / 16 ^ (i + 1) : Nat) : Int) := by
  have h0 : n / 16 ^ i ≤ n := Nat.div_le_self _ _
  have e : ((n / 16 ^ i : Nat) : Int).tdiv 16 = ((n / 16 ^ (i + 1) : Nat) : Int) := by rw [← div16]; rfl
  have h1 : n / 16 ^ (i + 1) ≤ n := Nat.div_le_self _ _
  rw [e]
  generalize n / 16 ^ (i + 1) = q at h1
  exact wrap_of (by omega)
theorem shr16 {n i : Nat} : ((n / 16 ^ i : Nat) : Int).fdiv (2 ^ min (4 : Int).toNat IntKind.u64.bits) = ((n / 16 ^ (i + 1) : Nat) : Int) := by
  rw [show min (4 : Int).toNat IntKind.u64.bits = 4 by decide, Int.fdiv_eq_ediv_of_nonneg _ (by decide), ← div16]
  rfl

theorem cB32 (b : Nat) : PureC X 116 [.c (.f .f32 (some b))] (.c (.v (.int .u32 b))) := pure_f32bits Go.Proofs.Tryz.func116 (by kernel_rfl) rfl (by kernel_rfl) (by kernel_rfl) b

theorem cBiS1 (b : Nat) (hb : okF .f32 (some b)) : PureC X 118 [.c (.f .f32 (some b))] (.c (.v (.int .u32 b))) := by
  refine PureC.of_body (drawD_ok X) (fun _ _ => Go.Proofs.Tryz.call118 _ _) Go.Proofs.Tryz.func118 rfl (n := 8) rfl ?_
  refine w_seq ?_
  refine w_reg rfl ?_
  refine v_assign (c := .v (.int .u32 0)) rfl ?_
  refine v_nil ?_
  refine q_n ?_
  refine w_seq ?_
  refine w_seq ?_
  refine w_reg rfl ?_
  refine v_move rfl ?_
  refine v_move rfl ?_
  refine v_binb lay26 rfl rfl rfl (fun h1 => ?_) (fun h1 => ?_)
  · exact absurd h1 (by rw [ford_self hb]; decide)
  refine v_nil ?_
  refine q_n ?_
  refine w_f rfl ?_
  refine w_skip ?_
  refine q_n ?_
  refine w_seq ?_
  refine w_reg rfl ?_
  refine v_move rfl ?_
  refine v_call (cB32 _) rfl rfl rfl (.cons vw_f .nil) ?_
  refine v_assign rfl ?_
  refine v_nil ?_
  refine q_n ?_
  refine w_ret ?_
  refine r_r rfl ?_
  exact tr_v

theorem cBiS0 : PureC X 118 [.c (.f .f32 none)] (.c (.v (.int .u32 2143289344))) := by
  refine PureC.of_body (drawD_ok X) (fun _ _ => Go.Proofs.Tryz.call118 _ _) Go.Proofs.Tryz.func118 rfl (n := 8) rfl ?_
  refine w_seq ?_
  refine w_reg rfl ?_
  refine v_assign (c := .v (.int .u32 0)) rfl ?_
  refine v_nil ?_
  refine q_n ?_
  refine w_seq ?_
  refine w_seq ?_
  refine w_reg rfl ?_
  refine v_move rfl ?_
  refine v_move rfl ?_
  refine v_binb lay26 rfl rfl rfl (fun h1 => ?_) (fun h1 => ?_)
  rotate_left
  · exact absurd h1 (by decide)
  refine v_nil ?_
  refine q_n ?_
  refine w_t rfl ?_
  refine w_seq ?_
  refine w_reg rfl ?_
  refine v_assign (c := .v (.int .u32 2143289344)) rfl ?_
  refine v_nil ?_
  refine q_n ?_
  refine w_ret (q_r ?_)
  refine r_r rfl ?_
  exact tr_v

theorem cBiS (x : Option Nat) (hx : okF .f32 x) : PureC X 118 [.c (.f .f32 x)] (.c (.v (.int .u32 (xbits x : Nat)))) := by
  cases x with
  | none => exact cBiS0
  | some b => exact cBiS1 b hx

theorem cBiI1 (b : Nat) (hb : okF .f32 (some b)) : PureC X 80 [.c (.f .f32 (some b))] (.c (.v (.int .u32 b))) := by
  refine PureC.of_body (drawD_ok X) (fun _ _ => Go.Proofs.Tryz.call80 _ _) Go.Proofs.Tryz.func80 rfl (n := 8) rfl ?_
  refine w_seq ?_
  refine w_reg rfl ?_
  refine v_assign (c := .v (.int .u32 0)) rfl ?_
  refine v_nil ?_
  refine q_n ?_
  refine w_seq ?_
  refine w_seq ?_
  refine w_reg rfl ?_
  refine v_move rfl ?_
  refine v_move rfl ?_
  refine v_binb lay26 rfl rfl rfl (fun h1 => ?_) (fun h1 => ?_)
  · exact absurd h1 (by rw [ford_self hb]; decide)
  refine v_nil ?_
  refine q_n ?_
  refine w_f rfl ?_
  refine w_skip ?_
  refine q_n ?_
  refine w_seq ?_
  refine w_reg rfl ?_
  refine v_move rfl ?_
  refine v_call (cB32 _) rfl rfl rfl (.cons vw_f .nil) ?_
  refine v_assign rfl ?_
  refine v_nil ?_
  refine q_n ?_
  refine w_ret ?_
  refine r_r rfl ?_
  exact tr_v

theorem cBiI0 : PureC X 80 [.c (.f .f32 none)] (.c (.v (.int .u32 2143289344))) := by
  refine PureC.of_body (drawD_ok X) (fun _ _ => Go.Proofs.Tryz.call80 _ _) Go.Proofs.Tryz.func80 rfl (n := 8) rfl ?_
  refine w_seq ?_
  refine w_reg rfl ?_
  refine v_assign (c := .v (.int .u32 0)) rfl ?_
  refine v_nil ?_
  refine q_n ?_
  refine w_seq ?_
  refine w_seq ?_
  refine w_reg rfl ?_
  refine v_move rfl ?_
  refine v_move rfl ?_
  refine v_binb lay26 rfl rfl rfl (fun h1 => ?_) (fun h1 => ?_)
  rotate_left
  · exact absurd h1 (by decide)
  refine v_nil ?_
  refine q_n ?_
  refine w_t rfl ?_
  refine w_seq ?_
  refine w_reg rfl ?_
  refine v_assign (c := .v (.int .u32 2143289344)) rfl ?_
  refine v_nil ?_
  refine q_n ?_
  refine w_ret (q_r ?_)
  refine r_r rfl ?_
  exact tr_v

theorem cBiI (x : Option Nat) (hx : okF .f32 x) : PureC X 80 [.c (.f .f32 x)] (.c (.v (.int .u32 (xbits x : Nat)))) := by
  cases x with
  | none => exact cBiI0
  | some b => exact cBiI1 b hx

theorem cHxS (x : Option Nat) (hs : Sg x) : PureC X 60 [.c (.f .f32 x)] (cS (hx x)) := by
  refine PureC.of_body (drawD_ok X) (fun _ _ => Go.Proofs.Tryz.call60 _ _) Go.Proofs.Tryz.func60 rfl (n := 23) rfl ?_
  have hb := xbits_lt hs
  refine w_seq ?_
  refine w_reg rfl ?_
  refine v_assign (c := .v _) rfl ?_
  refine v_nil ?_
  refine q_n ?_
  refine w_seq ?_
  refine w_reg rfl ?_
  refine v_move rfl ?_
  refine v_call (cBiS _ hs.1) rfl rfl rfl (.cons vw_f .nil) ?_
  refine v_assign rfl ?_
  refine v_nil ?_
  refine q_n ?_
  refine w_seq ?_
  refine w_reg rfl ?_
  refine v_make (enc := byx) (a0 := (0 : Int)) (m := 0) (H' := [_]) rfl lay146 lay5 rfl rfl rfl rfl (8) (rfl) (by decide) rfl rfl ?_
  refine v_assign rfl ?_
  refine v_nil ?_
  refine q_n ?_
  refine w_seq ?_
  refine w_seq ?_
  refine w_reg rfl ?_
  refine v_assign (c := .v (.int .i64 7)) rfl ?_
  refine v_nil ?_
  refine q_n ?_
  refine w_block ?_
  refine w_loop (fun k sl H => ∃ i : Nat, k = 8 - i ∧ i ≤ 8 ∧ sl = sls [(3, .c (.v (.int .u32 ((xbits x / 16 ^ i : Nat) : Int)))), (4, .c (.mu 0 0 8 1)), (5, cI (7 - i))] ∧ H = [⟨flat byx (hbx 8 i (xbits x)), 5, true⟩]) ?_ ?_
  · refine ⟨_, _, _, ?_, 0, rfl, by omega, rfl, rfl⟩
    exact turn [some 0] rfl rfl rfl ⟨⟨_, rfl, trc_flat byx_sc rfl⟩, trivial⟩ ⟨by rw [Nat.pow_zero, Nat.div_one]; exact tr_v, tr_mu rfl, tr_v, trivial⟩
  rintro k sl H ⟨i, rfl, hi, rfl, rfl⟩
  refine w_seq ?_
  refine w_seq ?_
  refine w_reg rfl ?_
  refine v_move rfl ?_
  refine v_geq lay3 rfl rfl (fun h1 => ?_) (fun h1 => ?_)
  rotate_left
  · refine v_nil ?_
    refine q_n ?_
    refine w_f rfl ?_
    refine w_exit ?_
    refine q_e ?_
    refine q_e ?_
    refine q_hit ?_
    refine q_n ?_
    refine w_seq ?_
    refine w_reg rfl ?_
    refine v_move rfl ?_
    refine v_conv_live rfl lay146 lay9 lay5 rfl rfl (by rw [flat_length byx_len, hbx_len _ (by omega)]; omega) (byx_drop _ 0 8 (by rw [hbx_len _ (by omega)])) (by decide) ?_
    refine v_assign rfl ?_
    refine v_nil ?_
    refine q_n ?_
    refine w_ret ?_
    refine r_r rfl ?_
    obtain rfl : i = 8 := by omega
    exact a_s (b8_back _)
  have hi1 : i < 8 := by omega
  have hq1 : xbits x / 16 ^ i % 16 < hexT.length := Nat.mod_lt _ (by decide)
  refine v_nil ?_
  refine q_n ?_
  refine w_t rfl ?_
  refine w_skip ?_
  refine q_n ?_
  refine w_seq ?_
  refine w_block ?_
  refine w_seq ?_
  refine w_reg rfl ?_
  refine v_move rfl ?_
  refine v_move rfl ?_
  refine v_move rfl ?_
  refine v_rem lay135 rfl rfl (by decide) ?_
  refine v_sidx (xbits x / 16 ^ i % 16) lay9 rfl rfl (rfl) (hq1) ?_
  refine v_idx_mu_e (k := 1) (off := 0) ((8 - (i + 1))) lay146 lay5 rfl rfl rfl (by omega) (by omega) ?_
  refine v_store_flat (H' := [_]) (8 - (i + 1)) 0 (b8 hexT[xbits x / 16 ^ i % 16]) byx_len lay5 rfl rfl rfl (by omega) (by rw [hbx_len _ (by omega)]; omega) rfl rfl (rfl) rfl ?_
  refine v_nil ?_
  refine q_n ?_
  refine w_reg rfl ?_
  refine v_move rfl ?_
  refine v_bin (c := .v (.int .u32 ((xbits x / 16 ^ (i + 1) : Nat) : Int))) lay135 rfl rfl (congrArg (fun z => some (C.v (.int .u32 z))) (quo16 hb (by decide))) ?_
  refine v_assign rfl ?_
  refine v_nil ?_
  refine q_bn ?_
  refine q_n ?_
  refine w_reg rfl ?_
  refine v_move rfl ?_
  refine v_sub lay3 rfl rfl (i64r (by omega)) ?_
  refine v_assign rfl ?_
  refine v_nil ?_
  refine q_n ?_
  refine ⟨_, _, _, ?_, ⟨i + 1, rfl, by omega, rfl, rfl⟩, by omega⟩
  exact turn [some 0] rfl rfl rfl ⟨⟨_, rfl, trc_flat byx_sc (congrArg (flat byx) ((congrArg (fun z => (hbx 8 i (xbits x)).set (8 - (i + 1)) (b8 z)) (hexd_at (n := xbits x / 16 ^ i) hq1 rfl)).trans (hbx_set hi1)))⟩, trivial⟩ ⟨tr_v, tr_mu rfl, (by rw [show (7 : Int) - ((i + 1 : Nat) : Int) = 7 - (i : Int) - 1 from by omega]; exact tr_v), trivial⟩

theorem cPow2 : PureC X 213 [cI 16] (cB true) := by
  refine PureC.of_body (drawD_ok X) (fun _ _ => Go.Proofs.Tryz.call213 _ _) Go.Proofs.Tryz.func213 rfl (n := 8) rfl ?_
  refine w_seq ?_
  refine w_reg rfl ?_
  refine v_assign (c := .v (.bool false)) rfl ?_
  refine v_nil ?_
  refine q_n ?_
  refine w_seq ?_
  refine w_reg rfl ?_
  refine v_move rfl ?_
  refine v_move rfl ?_
  refine v_sub lay3 rfl rfl (i64r (by omega)) ?_
  refine v_bin (c := .v (.int .i64 _)) lay3 rfl rfl rfl ?_
  refine v_eql lay3 rfl rfl (fun h1 => ?_) (fun h1 => ?_)
  rotate_left
  · exact absurd (by decide) h1
  refine v_assign rfl ?_
  refine v_nil ?_
  refine q_n ?_
  refine w_ret ?_
  refine r_r rfl ?_
  exact tr_v

theorem cTz64 : PureC X 226 [.c (.v (.int .u64 16))] (cI 4) := by
  refine PureC.of_body (drawD_ok X) (fun _ _ => Go.Proofs.Tryz.call226 _ _) Go.Proofs.Tryz.func226 rfl (n := 14) rfl ?_
  refine w_seq ?_
  refine w_reg rfl ?_
  refine v_assign (c := .v (.int .i64 0)) rfl ?_
  refine v_nil ?_
  refine q_n ?_
  refine w_seq ?_
  refine w_seq ?_
  refine w_reg rfl ?_
  refine v_move rfl ?_
  refine v_eql lay134 rfl rfl (fun h1 => ?_) (fun h1 => ?_)
  · exact absurd h1 (by decide)
  refine v_nil ?_
  refine q_n ?_
  refine w_f rfl ?_
  refine w_skip ?_
  refine q_n ?_
  refine w_seq ?_
  refine w_reg rfl ?_
  refine v_move rfl ?_
  refine v_move rfl ?_
  refine v_ineg 18446744073709551600 rfl (by decide) ?_
  refine v_bin (c := .v (.int .u64 16)) lay134 rfl rfl (congrArg (fun z => some (C.v (.int .u64 z))) (by decide)) ?_
  refine v_bin (c := .v (.int .u64 4573923408821661840)) lay134 rfl rfl (congrArg (fun z => some (C.v (.int .u64 z))) (by decide)) ?_
  refine v_bin (c := .v (.int .u64 15)) lay134 rfl rfl (congrArg (fun z => some (C.v (.int .u64 z))) (by decide)) ?_
  refine v_idx_av (k := 1) lay286 lay5 rfl rfl rfl (by decide) (fun qZ hqZ eZ => ?_)
  obtain rfl : qZ = 15 := by omega
  refine v_load_av (q := 15) deB (.c (.v _)) byx_len lay5 rfl rfl rfl (by decide) rfl ?_
  refine v_conv_ii lay5 lay3 rfl (by decide) ?_
  refine v_assign rfl ?_
  refine v_nil ?_
  refine q_n ?_
  refine w_ret ?_
  refine r_r rfl ?_
  exact tr_v

theorem cTz : PureC X 214 [.c (.v (.int .u64 16))] (cI 4) := by
  refine PureC.of_body (drawD_ok X) (fun _ _ => Go.Proofs.Tryz.call214 _ _) Go.Proofs.Tryz.func214 rfl (n := 8) rfl ?_
  refine w_seq ?_
  refine w_reg rfl ?_
  refine v_assign (c := .v (.int .i64 0)) rfl ?_
  refine v_nil ?_
  refine q_n ?_
  refine w_seq ?_
  refine w_f rfl ?_
  refine w_skip ?_
  refine q_n ?_
  refine w_seq ?_
  refine w_reg rfl ?_
  refine v_move rfl ?_
  refine v_call (cTz64) rfl rfl rfl (.cons vw_v .nil) ?_
  refine v_assign rfl ?_
  refine v_nil ?_
  refine q_n ?_
  refine w_ret ?_
  refine r_r rfl ?_
  exact tr_v

theorem cFmtB (n : Nat) (hn : n < 2 ^ 32) : PureC X 190 [.c (.v (.slice none 0 0)), .c (.v (.int .u64 n)), cI 16, cB false, cB false] (.tup [.c (.v (.slice none 0 0)), cS (hexN (hexl n) n)]) := by
  refine PureC.of_body (drawD_ok X) (fun _ _ => Go.Proofs.Tryz.call190 _ _) Go.Proofs.Tryz.func190 rfl (n := 102) rfl ?_
  refine w_seq ?_
  refine w_reg rfl ?_
  refine v_assign rfl ?_
  refine v_assign (c := .v _) rfl ?_
  refine v_nil ?_
  refine q_n ?_
  refine w_seq ?_
  refine w_seq ?_
  refine w_reg rfl ?_
  refine v_move rfl ?_
  refine v_lss lay3 rfl rfl (fun h1 => ?_) (fun h1 => ?_)
  · exact absurd h1 (by decide)
  refine v_move rfl ?_
  refine v_guard_on rfl rfl ?_
  refine v_move rfl ?_
  refine v_guard_on rfl rfl ?_
  refine v_eql lay3 rfl rfl (fun h2 => ?_) (fun h2 => ?_)
  · exact absurd h2 (by decide)
  refine v_pick_f rfl rfl ?_
  refine v_move rfl ?_
  refine v_guard_on rfl rfl ?_
  refine v_move rfl ?_
  refine v_guard_on rfl rfl ?_
  refine v_gtr lay3 rfl rfl (fun h3 => ?_) (fun h3 => ?_)
  · exact absurd h3 (by decide)
  refine v_pick_f rfl rfl ?_
  refine v_nil ?_
  refine q_n ?_
  refine w_f rfl ?_
  refine w_skip ?_
  refine q_n ?_
  refine w_seq ?_
  refine w_reg rfl ?_
  refine v_alloc (m := 0) (H' := [⟨flat byx (hbx 65 0 n), 267, true⟩]) lay267 rfl rfl ?_
  refine v_nil ?_
  refine q_n ?_
  refine w_seq ?_
  refine w_reg rfl ?_
  refine v_assign (c := .v (.int .i64 65)) rfl ?_
  refine v_nil ?_
  refine q_n ?_
  refine w_seq ?_
  refine w_seq ?_
  refine w_reg rfl ?_
  refine v_move rfl ?_
  refine v_nil ?_
  refine q_n ?_
  refine w_f rfl ?_
  refine w_skip ?_
  refine q_n ?_
  refine w_seq ?_
  refine w_seq ?_
  refine w_reg rfl ?_
  refine v_move rfl ?_
  refine v_call (cPow2) rfl rfl rfl (.cons vw_v .nil) ?_
  refine v_nil ?_
  refine q_n ?_
  refine w_t rfl ?_
  refine w_seq ?_
  refine w_reg rfl ?_
  refine v_move rfl ?_
  refine v_conv_ii lay3 lay201 rfl (by decide) ?_
  refine v_call (cTz) rfl rfl rfl (.cons vw_v .nil) ?_
  refine v_conv_ii lay3 lay201 rfl (by decide) ?_
  refine v_assign rfl ?_
  refine v_nil ?_
  refine q_n ?_
  refine w_seq ?_
  refine w_reg rfl ?_
  refine v_move rfl ?_
  refine v_conv_ii lay3 lay134 rfl (by decide) ?_
  refine v_assign rfl ?_
  refine v_nil ?_
  refine q_n ?_
  refine w_seq ?_
  refine w_reg rfl ?_
  refine v_move rfl ?_
  refine v_conv_ii lay3 lay201 rfl (by decide) ?_
  refine v_bin (c := .v (.int .u64 15)) lay201 rfl rfl (congrArg (fun z => some (C.v (.int .u64 z))) (by decide)) ?_
  refine v_assign rfl ?_
  refine v_nil ?_
  refine q_n ?_
  refine w_seq ?_
  refine w_block ?_
  refine w_loop (fun k sl H => ∃ i : Nat, k = 8 - i ∧ i < 8 ∧ (∀ j < i, ¬ n / 16 ^ j < 16) ∧ sl = sls [(1, .c (.v (.int .u64 ((n / 16 ^ i : Nat) : Int)))), (3, cB false), (4, cB false), (10, .c (.v (.slice none 0 0))), (12, .c (.pt 0 0)), (13, cI (65 - i)), (14, .c (.v (.int .u64 4))), (15, .c (.v (.int .u64 16))), (16, .c (.v (.int .u64 15)))] ∧ H = [⟨flat byx (hbx 65 i n), 267, true⟩]) ?_ ?_
  · refine ⟨_, _, _, ?_, 0, rfl, by omega, by omega, rfl, rfl⟩
    exact turn [some 0] rfl rfl rfl ⟨⟨_, rfl, trc_flat byx_sc rfl⟩, trivial⟩ ⟨by rw [Nat.pow_zero, Nat.div_one]; exact tr_v, tr_v, tr_v, tr_v, tr_pt rfl, tr_v, tr_v, tr_v, tr_v, trivial⟩
  rintro k sl H ⟨i, rfl, hi, hp, rfl, rfl⟩
  refine w_seq ?_
  refine w_seq ?_
  refine w_reg rfl ?_
  refine v_move rfl ?_
  refine v_move rfl ?_
  refine v_geq lay134 rfl rfl (fun h4 => ?_) (fun h4 => ?_)
  · have h16 : 16 ≤ n / 16 ^ i := by omega
    have hi2 : i + 1 < 8 := by
      rcases Nat.lt_or_ge (i + 1) 8 with h | h
      · exact h
      · obtain rfl : i = 7 := by omega
        have : n / 16 ^ 7 < 16 := (Nat.div_lt_iff_lt_mul (Nat.pow_pos (by decide))).2 hn
        omega
    have hp2 : ∀ j < i + 1, ¬ n / 16 ^ j < 16 := fun j hj => by
      by_cases e : j = i
      · subst e; omega
      · exact hp j (by omega)
    have hq1 : n / 16 ^ i % 16 < 16 := Nat.mod_lt _ (by decide)
    refine v_nil ?_
    refine q_n ?_
    refine w_t rfl ?_
    refine w_skip ?_
    refine q_n ?_
    refine w_block ?_
    refine w_seq ?_
    refine w_reg rfl ?_
    refine v_move rfl ?_
    refine v_sub lay3 rfl rfl (i64r (by omega)) ?_
    refine v_assign rfl ?_
    refine v_nil ?_
    refine q_n ?_
    refine w_seq ?_
    refine w_reg rfl ?_
    refine v_move rfl ?_
    refine v_move rfl ?_
    refine v_move rfl ?_
    refine v_bin (c := .v (.int .u64 ((n / 16 ^ i % 16 : Nat) : Int))) lay201 rfl rfl (congrArg (fun z => some (C.v (.int .u64 z))) (bits15 _ (by have : n / 16 ^ i ≤ n := Nat.div_le_self _ _; omega))) ?_
    refine v_sidx (n / 16 ^ i % 16) lay9 rfl rfl (rfl) (w16 hq1) ?_
    refine v_idx_arr_e (k := 1) ((65 - (i + 1))) lay267 lay5 rfl rfl rfl (by omega) (by omega) ?_
    refine v_store_flat (H' := [_]) (65 - (i + 1)) 0 (b8 (hexW[n / 16 ^ i % 16]'(w16 hq1))) byx_len lay5 rfl rfl rfl (by omega) (by rw [hbx_len _ (by omega)]; omega) rfl rfl (rfl) rfl ?_
    refine v_nil ?_
    refine q_n ?_
    refine w_reg rfl ?_
    refine v_move rfl ?_
    refine v_move rfl ?_
    refine v_shr lay134 rfl rfl (shr16) (by decide) ?_
    refine v_assign rfl ?_
    refine v_nil ?_
    refine q_bn ?_
    refine q_n ?_
    refine ⟨_, _, _, ?_, ⟨i + 1, rfl, hi2, hp2, rfl, rfl⟩, by omega⟩
    exact turn [some 0] rfl rfl rfl ⟨⟨_, rfl, trc_flat byx_sc (congrArg (flat byx) ((congrArg (fun z => (hbx 65 i n).set (65 - (i + 1)) (b8 z)) (hexw_at (n := n / 16 ^ i) hq1 rfl)).trans (hbx_set (by omega))))⟩, trivial⟩ ⟨tr_v, tr_v, tr_v, tr_v, tr_pt rfl, (by rw [show (65 : Int) - ((i + 1 : Nat) : Int) = 65 - (i : Int) - 1 from by omega]; exact tr_v), tr_v, tr_v, tr_v, trivial⟩
  have h16 : n / 16 ^ i < 16 := by omega
  have hl : hexl n = i + 1 := hexl_of hi (by omega) hp
  have hbl : hbx 65 (i + 1) n = (hbx 65 i n).set (65 - (i + 1)) (b8 (hexd (n / 16 ^ i))) := (hbx_set (by omega)).symm
  refine v_nil ?_
  refine q_n ?_
  refine w_f rfl ?_
  refine w_exit ?_
  refine q_e ?_
  refine q_e ?_
  refine q_hit ?_
  refine q_n ?_
  refine w_seq ?_
  refine w_reg rfl ?_
  refine v_move rfl ?_
  refine v_sub lay3 rfl rfl (i64r (by omega)) ?_
  refine v_assign rfl ?_
  refine v_nil ?_
  refine q_n ?_
  refine w_reg rfl ?_
  refine v_move rfl ?_
  refine v_move rfl ?_
  refine v_sidx (n / 16 ^ i) lay9 rfl rfl (rfl) (w16 h16) ?_
  refine v_idx_arr_e (k := 1) ((65 - (i + 1))) lay267 lay5 rfl rfl rfl (by omega) (by omega) ?_
  refine v_store_flat (H' := [_]) (65 - (i + 1)) 0 (b8 (hexW[n / 16 ^ i]'(w16 h16))) byx_len lay5 rfl rfl rfl (by omega) (by rw [hbx_len _ (by omega)]; omega) rfl rfl (rfl) rfl ?_
  refine v_nil ?_
  refine q_n ?_
  refine w_seq ?_
  refine w_seq ?_
  refine w_reg rfl ?_
  refine v_move rfl ?_
  refine v_nil ?_
  refine q_n ?_
  refine w_f rfl ?_
  refine w_skip ?_
  refine q_n ?_
  refine w_seq ?_
  refine w_seq ?_
  refine w_reg rfl ?_
  refine v_move rfl ?_
  refine v_nil ?_
  refine q_n ?_
  refine w_f rfl ?_
  refine w_skip ?_
  refine q_n ?_
  refine w_seq ?_
  refine w_reg rfl ?_
  refine v_move rfl ?_
  refine v_slice_pt (65 - (i + 1)) lay267 lay5 rfl rfl rfl rfl rfl (by omega) (by omega) (by decide) (by rw [flat_length byx_len, List.length_set, hbx_len _ (by omega)]; decide) ?_
  refine v_conv_live rfl lay146 lay9 lay5 rfl rfl (by rw [flat_length byx_len, List.length_set, hbx_len _ (by omega)]; show 0 + (65 - (i + 1)) * 1 + (65 - (65 - (i + 1))) ≤ 65 * 1; omega) (byx_drop _ (0 + (65 - (i + 1)) * 1) _ (by rw [List.length_set, hbx_len _ (by omega)]; omega)) (by omega) ?_
  refine v_assign rfl ?_
  refine v_nil ?_
  refine q_n ?_
  refine w_ret ?_
  refine r_r rfl ?_
  refine a_tup (.cons tr_v (.cons ?_ .nil))
  rw [hl, hexw_small h16]
  exact a_s ((congrArg (List.map _) (by rw [← hbl, Nat.zero_add, Nat.mul_one, hbx_drop])).trans (b8_back _))

theorem cFmU1 (n : Nat) (hn : n < 2 ^ 32) : PureC X 142 [.c (.v (.int .u64 n)), cI 16] (cS (hexN (hexl n) n)) := by
  refine PureC.of_body (drawD_ok X) (fun _ _ => Go.Proofs.Tryz.call142 _ _) Go.Proofs.Tryz.func142 rfl (n := 32) rfl ?_
  refine w_seq ?_
  refine w_reg rfl ?_
  refine v_assign (c := .v _) rfl ?_
  refine v_nil ?_
  refine q_n ?_
  refine w_seq ?_
  refine w_seq ?_
  refine w_reg rfl ?_
  refine v_move rfl ?_
  refine v_eql lay3 rfl rfl (fun h1 => ?_) (fun h1 => ?_)
  · exact absurd h1 (by decide)
  refine v_nil ?_
  refine q_n ?_
  refine w_f rfl ?_
  refine w_skip ?_
  refine q_n ?_
  refine w_seq ?_
  refine w_reg rfl ?_
  refine v_move rfl ?_
  refine v_move rfl ?_
  refine v_call (cFmtB _ (by omega)) rfl rfl rfl (.cons vw_v (.cons vw_v (.cons vw_v (.cons vw_v (.cons vw_v .nil))))) ?_
  refine v_move_t rfl ?_
  refine v_extract_c rfl rfl ?_
  refine v_extract_c rfl rfl ?_
  refine v_assign rfl ?_
  refine v_assign rfl ?_
  refine v_nil ?_
  refine q_n ?_
  refine w_seq ?_
  refine w_reg rfl ?_
  refine v_move rfl ?_
  refine v_assign rfl ?_
  refine v_nil ?_
  refine q_n ?_
  refine w_ret ?_
  refine r_r rfl ?_
  exact tr_v

theorem cFmU (n : Nat) (hn : n < 2 ^ 32) : PureC X 79 [.c (.v (.int .u64 n)), cI 16] (cS (hexN (hexl n) n)) := by
  refine PureC.of_body (drawD_ok X) (fun _ _ => Go.Proofs.Tryz.call79 _ _) Go.Proofs.Tryz.func79 rfl (n := 8) rfl ?_
  refine w_seq ?_
  refine w_reg rfl ?_
  refine v_assign (c := .v _) rfl ?_
  refine v_nil ?_
  refine q_n ?_
  refine w_seq ?_
  refine w_reg rfl ?_
  refine v_move rfl ?_
  refine v_move rfl ?_
  refine v_call (cFmU1 _ (by omega)) rfl rfl rfl (.cons vw_v (.cons vw_v .nil)) ?_
  refine v_assign rfl ?_
  refine v_nil ?_
  refine q_n ?_
  refine w_ret ?_
  refine r_r rfl ?_
  exact tr_v

theorem repeatL_one (b : UInt8) : ∀ n, Lib.repeatL [b] n = List.replicate n b
  | 0 => rfl
  | n + 1 => by rw [List.replicate_succ, ← repeatL_one b n]; rfl
theorem cRep (c : Nat) (hc : c ≤ 8) : PureC X 81 [cS [48], cI (c : Int)] (cS (List.replicate c 48)) :=
  PureC.of_calls (fun _ _ => Go.Proofs.Tryz.call81 _ _) fun w F μ arr hS hr => by
    obtain ⟨x, y, rfl, h1, h2⟩ := two_args hr
    obtain rfl := rv_v h1
    obtain rfl := rv_v h2
    have h := Go.Proofs.Tryz.strings_Repeat (tx [48]) c w (by omega) (by show 1 * c ≤ _; omega)
    rw [show Lib.repeatL (tx [48]).data.toList c = List.replicate c 48 from repeatL_one 48 c] at h
    exact h.mono fun e w' ⟨he, hw⟩ => ⟨_, he, hw, .c (.fz (.v (by simp [plain])))⟩

theorem cHxI (x : Option Nat) (hs : Sg x) : PureC X 26 [.c (.f .f32 x)] (cS (hx x)) := by
  refine PureC.of_body (drawD_ok X) (fun _ _ => Go.Proofs.Tryz.call26 _ _) Go.Proofs.Tryz.func26 rfl (n := 14) rfl ?_
  obtain ⟨hl1, hl2, -⟩ := hexl_le (xbits_lt hs)
  have hl3 := hexN_len (hexl (xbits x)) (xbits x)
  have hb := xbits_lt hs
  refine w_seq ?_
  refine w_reg rfl ?_
  refine v_assign (c := .v _) rfl ?_
  refine v_nil ?_
  refine q_n ?_
  refine w_seq ?_
  refine w_reg rfl ?_
  refine v_move rfl ?_
  refine v_call (cBiI _ hs.1) rfl rfl rfl (.cons vw_f .nil) ?_
  refine v_conv_ii lay135 lay134 rfl (by show (0 : Int) ≤ _ ∧ _ ≤ (18446744073709551615 : Int); omega) ?_
  refine v_call (cFmU _ (xbits_lt hs)) rfl rfl rfl (.cons vw_v (.cons vw_v .nil)) ?_
  refine v_assign rfl ?_
  refine v_nil ?_
  refine q_n ?_
  refine w_seq ?_
  refine w_reg rfl ?_
  refine v_move rfl ?_
  refine v_len_s lay9 rfl ?_
  refine v_bin (c := .v (.int .i64 ((8 - hexl (xbits x) : Nat) : Int))) lay3 rfl rfl (congrArg (fun z => some (C.v (.int .i64 z))) ((wrap_of (i64r (by show _ ≤ (8 : Int) - ((hexN _ _).length : Int) ∧ (8 : Int) - ((hexN _ _).length : Int) ≤ _; rw [hl3]; omega))).trans (by show (8 : Int) - ((hexN _ _).length : Int) = _; rw [hl3]; omega))) ?_
  refine v_call (cRep (8 - hexl (xbits x)) (by omega)) rfl rfl rfl (.cons vw_v (.cons vw_v .nil)) ?_
  refine v_move rfl ?_
  refine v_sadd lay9 rfl rfl (by unfold maxLen; rw [List.length_replicate, hl3]; omega) ?_
  refine v_assign rfl ?_
  refine v_nil ?_
  refine q_n ?_
  refine w_ret ?_
  refine r_r rfl ?_
  exact a_s (hexN_full (xbits_lt hs))
end Go.VL
namespace Go.VL
open Go.RowKit
set_option maxRecDepth 20000
set_option maxHeartbeats 8000000
theorem tr_s {H : List Ob} {g : List (Option Nat)} {p q : List UInt8} (h : p = q) : TrV H g (.c (.v (.string (tx p)))) (.c (.v (.string (tx q)))) := by
  subst h; exact tr_v
/-- Words behind a first one, each behind a blank. -/
def tl (ws : List (List UInt8)) : List UInt8 := Lib.joinTail [32] ws
theorem tl_nil : tl [] = [] := rfl
theorem tl_cons (w : List UInt8) (ws : List (List UInt8)) : tl (w :: ws) = ([32] ++ w) ++ tl ws := by simp [tl, Lib.joinTail]
theorem tl_app (a b : List (List UInt8)) : tl (a ++ b) = tl a ++ tl b := by simp [tl, Lib.joinTail]
theorem tl_len {c : Nat} : ∀ {ws : List (List UInt8)}, (∀ w ∈ ws, w.length ≤ c) → (tl ws).length ≤ (c + 1) * ws.length
  | [], _ => by simp [tl_nil]
  | w :: r, h => by
    have h1 := tl_len (ws := r) fun x hx => h x (List.mem_cons_of_mem _ hx)
    have h2 := h w List.mem_cons_self
    rw [tl_cons, List.length_append, List.length_append, List.length_cons, List.length_cons, Nat.mul_add]
    simp only [List.length_nil]
    omega
abbrev jw (ws : List (List UInt8)) : List UInt8 := Lib.join ws [32]
theorem jw_eq (w : List UInt8) (ws : List (List UInt8)) : jw (w :: ws) = w ++ tl ws := Lib.join_cons w ws [32]
theorem jw_len {c : Nat} {ws : List (List UInt8)} (h : ∀ w ∈ ws, w.length ≤ c) : (jw ws).length ≤ (c + 1) * ws.length := by
  cases ws with
  | nil => simp [jw, Lib.join_nil]
  | cons w r =>
    have h1 := tl_len (ws := r) fun x hx => h x (List.mem_cons_of_mem _ hx)
    have h2 := h w List.mem_cons_self
    rw [jw_eq, List.length_append, List.length_cons, Nat.mul_add]
    omega
theorem jw_app {ws us : List (List UInt8)} (h : ws ≠ []) : jw (ws ++ us) = jw ws ++ tl us := by
  cases ws with
  | nil => exact absurd rfl h
  | cons w r => rw [List.cons_append, jw_eq, jw_eq, tl_app, List.append_assoc]
theorem jw_one {ws : List (List UInt8)} (h : ws ≠ []) (w : List UInt8) : jw (ws ++ [w]) = jw ws ++ ([32] ++ w) := by
  rw [jw_app h, tl_cons, tl_nil, List.append_nil]
theorem jw_two {ws : List (List UInt8)} (h : ws ≠ []) (u v : List UInt8) : jw (ws ++ [u, v]) = jw ws ++ ((([32] ++ u) ++ [32]) ++ v) := by
  rw [jw_app h, tl_cons, tl_cons, tl_nil, List.append_nil]
  simp only [List.append_assoc]
/-! Roads -/
def row (xs : List (Option Nat)) : List UInt8 := jw (xs.map hx)
theorem row_0 {xs : List (Option Nat)} {i : Nat} (h : i = 0) (hi : i < xs.length) : row (xs.take i) ++ hx xs[i] = row (xs.take (i + 1)) := by
  subst h
  cases xs with
  | nil => exact absurd hi (by simp)
  | cons x r => rfl
theorem row_s {xs : List (Option Nat)} {i : Nat} (h : 0 < i) (hi : i < xs.length) : (row (xs.take i) ++ [32]) ++ hx xs[i] = row (xs.take (i + 1)) := by
  unfold row
  rw [List.take_succ_eq_append_getElem hi, List.map_append, List.map_cons, List.map_nil, jw_one]
  · rw [List.append_assoc]
  · intro e
    have := congrArg List.length e
    rw [List.length_map, List.length_take, List.length_nil] at this
    omega
theorem row_len (xs : List (Option Nat)) : (row xs).length ≤ 9 * xs.length := by
  have := jw_len (c := 8) (ws := xs.map hx) fun w hw => by
    obtain ⟨x, -, rfl⟩ := List.mem_map.1 hw
    exact Nat.le_of_eq (hx_len x)
  rwa [List.length_map] at this
def roadW : List UInt8 := [114, 111, 97, 100]
/-- The words of a road, some of its cells. -/
def rws (r : Rd) (i : Nat) : List (List UInt8) := [roadW, hx r.2.1, hx r.2.2.1, hx r.2.2.2] ++ ((l16 r.1).take i).map hx
/-- A road as text. -/
def rTx (r : Rd) : List UInt8 := jw (rws r 16)
theorem rws_s (r : Rd) {i : Nat} (h : i < 16) : rws r i ++ [hx (r.1 ⟨i, h⟩)] = rws r (i + 1) := by
  unfold rws
  rw [List.take_succ_eq_append_getElem (show i < (l16 r.1).length from h), List.map_append, List.map_cons, List.map_nil, l16_get r.1 h, List.append_assoc]
theorem rws_n (r : Rd) {i : Nat} (h : i ≤ 16) : (rws r i).length = 4 + i := by
  unfold rws
  rw [List.length_append, List.length_map, List.length_take, l16_len]
  show 4 + _ = _
  omega
theorem rws_c (r : Rd) (i : Nat) : ∀ w ∈ rws r i, w.length ≤ 8 := by
  intro w hw
  unfold rws at hw
  rcases List.mem_append.1 hw with h | h
  · simp only [List.mem_cons, List.not_mem_nil, or_false] at h
    rcases h with rfl | rfl | rfl | rfl
    · decide
    · exact Nat.le_of_eq (hx_len _)
    · exact Nat.le_of_eq (hx_len _)
    · exact Nat.le_of_eq (hx_len _)
  · obtain ⟨x, -, rfl⟩ := List.mem_map.1 h
    exact Nat.le_of_eq (hx_len x)
theorem rTx_len (r : Rd) : (rTx r).length ≤ 180 := by
  have := jw_len (rws_c r 16)
  rw [rws_n r (Nat.le_refl 16)] at this
  exact this
theorem rTx_s (r : Rd) : (((((([114, 111, 97, 100, 32] ++ hx r.2.1) ++ [32]) ++ hx r.2.2.1) ++ [32]) ++ hx r.2.2.2) ++ [32]) ++ row (l16 r.1) = rTx r := by
  have e : rTx r = roadW ++ tl (hx r.2.1 :: hx r.2.2.1 :: hx r.2.2.2 :: (l16 r.1).map hx) := jw_eq _ _
  have e2 : tl ((l16 r.1).map hx) = [32] ++ row (l16 r.1) := by
    show tl (hx (r.1 0) :: _) = [32] ++ jw (hx (r.1 0) :: _)
    rw [tl_cons, jw_eq, List.append_assoc]
  rw [e, tl_cons, tl_cons, tl_cons, e2, show ([114, 111, 97, 100, 32] : List UInt8) = roadW ++ [32] from rfl]
  simp only [List.append_assoc]
theorem l16_sg {g : Ca} (h : ∀ i (hi : i < 16), Sg (g ⟨i, hi⟩)) : ∀ x ∈ l16 g, Sg x := by
  intro x hx
  obtain ⟨i, hi, rfl⟩ := List.getElem_of_mem hx
  rw [l16_get g hi]
  exact h i hi
/-! Plans -/
def gN (g : Ph) (i : Nat) : Bool := if h : i < 8 then g ⟨i, h⟩ else false
theorem gN_at {g : Ph} {i : Nat} {b : Bool} (h : i < 8) (e : gN g i = b) : g ⟨i, h⟩ = b := by
  unfold gN at e
  rwa [dif_pos h] at e
theorem gN_ld {g : Ph} {i : Nat} {b : Bool} (h : i < 8) (e : gN g i = b) (h' : i < (pl g).length) : mkV false (sub (bo ((pl g)[i]'h')) 0 1) = some (.c (.v (.bool b))) := by
  rw [pl_ld g h h', gN_at h e]
theorem gN_x {g : Ph} {i : Nat} {b : Bool} (h : i < 8) (e : gN g i = b) : mkV false (sub (phc g) (i * 1) 1) = some (.c (.v (.bool b))) := by
  have h1 : sub (phc g) (i * 1) 1 = [.v (.bool (g ⟨i, h⟩))] := by
    rw [Nat.mul_one]
    simpa using phc_sub g [] h
  rw [h1, gN_at h e]
  rfl
/-- The number of a phase. -/
def phN (g : Ph) : Nat → Nat
  | 0 => 0
  | i + 1 => phN g i + if gN g i then 2 ^ i else 0
theorem phN_lt (g : Ph) : ∀ i, phN g i < 2 ^ i
  | 0 => Nat.zero_lt_one
  | i + 1 => by
    have h := phN_lt g i
    rw [phN, Nat.pow_succ]
    split <;> omega
theorem phN_t {g : Ph} {i : Nat} (h : gN g i = true) : phN g (i + 1) = phN g i + 2 ^ i := by rw [phN, h]; rfl
theorem phN_f {g : Ph} {i : Nat} (h : gN g i = false) : phN g (i + 1) = phN g i := by rw [phN, h]; rfl
def nph (g : Ph) : Int := (phN g 8 : Nat)
theorem nph_rng (g : Ph) : 0 ≤ nph g ∧ nph g ≤ 255 := by
  have := phN_lt g 8
  unfold nph
  omega
theorem two8 {i : Nat} (h : i < 8) : 2 ^ i ≤ 128 := by
  match i, h with
  | 0, _ => decide
  | 1, _ => decide
  | 2, _ => decide
  | 3, _ => decide
  | 4, _ => decide
  | 5, _ => decide
  | 6, _ => decide
  | 7, _ => decide
theorem shl_c {k : IntKind} {i : Nat} {kd : LK} (h : i < 8) : bin .shl kd (.v (.int .i64 1)) (.v (.int k (i : Int))) = some (.v (.int .i64 ((2 ^ i : Nat) : Int))) := by
  unfold bin
  simp only
  rw [if_neg (by omega)]
  match i, h with
  | 0, _ => rfl
  | 1, _ => rfl
  | 2, _ => rfl
  | 3, _ => rfl
  | 4, _ => rfl
  | 5, _ => rfl
  | 6, _ => rfl
  | 7, _ => rfl
theorem or_c {g : Ph} {i : Nat} (h : i < 8) : bits .or .i64 ((phN g i : Nat) : Int) ((2 ^ i : Nat) : Int) = ((phN g i + 2 ^ i : Nat) : Int) := by
  have h1 := phN_lt g i
  have h2 := two8 h
  generalize phN g i = n at h1
  have e1 : (BitVec.ofInt 64 (n : Int)).toNat = n := by
    rw [BitVec.ofInt_natCast, BitVec.toNat_ofNat, Nat.mod_eq_of_lt (by omega)]
  have e2 : (BitVec.ofInt 64 ((2 ^ i : Nat) : Int)).toNat = 2 ^ i := by
    rw [BitVec.ofInt_natCast, BitVec.toNat_ofNat, Nat.mod_eq_of_lt (by omega)]
  show IntKind.i64.wrap (((BitVec.ofInt 64 (n : Int)) ||| (BitVec.ofInt 64 ((2 ^ i : Nat) : Int))).toNat : Int) = _
  have e3 : n ||| 2 ^ i = n + 2 ^ i := by
    have := Nat.two_pow_add_eq_or_of_lt h1 1
    rw [Nat.mul_one] at this
    rw [Nat.add_comm n, this, Nat.or_comm]
  rw [BitVec.toNat_or, e1, e2, e3]
  exact wrap_of (i64r (by omega))
def planW : List UInt8 := [112, 108, 97, 110]
/-- The words of a plan, some of its slots. -/
def pws (xs : List Slo) (b f : Int) (i : Nat) : List (List UInt8) := [planW, itoa b, itoa f] ++ (xs.take i).flatMap fun s => [itoa (nph s.1), itoa s.2]
/-- A plan as text. -/
def pTx (xs : List Slo) (b f : Int) : List UInt8 := jw (pws xs b f xs.length)
theorem pws_s {xs : List Slo} {b f : Int} {i : Nat} (h : i < xs.length) : pws xs b f i ++ [itoa (nph xs[i].1), itoa xs[i].2] = pws xs b f (i + 1) := by
  unfold pws
  rw [List.take_succ_eq_append_getElem h, List.flatMap_append, List.append_assoc]
  rfl
theorem pws_ne {xs : List Slo} {b f : Int} {i : Nat} : pws xs b f i ≠ [] := fun e => by
  unfold pws at e
  cases e
theorem pws_n {xs : List Slo} {b f : Int} : ∀ i, (pws xs b f i).length ≤ 3 + 2 * i
  | 0 => by simp [pws]
  | i + 1 => by
    by_cases h : i < xs.length
    · rw [← pws_s h, List.length_append]
      have := pws_n (xs := xs) (b := b) (f := f) i
      simp only [List.length_cons, List.length_nil]
      omega
    · have e : pws xs b f (i + 1) = pws xs b f i := by
        unfold pws
        rw [List.take_of_length_le (by omega), List.take_of_length_le (by omega)]
      rw [e]
      have := pws_n (xs := xs) (b := b) (f := f) i
      omega
theorem okP_tk {xs : List Slo} {b f : Int} (ho : okP xs b f) {i : Nat} (h : i < xs.length) : 1 ≤ xs[i].2 ∧ xs[i].2 ≤ 240 := ho.1.2.1 _ (List.getElem_mem h)
theorem okP_bf {xs : List Slo} {b f : Int} (ho : okP xs b f) : (0 ≤ b ∧ b ≤ 240) ∧ (0 ≤ f ∧ f ≤ 240) ∧ xs.length ≤ 8 := by
  obtain ⟨⟨h1, h2, h3⟩, h4, h5⟩ := ho
  exact ⟨h3, by omega, by omega⟩
theorem pws_c {xs : List Slo} {b f : Int} (ho : okP xs b f) (i : Nat) : ∀ w ∈ pws xs b f i, w.length ≤ 19 := by
  obtain ⟨h1, h2, h3⟩ := okP_bf ho
  intro w hw
  unfold pws at hw
  rcases List.mem_append.1 hw with h | h
  · simp only [List.mem_cons, List.not_mem_nil, or_false] at h
    rcases h with rfl | rfl | rfl
    · decide
    · exact itoa_len (by omega)
    · exact itoa_len (by omega)
  · obtain ⟨x, hx, h4⟩ := List.mem_flatMap.1 h
    simp only [List.mem_cons, List.not_mem_nil, or_false] at h4
    have h5 := nph_rng x.1
    have h6 := ho.1.2.1 x (List.mem_of_mem_take hx)
    rcases h4 with rfl | rfl
    · exact itoa_len (by omega)
    · exact itoa_len (by omega)
theorem pws_l {xs : List Slo} {b f : Int} (ho : okP xs b f) {i : Nat} (h : i ≤ xs.length) : (jw (pws xs b f i)).length ≤ 400 := by
  have h1 := jw_len (pws_c ho i)
  have h2 := pws_n (xs := xs) (b := b) (f := f) i
  have h3 := (okP_bf ho).2.2
  have h4 : (19 + 1) * (pws xs b f i).length ≤ (19 + 1) * (3 + 2 * i) := Nat.mul_le_mul_left _ h2
  omega
theorem pTx_s (xs : List Slo) (b f : Int) : ([112, 108, 97, 110, 32] ++ itoa b) ++ [32] ++ itoa f = jw (pws xs b f 0) := by
  unfold pws
  rw [List.take_zero, List.flatMap_nil, List.append_nil, jw_eq, tl_cons, tl_cons, tl_nil]
  simp [planW]
/-! Junctions -/
def cell (T : Fl) (i k : Nat) : Option Nat := if h : i < 4 ∧ k < 4 then T ⟨i, h.1⟩ ⟨k, h.2⟩ else none
theorem cell_at (T : Fl) {i k : Nat} (hi : i < 4) (hk : k < 4) : cell T i k = T ⟨i, hi⟩ ⟨k, hk⟩ := dif_pos ⟨hi, hk⟩
def pri (g : Fo) (i : Nat) : Option Nat := if h : i < 4 then g ⟨i, h⟩ else none
theorem pri_at (g : Fo) {i : Nat} (hi : i < 4) : pri g i = g ⟨i, hi⟩ := dif_pos hi
def jrow (T : Fl) (i k : Nat) : List (List UInt8) := (List.range k).map fun q => hx (cell T i q)
def jtur (T : Fl) (i m : Nat) : List (List UInt8) := (List.range i).flatMap fun q => jrow T q m
def jpri (g : Fo) (p : Nat) : List (List UInt8) := (List.range p).map fun q => hx (pri g q)
def junW : List UInt8 := [106, 117, 110, 99, 116, 105, 111, 110]
/-- The words of a junction, some of its turns and priorities. -/
def jws (j : Jn) (i k p : Nat) : List (List UInt8) := [junW, itoa j.1, itoa j.2.1] ++ (jtur j.2.2.1 i j.2.1.toNat ++ (jrow j.2.2.1 i k ++ jpri j.2.2.2 p))
/-- A junction as text. -/
def jTx (j : Jn) : List UInt8 := jw (jws j j.1.toNat 0 j.1.toNat)
theorem jws_k (j : Jn) {i k : Nat} (hi : i < 4) (hk : k < 4) : jws j i k 0 ++ [hx (j.2.2.1 ⟨i, hi⟩ ⟨k, hk⟩)] = jws j i (k + 1) 0 := by
  unfold jws jrow
  rw [List.range_succ, List.map_append, List.map_cons, List.map_nil, cell_at _ hi hk]
  simp only [List.append_assoc, jpri, List.range_zero, List.map_nil, List.append_nil]
theorem jws_i (j : Jn) (i : Nat) : jws j i j.2.1.toNat 0 = jws j (i + 1) 0 0 := by
  unfold jws jtur
  rw [List.range_succ, List.flatMap_append]
  simp [jrow, jpri]
theorem jws_p (j : Jn) {i p : Nat} (hp : p < 4) : jws j i 0 p ++ [hx (j.2.2.2 ⟨p, hp⟩)] = jws j i 0 (p + 1) := by
  unfold jws jpri
  rw [List.range_succ, List.map_append, List.map_cons, List.map_nil, pri_at _ hp]
  simp only [List.append_assoc]
theorem jws_ne {j : Jn} {i k p : Nat} : jws j i k p ≠ [] := fun e => by
  unfold jws at e
  cases e
theorem jtur_n (T : Fl) (m : Nat) : ∀ i, (jtur T i m).length = i * m
  | 0 => by simp [jtur]
  | i + 1 => by
    have := jtur_n T m i
    unfold jtur at this ⊢
    rw [List.range_succ, List.flatMap_append, List.length_append, this, Nat.add_mul]
    simp [jrow]
theorem jws_n (j : Jn) (i k p : Nat) : (jws j i k p).length = 3 + (i * j.2.1.toNat + (k + p)) := by
  unfold jws
  rw [List.length_append, List.length_append, List.length_append, jtur_n]
  simp [jrow, jpri]
theorem jws_c {j : Jn} (ho : jnOk j) (i k p : Nat) : ∀ w ∈ jws j i k p, w.length ≤ 19 := by
  obtain ⟨h1, h2, -⟩ := ho
  intro w hw
  unfold jws at hw
  rcases List.mem_append.1 hw with h | h
  · simp only [List.mem_cons, List.not_mem_nil, or_false] at h
    rcases h with rfl | rfl | rfl
    · decide
    · exact itoa_len (by omega)
    · exact itoa_len (by omega)
  · have hl : ∀ x, (hx x).length ≤ 19 := fun x => by rw [hx_len]; decide
    rcases List.mem_append.1 h with h | h
    · obtain ⟨q, -, h4⟩ := List.mem_flatMap.1 h
      obtain ⟨x, -, rfl⟩ := List.mem_map.1 h4
      exact hl _
    · rcases List.mem_append.1 h with h | h <;>
      · obtain ⟨x, -, rfl⟩ := List.mem_map.1 h
        exact hl _
theorem jws_l {j : Jn} (ho : jnOk j) {i k p : Nat} (hi : i ≤ 4) (hk : k ≤ 4) (hp : p ≤ 4) : (jw (jws j i k p)).length ≤ 600 := by
  have h1 := jw_len (jws_c ho i k p)
  have h2 : i * j.2.1.toNat ≤ 4 * 4 := Nat.mul_le_mul hi (by have := ho.2.1; omega)
  rw [jws_n] at h1
  omega
theorem jTx_s (j : Jn) : ([106, 117, 110, 99, 116, 105, 111, 110, 32] ++ itoa j.1) ++ [32] ++ itoa j.2.1 = jw (jws j 0 0 0) := by
  unfold jws
  rw [show jtur j.2.2.1 0 j.2.1.toNat ++ (jrow j.2.2.1 0 0 ++ jpri j.2.2.2 0) = [] from rfl, List.append_nil, jw_eq, tl_cons, tl_cons, tl_nil]
  simp [junW]
theorem jt_pt (j : Jn) {i k : Nat} (h : i < 4) (hk : k < 4) : mkV false (sub (jnc j) (2 + i * 4 + k * 1) 1) = some (.c (.f .f32 (j.2.2.1 ⟨i, h⟩ ⟨k, hk⟩))) := by
  match i, h, k, hk with
  | 0, _, 0, _ => rfl
  | 0, _, 1, _ => rfl
  | 0, _, 2, _ => rfl
  | 0, _, 3, _ => rfl
  | 1, _, 0, _ => rfl
  | 1, _, 1, _ => rfl
  | 1, _, 2, _ => rfl
  | 1, _, 3, _ => rfl
  | 2, _, 0, _ => rfl
  | 2, _, 1, _ => rfl
  | 2, _, 2, _ => rfl
  | 2, _, 3, _ => rfl
  | 3, _, 0, _ => rfl
  | 3, _, 1, _ => rfl
  | 3, _, 2, _ => rfl
  | 3, _, 3, _ => rfl
/-! Joints -/
def dTx (xs : List Int) : List UInt8 := xs.flatMap itoa
theorem dTx_s {xs : List Int} {i : Nat} (h : i < xs.length) : dTx (xs.take i) ++ itoa xs[i] = dTx (xs.take (i + 1)) := by
  unfold dTx
  rw [List.take_succ_eq_append_getElem h, List.flatMap_append]
  simp
theorem dTx_len : ∀ {xs : List Int}, (∀ x ∈ xs, 0 ≤ x ∧ x ≤ 9) → (dTx xs).length ≤ 19 * xs.length
  | [], _ => by simp [dTx]
  | x :: r, h => by
    have h1 := dTx_len (xs := r) fun y hy => h y (List.mem_cons_of_mem _ hy)
    have h2 := h x List.mem_cons_self
    have h3 := itoa_len (a := x) (by omega)
    unfold dTx at h1 ⊢
    rw [List.flatMap_cons, List.length_append, List.length_cons, Nat.mul_add]
    omega
def plT (a : Int) : List UInt8 := if 0 ≤ a then itoa a else [45]
theorem plT_len {a : Int} (h : a ≤ 9) : (plT a).length ≤ 19 := by
  unfold plT
  split
  · exact itoa_len (by omega)
  · decide
def joTx (j : Jo) : List UInt8 := ((((((([106, 111, 105, 110, 116, 32] ++ plT j.2.2.2) ++ [32]) ++ dTx j.2.1) ++ [32, 45, 32]) ++ dTx j.2.2.1) ++ [32]) ++ jTx j.1)
theorem cJoin (xs : List (List UInt8)) (sep : List UInt8) (h0 : xs ≠ []) (hx : xs.length ≤ 1048576) (hl : (Lib.join xs sep).length ≤ 1099511627776) : PureC X 30 [.c (.sl false xs.length 1 (flat st xs)), cS sep] (cS (Lib.join xs sep)) :=
  PureC.of_calls (fun _ _ => Go.Proofs.Tryz.call30 _ _) fun w F μ arr hS hr => by
    obtain ⟨x, y, rfl, h1, h2⟩ := two_args hr
    obtain rfl := rv_v h2
    have hfl : (flat st xs).length = xs.length * 1 := flat_length st_len xs
    rcases h1.slI with ⟨-, hn, -⟩ | ⟨a, cap, rfl, hn, hm, hl2, hF, hc⟩
    · exact absurd (List.length_eq_zero_iff.1 hn) h0
    · have hne : flat st xs ≠ [] := fun e => by
        rw [e] at hfl
        have := List.length_pos_iff.2 h0
        simp only [List.length_nil] at hfl
        omega
      obtain ⟨hsp, -⟩ := hF hne
      have hcell : ∀ (j : Nat) (x : ByteArray), (xs.map tx)[j]? = some x → w.cell? ⟨a.block, a.off + j, none⟩ = some (.string x) := fun j x hj => by
        rw [List.getElem?_map, Option.map_eq_some_iff] at hj
        obtain ⟨p, hp, rfl⟩ := hj
        have hat : (flat st xs)[j]? = some (.v (.string (tx p))) := by
          have h5 : ∀ (ys : List (List UInt8)) (j : Nat), (flat st ys)[j]? = ys[j]?.map fun p => C.v (.string (tx p)) := by
            intro ys
            induction ys with
            | nil => intro j; rfl
            | cons y r ih =>
              intro j
              cases j with
              | zero => rfl
              | succ j => exact ih j
          rw [h5, hp]; rfl
        obtain ⟨v, hv, hR⟩ := hc j _ hat
        have : v = .string (tx p) := by cases hR; rfl
        rw [← this]
        exact hv
      obtain ⟨bk, o, sp⟩ := a
      simp only at hsp
      subst hsp
      have hbk : bk < w.heap.size := by
        cases xs with
        | nil => exact absurd rfl h0
        | cons p r => exact Lib.lt_of_cell (hcell 0 (tx p) rfl)
      have e : (xs.map tx).map (·.data.toList) = xs := by
        rw [List.map_map]
        have : (fun x : ByteArray => x.data.toList) ∘ tx = id := by
          funext l; simp
        rw [this, List.map_id]
      have hj := Go.Proofs.Tryz.strings_Join bk o cap (xs.map tx) (tx sep) w hcell hbk (by rw [List.length_map]; omega) (by rw [List.length_map]; exact hn) (by rw [e]; show (Lib.join xs sep).length ≤ _; omega)
      rw [e, List.length_map] at hj
      exact hj.mono fun e w' ⟨he, hb⟩ => ⟨_, he, hb, .c (.fz (.v (by simp [plain])))⟩

theorem cRowS (xs : List (Option Nat)) (hs : ∀ x ∈ xs, Sg x) (hl : xs.length ≤ 2 ^ 20) : PureC X 119 [.c (flo false xs)] (cS (row xs)) := by
  refine PureC.of_body (drawD_ok X) (fun _ _ => Go.Proofs.Tryz.call119 _ _) Go.Proofs.Tryz.func119 rfl (n := 23) rfl ?_
  refine w_seq ?_
  refine w_reg rfl ?_
  refine v_assign (c := .v _) rfl ?_
  refine v_nil ?_
  refine q_n ?_
  refine w_seq ?_
  refine w_reg rfl ?_
  refine v_assign (c := .v _) rfl ?_
  refine v_nil ?_
  refine q_n ?_
  refine w_seq ?_
  refine w_seq ?_
  refine w_reg rfl ?_
  refine v_assign (c := .v (.int .i64 0)) rfl ?_
  refine v_nil ?_
  refine q_n ?_
  refine w_block ?_
  refine w_loop (fun k sl H => ∃ i : Nat, k = xs.length - i ∧ i ≤ xs.length ∧ sl = sls [(0, .c (flo false xs)), (3, cS (row (xs.take i))), (4, cI i)] ∧ H = []) ?_ ?_
  · refine ⟨_, _, _, ?_, 0, rfl, Nat.zero_le _, rfl, rfl⟩
    exact turn0 ⟨tr_sl, tr_v, tr_v, trivial⟩
  rintro k sl H ⟨i, rfl, hi, rfl, rfl⟩
  refine w_seq ?_
  refine w_seq ?_
  refine w_reg rfl ?_
  refine v_move rfl ?_
  refine v_move rfl ?_
  refine v_len_sl lay23 rfl ?_
  refine v_lss lay3 rfl rfl (fun h1 => ?_) (fun h1 => ?_)
  rotate_left
  · refine v_nil ?_
    refine q_n ?_
    refine w_f rfl ?_
    refine w_exit ?_
    refine q_e ?_
    refine q_e ?_
    refine q_hit ?_
    refine q_n ?_
    refine w_seq ?_
    refine w_reg rfl ?_
    refine v_move rfl ?_
    refine v_assign rfl ?_
    refine v_nil ?_
    refine q_n ?_
    refine w_ret ?_
    refine r_r rfl ?_
    obtain rfl : i = xs.length := by omega
    exact a_s (by rw [List.take_length])
  have hi1 : i < xs.length := by omega
  have hrl := row_len (xs.take i)
  rw [List.length_take] at hrl
  have hx8 := hx_len xs[i]
  refine v_nil ?_
  refine q_n ?_
  refine w_t rfl ?_
  refine w_skip ?_
  refine q_n ?_
  refine w_seq ?_
  refine w_block ?_
  refine w_seq ?_
  refine w_seq ?_
  refine w_reg rfl ?_
  refine v_move rfl ?_
  refine v_gtr lay3 rfl rfl (fun h2 => ?_) (fun h2 => ?_)
  rotate_left
  · have h0 : i = 0 := by omega
    refine v_nil ?_
    refine q_n ?_
    refine w_f rfl ?_
    refine w_skip ?_
    refine q_n ?_
    refine w_reg rfl ?_
    refine v_move rfl ?_
    refine v_move rfl ?_
    refine v_move rfl ?_
    have hq4 : i < _ := hi1
    refine v_idx_n (k := 1) i fe_len lay23 lay26 rfl rfl rfl (rfl) rfl hq4 ?_
    refine v_load_vw (.c (.f _ _)) lay26 rfl rfl rfl ?_
    refine v_call (cHxS _ (hs _ (List.getElem_mem hi1))) rfl rfl rfl (.cons vw_f .nil) ?_
    refine v_sadd lay9 rfl rfl (by unfold maxLen; first | omega | (simp only [List.length_append, List.length_cons, List.length_nil]; omega)) ?_
    refine v_assign rfl ?_
    refine v_nil ?_
    refine q_bn ?_
    refine q_n ?_
    refine w_reg rfl ?_
    refine v_move rfl ?_
    refine v_add lay3 rfl rfl (i64r (by omega)) ?_
    refine v_assign rfl ?_
    refine v_nil ?_
    refine q_n ?_
    refine ⟨_, _, _, ?_, ⟨i + 1, rfl, by omega, rfl, rfl⟩, by omega⟩
    exact turn0 ⟨tr_sl, tr_s (row_0 h0 hi1), tr_v, trivial⟩
  have h0 : 0 < i := by omega
  refine v_nil ?_
  refine q_n ?_
  refine w_t rfl ?_
  refine w_reg rfl ?_
  refine v_move rfl ?_
  refine v_sadd lay9 rfl rfl (by unfold maxLen; first | omega | (simp only [List.length_append, List.length_cons, List.length_nil]; omega)) ?_
  refine v_assign rfl ?_
  refine v_nil ?_
  refine q_n ?_
  refine w_reg rfl ?_
  refine v_move rfl ?_
  refine v_move rfl ?_
  refine v_move rfl ?_
  have hq3 : i < _ := hi1
  refine v_idx_n (k := 1) i fe_len lay23 lay26 rfl rfl rfl (rfl) rfl hq3 ?_
  refine v_load_vw (.c (.f _ _)) lay26 rfl rfl rfl ?_
  refine v_call (cHxS _ (hs _ (List.getElem_mem hi1))) rfl rfl rfl (.cons vw_f .nil) ?_
  refine v_sadd lay9 rfl rfl (by unfold maxLen; first | omega | (simp only [List.length_append, List.length_cons, List.length_nil]; omega)) ?_
  refine v_assign rfl ?_
  refine v_nil ?_
  refine q_bn ?_
  refine q_n ?_
  refine w_reg rfl ?_
  refine v_move rfl ?_
  refine v_add lay3 rfl rfl (i64r (by omega)) ?_
  refine v_assign rfl ?_
  refine v_nil ?_
  refine q_n ?_
  refine ⟨_, _, _, ?_, ⟨i + 1, rfl, by omega, rfl, rfl⟩, by omega⟩
  exact turn0 ⟨tr_sl, tr_s (row_s h0 hi1), tr_v, trivial⟩

theorem cRdTS (r : Rd) (hr : rW r) : PureC X 61 [.c (.vw false (rdc r) 0)] (cS (rTx r)) := by
  refine PureC.of_body (drawD_ok X) (fun _ _ => Go.Proofs.Tryz.call61 _ _) Go.Proofs.Tryz.func61 rfl (n := 30) rfl ?_
  have e1 := hx_len r.2.1
  have e2 := hx_len r.2.2.1
  have e3 := hx_len r.2.2.2
  have e4 := row_len (l16 r.1)
  rw [l16_len] at e4
  refine w_seq ?_
  refine w_reg rfl ?_
  refine v_assign (c := .v _) rfl ?_
  refine v_nil ?_
  refine q_n ?_
  refine w_seq ?_
  refine w_draw [0, 1, 3, 7, 15, 31, 63, 0, 128, 384, 896, 1951, 4095, 8191, 0, 16384, 49152, 114688, 249759, 524287, 1048575, 0, 2097152, 6291456, 14680064, 31969183, 67108863, 134217727] [⟨0, 0, []⟩, ⟨1, 0, []⟩, ⟨2, 0, []⟩, ⟨3, 0, []⟩, ⟨4, 0, []⟩, ⟨5, 0, []⟩, ⟨6, 0, []⟩, ⟨7, 0, []⟩, ⟨8, 0, []⟩, ⟨9, 0, []⟩, ⟨10, 0, []⟩, ⟨11, 0, []⟩, ⟨12, 0, []⟩, ⟨13, 0, []⟩, ⟨14, 0, []⟩, ⟨15, 0, []⟩, ⟨16, 0, []⟩, ⟨17, 0, []⟩, ⟨18, 0, []⟩, ⟨19, 0, []⟩, ⟨20, 0, []⟩, ⟨21, 0, []⟩, ⟨22, 0, []⟩, ⟨23, 0, []⟩, ⟨24, 0, []⟩, ⟨25, 0, []⟩, ⟨26, 0, []⟩, ⟨27, 0, []⟩] rfl rfl ?_
  refine d_q rfl rfl rfl rfl rfl ?_
  refine v_move rfl ?_
  refine v_nil ?_
  refine d_q rfl rfl rfl rfl rfl ?_
  refine v_nil_vw rfl ?_
  refine v_nil ?_
  refine d_q rfl rfl rfl rfl rfl ?_
  refine v_fa_vw (off' := 16) lay61 rfl rfl rfl ?_
  refine v_nil ?_
  refine d_q rfl rfl rfl rfl rfl ?_
  refine v_load_vw (.c (.f _ _)) lay26 rfl rfl rfl ?_
  refine v_nil ?_
  refine d_call (cHxS _ (hr.2.1)) rfl rfl rfl rfl rfl (.cons vw_f .nil) ?_
  refine d_q rfl rfl rfl rfl rfl ?_
  refine v_sadd lay9 rfl rfl (by unfold maxLen; first | omega | (simp only [List.length_append, List.length_cons, List.length_nil]; omega)) ?_
  refine v_nil ?_
  refine d_q rfl rfl rfl rfl rfl ?_
  refine v_sadd lay9 rfl rfl (by unfold maxLen; first | omega | (simp only [List.length_append, List.length_cons, List.length_nil]; omega)) ?_
  refine v_nil ?_
  refine d_q rfl rfl rfl rfl rfl ?_
  refine v_move rfl ?_
  refine v_nil ?_
  refine d_q rfl rfl rfl rfl rfl ?_
  refine v_nil_vw rfl ?_
  refine v_nil ?_
  refine d_q rfl rfl rfl rfl rfl ?_
  refine v_fa_vw (off' := 17) lay61 rfl rfl rfl ?_
  refine v_nil ?_
  refine d_q rfl rfl rfl rfl rfl ?_
  refine v_load_vw (.c (.f _ _)) lay26 rfl rfl rfl ?_
  refine v_nil ?_
  refine d_call (cHxS _ (hr.2.2.1)) rfl rfl rfl rfl rfl (.cons vw_f .nil) ?_
  refine d_q rfl rfl rfl rfl rfl ?_
  refine v_sadd lay9 rfl rfl (by unfold maxLen; first | omega | (simp only [List.length_append, List.length_cons, List.length_nil]; omega)) ?_
  refine v_nil ?_
  refine d_q rfl rfl rfl rfl rfl ?_
  refine v_sadd lay9 rfl rfl (by unfold maxLen; first | omega | (simp only [List.length_append, List.length_cons, List.length_nil]; omega)) ?_
  refine v_nil ?_
  refine d_q rfl rfl rfl rfl rfl ?_
  refine v_move rfl ?_
  refine v_nil ?_
  refine d_q rfl rfl rfl rfl rfl ?_
  refine v_nil_vw rfl ?_
  refine v_nil ?_
  refine d_q rfl rfl rfl rfl rfl ?_
  refine v_fa_vw (off' := 18) lay61 rfl rfl rfl ?_
  refine v_nil ?_
  refine d_q rfl rfl rfl rfl rfl ?_
  refine v_load_vw (.c (.f _ _)) lay26 rfl rfl rfl ?_
  refine v_nil ?_
  refine d_call (cHxS _ (hr.2.2.2)) rfl rfl rfl rfl rfl (.cons vw_f .nil) ?_
  refine d_q rfl rfl rfl rfl rfl ?_
  refine v_sadd lay9 rfl rfl (by unfold maxLen; first | omega | (simp only [List.length_append, List.length_cons, List.length_nil]; omega)) ?_
  refine v_nil ?_
  refine d_q rfl rfl rfl rfl rfl ?_
  refine v_sadd lay9 rfl rfl (by unfold maxLen; first | omega | (simp only [List.length_append, List.length_cons, List.length_nil]; omega)) ?_
  refine v_nil ?_
  refine d_q rfl rfl rfl rfl rfl ?_
  refine v_move rfl ?_
  refine v_nil ?_
  refine d_q rfl rfl rfl rfl rfl ?_
  refine v_nil_vw rfl ?_
  refine v_nil ?_
  refine d_q rfl rfl rfl rfl rfl ?_
  refine v_fa_vw (off' := 0) lay61 rfl rfl rfl ?_
  refine v_nil ?_
  refine d_q rfl rfl rfl rfl rfl ?_
  refine v_slice_av (k := 1) (cs' := flat fe (l16 r.1)) lay59 lay26 rfl rfl (by decide) (by unfold maxLen; omega) (Nat.le_of_ble_eq_true rfl) rfl ?_
  refine v_nil ?_
  refine d_call (cRowS (l16 r.1) (l16_sg hr.1) (Nat.le_of_ble_eq_true rfl)) rfl rfl rfl rfl rfl (.cons vw_sl .nil) ?_
  refine d_q rfl rfl rfl rfl rfl ?_
  refine v_sadd lay9 rfl rfl (by unfold maxLen; first | omega | (simp only [List.length_append, List.length_cons, List.length_nil]; omega)) ?_
  refine v_nil ?_
  refine d_q rfl rfl rfl rfl rfl ?_
  refine v_assign rfl ?_
  refine v_nil ?_
  refine d_nil ?_
  refine q_n ?_
  refine w_ret ?_
  refine r_r rfl ?_
  exact a_s (rTx_s r)

theorem cRdTI (r : Rd) (hr : rW r) (ho : roadOk r) : PureC X 27 [.agg (rdc r)] (cS (rTx r)) := by
  refine PureC.of_body (drawD_ok X) (fun _ _ => Go.Proofs.Tryz.call27 _ _) Go.Proofs.Tryz.func27 rfl (n := 32) rfl ?_
  refine w_seq ?_
  refine w_reg rfl ?_
  refine v_box (m := 0) (H' := [_]) lay61 rfl rfl rfl ?_
  refine v_assign (c := .v _) rfl ?_
  refine v_nil ?_
  refine q_n ?_
  refine w_seq ?_
  refine w_seq ?_
  refine w_reg rfl ?_
  refine v_load_pt (.agg [_, _, _, _, _, _, _, _, _, _, _, _, _, _, _, _, _, _, _]) lay61 rfl rfl rfl rfl ?_
  refine v_callb (cRdI _ (by assumption)) rfl rfl (.cons (vw_agg (.cons vw_f (.cons vw_f (.cons vw_f (.cons vw_f (.cons vw_f (.cons vw_f (.cons vw_f (.cons vw_f (.cons vw_f (.cons vw_f (.cons vw_f (.cons vw_f (.cons vw_f (.cons vw_f (.cons vw_f (.cons vw_f (.cons vw_f (.cons vw_f (.cons vw_f .nil)))))))))))))))))))) .nil) (fun h1 => ?_) (fun h1 => ?_)
  rotate_left
  · exact absurd ho h1
  refine v_not false rfl rfl ?_
  refine v_nil ?_
  refine q_n ?_
  refine w_f rfl ?_
  refine w_skip ?_
  refine q_n ?_
  refine w_seq ?_
  refine w_draw [0, 1, 3, 0, 8, 31, 0, 64, 255, 511, 1023] [⟨0, 0, []⟩, ⟨1, 0, []⟩, ⟨2, 0, []⟩, ⟨3, 0, []⟩, ⟨4, 0, []⟩, ⟨5, 0, []⟩, ⟨6, 0, []⟩, ⟨7, 0, []⟩, ⟨8, 0, []⟩, ⟨9, 1, []⟩, ⟨10, 0, []⟩] rfl rfl ?_
  refine d_q rfl rfl rfl rfl rfl ?_
  refine v_fa_pt (off' := 16) lay61 rfl rfl rfl ?_
  refine v_nil ?_
  refine d_q rfl rfl rfl rfl rfl ?_
  refine v_load_pt (.c _) lay26 rfl rfl rfl rfl ?_
  refine v_nil ?_
  refine d_call (cHxI _ (hr.2.1)) rfl rfl rfl rfl rfl (.cons vw_f .nil) ?_
  refine d_q rfl rfl rfl rfl rfl ?_
  refine v_fa_pt (off' := 17) lay61 rfl rfl rfl ?_
  refine v_nil ?_
  refine d_q rfl rfl rfl rfl rfl ?_
  refine v_load_pt (.c _) lay26 rfl rfl rfl rfl ?_
  refine v_nil ?_
  refine d_call (cHxI _ (hr.2.2.1)) rfl rfl rfl rfl rfl (.cons vw_f .nil) ?_
  refine d_q rfl rfl rfl rfl rfl ?_
  refine v_fa_pt (off' := 18) lay61 rfl rfl rfl ?_
  refine v_nil ?_
  refine d_q rfl rfl rfl rfl rfl ?_
  refine v_load_pt (.c _) lay26 rfl rfl rfl rfl ?_
  refine v_nil ?_
  refine d_call (cHxI _ (hr.2.2.2)) rfl rfl rfl rfl rfl (.cons vw_f .nil) ?_
  refine d_e rfl rfl rfl ?_
  refine v_lit (flat st [_, _, _, _]) (H' := [_, _]) lay57 lay9 rfl rfl ⟨by decide, by decide⟩ rfl rfl ?_
  refine v_nil ⟨again_nil, ?_⟩
  refine d_q rfl rfl rfl rfl rfl ?_
  refine v_assign rfl ?_
  refine v_nil ?_
  refine d_nil ?_
  refine q_n ?_
  refine w_seq ?_
  refine w_seq ?_
  refine w_reg rfl ?_
  refine v_fa_pt (off' := 0) lay61 rfl rfl rfl ?_
  refine v_load_pt (.agg [_, _, _, _, _, _, _, _, _, _, _, _, _, _, _, _]) lay59 rfl rfl rfl rfl ?_
  refine v_move (c := .v (.int .i64 0)) rfl ?_
  refine v_nil ?_
  refine q_n ?_
  refine w_block ?_
  refine w_loop (fun k sl H => ∃ i : Nat, k = 16 - i ∧ i ≤ 16 ∧ sl = sls [(1, .c (.pt 0 0)), (3, .c (.mu 1 0 (rws r i).length 1)), (20, .agg (cac r.1)), (21, cI i)] ∧ H = [⟨rdc r, 61, true⟩, ⟨flat st (rws r i), 9, true⟩]) ?_ ?_
  · refine ⟨_, _, _, ?_, 0, rfl, Nat.zero_le _, rfl, rfl⟩
    exact turn [some 0, some 1] rfl rfl rfl ⟨⟨_, rfl, .stay (fun c hc => stays_fz (fz_sc (List.all_eq_true.1 (rdc_sc r) c hc)))⟩, ⟨_, rfl, trc_flat st_sc (rfl)⟩, trivial⟩ ⟨tr_pt rfl, tr_mun rfl rfl, tr_agg (.cons tr_f (.cons tr_f (.cons tr_f (.cons tr_f (.cons tr_f (.cons tr_f (.cons tr_f (.cons tr_f (.cons tr_f (.cons tr_f (.cons tr_f (.cons tr_f (.cons tr_f (.cons tr_f (.cons tr_f (.cons tr_f .nil)))))))))))))))), tr_v, trivial⟩
  rintro k sl H ⟨i, rfl, hi, rfl, rfl⟩
  refine w_seq ?_
  refine w_reg rfl ?_
  refine v_lss lay3 rfl rfl (fun h2 => ?_) (fun h2 => ?_)
  rotate_left
  · obtain rfl : i = 16 := by omega
    have hj0 : rws r 16 ≠ [] := fun e => by cases e
    have hj1 : (rws r 16).length ≤ 1048576 := by rw [rws_n r (Nat.le_refl 16)]; decide
    have hj2 : (Lib.join (rws r 16) [32]).length ≤ 1099511627776 := Nat.le_trans (rTx_len r) (by decide)
    refine v_nil ?_
    refine q_n ?_
    refine w_seq ?_
    refine w_f rfl ?_
    refine w_exit ?_
    refine q_e ?_
    refine q_e ?_
    refine q_hit ?_
    refine q_n ?_
    refine w_seq ?_
    refine w_reg rfl ?_
    refine v_move rfl ?_
    refine v_call (cJoin (rws r 16) [32] hj0 hj1 hj2) rfl rfl rfl (.cons (vw_mu2 st_sc st_len rfl (rfl)) (.cons vw_v .nil)) ?_
    refine v_assign rfl ?_
    refine v_nil ?_
    refine q_n ?_
    refine w_ret ?_
    refine r_r rfl ?_
    exact a_s rfl
  have hi1 : i < 16 := by omega
  have hrn := rws_n r hi
  refine v_nil ?_
  refine q_n ?_
  refine w_seq ?_
  refine w_t rfl ?_
  refine w_skip ?_
  refine q_n ?_
  refine w_seq ?_
  refine w_block ?_
  refine w_seq ?_
  refine w_reg rfl ?_
  refine v_index_e i (.c (.f .f32 (r.1 ⟨i, hi1⟩))) lay59 lay26 rfl rfl rfl hi1 (by show i * 1 + 1 ≤ 16; omega) (road_x r i hi1) ?_
  refine v_assign rfl ?_
  refine v_nil ?_
  refine q_n ?_
  refine w_reg rfl ?_
  refine v_move rfl ?_
  refine v_move rfl ?_
  refine v_call (cHxI _ (hr.1 i hi1)) rfl rfl rfl (.cons vw_f .nil) ?_
  refine v_lit (flat st [_]) (H' := [_, _, _]) lay57 lay9 rfl rfl ⟨by decide, by decide⟩ rfl rfl ?_
  refine v_app_flat (H' := [_, _, _, _]) st_sc st_len lay57 lay9 rfl rfl (by first | rfl | (simp; done)) rfl rfl (by first | rfl | (simp; done)) rfl rfl (by unfold maxLen; simp only []; omega) rfl rfl ?_
  refine v_assign rfl ?_
  refine v_nil ?_
  refine q_bn ?_
  refine q_n ?_
  refine w_reg rfl ?_
  refine v_add lay3 rfl rfl (i64r (by omega)) ?_
  refine v_move rfl ?_
  refine v_nil ?_
  refine q_n ?_
  refine ⟨_, _, _, ?_, ⟨i + 1, rfl, by omega, rfl, rfl⟩, by omega⟩
  exact turn [some 0, some 3] rfl rfl rfl ⟨⟨_, rfl, .stay (fun c hc => stays_fz (fz_sc (List.all_eq_true.1 (rdc_sc r) c hc)))⟩, ⟨_, rfl, trc_flat st_sc (congrArg (flat st) (rws_s r hi1))⟩, trivial⟩ ⟨tr_pt rfl, tr_mun rfl (by rw [← rws_s r hi1, List.length_append]; rfl), tr_agg (.cons tr_f (.cons tr_f (.cons tr_f (.cons tr_f (.cons tr_f (.cons tr_f (.cons tr_f (.cons tr_f (.cons tr_f (.cons tr_f (.cons tr_f (.cons tr_f (.cons tr_f (.cons tr_f (.cons tr_f (.cons tr_f .nil)))))))))))))))), tr_v, trivial⟩

theorem cNphS (g : Ph) : PureC X 120 [.agg (phc g)] (cI (nph g)) := by
  refine PureC.of_body (drawD_ok X) (fun _ _ => Go.Proofs.Tryz.call120 _ _) Go.Proofs.Tryz.func120 rfl (n := 18) rfl ?_
  refine w_seq ?_
  refine w_reg rfl ?_
  refine v_box (m := 0) (H' := [_]) lay140 rfl rfl rfl ?_
  refine v_assign (c := .v (.int .i64 0)) rfl ?_
  refine v_nil ?_
  refine q_n ?_
  refine w_seq ?_
  refine w_reg rfl ?_
  refine v_assign (c := .v (.int .i64 0)) rfl ?_
  refine v_nil ?_
  refine q_n ?_
  refine w_seq ?_
  refine w_seq ?_
  refine w_reg rfl ?_
  refine v_assign (c := .v (.int .i64 0)) rfl ?_
  refine v_nil ?_
  refine q_n ?_
  refine w_block ?_
  refine w_loop (fun k sl H => ∃ i : Nat, k = 8 - i ∧ i ≤ 8 ∧ sl = sls [(1, .c (.pt 0 0)), (3, cI (phN g i : Nat)), (4, cI i)] ∧ H = [⟨flat bo (pl g), 140, true⟩]) ?_ ?_
  · refine ⟨_, _, _, ?_, 0, rfl, Nat.zero_le _, rfl, rfl⟩
    exact turn [some 0] rfl rfl rfl ⟨⟨_, rfl, trc_flat bo_sc rfl⟩, trivial⟩ ⟨tr_pt rfl, tr_v, tr_v, trivial⟩
  rintro k sl H ⟨i, rfl, hi, rfl, rfl⟩
  rcases hg : gN g i with _ | _
  · skip
    refine w_seq ?_
    refine w_seq ?_
    refine w_reg rfl ?_
    refine v_move rfl ?_
    refine v_lss lay3 rfl rfl (fun h1 => ?_) (fun h1 => ?_)
    rotate_left
    · refine v_nil ?_
      refine q_n ?_
      refine w_f rfl ?_
      refine w_exit ?_
      refine q_e ?_
      refine q_e ?_
      refine q_hit ?_
      refine q_n ?_
      refine w_seq ?_
      refine w_reg rfl ?_
      refine v_move rfl ?_
      refine v_assign rfl ?_
      refine v_nil ?_
      refine q_n ?_
      refine w_ret ?_
      refine r_r rfl ?_
      obtain rfl : i = 8 := by omega
      exact a_i rfl
    have hi1 : i < 8 := by omega
    have ht := two8 hi1
    have hp := phN_lt g i
    refine v_nil ?_
    refine q_n ?_
    refine w_t rfl ?_
    refine w_skip ?_
    refine q_n ?_
    refine w_seq ?_
    refine w_block ?_
    refine w_seq ?_
    refine w_reg rfl ?_
    refine v_move rfl ?_
    refine v_idx_arr_e (k := 1) (i) lay140 lay4 rfl rfl rfl (rfl) (hi1) ?_
    refine v_load_flat_e (enc := bo) (ys := pl g) i 0 (.c (.v (.bool false))) bo_len lay4 rfl rfl (by omega) hi1 (by decide) (gN_ld hi1 hg _) ?_
    refine v_nil ?_
    refine q_n ?_
    refine w_f rfl ?_
    refine w_skip ?_
    refine q_bn ?_
    refine q_n ?_
    refine w_reg rfl ?_
    refine v_move rfl ?_
    refine v_add lay3 rfl rfl (i64r (by omega)) ?_
    refine v_assign rfl ?_
    refine v_nil ?_
    refine q_n ?_
    refine ⟨_, _, _, ?_, ⟨i + 1, rfl, by omega, rfl, rfl⟩, by omega⟩
    exact turn [some 0] rfl rfl rfl ⟨⟨_, rfl, trc_flat bo_sc rfl⟩, trivial⟩ ⟨tr_pt rfl, tr_i (by rw [phN_f hg]), tr_v, trivial⟩
  · skip
    refine w_seq ?_
    refine w_seq ?_
    refine w_reg rfl ?_
    refine v_move rfl ?_
    refine v_lss lay3 rfl rfl (fun h2 => ?_) (fun h2 => ?_)
    rotate_left
    · refine v_nil ?_
      refine q_n ?_
      refine w_f rfl ?_
      refine w_exit ?_
      refine q_e ?_
      refine q_e ?_
      refine q_hit ?_
      refine q_n ?_
      refine w_seq ?_
      refine w_reg rfl ?_
      refine v_move rfl ?_
      refine v_assign rfl ?_
      refine v_nil ?_
      refine q_n ?_
      refine w_ret ?_
      refine r_r rfl ?_
      obtain rfl : i = 8 := by omega
      exact a_i rfl
    have hi1 : i < 8 := by omega
    have ht := two8 hi1
    have hp := phN_lt g i
    refine v_nil ?_
    refine q_n ?_
    refine w_t rfl ?_
    refine w_skip ?_
    refine q_n ?_
    refine w_seq ?_
    refine w_block ?_
    refine w_seq ?_
    refine w_reg rfl ?_
    refine v_move rfl ?_
    refine v_idx_arr_e (k := 1) (i) lay140 lay4 rfl rfl rfl (rfl) (hi1) ?_
    refine v_load_flat_e (enc := bo) (ys := pl g) i 0 (.c (.v (.bool true))) bo_len lay4 rfl rfl (by omega) hi1 (by decide) (gN_ld hi1 hg _) ?_
    refine v_nil ?_
    refine q_n ?_
    refine w_t rfl ?_
    refine w_reg rfl ?_
    refine v_move rfl ?_
    refine v_move rfl ?_
    refine v_conv_ii lay3 lay201 rfl (by show (0 : Int) ≤ _ ∧ _ ≤ (18446744073709551615 : Int); omega) ?_
    refine v_bin (c := .v (.int .i64 ((2 ^ i : Nat) : Int))) lay2 rfl rfl (shl_c hi1) ?_
    refine v_add lay2 rfl rfl (i64r (by omega)) ?_
    refine v_assign rfl ?_
    refine v_nil ?_
    refine q_bn ?_
    refine q_n ?_
    refine w_reg rfl ?_
    refine v_move rfl ?_
    refine v_add lay3 rfl rfl (i64r (by omega)) ?_
    refine v_assign rfl ?_
    refine v_nil ?_
    refine q_n ?_
    refine ⟨_, _, _, ?_, ⟨i + 1, rfl, by omega, rfl, rfl⟩, by omega⟩
    exact turn [some 0] rfl rfl rfl ⟨⟨_, rfl, trc_flat bo_sc rfl⟩, trivial⟩ ⟨tr_pt rfl, tr_i (by rw [phN_t hg]; rfl), tr_v, trivial⟩

theorem cNphI (g : Ph) : PureC X 83 [.agg (phc g)] (cI (nph g)) := by
  refine PureC.of_body (drawD_ok X) (fun _ _ => Go.Proofs.Tryz.call83 _ _) Go.Proofs.Tryz.func83 rfl (n := 18) rfl ?_
  refine w_seq ?_
  refine w_reg rfl ?_
  refine v_box (m := 0) (H' := [_]) lay140 rfl rfl rfl ?_
  refine v_assign (c := .v (.int .i64 0)) rfl ?_
  refine v_nil ?_
  refine q_n ?_
  refine w_seq ?_
  refine w_reg rfl ?_
  refine v_assign (c := .v (.int .i64 0)) rfl ?_
  refine v_nil ?_
  refine q_n ?_
  refine w_seq ?_
  refine w_seq ?_
  refine w_reg rfl ?_
  refine v_load_pt (.agg [_, _, _, _, _, _, _, _]) lay140 rfl rfl rfl rfl ?_
  refine v_move (c := .v (.int .i64 0)) rfl ?_
  refine v_nil ?_
  refine q_n ?_
  refine w_block ?_
  refine w_loop (fun k sl H => ∃ i : Nat, k = 8 - i ∧ i ≤ 8 ∧ sl = sls [(1, .c (.pt 0 0)), (3, cI (phN g i : Nat)), (6, .agg (phc g)), (7, cI i)] ∧ H = [⟨flat bo (pl g), 140, true⟩]) ?_ ?_
  · refine ⟨_, _, _, ?_, 0, rfl, Nat.zero_le _, rfl, rfl⟩
    exact turn [some 0] rfl rfl rfl ⟨⟨_, rfl, trc_flat bo_sc rfl⟩, trivial⟩ ⟨tr_pt rfl, tr_v, tr_agg (.cons tr_v (.cons tr_v (.cons tr_v (.cons tr_v (.cons tr_v (.cons tr_v (.cons tr_v (.cons tr_v .nil)))))))), tr_v, trivial⟩
  rintro k sl H ⟨i, rfl, hi, rfl, rfl⟩
  rcases hg : gN g i with _ | _
  · skip
    refine w_seq ?_
    refine w_reg rfl ?_
    refine v_lss lay3 rfl rfl (fun h1 => ?_) (fun h1 => ?_)
    rotate_left
    · refine v_nil ?_
      refine q_n ?_
      refine w_seq ?_
      refine w_f rfl ?_
      refine w_exit ?_
      refine q_e ?_
      refine q_e ?_
      refine q_hit ?_
      refine q_n ?_
      refine w_seq ?_
      refine w_reg rfl ?_
      refine v_move rfl ?_
      refine v_assign rfl ?_
      refine v_nil ?_
      refine q_n ?_
      refine w_ret ?_
      refine r_r rfl ?_
      obtain rfl : i = 8 := by omega
      exact a_i rfl
    have hi1 : i < 8 := by omega
    have ht := two8 hi1
    have hp := phN_lt g i
    refine v_nil ?_
    refine q_n ?_
    refine w_seq ?_
    refine w_t rfl ?_
    refine w_skip ?_
    refine q_n ?_
    refine w_seq ?_
    refine w_block ?_
    refine w_seq ?_
    refine w_reg rfl ?_
    refine v_move rfl ?_
    refine v_index_e i (.c (.v (.bool false))) lay140 lay4 rfl rfl rfl hi1 (by show i * 1 + 1 ≤ 8; omega) (gN_x hi1 hg) ?_
    refine v_assign rfl ?_
    refine v_assign rfl ?_
    refine v_nil ?_
    refine q_n ?_
    refine w_seq ?_
    refine w_reg rfl ?_
    refine v_move rfl ?_
    refine v_nil ?_
    refine q_n ?_
    refine w_f rfl ?_
    refine w_skip ?_
    refine q_bn ?_
    refine q_n ?_
    refine w_reg rfl ?_
    refine v_add lay3 rfl rfl (i64r (by omega)) ?_
    refine v_move rfl ?_
    refine v_nil ?_
    refine q_n ?_
    refine ⟨_, _, _, ?_, ⟨i + 1, rfl, by omega, rfl, rfl⟩, by omega⟩
    exact turn [some 0] rfl rfl rfl ⟨⟨_, rfl, trc_flat bo_sc rfl⟩, trivial⟩ ⟨tr_pt rfl, tr_i (by rw [phN_f hg]), tr_agg (.cons tr_v (.cons tr_v (.cons tr_v (.cons tr_v (.cons tr_v (.cons tr_v (.cons tr_v (.cons tr_v .nil)))))))), tr_v, trivial⟩
  · skip
    refine w_seq ?_
    refine w_reg rfl ?_
    refine v_lss lay3 rfl rfl (fun h2 => ?_) (fun h2 => ?_)
    rotate_left
    · refine v_nil ?_
      refine q_n ?_
      refine w_seq ?_
      refine w_f rfl ?_
      refine w_exit ?_
      refine q_e ?_
      refine q_e ?_
      refine q_hit ?_
      refine q_n ?_
      refine w_seq ?_
      refine w_reg rfl ?_
      refine v_move rfl ?_
      refine v_assign rfl ?_
      refine v_nil ?_
      refine q_n ?_
      refine w_ret ?_
      refine r_r rfl ?_
      obtain rfl : i = 8 := by omega
      exact a_i rfl
    have hi1 : i < 8 := by omega
    have ht := two8 hi1
    have hp := phN_lt g i
    refine v_nil ?_
    refine q_n ?_
    refine w_seq ?_
    refine w_t rfl ?_
    refine w_skip ?_
    refine q_n ?_
    refine w_seq ?_
    refine w_block ?_
    refine w_seq ?_
    refine w_reg rfl ?_
    refine v_move rfl ?_
    refine v_index_e i (.c (.v (.bool true))) lay140 lay4 rfl rfl rfl hi1 (by show i * 1 + 1 ≤ 8; omega) (gN_x hi1 hg) ?_
    refine v_assign rfl ?_
    refine v_assign rfl ?_
    refine v_nil ?_
    refine q_n ?_
    refine w_seq ?_
    refine w_reg rfl ?_
    refine v_move rfl ?_
    refine v_nil ?_
    refine q_n ?_
    refine w_t rfl ?_
    refine w_reg rfl ?_
    refine v_move rfl ?_
    refine v_move rfl ?_
    refine v_bin (c := .v (.int .i64 ((2 ^ i : Nat) : Int))) lay2 rfl rfl (shl_c hi1) ?_
    refine v_bin (c := .v (.int .i64 ((phN g i + 2 ^ i : Nat) : Int))) lay2 rfl rfl (congrArg (fun z => some (C.v (.int .i64 z))) (or_c hi1)) ?_
    refine v_assign rfl ?_
    refine v_nil ?_
    refine q_bn ?_
    refine q_n ?_
    refine w_reg rfl ?_
    refine v_add lay3 rfl rfl (i64r (by omega)) ?_
    refine v_move rfl ?_
    refine v_nil ?_
    refine q_n ?_
    refine ⟨_, _, _, ?_, ⟨i + 1, rfl, by omega, rfl, rfl⟩, by omega⟩
    exact turn [some 0] rfl rfl rfl ⟨⟨_, rfl, trc_flat bo_sc rfl⟩, trivial⟩ ⟨tr_pt rfl, tr_i (by rw [phN_t hg]), tr_agg (.cons tr_v (.cons tr_v (.cons tr_v (.cons tr_v (.cons tr_v (.cons tr_v (.cons tr_v (.cons tr_v .nil)))))))), tr_v, trivial⟩

theorem cPlTS (xs : List Slo) (b f : Int) (ho : okP xs b f) : PureC X 62 [.c (.vw false (pln true xs b f) 0)] (cS (pTx xs b f)) := by
  refine PureC.of_body (drawD_ok X) (fun _ _ => Go.Proofs.Tryz.call62 _ _) Go.Proofs.Tryz.func62 rfl (n := 52) rfl ?_
  obtain ⟨hb, hf, hl⟩ := okP_bf ho
  have lb := itoa_len (a := b) (by omega)
  have lf := itoa_len (a := f) (by omega)
  refine w_seq ?_
  refine w_reg rfl ?_
  refine v_assign (c := .v _) rfl ?_
  refine v_nil ?_
  refine q_n ?_
  refine w_seq ?_
  refine w_draw [0, 1, 3, 7, 15, 31, 63, 0, 128, 384, 896, 1951, 4095, 8191] [⟨0, 0, []⟩, ⟨1, 0, []⟩, ⟨2, 0, []⟩, ⟨3, 0, []⟩, ⟨4, 0, []⟩, ⟨5, 0, []⟩, ⟨6, 0, []⟩, ⟨7, 0, []⟩, ⟨8, 0, []⟩, ⟨9, 0, []⟩, ⟨10, 0, []⟩, ⟨11, 0, []⟩, ⟨12, 0, []⟩, ⟨13, 0, []⟩] rfl rfl ?_
  refine d_q rfl rfl rfl rfl rfl ?_
  refine v_move rfl ?_
  refine v_nil ?_
  refine d_q rfl rfl rfl rfl rfl ?_
  refine v_nil_vw rfl ?_
  refine v_nil ?_
  refine d_q rfl rfl rfl rfl rfl ?_
  refine v_fa_vw (off' := 1) lay65 rfl rfl rfl ?_
  refine v_nil ?_
  refine d_q rfl rfl rfl rfl rfl ?_
  refine v_load_vw (.c (.v _)) lay2 rfl rfl rfl ?_
  refine v_nil ?_
  refine d_call (cDecI _ (by omega)) rfl rfl rfl rfl rfl (.cons vw_v .nil) ?_
  refine d_q rfl rfl rfl rfl rfl ?_
  refine v_sadd lay9 rfl rfl (by unfold maxLen; first | omega | (simp only [List.length_append, List.length_cons, List.length_nil]; omega)) ?_
  refine v_nil ?_
  refine d_q rfl rfl rfl rfl rfl ?_
  refine v_sadd lay9 rfl rfl (by unfold maxLen; first | omega | (simp only [List.length_append, List.length_cons, List.length_nil]; omega)) ?_
  refine v_nil ?_
  refine d_q rfl rfl rfl rfl rfl ?_
  refine v_move rfl ?_
  refine v_nil ?_
  refine d_q rfl rfl rfl rfl rfl ?_
  refine v_nil_vw rfl ?_
  refine v_nil ?_
  refine d_q rfl rfl rfl rfl rfl ?_
  refine v_fa_vw (off' := 2) lay65 rfl rfl rfl ?_
  refine v_nil ?_
  refine d_q rfl rfl rfl rfl rfl ?_
  refine v_load_vw (.c (.v _)) lay2 rfl rfl rfl ?_
  refine v_nil ?_
  refine d_call (cDecI _ (by omega)) rfl rfl rfl rfl rfl (.cons vw_v .nil) ?_
  refine d_q rfl rfl rfl rfl rfl ?_
  refine v_sadd lay9 rfl rfl (by unfold maxLen; first | omega | (simp only [List.length_append, List.length_cons, List.length_nil]; omega)) ?_
  refine v_nil ?_
  refine d_q rfl rfl rfl rfl rfl ?_
  refine v_assign rfl ?_
  refine v_nil ?_
  refine d_nil ?_
  refine q_n ?_
  refine w_seq ?_
  refine w_seq ?_
  refine w_reg rfl ?_
  refine v_assign (c := .v (.int .i64 0)) rfl ?_
  refine v_nil ?_
  refine q_n ?_
  refine w_block ?_
  refine w_loop (fun k sl H => ∃ i : Nat, k = xs.length - i ∧ i ≤ xs.length ∧ sl = sls [(0, .c (.vw false (pln true xs b f) 0)), (3, cS (jw (pws xs b f i))), (4, cI i)] ∧ H = []) ?_ ?_
  · refine ⟨_, _, _, ?_, 0, rfl, Nat.zero_le _, rfl, rfl⟩
    exact turn0 ⟨tr_vw, tr_s (pTx_s xs b f), tr_v, trivial⟩
  rintro k sl H ⟨i, rfl, hi, rfl, rfl⟩
  refine w_seq ?_
  refine w_seq ?_
  refine w_reg rfl ?_
  refine v_move rfl ?_
  refine v_move rfl ?_
  refine v_nil_vw rfl ?_
  refine v_fa_vw (off' := 0) lay65 rfl rfl rfl ?_
  refine v_load_vw (.c (_)) lay63 rfl rfl rfl ?_
  refine v_len_sl lay63 rfl ?_
  refine v_lss lay3 rfl rfl (fun h1 => ?_) (fun h1 => ?_)
  rotate_left
  · refine v_nil ?_
    refine q_n ?_
    refine w_f rfl ?_
    refine w_exit ?_
    refine q_e ?_
    refine q_e ?_
    refine q_hit ?_
    refine q_n ?_
    refine w_seq ?_
    refine w_reg rfl ?_
    refine v_move rfl ?_
    refine v_assign rfl ?_
    refine v_nil ?_
    refine q_n ?_
    refine w_ret ?_
    refine r_r rfl ?_
    obtain rfl : i = xs.length := by omega
    exact a_s rfl
  have hi1 : i < xs.length := by omega
  have hn := nph_rng xs[i].1
  have ht := okP_tk ho hi1
  have ln := itoa_len (a := nph xs[i].1) (by omega)
  have lt := itoa_len (a := xs[i].2) (by omega)
  have lp := pws_l ho hi
  have lq := pws_n (xs := xs) (b := b) (f := f) i
  refine v_nil ?_
  refine q_n ?_
  refine w_t rfl ?_
  refine w_skip ?_
  refine q_n ?_
  refine w_seq ?_
  refine w_block ?_
  refine w_draw [0, 0, 2, 6, 14, 0, 62, 126, 254, 510, 1022, 2046, 4094, 0, 8192, 24576, 57344, 0, 253952, 516096, 1040384, 2091006, 4194302, 8388607, 16777215] [⟨0, 0, []⟩, ⟨1, 0, []⟩, ⟨2, 0, []⟩, ⟨3, 0, []⟩, ⟨4, 0, []⟩, ⟨5, 0, []⟩, ⟨6, 0, []⟩, ⟨7, 0, []⟩, ⟨8, 0, []⟩, ⟨9, 0, []⟩, ⟨10, 0, []⟩, ⟨11, 0, []⟩, ⟨12, 0, []⟩, ⟨13, 0, []⟩, ⟨14, 0, []⟩, ⟨15, 0, []⟩, ⟨16, 0, []⟩, ⟨17, 0, []⟩, ⟨18, 0, []⟩, ⟨19, 0, []⟩, ⟨20, 0, []⟩, ⟨21, 0, []⟩, ⟨22, 0, []⟩, ⟨23, 0, []⟩, ⟨24, 0, []⟩] rfl rfl ?_
  refine d_q rfl rfl rfl rfl rfl ?_
  refine v_move rfl ?_
  refine v_nil ?_
  refine d_q rfl rfl rfl rfl rfl ?_
  refine v_move rfl ?_
  refine v_nil ?_
  refine d_q rfl rfl rfl rfl rfl ?_
  refine v_nil_vw rfl ?_
  refine v_nil ?_
  refine d_q rfl rfl rfl rfl rfl ?_
  refine v_fa_vw (off' := 0) lay65 rfl rfl rfl ?_
  refine v_nil ?_
  refine d_q rfl rfl rfl rfl rfl ?_
  refine v_load_vw (.c (_)) lay63 rfl rfl rfl ?_
  refine v_nil ?_
  refine d_q rfl rfl rfl rfl rfl ?_
  refine v_move rfl ?_
  refine v_nil ?_
  refine d_q rfl rfl rfl rfl rfl ?_
  have hq2 : i < _ := hi1
  refine v_idx_n (k := 9) i stc_len lay63 lay142 rfl rfl rfl (rfl) rfl hq2 ?_
  refine v_nil ?_
  refine d_q rfl rfl rfl rfl rfl ?_
  refine v_fa_vw (off' := 0) lay142 rfl rfl rfl ?_
  refine v_nil ?_
  refine d_q rfl rfl rfl rfl rfl ?_
  refine v_load_vw (.agg [.v _, .v _, .v _, .v _, .v _, .v _, .v _, .v _]) lay140 rfl rfl rfl ?_
  refine v_nil ?_
  refine d_call (cNphS xs[i].1) rfl rfl rfl rfl rfl (.cons (vw_agg (.cons vw_v (.cons vw_v (.cons vw_v (.cons vw_v (.cons vw_v (.cons vw_v (.cons vw_v (.cons vw_v .nil))))))))) .nil) ?_
  refine d_call (cDecI _ (by omega)) rfl rfl rfl rfl rfl (.cons vw_v .nil) ?_
  refine d_q rfl rfl rfl rfl rfl ?_
  refine v_sadd lay9 rfl rfl (by unfold maxLen; first | omega | (simp only [List.length_append, List.length_cons, List.length_nil]; omega)) ?_
  refine v_nil ?_
  refine d_q rfl rfl rfl rfl rfl ?_
  refine v_sadd lay9 rfl rfl (by unfold maxLen; first | omega | (simp only [List.length_append, List.length_cons, List.length_nil]; omega)) ?_
  refine v_nil ?_
  refine d_q rfl rfl rfl rfl rfl ?_
  refine v_move rfl ?_
  refine v_nil ?_
  refine d_q rfl rfl rfl rfl rfl ?_
  refine v_nil_vw rfl ?_
  refine v_nil ?_
  refine d_q rfl rfl rfl rfl rfl ?_
  refine v_fa_vw (off' := 0) lay65 rfl rfl rfl ?_
  refine v_nil ?_
  refine d_q rfl rfl rfl rfl rfl ?_
  refine v_load_vw (.c (_)) lay63 rfl rfl rfl ?_
  refine v_nil ?_
  refine d_q rfl rfl rfl rfl rfl ?_
  refine v_move rfl ?_
  refine v_nil ?_
  refine d_q rfl rfl rfl rfl rfl ?_
  have hq3 : i < _ := hi1
  refine v_idx_n (k := 9) i stc_len lay63 lay142 rfl rfl rfl (rfl) rfl hq3 ?_
  refine v_nil ?_
  refine d_q rfl rfl rfl rfl rfl ?_
  refine v_fa_vw (off' := 8) lay142 rfl rfl rfl ?_
  refine v_nil ?_
  refine d_q rfl rfl rfl rfl rfl ?_
  refine v_load_vw (.c (.v _)) lay2 rfl rfl rfl ?_
  refine v_nil ?_
  refine d_call (cDecI _ (by omega)) rfl rfl rfl rfl rfl (.cons vw_v .nil) ?_
  refine d_q rfl rfl rfl rfl rfl ?_
  refine v_sadd lay9 rfl rfl (by unfold maxLen; first | omega | (simp only [List.length_append, List.length_cons, List.length_nil]; omega)) ?_
  refine v_nil ?_
  refine d_q rfl rfl rfl rfl rfl ?_
  refine v_sadd lay9 rfl rfl (by unfold maxLen; first | omega | (simp only [List.length_append, List.length_cons, List.length_nil]; omega)) ?_
  refine v_nil ?_
  refine d_q rfl rfl rfl rfl rfl ?_
  refine v_assign rfl ?_
  refine v_nil ?_
  refine d_nil ?_
  refine q_bn ?_
  refine q_n ?_
  refine w_reg rfl ?_
  refine v_move rfl ?_
  refine v_add lay3 rfl rfl (i64r (by omega)) ?_
  refine v_assign rfl ?_
  refine v_nil ?_
  refine q_n ?_
  refine ⟨_, _, _, ?_, ⟨i + 1, rfl, by omega, rfl, rfl⟩, by omega⟩
  exact turn0 ⟨tr_vw, tr_s (by rw [← pws_s hi1, jw_two pws_ne]), tr_v, trivial⟩

theorem cPlTI (xs : List Slo) (b f : Int) (ho : okP xs b f) : PureC X 28 [.agg (pln false xs b f)] (cS (pTx xs b f)) := by
  refine PureC.of_body (drawD_ok X) (fun _ _ => Go.Proofs.Tryz.call28 _ _) Go.Proofs.Tryz.func28 rfl (n := 36) rfl ?_
  obtain ⟨hb, hf, hl⟩ := okP_bf ho
  have lb := itoa_len (a := b) (by omega)
  have lf := itoa_len (a := f) (by omega)
  refine w_seq ?_
  refine w_reg rfl ?_
  refine v_box (m := 0) (H' := [_]) lay65 rfl rfl rfl ?_
  refine v_assign (c := .v _) rfl ?_
  refine v_nil ?_
  refine q_n ?_
  refine w_seq ?_
  refine w_seq ?_
  refine w_reg rfl ?_
  refine v_load_pt (.agg [_, _, _]) lay65 rfl rfl rfl rfl ?_
  refine v_callb (cPlI _ _ _ (by omega)) rfl rfl (.cons (vw_agg (.cons vw_sl (.cons vw_v (.cons vw_v .nil)))) .nil) (fun h1 => ?_) (fun h1 => ?_)
  rotate_left
  · exact absurd ho h1
  refine v_not false rfl rfl ?_
  refine v_nil ?_
  refine q_n ?_
  refine w_f rfl ?_
  refine w_skip ?_
  refine q_n ?_
  refine w_seq ?_
  refine w_draw [0, 1, 3, 0, 8, 31, 63, 127] [⟨0, 0, []⟩, ⟨1, 0, []⟩, ⟨2, 0, []⟩, ⟨3, 0, []⟩, ⟨4, 0, []⟩, ⟨5, 0, []⟩, ⟨6, 1, []⟩, ⟨7, 0, []⟩] rfl rfl ?_
  refine d_q rfl rfl rfl rfl rfl ?_
  refine v_fa_pt (off' := 1) lay65 rfl rfl rfl ?_
  refine v_nil ?_
  refine d_q rfl rfl rfl rfl rfl ?_
  refine v_load_pt (.c _) lay2 rfl rfl rfl rfl ?_
  refine v_nil ?_
  refine d_call (cDeci _ (by omega)) rfl rfl rfl rfl rfl (.cons vw_v .nil) ?_
  refine d_q rfl rfl rfl rfl rfl ?_
  refine v_fa_pt (off' := 2) lay65 rfl rfl rfl ?_
  refine v_nil ?_
  refine d_q rfl rfl rfl rfl rfl ?_
  refine v_load_pt (.c _) lay2 rfl rfl rfl rfl ?_
  refine v_nil ?_
  refine d_call (cDeci _ (by omega)) rfl rfl rfl rfl rfl (.cons vw_v .nil) ?_
  refine d_e rfl rfl rfl ?_
  refine v_lit (flat st [_, _, _]) (H' := [_, _]) lay57 lay9 rfl rfl ⟨by decide, by decide⟩ rfl rfl ?_
  refine v_nil ⟨again_nil, ?_⟩
  refine d_q rfl rfl rfl rfl rfl ?_
  refine v_assign rfl ?_
  refine v_nil ?_
  refine d_nil ?_
  refine q_n ?_
  refine w_seq ?_
  refine w_seq ?_
  refine w_reg rfl ?_
  refine v_fa_pt (off' := 0) lay65 rfl rfl rfl ?_
  refine v_load_pt (.c _) lay63 rfl rfl rfl rfl ?_
  refine v_len_sl lay63 rfl ?_
  refine v_move (c := .v (.int .i64 0)) rfl ?_
  refine v_nil ?_
  refine q_n ?_
  refine w_block ?_
  refine w_loop (fun k sl H => ∃ i : Nat, k = xs.length - i ∧ i ≤ xs.length ∧ sl = sls [(1, .c (.pt 0 0)), (3, .c (.mu 1 0 (pws xs b f i).length 1)), (17, .c (sts false xs)), (18, cI xs.length), (19, cI i)] ∧ H = [⟨pln false xs b f, 65, true⟩, ⟨flat st (pws xs b f i), 9, true⟩]) ?_ ?_
  · refine ⟨_, _, _, ?_, 0, rfl, Nat.zero_le _, rfl, rfl⟩
    exact turn [some 0, some 1] rfl rfl rfl ⟨⟨_, rfl, .cons tr_sl (.cons tr_v (.cons tr_v .nil))⟩, ⟨_, rfl, trc_flat st_sc (rfl)⟩, trivial⟩ ⟨tr_pt rfl, tr_mun rfl rfl, tr_sl, tr_v, tr_v, trivial⟩
  rintro k sl H ⟨i, rfl, hi, rfl, rfl⟩
  refine w_seq ?_
  refine w_reg rfl ?_
  refine v_lss lay3 rfl rfl (fun h2 => ?_) (fun h2 => ?_)
  rotate_left
  · obtain rfl : i = xs.length := by omega
    have hq := pws_n (xs := xs) (b := b) (f := f) xs.length
    have hj0 : pws xs b f xs.length ≠ [] := pws_ne
    have hj1 : (pws xs b f xs.length).length ≤ 1048576 := by omega
    have hj2 : (Lib.join (pws xs b f xs.length) [32]).length ≤ 1099511627776 := Nat.le_trans (pws_l ho (Nat.le_refl _)) (by decide)
    refine v_nil ?_
    refine q_n ?_
    refine w_seq ?_
    refine w_f rfl ?_
    refine w_exit ?_
    refine q_e ?_
    refine q_e ?_
    refine q_hit ?_
    refine q_n ?_
    refine w_seq ?_
    refine w_reg rfl ?_
    refine v_move rfl ?_
    refine v_call (cJoin (pws xs b f xs.length) [32] hj0 hj1 hj2) rfl rfl rfl (.cons (vw_mu2 st_sc st_len rfl (rfl)) (.cons vw_v .nil)) ?_
    refine v_assign rfl ?_
    refine v_nil ?_
    refine q_n ?_
    refine w_ret ?_
    refine r_r rfl ?_
    exact a_s rfl
  have hi1 : i < xs.length := by omega
  have hn := nph_rng xs[i].1
  have ht := okP_tk ho hi1
  have ln := itoa_len (a := nph xs[i].1) (by omega)
  have lt := itoa_len (a := xs[i].2) (by omega)
  have lp := pws_l ho hi
  have lq := pws_n (xs := xs) (b := b) (f := f) i
  refine v_nil ?_
  refine q_n ?_
  refine w_seq ?_
  refine w_t rfl ?_
  refine w_skip ?_
  refine q_n ?_
  refine w_seq ?_
  refine w_block ?_
  refine w_seq ?_
  refine w_reg rfl ?_
  have hq3 : i < _ := hi1
  refine v_idx_n (k := 9) i stc_len lay63 lay142 rfl rfl rfl (rfl) rfl hq3 ?_
  refine v_load_vw (.agg [.v _, .v _, .v _, .v _, .v _, .v _, .v _, .v _, .v _]) lay142 rfl rfl rfl ?_
  refine v_alloc (m := 2) (H' := [_, _, ⟨[.v _, .v _, .v _, .v _, .v _, .v _, .v _, .v _, .v _], 142, true⟩]) lay142 rfl rfl ?_
  refine v_store (H' := [_, _, ⟨[_, _, _, _, _, _, _, _, _], 142, true⟩]) lay142 rfl rfl rfl rfl rfl rfl ?_
  refine v_nil ?_
  refine q_n ?_
  refine w_draw [0, 0, 2, 6, 14, 0, 32, 126, 254, 511, 1023] [⟨0, 0, []⟩, ⟨1, 0, []⟩, ⟨2, 0, []⟩, ⟨3, 0, []⟩, ⟨4, 0, []⟩, ⟨5, 0, []⟩, ⟨6, 0, []⟩, ⟨7, 0, []⟩, ⟨8, 1, []⟩, ⟨9, 1, []⟩, ⟨10, 0, []⟩] rfl rfl ?_
  refine d_q rfl rfl rfl rfl rfl ?_
  refine v_move rfl ?_
  refine v_nil ?_
  refine d_q rfl rfl rfl rfl rfl ?_
  refine v_fa_pt (off' := 0) lay142 rfl rfl rfl ?_
  refine v_nil ?_
  refine d_q rfl rfl rfl rfl rfl ?_
  refine v_load_pt (.agg [_, _, _, _, _, _, _, _]) lay140 rfl rfl rfl rfl ?_
  refine v_nil ?_
  refine d_call (cNphI xs[i].1) rfl rfl rfl rfl rfl (.cons (vw_agg (.cons vw_v (.cons vw_v (.cons vw_v (.cons vw_v (.cons vw_v (.cons vw_v (.cons vw_v (.cons vw_v .nil))))))))) .nil) ?_
  refine d_call (cDeci _ (by omega)) rfl rfl rfl rfl rfl (.cons vw_v .nil) ?_
  refine d_q rfl rfl rfl rfl rfl ?_
  refine v_fa_pt (off' := 8) lay142 rfl rfl rfl ?_
  refine v_nil ?_
  refine d_q rfl rfl rfl rfl rfl ?_
  refine v_load_pt (.c _) lay2 rfl rfl rfl rfl ?_
  refine v_nil ?_
  refine d_call (cDeci _ (by omega)) rfl rfl rfl rfl rfl (.cons vw_v .nil) ?_
  refine d_e rfl rfl rfl ?_
  refine v_lit (flat st [_, _]) (H' := [_, _, _, _]) lay57 lay9 rfl rfl ⟨by decide, by decide⟩ rfl rfl ?_
  refine v_nil ⟨again_nil, ?_⟩
  refine d_e rfl rfl rfl ?_
  refine v_app_flat (H' := [_, _, _, _, _]) st_sc st_len lay57 lay9 rfl rfl (by first | rfl | (simp; done)) rfl rfl (by first | rfl | (simp; done)) rfl rfl (by unfold maxLen; simp only []; omega) rfl rfl ?_
  refine v_nil ⟨again_nil, ?_⟩
  refine d_q rfl rfl rfl rfl rfl ?_
  refine v_assign rfl ?_
  refine v_nil ?_
  refine d_nil ?_
  refine q_bn ?_
  refine q_n ?_
  refine w_reg rfl ?_
  refine v_add lay3 rfl rfl (i64r (by omega)) ?_
  refine v_move rfl ?_
  refine v_nil ?_
  refine q_n ?_
  refine ⟨_, _, _, ?_, ⟨i + 1, rfl, by omega, rfl, rfl⟩, by omega⟩
  exact turn [some 0, some 4] rfl rfl rfl ⟨⟨_, rfl, .cons tr_sl (.cons tr_v (.cons tr_v .nil))⟩, ⟨_, rfl, trc_flat st_sc (congrArg (flat st) (pws_s hi1))⟩, trivial⟩ ⟨tr_pt rfl, tr_mun rfl (by rw [← pws_s hi1, List.length_append]; rfl), tr_sl, tr_v, tr_v, trivial⟩

theorem cJnTS (j : Jn) (ra : List C) (hj : jW j) (ho : jnOk j) : PureC X 64 [.c (.vw false (jnc j ++ ra) 0)] (cS (jTx j)) := by
  refine PureC.of_body (drawD_ok X) (fun _ _ => Go.Proofs.Tryz.call64 _ _) Go.Proofs.Tryz.func64 rfl (n := 67) rfl ?_
  obtain ⟨ho1, ho2, -⟩ := id ho
  have l1 := itoa_len (a := j.1) (by omega)
  have l2 := itoa_len (a := j.2.1) (by omega)
  refine w_seq ?_
  refine w_reg rfl ?_
  refine v_assign (c := .v _) rfl ?_
  refine v_nil ?_
  refine q_n ?_
  refine w_seq ?_
  refine w_draw [0, 1, 3, 7, 15, 31, 63, 0, 128, 384, 896, 1951, 4095, 8191] [⟨0, 0, []⟩, ⟨1, 0, []⟩, ⟨2, 0, []⟩, ⟨3, 0, []⟩, ⟨4, 0, []⟩, ⟨5, 0, []⟩, ⟨6, 0, []⟩, ⟨7, 0, []⟩, ⟨8, 0, []⟩, ⟨9, 0, []⟩, ⟨10, 0, []⟩, ⟨11, 0, []⟩, ⟨12, 0, []⟩, ⟨13, 0, []⟩] rfl rfl ?_
  refine d_q rfl rfl rfl rfl rfl ?_
  refine v_move rfl ?_
  refine v_nil ?_
  refine d_q rfl rfl rfl rfl rfl ?_
  refine v_nil_vw rfl ?_
  refine v_nil ?_
  refine d_q rfl rfl rfl rfl rfl ?_
  refine v_fa_vw (off' := 0) lay72 rfl rfl rfl ?_
  refine v_nil ?_
  refine d_q rfl rfl rfl rfl rfl ?_
  refine v_load_vw (.c (.v _)) lay2 rfl rfl rfl ?_
  refine v_nil ?_
  refine d_call (cDecI _ (by omega)) rfl rfl rfl rfl rfl (.cons vw_v .nil) ?_
  refine d_q rfl rfl rfl rfl rfl ?_
  refine v_sadd lay9 rfl rfl (by unfold maxLen; first | omega | (simp only [List.length_append, List.length_cons, List.length_nil]; omega)) ?_
  refine v_nil ?_
  refine d_q rfl rfl rfl rfl rfl ?_
  refine v_sadd lay9 rfl rfl (by unfold maxLen; first | omega | (simp only [List.length_append, List.length_cons, List.length_nil]; omega)) ?_
  refine v_nil ?_
  refine d_q rfl rfl rfl rfl rfl ?_
  refine v_move rfl ?_
  refine v_nil ?_
  refine d_q rfl rfl rfl rfl rfl ?_
  refine v_nil_vw rfl ?_
  refine v_nil ?_
  refine d_q rfl rfl rfl rfl rfl ?_
  refine v_fa_vw (off' := 1) lay72 rfl rfl rfl ?_
  refine v_nil ?_
  refine d_q rfl rfl rfl rfl rfl ?_
  refine v_load_vw (.c (.v _)) lay2 rfl rfl rfl ?_
  refine v_nil ?_
  refine d_call (cDecI _ (by omega)) rfl rfl rfl rfl rfl (.cons vw_v .nil) ?_
  refine d_q rfl rfl rfl rfl rfl ?_
  refine v_sadd lay9 rfl rfl (by unfold maxLen; first | omega | (simp only [List.length_append, List.length_cons, List.length_nil]; omega)) ?_
  refine v_nil ?_
  refine d_q rfl rfl rfl rfl rfl ?_
  refine v_assign rfl ?_
  refine v_nil ?_
  refine d_nil ?_
  refine q_n ?_
  refine w_seq ?_
  refine w_seq ?_
  refine w_reg rfl ?_
  refine v_assign (c := .v (.int .i64 0)) rfl ?_
  refine v_nil ?_
  refine q_n ?_
  refine w_block ?_
  refine w_loop (fun k sl H => ∃ i : Nat, k = j.1.toNat - i ∧ i ≤ j.1.toNat ∧ sl = sls [(0, .c (.vw false (jnc j ++ ra) 0)), (3, cS (jw (jws j i 0 0))), (4, cI i)] ∧ H = []) ?_ ?_
  · refine ⟨_, _, _, ?_, 0, rfl, Nat.zero_le _, rfl, rfl⟩
    exact turn0 ⟨tr_vw, tr_s (jTx_s j), tr_v, trivial⟩
  rintro k sl H ⟨i, rfl, hi, rfl, rfl⟩
  refine w_seq ?_
  refine w_seq ?_
  refine w_reg rfl ?_
  refine v_move rfl ?_
  refine v_move rfl ?_
  refine v_nil_vw rfl ?_
  refine v_fa_vw (off' := 0) lay72 rfl rfl rfl ?_
  refine v_load_vw (.c (.v _)) lay2 rfl rfl rfl ?_
  refine v_lss lay2 rfl rfl (fun h1 => ?_) (fun h1 => ?_)
  rotate_left
  · have hie : i = j.1.toNat := by omega
    refine v_nil ?_
    refine q_n ?_
    refine w_f rfl ?_
    refine w_exit ?_
    refine q_e ?_
    refine q_e ?_
    refine q_hit ?_
    refine q_n ?_
    refine w_seq ?_
    refine w_seq ?_
    refine w_reg rfl ?_
    refine v_assign (c := .v (.int .i64 0)) rfl ?_
    refine v_nil ?_
    refine q_n ?_
    refine w_block ?_
    refine w_loop (fun k sl H => ∃ p : Nat, k = j.1.toNat - p ∧ p ≤ j.1.toNat ∧ sl = sls [(0, .c (.vw false (jnc j ++ ra) 0)), (3, cS (jw (jws j j.1.toNat 0 p))), (6, cI p)] ∧ H = []) ?_ ?_
    · refine ⟨_, _, _, ?_, 0, rfl, Nat.zero_le _, rfl, rfl⟩
      exact turn0 ⟨tr_vw, tr_s (by rw [hie]), tr_v, trivial⟩
    rintro k sl H ⟨p, rfl, hp, rfl, rfl⟩
    refine w_seq ?_
    refine w_seq ?_
    refine w_reg rfl ?_
    refine v_move rfl ?_
    refine v_move rfl ?_
    refine v_nil_vw rfl ?_
    refine v_fa_vw (off' := 0) lay72 rfl rfl rfl ?_
    refine v_load_vw (.c (.v _)) lay2 rfl rfl rfl ?_
    refine v_lss lay2 rfl rfl (fun h3 => ?_) (fun h3 => ?_)
    rotate_left
    · refine v_nil ?_
      refine q_n ?_
      refine w_f rfl ?_
      refine w_exit ?_
      refine q_e ?_
      refine q_e ?_
      refine q_hit ?_
      refine q_n ?_
      refine w_seq ?_
      refine w_reg rfl ?_
      refine v_move rfl ?_
      refine v_assign rfl ?_
      refine v_nil ?_
      refine q_n ?_
      refine w_ret ?_
      refine r_r rfl ?_
      obtain rfl : p = j.1.toNat := by omega
      exact a_s rfl
    have hp1 : p < 4 := by omega
    have hx8 := hx_len (j.2.2.2 ⟨p, hp1⟩)
    have hjl := jws_l ho (i := j.1.toNat) (k := 0) (p := p) (by omega) (by omega) (by omega)
    have hjn := jws_n j j.1.toNat 0 p
    have hjm : j.1.toNat * j.2.1.toNat ≤ 4 * 4 := Nat.mul_le_mul (by omega) (by omega)
    refine v_nil ?_
    refine q_n ?_
    refine w_t rfl ?_
    refine w_skip ?_
    refine q_n ?_
    refine w_seq ?_
    refine w_block ?_
    refine w_reg rfl ?_
    refine v_move rfl ?_
    refine v_move rfl ?_
    refine v_move rfl ?_
    refine v_nil_vw rfl ?_
    refine v_fa_vw (off' := 18) lay72 rfl rfl rfl ?_
    refine v_idx_av_e (k := 1) (p) lay70 lay26 rfl rfl rfl (rfl) (hp1) ?_
    refine v_load_vw_e (.c (.f .f32 (j.2.2.2 ⟨p, hp1⟩))) lay26 rfl (by rw [jn_len8]; show 18 + p * 1 + 1 ≤ _; omega) (jp_ld8 j ra hp1) ?_
    refine v_call (cHxS _ (hj.2 p hp1)) rfl rfl rfl (.cons vw_f .nil) ?_
    refine v_sadd lay9 rfl rfl (by unfold maxLen; first | omega | (simp only [List.length_append, List.length_cons, List.length_nil]; omega)) ?_
    refine v_sadd lay9 rfl rfl (by unfold maxLen; first | omega | (simp only [List.length_append, List.length_cons, List.length_nil]; omega)) ?_
    refine v_assign rfl ?_
    refine v_nil ?_
    refine q_bn ?_
    refine q_n ?_
    refine w_reg rfl ?_
    refine v_move rfl ?_
    refine v_add lay2 rfl rfl (i64r (by omega)) ?_
    refine v_assign rfl ?_
    refine v_nil ?_
    refine q_n ?_
    refine ⟨_, _, _, ?_, ⟨p + 1, rfl, by omega, rfl, rfl⟩, by omega⟩
    exact turn0 ⟨tr_vw, tr_s (by rw [← jws_p j hp1, jw_one jws_ne]), tr_v, trivial⟩
  have hi1 : i < 4 := by omega
  have hil : i < j.1.toNat := by omega
  refine v_nil ?_
  refine q_n ?_
  refine w_t rfl ?_
  refine w_skip ?_
  refine q_n ?_
  refine w_seq ?_
  refine w_block ?_
  refine w_seq ?_
  refine w_reg rfl ?_
  refine v_assign (c := .v (.int .i64 0)) rfl ?_
  refine v_nil ?_
  refine q_n ?_
  refine w_block ?_
  refine w_loop (fun k sl H => ∃ n : Nat, k = j.2.1.toNat - n ∧ n ≤ j.2.1.toNat ∧ sl = sls [(0, .c (.vw false (jnc j ++ ra) 0)), (3, cS (jw (jws j i n 0))), (4, cI i), (5, cI n)] ∧ H = []) ?_ ?_
  · refine ⟨_, _, _, ?_, 0, rfl, Nat.zero_le _, rfl, rfl⟩
    exact turn0 ⟨tr_vw, tr_v, tr_v, tr_v, trivial⟩
  rintro k sl H ⟨n, rfl, hn, rfl, rfl⟩
  refine w_seq ?_
  refine w_seq ?_
  refine w_reg rfl ?_
  refine v_move rfl ?_
  refine v_move rfl ?_
  refine v_nil_vw rfl ?_
  refine v_fa_vw (off' := 1) lay72 rfl rfl rfl ?_
  refine v_load_vw (.c (.v _)) lay2 rfl rfl rfl ?_
  refine v_lss lay2 rfl rfl (fun h2 => ?_) (fun h2 => ?_)
  rotate_left
  · have hne : n = j.2.1.toNat := by omega
    refine v_nil ?_
    refine q_n ?_
    refine w_f rfl ?_
    refine w_exit ?_
    refine q_e ?_
    refine q_e ?_
    refine q_hit ?_
    refine q_bn ?_
    refine q_n ?_
    refine w_reg rfl ?_
    refine v_move rfl ?_
    refine v_add lay2 rfl rfl (i64r (by omega)) ?_
    refine v_assign rfl ?_
    refine v_nil ?_
    refine q_n ?_
    refine ⟨_, _, _, ?_, ⟨i + 1, rfl, by omega, rfl, rfl⟩, by omega⟩
    exact turn0 ⟨tr_vw, tr_s (by rw [← jws_i, hne]), tr_v, trivial⟩
  have hn1 : n < 4 := by omega
  have hx8 := hx_len (j.2.2.1 ⟨i, hi1⟩ ⟨n, hn1⟩)
  have hjl := jws_l ho (i := i) (k := n) (p := 0) (by omega) (by omega) (by omega)
  have hjn := jws_n j i n 0
  have hjm : i * j.2.1.toNat ≤ 4 * 4 := Nat.mul_le_mul (by omega) (by omega)
  refine v_nil ?_
  refine q_n ?_
  refine w_t rfl ?_
  refine w_skip ?_
  refine q_n ?_
  refine w_seq ?_
  refine w_block ?_
  refine w_reg rfl ?_
  refine v_move rfl ?_
  refine v_move rfl ?_
  refine v_move rfl ?_
  refine v_move rfl ?_
  refine v_nil_vw rfl ?_
  refine v_fa_vw (off' := 2) lay72 rfl rfl rfl ?_
  refine v_idx_av_e (k := 4) (i) lay69 lay67 rfl rfl rfl (rfl) (hi1) ?_
  refine v_idx_av_e (k := 1) (n) lay67 lay26 rfl rfl rfl (rfl) (hn1) ?_
  refine v_load_vw_e (.c (.f .f32 (j.2.2.1 ⟨i, hi1⟩ ⟨n, hn1⟩))) lay26 rfl (by rw [jn_len8]; show 2 + i * 4 + n * 1 + 1 ≤ _; omega) (jt_ld8 j ra hi1 hn1) ?_
  refine v_call (cHxS _ (hj.1 i hi1 n hn1)) rfl rfl rfl (.cons vw_f .nil) ?_
  refine v_sadd lay9 rfl rfl (by unfold maxLen; first | omega | (simp only [List.length_append, List.length_cons, List.length_nil]; omega)) ?_
  refine v_sadd lay9 rfl rfl (by unfold maxLen; first | omega | (simp only [List.length_append, List.length_cons, List.length_nil]; omega)) ?_
  refine v_assign rfl ?_
  refine v_nil ?_
  refine q_bn ?_
  refine q_n ?_
  refine w_reg rfl ?_
  refine v_move rfl ?_
  refine v_add lay2 rfl rfl (i64r (by omega)) ?_
  refine v_assign rfl ?_
  refine v_nil ?_
  refine q_n ?_
  refine ⟨_, _, _, ?_, ⟨n + 1, rfl, by omega, rfl, rfl⟩, by omega⟩
  exact turn0 ⟨tr_vw, tr_s (by rw [← jws_k j hi1 hn1, jw_one jws_ne]), tr_v, tr_v, trivial⟩

theorem cJnTI (j : Jn) (hj : jW j) (ho : jnOk j) : PureC X 85 [.agg (jnc j)] (cS (jTx j)) := by
  refine PureC.of_body (drawD_ok X) (fun _ _ => Go.Proofs.Tryz.call85 _ _) Go.Proofs.Tryz.func85 rfl (n := 55) rfl ?_
  obtain ⟨ho1, ho2, -⟩ := id ho
  have l1 := itoa_len (a := j.1) (by omega)
  have l2 := itoa_len (a := j.2.1) (by omega)
  refine w_seq ?_
  refine w_reg rfl ?_
  refine v_box (m := 0) (H' := [_]) lay72 rfl rfl rfl ?_
  refine v_assign (c := .v _) rfl ?_
  refine v_nil ?_
  refine q_n ?_
  refine w_seq ?_
  refine w_seq ?_
  refine w_reg rfl ?_
  refine v_load_pt (.agg [_, _, _, _, _, _, _, _, _, _, _, _, _, _, _, _, _, _, _, _, _, _]) lay72 rfl rfl rfl rfl ?_
  refine v_callb (cJnI _ (by assumption)) rfl rfl (.cons (vw_agg (.cons vw_v (.cons vw_v (.cons vw_f (.cons vw_f (.cons vw_f (.cons vw_f (.cons vw_f (.cons vw_f (.cons vw_f (.cons vw_f (.cons vw_f (.cons vw_f (.cons vw_f (.cons vw_f (.cons vw_f (.cons vw_f (.cons vw_f (.cons vw_f (.cons vw_f (.cons vw_f (.cons vw_f (.cons vw_f .nil))))))))))))))))))))))) .nil) (fun h1 => ?_) (fun h1 => ?_)
  rotate_left
  · exact absurd ho h1
  refine v_not false rfl rfl ?_
  refine v_nil ?_
  refine q_n ?_
  refine w_f rfl ?_
  refine w_skip ?_
  refine q_n ?_
  refine w_seq ?_
  refine w_draw [0, 1, 3, 0, 8, 31, 63, 127] [⟨0, 0, []⟩, ⟨1, 0, []⟩, ⟨2, 0, []⟩, ⟨3, 0, []⟩, ⟨4, 0, []⟩, ⟨5, 0, []⟩, ⟨6, 1, []⟩, ⟨7, 0, []⟩] rfl rfl ?_
  refine d_q rfl rfl rfl rfl rfl ?_
  refine v_fa_pt (off' := 0) lay72 rfl rfl rfl ?_
  refine v_nil ?_
  refine d_q rfl rfl rfl rfl rfl ?_
  refine v_load_pt (.c _) lay2 rfl rfl rfl rfl ?_
  refine v_nil ?_
  refine d_call (cDeci _ (by omega)) rfl rfl rfl rfl rfl (.cons vw_v .nil) ?_
  refine d_q rfl rfl rfl rfl rfl ?_
  refine v_fa_pt (off' := 1) lay72 rfl rfl rfl ?_
  refine v_nil ?_
  refine d_q rfl rfl rfl rfl rfl ?_
  refine v_load_pt (.c _) lay2 rfl rfl rfl rfl ?_
  refine v_nil ?_
  refine d_call (cDeci _ (by omega)) rfl rfl rfl rfl rfl (.cons vw_v .nil) ?_
  refine d_e rfl rfl rfl ?_
  refine v_lit (flat st [_, _, _]) (H' := [_, _]) lay57 lay9 rfl rfl ⟨by decide, by decide⟩ rfl rfl ?_
  refine v_nil ⟨again_nil, ?_⟩
  refine d_q rfl rfl rfl rfl rfl ?_
  refine v_assign rfl ?_
  refine v_nil ?_
  refine d_nil ?_
  refine q_n ?_
  refine w_seq ?_
  refine w_seq ?_
  refine w_reg rfl ?_
  refine v_fa_pt (off' := 0) lay72 rfl rfl rfl ?_
  refine v_load_pt (.c _) lay2 rfl rfl rfl rfl ?_
  refine v_move (c := .v (.int .i64 0)) rfl ?_
  refine v_nil ?_
  refine q_n ?_
  refine w_block ?_
  refine w_loop (fun k sl H => ∃ i : Nat, k = j.1.toNat - i ∧ i ≤ j.1.toNat ∧ sl = sls [(1, .c (.pt 0 0)), (3, .c (.mu 1 0 (jws j i 0 0).length 1)), (18, cI j.1), (19, cI i)] ∧ H = [⟨jnc j, 72, true⟩, ⟨flat st (jws j i 0 0), 9, true⟩]) ?_ ?_
  · refine ⟨_, _, _, ?_, 0, rfl, Nat.zero_le _, rfl, rfl⟩
    exact turn [some 0, some 1] rfl rfl rfl ⟨⟨_, rfl, .stay (fun c hc => stays_fz (fz_sc (List.all_eq_true.1 (jnc_sc j) c hc)))⟩, ⟨_, rfl, trc_flat st_sc (rfl)⟩, trivial⟩ ⟨tr_pt rfl, tr_mun rfl (rfl), tr_v, tr_v, trivial⟩
  rintro k sl H ⟨i, rfl, hi, rfl, rfl⟩
  refine w_seq ?_
  refine w_reg rfl ?_
  refine v_lss lay2 rfl rfl (fun h2 => ?_) (fun h2 => ?_)
  rotate_left
  · have hie : i = j.1.toNat := by omega
    refine v_nil ?_
    refine q_n ?_
    refine w_seq ?_
    refine w_f rfl ?_
    refine w_exit ?_
    refine q_e ?_
    refine q_e ?_
    refine q_hit ?_
    refine q_n ?_
    refine w_seq ?_
    refine w_seq ?_
    refine w_reg rfl ?_
    refine v_fa_pt (off' := 0) lay72 rfl rfl rfl ?_
    refine v_load_pt (.c _) lay2 rfl rfl rfl rfl ?_
    refine v_move (c := .v (.int .i64 0)) rfl ?_
    refine v_nil ?_
    refine q_n ?_
    refine w_block ?_
    refine w_loop (fun k sl H => ∃ p : Nat, k = j.1.toNat - p ∧ p ≤ j.1.toNat ∧ sl = sls [(1, .c (.pt 0 0)), (3, .c (.mu 1 0 (jws j j.1.toNat 0 p).length 1)), (40, cI j.1), (41, cI p)] ∧ H = [⟨jnc j, 72, true⟩, ⟨flat st (jws j j.1.toNat 0 p), 9, true⟩]) ?_ ?_
    · subst hie
      refine ⟨_, _, _, ?_, 0, rfl, Nat.zero_le _, rfl, rfl⟩
      exact turn [some 0, some 1] rfl rfl rfl ⟨⟨_, rfl, .stay (fun c hc => stays_fz (fz_sc (List.all_eq_true.1 (jnc_sc j) c hc)))⟩, ⟨_, rfl, trc_flat st_sc (rfl)⟩, trivial⟩ ⟨tr_pt rfl, tr_mun rfl (rfl), tr_v, tr_v, trivial⟩
    rintro k sl H ⟨p, rfl, hp, rfl, rfl⟩
    refine w_seq ?_
    refine w_reg rfl ?_
    refine v_lss lay2 rfl rfl (fun h4 => ?_) (fun h4 => ?_)
    rotate_left
    · obtain rfl : p = j.1.toNat := by omega
      have hjn := jws_n j j.1.toNat 0 j.1.toNat
      have hjm : j.1.toNat * j.2.1.toNat ≤ 4 * 4 := Nat.mul_le_mul (by omega) (by omega)
      have hj0 : jws j j.1.toNat 0 j.1.toNat ≠ [] := jws_ne
      have hj1 : (jws j j.1.toNat 0 j.1.toNat).length ≤ 1048576 := by omega
      have hj2 : (Lib.join (jws j j.1.toNat 0 j.1.toNat) [32]).length ≤ 1099511627776 := Nat.le_trans (jws_l ho (by omega) (by omega) (by omega)) (by decide)
      refine v_nil ?_
      refine q_n ?_
      refine w_seq ?_
      refine w_f rfl ?_
      refine w_exit ?_
      refine q_e ?_
      refine q_e ?_
      refine q_hit ?_
      refine q_n ?_
      refine w_seq ?_
      refine w_reg rfl ?_
      refine v_move rfl ?_
      refine v_call (cJoin (jws j j.1.toNat 0 j.1.toNat) [32] hj0 hj1 hj2) rfl rfl rfl (.cons (vw_mu2 st_sc st_len rfl (rfl)) (.cons vw_v .nil)) ?_
      refine v_assign rfl ?_
      refine v_nil ?_
      refine q_n ?_
      refine w_ret ?_
      refine r_r rfl ?_
      exact a_s rfl
    have hp1 : p < 4 := by omega
    have hx8 := hx_len (j.2.2.2 ⟨p, hp1⟩)
    have hjl := jws_l ho (i := j.1.toNat) (k := 0) (p := p) (by omega) (by omega) (by omega)
    have hjn := jws_n j j.1.toNat 0 p
    have hjm : j.1.toNat * j.2.1.toNat ≤ 4 * 4 := Nat.mul_le_mul (by omega) (by omega)
    refine v_nil ?_
    refine q_n ?_
    refine w_seq ?_
    refine w_t rfl ?_
    refine w_skip ?_
    refine q_n ?_
    refine w_seq ?_
    refine w_block ?_
    refine w_seq ?_
    refine w_reg rfl ?_
    refine v_move rfl ?_
    refine v_assign rfl ?_
    refine v_nil ?_
    refine q_n ?_
    refine w_reg rfl ?_
    refine v_move rfl ?_
    refine v_move rfl ?_
    refine v_fa_pt (off' := 18) lay72 rfl rfl rfl ?_
    refine v_idx_arr_e (k := 1) (p) lay70 lay26 rfl rfl rfl (rfl) (hp1) ?_
    refine v_load_pt (.c (.f .f32 (j.2.2.2 ⟨p, hp1⟩))) lay26 rfl rfl (Nat.ble_eq_true_of_le (by show 18 + p * 1 + 1 ≤ 22; omega)) (jp_pt j hp1) ?_
    refine v_call (cHxI _ (hj.2 p hp1)) rfl rfl rfl (.cons vw_f .nil) ?_
    refine v_lit (flat st [_]) (H' := [_, _, _]) lay57 lay9 rfl rfl ⟨by decide, by decide⟩ rfl rfl ?_
    refine v_app_flat (H' := [_, _, _, _]) st_sc st_len lay57 lay9 rfl rfl (by first | rfl | (simp; done)) rfl rfl (by first | rfl | (simp; done)) rfl rfl (by unfold maxLen; simp only []; omega) rfl rfl ?_
    refine v_assign rfl ?_
    refine v_nil ?_
    refine q_bn ?_
    refine q_n ?_
    refine w_reg rfl ?_
    refine v_add lay2 rfl rfl (i64r (by omega)) ?_
    refine v_move rfl ?_
    refine v_nil ?_
    refine q_n ?_
    refine ⟨_, _, _, ?_, ⟨p + 1, rfl, by omega, rfl, rfl⟩, by omega⟩
    exact turn [some 0, some 3] rfl rfl rfl ⟨⟨_, rfl, .stay (fun c hc => stays_fz (fz_sc (List.all_eq_true.1 (jnc_sc j) c hc)))⟩, ⟨_, rfl, trc_flat st_sc (congrArg (flat st) (jws_p j hp1))⟩, trivial⟩ ⟨tr_pt rfl, tr_mun rfl (by rw [← jws_p j hp1, List.length_append]; rfl), tr_v, tr_v, trivial⟩
  have hi1 : i < 4 := by omega
  have hil : i < j.1.toNat := by omega
  refine v_nil ?_
  refine q_n ?_
  refine w_seq ?_
  refine w_t rfl ?_
  refine w_skip ?_
  refine q_n ?_
  refine w_seq ?_
  refine w_block ?_
  refine w_seq ?_
  refine w_reg rfl ?_
  refine v_move rfl ?_
  refine v_assign rfl ?_
  refine v_nil ?_
  refine q_n ?_
  refine w_seq ?_
  refine w_reg rfl ?_
  refine v_fa_pt (off' := 1) lay72 rfl rfl rfl ?_
  refine v_load_pt (.c _) lay2 rfl rfl rfl rfl ?_
  refine v_move (c := .v (.int .i64 0)) rfl ?_
  refine v_nil ?_
  refine q_n ?_
  refine w_block ?_
  refine w_loop (fun k sl H => ∃ n : Nat, k = j.2.1.toNat - n ∧ n ≤ j.2.1.toNat ∧ sl = sls [(1, .c (.pt 0 0)), (3, .c (.mu 1 0 (jws j i n 0).length 1)), (4, cI i), (18, cI j.1), (19, cI i), (23, cI j.2.1), (24, cI n)] ∧ H = [⟨jnc j, 72, true⟩, ⟨flat st (jws j i n 0), 9, true⟩]) ?_ ?_
  · refine ⟨_, _, _, ?_, 0, rfl, Nat.zero_le _, rfl, rfl⟩
    exact turn [some 0, some 1] rfl rfl rfl ⟨⟨_, rfl, .stay (fun c hc => stays_fz (fz_sc (List.all_eq_true.1 (jnc_sc j) c hc)))⟩, ⟨_, rfl, trc_flat st_sc (rfl)⟩, trivial⟩ ⟨tr_pt rfl, tr_mun rfl (rfl), tr_v, tr_v, tr_v, tr_v, tr_v, trivial⟩
  rintro k sl H ⟨n, rfl, hn, rfl, rfl⟩
  refine w_seq ?_
  refine w_reg rfl ?_
  refine v_lss lay2 rfl rfl (fun h3 => ?_) (fun h3 => ?_)
  rotate_left
  · have hne : n = j.2.1.toNat := by omega
    refine v_nil ?_
    refine q_n ?_
    refine w_seq ?_
    refine w_f rfl ?_
    refine w_exit ?_
    refine q_e ?_
    refine q_e ?_
    refine q_hit ?_
    refine q_bn ?_
    refine q_n ?_
    refine w_reg rfl ?_
    refine v_add lay2 rfl rfl (i64r (by omega)) ?_
    refine v_move rfl ?_
    refine v_nil ?_
    refine q_n ?_
    have hjj : jws j i n 0 = jws j (i + 1) 0 0 := by rw [← jws_i, hne]
    refine ⟨_, _, _, ?_, ⟨i + 1, rfl, by omega, rfl, rfl⟩, by omega⟩
    exact turn [some 0, some 1] rfl rfl rfl ⟨⟨_, rfl, .stay (fun c hc => stays_fz (fz_sc (List.all_eq_true.1 (jnc_sc j) c hc)))⟩, ⟨_, rfl, trc_flat st_sc (congrArg (flat st) hjj)⟩, trivial⟩ ⟨tr_pt rfl, tr_mun rfl (by rw [hjj]), tr_v, tr_v, trivial⟩
  have hn1 : n < 4 := by omega
  have hx8 := hx_len (j.2.2.1 ⟨i, hi1⟩ ⟨n, hn1⟩)
  have hjl := jws_l ho (i := i) (k := n) (p := 0) (by omega) (by omega) (by omega)
  have hjn := jws_n j i n 0
  have hjm : i * j.2.1.toNat ≤ 4 * 4 := Nat.mul_le_mul (by omega) (by omega)
  refine v_nil ?_
  refine q_n ?_
  refine w_seq ?_
  refine w_t rfl ?_
  refine w_skip ?_
  refine q_n ?_
  refine w_seq ?_
  refine w_block ?_
  refine w_seq ?_
  refine w_reg rfl ?_
  refine v_move rfl ?_
  refine v_assign rfl ?_
  refine v_nil ?_
  refine q_n ?_
  refine w_reg rfl ?_
  refine v_move rfl ?_
  refine v_move rfl ?_
  refine v_move rfl ?_
  refine v_fa_pt (off' := 2) lay72 rfl rfl rfl ?_
  refine v_idx_arr_e (k := 4) (i) lay69 lay67 rfl rfl rfl (rfl) (hi1) ?_
  refine v_idx_arr_e (k := 1) (n) lay67 lay26 rfl rfl rfl (rfl) (hn1) ?_
  refine v_load_pt (.c (.f .f32 (j.2.2.1 ⟨i, hi1⟩ ⟨n, hn1⟩))) lay26 rfl rfl (Nat.ble_eq_true_of_le (by show 2 + i * 4 + n * 1 + 1 ≤ 22; omega)) (jt_pt j hi1 hn1) ?_
  refine v_call (cHxI _ (hj.1 i hi1 n hn1)) rfl rfl rfl (.cons vw_f .nil) ?_
  refine v_lit (flat st [_]) (H' := [_, _, _]) lay57 lay9 rfl rfl ⟨by decide, by decide⟩ rfl rfl ?_
  refine v_app_flat (H' := [_, _, _, _]) st_sc st_len lay57 lay9 rfl rfl (by first | rfl | (simp; done)) rfl rfl (by first | rfl | (simp; done)) rfl rfl (by unfold maxLen; simp only []; omega) rfl rfl ?_
  refine v_assign rfl ?_
  refine v_nil ?_
  refine q_bn ?_
  refine q_n ?_
  refine w_reg rfl ?_
  refine v_add lay2 rfl rfl (i64r (by omega)) ?_
  refine v_move rfl ?_
  refine v_nil ?_
  refine q_n ?_
  refine ⟨_, _, _, ?_, ⟨n + 1, rfl, by omega, rfl, rfl⟩, by omega⟩
  exact turn [some 0, some 3] rfl rfl rfl ⟨⟨_, rfl, .stay (fun c hc => stays_fz (fz_sc (List.all_eq_true.1 (jnc_sc j) c hc)))⟩, ⟨_, rfl, trc_flat st_sc (congrArg (flat st) (jws_k j hi1 hn1))⟩, trivial⟩ ⟨tr_pt rfl, tr_mun rfl (by rw [← jws_k j hi1 hn1, List.length_append]; rfl), tr_v, tr_v, tr_v, tr_v, tr_v, trivial⟩

theorem cDgS (xs : List Int) (hs : ∀ x ∈ xs, 0 ≤ x ∧ x ≤ 9) (hl : xs.length ≤ 2 ^ 20) : PureC X 63 [.c (ints false xs)] (cS (dTx xs)) := by
  refine PureC.of_body (drawD_ok X) (fun _ _ => Go.Proofs.Tryz.call63 _ _) Go.Proofs.Tryz.func63 rfl (n := 19) rfl ?_
  refine w_seq ?_
  refine w_reg rfl ?_
  refine v_assign (c := .v _) rfl ?_
  refine v_nil ?_
  refine q_n ?_
  refine w_seq ?_
  refine w_reg rfl ?_
  refine v_assign (c := .v _) rfl ?_
  refine v_nil ?_
  refine q_n ?_
  refine w_seq ?_
  refine w_seq ?_
  refine w_reg rfl ?_
  refine v_assign (c := .v (.int .i64 0)) rfl ?_
  refine v_nil ?_
  refine q_n ?_
  refine w_block ?_
  refine w_loop (fun k sl H => ∃ i : Nat, k = xs.length - i ∧ i ≤ xs.length ∧ sl = sls [(0, .c (ints false xs)), (3, cS (dTx (xs.take i))), (4, cI i)] ∧ H = []) ?_ ?_
  · refine ⟨_, _, _, ?_, 0, rfl, Nat.zero_le _, rfl, rfl⟩
    exact turn0 ⟨tr_sl, tr_v, tr_v, trivial⟩
  rintro k sl H ⟨i, rfl, hi, rfl, rfl⟩
  refine w_seq ?_
  refine w_seq ?_
  refine w_reg rfl ?_
  refine v_move rfl ?_
  refine v_move rfl ?_
  refine v_len_sl lay73 rfl ?_
  refine v_lss lay3 rfl rfl (fun h1 => ?_) (fun h1 => ?_)
  rotate_left
  · refine v_nil ?_
    refine q_n ?_
    refine w_f rfl ?_
    refine w_exit ?_
    refine q_e ?_
    refine q_e ?_
    refine q_hit ?_
    refine q_n ?_
    refine w_seq ?_
    refine w_reg rfl ?_
    refine v_move rfl ?_
    refine v_assign rfl ?_
    refine v_nil ?_
    refine q_n ?_
    refine w_ret ?_
    refine r_r rfl ?_
    obtain rfl : i = xs.length := by omega
    exact a_s (by rw [List.take_length])
  have hi1 : i < xs.length := by omega
  have hxi := hs _ (List.getElem_mem hi1)
  have hdl := dTx_len (xs := xs.take i) fun x hx => hs x (List.mem_of_mem_take hx)
  rw [List.length_take] at hdl
  have hit := itoa_len (a := xs[i]) (by omega)
  refine v_nil ?_
  refine q_n ?_
  refine w_t rfl ?_
  refine w_skip ?_
  refine q_n ?_
  refine w_seq ?_
  refine w_block ?_
  refine w_reg rfl ?_
  refine v_move rfl ?_
  refine v_move rfl ?_
  refine v_move rfl ?_
  have hq2 : i < _ := hi1
  refine v_idx_n (k := 1) i int_len lay73 lay2 rfl rfl rfl (rfl) rfl hq2 ?_
  refine v_load_vw (.c (.v _)) lay2 rfl rfl rfl ?_
  refine v_call (cDecI _ (by omega)) rfl rfl rfl (.cons vw_v .nil) ?_
  refine v_sadd lay9 rfl rfl (by unfold maxLen; first | omega | (simp only [List.length_append, List.length_cons, List.length_nil]; omega)) ?_
  refine v_assign rfl ?_
  refine v_nil ?_
  refine q_bn ?_
  refine q_n ?_
  refine w_reg rfl ?_
  refine v_move rfl ?_
  refine v_add lay3 rfl rfl (i64r (by omega)) ?_
  refine v_assign rfl ?_
  refine v_nil ?_
  refine q_n ?_
  refine ⟨_, _, _, ?_, ⟨i + 1, rfl, by omega, rfl, rfl⟩, by omega⟩
  exact turn0 ⟨tr_sl, tr_s (dTx_s hi1), tr_v, trivial⟩

theorem cDgI (xs : List Int) (hs : ∀ x ∈ xs, 0 ≤ x ∧ x ≤ 9) (hl : xs.length ≤ 2 ^ 20) : PureC X 84 [.c (ints false xs)] (cS (dTx xs)) := by
  refine PureC.of_body (drawD_ok X) (fun _ _ => Go.Proofs.Tryz.call84 _ _) Go.Proofs.Tryz.func84 rfl (n := 18) rfl ?_
  refine w_seq ?_
  refine w_reg rfl ?_
  refine v_assign (c := .v _) rfl ?_
  refine v_nil ?_
  refine q_n ?_
  refine w_seq ?_
  refine w_reg rfl ?_
  refine v_assign (c := .v _) rfl ?_
  refine v_nil ?_
  refine q_n ?_
  refine w_seq ?_
  refine w_seq ?_
  refine w_reg rfl ?_
  refine v_move rfl ?_
  refine v_len_sl lay73 rfl ?_
  refine v_move (c := .v (.int .i64 0)) rfl ?_
  refine v_nil ?_
  refine q_n ?_
  refine w_block ?_
  refine w_loop (fun k sl H => ∃ i : Nat, k = xs.length - i ∧ i ≤ xs.length ∧ sl = sls [(3, cS (dTx (xs.take i))), (6, .c (ints false xs)), (7, cI xs.length), (8, cI i)] ∧ H = []) ?_ ?_
  · refine ⟨_, _, _, ?_, 0, rfl, Nat.zero_le _, rfl, rfl⟩
    exact turn0 ⟨tr_v, tr_sl, tr_v, tr_v, trivial⟩
  rintro k sl H ⟨i, rfl, hi, rfl, rfl⟩
  refine w_seq ?_
  refine w_reg rfl ?_
  refine v_lss lay3 rfl rfl (fun h1 => ?_) (fun h1 => ?_)
  rotate_left
  · refine v_nil ?_
    refine q_n ?_
    refine w_seq ?_
    refine w_f rfl ?_
    refine w_exit ?_
    refine q_e ?_
    refine q_e ?_
    refine q_hit ?_
    refine q_n ?_
    refine w_seq ?_
    refine w_reg rfl ?_
    refine v_move rfl ?_
    refine v_assign rfl ?_
    refine v_nil ?_
    refine q_n ?_
    refine w_ret ?_
    refine r_r rfl ?_
    obtain rfl : i = xs.length := by omega
    exact a_s (by rw [List.take_length])
  have hi1 : i < xs.length := by omega
  have hxi := hs _ (List.getElem_mem hi1)
  have hdl := dTx_len (xs := xs.take i) fun x hx => hs x (List.mem_of_mem_take hx)
  rw [List.length_take] at hdl
  have hit := itoa_len (a := xs[i]) (by omega)
  refine v_nil ?_
  refine q_n ?_
  refine w_seq ?_
  refine w_t rfl ?_
  refine w_skip ?_
  refine q_n ?_
  refine w_seq ?_
  refine w_block ?_
  refine w_seq ?_
  refine w_reg rfl ?_
  have hq2 : i < _ := hi1
  refine v_idx_n (k := 1) i int_len lay73 lay2 rfl rfl rfl (rfl) rfl hq2 ?_
  refine v_load_vw (.c (.v _)) lay2 rfl rfl rfl ?_
  refine v_assign rfl ?_
  refine v_nil ?_
  refine q_n ?_
  refine w_reg rfl ?_
  refine v_move rfl ?_
  refine v_move rfl ?_
  refine v_call (cDeci _ (by omega)) rfl rfl rfl (.cons vw_v .nil) ?_
  refine v_sadd lay9 rfl rfl (by unfold maxLen; first | omega | (simp only [List.length_append, List.length_cons, List.length_nil]; omega)) ?_
  refine v_assign rfl ?_
  refine v_nil ?_
  refine q_bn ?_
  refine q_n ?_
  refine w_reg rfl ?_
  refine v_add lay3 rfl rfl (i64r (by omega)) ?_
  refine v_move rfl ?_
  refine v_nil ?_
  refine q_n ?_
  refine ⟨_, _, _, ?_, ⟨i + 1, rfl, by omega, rfl, rfl⟩, by omega⟩
  exact turn0 ⟨tr_s (dTx_s hi1), tr_sl, tr_v, tr_v, trivial⟩

theorem cJoTI (j : Jo) (hj : jW j.1) (ho : jnOk j.1) (hi1 : ∀ x ∈ j.2.1, 0 ≤ x ∧ x ≤ 9) (hi2 : ∀ x ∈ j.2.2.1, 0 ≤ x ∧ x ≤ 9) (hl : j.2.1.length ≤ 4 ∧ j.2.2.1.length ≤ 4) (hp : j.2.2.2 ≤ 9) : PureC X 29 [.agg (jof false j)] (cS (joTx j)) := by
  refine PureC.of_body (drawD_ok X) (fun _ _ => Go.Proofs.Tryz.call29 _ _) Go.Proofs.Tryz.func29 rfl (n := 27) rfl ?_
  have hjl : (jTx j.1).length ≤ 600 := jws_l ho (by have := ho.1; omega) (by omega) (by have := ho.1; omega)
  have d1 := dTx_len hi1
  have d2 := dTx_len hi2
  have lp := plT_len (a := j.2.2.2) (by omega)
  refine w_seq ?_
  refine w_reg rfl ?_
  refine v_box (m := 0) (H' := [_]) lay75 rfl rfl rfl ?_
  refine v_assign (c := .v _) rfl ?_
  refine v_nil ?_
  refine q_n ?_
  refine w_seq ?_
  refine w_reg rfl ?_
  refine v_assign (c := .v _) rfl ?_
  refine v_nil ?_
  refine q_n ?_
  refine w_seq ?_
  refine w_seq ?_
  refine w_reg rfl ?_
  refine v_fa_pt (off' := 24) lay75 rfl rfl rfl ?_
  refine v_load_pt (.c _) lay2 rfl rfl rfl rfl ?_
  refine v_geq lay2 rfl rfl (fun h1 => ?_) (fun h1 => ?_)
  rotate_left
  · have hpt : plT j.2.2.2 = [45] := if_neg h1
    refine v_nil ?_
    refine q_n ?_
    refine w_f rfl ?_
    refine w_skip ?_
    refine q_n ?_
    refine w_seq ?_
    refine w_draw [0, 1, 3, 0, 8, 24, 63, 127, 0, 256, 824, 2047, 4095, 0, 8192, 26424, 65535, 131071] [⟨0, 0, []⟩, ⟨1, 0, []⟩, ⟨2, 0, []⟩, ⟨3, 0, []⟩, ⟨4, 0, []⟩, ⟨5, 0, []⟩, ⟨6, 0, []⟩, ⟨7, 0, []⟩, ⟨8, 0, []⟩, ⟨9, 0, []⟩, ⟨10, 0, []⟩, ⟨11, 0, []⟩, ⟨12, 0, []⟩, ⟨13, 0, []⟩, ⟨14, 0, []⟩, ⟨15, 0, []⟩, ⟨16, 0, []⟩, ⟨17, 0, []⟩] rfl rfl ?_
    refine d_q rfl rfl rfl rfl rfl ?_
    refine v_move rfl ?_
    refine v_nil ?_
    refine d_q rfl rfl rfl rfl rfl ?_
    refine v_sadd lay9 rfl rfl (by unfold maxLen; rw [← hpt]; simp only [List.length_append, List.length_cons, List.length_nil]; omega) ?_
    refine v_nil ?_
    refine d_q rfl rfl rfl rfl rfl ?_
    refine v_sadd lay9 rfl rfl (by unfold maxLen; rw [← hpt]; simp only [List.length_append, List.length_cons, List.length_nil]; omega) ?_
    refine v_nil ?_
    refine d_q rfl rfl rfl rfl rfl ?_
    refine v_fa_pt (off' := 22) lay75 rfl rfl rfl ?_
    refine v_nil ?_
    refine d_q rfl rfl rfl rfl rfl ?_
    refine v_load_pt (.c _) lay73 rfl rfl rfl rfl ?_
    refine v_nil ?_
    refine d_call (cDgI _ hi1 (by omega)) rfl rfl rfl rfl rfl (.cons vw_sl .nil) ?_
    refine d_q rfl rfl rfl rfl rfl ?_
    refine v_sadd lay9 rfl rfl (by unfold maxLen; rw [← hpt]; simp only [List.length_append, List.length_cons, List.length_nil]; omega) ?_
    refine v_nil ?_
    refine d_q rfl rfl rfl rfl rfl ?_
    refine v_sadd lay9 rfl rfl (by unfold maxLen; rw [← hpt]; simp only [List.length_append, List.length_cons, List.length_nil]; omega) ?_
    refine v_nil ?_
    refine d_q rfl rfl rfl rfl rfl ?_
    refine v_fa_pt (off' := 23) lay75 rfl rfl rfl ?_
    refine v_nil ?_
    refine d_q rfl rfl rfl rfl rfl ?_
    refine v_load_pt (.c _) lay73 rfl rfl rfl rfl ?_
    refine v_nil ?_
    refine d_call (cDgI _ hi2 (by omega)) rfl rfl rfl rfl rfl (.cons vw_sl .nil) ?_
    refine d_q rfl rfl rfl rfl rfl ?_
    refine v_sadd lay9 rfl rfl (by unfold maxLen; rw [← hpt]; simp only [List.length_append, List.length_cons, List.length_nil]; omega) ?_
    refine v_nil ?_
    refine d_q rfl rfl rfl rfl rfl ?_
    refine v_sadd lay9 rfl rfl (by unfold maxLen; rw [← hpt]; simp only [List.length_append, List.length_cons, List.length_nil]; omega) ?_
    refine v_nil ?_
    refine d_q rfl rfl rfl rfl rfl ?_
    refine v_fa_pt (off' := 0) lay75 rfl rfl rfl ?_
    refine v_nil ?_
    refine d_q rfl rfl rfl rfl rfl ?_
    refine v_load_pt (.agg [_, _, _, _, _, _, _, _, _, _, _, _, _, _, _, _, _, _, _, _, _, _]) lay72 rfl rfl rfl rfl ?_
    refine v_nil ?_
    refine d_call (cJnTI j.1 hj ho) rfl rfl rfl rfl rfl (.cons (vw_agg (.cons vw_v (.cons vw_v (.cons vw_f (.cons vw_f (.cons vw_f (.cons vw_f (.cons vw_f (.cons vw_f (.cons vw_f (.cons vw_f (.cons vw_f (.cons vw_f (.cons vw_f (.cons vw_f (.cons vw_f (.cons vw_f (.cons vw_f (.cons vw_f (.cons vw_f (.cons vw_f (.cons vw_f (.cons vw_f .nil))))))))))))))))))))))) .nil) ?_
    refine d_q rfl rfl rfl rfl rfl ?_
    refine v_sadd lay9 rfl rfl (by unfold maxLen; rw [← hpt]; simp only [List.length_append, List.length_cons, List.length_nil]; omega) ?_
    refine v_nil ?_
    refine d_q rfl rfl rfl rfl rfl ?_
    refine v_assign rfl ?_
    refine v_nil ?_
    refine d_nil ?_
    refine q_n ?_
    refine w_ret ?_
    refine r_r rfl ?_
    exact a_s (by unfold joTx; rw [hpt])
  have hpt : plT j.2.2.2 = itoa j.2.2.2 := if_pos h1
  have hnn : 0 ≤ j.2.2.2 := h1
  refine v_nil ?_
  refine q_n ?_
  refine w_t rfl ?_
  refine w_reg rfl ?_
  refine v_fa_pt (off' := 24) lay75 rfl rfl rfl ?_
  refine v_load_pt (.c _) lay2 rfl rfl rfl rfl ?_
  refine v_call (cDeci _ (by omega)) rfl rfl rfl (.cons vw_v .nil) ?_
  refine v_assign rfl ?_
  refine v_nil ?_
  refine q_n ?_
  refine w_seq ?_
  refine w_draw [0, 1, 3, 0, 8, 24, 63, 127, 0, 256, 824, 2047, 4095, 0, 8192, 26424, 65535, 131071] [⟨0, 0, []⟩, ⟨1, 0, []⟩, ⟨2, 0, []⟩, ⟨3, 0, []⟩, ⟨4, 0, []⟩, ⟨5, 0, []⟩, ⟨6, 0, []⟩, ⟨7, 0, []⟩, ⟨8, 0, []⟩, ⟨9, 0, []⟩, ⟨10, 0, []⟩, ⟨11, 0, []⟩, ⟨12, 0, []⟩, ⟨13, 0, []⟩, ⟨14, 0, []⟩, ⟨15, 0, []⟩, ⟨16, 0, []⟩, ⟨17, 0, []⟩] rfl rfl ?_
  refine d_q rfl rfl rfl rfl rfl ?_
  refine v_move rfl ?_
  refine v_nil ?_
  refine d_q rfl rfl rfl rfl rfl ?_
  refine v_sadd lay9 rfl rfl (by unfold maxLen; rw [← hpt]; simp only [List.length_append, List.length_cons, List.length_nil]; omega) ?_
  refine v_nil ?_
  refine d_q rfl rfl rfl rfl rfl ?_
  refine v_sadd lay9 rfl rfl (by unfold maxLen; rw [← hpt]; simp only [List.length_append, List.length_cons, List.length_nil]; omega) ?_
  refine v_nil ?_
  refine d_q rfl rfl rfl rfl rfl ?_
  refine v_fa_pt (off' := 22) lay75 rfl rfl rfl ?_
  refine v_nil ?_
  refine d_q rfl rfl rfl rfl rfl ?_
  refine v_load_pt (.c _) lay73 rfl rfl rfl rfl ?_
  refine v_nil ?_
  refine d_call (cDgI _ hi1 (by omega)) rfl rfl rfl rfl rfl (.cons vw_sl .nil) ?_
  refine d_q rfl rfl rfl rfl rfl ?_
  refine v_sadd lay9 rfl rfl (by unfold maxLen; rw [← hpt]; simp only [List.length_append, List.length_cons, List.length_nil]; omega) ?_
  refine v_nil ?_
  refine d_q rfl rfl rfl rfl rfl ?_
  refine v_sadd lay9 rfl rfl (by unfold maxLen; rw [← hpt]; simp only [List.length_append, List.length_cons, List.length_nil]; omega) ?_
  refine v_nil ?_
  refine d_q rfl rfl rfl rfl rfl ?_
  refine v_fa_pt (off' := 23) lay75 rfl rfl rfl ?_
  refine v_nil ?_
  refine d_q rfl rfl rfl rfl rfl ?_
  refine v_load_pt (.c _) lay73 rfl rfl rfl rfl ?_
  refine v_nil ?_
  refine d_call (cDgI _ hi2 (by omega)) rfl rfl rfl rfl rfl (.cons vw_sl .nil) ?_
  refine d_q rfl rfl rfl rfl rfl ?_
  refine v_sadd lay9 rfl rfl (by unfold maxLen; rw [← hpt]; simp only [List.length_append, List.length_cons, List.length_nil]; omega) ?_
  refine v_nil ?_
  refine d_q rfl rfl rfl rfl rfl ?_
  refine v_sadd lay9 rfl rfl (by unfold maxLen; rw [← hpt]; simp only [List.length_append, List.length_cons, List.length_nil]; omega) ?_
  refine v_nil ?_
  refine d_q rfl rfl rfl rfl rfl ?_
  refine v_fa_pt (off' := 0) lay75 rfl rfl rfl ?_
  refine v_nil ?_
  refine d_q rfl rfl rfl rfl rfl ?_
  refine v_load_pt (.agg [_, _, _, _, _, _, _, _, _, _, _, _, _, _, _, _, _, _, _, _, _, _]) lay72 rfl rfl rfl rfl ?_
  refine v_nil ?_
  refine d_call (cJnTI j.1 hj ho) rfl rfl rfl rfl rfl (.cons (vw_agg (.cons vw_v (.cons vw_v (.cons vw_f (.cons vw_f (.cons vw_f (.cons vw_f (.cons vw_f (.cons vw_f (.cons vw_f (.cons vw_f (.cons vw_f (.cons vw_f (.cons vw_f (.cons vw_f (.cons vw_f (.cons vw_f (.cons vw_f (.cons vw_f (.cons vw_f (.cons vw_f (.cons vw_f (.cons vw_f .nil))))))))))))))))))))))) .nil) ?_
  refine d_q rfl rfl rfl rfl rfl ?_
  refine v_sadd lay9 rfl rfl (by unfold maxLen; rw [← hpt]; simp only [List.length_append, List.length_cons, List.length_nil]; omega) ?_
  refine v_nil ?_
  refine d_q rfl rfl rfl rfl rfl ?_
  refine v_assign rfl ?_
  refine v_nil ?_
  refine d_nil ?_
  refine q_n ?_
  refine w_ret ?_
  refine r_r rfl ?_
  exact a_s (by unfold joTx; rw [hpt])
end Go.VL
namespace Go.VL
open Go.RowKit
set_option maxRecDepth 20000
set_option maxHeartbeats 8000000
/-! Towns as texts -/
def townW : List UInt8 := [116, 111, 119, 110, 32]
def headL (t : Tw) : List UInt8 := (((((townW ++ itoa t.2.2.2.2.1) ++ [32]) ++ hx t.2.2.2.2.2.1) ++ [32]) ++ hx t.2.2.2.2.2.2)
def roadL (t : Tw) (i : Nat) : List UInt8 := (hx (t.2.1.getD i none) ++ [32]) ++ rTx (t.1.getD i zR)
def plnL (p : Pln) : List UInt8 := pTx p.1 p.2.1 p.2.2
/-- The lines of a town, some of its roads, plans and joints. -/
def tls (t : Tw) (i p j : Nat) : List (List UInt8) := [headL t] ++ ((List.range i).map (roadL t) ++ ((t.2.2.2.1.take p).map plnL ++ (t.2.2.1.take j).map joTx))
def nlT (ls : List (List UInt8)) : List UInt8 := ls.flatMap fun l => l ++ [10]
/-- A town as text. -/
def tTx (t : Tw) : List UInt8 := nlT (tls t t.1.length t.2.2.2.1.length t.2.2.1.length)
theorem tls_ne {t : Tw} {i p j : Nat} : tls t i p j ≠ [] := fun e => by
  unfold tls at e
  cases e
theorem tls_i (t : Tw) {i : Nat} (h1 : i < t.1.length) (h2 : i < t.2.1.length) : tls t i 0 0 ++ [(hx t.2.1[i] ++ [32]) ++ rTx t.1[i]] = tls t (i + 1) 0 0 := by
  unfold tls
  rw [List.range_succ, List.map_append, List.map_cons, List.map_nil, show roadL t i = (hx t.2.1[i] ++ [32]) ++ rTx t.1[i] from by unfold roadL; rw [gd h1, gd h2]]
  simp only [List.append_assoc, List.take_zero, List.map_nil, List.append_nil]
theorem tls_p (t : Tw) (i : Nat) {p : Nat} (h : p < t.2.2.2.1.length) : tls t i p 0 ++ [plnL t.2.2.2.1[p]] = tls t i (p + 1) 0 := by
  unfold tls
  rw [List.take_succ_eq_append_getElem h, List.map_append, List.map_cons, List.map_nil]
  simp only [List.append_assoc, List.take_zero, List.map_nil, List.append_nil]
theorem tls_j (t : Tw) (i p : Nat) {j : Nat} (h : j < t.2.2.1.length) : tls t i p j ++ [joTx t.2.2.1[j]] = tls t i p (j + 1) := by
  unfold tls
  rw [List.take_succ_eq_append_getElem h, List.map_append, List.map_cons, List.map_nil]
  simp only [List.append_assoc]
theorem nlT_s (ls : List (List UInt8)) (l : List UInt8) : nlT (ls ++ [l]) = nlT ls ++ (l ++ [10]) := by
  unfold nlT
  rw [List.flatMap_append]
  simp
theorem nlT_head (t : Tw) : headL t ++ [10] = nlT (tls t 0 0 0) := by
  unfold tls nlT
  simp
theorem nlT_len {c : Nat} : ∀ {ls : List (List UInt8)}, (∀ w ∈ ls, w.length ≤ c) → (nlT ls).length ≤ (c + 1) * ls.length
  | [], _ => by simp [nlT]
  | w :: r, h => by
    have h1 := nlT_len (ls := r) fun x hx => h x (List.mem_cons_of_mem _ hx)
    have h2 := h w List.mem_cons_self
    unfold nlT at h1 ⊢
    rw [List.flatMap_cons, List.length_append, List.length_append, List.length_cons, List.length_cons, Nat.mul_add]
    simp only [List.length_nil]
    omega
theorem join_nl (ls : List (List UInt8)) (h : ls ≠ []) : Lib.join ls [10] ++ [10] = nlT ls := by
  cases ls with
  | nil => exact absurd rfl h
  | cons w r =>
    rw [Lib.join_cons]
    unfold nlT Lib.joinTail
    rw [List.flatMap_cons, List.append_assoc, List.append_assoc]
    congr 1
    clear h
    induction r with
    | nil => rfl
    | cons x r ih =>
      rw [List.map_cons, List.flatten_cons, List.flatMap_cons, List.append_assoc, List.append_assoc, ih]
      simp
theorem unl_rng {n : Nat} {xs : List Int} (h : unl n xs) : ∀ x ∈ xs, 0 ≤ x ∧ x ≤ (n : Int) - 1 := by
  intro x hx
  obtain ⟨i, hi, rfl⟩ := List.getElem_of_mem hx
  exact (h i hi).1
theorem jgood {t : Tw} (ho : townI t) {j : Jo} (hj : j ∈ t.2.2.1) : jnOk j.1 ∧ (∀ x ∈ j.2.1, 0 ≤ x ∧ x ≤ 9) ∧ (∀ x ∈ j.2.2.1, 0 ≤ x ∧ x ≤ 9) ∧ (j.2.1.length ≤ 4 ∧ j.2.2.1.length ≤ 4) ∧ j.2.2.2 ≤ 9 := by
  obtain ⟨⟨h1, -, -, h4⟩, -, ⟨h5, h6, h7⟩, -⟩ := ho
  obtain ⟨⟨a1, a2, a3⟩, a4, a5⟩ := h5 j hj
  refine ⟨a1, fun x hx => ?_, fun x hx => ?_, ⟨by have := a1.1; omega, by have := a1.2.1; omega⟩, by omega⟩
  · have := unl_rng h6 x (List.mem_flatMap.2 ⟨j, hj, hx⟩)
    omega
  · have := unl_rng h7 x (List.mem_flatMap.2 ⟨j, hj, hx⟩)
    omega
theorem joTx_len {j : Jo} (h : jnOk j.1 ∧ (∀ x ∈ j.2.1, 0 ≤ x ∧ x ≤ 9) ∧ (∀ x ∈ j.2.2.1, 0 ≤ x ∧ x ≤ 9) ∧ (j.2.1.length ≤ 4 ∧ j.2.2.1.length ≤ 4) ∧ j.2.2.2 ≤ 9) : (joTx j).length ≤ 800 := by
  obtain ⟨ho, h1, h2, ⟨h3, h4⟩, h5⟩ := h
  have hjl : (jTx j.1).length ≤ 600 := jws_l ho (by have := ho.1; omega) (by omega) (by have := ho.1; omega)
  have d1 := dTx_len h1
  have d2 := dTx_len h2
  have lp := plT_len h5
  unfold joTx
  simp only [List.length_append, List.length_cons, List.length_nil]
  omega
theorem tls_c {t : Tw} (ho : townI t) (i p j : Nat) : ∀ w ∈ tls t i p j, w.length ≤ 800 := by
  intro w hw
  unfold tls at hw
  rcases List.mem_append.1 hw with h | h
  · rw [List.mem_singleton] at h
    subst h
    have l1 := itoa_len (a := t.2.2.2.2.1) (by have := ho.2.2.2.2.2.1; omega)
    have l2 := hx_len t.2.2.2.2.2.1
    have l3 := hx_len t.2.2.2.2.2.2
    unfold headL townW
    simp only [List.length_append, List.length_cons, List.length_nil]
    omega
  · rcases List.mem_append.1 h with h | h
    · obtain ⟨q, -, rfl⟩ := List.mem_map.1 h
      have l1 := hx_len (t.2.1.getD q none)
      have l2 := rTx_len (t.1.getD q zR)
      unfold roadL
      simp only [List.length_append, List.length_cons, List.length_nil]
      omega
    · rcases List.mem_append.1 h with h | h
      · obtain ⟨q, hq, rfl⟩ := List.mem_map.1 h
        have := pws_l (ho.2.2.2.2.1 q (List.mem_of_mem_take hq)) (Nat.le_refl _)
        exact Nat.le_trans this (by decide)
      · obtain ⟨q, hq, rfl⟩ := List.mem_map.1 h
        exact joTx_len (jgood ho (List.mem_of_mem_take hq))
theorem tls_n {t : Tw} (ho : townI t) {i p j : Nat} (hi : i ≤ t.1.length) : (tls t i p j).length ≤ 19 ∧ (tls t i p j).length = 1 + (i + (min p t.2.2.2.1.length + min j t.2.2.1.length)) := by
  obtain ⟨⟨h1, h2, h3, h4⟩, -⟩ := ho
  have e : (tls t i p j).length = 1 + (i + (min p t.2.2.2.1.length + min j t.2.2.1.length)) := by
    unfold tls
    simp only [List.length_append, List.length_map, List.length_range, List.length_take, List.length_cons, List.length_nil]
  omega
theorem tls_l {t : Tw} (ho : townI t) {i p j : Nat} (hi : i ≤ t.1.length) : (nlT (tls t i p j)).length ≤ 16000 := by
  have h1 := nlT_len (tls_c ho i p j)
  have h2 := (tls_n ho (p := p) (j := j) hi).1
  omega
theorem tls_join {t : Tw} (ho : townI t) : (Lib.join (tls t t.1.length t.2.2.2.1.length t.2.2.1.length) [10]).length ≤ 16000 := by
  have h1 := tls_l ho (p := t.2.2.2.1.length) (j := t.2.2.1.length) (Nat.le_refl _)
  rw [← join_nl _ tls_ne, List.length_append] at h1
  omega
def tText (t : Tw) : List UInt8 := if townOk t then tTx t else []
theorem cTtS (t : Tw) (hB : tB (2 ^ 20) t) (hF : tF t) (ho : townI t) : PureC X 19 [.c (.vw false (twf true t) 0)] (cS (tTx t)) := by
  refine PureC.of_body (drawD_ok X) (fun _ _ => Go.Proofs.Tryz.call19 _ _) Go.Proofs.Tryz.func19 rfl (n := 129) rfl ?_
  have hb := ho.1
  have htk := ho.2.2.2.2.2.1
  have l1 := itoa_len (a := t.2.2.2.2.1) (by omega)
  have l2 := hx_len t.2.2.2.2.2.1
  have l3 := hx_len t.2.2.2.2.2.2
  obtain ⟨⟨hn1, hn2⟩, ho1, ho2, ho3⟩ := id hb
  refine w_seq ?_
  refine w_reg rfl ?_
  refine v_assign (c := .v _) rfl ?_
  refine v_nil ?_
  refine q_n ?_
  refine w_seq ?_
  refine w_draw [0, 1, 3, 7, 15, 31, 63, 0, 128, 384, 896, 1951, 4095, 8191, 0, 16384, 49152, 114688, 249759, 524287, 1048575, 2097151] [⟨0, 0, []⟩, ⟨1, 0, []⟩, ⟨2, 0, []⟩, ⟨3, 0, []⟩, ⟨4, 0, []⟩, ⟨5, 0, []⟩, ⟨6, 0, []⟩, ⟨7, 0, []⟩, ⟨8, 0, []⟩, ⟨9, 0, []⟩, ⟨10, 0, []⟩, ⟨11, 0, []⟩, ⟨12, 0, []⟩, ⟨13, 0, []⟩, ⟨14, 0, []⟩, ⟨15, 0, []⟩, ⟨16, 0, []⟩, ⟨17, 0, []⟩, ⟨18, 0, []⟩, ⟨19, 0, []⟩, ⟨20, 0, []⟩, ⟨21, 0, []⟩] rfl rfl ?_
  refine d_q rfl rfl rfl rfl rfl ?_
  refine v_move rfl ?_
  refine v_nil ?_
  refine d_q rfl rfl rfl rfl rfl ?_
  refine v_nil_vw rfl ?_
  refine v_nil ?_
  refine d_q rfl rfl rfl rfl rfl ?_
  refine v_fa_vw (off' := 4) lay35 rfl rfl rfl ?_
  refine v_nil ?_
  refine d_q rfl rfl rfl rfl rfl ?_
  refine v_load_vw (.c (.v _)) lay2 rfl rfl rfl ?_
  refine v_nil ?_
  refine d_call (cDecI _ (by omega)) rfl rfl rfl rfl rfl (.cons vw_v .nil) ?_
  refine d_q rfl rfl rfl rfl rfl ?_
  refine v_sadd lay9 rfl rfl (by unfold maxLen; first | omega | (simp only [List.length_append, List.length_cons, List.length_nil]; omega)) ?_
  refine v_nil ?_
  refine d_q rfl rfl rfl rfl rfl ?_
  refine v_sadd lay9 rfl rfl (by unfold maxLen; first | omega | (simp only [List.length_append, List.length_cons, List.length_nil]; omega)) ?_
  refine v_nil ?_
  refine d_q rfl rfl rfl rfl rfl ?_
  refine v_move rfl ?_
  refine v_nil ?_
  refine d_q rfl rfl rfl rfl rfl ?_
  refine v_nil_vw rfl ?_
  refine v_nil ?_
  refine d_q rfl rfl rfl rfl rfl ?_
  refine v_fa_vw (off' := 5) lay35 rfl rfl rfl ?_
  refine v_nil ?_
  refine d_q rfl rfl rfl rfl rfl ?_
  refine v_load_vw (.c (.f _ _)) lay26 rfl rfl rfl ?_
  refine v_nil ?_
  refine d_call (cHxS _ (hF.2.2.2.1)) rfl rfl rfl rfl rfl (.cons vw_f .nil) ?_
  refine d_q rfl rfl rfl rfl rfl ?_
  refine v_sadd lay9 rfl rfl (by unfold maxLen; first | omega | (simp only [List.length_append, List.length_cons, List.length_nil]; omega)) ?_
  refine v_nil ?_
  refine d_q rfl rfl rfl rfl rfl ?_
  refine v_sadd lay9 rfl rfl (by unfold maxLen; first | omega | (simp only [List.length_append, List.length_cons, List.length_nil]; omega)) ?_
  refine v_nil ?_
  refine d_q rfl rfl rfl rfl rfl ?_
  refine v_move rfl ?_
  refine v_nil ?_
  refine d_q rfl rfl rfl rfl rfl ?_
  refine v_nil_vw rfl ?_
  refine v_nil ?_
  refine d_q rfl rfl rfl rfl rfl ?_
  refine v_fa_vw (off' := 6) lay35 rfl rfl rfl ?_
  refine v_nil ?_
  refine d_q rfl rfl rfl rfl rfl ?_
  refine v_load_vw (.c (.f _ _)) lay26 rfl rfl rfl ?_
  refine v_nil ?_
  refine d_call (cHxS _ (hF.2.2.2.2.1)) rfl rfl rfl rfl rfl (.cons vw_f .nil) ?_
  refine d_q rfl rfl rfl rfl rfl ?_
  refine v_sadd lay9 rfl rfl (by unfold maxLen; first | omega | (simp only [List.length_append, List.length_cons, List.length_nil]; omega)) ?_
  refine v_nil ?_
  refine d_q rfl rfl rfl rfl rfl ?_
  refine v_sadd lay9 rfl rfl (by unfold maxLen; first | omega | (simp only [List.length_append, List.length_cons, List.length_nil]; omega)) ?_
  refine v_nil ?_
  refine d_q rfl rfl rfl rfl rfl ?_
  refine v_assign rfl ?_
  refine v_nil ?_
  refine d_nil ?_
  refine q_n ?_
  refine w_seq ?_
  refine w_seq ?_
  refine w_reg rfl ?_
  refine v_assign (c := .v (.int .i64 0)) rfl ?_
  refine v_nil ?_
  refine q_n ?_
  refine w_block ?_
  refine w_loop (fun k sl H => ∃ i : Nat, k = t.1.length - i ∧ i ≤ t.1.length ∧ sl = sls [(0, .c (.vw false (twf true t) 0)), (3, cS (nlT (tls t i 0 0))), (4, cI i)] ∧ H = []) ?_ ?_
  · refine ⟨_, _, _, ?_, 0, rfl, Nat.zero_le _, rfl, rfl⟩
    exact turn0 ⟨tr_vw, tr_s (nlT_head t), tr_v, trivial⟩
  rintro k sl H ⟨i, rfl, hi, rfl, rfl⟩
  refine w_seq ?_
  refine w_seq ?_
  refine w_reg rfl ?_
  refine v_move rfl ?_
  refine v_move rfl ?_
  refine v_nil_vw rfl ?_
  refine v_fa_vw (off' := 0) lay35 rfl rfl rfl ?_
  refine v_load_vw (.c (_)) lay31 rfl rfl rfl ?_
  refine v_len_sl lay31 rfl ?_
  refine v_lss lay3 rfl rfl (fun h1 => ?_) (fun h1 => ?_)
  · have hi1 : i < t.1.length := by omega
    have hi2 : i < t.2.1.length := by omega
    have hln := tls_l ho (p := 0) (j := 0) hi
    have hxl := hx_len t.2.1[i]
    have hrl := rTx_len t.1[i]
    have hrd := ho.2.1 _ (List.getElem_mem hi1)
    have hrw := hF.1 _ (List.getElem_mem hi1)
    have htn := (tls_n ho (p := 0) (j := 0) hi).1
    refine v_nil ?_
    refine q_n ?_
    refine w_t rfl ?_
    refine w_skip ?_
    refine q_n ?_
    refine w_seq ?_
    refine w_block ?_
    refine w_draw [0, 0, 2, 6, 14, 0, 62, 126, 254, 510, 0, 1024, 3072, 7168, 0, 31744, 65022, 131070, 262142, 524287, 1048575] [⟨0, 0, []⟩, ⟨1, 0, []⟩, ⟨2, 0, []⟩, ⟨3, 0, []⟩, ⟨4, 0, []⟩, ⟨5, 0, []⟩, ⟨6, 0, []⟩, ⟨7, 0, []⟩, ⟨8, 0, []⟩, ⟨9, 0, []⟩, ⟨10, 0, []⟩, ⟨11, 0, []⟩, ⟨12, 0, []⟩, ⟨13, 0, []⟩, ⟨14, 0, []⟩, ⟨15, 0, []⟩, ⟨16, 0, []⟩, ⟨17, 0, []⟩, ⟨18, 0, []⟩, ⟨19, 0, []⟩, ⟨20, 0, []⟩] rfl rfl ?_
    refine d_q rfl rfl rfl rfl rfl ?_
    refine v_move rfl ?_
    refine v_nil ?_
    refine d_q rfl rfl rfl rfl rfl ?_
    refine v_move rfl ?_
    refine v_nil ?_
    refine d_q rfl rfl rfl rfl rfl ?_
    refine v_nil_vw rfl ?_
    refine v_nil ?_
    refine d_q rfl rfl rfl rfl rfl ?_
    refine v_fa_vw (off' := 1) lay35 rfl rfl rfl ?_
    refine v_nil ?_
    refine d_q rfl rfl rfl rfl rfl ?_
    refine v_load_vw (.c (_)) lay23 rfl rfl rfl ?_
    refine v_nil ?_
    refine d_q rfl rfl rfl rfl rfl ?_
    refine v_move rfl ?_
    refine v_nil ?_
    refine d_q rfl rfl rfl rfl rfl ?_
    have hq2 : i < _ := hi2
    refine v_idx_n (k := 1) i fe_len lay23 lay26 rfl rfl rfl (rfl) rfl hq2 ?_
    refine v_nil ?_
    refine d_q rfl rfl rfl rfl rfl ?_
    refine v_load_vw (.c (.f _ _)) lay26 rfl rfl rfl ?_
    refine v_nil ?_
    refine d_call (cHxS _ (hF.2.1 _ (List.getElem_mem hi2))) rfl rfl rfl rfl rfl (.cons vw_f .nil) ?_
    refine d_q rfl rfl rfl rfl rfl ?_
    refine v_sadd lay9 rfl rfl (by unfold maxLen; first | omega | (simp only [List.length_append, List.length_cons, List.length_nil]; omega)) ?_
    refine v_nil ?_
    refine d_q rfl rfl rfl rfl rfl ?_
    refine v_move rfl ?_
    refine v_nil ?_
    refine d_q rfl rfl rfl rfl rfl ?_
    refine v_nil_vw rfl ?_
    refine v_nil ?_
    refine d_q rfl rfl rfl rfl rfl ?_
    refine v_fa_vw (off' := 0) lay35 rfl rfl rfl ?_
    refine v_nil ?_
    refine d_q rfl rfl rfl rfl rfl ?_
    refine v_load_vw (.c (_)) lay31 rfl rfl rfl ?_
    refine v_nil ?_
    refine d_q rfl rfl rfl rfl rfl ?_
    refine v_move rfl ?_
    refine v_nil ?_
    refine d_q rfl rfl rfl rfl rfl ?_
    have hq3 : i < _ := hi1
    refine v_idx_n (k := 19) i rdc_len lay31 lay61 rfl rfl rfl (rfl) rfl hq3 ?_
    refine v_nil ?_
    refine d_call (cRdTS _ hrw) rfl rfl rfl rfl rfl (.cons vw_vw .nil) ?_
    refine d_q rfl rfl rfl rfl rfl ?_
    refine v_sadd lay9 rfl rfl (by unfold maxLen; first | omega | (simp only [List.length_append, List.length_cons, List.length_nil]; omega)) ?_
    refine v_nil ?_
    refine d_q rfl rfl rfl rfl rfl ?_
    refine v_sadd lay9 rfl rfl (by unfold maxLen; first | omega | (simp only [List.length_append, List.length_cons, List.length_nil]; omega)) ?_
    refine v_nil ?_
    refine d_q rfl rfl rfl rfl rfl ?_
    refine v_sadd lay9 rfl rfl (by unfold maxLen; first | omega | (simp only [List.length_append, List.length_cons, List.length_nil]; omega)) ?_
    refine v_nil ?_
    refine d_q rfl rfl rfl rfl rfl ?_
    refine v_assign rfl ?_
    refine v_nil ?_
    refine d_nil ?_
    refine q_bn ?_
    refine q_n ?_
    refine w_reg rfl ?_
    refine v_move rfl ?_
    refine v_add lay3 rfl rfl (i64r (by omega)) ?_
    refine v_assign rfl ?_
    refine v_nil ?_
    refine q_n ?_
    refine ⟨_, _, _, ?_, ⟨i + 1, rfl, by omega, rfl, rfl⟩, by omega⟩
    exact turn0 ⟨tr_vw, tr_s (by rw [← tls_i t hi1 hi2, nlT_s]), tr_v, trivial⟩
  have hie : i = t.1.length := by omega
  refine v_nil ?_
  refine q_n ?_
  refine w_f rfl ?_
  refine w_exit ?_
  refine q_e ?_
  refine q_e ?_
  refine q_hit ?_
  refine q_n ?_
  refine w_seq ?_
  refine w_seq ?_
  refine w_reg rfl ?_
  refine v_assign (c := .v (.int .i64 0)) rfl ?_
  refine v_nil ?_
  refine q_n ?_
  refine w_block ?_
  refine w_loop (fun k sl H => ∃ p : Nat, k = t.2.2.2.1.length - p ∧ p ≤ t.2.2.2.1.length ∧ sl = sls [(0, .c (.vw false (twf true t) 0)), (3, cS (nlT (tls t t.1.length p 0))), (5, cI p)] ∧ H = []) ?_ ?_
  · refine ⟨_, _, _, ?_, 0, rfl, Nat.zero_le _, rfl, rfl⟩
    exact turn0 ⟨tr_vw, tr_s (by rw [hie]), tr_v, trivial⟩
  rintro k sl H ⟨p, rfl, hp, rfl, rfl⟩
  refine w_seq ?_
  refine w_seq ?_
  refine w_reg rfl ?_
  refine v_move rfl ?_
  refine v_move rfl ?_
  refine v_nil_vw rfl ?_
  refine v_fa_vw (off' := 3) lay35 rfl rfl rfl ?_
  refine v_load_vw (.c (_)) lay33 rfl rfl rfl ?_
  refine v_len_sl lay33 rfl ?_
  refine v_lss lay3 rfl rfl (fun h4 => ?_) (fun h4 => ?_)
  · have hp1 : p < t.2.2.2.1.length := by omega
    have hln := tls_l ho (p := p) (j := 0) (Nat.le_refl _)
    have hpo := ho.2.2.2.2.1 _ (List.getElem_mem hp1)
    have hpl : (plnL t.2.2.2.1[p]).length ≤ 400 := pws_l hpo (Nat.le_refl _)
    have htn := (tls_n ho (p := p) (j := 0) (Nat.le_refl _)).1
    refine v_nil ?_
    refine q_n ?_
    refine w_t rfl ?_
    refine w_skip ?_
    refine q_n ?_
    refine w_seq ?_
    refine w_block ?_
    refine w_reg rfl ?_
    refine v_move rfl ?_
    refine v_move rfl ?_
    refine v_nil_vw rfl ?_
    refine v_fa_vw (off' := 3) lay35 rfl rfl rfl ?_
    refine v_load_vw (.c (_)) lay33 rfl rfl rfl ?_
    refine v_move rfl ?_
    have hq5 : p < _ := hp1
    refine v_idx_n (k := 3) p plc_len lay33 lay65 rfl rfl rfl (rfl) rfl hq5 ?_
    refine v_call (cPlTS _ _ _ hpo) rfl rfl rfl (.cons vw_vw .nil) ?_
    refine v_sadd lay9 rfl rfl (by unfold maxLen; have : (pTx _ _ _).length ≤ 400 := hpl; simp only [List.length_cons, List.length_nil]; omega) ?_
    refine v_sadd lay9 rfl rfl (by unfold maxLen; have : (pTx _ _ _).length ≤ 400 := hpl; simp only [List.length_append, List.length_cons, List.length_nil]; omega) ?_
    refine v_assign rfl ?_
    refine v_nil ?_
    refine q_bn ?_
    refine q_n ?_
    refine w_reg rfl ?_
    refine v_move rfl ?_
    refine v_add lay3 rfl rfl (i64r (by omega)) ?_
    refine v_assign rfl ?_
    refine v_nil ?_
    refine q_n ?_
    refine ⟨_, _, _, ?_, ⟨p + 1, rfl, by omega, rfl, rfl⟩, by omega⟩
    exact turn0 ⟨tr_vw, tr_s (by rw [← tls_p t _ hp1, nlT_s]; rfl), tr_v, trivial⟩
  have hpe : p = t.2.2.2.1.length := by omega
  refine v_nil ?_
  refine q_n ?_
  refine w_f rfl ?_
  refine w_exit ?_
  refine q_e ?_
  refine q_e ?_
  refine q_hit ?_
  refine q_n ?_
  refine w_seq ?_
  refine w_seq ?_
  refine w_reg rfl ?_
  refine v_assign (c := .v (.int .i64 0)) rfl ?_
  refine v_nil ?_
  refine q_n ?_
  refine w_block ?_
  refine w_loop (fun k sl H => ∃ q : Nat, k = t.2.2.1.length - q ∧ q ≤ t.2.2.1.length ∧ sl = sls [(0, .c (.vw false (twf true t) 0)), (3, cS (nlT (tls t t.1.length t.2.2.2.1.length q))), (6, cI q)] ∧ H = []) ?_ ?_
  · refine ⟨_, _, _, ?_, 0, rfl, Nat.zero_le _, rfl, rfl⟩
    exact turn0 ⟨tr_vw, tr_s (by rw [hpe]), tr_v, trivial⟩
  rintro k sl H ⟨q, rfl, hq, rfl, rfl⟩
  refine w_seq ?_
  refine w_seq ?_
  refine w_reg rfl ?_
  refine v_move rfl ?_
  refine v_move rfl ?_
  refine v_nil_vw rfl ?_
  refine v_fa_vw (off' := 2) lay35 rfl rfl rfl ?_
  refine v_load_vw (.c (_)) lay32 rfl rfl rfl ?_
  refine v_len_sl lay32 rfl ?_
  refine v_lss lay3 rfl rfl (fun h6 => ?_) (fun h6 => ?_)
  rotate_left
  · refine v_nil ?_
    refine q_n ?_
    refine w_f rfl ?_
    refine w_exit ?_
    refine q_e ?_
    refine q_e ?_
    refine q_hit ?_
    refine q_n ?_
    refine w_seq ?_
    refine w_reg rfl ?_
    refine v_move rfl ?_
    refine v_assign rfl ?_
    refine v_nil ?_
    refine q_n ?_
    refine w_ret ?_
    refine r_r rfl ?_
    obtain rfl : q = t.2.2.1.length := by omega
    exact a_s rfl
  have hq1 : q < t.2.2.1.length := by omega
  have hln := tls_l ho (p := t.2.2.2.1.length) (j := q) (Nat.le_refl _)
  have hg := jgood ho (List.getElem_mem hq1)
  have hjl := joTx_len hg
  obtain ⟨hg1, hg2, hg3, ⟨hg4, hg5⟩, hg6⟩ := hg
  have hjw := hF.2.2.1 _ (List.getElem_mem hq1)
  have htn := (tls_n ho (p := t.2.2.2.1.length) (j := q) (Nat.le_refl _)).1
  have hjt : (jTx t.2.2.1[q].1).length ≤ 600 := jws_l hg1 (by have := hg1.1; omega) (by omega) (by have := hg1.1; omega)
  have d1 := dTx_len hg2
  have d2 := dTx_len hg3
  have lpt := plT_len hg6
  refine v_nil ?_
  refine q_n ?_
  refine w_t rfl ?_
  refine w_skip ?_
  refine q_n ?_
  refine w_seq ?_
  refine w_block ?_
  refine w_seq ?_
  refine w_reg rfl ?_
  refine v_move rfl ?_
  refine v_nil_vw rfl ?_
  refine v_fa_vw (off' := 2) lay35 rfl rfl rfl ?_
  refine v_load_vw (.c (_)) lay32 rfl rfl rfl ?_
  refine v_move rfl ?_
  have hq7 : q < _ := hq1
  refine v_idx_n (k := 25) q joc_len lay32 lay75 rfl rfl rfl (rfl) rfl hq7 ?_
  refine v_assign rfl ?_
  refine v_nil ?_
  refine q_n ?_
  refine w_seq ?_
  refine w_reg rfl ?_
  refine v_assign (c := .v _) rfl ?_
  refine v_nil ?_
  refine q_n ?_
  refine w_seq ?_
  refine w_seq ?_
  refine w_reg rfl ?_
  refine v_move rfl ?_
  refine v_nil_vw rfl ?_
  refine v_fa_vw (off' := 24) lay75 rfl rfl rfl ?_
  refine v_load_vw (.c (.v _)) lay2 rfl rfl rfl ?_
  refine v_geq lay2 rfl rfl (fun h8 => ?_) (fun h8 => ?_)
  rotate_left
  · have hpt : plT t.2.2.1[q].2.2.2 = [45] := if_neg h8
    refine v_nil ?_
    refine q_n ?_
    refine w_f rfl ?_
    refine w_skip ?_
    refine q_n ?_
    refine w_draw [0, 0, 2, 6, 0, 16, 48, 112, 240, 510, 1022, 0, 2048, 6144, 14336, 31216, 65534, 131070, 0, 262144, 786432, 1898992, 4194302, 8388606, 16777215, 33554431] [⟨0, 0, []⟩, ⟨1, 0, []⟩, ⟨2, 0, []⟩, ⟨3, 0, []⟩, ⟨4, 0, []⟩, ⟨5, 0, []⟩, ⟨6, 0, []⟩, ⟨7, 0, []⟩, ⟨8, 0, []⟩, ⟨9, 0, []⟩, ⟨10, 0, []⟩, ⟨11, 0, []⟩, ⟨12, 0, []⟩, ⟨13, 0, []⟩, ⟨14, 0, []⟩, ⟨15, 0, []⟩, ⟨16, 0, []⟩, ⟨17, 0, []⟩, ⟨18, 0, []⟩, ⟨19, 0, []⟩, ⟨20, 0, []⟩, ⟨21, 0, []⟩, ⟨22, 0, []⟩, ⟨23, 0, []⟩, ⟨24, 0, []⟩, ⟨25, 0, []⟩] rfl rfl ?_
    refine d_q rfl rfl rfl rfl rfl ?_
    refine v_move rfl ?_
    refine v_nil ?_
    refine d_q rfl rfl rfl rfl rfl ?_
    refine v_move rfl ?_
    refine v_nil ?_
    refine d_q rfl rfl rfl rfl rfl ?_
    refine v_sadd lay9 rfl rfl (by unfold maxLen; rw [← hpt]; simp only [List.length_append, List.length_cons, List.length_nil]; omega) ?_
    refine v_nil ?_
    refine d_q rfl rfl rfl rfl rfl ?_
    refine v_sadd lay9 rfl rfl (by unfold maxLen; rw [← hpt]; simp only [List.length_append, List.length_cons, List.length_nil]; omega) ?_
    refine v_nil ?_
    refine d_q rfl rfl rfl rfl rfl ?_
    refine v_move rfl ?_
    refine v_nil ?_
    refine d_q rfl rfl rfl rfl rfl ?_
    refine v_nil_vw rfl ?_
    refine v_nil ?_
    refine d_q rfl rfl rfl rfl rfl ?_
    refine v_fa_vw (off' := 22) lay75 rfl rfl rfl ?_
    refine v_nil ?_
    refine d_q rfl rfl rfl rfl rfl ?_
    refine v_load_vw (.c (_)) lay73 rfl rfl rfl ?_
    refine v_nil ?_
    refine d_call (cDgS _ hg2 (by omega)) rfl rfl rfl rfl rfl (.cons vw_sl .nil) ?_
    refine d_q rfl rfl rfl rfl rfl ?_
    refine v_sadd lay9 rfl rfl (by unfold maxLen; rw [← hpt]; simp only [List.length_append, List.length_cons, List.length_nil]; omega) ?_
    refine v_nil ?_
    refine d_q rfl rfl rfl rfl rfl ?_
    refine v_sadd lay9 rfl rfl (by unfold maxLen; rw [← hpt]; simp only [List.length_append, List.length_cons, List.length_nil]; omega) ?_
    refine v_nil ?_
    refine d_q rfl rfl rfl rfl rfl ?_
    refine v_move rfl ?_
    refine v_nil ?_
    refine d_q rfl rfl rfl rfl rfl ?_
    refine v_nil_vw rfl ?_
    refine v_nil ?_
    refine d_q rfl rfl rfl rfl rfl ?_
    refine v_fa_vw (off' := 23) lay75 rfl rfl rfl ?_
    refine v_nil ?_
    refine d_q rfl rfl rfl rfl rfl ?_
    refine v_load_vw (.c (_)) lay73 rfl rfl rfl ?_
    refine v_nil ?_
    refine d_call (cDgS _ hg3 (by omega)) rfl rfl rfl rfl rfl (.cons vw_sl .nil) ?_
    refine d_q rfl rfl rfl rfl rfl ?_
    refine v_sadd lay9 rfl rfl (by unfold maxLen; rw [← hpt]; simp only [List.length_append, List.length_cons, List.length_nil]; omega) ?_
    refine v_nil ?_
    refine d_q rfl rfl rfl rfl rfl ?_
    refine v_sadd lay9 rfl rfl (by unfold maxLen; rw [← hpt]; simp only [List.length_append, List.length_cons, List.length_nil]; omega) ?_
    refine v_nil ?_
    refine d_q rfl rfl rfl rfl rfl ?_
    refine v_move rfl ?_
    refine v_nil ?_
    refine d_q rfl rfl rfl rfl rfl ?_
    refine v_nil_vw rfl ?_
    refine v_nil ?_
    refine d_q rfl rfl rfl rfl rfl ?_
    refine v_fa_vw (off' := 0) lay75 rfl rfl rfl ?_
    refine v_nil ?_
    refine d_call (cJnTS t.2.2.1[q].1 [.sl true t.2.2.1[q].2.1.length 1 (flat int t.2.2.1[q].2.1), .sl true t.2.2.1[q].2.2.1.length 1 (flat int t.2.2.1[q].2.2.1), .v (.int .i64 t.2.2.1[q].2.2.2)] hjw hg1) rfl rfl rfl rfl rfl (.cons vw_vw .nil) ?_
    refine d_q rfl rfl rfl rfl rfl ?_
    refine v_sadd lay9 rfl rfl (by unfold maxLen; rw [← hpt]; simp only [List.length_append, List.length_cons, List.length_nil]; omega) ?_
    refine v_nil ?_
    refine d_q rfl rfl rfl rfl rfl ?_
    refine v_sadd lay9 rfl rfl (by unfold maxLen; rw [← hpt]; simp only [List.length_append, List.length_cons, List.length_nil]; omega) ?_
    refine v_nil ?_
    refine d_q rfl rfl rfl rfl rfl ?_
    refine v_sadd lay9 rfl rfl (by unfold maxLen; rw [← hpt]; simp only [List.length_append, List.length_cons, List.length_nil]; omega) ?_
    refine v_nil ?_
    refine d_q rfl rfl rfl rfl rfl ?_
    refine v_assign rfl ?_
    refine v_nil ?_
    refine d_nil ?_
    refine q_bn ?_
    refine q_n ?_
    refine w_reg rfl ?_
    refine v_move rfl ?_
    refine v_add lay3 rfl rfl (i64r (by omega)) ?_
    refine v_assign rfl ?_
    refine v_nil ?_
    refine q_n ?_
    refine ⟨_, _, _, ?_, ⟨q + 1, rfl, by omega, rfl, rfl⟩, by omega⟩
    exact turn0 ⟨tr_vw, tr_s (by rw [← tls_j t _ _ hq1, nlT_s]; unfold joTx; rw [hpt]), tr_v, trivial⟩
  have hpt : plT t.2.2.1[q].2.2.2 = itoa t.2.2.1[q].2.2.2 := if_pos h8
  have hnn : 0 ≤ t.2.2.1[q].2.2.2 := h8
  refine v_nil ?_
  refine q_n ?_
  refine w_t rfl ?_
  refine w_reg rfl ?_
  refine v_move rfl ?_
  refine v_nil_vw rfl ?_
  refine v_fa_vw (off' := 24) lay75 rfl rfl rfl ?_
  refine v_load_vw (.c (.v _)) lay2 rfl rfl rfl ?_
  refine v_call (cDecI _ (by omega)) rfl rfl rfl (.cons vw_v .nil) ?_
  refine v_assign rfl ?_
  refine v_nil ?_
  refine q_n ?_
  refine w_draw [0, 0, 2, 6, 0, 16, 48, 112, 240, 510, 1022, 0, 2048, 6144, 14336, 31216, 65534, 131070, 0, 262144, 786432, 1898992, 4194302, 8388606, 16777215, 33554431] [⟨0, 0, []⟩, ⟨1, 0, []⟩, ⟨2, 0, []⟩, ⟨3, 0, []⟩, ⟨4, 0, []⟩, ⟨5, 0, []⟩, ⟨6, 0, []⟩, ⟨7, 0, []⟩, ⟨8, 0, []⟩, ⟨9, 0, []⟩, ⟨10, 0, []⟩, ⟨11, 0, []⟩, ⟨12, 0, []⟩, ⟨13, 0, []⟩, ⟨14, 0, []⟩, ⟨15, 0, []⟩, ⟨16, 0, []⟩, ⟨17, 0, []⟩, ⟨18, 0, []⟩, ⟨19, 0, []⟩, ⟨20, 0, []⟩, ⟨21, 0, []⟩, ⟨22, 0, []⟩, ⟨23, 0, []⟩, ⟨24, 0, []⟩, ⟨25, 0, []⟩] rfl rfl ?_
  refine d_q rfl rfl rfl rfl rfl ?_
  refine v_move rfl ?_
  refine v_nil ?_
  refine d_q rfl rfl rfl rfl rfl ?_
  refine v_move rfl ?_
  refine v_nil ?_
  refine d_q rfl rfl rfl rfl rfl ?_
  refine v_sadd lay9 rfl rfl (by unfold maxLen; rw [← hpt]; simp only [List.length_append, List.length_cons, List.length_nil]; omega) ?_
  refine v_nil ?_
  refine d_q rfl rfl rfl rfl rfl ?_
  refine v_sadd lay9 rfl rfl (by unfold maxLen; rw [← hpt]; simp only [List.length_append, List.length_cons, List.length_nil]; omega) ?_
  refine v_nil ?_
  refine d_q rfl rfl rfl rfl rfl ?_
  refine v_move rfl ?_
  refine v_nil ?_
  refine d_q rfl rfl rfl rfl rfl ?_
  refine v_nil_vw rfl ?_
  refine v_nil ?_
  refine d_q rfl rfl rfl rfl rfl ?_
  refine v_fa_vw (off' := 22) lay75 rfl rfl rfl ?_
  refine v_nil ?_
  refine d_q rfl rfl rfl rfl rfl ?_
  refine v_load_vw (.c (_)) lay73 rfl rfl rfl ?_
  refine v_nil ?_
  refine d_call (cDgS _ hg2 (by omega)) rfl rfl rfl rfl rfl (.cons vw_sl .nil) ?_
  refine d_q rfl rfl rfl rfl rfl ?_
  refine v_sadd lay9 rfl rfl (by unfold maxLen; rw [← hpt]; simp only [List.length_append, List.length_cons, List.length_nil]; omega) ?_
  refine v_nil ?_
  refine d_q rfl rfl rfl rfl rfl ?_
  refine v_sadd lay9 rfl rfl (by unfold maxLen; rw [← hpt]; simp only [List.length_append, List.length_cons, List.length_nil]; omega) ?_
  refine v_nil ?_
  refine d_q rfl rfl rfl rfl rfl ?_
  refine v_move rfl ?_
  refine v_nil ?_
  refine d_q rfl rfl rfl rfl rfl ?_
  refine v_nil_vw rfl ?_
  refine v_nil ?_
  refine d_q rfl rfl rfl rfl rfl ?_
  refine v_fa_vw (off' := 23) lay75 rfl rfl rfl ?_
  refine v_nil ?_
  refine d_q rfl rfl rfl rfl rfl ?_
  refine v_load_vw (.c (_)) lay73 rfl rfl rfl ?_
  refine v_nil ?_
  refine d_call (cDgS _ hg3 (by omega)) rfl rfl rfl rfl rfl (.cons vw_sl .nil) ?_
  refine d_q rfl rfl rfl rfl rfl ?_
  refine v_sadd lay9 rfl rfl (by unfold maxLen; rw [← hpt]; simp only [List.length_append, List.length_cons, List.length_nil]; omega) ?_
  refine v_nil ?_
  refine d_q rfl rfl rfl rfl rfl ?_
  refine v_sadd lay9 rfl rfl (by unfold maxLen; rw [← hpt]; simp only [List.length_append, List.length_cons, List.length_nil]; omega) ?_
  refine v_nil ?_
  refine d_q rfl rfl rfl rfl rfl ?_
  refine v_move rfl ?_
  refine v_nil ?_
  refine d_q rfl rfl rfl rfl rfl ?_
  refine v_nil_vw rfl ?_
  refine v_nil ?_
  refine d_q rfl rfl rfl rfl rfl ?_
  refine v_fa_vw (off' := 0) lay75 rfl rfl rfl ?_
  refine v_nil ?_
  refine d_call (cJnTS t.2.2.1[q].1 [.sl true t.2.2.1[q].2.1.length 1 (flat int t.2.2.1[q].2.1), .sl true t.2.2.1[q].2.2.1.length 1 (flat int t.2.2.1[q].2.2.1), .v (.int .i64 t.2.2.1[q].2.2.2)] hjw hg1) rfl rfl rfl rfl rfl (.cons vw_vw .nil) ?_
  refine d_q rfl rfl rfl rfl rfl ?_
  refine v_sadd lay9 rfl rfl (by unfold maxLen; rw [← hpt]; simp only [List.length_append, List.length_cons, List.length_nil]; omega) ?_
  refine v_nil ?_
  refine d_q rfl rfl rfl rfl rfl ?_
  refine v_sadd lay9 rfl rfl (by unfold maxLen; rw [← hpt]; simp only [List.length_append, List.length_cons, List.length_nil]; omega) ?_
  refine v_nil ?_
  refine d_q rfl rfl rfl rfl rfl ?_
  refine v_sadd lay9 rfl rfl (by unfold maxLen; rw [← hpt]; simp only [List.length_append, List.length_cons, List.length_nil]; omega) ?_
  refine v_nil ?_
  refine d_q rfl rfl rfl rfl rfl ?_
  refine v_assign rfl ?_
  refine v_nil ?_
  refine d_nil ?_
  refine q_bn ?_
  refine q_n ?_
  refine w_reg rfl ?_
  refine v_move rfl ?_
  refine v_add lay3 rfl rfl (i64r (by omega)) ?_
  refine v_assign rfl ?_
  refine v_nil ?_
  refine q_n ?_
  refine ⟨_, _, _, ?_, ⟨q + 1, rfl, by omega, rfl, rfl⟩, by omega⟩
  exact turn0 ⟨tr_vw, tr_s (by rw [← tls_j t _ _ hq1, nlT_s]; unfold joTx; rw [hpt]), tr_v, trivial⟩

theorem cVtI2 (t : Tw) (hB : tB (2 ^ 20) t) (hF : tF t) : PureC X 24 [.agg (twf false t)] (cB (decide (townOk t))) := by
  have h := cVtI t hB hF
  rwa [show decide (townI t) = decide (townOk t) from decide_eq_decide.2 (town_iff t).symm] at h

theorem cTnS (t : Tw) (hB : tB (2 ^ 20) t) (hF : tF t) : PureC X 6 [.agg (twf false t)] (cS (tText t)) := by
  refine PureC.of_body (drawD_ok X) (fun _ _ => Go.Proofs.Tryz.call6 _ _) Go.Proofs.Tryz.func6 rfl (n := 6) rfl ?_
  refine w_seq ?_
  refine w_reg rfl ?_
  refine v_box (m := 0) (H' := [_]) lay35 rfl rfl rfl ?_
  refine v_assign (c := .v _) rfl ?_
  refine v_nil ?_
  refine q_n ?_
  refine w_seq ?_
  refine w_seq ?_
  refine w_reg rfl ?_
  refine v_callb (cTwS _ hB hF) rfl rfl (.cons (vw_pt rfl (.cons (.sl (fun h => by cases h)) (.cons (.sl (fun h => by cases h)) (.cons (.sl (fun h => by cases h)) (.cons (.sl (fun h => by cases h)) (.cons .v (.cons .f (.cons .f .nil)))))))) .nil) (fun h1 => ?_) (fun h1 => ?_)
  rotate_left
  · have hno := h1
    refine v_not true rfl rfl ?_
    refine v_nil ?_
    refine q_n ?_
    refine w_t rfl ?_
    refine w_seq ?_
    refine w_reg rfl ?_
    refine v_assign (c := .v _) rfl ?_
    refine v_nil ?_
    refine q_n ?_
    refine w_ret (q_r ?_)
    refine r_r rfl ?_
    exact a_s (if_neg hno).symm
  have ho := (town_iff t).1 h1
  refine v_not false rfl rfl ?_
  refine v_nil ?_
  refine q_n ?_
  refine w_f rfl ?_
  refine w_skip ?_
  refine q_n ?_
  refine w_seq ?_
  refine w_reg rfl ?_
  refine v_call (cTtS _ hB hF ho) rfl rfl rfl (.cons (vw_pt rfl (.cons (.sl (fun h => by cases h)) (.cons (.sl (fun h => by cases h)) (.cons (.sl (fun h => by cases h)) (.cons (.sl (fun h => by cases h)) (.cons .v (.cons .f (.cons .f .nil)))))))) .nil) ?_
  refine v_assign rfl ?_
  refine v_nil ?_
  refine q_n ?_
  refine w_ret ?_
  refine r_r rfl ?_
  exact a_s (if_pos ((town_iff t).2 ho)).symm

theorem cTnI (t : Tw) (hB : tB (2 ^ 20) t) (hF : tF t) : PureC X 8 [.agg (twf false t)] (cS (tText t)) := by
  refine PureC.of_body (drawD_ok X) (fun _ _ => Go.Proofs.Tryz.call8 _ _) Go.Proofs.Tryz.func8 rfl (n := 79) rfl ?_
  refine w_seq ?_
  refine w_reg rfl ?_
  refine v_box (m := 0) (H' := [_]) lay35 rfl rfl rfl ?_
  refine v_assign (c := .v _) rfl ?_
  refine v_nil ?_
  refine q_n ?_
  refine w_seq ?_
  refine w_seq ?_
  refine w_reg rfl ?_
  refine v_load_pt (.agg [_, _, _, _, _, _, _]) lay35 rfl rfl rfl rfl ?_
  refine v_callb (cVtI2 _ hB hF) rfl rfl (.cons (vw_agg (.cons vw_sl (.cons vw_sl (.cons vw_sl (.cons vw_sl (.cons vw_v (.cons vw_f (.cons vw_f .nil)))))))) .nil) (fun h1 => ?_) (fun h1 => ?_)
  rotate_left
  · have hno := h1
    refine v_not true rfl rfl ?_
    refine v_nil ?_
    refine q_n ?_
    refine w_t rfl ?_
    refine w_seq ?_
    refine w_reg rfl ?_
    refine v_assign (c := .v _) rfl ?_
    refine v_nil ?_
    refine q_n ?_
    refine w_ret (q_r ?_)
    refine r_r rfl ?_
    exact a_s (if_neg hno).symm
  have ho := (town_iff t).1 h1
  have hok := h1
  have hb := ho.1
  have htk := ho.2.2.2.2.2.1
  have l1 := itoa_len (a := t.2.2.2.2.1) (by omega)
  have l2 := hx_len t.2.2.2.2.2.1
  have l3 := hx_len t.2.2.2.2.2.2
  obtain ⟨⟨hn1, hn2⟩, ho1, ho2, ho3⟩ := id hb
  refine v_not false rfl rfl ?_
  refine v_nil ?_
  refine q_n ?_
  refine w_f rfl ?_
  refine w_skip ?_
  refine q_n ?_
  refine w_seq ?_
  refine w_draw [0, 1, 3, 7, 15, 0, 32, 103, 255, 511, 0, 1024, 3303, 8191, 16383, 32767] [⟨0, 0, []⟩, ⟨1, 0, []⟩, ⟨2, 0, []⟩, ⟨3, 0, []⟩, ⟨4, 0, []⟩, ⟨5, 0, []⟩, ⟨6, 0, []⟩, ⟨7, 0, []⟩, ⟨8, 0, []⟩, ⟨9, 0, []⟩, ⟨10, 0, []⟩, ⟨11, 0, []⟩, ⟨12, 0, []⟩, ⟨13, 0, []⟩, ⟨14, 1, []⟩, ⟨15, 0, []⟩] rfl rfl ?_
  refine d_q rfl rfl rfl rfl rfl ?_
  refine v_fa_pt (off' := 4) lay35 rfl rfl rfl ?_
  refine v_nil ?_
  refine d_q rfl rfl rfl rfl rfl ?_
  refine v_load_pt (.c _) lay2 rfl rfl rfl rfl ?_
  refine v_nil ?_
  refine d_call (cDeci _ (by omega)) rfl rfl rfl rfl rfl (.cons vw_v .nil) ?_
  refine d_q rfl rfl rfl rfl rfl ?_
  refine v_sadd lay9 rfl rfl (by unfold maxLen; first | omega | (simp only [List.length_append, List.length_cons, List.length_nil]; omega)) ?_
  refine v_nil ?_
  refine d_q rfl rfl rfl rfl rfl ?_
  refine v_sadd lay9 rfl rfl (by unfold maxLen; first | omega | (simp only [List.length_append, List.length_cons, List.length_nil]; omega)) ?_
  refine v_nil ?_
  refine d_q rfl rfl rfl rfl rfl ?_
  refine v_fa_pt (off' := 5) lay35 rfl rfl rfl ?_
  refine v_nil ?_
  refine d_q rfl rfl rfl rfl rfl ?_
  refine v_load_pt (.c _) lay26 rfl rfl rfl rfl ?_
  refine v_nil ?_
  refine d_call (cHxI _ (hF.2.2.2.1)) rfl rfl rfl rfl rfl (.cons vw_f .nil) ?_
  refine d_q rfl rfl rfl rfl rfl ?_
  refine v_sadd lay9 rfl rfl (by unfold maxLen; first | omega | (simp only [List.length_append, List.length_cons, List.length_nil]; omega)) ?_
  refine v_nil ?_
  refine d_q rfl rfl rfl rfl rfl ?_
  refine v_sadd lay9 rfl rfl (by unfold maxLen; first | omega | (simp only [List.length_append, List.length_cons, List.length_nil]; omega)) ?_
  refine v_nil ?_
  refine d_q rfl rfl rfl rfl rfl ?_
  refine v_fa_pt (off' := 6) lay35 rfl rfl rfl ?_
  refine v_nil ?_
  refine d_q rfl rfl rfl rfl rfl ?_
  refine v_load_pt (.c _) lay26 rfl rfl rfl rfl ?_
  refine v_nil ?_
  refine d_call (cHxI _ (hF.2.2.2.2.1)) rfl rfl rfl rfl rfl (.cons vw_f .nil) ?_
  refine d_q rfl rfl rfl rfl rfl ?_
  refine v_sadd lay9 rfl rfl (by unfold maxLen; first | omega | (simp only [List.length_append, List.length_cons, List.length_nil]; omega)) ?_
  refine v_nil ?_
  refine d_e rfl rfl rfl ?_
  refine v_lit (flat st [_]) (H' := [_, _]) lay57 lay9 rfl rfl ⟨by decide, by decide⟩ rfl rfl ?_
  refine v_nil ⟨again_nil, ?_⟩
  refine d_q rfl rfl rfl rfl rfl ?_
  refine v_assign rfl ?_
  refine v_nil ?_
  refine d_nil ?_
  refine q_n ?_
  refine w_seq ?_
  refine w_seq ?_
  refine w_reg rfl ?_
  refine v_fa_pt (off' := 0) lay35 rfl rfl rfl ?_
  refine v_load_pt (.c _) lay31 rfl rfl rfl rfl ?_
  refine v_len_sl lay31 rfl ?_
  refine v_move (c := .v (.int .i64 0)) rfl ?_
  refine v_nil ?_
  refine q_n ?_
  refine w_block ?_
  refine w_loop (fun k sl H => ∃ i : Nat, k = t.1.length - i ∧ i ≤ t.1.length ∧ sl = sls [(1, .c (.pt 0 0)), (3, .c (.mu 1 0 (tls t i 0 0).length 1)), (29, .c (rds false t.1)), (30, cI t.1.length), (31, cI i)] ∧ H = [⟨twf false t, 35, true⟩, ⟨flat st (tls t i 0 0), 9, true⟩]) ?_ ?_
  · refine ⟨_, _, _, ?_, 0, rfl, Nat.zero_le _, rfl, rfl⟩
    exact turn [some 0, some 1] rfl rfl rfl ⟨⟨_, rfl, .cons tr_sl (.cons tr_sl (.cons tr_sl (.cons tr_sl (.cons tr_v (.cons tr_f (.cons tr_f .nil))))))⟩, ⟨_, rfl, trc_flat st_sc (rfl)⟩, trivial⟩ ⟨tr_pt rfl, tr_mun rfl (rfl), tr_sl, tr_v, tr_v, trivial⟩
  rintro k sl H ⟨i, rfl, hi, rfl, rfl⟩
  refine w_seq ?_
  refine w_reg rfl ?_
  refine v_lss lay3 rfl rfl (fun h2 => ?_) (fun h2 => ?_)
  · have hi1 : i < t.1.length := by omega
    have hi2 : i < t.2.1.length := by omega
    have hln := tls_l ho (p := 0) (j := 0) hi
    have hxl := hx_len t.2.1[i]
    have hrl := rTx_len t.1[i]
    have hrd := ho.2.1 _ (List.getElem_mem hi1)
    have hrw := hF.1 _ (List.getElem_mem hi1)
    have htn := (tls_n ho (p := 0) (j := 0) hi).1
    refine v_nil ?_
    refine q_n ?_
    refine w_seq ?_
    refine w_t rfl ?_
    refine w_skip ?_
    refine q_n ?_
    refine w_seq ?_
    refine w_block ?_
    refine w_seq ?_
    refine w_reg rfl ?_
    refine v_move rfl ?_
    have hq3 : i < _ := hi1
    refine v_idx_n (k := 19) i rdc_len lay31 lay61 rfl rfl rfl (rfl) rfl hq3 ?_
    refine v_load_vw (.agg [.f _ _, .f _ _, .f _ _, .f _ _, .f _ _, .f _ _, .f _ _, .f _ _, .f _ _, .f _ _, .f _ _, .f _ _, .f _ _, .f _ _, .f _ _, .f _ _, .f _ _, .f _ _, .f _ _]) lay61 rfl rfl rfl ?_
    refine v_alloc (m := 2) (H' := [_, _, ⟨[.f _ _, .f _ _, .f _ _, .f _ _, .f _ _, .f _ _, .f _ _, .f _ _, .f _ _, .f _ _, .f _ _, .f _ _, .f _ _, .f _ _, .f _ _, .f _ _, .f _ _, .f _ _, .f _ _], 61, true⟩]) lay61 rfl rfl ?_
    refine v_assign rfl ?_
    refine v_store (H' := [_, _, ⟨[_, _, _, _, _, _, _, _, _, _, _, _, _, _, _, _, _, _, _], 61, true⟩]) lay61 rfl rfl rfl rfl rfl rfl ?_
    refine v_nil ?_
    refine q_n ?_
    refine w_draw [0, 0, 2, 0, 14, 30, 62, 126, 0, 382, 1022, 2046, 4095, 8191] [⟨0, 0, []⟩, ⟨1, 0, []⟩, ⟨2, 0, []⟩, ⟨3, 0, []⟩, ⟨4, 0, []⟩, ⟨5, 0, []⟩, ⟨6, 0, []⟩, ⟨7, 0, []⟩, ⟨8, 0, []⟩, ⟨9, 0, []⟩, ⟨10, 0, []⟩, ⟨11, 1, []⟩, ⟨12, 1, []⟩, ⟨13, 0, []⟩] rfl rfl ?_
    refine d_q rfl rfl rfl rfl rfl ?_
    refine v_move rfl ?_
    refine v_nil ?_
    refine d_q rfl rfl rfl rfl rfl ?_
    refine v_fa_pt (off' := 1) lay35 rfl rfl rfl ?_
    refine v_nil ?_
    refine d_q rfl rfl rfl rfl rfl ?_
    refine v_load_pt (.c _) lay23 rfl rfl rfl rfl ?_
    refine v_nil ?_
    refine d_q rfl rfl rfl rfl rfl ?_
    refine v_move rfl ?_
    refine v_nil ?_
    refine d_q rfl rfl rfl rfl rfl ?_
    have hq4 : i < _ := hi2
    refine v_idx_n (k := 1) i fe_len lay23 lay26 rfl rfl rfl (rfl) rfl hq4 ?_
    refine v_nil ?_
    refine d_q rfl rfl rfl rfl rfl ?_
    refine v_load_vw (.c (.f _ _)) lay26 rfl rfl rfl ?_
    refine v_nil ?_
    refine d_call (cHxI _ (hF.2.1 _ (List.getElem_mem hi2))) rfl rfl rfl rfl rfl (.cons vw_f .nil) ?_
    refine d_q rfl rfl rfl rfl rfl ?_
    refine v_sadd lay9 rfl rfl (by unfold maxLen; first | omega | (simp only [List.length_append, List.length_cons, List.length_nil]; omega)) ?_
    refine v_nil ?_
    refine d_q rfl rfl rfl rfl rfl ?_
    refine v_load_pt (.agg [_, _, _, _, _, _, _, _, _, _, _, _, _, _, _, _, _, _, _]) lay61 rfl rfl rfl rfl ?_
    refine v_nil ?_
    refine d_call (cRdTI _ hrw hrd) rfl rfl rfl rfl rfl (.cons (vw_agg (.cons vw_f (.cons vw_f (.cons vw_f (.cons vw_f (.cons vw_f (.cons vw_f (.cons vw_f (.cons vw_f (.cons vw_f (.cons vw_f (.cons vw_f (.cons vw_f (.cons vw_f (.cons vw_f (.cons vw_f (.cons vw_f (.cons vw_f (.cons vw_f (.cons vw_f .nil)))))))))))))))))))) .nil) ?_
    refine d_q rfl rfl rfl rfl rfl ?_
    refine v_sadd lay9 rfl rfl (by unfold maxLen; first | omega | (simp only [List.length_append, List.length_cons, List.length_nil]; omega)) ?_
    refine v_nil ?_
    refine d_e rfl rfl rfl ?_
    refine v_lit (flat st [_]) (H' := [_, _, _, _]) lay57 lay9 rfl rfl ⟨by decide, by decide⟩ rfl rfl ?_
    refine v_nil ⟨again_nil, ?_⟩
    refine d_e rfl rfl rfl ?_
    refine v_app_flat (H' := [_, _, _, _, _]) st_sc st_len lay57 lay9 rfl rfl (by first | rfl | (simp; done)) rfl rfl (by first | rfl | (simp; done)) rfl rfl (by unfold maxLen; simp only []; omega) rfl rfl ?_
    refine v_nil ⟨again_nil, ?_⟩
    refine d_q rfl rfl rfl rfl rfl ?_
    refine v_assign rfl ?_
    refine v_nil ?_
    refine d_nil ?_
    refine q_bn ?_
    refine q_n ?_
    refine w_reg rfl ?_
    refine v_add lay3 rfl rfl (i64r (by omega)) ?_
    refine v_move rfl ?_
    refine v_nil ?_
    refine q_n ?_
    refine ⟨_, _, _, ?_, ⟨i + 1, rfl, by omega, rfl, rfl⟩, by omega⟩
    exact turn [some 0, some 4] rfl rfl rfl ⟨⟨_, rfl, .cons tr_sl (.cons tr_sl (.cons tr_sl (.cons tr_sl (.cons tr_v (.cons tr_f (.cons tr_f .nil))))))⟩, ⟨_, rfl, trc_flat st_sc (congrArg (flat st) (tls_i t hi1 hi2))⟩, trivial⟩ ⟨tr_pt rfl, tr_mun rfl (by rw [← tls_i t hi1 hi2, List.length_append]; rfl), tr_sl, tr_v, tr_v, trivial⟩
  have hie : i = t.1.length := by omega
  refine v_nil ?_
  refine q_n ?_
  refine w_seq ?_
  refine w_f rfl ?_
  refine w_exit ?_
  refine q_e ?_
  refine q_e ?_
  refine q_hit ?_
  refine q_n ?_
  refine w_seq ?_
  refine w_seq ?_
  refine w_reg rfl ?_
  refine v_fa_pt (off' := 3) lay35 rfl rfl rfl ?_
  refine v_load_pt (.c _) lay33 rfl rfl rfl rfl ?_
  refine v_len_sl lay33 rfl ?_
  refine v_move (c := .v (.int .i64 0)) rfl ?_
  refine v_nil ?_
  refine q_n ?_
  refine w_block ?_
  refine w_loop (fun k sl H => ∃ p : Nat, k = t.2.2.2.1.length - p ∧ p ≤ t.2.2.2.1.length ∧ sl = sls [(1, .c (.pt 0 0)), (3, .c (.mu 1 0 (tls t t.1.length p 0).length 1)), (51, .c (pls false t.2.2.2.1)), (52, cI t.2.2.2.1.length), (53, cI p)] ∧ H = [⟨twf false t, 35, true⟩, ⟨flat st (tls t t.1.length p 0), 9, true⟩]) ?_ ?_
  · subst hie
    refine ⟨_, _, _, ?_, 0, rfl, Nat.zero_le _, rfl, rfl⟩
    exact turn [some 0, some 1] rfl rfl rfl ⟨⟨_, rfl, .cons tr_sl (.cons tr_sl (.cons tr_sl (.cons tr_sl (.cons tr_v (.cons tr_f (.cons tr_f .nil))))))⟩, ⟨_, rfl, trc_flat st_sc (rfl)⟩, trivial⟩ ⟨tr_pt rfl, tr_mun rfl (rfl), tr_sl, tr_v, tr_v, trivial⟩
  rintro k sl H ⟨p, rfl, hp, rfl, rfl⟩
  refine w_seq ?_
  refine w_reg rfl ?_
  refine v_lss lay3 rfl rfl (fun h5 => ?_) (fun h5 => ?_)
  · have hp1 : p < t.2.2.2.1.length := by omega
    have hln := tls_l ho (p := p) (j := 0) (Nat.le_refl _)
    have hpo := ho.2.2.2.2.1 _ (List.getElem_mem hp1)
    have hpl : (plnL t.2.2.2.1[p]).length ≤ 400 := pws_l hpo (Nat.le_refl _)
    have htn := (tls_n ho (p := p) (j := 0) (Nat.le_refl _)).1
    refine v_nil ?_
    refine q_n ?_
    refine w_seq ?_
    refine w_t rfl ?_
    refine w_skip ?_
    refine q_n ?_
    refine w_seq ?_
    refine w_block ?_
    refine w_seq ?_
    refine w_reg rfl ?_
    have hq6 : p < _ := hp1
    refine v_idx_n (k := 3) p plc_len lay33 lay65 rfl rfl rfl (rfl) rfl hq6 ?_
    refine v_load_vw (.agg [_, .v _, .v _]) lay65 rfl rfl rfl ?_
    refine v_alloc (m := 2) (H' := [_, _, ⟨[.v _, .v _, .v _], 65, true⟩]) lay65 rfl rfl ?_
    refine v_store (H' := [_, _, ⟨[_, _, _], 65, true⟩]) lay65 rfl rfl rfl rfl rfl rfl ?_
    refine v_nil ?_
    refine q_n ?_
    refine w_reg rfl ?_
    refine v_move rfl ?_
    refine v_load_pt (.agg [_, _, _]) lay65 rfl rfl rfl rfl ?_
    refine v_call (cPlTI _ _ _ hpo) rfl rfl rfl (.cons (vw_agg (.cons vw_sl (.cons vw_v (.cons vw_v .nil)))) .nil) ?_
    refine v_lit (flat st [_]) (H' := [_, _, _, _]) lay57 lay9 rfl rfl ⟨by decide, by decide⟩ rfl rfl ?_
    refine v_app_flat (H' := [_, _, _, _, _]) st_sc st_len lay57 lay9 rfl rfl (by first | rfl | (simp; done)) rfl rfl (by first | rfl | (simp; done)) rfl rfl (by unfold maxLen; simp only []; omega) rfl rfl ?_
    refine v_assign rfl ?_
    refine v_nil ?_
    refine q_bn ?_
    refine q_n ?_
    refine w_reg rfl ?_
    refine v_add lay3 rfl rfl (i64r (by omega)) ?_
    refine v_move rfl ?_
    refine v_nil ?_
    refine q_n ?_
    refine ⟨_, _, _, ?_, ⟨p + 1, rfl, by omega, rfl, rfl⟩, by omega⟩
    exact turn [some 0, some 4] rfl rfl rfl ⟨⟨_, rfl, .cons tr_sl (.cons tr_sl (.cons tr_sl (.cons tr_sl (.cons tr_v (.cons tr_f (.cons tr_f .nil))))))⟩, ⟨_, rfl, trc_flat st_sc (congrArg (flat st) (tls_p t _ hp1))⟩, trivial⟩ ⟨tr_pt rfl, tr_mun rfl (by rw [← tls_p t _ hp1, List.length_append]; rfl), tr_sl, tr_v, tr_v, trivial⟩
  have hpe : p = t.2.2.2.1.length := by omega
  refine v_nil ?_
  refine q_n ?_
  refine w_seq ?_
  refine w_f rfl ?_
  refine w_exit ?_
  refine q_e ?_
  refine q_e ?_
  refine q_hit ?_
  refine q_n ?_
  refine w_seq ?_
  refine w_seq ?_
  refine w_reg rfl ?_
  refine v_fa_pt (off' := 2) lay35 rfl rfl rfl ?_
  refine v_load_pt (.c _) lay32 rfl rfl rfl rfl ?_
  refine v_len_sl lay32 rfl ?_
  refine v_move (c := .v (.int .i64 0)) rfl ?_
  refine v_nil ?_
  refine q_n ?_
  refine w_block ?_
  refine w_loop (fun k sl H => ∃ q : Nat, k = t.2.2.1.length - q ∧ q ≤ t.2.2.1.length ∧ sl = sls [(1, .c (.pt 0 0)), (3, .c (.mu 1 0 (tls t t.1.length t.2.2.2.1.length q).length 1)), (64, .c (jos false t.2.2.1)), (65, cI t.2.2.1.length), (66, cI q)] ∧ H = [⟨twf false t, 35, true⟩, ⟨flat st (tls t t.1.length t.2.2.2.1.length q), 9, true⟩]) ?_ ?_
  · subst hpe
    refine ⟨_, _, _, ?_, 0, rfl, Nat.zero_le _, rfl, rfl⟩
    exact turn [some 0, some 1] rfl rfl rfl ⟨⟨_, rfl, .cons tr_sl (.cons tr_sl (.cons tr_sl (.cons tr_sl (.cons tr_v (.cons tr_f (.cons tr_f .nil))))))⟩, ⟨_, rfl, trc_flat st_sc (rfl)⟩, trivial⟩ ⟨tr_pt rfl, tr_mun rfl (rfl), tr_sl, tr_v, tr_v, trivial⟩
  rintro k sl H ⟨q, rfl, hq, rfl, rfl⟩
  refine w_seq ?_
  refine w_reg rfl ?_
  refine v_lss lay3 rfl rfl (fun h7 => ?_) (fun h7 => ?_)
  rotate_left
  · obtain rfl : q = t.2.2.1.length := by omega
    have htj := tls_join ho
    have hj0 : tls t t.1.length t.2.2.2.1.length t.2.2.1.length ≠ [] := tls_ne
    have hj1 : (tls t t.1.length t.2.2.2.1.length t.2.2.1.length).length ≤ 1048576 := by have := (tls_n ho (p := t.2.2.2.1.length) (j := t.2.2.1.length) (Nat.le_refl _)).1; omega
    have hj2 : (Lib.join (tls t t.1.length t.2.2.2.1.length t.2.2.1.length) [10]).length ≤ 1099511627776 := Nat.le_trans (htj) (by decide)
    refine v_nil ?_
    refine q_n ?_
    refine w_seq ?_
    refine w_f rfl ?_
    refine w_exit ?_
    refine q_e ?_
    refine q_e ?_
    refine q_hit ?_
    refine q_n ?_
    refine w_seq ?_
    refine w_reg rfl ?_
    refine v_move rfl ?_
    refine v_call (cJoin (tls t t.1.length t.2.2.2.1.length t.2.2.1.length) [10] hj0 hj1 hj2) rfl rfl rfl (.cons (vw_mu2 st_sc st_len rfl (rfl)) (.cons vw_v .nil)) ?_
    refine v_sadd lay9 rfl rfl (by unfold maxLen; have : (Lib.join _ [10]).length ≤ 16000 := htj; simp only [List.length_cons, List.length_nil]; omega) ?_
    refine v_assign rfl ?_
    refine v_nil ?_
    refine q_n ?_
    refine w_ret ?_
    refine r_r rfl ?_
    exact a_s ((join_nl _ tls_ne).trans (if_pos hok).symm)
  have hq1 : q < t.2.2.1.length := by omega
  have hln := tls_l ho (p := t.2.2.2.1.length) (j := q) (Nat.le_refl _)
  have hg := jgood ho (List.getElem_mem hq1)
  have hjl := joTx_len hg
  obtain ⟨hg1, hg2, hg3, ⟨hg4, hg5⟩, hg6⟩ := hg
  have hjw := hF.2.2.1 _ (List.getElem_mem hq1)
  have htn := (tls_n ho (p := t.2.2.2.1.length) (j := q) (Nat.le_refl _)).1
  refine v_nil ?_
  refine q_n ?_
  refine w_seq ?_
  refine w_t rfl ?_
  refine w_skip ?_
  refine q_n ?_
  refine w_seq ?_
  refine w_block ?_
  refine w_seq ?_
  refine w_reg rfl ?_
  have hq8 : q < _ := hq1
  refine v_idx_n (k := 25) q joc_len lay32 lay75 rfl rfl rfl (rfl) rfl hq8 ?_
  refine v_load_vw (.agg [.v _, .v _, .f _ _, .f _ _, .f _ _, .f _ _, .f _ _, .f _ _, .f _ _, .f _ _, .f _ _, .f _ _, .f _ _, .f _ _, .f _ _, .f _ _, .f _ _, .f _ _, .f _ _, .f _ _, .f _ _, .f _ _, _, _, .v _]) lay75 rfl rfl rfl ?_
  refine v_alloc (m := 2) (H' := [_, _, ⟨[.v _, .v _, .f _ _, .f _ _, .f _ _, .f _ _, .f _ _, .f _ _, .f _ _, .f _ _, .f _ _, .f _ _, .f _ _, .f _ _, .f _ _, .f _ _, .f _ _, .f _ _, .f _ _, .f _ _, .f _ _, .f _ _, .v _, .v _, .v _], 75, true⟩]) lay75 rfl rfl ?_
  refine v_store (H' := [_, _, ⟨[_, _, _, _, _, _, _, _, _, _, _, _, _, _, _, _, _, _, _, _, _, _, _, _, _], 75, true⟩]) lay75 rfl rfl rfl rfl rfl rfl ?_
  refine v_nil ?_
  refine q_n ?_
  refine w_reg rfl ?_
  refine v_move rfl ?_
  refine v_load_pt (.agg [_, _, _, _, _, _, _, _, _, _, _, _, _, _, _, _, _, _, _, _, _, _, _, _, _]) lay75 rfl rfl rfl rfl ?_
  refine v_call (cJoTI _ hjw hg1 hg2 hg3 ⟨hg4, hg5⟩ hg6) rfl rfl rfl (.cons (vw_agg (.cons vw_v (.cons vw_v (.cons vw_f (.cons vw_f (.cons vw_f (.cons vw_f (.cons vw_f (.cons vw_f (.cons vw_f (.cons vw_f (.cons vw_f (.cons vw_f (.cons vw_f (.cons vw_f (.cons vw_f (.cons vw_f (.cons vw_f (.cons vw_f (.cons vw_f (.cons vw_f (.cons vw_f (.cons vw_f (.cons vw_sl (.cons vw_sl (.cons vw_v .nil)))))))))))))))))))))))))) .nil) ?_
  refine v_lit (flat st [_]) (H' := [_, _, _, _]) lay57 lay9 rfl rfl ⟨by decide, by decide⟩ rfl rfl ?_
  refine v_app_flat (H' := [_, _, _, _, _]) st_sc st_len lay57 lay9 rfl rfl (by first | rfl | (simp; done)) rfl rfl (by first | rfl | (simp; done)) rfl rfl (by unfold maxLen; simp only []; omega) rfl rfl ?_
  refine v_assign rfl ?_
  refine v_nil ?_
  refine q_bn ?_
  refine q_n ?_
  refine w_reg rfl ?_
  refine v_add lay3 rfl rfl (i64r (by omega)) ?_
  refine v_move rfl ?_
  refine v_nil ?_
  refine q_n ?_
  refine ⟨_, _, _, ?_, ⟨q + 1, rfl, by omega, rfl, rfl⟩, by omega⟩
  exact turn [some 0, some 4] rfl rfl rfl ⟨⟨_, rfl, .cons tr_sl (.cons tr_sl (.cons tr_sl (.cons tr_sl (.cons tr_v (.cons tr_f (.cons tr_f .nil))))))⟩, ⟨_, rfl, trc_flat st_sc (congrArg (flat st) (tls_j t _ _ hq1))⟩, trivial⟩ ⟨tr_pt rfl, tr_mun rfl (by rw [← tls_j t _ _ hq1, List.length_append]; rfl), tr_sl, tr_v, tr_v, trivial⟩

theorem cLawText (t : Tw) (hM : tB maxLen t) (hF : tF t) : PureC X 3 [.agg (twf false t)] (cB true) := by
  refine PureC.of_body (drawD_ok X) (fun _ _ => Go.Proofs.Tryz.call3 _ _) Go.Proofs.Tryz.func3 rfl (n := 27) rfl ?_
  refine w_seq ?_
  refine w_reg rfl ?_
  refine v_box (m := 0) (H' := [_]) lay28 rfl rfl rfl ?_
  refine v_assign (c := .v (.bool false)) rfl ?_
  refine v_nil ?_
  refine q_n ?_
  refine w_seq ?_
  refine w_reg rfl ?_
  refine v_assign (c := .v (.int .i64 1048576)) rfl ?_
  refine v_nil ?_
  refine q_n ?_
  refine w_seq ?_
  refine w_reg rfl ?_
  refine v_load_pt (.agg [_, _, _, _, _, _, _]) lay28 rfl rfl rfl rfl ?_
  refine v_move rfl ?_
  refine v_call (cSzTown _ _ (by decide) (by assumption)) rfl rfl rfl (.cons (vw_agg (.cons vw_sl (.cons vw_sl (.cons vw_sl (.cons vw_sl (.cons vw_v (.cons vw_f (.cons vw_f .nil)))))))) (.cons vw_v .nil)) ?_
  refine v_assign rfl ?_
  refine v_nil ?_
  refine q_n ?_
  refine w_seq ?_
  refine w_seq ?_
  refine w_reg rfl ?_
  refine v_move rfl ?_
  refine v_lss lay3 rfl rfl (fun h1 => ?_) (fun h1 => ?_)
  · refine v_nil ?_
    refine q_n ?_
    refine w_t rfl ?_
    refine w_seq ?_
    refine w_reg rfl ?_
    refine v_assign (c := .v (.bool true)) rfl ?_
    refine v_nil ?_
    refine q_n ?_
    refine w_ret (q_r ?_)
    refine r_r rfl ?_
    exact tr_v
  have hz1 := szT_le (by decide) h1
  have hB := hz1.1
  refine v_nil ?_
  refine q_n ?_
  refine w_f rfl ?_
  refine w_skip ?_
  refine q_n ?_
  refine w_seq ?_
  refine w_reg rfl ?_
  refine v_load_pt (.agg [_, _, _, _, _, _, _]) lay28 rfl rfl rfl rfl ?_
  refine v_call (cToTown _ hB) rfl rfl rfl (.cons (vw_agg (.cons vw_sl (.cons vw_sl (.cons vw_sl (.cons vw_sl (.cons vw_v (.cons vw_f (.cons vw_f .nil)))))))) .nil) ?_
  refine v_call (cTnS _ hB hF) rfl rfl rfl (.cons (vw_agg (.cons vw_sl (.cons vw_sl (.cons vw_sl (.cons vw_sl (.cons vw_v (.cons vw_f (.cons vw_f .nil)))))))) .nil) ?_
  refine v_assign rfl ?_
  refine v_nil ?_
  refine q_n ?_
  refine w_seq ?_
  refine w_reg rfl ?_
  refine v_load_pt (.agg [_, _, _, _, _, _, _]) lay28 rfl rfl rfl rfl ?_
  refine v_call (cToTown _ hB) rfl rfl rfl (.cons (vw_agg (.cons vw_sl (.cons vw_sl (.cons vw_sl (.cons vw_sl (.cons vw_v (.cons vw_f (.cons vw_f .nil)))))))) .nil) ?_
  refine v_alloc (m := 1) (H' := [_, ⟨[.v _, .v _, .v _, .v _, .v _, .f _ _, .f _ _], 35, true⟩]) lay35 rfl rfl ?_
  refine v_store (H' := [_, ⟨[_, _, _, _, _, _, _], 35, true⟩]) lay35 rfl rfl rfl rfl rfl rfl ?_
  refine v_nil ?_
  refine q_n ?_
  refine w_seq ?_
  refine w_reg rfl ?_
  refine v_load_pt (.agg [_, _, _, _, _, _, _]) lay35 rfl rfl rfl rfl ?_
  refine v_call (cTnI _ hB hF) rfl rfl rfl (.cons (vw_agg (.cons vw_sl (.cons vw_sl (.cons vw_sl (.cons vw_sl (.cons vw_v (.cons vw_f (.cons vw_f .nil)))))))) .nil) ?_
  refine v_assign rfl ?_
  refine v_nil ?_
  refine q_n ?_
  refine w_seq ?_
  refine w_seq ?_
  refine w_reg rfl ?_
  refine v_move rfl ?_
  refine v_move rfl ?_
  refine v_sneq lay9 rfl rfl (fun h2 => ?_) (fun h2 => ?_)
  · exact absurd rfl h2
  refine v_nil ?_
  refine q_n ?_
  refine w_f rfl ?_
  refine w_skip ?_
  refine q_n ?_
  refine w_seq ?_
  refine w_seq ?_
  refine w_draw [0, 0, 2, 7, 15] [⟨0, 0, []⟩, ⟨1, 0, []⟩, ⟨2, 0, []⟩, ⟨3, 0, []⟩, ⟨4, 0, []⟩] rfl rfl ?_
  refine d_q rfl rfl rfl rfl rfl ?_
  refine v_load_pt (.agg [_, _, _, _, _, _, _]) lay35 rfl rfl rfl rfl ?_
  refine v_nil ?_
  refine d_q rfl rfl rfl rfl rfl ?_
  refine v_load_pt (.agg [_, _, _, _, _, _, _]) lay28 rfl rfl rfl rfl ?_
  refine v_nil ?_
  refine d_call (cToTown _ hB) rfl rfl rfl rfl rfl (.cons (vw_agg (.cons vw_sl (.cons vw_sl (.cons vw_sl (.cons vw_sl (.cons vw_v (.cons vw_f (.cons vw_f .nil)))))))) .nil) ?_
  refine d_callb (cEqTown _ hB hF) rfl rfl rfl rfl (.cons (vw_agg (.cons vw_sl (.cons vw_sl (.cons vw_sl (.cons vw_sl (.cons vw_v (.cons vw_f (.cons vw_f .nil)))))))) (.cons (vw_agg (.cons vw_sl (.cons vw_sl (.cons vw_sl (.cons vw_sl (.cons vw_v (.cons vw_f (.cons vw_f .nil)))))))) .nil)) (fun h3 => ?_) (fun h3 => ?_)
  rotate_left
  · exact absurd trivial h3
  refine d_q rfl rfl rfl rfl rfl ?_
  refine v_not false rfl rfl ?_
  refine v_nil ?_
  refine d_nil ?_
  refine q_n ?_
  refine w_f rfl ?_
  refine w_skip ?_
  refine q_n ?_
  refine w_seq ?_
  refine w_reg rfl ?_
  refine v_assign (c := .v (.bool true)) rfl ?_
  refine v_nil ?_
  refine q_n ?_
  refine w_ret ?_
  refine r_r rfl ?_
  exact tr_v
end Go.VL
namespace Go.VL
open Go.RowKit
set_option maxRecDepth 20000
set_option maxHeartbeats 8000000
theorem sg_of {x : Nat} (hw : (Lit.float .f32 x).wf = true) : Sg (fOf .f32 x) := by
  refine ⟨okF_fOf x, fun b h => ?_⟩
  have hlt : x < 2 ^ 32 := by simpa [Lit.wf] using hw
  unfold fOf at h
  split at h
  · cases h
  · simp only [Option.some.injEq] at h
    subst h
    exact hlt
theorem cty_sg {cs : List C} (h : Cty X.lay 26 cs) : ∃ x, cs = [.f .f32 x] ∧ Sg x := by
  obtain ⟨x, e, hw⟩ := cty_float lay26 h
  exact ⟨_, e, sg_of hw⟩
theorem cty_ca {cs : List C} (h : Cty X.lay 58 cs) : ∃ g : Fin 16 → Option Nat, cs = cac g ∧ ∀ i (hi : i < 16), Sg (g ⟨i, hi⟩) := by
  obtain ⟨h1, h2⟩ := cty_array lay58 h
  match cs, h1 with
  | [c0, c1, c2, c3, c4, c5, c6, c7, c8, c9, c10, c11, c12, c13, c14, c15], _ =>
    obtain ⟨x0, e0, w0⟩ := cty_sg (cs := [c0]) (h2 0 (by decide))
    obtain ⟨x1, e1, w1⟩ := cty_sg (cs := [c1]) (h2 1 (by decide))
    obtain ⟨x2, e2, w2⟩ := cty_sg (cs := [c2]) (h2 2 (by decide))
    obtain ⟨x3, e3, w3⟩ := cty_sg (cs := [c3]) (h2 3 (by decide))
    obtain ⟨x4, e4, w4⟩ := cty_sg (cs := [c4]) (h2 4 (by decide))
    obtain ⟨x5, e5, w5⟩ := cty_sg (cs := [c5]) (h2 5 (by decide))
    obtain ⟨x6, e6, w6⟩ := cty_sg (cs := [c6]) (h2 6 (by decide))
    obtain ⟨x7, e7, w7⟩ := cty_sg (cs := [c7]) (h2 7 (by decide))
    obtain ⟨x8, e8, w8⟩ := cty_sg (cs := [c8]) (h2 8 (by decide))
    obtain ⟨x9, e9, w9⟩ := cty_sg (cs := [c9]) (h2 9 (by decide))
    obtain ⟨x10, e10, w10⟩ := cty_sg (cs := [c10]) (h2 10 (by decide))
    obtain ⟨x11, e11, w11⟩ := cty_sg (cs := [c11]) (h2 11 (by decide))
    obtain ⟨x12, e12, w12⟩ := cty_sg (cs := [c12]) (h2 12 (by decide))
    obtain ⟨x13, e13, w13⟩ := cty_sg (cs := [c13]) (h2 13 (by decide))
    obtain ⟨x14, e14, w14⟩ := cty_sg (cs := [c14]) (h2 14 (by decide))
    obtain ⟨x15, e15, w15⟩ := cty_sg (cs := [c15]) (h2 15 (by decide))
    simp only [List.cons.injEq, and_true] at e0 e1 e2 e3 e4 e5 e6 e7 e8 e9 e10 e11 e12 e13 e14 e15
    subst e0 e1 e2 e3 e4 e5 e6 e7 e8 e9 e10 e11 e12 e13 e14 e15
    refine ⟨fun i => [x0, x1, x2, x3, x4, x5, x6, x7, x8, x9, x10, x11, x12, x13, x14, x15].getD i.val none, rfl, fun i hi => ?_⟩
    match i, hi with
    | 0, _ => exact w0
    | 1, _ => exact w1
    | 2, _ => exact w2
    | 3, _ => exact w3
    | 4, _ => exact w4
    | 5, _ => exact w5
    | 6, _ => exact w6
    | 7, _ => exact w7
    | 8, _ => exact w8
    | 9, _ => exact w9
    | 10, _ => exact w10
    | 11, _ => exact w11
    | 12, _ => exact w12
    | 13, _ => exact w13
    | 14, _ => exact w14
    | 15, _ => exact w15
    | k + 16, h => exact absurd h (by omega)
theorem cty_fo {cs : List C} (h : Cty X.lay 67 cs) : ∃ g : Fin 4 → Option Nat, cs = foc g ∧ ∀ i (hi : i < 4), Sg (g ⟨i, hi⟩) := by
  obtain ⟨h1, h2⟩ := cty_array lay67 h
  match cs, h1 with
  | [c0, c1, c2, c3], _ =>
    obtain ⟨x0, e0, w0⟩ := cty_sg (cs := [c0]) (h2 0 (by decide))
    obtain ⟨x1, e1, w1⟩ := cty_sg (cs := [c1]) (h2 1 (by decide))
    obtain ⟨x2, e2, w2⟩ := cty_sg (cs := [c2]) (h2 2 (by decide))
    obtain ⟨x3, e3, w3⟩ := cty_sg (cs := [c3]) (h2 3 (by decide))
    simp only [List.cons.injEq, and_true] at e0 e1 e2 e3
    subst e0 e1 e2 e3
    refine ⟨fun i => [x0, x1, x2, x3].getD i.val none, rfl, fun i hi => ?_⟩
    match i, hi with
    | 0, _ => exact w0
    | 1, _ => exact w1
    | 2, _ => exact w2
    | 3, _ => exact w3
theorem cty_fl {cs : List C} (h : Cty X.lay 68 cs) : ∃ T : Fl, cs = flc T ∧ ∀ i (hi : i < 4) k (hk : k < 4), Sg (T ⟨i, hi⟩ ⟨k, hk⟩) := by
  obtain ⟨h1, h2⟩ := cty_array lay68 h
  match cs, h1 with
  | [c0, c1, c2, c3, c4, c5, c6, c7, c8, c9, c10, c11, c12, c13, c14, c15], _ =>
    obtain ⟨g0, e0, w0⟩ := cty_fo (cs := [c0, c1, c2, c3]) (h2 0 (by decide))
    obtain ⟨g1, e1, w1⟩ := cty_fo (cs := [c4, c5, c6, c7]) (h2 1 (by decide))
    obtain ⟨g2, e2, w2⟩ := cty_fo (cs := [c8, c9, c10, c11]) (h2 2 (by decide))
    obtain ⟨g3, e3, w3⟩ := cty_fo (cs := [c12, c13, c14, c15]) (h2 3 (by decide))
    simp only [List.cons.injEq, and_true] at e0 e1 e2 e3
    obtain ⟨rfl, rfl, rfl, rfl⟩ := e0
    obtain ⟨rfl, rfl, rfl, rfl⟩ := e1
    obtain ⟨rfl, rfl, rfl, rfl⟩ := e2
    obtain ⟨rfl, rfl, rfl, rfl⟩ := e3
    refine ⟨fun i => [g0, g1, g2, g3].getD i.val g0, rfl, fun i hi => ?_⟩
    match i, hi with
    | 0, _ => exact w0
    | 1, _ => exact w1
    | 2, _ => exact w2
    | 3, _ => exact w3
theorem cty_rd {cs : List C} (h : Cty X.lay 123 cs) : ∃ r : Rd, cs = rdc r ∧ rW r := by
  obtain ⟨h1, h2⟩ := cty_struct lay123 h
  obtain ⟨g, e0, w0⟩ := cty_ca (h2 (58, 0) (by simp))
  obtain ⟨x, e1, w1⟩ := cty_sg (h2 (26, 16) (by simp))
  obtain ⟨y, e2, w2⟩ := cty_sg (h2 (26, 17) (by simp))
  obtain ⟨z, e3, w3⟩ := cty_sg (h2 (26, 18) (by simp))
  match cs, h1 with
  | [c0, c1, c2, c3, c4, c5, c6, c7, c8, c9, c10, c11, c12, c13, c14, c15, c16, c17, c18], _ =>
    have q0 : [c0, c1, c2, c3, c4, c5, c6, c7, c8, c9, c10, c11, c12, c13, c14, c15] = cac g := e0
    have q1 : [c16] = [.f .f32 x] := e1
    have q2 : [c17] = [.f .f32 y] := e2
    have q3 : [c18] = [.f .f32 z] := e3
    simp only [List.cons.injEq, and_true] at q0 q1 q2 q3
    obtain ⟨rfl, rfl, rfl, rfl, rfl, rfl, rfl, rfl, rfl, rfl, rfl, rfl, rfl, rfl, rfl, rfl⟩ := q0
    subst q1 q2 q3
    exact ⟨(g, x, y, z), rfl, w0, w1, w2, w3⟩
theorem cty_jn {cs : List C} (h : Cty X.lay 99 cs) : ∃ j : Jn, cs = jnc j ∧ jW j := by
  obtain ⟨h1, h2⟩ := cty_struct lay99 h
  obtain ⟨a, e0, -⟩ := cty_int lay2 (h2 (2, 0) (by simp))
  obtain ⟨b, e1, -⟩ := cty_int lay2 (h2 (2, 1) (by simp))
  obtain ⟨T, e2, w2⟩ := cty_fl (h2 (68, 2) (by simp))
  obtain ⟨g, e3, w3⟩ := cty_fo (h2 (67, 18) (by simp))
  match cs, h1 with
  | [c0, c1, c2, c3, c4, c5, c6, c7, c8, c9, c10, c11, c12, c13, c14, c15, c16, c17, c18, c19, c20, c21], _ =>
    have q0 : [c0] = [.v (.int .i64 a)] := e0
    have q1 : [c1] = [.v (.int .i64 b)] := e1
    have q2 : [c2, c3, c4, c5, c6, c7, c8, c9, c10, c11, c12, c13, c14, c15, c16, c17] = flc T := e2
    have q3 : [c18, c19, c20, c21] = foc g := e3
    simp only [List.cons.injEq, and_true] at q0 q1 q2 q3
    obtain ⟨rfl, rfl, rfl, rfl, rfl, rfl, rfl, rfl, rfl, rfl, rfl, rfl, rfl, rfl, rfl, rfl⟩ := q2
    obtain ⟨rfl, rfl, rfl, rfl⟩ := q3
    subst q0 q1
    exact ⟨(a, b, T, g), rfl, w2, w3⟩
theorem cty_ints {cs : List C} (h : Cty X.lay 73 cs) : ∃ xs : List Int, cs = [.sl true xs.length 1 (flat int xs)] ∧ xs.length ≤ maxLen := by
  obtain ⟨xs, e, hx, hn⟩ := cty_slice lay73 h
  obtain ⟨zs, k1, k2, -⟩ := flat_of2 (enc := int) (p := fun _ => True) (xs := xs) fun x hm => by
    obtain ⟨n, hn, -⟩ := cty_int lay2 (hx x hm)
    exact ⟨n, hn, trivial⟩
  exact ⟨zs, by rw [← k2, k1]; exact e, by omega⟩
theorem cty_flos {cs : List C} (h : Cty X.lay 23 cs) : ∃ xs : List (Option Nat), cs = [.sl true xs.length 1 (flat fe xs)] ∧ xs.length ≤ maxLen ∧ ∀ x ∈ xs, Sg x := by
  obtain ⟨xs, e, hx, hn⟩ := cty_slice lay23 h
  obtain ⟨zs, k1, k2, k3⟩ := flat_of2 (enc := fe) (p := Sg) (xs := xs) fun x hm => cty_sg (hx x hm)
  exact ⟨zs, by rw [← k2, k1]; exact e, by omega, k3⟩
theorem cty_jo {cs : List C} (h : Cty X.lay 101 cs) : ∃ j : Jo, cs = joc j ∧ (j.2.1.length ≤ maxLen ∧ j.2.2.1.length ≤ maxLen) ∧ jW j.1 := by
  obtain ⟨h1, h2⟩ := cty_struct lay101 h
  obtain ⟨j, e0, w0⟩ := cty_jn (h2 (99, 0) (by simp))
  obtain ⟨xs, e1, w1⟩ := cty_ints (h2 (73, 22) (by simp))
  obtain ⟨ys, e2, w2⟩ := cty_ints (h2 (73, 23) (by simp))
  obtain ⟨p, e3, -⟩ := cty_int lay2 (h2 (2, 24) (by simp))
  match cs, h1 with
  | [c0, c1, c2, c3, c4, c5, c6, c7, c8, c9, c10, c11, c12, c13, c14, c15, c16, c17, c18, c19, c20, c21, c22, c23, c24], _ =>
    have q0 : [c0, c1, c2, c3, c4, c5, c6, c7, c8, c9, c10, c11, c12, c13, c14, c15, c16, c17, c18, c19, c20, c21] = jnc j := e0
    have q1 : [c22] = [.sl true xs.length 1 (flat int xs)] := e1
    have q2 : [c23] = [.sl true ys.length 1 (flat int ys)] := e2
    have q3 : [c24] = [.v (.int .i64 p)] := e3
    simp only [List.cons.injEq, and_true] at q0 q1 q2 q3
    obtain ⟨rfl, rfl, rfl, rfl, rfl, rfl, rfl, rfl, rfl, rfl, rfl, rfl, rfl, rfl, rfl, rfl, rfl, rfl, rfl, rfl, rfl, rfl⟩ := q0
    subst q1 q2 q3
    exact ⟨(j, xs, ys, p), rfl, ⟨w1, w2⟩, w0⟩
theorem cty_slo {cs : List C} (h : Cty X.lay 229 cs) : ∃ s : Slo, cs = stc s ∧ -9223372036854775808 ≤ s.2 ∧ s.2 ≤ 9223372036854775807 := by
  obtain ⟨h1, h2⟩ := cty_struct lay229 h
  obtain ⟨g, e0⟩ := cty_ph lay139 lay4 rfl (h2 (139, 0) (by simp))
  obtain ⟨x, e1, w1, w2⟩ := cty_int lay2 (h2 (2, 8) (by simp))
  match cs, h1 with
  | [c0, c1, c2, c3, c4, c5, c6, c7, c8], _ =>
    have q0 : [c0, c1, c2, c3, c4, c5, c6, c7] = phc g := e0
    have q1 : [c8] = [.v (.int .i64 x)] := e1
    simp only [List.cons.injEq, and_true] at q0 q1
    obtain ⟨rfl, rfl, rfl, rfl, rfl, rfl, rfl, rfl⟩ := q0
    subst q1
    exact ⟨(g, x), rfl, w1, w2⟩
theorem cty_pln {cs : List C} (h : Cty X.lay 105 cs) : ∃ p : Pln, cs = plc p ∧ p.1.length ≤ maxLen ∧ pW p := by
  obtain ⟨h1, h2⟩ := cty_struct lay105 h
  match cs, h1 with
  | [c0, c1, c2], _ =>
    obtain ⟨xs, e0, hx, hn⟩ := cty_slice lay103 (h2 (103, 0) (by simp))
    obtain ⟨b, e1, -⟩ := cty_int lay2 (h2 (2, 1) (by simp))
    obtain ⟨f, e2, -⟩ := cty_int lay2 (h2 (2, 2) (by simp))
    obtain ⟨ys, k1, k2, k3⟩ := flat_of2 (enc := stc) (p := fun s => -9223372036854775808 ≤ s.2 ∧ s.2 ≤ 9223372036854775807) (xs := xs) fun x hxm => cty_slo (hx x hxm)
    have q0 : [c0] = [.sl true xs.length 9 xs.flatten] := e0
    have q1 : [c1] = [.v (.int .i64 b)] := e1
    have q2 : [c2] = [.v (.int .i64 f)] := e2
    simp only [List.cons.injEq, and_true] at q0 q1 q2
    subst q0 q1 q2
    exact ⟨(ys, b, f), by rw [k2, ← k1]; rfl, by rw [k1]; exact hn, k3⟩
theorem vty_town {v : V} (h : VTy X.lay 28 v) : ∃ t : Tw, v = .agg (twf false t) ∧ tB maxLen t ∧ tF t := by
  unfold VTy at h
  rw [lay28] at h
  simp only [LK.agg, if_true] at h
  obtain ⟨cs, rfl, hc⟩ := h
  obtain ⟨h1, h2⟩ := cty_struct lay28 hc
  match cs, h1 with
  | [c0, c1, c2, c3, c4, c5, c6], _ =>
    obtain ⟨rs, e0, hx0, n0⟩ := cty_slice lay22 (h2 (22, 0) (by simp))
    obtain ⟨ofs, e1, n1, w1⟩ := cty_flos (h2 (23, 1) (by simp))
    obtain ⟨js, e2, hx2, n2⟩ := cty_slice lay24 (h2 (24, 2) (by simp))
    obtain ⟨ps, e3, hx3, n3⟩ := cty_slice lay25 (h2 (25, 3) (by simp))
    obtain ⟨k, e4, -⟩ := cty_int lay2 (h2 (2, 4) (by simp))
    obtain ⟨x, e5, w5⟩ := cty_sg (h2 (26, 5) (by simp))
    obtain ⟨y, e6, w6⟩ := cty_sg (h2 (26, 6) (by simp))
    obtain ⟨rs', a1, a2, a3⟩ := flat_of2 (enc := rdc) (p := rW) (xs := rs) fun x hm => cty_rd (hx0 x hm)
    obtain ⟨js', b1, b2, b3⟩ := flat_of2 (enc := joc) (p := fun j => (j.2.1.length ≤ maxLen ∧ j.2.2.1.length ≤ maxLen) ∧ jW j.1) (xs := js) fun x hm => cty_jo (hx2 x hm)
    obtain ⟨ps', d1, d2, d3⟩ := flat_of2 (enc := plc) (p := fun p => p.1.length ≤ maxLen ∧ pW p) (xs := ps) fun x hm => cty_pln (hx3 x hm)
    have q0 : [c0] = [.sl true rs.length 19 rs.flatten] := e0
    have q1 : [c1] = [.sl true ofs.length 1 (flat fe ofs)] := e1
    have q2 : [c2] = [.sl true js.length 25 js.flatten] := e2
    have q3 : [c3] = [.sl true ps.length 3 ps.flatten] := e3
    have q4 : [c4] = [.v (.int .i64 k)] := e4
    have q5 : [c5] = [.f .f32 x] := e5
    have q6 : [c6] = [.f .f32 y] := e6
    simp only [List.cons.injEq, and_true] at q0 q1 q2 q3 q4 q5 q6
    subst q0 q1 q2 q3 q4 q5 q6
    refine ⟨(rs', ofs, js', ps', k, x, y), by rw [a2, b2, d2, ← a1, ← b1, ← d1]; rfl, ⟨?_, n1, ?_, fun j hj => (b3 j hj).1, ?_, fun p hp => (d3 p hp).1⟩, a3, w1, fun j hj => (b3 j hj).2, w5, w6, fun p hp => (d3 p hp).2⟩
    · show rs'.length ≤ maxLen
      omega
    · show js'.length ≤ maxLen
      omega
    · show ps'.length ≤ maxLen
      omega
end Go.VL
namespace Go.Proofs.YtcdcofpcfhojiaaGreatDoor
namespace B0
open Go.RowKit Go.WideShapes Go.ChangeShapes Go.ChangeAt
section
variable {H : Type} {enc : TypeId × Value → H} {P : Program}

theorem post_of_below {f : Func} {s : ChangeSpec} {apart fresh handsOn again : Bool} {W W' : World} {args : Array Value} {v : Value} {ds gs : List (DataW H)} {before pa pv : List MemPlace}
    (hW : DataW.Whole enc P f.params.toList s.vars apart W args.toList ds gs before)
    (hres : ∀ (b : Nat) (sp : Nat → Bool) (hd : Bool), DataW.TrodAll enc P W' b sp hd f.resultTypes.toList (v.resultList f.resultTypes.size) (s.fn H (ds ++ gs)).results [])
    (hargs : ∀ sp : Nat → Bool, (∀ p ∈ before, sp p.block = true) → DataW.TrodAll enc P W' 0 sp true f.params.toList args.toList (s.fn H (ds ++ gs)).args pa)
    (hvars : ∀ sp : Nat → Bool, (∀ p ∈ before, sp p.block = true) → DataW.TrodVars enc P W' sp s.vars (s.fn H (ds ++ gs)).vars pv)
    (hps : before = pa ++ pv) (hb : Below W.heap.size W W')
    (hok : ∀ (j : Nat) (t : TypeId) (r : Value), f.resultTypes[j]? = some t → (v.resultList f.resultTypes.size)[j]? = some r → Value.okWide P W' .any 0 t r) :
    s.post enc P f apart fresh handsOn again W args v W' := by
  have hlt : ∀ p ∈ before, p.block < W.heap.size := fun p hp => hW.lt p hp
  have hold : ∀ p ∈ before, (fun b => decide (b < W.heap.size)) p.block = true := fun p hp => by simpa using hlt p hp
  refine ⟨ds, gs, before, [], pa, pv, hW, hres _ _ _, hargs _ hold, hvars _ hold, World.keptBut_mono (fun p hp => ⟨hp, ?_⟩) (hb.frame (· ∈ before)), fun _ => ?_⟩
  · rw [hps, List.mem_append] at hp
    exact Or.inr hp
  · obtain ⟨_, _, _, _, _, hz, hn⟩ := hW
    refine ⟨hok, _, _, ([] ++ pa) ++ pv, ⟨[] ++ pa, pv, trodAll_append (hargs _ (fun _ _ => rfl)) (hres _ _ _), hvars _ (fun _ _ => rfl), rfl, ?_, ?_⟩, ?_⟩
    · intro b off hp
      have hin : MemPlace.cell b off ∈ before := by rw [hps]; simpa using hp
      rw [hb.frozen (hlt _ hin)]
      exact hz b off hin
    · intro ha
      have := hn ha
      rw [hps] at this
      simpa using this
    · intro p hp _
      rw [hps]
      simpa using hp

theorem trodAll_stays (hl : laidOutB P = true) {W W' : World} {sp' : Nat → Bool} : ∀ {ts : List TypeId} {vs : List Value} {ds : List (DataW H)} {ps : List MemPlace},
    (∀ t ∈ ts, P.readableRec t = true ∧ t < P.types.size) → DataW.TrodAll enc P W 0 (fun _ => true) true ts vs ds ps → (∀ p ∈ ps, W.sameAt W' p) → (∀ p ∈ ps, sp' p.block = true) →
    DataW.TrodAll enc P W' 0 sp' true ts vs ds ps
  | [], vs, ds, ps, _, h, _, _ => by
    obtain ⟨rfl, rfl, rfl⟩ := trodAll_nil h
    exact rfl
  | t :: ts, vs, ds, ps, ht, h, hsame, hsp => by
    obtain ⟨v, vs', d, ds', p, q, rfl, rfl, rfl, h0, h1⟩ := trodAll_cons h
    exact ⟨p, q, Go.WideElems.Trod_stays hl (ht t (by simp)).1 (ht t (by simp)).2 h0 (fun x hx => hsame x (by simp [hx])) (fun x hx => hsp x (by simp [hx])),
      trodAll_stays hl (fun u hu => ht u (by simp [hu])) h1 (fun x hx => hsame x (by simp [hx])) (fun x hx => hsp x (by simp [hx])), rfl⟩

end
end B0
end Go.Proofs.YtcdcofpcfhojiaaGreatDoor
namespace Go.Proofs.YtcdcofpcfhojiaaGreatDoor
namespace B0
open Go.RowKit Go.WideShapes Go.ChangeShapes Go.ChangeAt Go.WideElems
section
variable {H : Type} {enc : TypeId × Value → H} {P : Program}

/-- The named variables' types can be read. -/
def rowed (P : Program) (ns : List String) : Bool := ns.all fun n => ((P.globalNamed n).bind (P.globals[·]?)).all fun gl => P.readableRec gl.type && decide (gl.type < P.types.size)

theorem trodVars_stays (hl : laidOutB P = true) {W W' : World} {sp' : Nat → Bool} (hb : Below W.heap.size W W') :
    ∀ {ns : List String} {gs : List (DataW H)} {ps : List MemPlace}, rowed P ns = true → DataW.TrodVars enc P W (fun _ => true) ns gs ps → (∀ p ∈ ps, sp' p.block = true) → DataW.TrodVars enc P W' sp' ns gs ps
  | [], [], _, _, h, _ => h
  | [], _ :: _, _, _, h, _ => h.elim
  | _ :: _, [], _, _, h, _ => h.elim
  | n :: ns, d :: ds, ps, hv, h, hsp => by
    have hlt := h.lt
    obtain ⟨g, t, cs, fuel, p, q, h1, h2, h3, h4, hs, e⟩ := h
    simp only [rowed, List.all_cons, Bool.and_eq_true] at hv
    have ht : P.readableRec t = true ∧ t < P.types.size := by
      have := hv.1
      rw [h1] at this
      cases hg : P.globals[g]? with
      | none => rw [hg] at h2; cases h2
      | some gl =>
        rw [hg] at h2
        obtain rfl : gl.type = t := Option.some.inj h2
        simpa [hg] using this
    have hp : ∀ x ∈ p, x.block < W.heap.size := fun x hx => hlt x (by rw [e]; simp [hx])
    have h3' : W'.var? P n = some cs := by
      unfold World.var? at h3 ⊢
      rw [h1] at h3 ⊢
      simp only [Option.bind_some] at h3 ⊢
      have hg : g < W.heap.size := by
        cases hh : W.heap[g]? with
        | none => rw [hh] at h3; cases h3
        | some o => exact (Array.getElem?_eq_some_iff.1 hh).1
      rw [hb.block g hg]; exact h3
    exact ⟨g, t, cs, fuel, p, q, h1, h2, h3', DataW.trod_stays (kids_book hl ht.1) (book_sized ht.1) (fun h => by cases h) ⟨ht.2, book_self t⟩ h4 (fun x hx => hb.same (hp x hx)) (fun x hx => hsp x (by rw [e]; simp [hx])),
      trodVars_stays hl hb (by simpa [rowed] using hv.2) hs (fun x hx => hsp x (by rw [e]; simp [hx])), e⟩

/-- A law over listed variables: whatever the arguments, the call returns true and turns nothing that was there. -/
theorem liftL {C : Checked} {os : Os} {f : FuncId} {fn : Func} {s : ChangeSpec} {conds : List PathCond} {tb : TypeId} {laid : List (String × DataW Unit)}
    (own : ownKnob C.prog.godebug = none) (started : os.Started) (noInit : C.prog.inits.idxOf? f = none) (hfn : C.prog.funcs[f]? = some fn)
    (witness : ∃ (w : World) (tape : Tape) (i : Input), w.os = os ∧ (w.forCall tape i).Shaped C.prog ∧ i.vars = [] ∧ Input.okWide C.prog (w.forCall tape i) .any w.heap.size f i ∧
      ((s.pre enc C.prog fn conds false (w.forCall tape i).memory i.args ∧ laidMetH C.prog laid (w.forCall tape i).memory) ∧ sizedMet enc C.prog fn (OpenSpec.ofChange s) false (w.forCall tape i).memory i.args) ∧ ({} : Assume).holds C.prog (lone (Frame.enter C.prog f i.args .normal) [] (w.forCall tape i)))
    (hl : laidOutB C.prog = true) (hp : (fn.params.toList.all fun t => C.prog.readableRec t && decide (t < C.prog.types.size)) = true)
    (hv : rowed C.prog s.vars = true) (hr : fn.resultTypes = #[tb]) (htb : C.prog.underlying tb = some .bool) (hplain : (laid.all fun x => x.2.handleName?.isNone) = true)
    (hs : ∀ ds gs : List (DataW H), ds.length = fn.params.toList.length → gs.length = s.vars.length → s.fn H (ds ++ gs) = { results := [.lit (.bool true)], args := ds, vars := gs })
    (contract : ∀ (W : World) (base : Nat) (args : Array Value) (ds : List (DataW H)) (p : List MemPlace), laidMet C.prog laid W →
      (∀ (j : Nat) t v, fn.params[j]? = some t → args[j]? = some v → Value.okWide C.prog W .any base t v) →
      DataW.TrodAll enc C.prog W 0 (fun _ => true) true fn.params.toList args.toList ds p →
      Calls C.prog f args W fun e W' => e = .returned (.bool true) ∧ Below W.heap.size W W') :
    ReturnsInHanded {} C os f .any (fun w args => (s.pre enc C.prog fn conds false w args ∧ laidMetH C.prog laid w) ∧ sizedMet enc C.prog fn (OpenSpec.ofChange s) false w args) (s.post enc C.prog fn false true false false) := by
  refine returnsInHanded_of_change_and (X := fun w _ => laidMetH C.prog laid w) (fun _ _ _ hh h => by rw [MakeChecks.laidMetH_plain _ _ _ hplain] at h ⊢; exact laidMet.of_heap hh h) own started noInit hfn witness ?_
  intro W base args ds gs before hval hW _ _ hL _
  rw [MakeChecks.laidMetH_plain _ _ _ hplain] at hL
  have hW' := hW
  obtain ⟨p, q, hA, hV, rfl, hfz, hnd⟩ := hW
  have hlen : ∀ {ts : List TypeId} {vs : List Value} {ds : List (DataW H)} {ps : List MemPlace}, DataW.TrodAll enc C.prog W 0 (fun _ => true) true ts vs ds ps → ds.length = ts.length := by
    intro ts
    induction ts with
    | nil => intro vs ds ps h; obtain ⟨rfl, rfl, rfl⟩ := trodAll_nil h; rfl
    | cons t ts ih => intro vs ds ps h; obtain ⟨v, vs', d, ds', p, q, rfl, rfl, rfl, h0, h1⟩ := trodAll_cons h; simp [ih h1]
  have hlenV : ∀ {ns : List String} {gs : List (DataW H)} {ps : List MemPlace}, DataW.TrodVars enc C.prog W (fun _ => true) ns gs ps → gs.length = ns.length := by
    intro ns
    induction ns with
    | nil =>
      intro gs ps h
      cases gs with
      | nil => rfl
      | cons _ _ => exact h.elim
    | cons n ns ih =>
      intro gs ps h
      cases gs with
      | nil => exact h.elim
      | cons d gs =>
        obtain ⟨g, t, cs, fuel, p, q, -, -, -, -, h5, -⟩ := h
        simp [ih h5]
  have hsd := hs ds gs (hlen hA) (hlenV hV)
  have hp' : ∀ t ∈ fn.params.toList, C.prog.readableRec t = true ∧ t < C.prog.types.size := fun t ht => by simpa using List.all_eq_true.1 hp t ht
  refine (contract W base args ds p hL hval hA).mono fun e W' ⟨he, hb⟩ => ?_
  refine ⟨.bool true, he, post_of_below (pa := p) (pv := q) hW' ?_ ?_ ?_ rfl hb ?_⟩
  · intro b sp hd
    rw [hsd, hr]
    exact trodAll_mk1 ⟨1, by simp [DataW.trod, Value.cells, htb]⟩
  · intro sp hsp
    rw [hsd]
    exact trodAll_stays hl hp' hA (fun x hx => hb.same (hW'.lt x (by simp [hx]))) (fun x hx => hsp x (by simp [hx]))
  · intro sp hsp
    rw [hsd]
    exact trodVars_stays hl hb hv hV (fun x hx => hsp x (by simp [hx]))
  · exact ok_one hr rfl (okWide_bool_mk htb true)
end
end B0
end Go.Proofs.YtcdcofpcfhojiaaGreatDoor
