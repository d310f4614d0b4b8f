/- Lists of tallies, joined: us data. -/
import Derived.Test.YtenaamehifbfeaaC4
import Derived.Test.YtenaamehifbfeaaV37
import Derived.Test.YtenaamehifbfeaaI3
import Derived.Test.YtenaamehifbfeaaV34
namespace Go.VL
open Go.RowKit
set_option maxRecDepth 20000
set_option maxHeartbeats 4000000
theorem srtO {ys : List Tal} (h : okL ys) : srt ys := by
  intro a b hb hab
  induction b with
  | zero => omega
  | succ b ih =>
    have h1 := (h.2 (b + 1) hb).2.2.2.2 b (by omega) rfl
    by_cases he : a = b
    · subst he; exact h1
    · have := ih (by omega) (by omega)
      omega
/-- The greater one of two tallies of a turn. -/
def best (a b : Tal) : Tal := if a.2.1 < b.2.1 ∨ b.2.1 = a.2.1 ∧ a.2.2 < b.2.2 then b else a
theorem best_1 {a b : Tal} (h : a.1 = b.1) : (best a b).1 = a.1 := by
  unfold best
  split
  · exact h.symm
  · rfl
/-- Two lists, joined. -/
def mg : List Tal → List Tal → List Tal
  | [], bs => bs
  | a :: us, [] => a :: us
  | a :: us, b :: bs => if a.1 < b.1 then a :: mg us (b :: bs) else if b.1 < a.1 then b :: mg (a :: us) bs else best a b :: mg us bs
termination_by us bs => us.length + bs.length
theorem mg_nil (us : List Tal) : mg us [] = us := by cases us <;> simp [mg]
/-- A tally, joined to a list. -/
def jn (t : Tal) : List Tal → List Tal
  | [] => [t]
  | y :: ys => if y.1 < t.1 then y :: jn t ys else if t.1 < y.1 then t :: y :: ys else best y t :: ys
abbrev srtP (ys : List Tal) : Prop := ys.Pairwise (fun x y => x.1 < y.1)
theorem srt_iff {ys : List Tal} : srt ys ↔ srtP ys := by
  unfold srt srtP
  rw [List.pairwise_iff_getElem]
  exact ⟨fun h i j hi hj hij => h i j hj hij, fun h a b hb hab => h a b (by omega) hb hab⟩
theorem jn_mem {t : Tal} : ∀ {ys : List Tal} {x : Tal}, x ∈ jn t ys → x.1 = t.1 ∨ ∃ y ∈ ys, y.1 = x.1
  | [], x, h => by simp [jn] at h; exact .inl (by rw [h])
  | y :: ys, x, h => by
    unfold jn at h
    split at h
    · rcases List.mem_cons.1 h with rfl | h
      · exact .inr ⟨x, by simp, rfl⟩
      · rcases jn_mem h with h | ⟨z, h1, h2⟩
        · exact .inl h
        · exact .inr ⟨z, by simp [h1], h2⟩
    · split at h
      · rcases List.mem_cons.1 h with rfl | h
        · exact .inl rfl
        · exact .inr ⟨x, h, rfl⟩
      · rcases List.mem_cons.1 h with rfl | h
        · exact .inl (by rw [best_1 (by omega)]; omega)
        · exact .inr ⟨x, by simp [h], rfl⟩
theorem jn_srt {t : Tal} : ∀ {ys : List Tal}, srtP ys → srtP (jn t ys)
  | [], _ => by simp [jn]
  | y :: ys, h => by
    obtain ⟨h1, h2⟩ := List.pairwise_cons.1 h
    unfold jn
    split
    · rename_i hl
      refine List.pairwise_cons.2 ⟨fun x hx => ?_, jn_srt h2⟩
      rcases jn_mem hx with e | ⟨z, hz, e⟩
      · omega
      · have := h1 z hz; omega
    · split
      · rename_i hl
        refine List.pairwise_cons.2 ⟨fun x hx => ?_, h⟩
        rcases List.mem_cons.1 hx with rfl | hx
        · exact hl
        · have := h1 x hx; omega
      · refine List.pairwise_cons.2 ⟨fun x hx => ?_, h2⟩
        have := h1 x hx
        rw [best_1 (by omega)]
        omega
theorem jn_skip {a : Tal} : ∀ {L : List Tal} {us : List Tal}, (∀ t ∈ L, a.1 < t.1) → L.foldl (fun o t => jn t o) (a :: us) = a :: L.foldl (fun o t => jn t o) us
  | [], us, _ => rfl
  | t :: L, us, h => by
    rw [List.foldl_cons, List.foldl_cons]
    have : jn t (a :: us) = a :: jn t us := by simp only [jn]; rw [if_pos (h t (by simp))]
    rw [this]
    exact jn_skip (fun x hx => h x (by simp [hx]))
theorem jn_none {L : List Tal} : srtP L → L.foldl (fun o t => jn t o) [] = L := by
  induction L with
  | nil => intro _; rfl
  | cons t L ih =>
    intro h
    obtain ⟨h1, h2⟩ := List.pairwise_cons.1 h
    rw [List.foldl_cons]
    have : jn t [] = [t] := rfl
    rw [this, jn_skip h1, ih h2]
theorem mg_fold : ∀ (us bs : List Tal), srtP us → srtP bs → bs.foldl (fun o t => jn t o) us = mg us bs
  | [], bs, _, h => by rw [mg]; exact jn_none h
  | a :: us, [], _, _ => by rw [mg]; rfl
  | a :: us, b :: bs, ha, hb => by
    obtain ⟨a1, a2⟩ := List.pairwise_cons.1 ha
    obtain ⟨b1, b2⟩ := List.pairwise_cons.1 hb
    rw [mg]
    split
    · rename_i h
      rw [jn_skip (fun t ht => by
        rcases List.mem_cons.1 ht with rfl | ht
        · exact h
        · have := b1 t ht; omega), mg_fold us (b :: bs) a2 hb]
    · split
      · rename_i h1 h
        rw [List.foldl_cons]
        have : jn b (a :: us) = b :: a :: us := by simp only [jn]; rw [if_neg h1, if_pos h]
        rw [this, jn_skip b1, mg_fold (a :: us) bs ha b2]
      · rename_i h1 h
        rw [List.foldl_cons]
        have : jn b (a :: us) = best a b :: us := by simp only [jn]; rw [if_neg h1, if_neg h]
        rw [this, jn_skip (fun t ht => by rw [best_1 (by omega)]; have := b1 t ht; omega), mg_fold us bs a2 b2]
termination_by us bs => us.length + bs.length
theorem lowb_cons {y : Tal} {ys : List Tal} {t : Int} : lowb (y :: ys) t = if t ≤ y.1 then 0 else lowb ys t + 1 := by
  unfold lowb
  rw [List.findIdx_cons]
  by_cases h : t ≤ y.1 <;> simp [h]
theorem lowb_le (ys : List Tal) (t : Int) : lowb ys t ≤ ys.length := List.findIdx_le_length
theorem jn_ins {t : Tal} : ∀ {ys : List Tal}, (¬ ∃ y ∈ ys, y.1 = t.1) → jn t ys = ys.take (lowb ys t.1) ++ t :: ys.drop (lowb ys t.1)
  | [], _ => rfl
  | y :: ys, h => by
    have hy : ¬ y.1 = t.1 := fun e => h ⟨y, by simp, e⟩
    unfold jn
    rw [lowb_cons]
    split
    · rw [if_neg (by omega), List.take_succ_cons, List.drop_succ_cons, jn_ins (fun ⟨z, h1, h2⟩ => h ⟨z, by simp [h1], h2⟩)]
      rfl
    · rw [if_pos (by omega), if_pos (by omega)]
      rfl
theorem jn_hit {t : Tal} : ∀ {ys : List Tal}, srtP ys → (∃ y ∈ ys, y.1 = t.1) → ∃ h : lowb ys t.1 < ys.length, jn t ys = ys.set (lowb ys t.1) (best ys[lowb ys t.1] t)
  | [], _, h => by obtain ⟨y, h, -⟩ := h; cases h
  | y :: ys, hs, h => by
    obtain ⟨h1, h2⟩ := List.pairwise_cons.1 hs
    by_cases hy : y.1 = t.1
    · have e : lowb (y :: ys) t.1 = 0 := by rw [lowb_cons, if_pos (by omega)]
      refine ⟨by rw [e]; simp, ?_⟩
      simp only [e]
      unfold jn
      rw [if_neg (by omega), if_neg (by omega)]
      rfl
    · obtain ⟨z, hz, e⟩ := h
      have hz' : z ∈ ys := by
        rcases List.mem_cons.1 hz with rfl | hz
        · exact absurd e hy
        · exact hz
      have hlt := h1 z hz'
      obtain ⟨k1, k2⟩ := jn_hit (t := t) h2 ⟨z, hz', e⟩
      have e : lowb (y :: ys) t.1 = lowb ys t.1 + 1 := by rw [lowb_cons, if_neg (by omega)]
      refine ⟨by rw [e]; simpa using k1, ?_⟩
      simp only [e]
      unfold jn
      rw [if_pos (by omega), k2]
      rfl
theorem mg_len : ∀ (us bs : List Tal), (mg us bs).length ≤ us.length + bs.length
  | [], bs => by rw [mg]; simp
  | a :: us, [] => by rw [mg]; simp
  | a :: us, b :: bs => by
    rw [mg]
    split
    · have := mg_len us (b :: bs); simp at this ⊢; omega
    · split
      · have := mg_len (a :: us) bs; simp at this ⊢; omega
      · have := mg_len us bs; simp at this ⊢; omega
termination_by us bs => us.length + bs.length
theorem mg_all {p : Tal → Prop} : ∀ (us bs : List Tal), (∀ x ∈ us, p x) → (∀ x ∈ bs, p x) → ∀ x ∈ mg us bs, p x
  | [], bs, _, h => by rw [mg]; exact h
  | a :: us, [], h, _ => by rw [mg]; exact h
  | a :: us, b :: bs, ha, hb => by
    have a0 := ha a (by simp)
    have b0 := hb b (by simp)
    have a1 : ∀ x ∈ us, p x := fun x hx => ha x (by simp [hx])
    have b1 : ∀ x ∈ bs, p x := fun x hx => hb x (by simp [hx])
    rw [mg]
    split
    · intro x hx
      rcases List.mem_cons.1 hx with rfl | hx
      · exact a0
      · exact mg_all us (b :: bs) a1 hb x hx
    · split
      · intro x hx
        rcases List.mem_cons.1 hx with rfl | hx
        · exact b0
        · exact mg_all (a :: us) bs ha b1 x hx
      · intro x hx
        rcases List.mem_cons.1 hx with rfl | hx
        · unfold best; split
          · exact b0
          · exact a0
        · exact mg_all us bs a1 b1 x hx
termination_by us bs => us.length + bs.length
theorem mg_l {xs ys : List Tal} {i k : Nat} (hi : i < xs.length) (h : k = ys.length ∨ ∃ hk : k < ys.length, xs[i].1 < ys[k].1) : mg (xs.drop i) (ys.drop k) = xs[i] :: mg (xs.drop (i + 1)) (ys.drop k) := by
  rcases h with rfl | ⟨hk, h⟩
  · rw [List.drop_length, mg_nil, mg_nil, List.drop_eq_getElem_cons hi]
  · rw [List.drop_eq_getElem_cons hi, List.drop_eq_getElem_cons hk, mg, if_pos h]
theorem mg_r {xs ys : List Tal} {i k : Nat} (hk : k < ys.length) (h : i = xs.length ∨ ∃ hi : i < xs.length, ys[k].1 < xs[i].1) : mg (xs.drop i) (ys.drop k) = ys[k] :: mg (xs.drop i) (ys.drop (k + 1)) := by
  rcases h with rfl | ⟨hi, h⟩
  · rw [List.drop_length, mg, mg, List.drop_eq_getElem_cons hk]
  · rw [List.drop_eq_getElem_cons hi, List.drop_eq_getElem_cons hk, mg, if_neg (by omega), if_pos h]
theorem mg_b {xs ys : List Tal} {i k : Nat} (hi : i < xs.length) (hk : k < ys.length) (h : xs[i].1 = ys[k].1) : mg (xs.drop i) (ys.drop k) = best xs[i] ys[k] :: mg (xs.drop (i + 1)) (ys.drop (k + 1)) := by
  rw [List.drop_eq_getElem_cons hi, List.drop_eq_getElem_cons hk, mg, if_neg (by omega), if_neg (by omega)]
/-- Two lists joined, with a code. -/
noncomputable def jnR (xs ys : List Tal) : List Tal × Int := if okL xs ∧ okL ys then if (mg xs ys).length ≤ 96 then (mg xs ys, 0) else ([], 3) else ([], 1)
theorem jnR_0 {xs ys : List Tal} (h1 : okL xs) (h2 : okL ys) (h : (mg xs ys).length ≤ 96) : jnR xs ys = (mg xs ys, 0) := by unfold jnR; rw [if_pos ⟨h1, h2⟩, if_pos h]
theorem jnR_3 {xs ys : List Tal} (h1 : okL xs) (h2 : okL ys) (h : ¬ (mg xs ys).length ≤ 96) : jnR xs ys = ([], 3) := by unfold jnR; rw [if_pos ⟨h1, h2⟩, if_neg h]
theorem jnR_1 {xs ys : List Tal} (h : ¬ (okL xs ∧ okL ys)) : jnR xs ys = ([], 1) := by unfold jnR; rw [if_neg h]
theorem jn_len2 (xs ys : List Tal) : (jnR xs ys).1.length ≤ 96 := by
  unfold jnR
  split
  · split
    · assumption
    · simp
  · simp
theorem best_r {a b : Tal} (h : a.2.1 < b.2.1 ∨ b.2.1 = a.2.1 ∧ a.2.2 < b.2.2) : best a b = b := by unfold best; rw [if_pos h]
theorem best_l {a b : Tal} (h : ¬ (a.2.1 < b.2.1 ∨ b.2.1 = a.2.1 ∧ a.2.2 < b.2.2)) : best a b = a := by unfold best; rw [if_neg h]
theorem cmp_iff {a b c d : Int} : 0 < firstNZ [cmp3 a b, cmp3 c d] ↔ (b < a ∨ a = b ∧ d < c) := by
  simp only [firstNZ, cmp3]
  by_cases h1 : a < b
  · simp [h1]; omega
  · by_cases h2 : b < a
    · simp [h1, h2]
    · have : a = b := by omega
      subst this
      by_cases h3 : c < d
      · simp [h3]; omega
      · by_cases h4 : d < c
        · simp [h3, h4]
        · simp [h3, h4]
theorem cmp_gt {a b c d : Int} (h : 0 < firstNZ [cmp3 a b, cmp3 c d]) : b < a ∨ a = b ∧ d < c := cmp_iff.1 h
theorem cmp_le {a b c d : Int} (h : ¬ 0 < firstNZ [cmp3 a b, cmp3 c d]) : ¬ (b < a ∨ a = b ∧ d < c) := fun h2 => h (cmp_iff.2 h2)
/-- The first list, with so many of the second one's tallies. -/
def fo (xs ys : List Tal) (i : Nat) : List Tal := (ys.take i).foldl (fun o t => jn t o) xs
theorem fo_step {xs ys : List Tal} {i : Nat} (hi : i < ys.length) : fo xs ys (i + 1) = jn ys[i] (fo xs ys i) := by
  unfold fo
  rw [List.take_succ_eq_append_getElem hi, List.foldl_append]
  rfl
theorem fold_srt : ∀ (L : List Tal) {xs : List Tal}, srtP xs → srtP (L.foldl (fun o t => jn t o) xs)
  | [], _, h => h
  | t :: L, _, h => fold_srt L (jn_srt h)
theorem fo_srt {xs : List Tal} (ys : List Tal) (i : Nat) (h1 : okL xs) (_ : okL ys) : srt (fo xs ys i) := srt_iff.2 (fold_srt _ (srt_iff.1 (srtO h1)))
theorem jn_len (t : Tal) : ∀ ys : List Tal, (jn t ys).length ≤ ys.length + 1
  | [] => by simp [jn]
  | y :: ys => by
    have := jn_len t ys
    unfold jn
    split
    · simp; omega
    · split
      · simp
      · simp
theorem fold_len : ∀ (L xs : List Tal), (L.foldl (fun o t => jn t o) xs).length ≤ xs.length + L.length
  | [], xs => by simp
  | t :: L, xs => by
    have h1 := fold_len L (jn t xs)
    have h2 := jn_len t xs
    simp only [List.foldl_cons, List.length_cons]
    omega
theorem fo_len (xs ys : List Tal) (i : Nat) : (fo xs ys i).length ≤ xs.length + i := by
  have := fold_len (ys.take i) xs
  unfold fo
  rw [List.length_take] at this
  omega
theorem fo_le (xs ys : List Tal) (i : Nat) (hx : xs.length ≤ 2 ^ 30) (hy : ys.length ≤ 2 ^ 30) : (fo xs ys i).length ≤ 2 ^ 40 := by
  have := fold_len (ys.take i) xs
  unfold fo
  rw [List.length_take] at this
  omega
theorem fo_hit {xs ys : List Tal} {i : Nat} (hi : i < ys.length) (hs : srt (fo xs ys i)) (h : 0 ≤ fnd (fo xs ys i) ys[i].1) : ∃ hq : lowb (fo xs ys i) ys[i].1 < (fo xs ys i).length, fo xs ys (i + 1) = (fo xs ys i).set (lowb (fo xs ys i) ys[i].1) (best (fo xs ys i)[lowb (fo xs ys i) ys[i].1] ys[i]) := by
  obtain ⟨h1, h2⟩ := jn_hit (t := ys[i]) (srt_iff.1 hs) (fnd_ge.1 h)
  exact ⟨h1, by rw [fo_step hi, h2]⟩
theorem c82h (ys : List Tal) (t : Int) (hx : ys.length ≤ 2 ^ 40) (hs : srt ys) (h : 0 ≤ fnd ys t) : PureC X 82 [.c (tals false ys), cI t] (.tup [cI (lowb ys t), cB true]) := by
  have := c82t ys t hx hs h
  rw [← lowb_fnd hs h] at this
  exact this
theorem fo_all {xs ys : List Tal} (h1 : okL xs) (h2 : okL ys) : fo xs ys ys.length = mg xs ys := by
  unfold fo
  rw [List.take_length]
  exact mg_fold _ _ (srt_iff.1 (srtO h1)) (srt_iff.1 (srtO h2))
section
variable {all r : List Oper} {K : Sl → List Ob → Prop} {sl : Sl} {H : List Ob} {d : Tmp} {ty : TypeId} {ps : String} {af : Array Edge}
theorem v_ins {f : Operand} {args : Array Operand} {tys : Array TypeId} {id idv n i q : Nat} {ys : List Tal} {t : Tal} {H' : List Ob} (hne : id ≠ idv) (ho : H[id]? = some ⟨flat te ys, 27, true⟩) (hv : H[idv]? = some ⟨flat te [t], 27, true⟩) (hn : n = ys.length) (hi : i ≤ ys.length) (hb : ys.length + 1 ≤ 2 ^ 30)
    (hq : H.length = q) (hH : H.set id ⟨flat te ys, 27, false⟩ ++ [⟨flat te (ys.take i ++ t :: ys.drop i), 27, true⟩] = H') (hf : rho X.G sl f = .c (.fn 92 [])) (has : args.toList.map (rho X.G sl) = [.c (.mu id 0 n 3), .c (.v (.int .i64 i)), .c (.mu idv 0 1 3)])
    (h : vops X all r K (upd sl d (.c (.mu q 0 (n + 1) 3))) H') : vops X all (⟨some d, .call ⟨.value f, args, tys⟩, ty, ps, af, none⟩ :: r) K sl H := by
  subst hH hq hn
  simp only [vops, vguard, vop, callOf, hf, target, putV, has, List.map_nil, List.append_nil]
  exact c92 hne ho hv rfl hi hb h
end
theorem c119 (a : Int) : PureC X 119 [.c (.v (.int .i16 a))] (cB (decide False)) := by
  refine PureC.of_body (drawD_ok X) (fun _ _ => Go.Proofs.Try.call119 _ _) Go.Proofs.Try.func119 rfl (n := 6) rfl ?_
  refine w_seq ?_
  refine w_reg rfl ?_
  refine v_assign (c := .v (.bool false)) rfl ?_
  refine v_nil ?_
  refine q_n ?_
  refine w_seq ?_
  refine w_reg rfl ?_
  refine v_move rfl ?_
  refine v_move rfl ?_
  refine v_neq lay23 rfl rfl (fun h1 => ?_) (fun h1 => ?_)
  · skip
    exact absurd rfl h1
  · skip
    refine v_assign rfl ?_
    refine v_nil ?_
    refine q_n ?_
    refine w_ret ?_
    refine r_r rfl ?_
    exact a_b ⟨fun h => (by cases h), False.elim⟩

theorem c94 (a b : Int) : PureC X 94 [.c (.v (.int .i16 a)), .c (.v (.int .i16 b))] (cI (cmp3 a b)) := by
  refine PureC.of_body (drawD_ok X) (fun _ _ => Go.Proofs.Try.call94 _ _) Go.Proofs.Try.func94 rfl (n := 20) rfl ?_
  refine w_seq ?_
  refine w_reg rfl ?_
  refine v_assign (c := .v (.int .i64 0)) rfl ?_
  refine v_nil ?_
  refine q_n ?_
  refine w_seq ?_
  refine w_reg rfl ?_
  refine v_move rfl ?_
  refine v_callb (c119 _) rfl rfl (.cons vw_v .nil) (fun h1 => ?_) (fun h1 => ?_)
  · skip
    exact h1.elim
  · skip
    refine v_assign rfl ?_
    refine v_nil ?_
    refine q_n ?_
    refine w_seq ?_
    refine w_reg rfl ?_
    refine v_move rfl ?_
    refine v_callb (c119 _) rfl rfl (.cons vw_v .nil) (fun h2 => ?_) (fun h2 => ?_)
    · skip
      exact h2.elim
    · skip
      refine v_assign rfl ?_
      refine v_nil ?_
      refine q_n ?_
      refine w_seq ?_
      refine w_seq ?_
      refine w_reg rfl ?_
      refine v_move rfl ?_
      refine v_nil ?_
      refine q_n ?_
      refine w_f rfl ?_
      refine w_skip ?_
      refine q_n ?_
      refine w_seq ?_
      refine w_seq ?_
      refine w_reg rfl ?_
      refine v_move rfl ?_
      refine v_nil ?_
      refine q_n ?_
      refine w_f rfl ?_
      refine w_skip ?_
      refine q_n ?_
      refine w_seq ?_
      refine w_seq ?_
      refine w_reg rfl ?_
      refine v_move rfl ?_
      refine v_move rfl ?_
      refine v_lss lay23 rfl rfl (fun h3 => ?_) (fun h3 => ?_)
      · skip
        refine v_nil ?_
        refine q_n ?_
        refine w_t rfl ?_
        refine w_seq ?_
        refine w_reg rfl ?_
        refine v_assign (c := .v (.int .i64 (-1))) rfl ?_
        refine v_nil ?_
        refine q_n ?_
        refine w_ret (q_r ?_)
        refine r_r rfl ?_
        exact a_i (by unfold cmp3; rw [if_pos h3])
      · skip
        refine v_nil ?_
        refine q_n ?_
        refine w_f rfl ?_
        refine w_skip ?_
        refine q_n ?_
        refine w_seq ?_
        refine w_seq ?_
        refine w_reg rfl ?_
        refine v_move rfl ?_
        refine v_move rfl ?_
        refine v_gtr lay23 rfl rfl (fun h4 => ?_) (fun h4 => ?_)
        · skip
          refine v_nil ?_
          refine q_n ?_
          refine w_t rfl ?_
          refine w_seq ?_
          refine w_reg rfl ?_
          refine v_assign (c := .v (.int .i64 1)) rfl ?_
          refine v_nil ?_
          refine q_n ?_
          refine w_ret (q_r ?_)
          refine r_r rfl ?_
          exact a_i (by unfold cmp3; rw [if_neg h3, if_pos (by omega)])
        · skip
          refine v_nil ?_
          refine q_n ?_
          refine w_f rfl ?_
          refine w_skip ?_
          refine q_n ?_
          refine w_seq ?_
          refine w_reg rfl ?_
          refine v_assign (c := .v (.int .i64 0)) rfl ?_
          refine v_nil ?_
          refine q_n ?_
          refine w_ret ?_
          refine r_r rfl ?_
          exact a_i (by unfold cmp3; rw [if_neg h3, if_neg (by omega)])

theorem c93 (xs : List Int) (hx : xs.length ≤ 2 ^ 40) : PureC X 93 [.c (ints false xs)] (cI (firstNZ xs)) := by
  refine PureC.of_body (drawD_ok X) (fun _ _ => Go.Proofs.Try.call93 _ _) Go.Proofs.Try.func93 rfl (n := 18) rfl ?_
  refine w_seq ?_
  refine w_reg rfl ?_
  refine v_assign (c := .v (.int .i64 0)) rfl ?_
  refine v_nil ?_
  refine q_n ?_
  refine w_seq ?_
  refine w_reg rfl ?_
  refine v_assign (c := .v (.int .i64 0)) rfl ?_
  refine v_nil ?_
  refine q_n ?_
  refine w_seq ?_
  refine w_seq ?_
  refine w_reg rfl ?_
  refine v_move rfl ?_
  refine v_len_sl lay132 rfl ?_
  refine v_move (c := .v (.int .i64 0)) rfl ?_
  refine v_nil ?_
  refine q_n ?_
  refine w_block ?_
  refine w_loop (fun k sl H => ∃ i : Nat, k = xs.length - i ∧ i ≤ xs.length ∧ (∀ x ∈ xs.take i, x = 0) ∧ sl = sls [(3, cI 0), (6, .c (ints false xs)), (7, cI xs.length), (8, cI i)] ∧ H = []) ?_ ?_
  · refine ⟨_, _, _, ?_, 0, rfl, Nat.zero_le _, by simp, rfl, rfl⟩
    exact turn0 ⟨tr_v, tr_sl, tr_v, tr_v, trivial⟩
  · rintro k sl H ⟨i, rfl, hi, hp, rfl, rfl⟩
    refine w_seq ?_
    refine w_reg rfl ?_
    refine v_lss lay3 rfl rfl (fun h1 => ?_) (fun h1 => ?_)
    · skip
      refine v_nil ?_
      refine q_n ?_
      refine w_seq ?_
      refine w_t rfl ?_
      refine w_skip ?_
      refine q_n ?_
      refine w_seq ?_
      refine w_block ?_
      refine w_seq ?_
      refine w_reg rfl ?_
      refine v_idx (k := 1) int_len lay132 lay3 rfl rfl rfl (rfl) rfl (by omega) (fun q2 hq2 e2 => ?_)
      obtain rfl : i = q2 := by omega
      refine v_load_vw (.c (.v _)) lay3 rfl rfl rfl ?_
      refine v_assign rfl ?_
      refine v_nil ?_
      refine q_n ?_
      refine w_seq ?_
      refine w_reg rfl ?_
      refine v_move rfl ?_
      refine v_move rfl ?_
      refine v_neq lay3 rfl rfl (fun h3 => ?_) (fun h3 => ?_)
      · skip
        refine v_nil ?_
        refine q_n ?_
        refine w_t rfl ?_
        refine w_seq ?_
        refine w_reg rfl ?_
        refine v_move rfl ?_
        refine v_assign rfl ?_
        refine v_nil ?_
        refine q_n ?_
        refine w_ret (q_br (q_r (q_r (q_br (q_r ?_)))))
        refine r_r rfl ?_
        exact a_i (firstNZ_hit hq2 hp h3).symm
      · skip
        refine v_nil ?_
        refine q_n ?_
        refine w_f rfl ?_
        refine w_skip ?_
        refine q_bn ?_
        refine q_n ?_
        refine w_reg rfl ?_
        refine v_add lay3 rfl rfl (i64r (by omega)) ?_
        refine v_move rfl ?_
        refine v_nil ?_
        refine q_n ?_
        refine ⟨_, _, _, ?_, ⟨i + 1, rfl, by omega, ?_, rfl, rfl⟩, by omega⟩
        · exact turn0 ⟨tr_v, tr_sl, tr_v, tr_v, trivial⟩
        · exact all_step hq2 hp h3
    · skip
      refine v_nil ?_
      refine q_n ?_
      refine w_seq ?_
      refine w_f rfl ?_
      refine w_exit ?_
      refine q_e ?_
      refine q_e ?_
      refine q_hit ?_
      refine q_n ?_
      refine w_seq ?_
      refine w_reg rfl ?_
      refine v_move rfl ?_
      refine v_assign rfl ?_
      refine v_nil ?_
      refine q_n ?_
      refine w_ret ?_
      refine r_r rfl ?_
      obtain rfl : i = xs.length := by omega
      rw [List.take_length] at hp
      exact a_i (firstNZ_none hp).symm
end Go.VL
