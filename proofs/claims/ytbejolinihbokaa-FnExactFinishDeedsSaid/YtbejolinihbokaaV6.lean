/- Operations that write: what becomes of the objects. Over any program. -/
import Derived.Test.YtbejolinihbokaaV5
import Derived.Laws.CopyRow
import Derived.Laws.AppendOwn
import Derived.Laws.MakeOwn
import Derived.ArgAppend
namespace Go.VL
open Go.RowKit

section
variable {G : Glob} {m : Mem} {H : List Ob}

/-- Where a further object lies. -/
def μadd (μ : Nat → Pl) (N : Nat) (p : Pl) : Nat → Pl := fun id => if id = N then p else μ id
theorem μadd_new (μ : Nat → Pl) (N : Nat) (p : Pl) : μadd μ N p N = p := by simp [μadd]
theorem μadd_old (μ : Nat → Pl) {N id : Nat} (p : Pl) (h : id < N) : μadd μ N p id = μ id := by
  unfold μadd; rw [if_neg (by omega)]

/-- A new block, and an object that is it. -/
theorem Sim.new (hS : Sim G m H) {w' : World} {arr : Array Value} {t : TypeId} {cs : List C} (hh : w'.heap = m.w.heap.push (.cells arr t (0, 0))) (h2 : w'.os = m.w.os) (h3 : w'.tape = m.w.tape) (h4 : w'.output = m.w.output)
    (hl : cs.length ≤ arr.size) (hr : ∀ (j : Nat) (c : C), cs[j]? = some c → ∃ u, arr[j]? = some u ∧ R m c u) :
    Sim G { m with w := w', N := m.N + 1, μ := μadd m.μ m.N ⟨m.w.heap.size, 0, arr.size, false⟩ } (H ++ [⟨cs, t, true⟩]) ∧
      Ext m { m with w := w', N := m.N + 1, μ := μadd m.μ m.N ⟨m.w.heap.size, 0, arr.size, false⟩ } := by
  have hold : ∀ b, b < m.w.heap.size → w'.heap[b]? = m.w.heap[b]? := fun b hb => by rw [hh, Array.getElem?_push, if_neg (by omega)]
  have he : Ext m { m with w := w', N := m.N + 1, μ := μadd m.μ m.N ⟨m.w.heap.size, 0, arr.size, false⟩ } :=
    ⟨h2, h3, h4, by simp [hh], fun b hb => hold b (hb.elim (hS.lo b) (fun h => Nat.lt_of_lt_of_le h hS.bs)), fun _ h => h, rfl, Nat.le_succ _, fun id hid => μadd_old _ _ hid, fun _ h => .inl h⟩
  have hN := hS.N
  have hnew : w'.heap[m.w.heap.size]? = some (.cells arr t (0, 0)) := by rw [hh]; simp
  refine ⟨⟨by simp [hN], fun b hb => ?_, ?_, fun id hid hgh => ?_, fun id o ho hlive hgh => ?_, fun id o ho hlive hgh => ?_, fun i j oi oj hi hj h1 h2 q1 q2 hne => ?_, fun g hg => ?_⟩, he⟩
  · have := hS.lo b hb; simp only [hh, Array.size_push]; omega
  · have := hS.bs; simp only [hh, Array.size_push]; omega
  · simp only at hid hgh ⊢
    by_cases hlt : id < m.N
    · rw [μadd_old _ _ hlt] at hgh ⊢; have := hS.blk id hlt hgh; simp only [hh, Array.size_push]; omega
    · have : id = m.N := by omega
      subst this; rw [μadd_new]; simp [hh]
  · by_cases hlt : id < H.length
    · rw [List.getElem?_append_left hlt] at ho
      simp only [μadd_old m.μ _ (show id < m.N by omega)] at hgh ⊢
      obtain ⟨a', g1, g2, g3, g4, g5, g6⟩ := hS.ob id o ho hlive hgh
      refine ⟨a', ?_, g2, g3, fun j c hj => ?_, g5, g6⟩
      · exact g1.eq (hold _ (hS.blk id (by omega) hgh))
      · obtain ⟨u, hu, hr'⟩ := g4 j c hj; exact ⟨u, hu, hr'.ext he⟩
    · have hid : id = m.N := by
        have := (List.getElem?_eq_some_iff.1 ho).1
        simp at this; omega
      subst hid
      rw [hN, List.getElem?_append_right (Nat.le_refl _)] at ho
      simp at ho
      subst ho
      simp only [μadd_new]
      refine ⟨arr, .of hnew, rfl, by simpa using hl, fun j c hj => ?_, fun hF => absurd (hS.lo _ hF) (by omega), hS.bs⟩
      obtain ⟨u, hu, hr'⟩ := hr j c hj
      exact ⟨u, by simpa using hu, hr'.ext he⟩
  · by_cases hlt : id < H.length
    · rw [List.getElem?_append_left hlt] at ho
      simp only [μadd_old m.μ _ (show id < m.N by omega)] at hgh
      exact hS.gho id o ho hlive hgh
    · have hid : id = m.N := by
        have := (List.getElem?_eq_some_iff.1 ho).1
        simp at this; omega
      subst hid
      simp only [μadd_new] at hgh
      cases hgh
  · simp only at q1 q2 ⊢
    have key : ∀ {i : Nat} {oi : Ob}, (H ++ [⟨cs, t, true⟩])[i]? = some oi → i < m.N ∨ i = m.N := fun {i oi} h => by
      have := (List.getElem?_eq_some_iff.1 h).1
      simp at this; omega
    rcases key hi with hi' | hi' <;> rcases key hj with hj' | hj'
    · rw [μadd_old _ _ hi', μadd_old _ _ hj']
      rw [μadd_old _ _ hi'] at q1
      rw [μadd_old _ _ hj'] at q2
      rw [List.getElem?_append_left (by omega)] at hi hj
      exact hS.inj i j oi oj hi hj h1 h2 q1 q2 hne
    · subst hj'
      rw [μadd_old _ _ hi', μadd_new]
      rw [μadd_old _ _ hi'] at q1
      have := hS.blk i hi' q1
      simp only; omega
    · subst hi'
      rw [μadd_old _ _ hj', μadd_new]
      rw [μadd_old _ _ hj'] at q2
      have := hS.blk j hj' q2
      simp only; omega
    · omega
  · obtain ⟨g1, g2⟩ := hS.gl g hg
    exact ⟨g1, fun j x hj => ⟨(he.cellb g1).trans (g2.1 j x hj).1, (g2.1 j x hj).2⟩, g2.2.keep (he.keep g.1 (.inl g1))⟩

/-- A further object that is the nil slice. -/
theorem Sim.ghost (hS : Sim G m H) (t : TypeId) :
    Sim G { m with N := m.N + 1, μ := μadd m.μ m.N ⟨0, 0, 0, true⟩ } (H ++ [⟨[], t, true⟩]) ∧ Ext m { m with N := m.N + 1, μ := μadd m.μ m.N ⟨0, 0, 0, true⟩ } := by
  have hN := hS.N
  have he : Ext m { m with N := m.N + 1, μ := μadd m.μ m.N ⟨0, 0, 0, true⟩ } :=
    ⟨rfl, rfl, rfl, Nat.le_refl _, fun _ _ => rfl, fun _ h => h, rfl, Nat.le_succ _, fun i hi => μadd_old _ _ hi, fun _ h => .inl h⟩
  have get : ∀ {i : Nat} {oi : Ob}, (H ++ [⟨[], t, true⟩])[i]? = some oi → ((μadd m.μ m.N ⟨0, 0, 0, true⟩) i).gh = false → i < m.N ∧ H[i]? = some oi := fun {i oi} h hg => by
    by_cases hlt : i < m.N
    · rw [List.getElem?_append_left (by omega)] at h; exact ⟨hlt, h⟩
    · have : i = m.N := by
        have := (List.getElem?_eq_some_iff.1 h).1
        simp at this; omega
      subst this
      rw [μadd_new] at hg
      cases hg
  refine ⟨⟨by simp [hN], hS.lo, hS.bs, fun i hi hg => ?_, fun i o ho hl hg => ?_, fun i o ho hl hg => ?_, fun i j oi oj hi hj g1 g2 q1 q2 hne => ?_, hS.gl⟩, he⟩
  · simp only at hi hg ⊢
    by_cases hlt : i < m.N
    · rw [μadd_old _ _ hlt] at hg ⊢; exact hS.blk i hlt hg
    · have : i = m.N := by omega
      subst this
      rw [μadd_new] at hg
      cases hg
  · obtain ⟨hlt, ho⟩ := get ho hg
    simp only [μadd_old m.μ _ hlt] at hg ⊢
    obtain ⟨a', g1, g2, g3, g4, g5, g6⟩ := hS.ob i o ho hl hg
    exact ⟨a', g1, g2, g3, fun j c hj => let ⟨u, hu, hr'⟩ := g4 j c hj; ⟨u, hu, hr'.ext he⟩, g5, g6⟩
  · by_cases hlt : i < m.N
    · rw [List.getElem?_append_left (by omega)] at ho
      simp only [μadd_old m.μ _ hlt] at hg
      exact hS.gho i o ho hl hg
    · have : i = m.N := by
        have := (List.getElem?_eq_some_iff.1 ho).1
        simp at this; omega
      subst this
      rw [hN, List.getElem?_append_right (Nat.le_refl _)] at ho
      simp at ho
      rw [← ho]
  · obtain ⟨l1, hi⟩ := get hi q1
    obtain ⟨l2, hj⟩ := get hj q2
    simp only [μadd_old m.μ _ l1, μadd_old m.μ _ l2] at q1 q2 ⊢
    exact hS.inj i j oi oj hi hj g1 g2 q1 q2 hne

/-- An object's cells turn. -/
theorem Sim.put (hS : Sim G m H) {id : Nat} {ob : Ob} (ho : H[id]? = some ob) (hlive : ob.live = true) (hgh : (m.μ id).gh = false) {arr' : Array Value} {w' : World} {cs' : List C}
    (hw : Row w' (m.μ id).block arr' ob.t) (hsz : arr'.size = (m.μ id).size) (hoth : ∀ b, b ≠ (m.μ id).block → w'.heap[b]? = m.w.heap[b]?) (hsize : w'.heap.size = m.w.heap.size)
    (h2 : w'.os = m.w.os) (h3 : w'.tape = m.w.tape) (h4 : w'.output = m.w.output) (hl : (m.μ id).base + cs'.length ≤ arr'.size)
    (hr : ∀ (j : Nat) (c : C), cs'[j]? = some c → ∃ u, arr'[(m.μ id).base + j]? = some u ∧ R m c u) :
    Sim G { m with w := w' } (H.set id { ob with cs := cs' }) ∧ Ext m { m with w := w' } := by
  obtain ⟨arr, o1, o2, o3, o4, o5, o6⟩ := hS.ob id ob ho hlive hgh
  have he : Ext m { m with w := w' } := ⟨h2, h3, h4, by simp [hsize], fun b hb => hoth b (by
    rintro rfl
    rcases hb with hb | hb
    · exact o5 hb
    · omega), fun _ h => h, rfl, Nat.le_refl _, fun _ _ => rfl, fun _ h => .inl h⟩
  have hidlt : id < H.length := (List.getElem?_eq_some_iff.1 ho).1
  have get : ∀ {i : Nat} {oi : Ob}, (H.set id { ob with cs := cs' })[i]? = some oi → (i = id ∧ oi = { ob with cs := cs' }) ∨ (i ≠ id ∧ H[i]? = some oi) := fun {i oi} h => by
    by_cases hi : i = id
    · subst hi
      rw [List.getElem?_set_self hidlt] at h
      exact .inl ⟨rfl, (Option.some.inj h).symm⟩
    · rw [List.getElem?_set_ne (by omega)] at h
      exact .inr ⟨hi, h⟩
  refine ⟨⟨by simpa using hS.N, fun b hb => by simpa [hsize] using hS.lo b hb, by simpa [hsize] using hS.bs, fun i hi hg => by simpa [hsize] using hS.blk i hi hg, fun i o hio hil hg => ?_, fun i o hio hil hg => ?_, fun i j oi oj hi hj g1 g2 q1 q2 hne => ?_, fun g hg => ?_⟩, he⟩
  · rcases get hio with ⟨rfl, rfl⟩ | ⟨hne, hio⟩
    · exact ⟨arr', hw, hsz, hl, fun j c hj => let ⟨u, hu, hr'⟩ := hr j c hj; ⟨u, hu, hr'.ext he⟩, o5, o6⟩
    · obtain ⟨a', g1, g2, g3, g4, g5, g6⟩ := hS.ob i o hio hil hg
      refine ⟨a', ?_, g2, g3, fun j c hj => let ⟨u, hu, hr'⟩ := g4 j c hj; ⟨u, hu, hr'.ext he⟩, g5, g6⟩
      exact g1.eq (hoth _ (hS.inj i id o ob hio ho hil hlive hg hgh hne))
  · rcases get hio with ⟨rfl, rfl⟩ | ⟨hne, hio⟩
    · rw [hgh] at hg; cases hg
    · exact hS.gho i o hio hil hg
  · have key : ∀ {i : Nat} {oi : Ob}, (H.set id { ob with cs := cs' })[i]? = some oi → oi.live = true → ∃ o', H[i]? = some o' ∧ o'.live = true := fun {i oi} h h' => by
      rcases get h with ⟨rfl, rfl⟩ | ⟨hne, h⟩
      · exact ⟨ob, ho, hlive⟩
      · exact ⟨oi, h, h'⟩
    obtain ⟨o1', a1, a2⟩ := key hi g1
    obtain ⟨o2', b1, b2⟩ := key hj g2
    exact hS.inj i j o1' o2' a1 b1 a2 b2 q1 q2 hne
  · obtain ⟨g1, g2⟩ := hS.gl g hg
    exact ⟨g1, fun j x hj => ⟨(he.cellb g1).trans (g2.1 j x hj).1, (g2.1 j x hj).2⟩, g2.2.keep (he.keep g.1 (.inl g1))⟩

/-- An object is forgotten. -/
theorem Sim.kill (hS : Sim G m H) {id : Nat} {ob : Ob} (ho : H[id]? = some ob) : Sim G m (H.set id { ob with live := false }) := by
  have hidlt : id < H.length := (List.getElem?_eq_some_iff.1 ho).1
  have get : ∀ {i : Nat} {oi : Ob}, (H.set id { ob with live := false })[i]? = some oi → oi.live = true → i ≠ id ∧ H[i]? = some oi := fun {i oi} h hl => by
    by_cases hi : i = id
    · subst hi
      rw [List.getElem?_set_self hidlt] at h
      have := (Option.some.inj h).symm
      subst this
      simp at hl
    · rw [List.getElem?_set_ne (by omega)] at h
      exact ⟨hi, h⟩
  exact ⟨by simpa using hS.N, hS.lo, hS.bs, hS.blk, fun i o hio hil => hS.ob i o (get hio hil).2 hil, fun i o hio hil => hS.gho i o (get hio hil).2 hil, fun i j oi oj hi hj g1 g2 hne => hS.inj i j oi oj (get hi g1).2 (get hj g2).2 g1 g2 hne, hS.gl⟩

/-- An object is another one's end: the other is forgotten. -/
theorem Sim.move (hS : Sim G m H) {id off : Nat} {ob : Ob} (ho : H[id]? = some ob) (hlive : ob.live = true) (hgh : (m.μ id).gh = false) (hoff : off ≤ ob.cs.length) :
    Sim G { m with N := m.N + 1, μ := μadd m.μ m.N ⟨(m.μ id).block, (m.μ id).base + off, (m.μ id).size, false⟩ } (H.set id { ob with live := false } ++ [⟨ob.cs.drop off, ob.t, true⟩]) ∧
      Ext m { m with N := m.N + 1, μ := μadd m.μ m.N ⟨(m.μ id).block, (m.μ id).base + off, (m.μ id).size, false⟩ } := by
  have hN := hS.N
  have hidlt : id < H.length := (List.getElem?_eq_some_iff.1 ho).1
  have he : Ext m { m with N := m.N + 1, μ := μadd m.μ m.N ⟨(m.μ id).block, (m.μ id).base + off, (m.μ id).size, false⟩ } :=
    ⟨rfl, rfl, rfl, Nat.le_refl _, fun _ _ => rfl, fun _ h => h, rfl, Nat.le_succ _, fun i hi => μadd_old _ _ hi, fun _ h => .inl h⟩
  have get : ∀ {i : Nat} {oi : Ob}, (H.set id { ob with live := false } ++ [⟨ob.cs.drop off, ob.t, true⟩])[i]? = some oi → oi.live = true → (i < m.N ∧ i ≠ id ∧ H[i]? = some oi) ∨ (i = m.N ∧ oi = ⟨ob.cs.drop off, ob.t, true⟩) := fun {i oi} h hl => by
    by_cases hi : i < H.length
    · rw [List.getElem?_append_left (by simpa using hi)] at h
      by_cases hii : i = id
      · subst hii
        rw [List.getElem?_set_self hidlt] at h
        have := (Option.some.inj h).symm
        subst this
        simp at hl
      · rw [List.getElem?_set_ne (by omega)] at h
        exact .inl ⟨by omega, hii, h⟩
    · have hlen := (List.getElem?_eq_some_iff.1 h).1
      simp at hlen
      have hie : i = H.length := by omega
      subst hie
      rw [List.getElem?_append_right (by simp)] at h
      simp at h
      exact .inr ⟨hN.symm, h.symm⟩
  obtain ⟨arr, o1, o2, o3, o4, o5, o6⟩ := hS.ob id ob ho hlive hgh
  refine ⟨⟨by simp [hN], hS.lo, hS.bs, fun i hi hg => ?_, fun i o hio hil hg => ?_, fun i o hio hil hg => ?_, fun i j oi oj hi hj g1 g2 q1 q2 hne => ?_, fun g hg => ?_⟩, he⟩
  · simp only at hi hg ⊢
    by_cases hlt : i < m.N
    · rw [μadd_old _ _ hlt] at hg ⊢; exact hS.blk i hlt hg
    · have : i = m.N := by omega
      subst this; rw [μadd_new]; exact hS.blk id (by omega) hgh
  · rcases get hio hil with ⟨hlt, hne, hio⟩ | ⟨rfl, rfl⟩
    · simp only [μadd_old m.μ _ hlt] at hg ⊢
      obtain ⟨a', g1, g2, g3, g4, g5, g6⟩ := hS.ob i o hio hil hg
      exact ⟨a', g1, g2, g3, fun j c hj => let ⟨u, hu, hr'⟩ := g4 j c hj; ⟨u, hu, hr'.ext he⟩, g5, g6⟩
    · simp only [μadd_new]
      refine ⟨arr, o1, o2, ?_, fun j c hj => ?_, o5, o6⟩
      · simp only [List.length_drop]; omega
      · rw [List.getElem?_drop] at hj
        obtain ⟨u, hu, hr'⟩ := o4 _ c hj
        exact ⟨u, by rw [Nat.add_assoc]; exact hu, hr'.ext he⟩
  · rcases get hio hil with ⟨hlt, hne, hio⟩ | ⟨rfl, rfl⟩
    · simp only [μadd_old m.μ _ hlt] at hg
      exact hS.gho i o hio hil hg
    · simp only [μadd_new] at hg
      cases hg
  · simp only at q1 q2 ⊢
    rcases get hi g1 with ⟨hlt, hne1, hi⟩ | ⟨rfl, rfl⟩ <;> rcases get hj g2 with ⟨hlt', hne2, hj⟩ | ⟨rfl, rfl⟩
    · rw [μadd_old _ _ hlt] at q1 ⊢
      rw [μadd_old _ _ hlt'] at q2 ⊢
      exact hS.inj i j oi oj hi hj g1 g2 q1 q2 hne
    · rw [μadd_old _ _ hlt] at q1 ⊢
      rw [μadd_new]
      exact hS.inj i id oi ob hi ho g1 hlive q1 hgh hne1
    · rw [μadd_old _ _ hlt'] at q2 ⊢
      rw [μadd_new]
      exact (hS.inj j id oj ob hj ho g2 hlive q2 hgh hne2).symm
    · omega
  · obtain ⟨g1, g2⟩ := hS.gl g hg
    exact ⟨g1, g2⟩
end
end Go.VL
