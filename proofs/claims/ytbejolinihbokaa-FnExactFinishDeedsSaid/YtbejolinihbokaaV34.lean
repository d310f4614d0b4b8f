/- Steps: bytes as bytes, marked. Over any program. -/
import Derived.Test.YtbejolinihbokaaV33
namespace Go.VL
open Go.RowKit
theorem Row.freeze {w : World} {b : Nat} {arr : Array Value} {t : TypeId} (h : Row w b arr t) (ht : t = markT) : Row (w.freeze ⟨b, arr.size, none⟩ 1) b arr t := by
  obtain ⟨⟨lo, hi⟩, h1, h2⟩ := h
  have hlt : b < w.heap.size := (Array.getElem?_eq_some_iff.1 h1).1
  have hv : w.heap[b] = .cells arr t (lo, hi) := (Array.getElem?_eq_some_iff.1 h1).2
  unfold World.freeze
  rw [if_neg (by decide)]
  refine ⟨if lo == hi then (arr.size, arr.size + 1) else (min lo arr.size, max hi (arr.size + 1)), ?_, .inr ⟨?_, ht⟩⟩
  · rw [Array.getElem?_eq_getElem (by simpa using hlt), Array.getElem_modify]
    simp [hv]
  · split
    · exact Nat.le_refl _
    · rename_i hne
      rcases h2 with h2 | h2
      · simp only [Prod.mk.injEq] at h2
        obtain ⟨rfl, rfl⟩ := h2
        simp at hne
      · simp only at h2 ⊢
        omega
theorem freeze_other {w : World} {a : Addr} {b : Nat} (h : b ≠ a.block) : (w.freeze a 1).heap[b]? = w.heap[b]? := by
  unfold World.freeze
  rw [if_neg (by decide)]
  simp [Array.getElem?_modify, Ne.symm h]
section
variable {X : Cx} {all r : List Oper} {K : Sl → List Ob → Prop} {sl : Sl} {H : List Ob} {d : Tmp} {ty : TypeId} {ps : String} {af : Array Edge}
/-- A live slice of bytes, taken for one of its own type: it stays, and its row is marked. -/
theorem v_conv_same {s e : TypeId} {x : Operand} {a b a2 b2 : Nat} {z z2 : List Value} {id off n k : Nat} {cs : List C} {t : TypeId} (ha : all.isEmpty = false) (hL : X.lay s = some ⟨.slice e, a, b, z⟩) (hLe : X.lay e = some ⟨.int .u8, a2, b2, z2⟩) (hx : rho X.G sl x = .c (.mu id off n k)) (ho : H[id]? = some ⟨cs, t, true⟩) (hne : cs.length ≠ 0) (ht : t = markT)
    (h : vops X all r K (upd sl d (.c (.mu id off n k))) H) : vops X all (⟨some d, .convert s s x, ty, ps, af, none⟩ :: r) K sl H := by
  refine v_raw ha rfl (by simp only [evq, hL, hx]) rfl ?_
  intro m ε oper hop hS hρ
  have hs : X.P.underlying s = some (.slice e) := (X.ok s _ hL).kind
  have he : X.P.underlying e = some (.int .u8) := (X.ok e _ hLe).kind
  have hxr := hρ x
  rw [hx] at hxr
  have hgh : (m.μ id).gh = false := by
    cases hg : (m.μ id).gh with
    | false => rfl
    | true =>
      have := hS.gho id _ ho rfl hg
      simp only at this
      rw [this] at hne
      exact absurd rfl hne
  rcases hxr.muI with ⟨-, -, -, -, hg⟩ | ⟨cap, hu, hid, hn, hsz, hcm, -⟩
  · rw [hgh] at hg; cases hg
  obtain ⟨arr, o1, o2, o3, o4, o5, o6⟩ := hS.ob id _ ho rfl hgh
  have hrow := o1
  obtain ⟨fz, hheap, -⟩ := o1
  obtain ⟨k1, k2⟩ := hS.put (arr' := arr) (w' := m.w.freeze ⟨(m.μ id).block, arr.size, none⟩ 1) (cs' := cs) ho rfl hgh (hrow.freeze ht) o2 (fun q hq => freeze_other hq) (by unfold World.freeze; simp) rfl rfl rfl o3 o4
  have hset : H.set id ⟨cs, t, true⟩ = H := by
    obtain ⟨hlt, hv⟩ := List.getElem?_eq_some_iff.1 ho
    rw [← hv]; exact List.set_getElem_self hlt
  rw [hset] at k1
  refine ⟨.value (.slice (some ⟨(m.μ id).block, (m.μ id).base + off, none⟩) n cap), { m with w := m.w.freeze ⟨(m.μ id).block, arr.size, none⟩ 1 }, .c (.mu id off n k), H, ?_, k1, k2, h, .inl ⟨_, rfl, .c (R.mu hid hgh hn hsz hcm)⟩⟩
  have hsh : m.w.shape? (m.μ id).block = some (t, arr.size) := by simp [World.shape?, hheap]
  simp [execOp, hop, hu, convert, run_underlying hs, run_underlying he, markStringish, shape, freeze, Sem.run, hsh]
end
end Go.VL
