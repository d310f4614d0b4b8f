/- Steps: how a function's body is walked, on data. Over any program. -/
import Derived.Test.YtbejolinihbokaaV16
namespace Go.VL
open Go.RowKit

section
variable {X : Cx} {n N0 : Nat} {D : DR} {Q : VQ} {sl : Sl} {H : List Ob}

theorem w_seq {a b : Code} (h : vwp X n N0 D a (VQ.then (vwp X n N0 D b Q) Q) sl H) : vwp X n N0 D (.seq a b) Q sl H := h
theorem w_reg {id : Nat} {l : List Oper} (hd : dstOk n l = true) (h : vops X l l (Q .normal) sl H) : vwp X n N0 D (.region id l.toArray false) Q sl H := ⟨hd, h⟩
theorem w_draw {id : Nat} {l : List Oper} (M : List Nat) (es : List En) (hd : dstOk n l = true) (hc : chkOrd M l.toArray [] 0 es = true) (h : vopsD X l es [] (Q .normal) sl H) : vwp X n N0 (drawD X) (.region id l.toArray true) Q sl H := ⟨M, es, hd, hc, h⟩
theorem w_t {c : Operand} {x y : Code} (hc : rho X.G sl c = .c (.v (.bool true))) (h : vwp X n N0 D x Q sl H) : vwp X n N0 D (.cond c x y) Q sl H := by
  simp only [vwp, hc, if_true]; exact h
theorem w_f {c : Operand} {x y : Code} (hc : rho X.G sl c = .c (.v (.bool false))) (h : vwp X n N0 D y Q sl H) : vwp X n N0 D (.cond c x y) Q sl H := by
  simp only [vwp, hc, Bool.false_eq_true, if_false]; exact h
theorem w_block {id : Nat} {c : Code} (h : vwp X n N0 D c (VQ.block id Q) sl H) : vwp X n N0 D (.block id c) Q sl H := h
theorem w_skip (h : Q .normal sl H) : vwp X n N0 D .skip Q sl H := h
theorem w_ret (h : Q .ret sl H) : vwp X n N0 D .ret Q sl H := h
theorem w_exit {id : Nat} (h : Q (.exit id) sl H) : vwp X n N0 D (.exit id) Q sl H := h
theorem w_loop {c : Code} (I : Nat → Sl → List Ob → Prop) (h0 : ∃ k sl0 H0, Turn N0 sl H sl0 H0 ∧ I k sl0 H0)
    (h : ∀ k sl H, I k sl H → vwp X n N0 D c (VQ.then (fun sl' H' => ∃ k' sl'' H'', Turn N0 sl' H' sl'' H'' ∧ I k' sl'' H'' ∧ k' < k) Q) sl H) : vwp X n N0 D (.loop c) Q sl H := ⟨I, h0, h⟩

theorem q_n {next : Sl → List Ob → Prop} (h : next sl H) : VQ.then next Q .normal sl H := h
theorem q_r {next : Sl → List Ob → Prop} (h : Q .ret sl H) : VQ.then next Q .ret sl H := h
theorem q_e {next : Sl → List Ob → Prop} {id : Nat} (h : Q (.exit id) sl H) : VQ.then next Q (.exit id) sl H := h
theorem q_bn {id : Nat} (h : Q .normal sl H) : VQ.block id Q .normal sl H := h
theorem q_br {id : Nat} (h : Q .ret sl H) : VQ.block id Q .ret sl H := h
theorem q_hit {id : Nat} (h : Q .normal sl H) : VQ.block id Q (.exit id) sl H := by simp only [VQ.block, if_true]; exact h
theorem q_miss {id i : Nat} (hi : Nat.beq i id = false) (h : Q (.exit i) sl H) : VQ.block id Q (.exit i) sl H := by
  have hne : i ≠ id := fun he => by subst he; simp at hi
  simp only [VQ.block, if_neg hne]; exact h

theorem r_n {rs : List ResultVar} {P : V → List Ob → Prop} {r : V} (hr : resV X rs sl H = some r) (h : P r H) : retQ X rs P .normal sl H := ⟨r, hr, h⟩
theorem r_r {rs : List ResultVar} {P : V → List Ob → Prop} {r : V} (hr : resV X rs sl H = some r) (h : P r H) : retQ X rs P .ret sl H := ⟨r, hr, h⟩
end

/-! ### Single operations -/
section
variable {X : Cx} {all r : List Oper} {K : Sl → List Ob → Prop} {sl : Sl} {H : List Ob} {d : Tmp} {ty : TypeId} {ps : String} {af : Array Edge}

theorem v_nil (h : K sl H) : vops X all [] K sl H := h

theorem v_guard_on {j : Nat} {w : Bool} {dst : Option Tmp} {op : Op} {d' : Tmp} (hj : (all[j]?).bind (·.dst) = some d') (hb : sl d' = .c (.v (.bool w))) (h : vops X all (⟨dst, op, ty, ps, af, none⟩ :: r) K sl H) :
    vops X all (⟨dst, op, ty, ps, af, some (j, w)⟩ :: r) K sl H := by
  simp only [vops, vguard, hj, hb, if_true] at h ⊢
  exact h
theorem v_guard_off {j : Nat} {w b : Bool} {dst : Option Tmp} {op : Op} {d' : Tmp} (hj : (all[j]?).bind (·.dst) = some d') (hb : sl d' = .c (.v (.bool b))) (hne : (b == w) = false) (h : vops X all r K (putV sl dst .undef) H) :
    vops X all (⟨dst, op, ty, ps, af, some (j, w)⟩ :: r) K sl H := by
  have hne' : b ≠ w := fun he => by subst he; simp at hne
  simp only [vops, vguard, hj, hb, if_neg hne']
  exact h
theorem v_guard_un {j : Nat} {w : Bool} {dst : Option Tmp} {op : Op} {d' : Tmp} (hj : (all[j]?).bind (·.dst) = some d') (hb : sl d' = .tup []) (h : vops X all r K (putV sl dst .undef) H) :
    vops X all (⟨dst, op, ty, ps, af, some (j, w)⟩ :: r) K sl H := by
  simp only [vops, vguard, hj, hb]
  exact h

/-- An operation that writes nothing. -/
theorem v_q {op : Op} (v : V) (hc : callOf op = none) (hv : evq X.lay H (rho X.G sl) op = some v) (h : vops X all r K (upd sl d v) H) : vops X all (⟨some d, op, ty, ps, af, none⟩ :: r) K sl H := by
  simp only [vops, vguard, vop, hc, hv, putV]
  exact h
/-- An operation that writes. -/
theorem v_e {op : Op} {dst : Option Tmp} {f : Eff} (hc : callOf op = none) (hq : evq X.lay H (rho X.G sl) op = none) (hv : eve X.lay H (rho X.G sl) op = some f) (hφ : f.φ) {sl' : Sl} {H' : List Ob} (hs : putV sl dst f.v = sl') (hH : f.H = H') (h : vops X all r K sl' H') :
    vops X all (⟨dst, op, ty, ps, af, none⟩ :: r) K sl H := by
  subst hs hH
  simp only [vops, vguard, vop, hc, hq, hv]
  exact ⟨hφ, h⟩

theorem v_move {x : Operand} {c : C} (hx : rho X.G sl x = .c c) (h : vops X all r K (upd sl d (.c c)) H) : vops X all (⟨some d, .move x, ty, ps, af, none⟩ :: r) K sl H :=
  v_q (.c c) rfl (by simp only [evq, hx]) h
theorem v_move_a {x : Operand} {cs : List C} (hx : rho X.G sl x = .agg cs) (h : vops X all r K (upd sl d (.agg cs)) H) : vops X all (⟨some d, .move x, ty, ps, af, none⟩ :: r) K sl H :=
  v_q (.agg cs) rfl (by simp only [evq, hx]) h
theorem v_move_t {x : Operand} {vs : List V} (hx : rho X.G sl x = .tup vs) (h : vops X all r K (upd sl d (.tup vs)) H) : vops X all (⟨some d, .move x, ty, ps, af, none⟩ :: r) K sl H :=
  v_q (.tup vs) rfl (by simp only [evq, hx]) h
theorem v_assign {x : Operand} {c : C} (hx : rho X.G sl x = .c c) (h : vops X all r K (upd sl d (.c c)) H) : vops X all (⟨some d, .assign x, ty, ps, af, none⟩ :: r) K sl H :=
  v_q (.c c) rfl (by simp only [evq, hx]) h
theorem v_assign_a {x : Operand} {cs : List C} (hx : rho X.G sl x = .agg cs) (h : vops X all r K (upd sl d (.agg cs)) H) : vops X all (⟨some d, .assign x, ty, ps, af, none⟩ :: r) K sl H :=
  v_q (.agg cs) rfl (by simp only [evq, hx]) h
theorem v_assign_t {x : Operand} {vs : List V} (hx : rho X.G sl x = .tup vs) (h : vops X all r K (upd sl d (.tup vs)) H) : vops X all (⟨some d, .assign x, ty, ps, af, none⟩ :: r) K sl H :=
  v_q (.tup vs) rfl (by simp only [evq, hx]) h
theorem v_pick_t {c a b : Operand} {v : C} (hc : rho X.G sl c = .c (.v (.bool true))) (ha : rho X.G sl a = .c v) (h : vops X all r K (upd sl d (.c v)) H) : vops X all (⟨some d, .pick c a b, ty, ps, af, none⟩ :: r) K sl H :=
  v_q (.c v) rfl (by simp only [evq, hc, ha, if_true]) h
theorem v_pick_f {c a b : Operand} {v : C} (hc : rho X.G sl c = .c (.v (.bool false))) (hb : rho X.G sl b = .c v) (h : vops X all r K (upd sl d (.c v)) H) : vops X all (⟨some d, .pick c a b, ty, ps, af, none⟩ :: r) K sl H :=
  v_q (.c v) rfl (by simp only [evq, hc, hb, Bool.false_eq_true, if_false]) h

theorem v_load_vw {t : TypeId} {x : Operand} {L : Lay} {o : Bool} {cs : List C} {off : Nat} (v : V) (hL : X.lay t = some L) (hx : rho X.G sl x = .c (.vw o cs off)) (hl : Nat.ble (off + L.size) cs.length = true) (hv : mkV L.kind.agg (reowns o (sub cs off L.size)) = some v)
    (h : vops X all r K (upd sl d v) H) : vops X all (⟨some d, .load t x, ty, ps, af, none⟩ :: r) K sl H :=
  v_q v rfl (by simp only [evq, hL, hx]; rw [if_pos (Nat.le_of_ble_eq_true hl)]; exact hv) h
theorem v_load_pt {t : TypeId} {x : Operand} {L : Lay} {id off : Nat} {cs : List C} {tt : TypeId} (v : V) (hL : X.lay t = some L) (hx : rho X.G sl x = .c (.pt id off)) (ho : H[id]? = some ⟨cs, tt, true⟩) (hl : Nat.ble (off + L.size) cs.length = true) (hv : mkV L.kind.agg (sub cs off L.size) = some v)
    (h : vops X all r K (upd sl d v) H) : vops X all (⟨some d, .load t x, ty, ps, af, none⟩ :: r) K sl H :=
  v_q v rfl (by simp only [evq, hL, hx, ho]; rw [if_pos ⟨trivial, Nat.le_of_ble_eq_true hl⟩]; exact hv) h
theorem v_fa_pt {s : TypeId} {x : Operand} {f : Nat} {fs : List (TypeId × Nat)} {a b : Nat} {z : List Value} {id off : Nat} {p : TypeId × Nat} (hL : X.lay s = some ⟨.struct fs, a, b, z⟩) (hx : rho X.G sl x = .c (.pt id off)) (hp : fs[f]? = some p) {off' : Nat} (ho : off + p.2 = off')
    (h : vops X all r K (upd sl d (.c (.pt id off'))) H) : vops X all (⟨some d, .fieldAddr s x f, ty, ps, af, none⟩ :: r) K sl H :=
  v_q _ rfl (by simp only [evq, hL, hx, hp, Option.map_some, ho]) h
theorem v_fa_vw {s : TypeId} {x : Operand} {f : Nat} {fs : List (TypeId × Nat)} {a b : Nat} {z : List Value} {o : Bool} {cs : List C} {off : Nat} {p : TypeId × Nat} (hL : X.lay s = some ⟨.struct fs, a, b, z⟩) (hx : rho X.G sl x = .c (.vw o cs off)) (hp : fs[f]? = some p) {off' : Nat} (ho : off + p.2 = off')
    (h : vops X all r K (upd sl d (.c (.vw o cs off'))) H) : vops X all (⟨some d, .fieldAddr s x f, ty, ps, af, none⟩ :: r) K sl H :=
  v_q _ rfl (by simp only [evq, hL, hx, hp, Option.map_some, ho]) h
theorem v_nil_pt {x : Operand} {id off : Nat} (hx : rho X.G sl x = .c (.pt id off)) (h : vops X all r K (upd sl d (.c (.pt id off))) H) : vops X all (⟨some d, .nilCheck x, ty, ps, af, none⟩ :: r) K sl H :=
  v_q _ rfl (by simp only [evq, hx]) h
theorem v_nil_vw {x : Operand} {o : Bool} {cs : List C} {off : Nat} (hx : rho X.G sl x = .c (.vw o cs off)) (h : vops X all r K (upd sl d (.c (.vw o cs off))) H) : vops X all (⟨some d, .nilCheck x, ty, ps, af, none⟩ :: r) K sl H :=
  v_q _ rfl (by simp only [evq, hx]) h
theorem v_nil_fn {x : Operand} {g : FuncId} {cs : List C} (hx : rho X.G sl x = .c (.fn g cs)) (h : vops X all r K (upd sl d (.c (.fn g cs))) H) : vops X all (⟨some d, .nilCheck x, ty, ps, af, none⟩ :: r) K sl H :=
  v_q _ rfl (by simp only [evq, hx]) h
theorem v_extract_c {x : Operand} {i : Nat} {vs : List V} {c : C} (hx : rho X.G sl x = .tup vs) (hi : vs[i]? = some (.c c)) (h : vops X all r K (upd sl d (.c c)) H) : vops X all (⟨some d, .extract x i, ty, ps, af, none⟩ :: r) K sl H :=
  v_q _ rfl (by simp only [evq, hx, hi]) h
theorem v_extract_a {x : Operand} {i : Nat} {vs : List V} {cs : List C} (hx : rho X.G sl x = .tup vs) (hi : vs[i]? = some (.agg cs)) (h : vops X all r K (upd sl d (.agg cs)) H) : vops X all (⟨some d, .extract x i, ty, ps, af, none⟩ :: r) K sl H :=
  v_q _ rfl (by simp only [evq, hx, hi]) h
theorem v_fn {g : FuncId} {caps : Array Operand} {cs : List C} (hcs : capsOf (rho X.G sl) caps.toList = some cs) (h : vops X all r K (upd sl d (.c (.fn g cs))) H) : vops X all (⟨some d, .makeFunc (.func g) #[] caps, ty, ps, af, none⟩ :: r) K sl H :=
  v_q _ rfl (by simp only [evq, hcs]; rfl) h

theorem v_len_sl {x : Operand} {t e : TypeId} {a b : Nat} {z : List Value} {o : Bool} {m k : Nat} {cs : List C} (hL : X.lay t = some ⟨.slice e, a, b, z⟩) (hx : rho X.G sl x = .c (.sl o m k cs)) (h : vops X all r K (upd sl d (.c (.v (.int .i64 (m : Int))))) H) :
    vops X all (⟨some d, .call ⟨.builtin .len, #[x], #[t]⟩, ty, ps, af, none⟩ :: r) K sl H :=
  v_q _ rfl (by simp only [evq, hL, hx, lenV, Option.map_some]) h
theorem v_len_mu {x : Operand} {t e : TypeId} {a b : Nat} {z : List Value} {id off m k : Nat} (hL : X.lay t = some ⟨.slice e, a, b, z⟩) (hx : rho X.G sl x = .c (.mu id off m k)) (h : vops X all r K (upd sl d (.c (.v (.int .i64 (m : Int))))) H) :
    vops X all (⟨some d, .call ⟨.builtin .len, #[x], #[t]⟩, ty, ps, af, none⟩ :: r) K sl H :=
  v_q _ rfl (by simp only [evq, hL, hx, lenV, Option.map_some]) h
theorem v_len_nil {x : Operand} {t e : TypeId} {a b : Nat} {z : List Value} (hL : X.lay t = some ⟨.slice e, a, b, z⟩) (hx : rho X.G sl x = .c (.v (.slice none 0 0))) (h : vops X all r K (upd sl d (.c (.v (.int .i64 0)))) H) :
    vops X all (⟨some d, .call ⟨.builtin .len, #[x], #[t]⟩, ty, ps, af, none⟩ :: r) K sl H :=
  v_q _ rfl (by simp only [evq, hL, hx, lenV, Option.map_some]) h
theorem v_len_s {x : Operand} {t : TypeId} {a b : Nat} {z : List Value} {s : ByteArray} (hL : X.lay t = some ⟨.string, a, b, z⟩) (hx : rho X.G sl x = .c (.v (.string s))) (h : vops X all r K (upd sl d (.c (.v (.int .i64 (s.size : Int))))) H) :
    vops X all (⟨some d, .call ⟨.builtin .len, #[x], #[t]⟩, ty, ps, af, none⟩ :: r) K sl H :=
  v_q _ rfl (by simp only [evq, hL, hx]) h
theorem v_len_a {x : Operand} {t e : TypeId} {m a b : Nat} {z : List Value} (hL : X.lay t = some ⟨.array m e, a, b, z⟩) (h : vops X all r K (upd sl d (.c (.v (.int .i64 (m : Int))))) H) :
    vops X all (⟨some d, .call ⟨.builtin .len, #[x], #[t]⟩, ty, ps, af, none⟩ :: r) K sl H :=
  v_q _ rfl (by simp only [evq, hL]) h

/-! Numbers -/
theorem v_bin {op : BinOp} {t ty2 : TypeId} {x y : Operand} {L : Lay} {a b c : C} (hL : X.lay t = some L) (hx : rho X.G sl x = .c a) (hy : rho X.G sl y = .c b) (hc : bin op L.kind a b = some c) (h : vops X all r K (upd sl d (.c c)) H) : vops X all (⟨some d, .binOp op t x y ty2, ty, ps, af, none⟩ :: r) K sl H :=
  v_q _ rfl (by simp only [evq, hL, hx, hy, hc, Option.map_some]) h
theorem wrap_of {k : IntKind} {a : Int} (h : k.min ≤ a ∧ a ≤ k.max) : k.wrap a = a := by
  obtain ⟨h1, h2⟩ := h
  cases k <;> simp only [IntKind.min, IntKind.max, IntKind.wrap, IntKind.bits, IntKind.signed] at * <;> simp at * <;> omega
theorem v_add {t ty2 : TypeId} {x y : Operand} {L : Lay} {k : IntKind} {a b : Int} (hL : X.lay t = some L) (hx : rho X.G sl x = .c (.v (.int k a))) (hy : rho X.G sl y = .c (.v (.int k b))) (hw : k.min ≤ a + b ∧ a + b ≤ k.max) (h : vops X all r K (upd sl d (.c (.v (.int k (a + b))))) H) :
    vops X all (⟨some d, .binOp .add t x y ty2, ty, ps, af, none⟩ :: r) K sl H :=
  v_bin hL hx hy (by simp only [bin, if_true, binI, wrap_of hw]) h
theorem v_sub {t ty2 : TypeId} {x y : Operand} {L : Lay} {k : IntKind} {a b : Int} (hL : X.lay t = some L) (hx : rho X.G sl x = .c (.v (.int k a))) (hy : rho X.G sl y = .c (.v (.int k b))) (hw : k.min ≤ a - b ∧ a - b ≤ k.max) (h : vops X all r K (upd sl d (.c (.v (.int k (a - b))))) H) :
    vops X all (⟨some d, .binOp .sub t x y ty2, ty, ps, af, none⟩ :: r) K sl H :=
  v_bin hL hx hy (by simp only [bin, if_true, binI, wrap_of hw]) h
theorem v_mul {t ty2 : TypeId} {x y : Operand} {L : Lay} {k : IntKind} {a b : Int} (hL : X.lay t = some L) (hx : rho X.G sl x = .c (.v (.int k a))) (hy : rho X.G sl y = .c (.v (.int k b))) (hw : k.min ≤ a * b ∧ a * b ≤ k.max) (h : vops X all r K (upd sl d (.c (.v (.int k (a * b))))) H) :
    vops X all (⟨some d, .binOp .mul t x y ty2, ty, ps, af, none⟩ :: r) K sl H :=
  v_bin hL hx hy (by simp only [bin, if_true, binI, wrap_of hw]) h
theorem cmp_step {op : BinOp} {t ty2 : TypeId} {x y : Operand} {L : Lay} {a b : C} {p : Prop} [Decidable p] (hL : X.lay t = some L) (hx : rho X.G sl x = .c a) (hy : rho X.G sl y = .c b) (hb : bin op L.kind a b = some (.v (.bool (decide p))))
    (h1 : p → vops X all r K (upd sl d (.c (.v (.bool true)))) H) (h2 : ¬ p → vops X all r K (upd sl d (.c (.v (.bool false)))) H) : vops X all (⟨some d, .binOp op t x y ty2, ty, ps, af, none⟩ :: r) K sl H := by
  refine v_bin hL hx hy hb ?_
  by_cases hp : p
  · simp only [hp, decide_true]; exact h1 hp
  · simp only [hp, decide_false]; exact h2 hp
theorem v_lss {t ty2 : TypeId} {x y : Operand} {L : Lay} {k : IntKind} {a b : Int} (hL : X.lay t = some L) (hx : rho X.G sl x = .c (.v (.int k a))) (hy : rho X.G sl y = .c (.v (.int k b)))
    (h1 : a < b → vops X all r K (upd sl d (.c (.v (.bool true)))) H) (h2 : ¬ a < b → vops X all r K (upd sl d (.c (.v (.bool false)))) H) : vops X all (⟨some d, .binOp .lss t x y ty2, ty, ps, af, none⟩ :: r) K sl H :=
  cmp_step hL hx hy (p := a < b) (by simp only [bin, if_true, binI]) h1 h2
theorem v_leq {t ty2 : TypeId} {x y : Operand} {L : Lay} {k : IntKind} {a b : Int} (hL : X.lay t = some L) (hx : rho X.G sl x = .c (.v (.int k a))) (hy : rho X.G sl y = .c (.v (.int k b)))
    (h1 : a ≤ b → vops X all r K (upd sl d (.c (.v (.bool true)))) H) (h2 : ¬ a ≤ b → vops X all r K (upd sl d (.c (.v (.bool false)))) H) : vops X all (⟨some d, .binOp .leq t x y ty2, ty, ps, af, none⟩ :: r) K sl H :=
  cmp_step hL hx hy (p := a ≤ b) (by simp only [bin, if_true, binI]) h1 h2
theorem v_gtr {t ty2 : TypeId} {x y : Operand} {L : Lay} {k : IntKind} {a b : Int} (hL : X.lay t = some L) (hx : rho X.G sl x = .c (.v (.int k a))) (hy : rho X.G sl y = .c (.v (.int k b)))
    (h1 : b < a → vops X all r K (upd sl d (.c (.v (.bool true)))) H) (h2 : ¬ b < a → vops X all r K (upd sl d (.c (.v (.bool false)))) H) : vops X all (⟨some d, .binOp .gtr t x y ty2, ty, ps, af, none⟩ :: r) K sl H :=
  cmp_step hL hx hy (p := b < a) (by simp only [bin, if_true, binI]) h1 h2
theorem v_geq {t ty2 : TypeId} {x y : Operand} {L : Lay} {k : IntKind} {a b : Int} (hL : X.lay t = some L) (hx : rho X.G sl x = .c (.v (.int k a))) (hy : rho X.G sl y = .c (.v (.int k b)))
    (h1 : b ≤ a → vops X all r K (upd sl d (.c (.v (.bool true)))) H) (h2 : ¬ b ≤ a → vops X all r K (upd sl d (.c (.v (.bool false)))) H) : vops X all (⟨some d, .binOp .geq t x y ty2, ty, ps, af, none⟩ :: r) K sl H :=
  cmp_step hL hx hy (p := b ≤ a) (by simp only [bin, if_true, binI]) h1 h2
theorem beq_dec (a b : Int) : (a == b) = decide (a = b) := by
  by_cases h : a = b <;> simp [h]
theorem bne_dec (a b : Int) : (a != b) = decide (¬ a = b) := by
  by_cases h : a = b <;> simp [h]
theorem v_eql {t ty2 : TypeId} {x y : Operand} {L : Lay} {k : IntKind} {a b : Int} (hL : X.lay t = some L) (hx : rho X.G sl x = .c (.v (.int k a))) (hy : rho X.G sl y = .c (.v (.int k b)))
    (h1 : a = b → vops X all r K (upd sl d (.c (.v (.bool true)))) H) (h2 : ¬ a = b → vops X all r K (upd sl d (.c (.v (.bool false)))) H) : vops X all (⟨some d, .binOp .eql t x y ty2, ty, ps, af, none⟩ :: r) K sl H :=
  cmp_step hL hx hy (p := a = b) (by simp only [bin, if_true, binI, beq_dec]) h1 h2
theorem v_neq {t ty2 : TypeId} {x y : Operand} {L : Lay} {k : IntKind} {a b : Int} (hL : X.lay t = some L) (hx : rho X.G sl x = .c (.v (.int k a))) (hy : rho X.G sl y = .c (.v (.int k b)))
    (h1 : ¬ a = b → vops X all r K (upd sl d (.c (.v (.bool true)))) H) (h2 : a = b → vops X all r K (upd sl d (.c (.v (.bool false)))) H) : vops X all (⟨some d, .binOp .neq t x y ty2, ty, ps, af, none⟩ :: r) K sl H :=
  cmp_step hL hx hy (p := ¬ a = b) (by simp only [bin, if_true, binI, bne_dec]) h1 (fun h => h2 (Decidable.of_not_not h))
theorem v_not {t : TypeId} {x : Operand} {b : Bool} (b' : Bool) (hx : rho X.G sl x = .c (.v (.bool b))) (hb : (!b) = b') (h : vops X all r K (upd sl d (.c (.v (.bool b')))) H) : vops X all (⟨some d, .unOp .not t x, ty, ps, af, none⟩ :: r) K sl H :=
  v_q _ rfl (by simp only [evq, hx, un, Option.map_some, hb]) h

/-! Writing -/
theorem v_box {t : TypeId} {x : Operand} {L : Lay} {cs : List C} {H' : List Ob} (hL : X.lay t = some L) (hx : (rho X.G sl x).cells = some cs) (hH : H ++ [⟨cs, t, true⟩] = H') {m : Nat} (hm : H.length = m) (h : vops X all r K (upd sl d (.c (.pt m 0))) H') :
    vops X all (⟨some d, .box t x, ty, ps, af, none⟩ :: r) K sl H :=
  v_e (f := ⟨.c (.pt m 0), H', True⟩) rfl rfl (by simp only [eve, hL, hx, hH, hm]) trivial rfl rfl h
theorem v_alloc {t : TypeId} {L : Lay} {H' : List Ob} (hL : X.lay t = some L) (hH : H ++ [⟨L.zero.map cOf, t, true⟩] = H') {m : Nat} (hm : H.length = m) (h : vops X all r K (upd sl d (.c (.pt m 0))) H') :
    vops X all (⟨some d, .alloc t, ty, ps, af, none⟩ :: r) K sl H :=
  v_e (f := ⟨.c (.pt m 0), H', True⟩) rfl rfl (by simp only [eve, hL, hH, hm]) trivial rfl rfl h
theorem v_store {t : TypeId} {a x : Operand} {L : Lay} {id off : Nat} {cs ocs : List C} {tt : TypeId} {H' : List Ob} (hL : X.lay t = some L) (ha : rho X.G sl a = .c (.pt id off)) (hx : (rho X.G sl x).cells = some cs) (ho : H[id]? = some ⟨ocs, tt, true⟩)
    (hl : Nat.beq cs.length L.size = true) (hf : Nat.ble (off + L.size) ocs.length = true) (hH : H.set id ⟨setCells ocs off cs, tt, true⟩ = H') (h : vops X all r K sl H') :
    vops X all (⟨none, .store t a x, ty, ps, af, none⟩ :: r) K sl H :=
  v_e (f := ⟨.any, H', True⟩) rfl rfl (by simp only [eve, hL, ha, hx, ho]; rw [if_pos ⟨trivial, Nat.eq_of_beq_eq_true hl, Nat.le_of_ble_eq_true hf⟩, hH]) trivial rfl rfl h

/-! Calls -/
theorem vw_v {x : Value} : VwV H (.c (.v x)) (.c (.v x)) := .c (.dn .v rfl)
theorem vw_f {k : FloatKind} {x : Option Nat} : VwV H (.c (.f k x)) (.c (.f k x)) := .c (.dn .f rfl)
theorem vw_sl {b : Bool} {m k : Nat} {cs : List C} : VwV H (.c (.sl b m k cs)) (.c (.sl false m k cs)) := .c (.dn (.sl (fun h => by cases h)) rfl)
theorem vw_vw {b : Bool} {off : Nat} {cs : List C} : VwV H (.c (.vw b cs off)) (.c (.vw false cs off)) := .c (.dn (.vw (fun h => by cases h)) rfl)
inductive VwL (H : List Ob) : List C → List C → Prop
  | nil : VwL H [] []
  | cons {c c' : C} {cs cs' : List C} (h : VwV H (.c c) (.c c')) (hs : VwL H cs cs') : VwL H (c :: cs) (c' :: cs')
theorem VwL.spec {cs cs' : List C} (h : VwL H cs cs') : cs'.length = cs.length ∧ ∀ (j : Nat) (c c' : C), cs[j]? = some c → cs'[j]? = some c' → Vw H c c' := by
  induction h with
  | nil => exact ⟨rfl, fun j c c' h => by simp at h⟩
  | cons h hs ih =>
    refine ⟨by simp [ih.1], fun j x x' hj hj' => ?_⟩
    cases j with
    | zero => simp at hj hj'; subst hj hj'; cases h with | c h => exact h
    | succ j => exact ih.2 j x x' (by simpa using hj) (by simpa using hj')
theorem vw_agg {cs cs' : List C} (h : VwL H cs cs') : VwV H (.agg cs) (.agg cs') := .agg h.spec.1 h.spec.2
theorem vw_fn {g : FuncId} {cs cs' : List C} (h : VwL H cs cs') : VwV H (.c (.fn g cs)) (.c (.fn g cs')) := .c (.fn h.spec.1 h.spec.2)

/-- A call on data, by its contract. -/
theorem v_call {f : Operand} {args : Array Operand} {tys : Array TypeId} {g : FuncId} {caps : List C} {args' : List V} {res : V} (hp : PureC X g args' res) (ho : ownV res = true) (hf : rho X.G sl f = .c (.fn g caps)) {as : List V} (has : args.toList.map (rho X.G sl) ++ caps.map .c = as) (hv : Views H as args')
    (h : vops X all r K (upd sl d res) H) : vops X all (⟨some d, .call ⟨.value f, args, tys⟩, ty, ps, af, none⟩ :: r) K sl H := by
  subst has
  simp only [vops, vguard, vop, callOf, hf, target, putV]
  exact CallC.of_pure ⟨args', hv, hp, ho⟩ h
end

/-! ### Slices of things that are written as so many cells -/
def flat {α : Type} (enc : α → List C) (xs : List α) : List C := xs.flatMap enc

theorem flat_length {α : Type} {enc : α → List C} {k : Nat} (he : ∀ a, (enc a).length = k) (xs : List α) : (flat enc xs).length = xs.length * k := by
  induction xs with
  | nil => simp [flat]
  | cons x xs ih =>
    simp only [flat, List.flatMap_cons, List.length_append, List.length_cons] at *
    rw [ih, he, Nat.add_mul]; omega
theorem flat_append {α : Type} {enc : α → List C} (xs ys : List α) : flat enc (xs ++ ys) = flat enc xs ++ flat enc ys := by simp [flat]
theorem sub_flat {α : Type} {enc : α → List C} {k : Nat} (he : ∀ a, (enc a).length = k) : ∀ {xs : List α} {i : Nat} (hi : i < xs.length), sub (flat enc xs) (i * k) k = enc xs[i]
  | x :: xs, 0, _ => by
    simp only [sub, flat, List.flatMap_cons, Nat.zero_mul, List.drop_zero]
    rw [List.take_append_of_le_length (by rw [he]; exact Nat.le_refl _), List.take_of_length_le (by rw [he]; exact Nat.le_refl _)]; rfl
  | x :: xs, i + 1, hi => by
    have := sub_flat he (xs := xs) (i := i) (by simpa using hi)
    simp only [sub, flat, List.flatMap_cons] at this ⊢
    have hd : (i + 1) * k = (enc x).length + i * k := by rw [he, Nat.add_mul]; omega
    rw [hd, ← List.drop_drop, List.drop_left]
    exact this

section
variable {X : Cx} {all r : List Oper} {K : Sl → List Ob → Prop} {sl : Sl} {H : List Ob} {d : Tmp} {ty : TypeId} {ps : String} {af : Array Edge}

/-- An element of a frozen slice. -/
theorem v_idx {α : Type} {enc : α → List C} {t e : TypeId} {x i : Operand} {a b : Nat} {z : List Value} {o : Bool} {m k : Nat} {xs : List α} {kk : IntKind} {j : Int} {L : Lay} (he : ∀ a, (enc a).length = k) (hL : X.lay t = some ⟨.slice e, a, b, z⟩) (hLe : X.lay e = some L) (hk : L.size = k) (hk0 : Nat.blt 0 k = true)
    (hx : rho X.G sl x = .c (.sl o m k (flat enc xs))) (hm : m = xs.length) (hi : rho X.G sl i = .c (.v (.int kk j))) (hj : 0 ≤ j ∧ j < xs.length) (h : ∀ (q : Nat) (hq : q < xs.length), j = (q : Int) → vops X all r K (upd sl d (.c (.vw o (enc xs[q]) 0))) H) :
    vops X all (⟨some d, .indexAddr t x i, ty, ps, af, none⟩ :: r) K sl H := by
  subst hm
  obtain ⟨q, rfl⟩ := Int.eq_ofNat_of_zero_le hj.1
  have hq : q < xs.length := by omega
  refine v_q _ rfl ?_ (h q hq rfl)
  simp only [evq, hL, hx, hi, hLe]
  rw [if_pos ⟨hk, Nat.le_of_ble_eq_true hk0, hj.1, hj.2⟩, Int.toNat_natCast, sub_flat he hq]
end
end Go.VL
