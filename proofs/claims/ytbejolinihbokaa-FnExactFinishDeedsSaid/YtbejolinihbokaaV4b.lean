/- Values built of parts; conversions; slices of slices: the model comes to the same. Over any program. -/
import Derived.Test.YtbejolinihbokaaV4
import Derived.Laws.BytesString
namespace Go.VL
open Go.RowKit

section
variable {X : Cx} {m : Mem} {H : List Ob} {ε : Operand → Value} {ρ : Operand → V} {o : Oper} {v : V}

theorem foldl_set : ∀ (vs : List Value) (i off : Nat) (arr : Array Value), ((vs.zipIdx i).foldl (fun cs (c, j) => cs.setIfInBounds (off + j) c) arr).size = arr.size ∧
    ∀ j : Nat, ((vs.zipIdx i).foldl (fun cs (c, j) => cs.setIfInBounds (off + j) c) arr)[j]? = if off + i ≤ j ∧ j < off + i + vs.length ∧ j < arr.size then vs[j - (off + i)]? else arr[j]?
  | [], i, off, arr => by
    refine ⟨rfl, fun j => ?_⟩
    rw [if_neg (by simp; omega)]; rfl
  | v :: vs, i, off, arr => by
    obtain ⟨h1, h2⟩ := foldl_set vs (i + 1) off (arr.setIfInBounds (off + i) v)
    simp only [List.zipIdx_cons, List.foldl_cons]
    refine ⟨by rw [h1]; simp, fun j => ?_⟩
    rw [h2 j]
    simp only [Array.size_setIfInBounds, List.length_cons]
    by_cases hc : off + (i + 1) ≤ j ∧ j < off + (i + 1) + vs.length ∧ j < arr.size
    · rw [if_pos hc, if_pos (by omega)]
      have : j - (off + i) = (j - (off + (i + 1))) + 1 := by omega
      rw [this, List.getElem?_cons_succ]
    · rw [if_neg hc]
      by_cases hj : j = off + i
      · subst hj
        by_cases hlt : off + i < arr.size
        · rw [if_pos (by omega), Array.getElem?_setIfInBounds_self_of_lt hlt]
          simp
        · rw [if_neg (by omega)]
          rw [Array.setIfInBounds_eq_of_size_le (by omega)]
      · rw [Array.getElem?_setIfInBounds_ne (by omega)]
        by_cases hc2 : off + i ≤ j ∧ j < off + i + (vs.length + 1) ∧ j < arr.size
        · omega
        · rw [if_neg hc2]

theorem fill_rel {place : Nat → Option (Nat × Nat)} (hρ : ∀ x, RV m (ρ x) (ε x)) : ∀ (parts : List (Nat × Operand)) (cs cs' : List C) (arr : Array Value), arr.size = cs.length →
    (∀ (j : Nat) (c : C), cs[j]? = some c → ∃ u, arr[j]? = some u ∧ R m c u) → fillC place cs (parts.map fun p => (p.1, ρ p.2)) = some cs' →
    ∃ arr', Instr.fill place arr (parts.map fun p => (p.1, ε p.2)) = some arr' ∧ arr'.size = cs'.length ∧ ∀ (j : Nat) (c : C), cs'[j]? = some c → ∃ u, arr'[j]? = some u ∧ R m c u
  | [], cs, cs', arr, hs, hr, h => by
    simp only [List.map_nil, fillC, Option.some.injEq] at h
    subst h
    exact ⟨arr, rfl, hs, hr⟩
  | (i, x) :: parts, cs, cs', arr, hs, hr, h => by
    simp only [List.map_cons, fillC] at h
    split at h
    · rename_i off size vcs hp hv
      split at h
      · rename_i hh
        obtain ⟨hl, hfit⟩ := hh
        have hx := hρ x
        have hcell : (ε x).cells.size = vcs.length ∧ ∀ (j : Nat) (c : C), vcs[j]? = some c → ∃ u, (ε x).cells[j]? = some u ∧ R m c u := by
          generalize ρ x = vx at hv hx
          cases vx with
          | c y =>
            simp only [V.cells, Option.some.injEq] at hv
            subst hv
            have hy := hx.cell
            have hp := hy.plain
            have hcells : (ε x).cells = #[ε x] := by
              generalize ε x = u at hp
              cases u <;> simp [VL.plain] at hp <;> rfl
            rw [hcells]
            refine ⟨rfl, fun j c hj => ?_⟩
            cases j with
            | zero => simp at hj; subst hj; exact ⟨ε x, rfl, hy⟩
            | succ j => simp at hj
          | agg cs' =>
            simp only [V.cells, Option.some.injEq] at hv
            subst hv
            obtain ⟨a', h0, h1, h2⟩ := hx.aggI
            rw [h0]
            exact ⟨h1, h2⟩
          | tup vs => simp [V.cells] at hv
          | any => simp [V.cells] at hv
        obtain ⟨c1, c2⟩ := hcell
        obtain ⟨f1, f2⟩ := foldl_set (ε x).cells.toList 0 off arr
        generalize ha : ((ε x).cells.toList.zipIdx 0).foldl (fun cs (c, j) => cs.setIfInBounds (off + j) c) arr = arr1 at f1 f2
        have hfold : (ε x).cells.zipIdx.foldl (fun cs (c, j) => cs.setIfInBounds (off + j) c) arr = arr1 := by
          rw [← ha, ← Array.foldl_toList, Array.toList_zipIdx]
        obtain ⟨arr', g1, g2, g3⟩ := fill_rel hρ parts (cs.take off ++ vcs ++ cs.drop (off + size)) cs' arr1 (by rw [f1]; simp; omega) (fun j c hj => by
          have hlt := (List.getElem?_eq_some_iff.1 hj).1
          simp at hlt
          rw [f2 j]
          simp only [Array.length_toList, c1, Nat.add_zero]
          by_cases h1 : j < off
          · rw [if_neg (by omega)]
            rw [List.append_assoc, List.getElem?_append_left (by simp; omega), List.getElem?_take_of_lt h1] at hj
            exact hr j c hj
          · by_cases h2 : j < off + vcs.length
            · rw [if_pos (by omega)]
              rw [List.getElem?_append_left (by simp; omega), List.getElem?_append_right (by simp; omega)] at hj
              have : j - (cs.take off).length = j - off := by simp; omega
              rw [this] at hj
              obtain ⟨u, hu, hr'⟩ := c2 _ c hj
              exact ⟨u, by simpa using hu, hr'⟩
            · rw [if_neg (by omega)]
              rw [List.getElem?_append_right (by simp; omega)] at hj
              have : j - (cs.take off ++ vcs).length = j - (off + vcs.length) := by simp; omega
              rw [this, List.getElem?_drop] at hj
              have : off + size + (j - (off + vcs.length)) = j := by omega
              rw [this] at hj
              exact hr j c hj) h
        refine ⟨arr', ?_, g2, g3⟩
        simp only [List.map_cons, Instr.fill, hp]
        rw [if_neg (by simp [c1, hl]; omega), hfold]
        exact g1
      · cases h
    · cases h

theorem zero_rel (vs : List Value) (hp : ∀ u ∈ vs, plain u = true) : ∀ (j : Nat) (c : C), (vs.map cOf)[j]? = some c → ∃ u, vs[j]? = some u ∧ R m c u := by
  intro j c hj
  rw [List.getElem?_map, Option.map_eq_some_iff] at hj
  obtain ⟨u, hu, rfl⟩ := hj
  refine ⟨u, hu, ?_⟩
  have := hp u (List.mem_of_getElem? hu)
  cases u <;> first
    | exact .v this
    | exact R.float

theorem mapM_places {lay : TypeId → Option Lay} : ∀ {fs : List (TypeId × Nat)} {places : List (Nat × Nat)}, fs.mapM (fun p => (lay p.1).map fun L => (p.2, L.size)) = some places →
    places.length = fs.length ∧ ∀ (j : Nat) (q : Nat × Nat), places[j]? = some q → ∃ p L, fs[j]? = some p ∧ lay p.1 = some L ∧ q = (p.2, L.size)
  | [], places, h => by simp at h; subst h; simp
  | p :: fs, places, h => by
    rw [List.mapM_cons] at h
    obtain ⟨q, hq, h⟩ := Option.bind_eq_some_iff.1 h
    obtain ⟨qs, hqs, h⟩ := Option.bind_eq_some_iff.1 h
    obtain ⟨L, hL, rfl⟩ := Option.map_eq_some_iff.1 hq
    simp at h
    subst h
    obtain ⟨h1, h2⟩ := mapM_places hqs
    refine ⟨by simp [h1], fun j q hj => ?_⟩
    cases j with
    | zero => simp at hj; subst hj; exact ⟨p, L, rfl, hL, rfl⟩
    | succ j => simpa using h2 j q (by simpa using hj)

theorem run_mapM_list {α β : Type} {P : Program} {w : World} {g : α → Sem β} : ∀ (fl : List α) (pl : List β), pl.length = fl.length → (∀ (j : Nat) (q : β), pl[j]? = some q → ∃ f, fl[j]? = some f ∧ (g f).run P w = .ok q w) →
    (fl.mapM g).run P w = .ok pl w
  | [], pl, hl, _ => by
    cases pl with
    | nil => rfl
    | cons _ _ => simp at hl
  | f :: fl, pl, hl, h => by
    cases pl with
    | nil => simp at hl
    | cons q pl =>
      obtain ⟨f', hf', hq⟩ := h 0 q rfl
      simp at hf'
      subst hf'
      have ih := run_mapM_list fl pl (by simpa using hl) (fun j q hj => by simpa using h (j + 1) q (by simpa using hj))
      rw [List.mapM_cons]
      simp only [Sem.run_bind, hq, Result.andThen_ok, ih, Sem.run_pure]

theorem good_build_struct (hS : Sim X.G m H) (hρ : ∀ x, RV m (ρ x) (ε x)) {t : TypeId} {parts : Array (Nat × Operand)} (ho : o.op = .build t parts) {fs : List (TypeId × Nat)} {s b : Nat} {z : List Value}
    (hL : X.lay t = some ⟨.struct fs, s, b, z⟩) {places : List (Nat × Nat)} (hp : fs.mapM (fun p => (X.lay p.1).map fun L => (p.2, L.size)) = some places) {cs : List C}
    (hf : fillC (places[·]?) (z.map cOf) (parts.toList.map fun p => (p.1, ρ p.2)) = some cs) : Good X m H ε o (.agg cs) := by
  obtain ⟨hk, hpl, i, zz, g1, g2, g3, g4, g5, g6⟩ := X.ok t _ hL
  obtain ⟨fields, h1, h2, h3⟩ := hk
  simp only at g5 g6 hpl
  obtain ⟨arr', f1, f2, f3⟩ := fill_rel hρ parts.toList (z.map cOf) cs zz.cells (by rw [← g5]; simp) (fun j c hj => by
    obtain ⟨u, hu, hr⟩ := zero_rel (m := m) z (fun u hu => List.all_eq_true.1 hpl u hu) j c hj
    rw [← g5] at hu
    exact ⟨u, by simpa using hu, hr⟩) hf
  obtain ⟨p1, p2⟩ := mapM_places hp
  have hplaces : ∀ w : World, (fields.mapM (m := Sem) fun f => do pure (f.offset, ← sizeOf f.type)).run X.P w = .ok places.toArray w := fun w => by
    rw [Array.mapM_eq_mapM_toList]
    have hh := run_mapM_list (P := X.P) (w := w) (g := fun f : Field => (do pure (f.offset, ← sizeOf f.type) : Sem (Nat × Nat))) fields.toList places (by rw [p1, ← h2]; simp) (fun j q hj => by
      obtain ⟨p, L, a1, a2, rfl⟩ := p2 j q hj
      rw [← h2, List.getElem?_map, Option.map_eq_some_iff] at a1
      obtain ⟨f, b1, rfl⟩ := a1
      obtain ⟨inf, i1, i2⟩ := size_ok a2
      exact ⟨f, b1, by simp [sizeOf, typeInfo, i1, i2]⟩)
    rw [Sem.run_map, hh]
    rfl
  refine Good.here hS (u := .agg arr') ?_ (.agg f2 f3)
  simp only [execOp, ho, Instr.build, Sem.run_bind, zeroValue, typeInfo, program, Sem.run, g1, g4, run_underlying h1, hplaces, Result.andThen_ok, Sem.run_pure]
  simp only [Array.toList_map, List.getElem?_toArray]
  rw [show (fun x : Nat => places[x]?) = (places[·]?) from rfl, f1]
  rfl
theorem good_build_array (hS : Sim X.G m H) (hρ : ∀ x, RV m (ρ x) (ε x)) {t e : TypeId} {n : Nat} {parts : Array (Nat × Operand)} (ho : o.op = .build t parts) {s b : Nat} {z : List Value}
    (hL : X.lay t = some ⟨.array n e, s, b, z⟩) {L : Lay} (hLe : X.lay e = some L) {cs : List C}
    (hf : fillC (fun i => some (i * L.size, L.size)) (z.map cOf) (parts.toList.map fun p => (p.1, ρ p.2)) = some cs) : Good X m H ε o (.agg cs) := by
  obtain ⟨hk, hpl, i, zz, g1, g2, g3, g4, g5, g6⟩ := X.ok t _ hL
  obtain ⟨inf, i1, i2⟩ := size_ok hLe
  have hk' : X.P.underlying t = some (.array n e) := hk
  simp only at g5 g6 hpl
  obtain ⟨arr', f1, f2, f3⟩ := fill_rel hρ parts.toList (z.map cOf) cs zz.cells (by rw [← g5]; simp) (fun j c hj => by
    obtain ⟨u, hu, hr⟩ := zero_rel (m := m) z (fun u hu => List.all_eq_true.1 hpl u hu) j c hj
    rw [← g5] at hu
    exact ⟨u, by simpa using hu, hr⟩) hf
  refine Good.here hS (u := .agg arr') ?_ (.agg f2 f3)
  simp only [execOp, ho, Instr.build, Sem.run_bind, zeroValue, typeInfo, program, Sem.run, g1, g4, run_underlying hk', Result.andThen_ok, Sem.run_pure, sizeOf, i1, i2]
  simp only [Array.toList_map]
  rw [f1]
  rfl

theorem cut_conv (k : FloatKind) (x t : Nat) : isNaN k (Question.cut (.nanConv k x) t) = true := by
  have := cut_nan k x x t
  cases k <;> exact this

theorem bytesOf_get : ∀ {cs : List C} {ns : List Int}, bytesOf cs = some ns → ns.length = cs.length ∧ ∀ (j : Nat) (c : C), cs[j]? = some c → ∃ n, ns[j]? = some n ∧ c = .v (.int .u8 n)
  | [], ns, h => by
    simp only [bytesOf, Option.some.injEq] at h
    subst h
    exact ⟨rfl, fun j c h => by simp at h⟩
  | c :: cs, ns, h => by
    cases c with
    | v x =>
      cases x with
      | int k n =>
        cases k <;> simp only [bytesOf] at h <;> try (cases h; done)
        obtain ⟨ns', h1, rfl⟩ := Option.map_eq_some_iff.1 h
        obtain ⟨l1, l2⟩ := bytesOf_get h1
        refine ⟨by simp [l1], fun j c hj => ?_⟩
        cases j with
        | zero => simp at hj; subst hj; exact ⟨n, rfl, rfl⟩
        | succ j => simpa using l2 j c (by simpa using hj)
      | _ => simp [bytesOf] at h
    | _ => simp [bytesOf] at h
theorem good_convert (hS : Sim X.G m H) {s t : TypeId} {x : Operand} (ho : o.op = .convert s t x) {a z : Value} (hx : ε x = a) {c : C} (hr : R m c z)
    (h : (convert s t a).run X.P m.w = .ok z m.w) : Good X m H ε o (.c c) :=
  Good.here hS (u := z) (by simp [execOp, ho, hx, h]) (.c hr)

theorem good_conv (hS : Sim X.G m H) {s t : TypeId} {x : Operand} (ho : o.op = .convert s t x) (hx : RV m (ρ x) (ε x)) (h : evq X.lay H ρ (.convert s t x) = some v) : Good X m H ε o v := by
  simp only [evq] at h
  split at h
  · rename_i k' _ _ _ k _ _ _ kk n hs ht hx'
    rw [hx'] at hx
    simp only [Option.some.injEq] at h; subst h
    have hus : X.P.underlying s = some (.int k') := (X.ok s _ hs).kind
    have hut : X.P.underlying t = some (.int k) := (X.ok t _ ht).kind
    exact good_convert hS ho hx.val (.v rfl) (by simp [convert, run_underlying hus, run_underlying hut, Conv.intToInt])
  · rename_i k' _ _ _ k _ _ _ kk n hs ht hx'
    rw [hx'] at hx
    simp only [Option.some.injEq] at h; subst h
    have hus : X.P.underlying s = some (.int k') := (X.ok s _ hs).kind
    have hut : X.P.underlying t = some (.float k) := (X.ok t _ ht).kind
    exact good_convert hS ho hx.val (.fs (write_num k (.number (n < 0) n.natAbs 0) rfl)) (by simp [convert, run_underlying hus, run_underlying hut, Conv.intToFloat])
  · rename_i k1 _ _ _ k _ _ _ k' y hs ht hx'
    rw [hx'] at hx
    obtain ⟨b, hxe, rfl⟩ := hx.cell.floatI
    have hus : X.P.underlying s = some (.float k1) := (X.ok s _ hs).kind
    have hut : X.P.underlying t = some (.float k) := (X.ok t _ ht).kind
    have hconv : convert s t (.float k' b) = (convert s t (.float k' b)) := rfl
    split at h
    · rename_i z hz
      simp only [Option.some.injEq] at h; subst h
      unfold convF at hz
      by_cases hkk : k' = k
      · rw [if_pos hkk] at hz
        simp only [Option.some.injEq] at hz
        subst hz hkk
        exact good_convert hS ho hxe R.float (by simp [convert, run_underlying hus, run_underlying hut, Conv.floatToFloat])
      · rw [if_neg hkk] at hz
        unfold fOf at hz
        by_cases hn : isNaN k' b = true
        · rw [if_pos hn] at hz
          simp only [Option.some.injEq] at hz
          subst hz
          obtain ⟨q, r, hd⟩ := read_nan hn
          obtain ⟨h1, h2⟩ := hS.same (w' := m.w.drew) rfl rfl rfl rfl
          refine ⟨.float k (Question.cut (.nanConv k b) (m.w.tape m.w.drawn (.nanConv k b))), _, ?_, h1, h2, .c (.fn (cut_conv k b _))⟩
          simp [execOp, ho, hxe, convert, run_underlying hus, run_underlying hut, Conv.floatToFloat, hkk, FloatKind.decode, hd, show (Question.nanConv k b).forced = false from rfl]
        · rw [if_neg hn] at hz
          simp only at hz
          split at hz
          · rename_i sg mg e hd
            split at hz
            · cases hz
            · rename_i hinf
              simp only [Option.some.injEq] at hz
              subst hz
              exact good_convert hS ho hxe (.fs (write_num k _ rfl)) (by simp [convert, run_underlying hus, run_underlying hut, Conv.floatToFloat, hkk, hd, hinf])
          · rename_i sg hd
            simp only [Option.some.injEq] at hz
            subst hz
            exact good_convert hS ho hxe (.fs (write_num k _ rfl)) (by simp [convert, run_underlying hus, run_underlying hut, Conv.floatToFloat, hkk, hd])
          · cases hz
    · cases h
  · rename_i k1 _ _ _ k _ _ _ k' b hs ht hx'
    rw [hx'] at hx
    have hus : X.P.underlying s = some (.float k1) := (X.ok s _ hs).kind
    have hut : X.P.underlying t = some (.int k) := (X.ok t _ ht).kind
    have hxe : ε x = .float k' b := by
      generalize ε x = u at hx
      cases hx.cell with
      | fz h => cases h; rfl
    split at h
    · rename_i n hn
      split at h
      · rename_i hr
        simp only [Option.some.injEq] at h; subst h
        exact good_convert hS ho hxe (.v rfl) (by simp [convert, run_underlying hus, run_underlying hut, Conv.floatToInt, hn, hr])
      · cases h
    · cases h
  · rename_i str hs ht hx'
    rw [hx'] at hx
    simp only [Option.some.injEq] at h; subst h
    have hus : X.P.underlying s = some .string := (X.ok s _ hs).kind
    have hut : X.P.underlying t = some .string := (X.ok t _ ht).kind
    exact good_convert hS ho hx.val (.v rfl) (by simp [convert, run_underlying hus, run_underlying hut])
  · rename_i e _ _ _ _ _ _ own n k cs hs ht hx'
    rw [hx'] at hx
    split at h
    · rename_i ns hLe hbs
      split at h
      · rename_i hk
        subst hk
        simp only [Option.some.injEq] at h; subst h
        have hus : X.P.underlying s = some (.slice e) := (X.ok s _ hs).kind
        have hut : X.P.underlying t = some .string := (X.ok t _ ht).kind
        have hue : X.P.underlying e = some (.int .u8) := (X.ok e _ hLe).kind
        generalize hu : ε x = u at hx
        cases hx with
        | c hx => cases hx with
          | fz hx => cases hx with
            | @sl _ _ _ _ a cap us hn hc hl hF hw hr =>
              obtain ⟨l1, l2⟩ := bytesOf_get hbs
              have hload : (loadCells a n).run X.P m.w = .ok (ns.map (Value.int .u8)).toArray m.w := by
                have := run_loadCells_list (P := X.P) m.w a (ns.map (Value.int .u8)) (fun j u hj => by
                  have hlt : j < cs.length := by
                    have := (List.getElem?_eq_some_iff.1 hj).1
                    rw [List.length_map, l1] at this
                    exact this
                  have hne : cs ≠ [] := by rintro rfl; simp at hlt
                  obtain ⟨q, h1, h2⟩ := l2 j _ (List.getElem?_eq_getElem hlt)
                  have h3 := hw j _ (List.getElem?_eq_getElem hlt)
                  have h4 := hr j _ (List.getElem?_eq_getElem hlt)
                  rw [h2] at h4
                  rw [List.getElem?_map, h1] at hj
                  simp only [Option.map_some, Option.some.injEq] at hj
                  have h5 : us j = .int .u8 q := by
                    clear h3 hr hw
                    generalize us j = y at h4 ⊢
                    cases h4; rfl
                  have hadd : a.add j = ⟨a.block, a.off + j, none⟩ := by
                    have hsp := (hF hne).1
                    obtain ⟨ab, ao, asp⟩ := a
                    simp only at hsp
                    subst hsp
                    exact addr_add ab ao j
                  rw [hadd, h3, h5, ← hj])
                rw [List.length_map, l1, hl, Nat.mul_one] at this
                exact this
              exact good_convert hS ho hu (.v rfl) (by rw [run_convert_bytes_string m.w s t e _ _ _ hus hue hut, run_bytesToString m.w a n cap ns hload]; rfl)
            | nil =>
              simp only [bytesOf, Option.some.injEq] at hbs
              subst hbs
              exact good_convert hS ho hu (.v rfl) (by rw [run_convert_bytes_string m.w s t e _ _ _ hus hue hut]; rfl)
      · cases h
    · cases h
  · cases h
theorem bnd_sound (hρ : ∀ x, RV m (ρ x) (ε x)) {x : Option Operand} {d l : Int} (h : bnd ρ x d = some l) : (x = none ∧ l = d) ∨ ∃ y k, x = some y ∧ ε y = .int k l := by
  unfold bnd at h
  split at h
  · simp only [Option.some.injEq] at h; exact .inl ⟨rfl, h.symm⟩
  · rename_i y
    split at h
    · rename_i k n hy
      simp only [Option.some.injEq] at h; subst h
      have := hρ y
      rw [hy] at this
      exact .inr ⟨y, k, rfl, this.val⟩
    · cases h

/-- The two bounds of a slice expression. -/
theorem run_bounds {P : Program} {w : World} {isSlice : Bool} {len cap : Nat} {lo hi : Option Value} {l h : Int} (hlo : (lo = none ∧ l = 0) ∨ ∃ k, lo = some (.int k l)) (hhi : (hi = none ∧ h = len) ∨ ∃ k, hi = some (.int k h))
    (h0 : 0 ≤ l) (h1 : l ≤ h) (h2 : h ≤ cap) (_hlc : len ≤ cap) : (Instr.sliceBounds isSlice len cap lo hi none).run P w = .ok (l.toNat, h.toNat, cap) w := by
  unfold Instr.sliceBounds
  rcases hhi with ⟨rfl, rfl⟩ | ⟨k, rfl⟩ <;> rcases hlo with ⟨rfl, rfl⟩ | ⟨k', rfl⟩
  · simp
  · have h3 : l ≤ (len : Int) := h1
    simp [Instr.sliceBound, asIntOf, h0, h3]
  · have h3 : 0 ≤ h := by omega
    cases isSlice <;> simp [Instr.sliceBound, asIntOf, h3, h2]
  · have h3 : 0 ≤ h := by omega
    obtain ⟨q, rfl⟩ := Int.eq_ofNat_of_zero_le h3
    have h5 : q ≤ cap := by omega
    cases isSlice <;> simp [Instr.sliceBound, asIntOf, h5, h0, h1]

theorem lo_of {x : Option Operand} {l d : Int} (h : (x = none ∧ l = d) ∨ ∃ y k, x = some y ∧ ε y = .int k l) : (x.map ε = none ∧ l = d) ∨ ∃ k, x.map ε = some (.int k l) := by
  rcases h with ⟨rfl, rfl⟩ | ⟨y, k, rfl, h⟩
  · exact .inl ⟨rfl, rfl⟩
  · exact .inr ⟨k, by simp [h]⟩

theorem good_slice_string (hS : Sim X.G m H) {t : TypeId} {x : Operand} {lo hi : Option Operand} (ho : o.op = .slice t x lo hi none) (ht : X.P.underlying t = some .string) {s : ByteArray} (hx : ε x = .string s) {l h : Int}
    (hlo : (lo = none ∧ l = 0) ∨ ∃ y k, lo = some y ∧ ε y = .int k l) (hhi : (hi = none ∧ h = s.size) ∨ ∃ y k, hi = some y ∧ ε y = .int k h) (h0 : 0 ≤ l) (h1 : l ≤ h) (h2 : h ≤ s.size) :
    Good X m H ε o (.c (.v (.string (s.extract l.toNat h.toNat)))) := by
  refine Good.here hS (u := .string (s.extract l.toNat h.toNat)) ?_ (.c (.v rfl))
  have := run_bounds (P := X.P) (w := m.w) (isSlice := false) (len := s.size) (cap := s.size) (lo_of hlo) (lo_of hhi) h0 h1 h2 (Nat.le_refl _)
  simp [execOp, ho, hx, Instr.sliceAt, run_underlying ht, Instr.slice, this]

/-- A slice of a slice: where it begins does not count if it is empty and at the end. -/
theorem good_slice_slice (hS : Sim X.G m H) {t e : TypeId} {x : Operand} {lo hi : Option Operand} (ho : o.op = .slice t x lo hi none) (ht : X.P.underlying t = some (.slice e)) {L : Lay} (hL : X.lay e = some L) {a : Addr} {n cap : Nat} (hx : ε x = .slice (some a) n cap) {l h : Int}
    (hlo : (lo = none ∧ l = 0) ∨ ∃ y k, lo = some y ∧ ε y = .int k l) (hhi : (hi = none ∧ h = n) ∨ ∃ y k, hi = some y ∧ ε y = .int k h) (h0 : 0 ≤ l) (h1 : l ≤ h) (h2 : h ≤ cap) (hn : n ≤ cap)
    (hv : RV m v (.slice (some (if cap = l.toNat then a else a.add (l.toNat * L.size))) (h.toNat - l.toNat) (cap - l.toNat))) : Good X m H ε o v := by
  obtain ⟨i, i1, i2⟩ := size_ok hL
  refine Good.here hS (u := .slice (some (if cap = l.toNat then a else a.add (l.toNat * L.size))) (h.toNat - l.toNat) (cap - l.toNat)) ?_ hv
  have := run_bounds (P := X.P) (w := m.w) (isSlice := true) (len := n) (cap := cap) (lo_of hlo) (lo_of hhi) h0 h1 h2 hn
  by_cases hc : cap = l.toNat
  · simp [execOp, ho, hx, Instr.sliceAt, run_underlying ht, Instr.slice, this, sizeOf, typeInfo, i1, i2, ← hc]
  · simp [execOp, ho, hx, Instr.sliceAt, run_underlying ht, Instr.slice, this, sizeOf, typeInfo, i1, i2, hc]

theorem good_slice_array (hS : Sim X.G m H) {t e : TypeId} {x : Operand} {lo hi : Option Operand} (ho : o.op = .slice t x lo hi none) {n : Nat} (ht : X.P.underlying t = some (.array n e)) {L : Lay} (hL : X.lay e = some L) {a : Addr} (hx : ε x = .pointer (some a)) {l h : Int}
    (hlo : (lo = none ∧ l = 0) ∨ ∃ y k, lo = some y ∧ ε y = .int k l) (hhi : (hi = none ∧ h = n) ∨ ∃ y k, hi = some y ∧ ε y = .int k h) (h0 : 0 ≤ l) (h1 : l ≤ h) (h2 : h ≤ n)
    (hv : RV m v (.slice (some (if n = l.toNat then a else a.add (l.toNat * L.size))) (h.toNat - l.toNat) (n - l.toNat))) : Good X m H ε o v := by
  obtain ⟨i, i1, i2⟩ := size_ok hL
  refine Good.here hS (u := .slice (some (if n = l.toNat then a else a.add (l.toNat * L.size))) (h.toNat - l.toNat) (n - l.toNat)) ?_ hv
  have := run_bounds (P := X.P) (w := m.w) (isSlice := false) (len := n) (cap := n) (lo_of hlo) (lo_of hhi) h0 h1 h2 (Nat.le_refl _)
  by_cases hc : n = l.toNat
  · simp [execOp, ho, hx, Instr.sliceAt, Instr.sureAddr, run_underlying ht, this, sizeOf, typeInfo, i1, i2, ← hc]
  · simp [execOp, ho, hx, Instr.sliceAt, Instr.sureAddr, run_underlying ht, this, sizeOf, typeInfo, i1, i2, hc]

theorem good_max (hS : Sim X.G m H) {x y : Operand} {tys : Array TypeId} (ho : o.op = .call { callee := .builtin .max, args := #[x, y], argTypes := tys }) {k k' : IntKind} {a b : Int} (hx : ε x = .int k a) (hy : ε y = .int k' b) :
    Good X m H ε o (.c (.v (.int k (if b > a then b else a)))) := by
  refine Good.here hS (u := .int k (if b > a then b else a)) ?_ (.c (.v rfl))
  simp [execOp, ho, resolve, invoke, builtin, Builtin.max_, hx, hy, Builtin.max2]
theorem good_min (hS : Sim X.G m H) {x y : Operand} {tys : Array TypeId} (ho : o.op = .call { callee := .builtin .min, args := #[x, y], argTypes := tys }) {k k' : IntKind} {a b : Int} (hx : ε x = .int k a) (hy : ε y = .int k' b) :
    Good X m H ε o (.c (.v (.int k (if b < a then b else a)))) := by
  refine Good.here hS (u := .int k (if b < a then b else a)) ?_ (.c (.v rfl))
  simp [execOp, ho, resolve, invoke, builtin, Builtin.min_, hx, hy, Builtin.min2]
end
end Go.VL
