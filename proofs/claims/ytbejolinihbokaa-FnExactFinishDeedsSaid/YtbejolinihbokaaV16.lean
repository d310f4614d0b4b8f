/- The shapes of a program's types, read off the program. Over any program. -/
import Derived.Test.YtbejolinihbokaaV15
namespace Go.VL
open Go.RowKit

def kindOf (P : Program) : TypeDesc → Option LK
  | .bool => some .bool
  | .string => some .string
  | .int k => some (.int k)
  | .float k => some (.float k)
  | .slice e => some (.slice e)
  | .array n e => some (.array n e)
  | .struct fields => if fields.toList.all fun f => P.cellsOf f.type != 0 then some (.struct (fields.toList.map fun f => (f.type, f.offset))) else none
  | .func _ _ _ => some .other
  | .pointer _ => some .other
  | _ => none

def layOf (P : Program) (t : TypeId) : Option Lay :=
  match P.underlying t, P.info? t with
  | some d, some i => match i.zero with
    | some z => if z.cells.size = i.size ∧ z.cells.toList.all plain = true then (kindOf P d).map fun k => ⟨k, i.size, i.bytes, z.cells.toList⟩ else none
    | none => none
  | _, _ => none

theorem layOf_ok {P : Program} {t : TypeId} {L : Lay} (h : layOf P t = some L) : LayOk P t L := by
  unfold layOf at h
  split at h
  · rename_i d i hd hi
    split at h
    · rename_i z hz
      split at h
      · rename_i hc
        obtain ⟨k, hk, rfl⟩ := Option.map_eq_some_iff.1 h
        refine ⟨?_, hc.2, i, z, hi, rfl, rfl, hz, rfl, hc.1⟩
        cases d <;> simp only [kindOf, Option.some.injEq] at hk <;> try (cases hk; done)
        all_goals try (subst hk; exact hd)
        all_goals try (subst hk; exact ⟨_, hd, rfl⟩)
        split at hk
        · rename_i fields ha
          simp only [Option.some.injEq] at hk
          subst hk
          exact ⟨fields, hd, rfl, ha⟩
        · cases hk
      · cases h
    · cases h
  · cases h

/-- A program's shapes, its variables. -/
def cxOf (P : Program) (G : Glob) (mixed : P.follows .mixedOrders = true) : Cx := ⟨P, layOf P, fun _ _ h => layOf_ok h, G, mixed⟩
end Go.VL
