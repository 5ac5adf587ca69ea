/-
  A pointer to an integer that is told: the element of a slice that is told by a predicate. No program in sight.
-/
import Derived.Test.YtgobodhcamgidaaFlow
set_option linter.unusedVariables false
set_option linter.unusedSimpArgs false
namespace Go.Bas
open Go.RowKit
/-- v points to the integer x. -/
def PtrI (k : IntKind) (w : World) (v : Value) (x : Int) : Prop := ∃ b i, v = .pointer (some ⟨b, i, none⟩) ∧ b < w.heap.size ∧ w.cell? ⟨b, i, none⟩ = some (.int k x)
theorem PtrI.below {k : IntKind} {w w' : World} {v : Value} {x : Int} (h : PtrI k w v x) (hb : Below w.heap.size w w') : PtrI k w' v x := by
  obtain ⟨b, i, rfl, h1, h2⟩ := h
  exact ⟨b, i, rfl, Nat.lt_of_lt_of_le h1 hb.size, (hb.cell (p := ⟨b, i, none⟩) h1).trans h2⟩
variable {P : Program} {a : Act} {w : World} {o : Oper}
theorem run_index_rd {T e : TypeId} {x y : Operand} {k j : IntKind} {v : Value} {n : Nat} {f : Nat → Int} {i : Nat} (ho : o.op = .indexAddr T x y) (hx : a.eval x = v) (hr : Rd k w v n f) (hy : a.eval y = .int j (i : Int)) (hu : P.underlying T = some (.slice e)) (hi : (P.info? e).map (·.size) = some 1) (h : i < n) :
    ∃ v', (execOp a.eval o).run P w = .ok (.value v') w ∧ PtrI k w v' (f i) := by
  obtain ⟨ad, c, rfl, _, _, _, h4⟩ := hr
  obtain ⟨b, of, rfl, hb, hc⟩ := h4 (by omega)
  exact ⟨_, run_index_slice ho hx hy hu hi (by omega) (by omega), b, of + i, by simp, hb, hc i h⟩
theorem run_load_ptr {T : TypeId} {x : Operand} {k : IntKind} {v : Value} {z : Int} (ho : o.op = .load T x) (hx : a.eval x = v) (h : PtrI k w v z) (hu : P.underlying T = some (.int k)) :
    (execOp a.eval o).run P w = .ok (.value (.int k z)) w := by
  obtain ⟨b, i, rfl, _, hc⟩ := h
  exact run_load_cell ho hx hu hc
theorem flow_valE {X : Value → Prop} {S : Value → World → Prop} {Q : Exit → Act → World → Prop} (hd : ¬ o.dst = none) (h : ∃ v', (execOp a.eval o).run P w = .ok (.value v') w ∧ X v') (hS : ∀ v', X v' → S v' w) :
    o.wp P a w (fun a' w' => ∃ v, a' = a.put o.dst v ∧ (o.dst = none → v = undef) ∧ S v w' ∧ Below w.heap.size w w') Q := by
  obtain ⟨v', hr, hx⟩ := h
  exact flow_val (fun h => absurd h hd) hr (hS v' hx)
end Go.Bas
