/-
  append of a slice of noughts that is made for it (append(s, make([]T, n)...)), where it outgrows its row. No program in sight.
-/
import Derived.Test.YtgobodhcamgidaaKit
set_option linter.unusedVariables false
set_option linter.unusedSimpArgs false
namespace Go.Bas
open Go.RowKit
/-- how long a slice is. -/
def lenS : Value → Nat
  | .slice _ n _ => n
  | _ => 0
theorem run_append_made {P : Program} (w : World) (t u ty e : TypeId) (k : IntKind) (bytes : Nat) (h1 : P.underlying t = some (.slice e)) (hu : P.underlying u = some (.int .i64)) (hinfo : (P.info? e).map (fun i => (i.zero, i.size, i.bytes)) = some (some (.int k 0), 1, bytes))
    (base : Nat) (g n c : Nat) (f : Nat → Int) (hown : Own k e base w (.slice (some ⟨g, 0, none⟩) n c) n f) (m : Nat) (hc : c < n + m) (hf : ∀ i, i < m → f (n + i) = 0)
    (b2 : (n + m) * bytes ≤ 140737488355328) (b3 : n + m ≤ 9223372036854775807) (b4 : base ≤ w.heap.size) :
    ∃ v' w', (Builtin.append_ #[t, u] ty #[.slice (some ⟨g, 0, none⟩) n c, .int .i64 (m : Int)]).run P w = .ok v' w' ∧ Own k e base w' v' (n + m) f ∧ w.grownBy w' none := by
  obtain ⟨i, hi, hz0, hz1, hz2⟩ := info_parts hinfo
  have hcell := hown.cells (g := g) rfl
  have hlen := hown.1
  have hnc : n ≤ c := by
    rcases hown.2 with ⟨h, _⟩ | ⟨g', cap, cur, he, _, _, hn, _⟩
    · cases h
    · simp only [Value.slice.injEq, true_and] at he
      obtain ⟨_, rfl⟩ := he
      exact hn
  have hm0 : 0 < m := by omega
  have hn : ¬ (n + m ≤ c) := by omega
  have h63' : ¬ (9223372036854775807 < ((n : Int) + (m : Int))) := by omega
  have hfit : Builtin.nextslicecap (n + m) c * i.bytes ≤ 281474976710656 := growslice_fits (by omega) (by rw [hz2]; exact b2)
  have h48' : ¬ (281474976710656 < Builtin.nextslicecap (n + m) c * i.bytes) := by omega
  have hfo := run_firstCells_some (P := P) w.drew i.size n ⟨g, 0, none⟩ n c (vals k n f) (by rw [hz1]; simp) (by simpa using hcell)
  have hw : IntKind.i64.wrap (m : Int) = (m : Int) := wrap_i64_id (by omega) (by omega)
  have hneg : ¬ ((m : Int) < 0) := by omega
  have hmb : m * i.bytes ≤ 140737488355328 := Nat.le_trans (Nat.mul_le_mul_right i.bytes (show m ≤ n + m by omega)) (by rw [hz2]; exact b2)
  have hbig : ¬ (281474976710656 < (m : Int) * (i.bytes : Int)) := by
    rw [← Int.natCast_mul]
    omega
  have hge := grownCap_ge w (n + m) c e
  have hcm : grownCap w (n + m) c e ≤ maxLen := grownCap_le_maxLen w (n + m) c e (by unfold maxLen; omega)
  have hrun : (Builtin.append_ #[t, u] ty #[.slice (some ⟨g, 0, none⟩) n c, .int .i64 (m : Int)]).run P w =
      .ok (.slice (some ⟨w.heap.size, 0, none⟩) (n + m) (grownCap w (n + m) c e)) (w.drew.alloc (.cells ((vals k n f).toArray ++ Builtin.zeroCells (Value.int k 0).cells m ++ Builtin.zeroCells (Value.int k 0).cells (grownCap w (n + m) c e - (n + m))) e)) := by
    rw [hz1] at hfo
    have hmz : ¬ m = 0 := by omega
    simp [Builtin.append_, run_underlying h1, run_underlying hu, sizeOf, typeInfo, zeroValue, hi, hz0, hz1, asInt, asIntOf, hw, hneg, hbig, hn, h63', h48', Question.forced, hfo, hmz, newRow, grownCap]
  refine ⟨_, _, hrun, ?_, ⟨rfl, rfl, rfl, by simp, fun q hq _ => ((Below.refl w.heap.size w.drew).alloc (Nat.le_refl _) _).block q hq⟩⟩
  have hz : (Value.int k 0).cells = #[.int k 0] := rfl
  have hvz : (Builtin.zeroCells (Value.int k 0).cells m).toList = vals k m (fun _ => 0) := by
    apply List.ext_getElem?
    intro j
    by_cases hj : j < m
    · rw [vals_get hj]; simp [Builtin.zeroCells, hz, hj, Nat.mod_one]
    · simp [Builtin.zeroCells, hz, hj, vals]
  have hva : vals k n f ++ vals k m (fun _ => 0) = vals k (n + m) f := by
    unfold vals
    rw [List.range_add]
    simp only [List.map_append, List.map_map]
    congr 1
    exact List.map_congr_left fun i hi => by simp [hf i (List.mem_range.1 hi)]
  refine ⟨by simp, .inr ⟨w.heap.size, _, _, rfl, b4, heap_alloc_new w.drew _, hge, hcm, ?_, ?_⟩⟩
  · simp only [Array.size_append, List.size_toArray, size_zeroCells, hz, vals_length]
    simp; omega
  · rw [Array.toList_append, Array.toList_append, hvz, List.append_assoc]
    rw [← List.append_assoc]
    simp only [List.toList_toArray]
    rw [hva, List.take_append_of_le_length (by simp), List.take_of_length_le (by simp)]
theorem append_made {P : Program} {w : World} {ops : Array Oper} {rest : List Oper} {o : Oper} {a : Act} {Q : Exit → Act → World → Prop}
    (hg : o.guard = none) (s x : Operand) (t u : TypeId) (hop : o.op = .call { callee := .builtin .append, args := #[s, x], argTypes := #[t, u] })
    (base : Nat) (e : TypeId) (k : IntKind) (bytes : Nat)
    (h1 : P.underlying t = some (.slice e)) (hu : P.underlying u = some (.int .i64)) (hinfo : (P.info? e).map (fun i => (i.zero, i.size, i.bytes)) = some (some (.int k 0), 1, bytes))
    (b n c : Nat) (f : Nat → Int) (hown : Own k e base w (.slice (some ⟨b, 0, none⟩) n c) n f) (hs : a.eval s = .slice (some ⟨b, 0, none⟩) n c) (m : Nat) (hx : a.eval x = .int .i64 (m : Int)) (hc : c < n + m) (hf : ∀ i, i < m → f (n + i) = 0)
    (b2 : (n + m) * bytes ≤ 140737488355328) (b3 : n + m ≤ 9223372036854775807) (b4 : base ≤ w.heap.size)
    (hK : ∀ v' w', Own k e base w' v' (n + m) f → w.grownBy w' none → wpList P ops Q rest (a.put o.dst v') w') :
    wpList P ops Q (o :: rest) a w := by
  refine wpList_plain hg fun K hK' => ?_
  obtain ⟨v', w', hr, h2, h3⟩ := run_append_made (P := P) w t u o.type e k bytes h1 hu hinfo base b n c f hown m hc hf b2 b3 b4
  unfold Oper.wp execOp
  simp only [hop, resolve, invoke, builtin, Sem.run_bind, Sem.run_pure, Result.andThen_ok, List.map_toArray, List.map_cons, List.map_nil, hs, hx, hr]
  exact hK' _ _ (hK v' w' h2 h3)
end Go.Bas
