/-
  Arguments that are lists of numbers, or of pairs of numbers. No program in sight.
-/
import Derived.Test.YtlmdgmgbijfaoaaMat
import Derived.Test.YtlmdgmgbijfaoaaOpen
import Derived.Test.YtlmdgmgbijfaoaaLtA
set_option linter.unusedVariables false
set_option linter.unusedSimpArgs false
namespace Go.Bas
open Go.RowKit Go.ChangeShapes Go.WideShapes Go.ChangeAt
section
variable {H : Type} {enc : TypeId × Value → H} {P : Program} {w : World} {base : Nat} {spare : Nat → Bool} {held : Bool}
theorem i64_of_wf {x : Int} (h : (Lit.int .i64 x).wf = true) : -9223372036854775808 ≤ x ∧ x ≤ 9223372036854775807 := by have := bounds_i64 h; omega
theorem open_numbers {t e : TypeId} {v : Value} {d : DataW H} {p : List MemPlace} (ht : P.underlying t = some (.slice e)) (he : P.underlying e = some (.int .i64)) (hc : P.cellsOf e = 1)
    {b0 : Nat} (hv : Value.okWide P w .any b0 t v) (h : DataW.Trod enc P w base spare held t v d p) :
    ∃ L : List Int, Mat w v L.length 1 (lv (Value.int .i64) L) ∧ ∀ x, x ∈ L → -9223372036854775808 ≤ x ∧ x ≤ 9223372036854775807 := by
  obtain ⟨n, f, hr, hb⟩ := open_rd ht he hc hv h
  refine ⟨(List.range n).map f, ?_, fun x hx => ?_⟩
  · obtain ⟨a, c, rfl, h1, h2, _, h4⟩ := hr
    rw [List.length_map, List.length_range]
    refine ⟨a, c, rfl, h1, h2, fun hn => ?_⟩
    obtain ⟨b, o, rfl, hlt, hcc⟩ := h4 hn
    refine ⟨b, o, rfl, hlt, fun j hj i hi => ?_⟩
    obtain rfl : i = 0 := by omega
    rw [show o + j * 1 + 0 = o + j by omega, lv_at (x := f j) (by rw [List.getElem?_map, List.getElem?_range hj]; rfl)]
    exact hcc j hj
  · obtain ⟨j, hj, rfl⟩ := List.mem_map.1 hx
    exact i64_of_wf (hb j (List.mem_range.1 hj))
theorem open_pairs {t e ie : TypeId} {v : Value} {d : DataW H} {p : List MemPlace} (ht : P.underlying t = some (.slice e)) (he : P.underlying e = some (.array 2 ie)) (hi : P.underlying ie = some (.int .i64)) (hc : P.cellsOf ie = 1) (hn : P.cellsOf e = 2)
    {b0 : Nat} (hv : Value.okWide P w .any b0 t v) (h : DataW.Trod enc P w base spare held t v d p) :
    ∃ L : List (Int × Int), Mat w v L.length 2 (pv L) ∧ ∀ e, e ∈ L → (-9223372036854775808 ≤ e.1 ∧ e.1 ≤ 9223372036854775807) ∧ (-9223372036854775808 ≤ e.2 ∧ e.2 ≤ 9223372036854775807) := by
  obtain ⟨m, q, hq, htr⟩ := open_mat ht hn (by decide) hv h
  have each : ∀ j, j < m → ∃ a b : Int, q j 0 = .int .i64 a ∧ q j 1 = .int .i64 b ∧ (-9223372036854775808 ≤ a ∧ a ≤ 9223372036854775807) ∧ (-9223372036854775808 ≤ b ∧ b ≤ 9223372036854775807) := by
    intro j hj
    obtain ⟨fuel, y, hy⟩ := htr j hj
    obtain ⟨f, hf, hb⟩ := trod_arr he hi hc hn hy
    simp [List.range_succ, vals] at hf
    exact ⟨f 0, f 1, hf.1, hf.2, i64_of_wf (hb 0 (by decide)), i64_of_wf (hb 1 (by decide))⟩
  classical
  refine ⟨(List.range m).map fun j => if h : j < m then (Classical.choose (each j h), Classical.choose (Classical.choose_spec (each j h))) else (0, 0), ?_, fun e he => ?_⟩
  · rw [List.length_map, List.length_range]
    obtain ⟨a, cap, rfl, h1, h2, h3⟩ := hq
    refine ⟨a, cap, rfl, h1, h2, fun hm => ?_⟩
    obtain ⟨b, o, rfl, hlt, hcc⟩ := h3 hm
    refine ⟨b, o, rfl, hlt, fun j hj i hi => ?_⟩
    rw [hcc j hj i hi]
    have hs := Classical.choose_spec (Classical.choose_spec (each j hj))
    rw [pv_at (e := (Classical.choose (each j hj), Classical.choose (Classical.choose_spec (each j hj)))) (by rw [List.getElem?_map, List.getElem?_range hj, Option.map_some, dif_pos hj])]
    rcases (by omega : i = 0 ∨ i = 1) with rfl | rfl
    · rw [if_pos rfl]
      exact congrArg some hs.1
    · rw [if_neg (by decide)]
      exact congrArg some hs.2.1
  · obtain ⟨j, hj, rfl⟩ := List.mem_map.1 he
    have hj := List.mem_range.1 hj
    have hs := Classical.choose_spec (Classical.choose_spec (each j hj))
    rw [dif_pos hj]
    exact hs.2.2
end
end Go.Bas
