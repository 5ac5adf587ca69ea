/-
  An argument that is an array of two lists of numbers. No program in sight.
-/
import Derived.Test.YtlmdgmgbijfaoaaOpenP
import Derived.Test.YtlmdgmgbijfaoaaLtD
set_option linter.unusedVariables false
set_option linter.unusedSimpArgs false
namespace Go.Bas
open Go.RowKit Go.ChangeShapes Go.WideShapes Go.ChangeAt
section
variable {H : Type} {enc : TypeId × Value → H} {P : Program} {w : World} {base : Nat} {spare : Nat → Bool} {held : Bool}
theorem list_of_rd {v : Value} {n : Nat} {f : Nat → Int} (hr : Rd .i64 w v n f) (hb : ∀ i, i < n → (Lit.int .i64 (f i)).wf = true) :
    ∃ L : List Int, Mat w v L.length 1 (lv (Value.int .i64) L) ∧ (∀ m c, v = .slice none m c → m = 0 ∧ c = 0) ∧ ∀ x, x ∈ L → -9223372036854775808 ≤ x ∧ x ≤ 9223372036854775807 := by
  refine ⟨(List.range n).map f, ?_, ?_, fun x hx => ?_⟩
  · obtain ⟨a, c, rfl, h1, h2, _, h4⟩ := hr
    rw [List.length_map, List.length_range]
    refine ⟨a, c, rfl, h1, h2, fun hn => ?_⟩
    obtain ⟨b, o, rfl, hlt, hcc⟩ := h4 hn
    refine ⟨b, o, rfl, hlt, fun j hj i hi => ?_⟩
    obtain rfl : i = 0 := by omega
    rw [show o + j * 1 + 0 = o + j by omega, lv_at (x := f j) (by rw [List.getElem?_map, List.getElem?_range hj]; rfl)]
    exact hcc j hj
  · intro m c hv
    obtain ⟨a, c', rfl, h1, h2, h3, h4⟩ := hr
    cases hv
    have := h3 rfl
    omega
  · obtain ⟨j, hj, rfl⟩ := List.mem_map.1 hx
    exact i64_of_wf (hb j (List.mem_range.1 hj))
theorem open_two {t e ie : TypeId} {v : Value} {d : DataW H} {p : List MemPlace} (ht : P.underlying t = some (.array 2 e)) (he : P.underlying e = some (.slice ie)) (hi : P.underlying ie = some (.int .i64)) (hc : P.cellsOf ie = 1) (hn : P.cellsOf e = 1) (hn2 : P.cellsOf t = 2)
    {b0 : Nat} (hv : Value.okWide P w .any b0 t v) (h : DataW.Trod enc P w base spare held t v d p) :
    ∃ (u0 u1 : Value) (L0 L1 : List Int), v = .agg #[u0, u1] ∧ (Mat w u0 L0.length 1 (lv (Value.int .i64) L0) ∧ (∀ m c, u0 = .slice none m c → m = 0 ∧ c = 0) ∧ ∀ x, x ∈ L0 → -9223372036854775808 ≤ x ∧ x ≤ 9223372036854775807) ∧
      (Mat w u1 L1.length 1 (lv (Value.int .i64) L1) ∧ (∀ m c, u1 = .slice none m c → m = 0 ∧ c = 0) ∧ ∀ x, x ∈ L1 → -9223372036854775808 ≤ x ∧ x ≤ 9223372036854775807) := by
  unfold Value.okWide at hv
  simp only [ht] at hv
  obtain ⟨cs, rfl, hsz, _⟩ := hv
  obtain ⟨fuel, hf⟩ := h
  simp only [Value.cells] at hf
  obtain ⟨xs, m, rfl, _, hl, hx, hi'⟩ := DataW.trod_array ht hf
  rw [hn] at hi'
  have each : ∀ i, i < 2 → ∃ u n f, cs.toList[i]? = some u ∧ Rd .i64 w u n f ∧ ∀ j, j < n → (Lit.int .i64 (f j)).wf = true := by
    intro i hin
    have h1 := hi' i hin
    obtain ⟨y, hy⟩ : ∃ y, xs[i]? = some y := by rw [List.getElem?_eq_getElem (by omega)]; exact ⟨_, rfl⟩
    rw [hy, Nat.mul_one] at h1
    obtain ⟨u, n, f, hu, hr, hb⟩ := trod_rd he hi hc h1
    have : (List.take 1 (List.drop i cs.toList))[0]? = some u := by rw [hu]; rfl
    exact ⟨u, n, f, by simpa using this, hr, hb⟩
  obtain ⟨u0, n0, f0, g0, r0, b0⟩ := each 0 (by decide)
  obtain ⟨u1, n1, f1, g1, r1, b1⟩ := each 1 (by decide)
  obtain ⟨L0, l0⟩ := list_of_rd r0 b0
  obtain ⟨L1, l1⟩ := list_of_rd r1 b1
  refine ⟨u0, u1, L0, L1, ?_, l0, l1⟩
  have hlen : cs.toList.length = 2 := by rw [hl, hn2]
  congr 1
  apply Array.ext'
  apply List.ext_getElem?
  intro i
  rcases (by omega : i = 0 ∨ i = 1 ∨ 2 ≤ i) with rfl | rfl | h2
  · exact g0
  · exact g1
  · rw [List.getElem?_eq_none (by omega), List.getElem?_eq_none (by simpa using h2)]
end
end Go.Bas
