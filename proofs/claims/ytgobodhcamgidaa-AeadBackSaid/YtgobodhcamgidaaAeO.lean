/-
  A key, a nonce and a slice as one argument: how it is opened, and how its parts are read. Conditions: named in each theorem.
-/
import Derived.Test.YtgobodhcamgidaaChO
set_option linter.unusedVariables false
set_option linter.unusedSimpArgs false
namespace Go.Bas
open Go.RowKit Go.ChangeShapes Go.WideShapes Go.ChangeAt
/-- a key, a nonce and one cell more. -/
def caseS (key nonce : Nat → Int) (x : Value) : Array Value := (vals .u8 32 key ++ (vals .u8 12 nonce ++ [x])).toArray
theorem caseS_key (key nonce : Nat → Int) (x : Value) {i : Nat} (h : i < 32) : (caseS key nonce x)[i]? = some (.int .u8 (key i)) := by
  unfold caseS
  rw [List.getElem?_toArray, List.getElem?_append_left (by simpa using h), vals_get h]
theorem caseS_nonce (key nonce : Nat → Int) (x : Value) {i : Nat} (h : i < 12) : (caseS key nonce x)[32 + i]? = some (.int .u8 (nonce i)) := by
  unfold caseS
  rw [List.getElem?_toArray, List.getElem?_append_right (by simp), vals_length, List.getElem?_append_left (by simp; omega), show 32 + i - 32 = i by omega, vals_get h]
theorem caseS_last (key nonce : Nat → Int) (x : Value) : (caseS key nonce x)[44]? = some x := by
  unfold caseS
  rw [List.getElem?_toArray, List.getElem?_append_right (by simp), vals_length, List.getElem?_append_right (by simp), vals_length]
  rfl
/-- block b holds a key, a nonce and one cell more. -/
def CaseSAt (w : World) (b : Nat) (key nonce : Nat → Int) (x : Value) : Prop := ∃ T, w.heap[b]? = some (.cells (caseS key nonce x) T (0, 0))
section
variable {w w' : World} {b : Nat} {key nonce : Nat → Int} {x : Value}
theorem CaseSAt.new (w : World) (T : TypeId) (key nonce : Nat → Int) (x : Value) : CaseSAt (w.alloc (.cells (caseS key nonce x) T)) w.heap.size key nonce x := ⟨T, heap_alloc_new w _⟩
theorem CaseSAt.lt (h : CaseSAt w b key nonce x) : b < w.heap.size := by
  obtain ⟨T, h⟩ := h; exact (Array.getElem?_eq_some_iff.1 h).1
theorem CaseSAt.kept (h : CaseSAt w b key nonce x) (hb : Below w.heap.size w w') : CaseSAt w' b key nonce x := by
  have hlt := h.lt
  obtain ⟨T, h⟩ := h
  exact ⟨T, by rw [hb.block b hlt]; exact h⟩
theorem CaseSAt.keyAt (h : CaseSAt w b key nonce x) : ∀ i, i < 32 → w.cell? ⟨b, 0 + i, none⟩ = some (.int .u8 (key i)) := fun i hi => by
  obtain ⟨T, h⟩ := h; rw [Nat.zero_add, cell_of_row w b i _ T (0, 0) h, caseS_key _ _ _ hi]
theorem CaseSAt.nonceAt (h : CaseSAt w b key nonce x) : ∀ i, i < 12 → w.cell? ⟨b, 32 + i, none⟩ = some (.int .u8 (nonce i)) := fun i hi => by
  obtain ⟨T, h⟩ := h; rw [cell_of_row w b (32 + i) _ T (0, 0) h, caseS_nonce _ _ _ hi]
theorem CaseSAt.last (h : CaseSAt w b key nonce x) : w.cell? ⟨b, 44, none⟩ = some x := by
  obtain ⟨T, h⟩ := h; rw [cell_of_row w b 44 _ T (0, 0) h, caseS_last]
end
section
variable {H : Type} {enc : TypeId × Value → H} {P : Program} {w : World} {base : Nat} {spare : Nat → Bool} {held : Bool}
/-- one cell that reads as a slice of integers. -/
theorem trod_rd {t e : TypeId} {k : IntKind} {fuel : Nat} {cs : List Value} {y : DataW H × List MemPlace} (ht : P.underlying t = some (.slice e)) (he : P.underlying e = some (.int k)) (hc : P.cellsOf e = 1)
    (hf : DataW.trod enc P w base spare held fuel t cs = some y) : ∃ v n f, cs = [v] ∧ Rd k w v n f ∧ (∀ i, i < n → (Lit.int k (f i)).wf = true) := by
  rcases open_ints ht he hc hf with ⟨hcs, _⟩ | ⟨x, l, c, zs, hcs, _, hl, hm, hz, _, hcell, hwz⟩
  · exact ⟨_, 0, fun _ => 0, hcs, Rd.nil _ _ _, fun i hi => by omega⟩
  · unfold maxLen at hm
    have hlz : l ≤ zs.length := by rw [hz]; split <;> omega
    refine ⟨_, l, fun i => zs.getD i 0, hcs, ⟨_, _, rfl, hl, by omega, (fun h => by cases h), fun hn => ?_⟩, fun i hi => ?_⟩
    · have h0 := hcell 0 (by omega)
      obtain ⟨b, o, s⟩ := x
      have hs : s = none := by simpa [Addr.add] using World.cell?_spot h0
      subst hs
      have hadd : ∀ i, (⟨b, o, none⟩ : Addr).add i = ⟨b, o + i, none⟩ := fun i => by unfold Addr.add; split <;> simp_all
      refine ⟨b, o, rfl, ?_, fun i hi => ?_⟩
      · have := World.block_lt_of_cell? w _ h0
        simpa [hadd] using this
      · rw [← hadd]; exact hcell i (by omega)
    · have hi' : i < zs.length := by omega
      have := hwz zs[i] (List.getElem_mem hi')
      simpa [List.getD, hi'] using this
theorem open_caseSB {t t1 t2 t3 e : TypeId} {v : Value} {d : DataW H} {p : List MemPlace}
    (hf : fieldsB P t = some [(0, t1), (32, t2), (44, t3)]) (hn : P.cellsOf t = 45)
    (h1 : P.underlying t1 = some (.array 32 e)) (h2 : P.underlying t2 = some (.array 12 e)) (h3 : P.underlying t3 = some (.slice e)) (he : P.underlying e = some (.int .u8)) (hc : P.cellsOf e = 1)
    (n1 : P.cellsOf t1 = 32) (n2 : P.cellsOf t2 = 12) (n3 : P.cellsOf t3 = 1)
    {b0 : Nat} (hv : Value.okWide P w .any b0 t v) (h : DataW.Trod enc P w base spare held t v d p) :
    ∃ key nonce x n f, v = .agg (caseS key nonce x) ∧ (∀ i, i < 32 → (Lit.int .u8 (key i)).wf = true) ∧ (∀ i, i < 12 → (Lit.int .u8 (nonce i)).wf = true) ∧ Rd .u8 w x n f ∧ (∀ i, i < n → (Lit.int .u8 (f i)).wf = true) := by
  unfold fieldsB at hf
  split at hf
  · rename_i fs ht
    simp only [Option.some.injEq] at hf
    have hl : fs.size = 3 := by have := congrArg List.length hf; simpa using this
    have g : ∀ j (h : j < fs.size), (fs.toList.map fun F => (F.offset, F.type))[j]? = some (fs[j].offset, fs[j].type) := fun j h => by simp [h]
    rw [hf] at g
    have a0 := g 0 (by omega)
    have a1 := g 1 (by omega)
    have a2 := g 2 (by omega)
    simp at a0 a1 a2
    unfold Value.okWide at hv
    simp only [ht] at hv
    obtain ⟨cs, rfl, _, _⟩ := hv
    obtain ⟨fuel, hff⟩ := h
    simp only [Value.cells] at hff
    obtain ⟨xs, n, rfl, _, hl2, hx, hi⟩ := DataW.trod_struct ht hff
    rw [hn] at hl2
    rw [hl] at hx
    have q0 := hi 0 fs[0] (Array.getElem?_eq_getElem (by omega))
    have q1 := hi 1 fs[1] (Array.getElem?_eq_getElem (by omega))
    have q2 := hi 2 fs[2] (Array.getElem?_eq_getElem (by omega))
    rw [← a0.1, ← a0.2, n1, List.getElem?_eq_getElem (by omega)] at q0
    rw [← a1.1, ← a1.2, n2, List.getElem?_eq_getElem (by omega)] at q1
    rw [← a2.1, ← a2.2, n3, List.getElem?_eq_getElem (by omega)] at q2
    obtain ⟨key, hk, wk⟩ := trod_arr h1 he hc n1 q0
    obtain ⟨nonce, hno, wn⟩ := trod_arr h2 he hc n2 q1
    obtain ⟨x, m, f, hcc, hrd, wf⟩ := trod_rd h3 he hc q2
    refine ⟨key, nonce, x, m, f, ?_, wk, wn, hrd, wf⟩
    unfold caseS
    rw [← hk, ← hno, ← hcc]
    congr 1
    rw [← Array.toList_inj]
    simp only [List.toList_toArray] at *
    generalize cs.toList = l at *
    apply List.ext_getElem?
    intro i
    by_cases a1 : i < 32
    · rw [List.getElem?_append_left (by simp; omega)]; simp [a1]
    · rw [List.getElem?_append_right (by simp; omega)]
      by_cases a2 : i < 44
      · rw [List.getElem?_append_left (by simp; omega)]; simp [List.getElem?_take, List.getElem?_drop]; rw [if_pos (by omega)]; congr 1; omega
      · rw [List.getElem?_append_right (by simp; omega)]
        by_cases a3 : i < 45
        · simp [List.getElem?_take, List.getElem?_drop]; rw [if_pos (by omega)]; congr 1; omega
        · rw [List.getElem?_eq_none (by omega), List.getElem?_eq_none (by simp; omega)]
  · simp at hf
end
end Go.Bas
