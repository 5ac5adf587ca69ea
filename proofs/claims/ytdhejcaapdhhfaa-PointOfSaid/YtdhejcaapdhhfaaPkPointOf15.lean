/-
  Part 15 of the texts that the proof of PointOf rests on, one after the other. Conditions: named in each theorem.
-/
import Derived.Test.YtdhejcaapdhhfaaPkPointOf13
import Derived.Test.YtdhejcaapdhhfaaPkPointOf14
import Derived.Test.YtdhejcaapdhhfaaOpen
set_option linter.unusedVariables false
set_option linter.unusedSimpArgs false
namespace Go.Bas
open Go.RowKit Go.ChangeShapes Go.WideShapes Go.ChangeAt
/-- a key, a nonce and a count, cell by cell. -/
def caseV (key nonce : Nat → Int) (c : Int) : Array Value := (vals .u8 32 key ++ (vals .u8 12 nonce ++ [Value.int .u32 c])).toArray
theorem caseV_key (key nonce : Nat → Int) (c : Int) {i : Nat} (h : i < 32) : (caseV key nonce c)[i]? = some (.int .u8 (key i)) := by
  unfold caseV
  rw [List.getElem?_toArray, List.getElem?_append_left (by simpa using h), vals_get h]
theorem caseV_nonce (key nonce : Nat → Int) (c : Int) {i : Nat} (h : i < 12) : (caseV key nonce c)[32 + i]? = some (.int .u8 (nonce i)) := by
  unfold caseV
  rw [List.getElem?_toArray, List.getElem?_append_right (by simp), vals_length, List.getElem?_append_left (by simp; omega), show 32 + i - 32 = i by omega, vals_get h]
theorem caseV_count (key nonce : Nat → Int) (c : Int) : (caseV key nonce c)[44]? = some (.int .u32 c) := by
  unfold caseV
  rw [List.getElem?_toArray, List.getElem?_append_right (by simp), vals_length, List.getElem?_append_right (by simp), vals_length]
  rfl
/-- block b holds a key, a nonce and a count. -/
def CaseAt (w : World) (b : Nat) (key nonce : Nat → Int) (c : Int) : Prop := ∃ T, w.heap[b]? = some (.cells (caseV key nonce c) T (0, 0))
theorem CaseAt.new (w : World) (T : TypeId) (key nonce : Nat → Int) (c : Int) : CaseAt (w.alloc (.cells (caseV key nonce c) T)) w.heap.size key nonce c := ⟨T, heap_alloc_new w _⟩
theorem CaseAt.lt {w : World} {b : Nat} {key nonce : Nat → Int} {c : Int} (h : CaseAt w b key nonce c) : b < w.heap.size := by
  obtain ⟨T, h⟩ := h; exact (Array.getElem?_eq_some_iff.1 h).1
theorem CaseAt.kept {w w' : World} {b : Nat} {key nonce : Nat → Int} {c : Int} (h : CaseAt w b key nonce c) (hb : Below w.heap.size w w') : CaseAt w' b key nonce c := by
  have hlt := h.lt
  obtain ⟨T, h⟩ := h
  exact ⟨T, by rw [hb.block b hlt]; exact h⟩
theorem CaseAt.key {w : World} {b : Nat} {key nonce : Nat → Int} {c : Int} (h : CaseAt w b key nonce c) : ∀ i, i < 32 → w.cell? ⟨b, 0 + i, none⟩ = some (.int .u8 (key i)) := fun i hi => by
  obtain ⟨T, h⟩ := h; rw [Nat.zero_add, cell_of_row w b i _ T (0, 0) h, caseV_key _ _ _ hi]
theorem CaseAt.nonce {w : World} {b : Nat} {key nonce : Nat → Int} {c : Int} (h : CaseAt w b key nonce c) : ∀ i, i < 12 → w.cell? ⟨b, 32 + i, none⟩ = some (.int .u8 (nonce i)) := fun i hi => by
  obtain ⟨T, h⟩ := h; rw [cell_of_row w b (32 + i) _ T (0, 0) h, caseV_nonce _ _ _ hi]
theorem CaseAt.count {w : World} {b : Nat} {key nonce : Nat → Int} {c : Int} (h : CaseAt w b key nonce c) : w.cell? ⟨b, 44, none⟩ = some (.int .u32 c) := by
  obtain ⟨T, h⟩ := h; rw [cell_of_row w b 44 _ T (0, 0) h, caseV_count]
/-- where a field lies, and how many cells it takes. -/
def fieldOf (P : Program) (S : TypeId) (j : Nat) : Option (Nat × Option Nat) :=
  match P.underlying S with
  | some (.struct fs) => (fs[j]?).map fun F => (F.offset, (P.info? F.type).map (·.size))
  | _ => none
theorem run_field_at {P : Program} {o : Oper} {a : Act} {w : World} {S : TypeId} {x : Operand} {j b off k m : Nat} (ho : o.op = .fieldAddr S x j) (hx : a.eval x = .pointer (some ⟨b, off, none⟩)) (hf : fieldOf P S j = some (k, some (m + 1))) :
    (execOp a.eval o).run P w = .ok (.value (.pointer (some ⟨b, off + k, none⟩))) w := by
  unfold fieldOf at hf
  split at hf
  · rename_i fs hu
    cases hF : fs[j]? with
    | none => simp [hF] at hf
    | some F =>
      simp only [hF, Option.map_some, Option.some.injEq, Prod.mk.injEq] at hf
      obtain ⟨h1, h2⟩ := hf
      cases hq : P.info? F.type with
      | none => simp [hq] at h2
      | some q =>
        have hs : q.size = m + 1 := by simpa [hq] using h2
        unfold execOp
        simp only [ho, hx]
        simp [Instr.fieldAt, Instr.sureAddr, fieldPlace, run_underlying hu, Sem.run_bind, sizeOf, typeInfo, hq, hs, hF, go_sem, Addr.add_mid, h1]
  · simp at hf
theorem run_load_part {P : Program} {o : Oper} {a : Act} {w : World} {T e : TypeId} {x : Operand} {k : IntKind} {b off n : Nat} {f : Nat → Int} (ho : o.op = .load T x) (hx : a.eval x = .pointer (some ⟨b, off, none⟩))
    (hu : P.underlying T = some (.array n e)) (hi : (P.info? T).map (·.size) = some n) (hc : ∀ i, i < n → w.cell? ⟨b, off + i, none⟩ = some (.int k (f i))) :
    (execOp a.eval o).run P w = .ok (.value (.agg (arr k n f))) w := by
  unfold execOp
  simp only [ho, hx, Instr.loadAt, Instr.sureAddr, Sem.run_bind, Sem.run_pure, Result.andThen_ok, run_loadVar_mid (P := P) w b off T (vals k n f) _ (range_vals hc) hu rfl (by rw [hi, vals_length])]
  rfl
section
variable {H : Type} {enc : TypeId × Value → H} {P : Program} {w : World} {base : Nat} {spare : Nat → Bool} {held : Bool}
theorem open_case {t t1 t2 t3 e : TypeId} {fs : Array Field} {F0 F1 F2 : Field} {v : Value} {d : DataW H} {p : List MemPlace}
    (ht : P.underlying t = some (.struct fs)) (hn : P.cellsOf t = 45) (hfs : fs.size = 3) (g0 : fs[0]? = some F0) (g1 : fs[1]? = some F1) (g2 : fs[2]? = some F2)
    (o0 : F0.offset = 0 ∧ F0.type = t1) (o1 : F1.offset = 32 ∧ F1.type = t2) (o2 : F2.offset = 44 ∧ F2.type = t3)
    (h1 : P.underlying t1 = some (.array 32 e)) (h2 : P.underlying t2 = some (.array 12 e)) (h3 : P.underlying t3 = some (.int .u32)) (he : P.underlying e = some (.int .u8)) (hc : P.cellsOf e = 1)
    (n1 : P.cellsOf t1 = 32) (n2 : P.cellsOf t2 = 12) (n3 : P.cellsOf t3 = 1)
    {b0 : Nat} (hv : Value.okWide P w .any b0 t v) (h : DataW.Trod enc P w base spare held t v d p) :
    ∃ key nonce c, v = .agg (caseV key nonce c) ∧ (∀ i, i < 32 → (Lit.int .u8 (key i)).wf = true) ∧ (∀ i, i < 12 → (Lit.int .u8 (nonce i)).wf = true) ∧ (Lit.int .u32 c).wf = true := by
  unfold Value.okWide at hv
  simp only [ht] at hv
  obtain ⟨cs, rfl, _, _⟩ := hv
  obtain ⟨fuel, hf⟩ := h
  simp only [Value.cells] at hf
  obtain ⟨xs, n, rfl, _, hl, hx, hi⟩ := DataW.trod_struct ht hf
  rw [hn] at hl
  rw [hfs] at hx
  have q0 := hi 0 F0 g0
  have q1 := hi 1 F1 g1
  have q2 := hi 2 F2 g2
  rw [o0.1, o0.2, n1, List.getElem?_eq_getElem (by omega)] at q0
  rw [o1.1, o1.2, n2, List.getElem?_eq_getElem (by omega)] at q1
  rw [o2.1, o2.2, n3, List.getElem?_eq_getElem (by omega)] at q2
  obtain ⟨key, hk, wk⟩ := trod_arr h1 he hc n1 q0
  obtain ⟨nonce, hno, wn⟩ := trod_arr h2 he hc n2 q1
  obtain ⟨c, hcc, _, wc⟩ := DataW.trod_int h3 q2
  refine ⟨key, nonce, c, ?_, wk, wn, wc⟩
  unfold caseV
  rw [← hk, ← hno, ← hcc]
  congr 1
  rw [← Array.toList_inj]
  simp only [List.toList_toArray] at *
  generalize cs.toList = l at *
  apply List.ext_getElem?
  intro i
  by_cases a1 : i < 32
  · rw [List.getElem?_append_left (by simp; omega)]; simp [a1]
  · rw [List.getElem?_append_right (by simp; omega)]
    by_cases a2 : i < 44
    · rw [List.getElem?_append_left (by simp; omega)]; simp [List.getElem?_take, List.getElem?_drop]; rw [if_pos (by omega)]; congr 1; omega
    · rw [List.getElem?_append_right (by simp; omega)]
      by_cases a3 : i < 45
      · simp [List.getElem?_take, List.getElem?_drop]; rw [if_pos (by omega)]; congr 1; omega
      · rw [List.getElem?_eq_none (by omega), List.getElem?_eq_none (by simp; omega)]
/-- a struct's fields: where each lies, and its type. -/
def fieldsB (P : Program) (t : TypeId) : Option (List (Nat × TypeId)) :=
  match P.underlying t with
  | some (.struct fs) => some (fs.toList.map fun F => (F.offset, F.type))
  | _ => none
theorem open_caseB {t t1 t2 t3 e : TypeId} {v : Value} {d : DataW H} {p : List MemPlace}
    (hf : fieldsB P t = some [(0, t1), (32, t2), (44, t3)]) (hn : P.cellsOf t = 45)
    (h1 : P.underlying t1 = some (.array 32 e)) (h2 : P.underlying t2 = some (.array 12 e)) (h3 : P.underlying t3 = some (.int .u32)) (he : P.underlying e = some (.int .u8)) (hc : P.cellsOf e = 1)
    (n1 : P.cellsOf t1 = 32) (n2 : P.cellsOf t2 = 12) (n3 : P.cellsOf t3 = 1)
    {b0 : Nat} (hv : Value.okWide P w .any b0 t v) (h : DataW.Trod enc P w base spare held t v d p) :
    ∃ key nonce c, v = .agg (caseV key nonce c) ∧ (∀ i, i < 32 → (Lit.int .u8 (key i)).wf = true) ∧ (∀ i, i < 12 → (Lit.int .u8 (nonce i)).wf = true) ∧ (Lit.int .u32 c).wf = true := by
  unfold fieldsB at hf
  split at hf
  · rename_i fs ht
    simp only [Option.some.injEq] at hf
    have hl : fs.size = 3 := by have := congrArg List.length hf; simpa using this
    have g : ∀ j (h : j < fs.size), (fs.toList.map fun F => (F.offset, F.type))[j]? = some (fs[j].offset, fs[j].type) := fun j h => by simp [h]
    rw [hf] at g
    have a0 := g 0 (by omega)
    have a1 := g 1 (by omega)
    have a2 := g 2 (by omega)
    simp at a0 a1 a2
    exact open_case ht hn hl (Array.getElem?_eq_getElem (by omega)) (Array.getElem?_eq_getElem (by omega)) (Array.getElem?_eq_getElem (by omega)) ⟨a0.1.symm, a0.2.symm⟩ ⟨a1.1.symm, a1.2.symm⟩ ⟨a2.1.symm, a2.2.symm⟩ h1 h2 h3 he hc n1 n2 n3 hv h
  · simp at hf
end
theorem run_to_array {P : Program} {o : Oper} {a : Act} {w : World} {T e : TypeId} {x : Operand} {ad : Option Addr} {n len cap : Nat} (ho : o.op = .sliceToArrayPointer T x) (hx : a.eval x = .slice ad len cap) (hu : P.underlying T = some (.array n e)) (hl : n ≤ len) :
    (execOp a.eval o).run P w = .ok (.value (.pointer ad)) w := by
  unfold execOp
  simp only [ho, hx, Sem.run_bind, arrayAt_part hu hl, Result.andThen_ok, Sem.run_pure]
end Go.Bas
