/-
  Arrays of integers by value: a block whose cells are the first n integers of a function. No program in sight.
-/
import Derived.Test.YtpcjekgfnfjbpaaKit
import Derived.Deep.RegionHeld3
import Derived.Deep.DrawnRows
import Derived.Deep.WholeRow
import Derived.Laws.CopyOwn
set_option linter.unusedVariables false
set_option linter.unusedSimpArgs false
namespace Go.Bas
open Go.RowKit

/-- block b holds the array f 0 .. f (n-1) of kind k, and nothing of it is frozen. -/
def Arr (k : IntKind) (w : World) (b n : Nat) (f : Nat → Int) : Prop := ∃ T, w.heap[b]? = some (.cells (arr k n f) T (0, 0))

theorem Arr.lt {k : IntKind} {w : World} {b n : Nat} {f : Nat → Int} (h : Arr k w b n f) : b < w.heap.size := by
  obtain ⟨T, h⟩ := h; exact (Array.getElem?_eq_some_iff.1 h).1
theorem Arr.cell {k : IntKind} {w : World} {b n : Nat} {f : Nat → Int} (h : Arr k w b n f) (i : Nat) (hi : i < n) : w.cell? ⟨b, i, none⟩ = some (.int k (f i)) := by
  obtain ⟨T, h⟩ := h
  rw [cell_of_row w b i _ T (0, 0) h, arr_get hi]
theorem Arr.free {k : IntKind} {w : World} {b n : Nat} {f : Nat → Int} (h : Arr k w b n f) (i : Nat) : w.frozen? ⟨b, i, none⟩ = false := by
  obtain ⟨T, h⟩ := h; exact frozen_of_row w b i _ T h
theorem Arr.congr {k : IntKind} {w : World} {b n : Nat} {f g : Nat → Int} (h : Arr k w b n f) (e : ∀ i, i < n → f i = g i) : Arr k w b n g := by
  obtain ⟨T, h⟩ := h; exact ⟨T, by rw [h, arr_congr e]⟩
theorem Arr.drew {k : IntKind} {w : World} {b n : Nat} {f : Nat → Int} (h : Arr k w b n f) : Arr k w.drew b n f := h
theorem Arr.drewN {k : IntKind} {w : World} {b n : Nat} {f : Nat → Int} (h : Arr k w b n f) (m : Nat) : Arr k (w.drewN m) b n f := h
theorem Arr.alloc {k : IntKind} {w : World} {b n : Nat} {f : Nat → Int} (h : Arr k w b n f) (o : Obj) : Arr k (w.alloc o) b n f := by
  have hlt := h.lt
  obtain ⟨T, h⟩ := h
  exact ⟨T, by rw [Below.heap_alloc _ _ _ hlt]; exact h⟩
theorem Arr.new (k : IntKind) (w : World) (T : TypeId) (n : Nat) (f : Nat → Int) : Arr k (w.alloc (.cells (arr k n f) T)) w.heap.size n f := ⟨T, heap_alloc_new w _⟩
theorem Arr.newLit (k : IntKind) (w : World) (T : TypeId) (n : Nat) (f : Nat → Int) (cs : Array Value) (h : cs = arr k n f) : Arr k (w.alloc (.cells cs T)) w.heap.size n f := by subst h; exact Arr.new k w T n f
theorem Arr.newAt {k : IntKind} {w : World} {T : TypeId} {n b : Nat} {f : Nat → Int} {cs : Array Value} (hb : b = w.heap.size) (h : cs = arr k n f) : Arr k (w.alloc (.cells cs T)) b n f := by subst hb; subst h; exact Arr.new k w T n f
theorem Arr.below {k : IntKind} {w w' : World} {b n B : Nat} {f : Nat → Int} (h : Arr k w b n f) (hb : Below B w w') (hB : b < B) : Arr k w' b n f := by
  obtain ⟨T, h⟩ := h
  exact ⟨T, by rw [hb.block b hB]; exact h⟩
theorem Arr.kept {k : IntKind} {w w' : World} {b n : Nat} {f : Nat → Int} (h : Arr k w b n f) (hb : Below w.heap.size w w') : Arr k w' b n f := h.below hb h.lt
theorem Arr.other {k : IntKind} {w : World} {b n : Nat} {f : Nat → Int} (h : Arr k w b n f) {p : Addr} (hp : b ≠ p.block) (v : Value) : Arr k (w.setCell p v) b n f := by
  obtain ⟨T, h⟩ := h
  exact ⟨T, by rw [heap_setCell_other w p b v hp]; exact h⟩
theorem Arr.grown {k : IntKind} {w w' : World} {b n : Nat} {f : Nat → Int} {row : Option Nat} (h : Arr k w b n f) (hg : w.grownBy w' row) (hne : some b ≠ row) : Arr k w' b n f := by
  have hlt := h.lt
  obtain ⟨T, h⟩ := h
  exact ⟨T, by rw [hg.block b hlt hne]; exact h⟩
theorem arr_set {k : IntKind} {n : Nat} {f : Nat → Int} (j : Nat) (x : Int) : (arr k n f).setIfInBounds j (.int k x) = arr k n (upd f j x) := by
  unfold arr
  rw [List.setIfInBounds_toArray, vals_set]
theorem Arr.set {k : IntKind} {w : World} {b n : Nat} {f : Nat → Int} (h : Arr k w b n f) (j : Nat) (x : Int) : Arr k (w.setCell ⟨b, j, none⟩ (.int k x)) b n (upd f j x) := by
  obtain ⟨T, h⟩ := h
  exact ⟨T, by rw [heap_setCell_same w b j _ T _ h, arr_set]⟩
theorem Arr.setRow {k : IntKind} {w : World} {b n : Nat} {f : Nat → Int} (h : Arr k w b n f) (m : Nat) (g : Nat → Int) : Arr k (w.setRow b (arr k m g)) b m g := by
  obtain ⟨T, h⟩ := h
  exact ⟨T, setRow_heap w b _ _ T _ h⟩
theorem Arr.setRowOther {k : IntKind} {w : World} {b n : Nat} {f : Nat → Int} (h : Arr k w b n f) (b' : Nat) (hb : b ≠ b') (cs : Array Value) : Arr k (w.setRow b' cs) b n f := by
  obtain ⟨T, h⟩ := h
  exact ⟨T, by rw [setRow_other w b' b cs hb]; exact h⟩
theorem Arr.rd {k : IntKind} {w : World} {b n : Nat} {f : Nat → Int} (h : Arr k w b n f) (hn : n ≤ 9223372036854775807) : Rd k w (.slice (some ⟨b, 0, none⟩) n n) n f :=
  ⟨_, _, rfl, Nat.le_refl _, hn, (fun h => by cases h), fun _ => ⟨b, 0, rfl, h.lt, fun i hi => by rw [Nat.zero_add]; exact h.cell i hi⟩⟩

theorem all_oneCell_arr (k : IntKind) (n : Nat) (f : Nat → Int) : (arr k n f).all (·.oneCell') = true := by
  unfold arr
  rw [List.all_toArray, List.all_eq_true]
  intro v hv
  obtain ⟨_, _, rfl⟩ := List.mem_map.1 hv
  rfl

section
variable {P : Program} {ops : Array Oper} {rest : List Oper} {o : Oper} {a : Act} {w : World} {Q : Exit → Act → World → Prop}

/-- a whole array is loaded. -/
theorem load_arr (hg : o.guard = none) (T : TypeId) (x : Operand) (ho : o.op = .load T x) (k : IntKind) (b n : Nat) (f : Nat → Int) (e : TypeId)
    (hu : P.underlying T = some (.array n e)) (hi : (P.info? T).map (·.size) = some n) (hx : a.eval x = .pointer (some ⟨b, 0, none⟩)) (h : Arr k w b n f)
    (hK : wpList P ops Q rest (a.put o.dst (.agg (arr k n f))) w) : wpList P ops Q (o :: rest) a w := by
  obtain ⟨t, ht⟩ := h
  exact wpList_load_row hg T x ho b hx t (arr k n f) (0, 0) _ ht hu rfl (by rw [hi, arr_size]) hK

theorem wp_store_arr {K : Act → World → Prop} (T : TypeId) (x y : Operand) (ho : o.op = .store T x y) (k : IntKind) (b n : Nat) (f g : Nat → Int)
    (hi : (P.info? T).map (·.size) = some n) (hx : a.eval x = .pointer (some ⟨b, 0, none⟩)) (hy : a.eval y = .agg (arr k n g)) (h : Arr k w b n f)
    (hK : K (a.put o.dst undef) (w.setRow b (arr k n g))) : o.wp P a w K Q := by
  obtain ⟨t, ht⟩ := h
  have hr := run_storeVar_row (P := P) w b t T (arr k n f) (arr k n g) ht (by rw [hi, arr_size]) (by simp) (all_oneCell_arr k n g)
  unfold Oper.wp execOp
  simp only [ho, hx, hy, Instr.storeAt, Instr.sureAddr, Sem.run_bind, Sem.run_pure, Result.andThen_ok, hr]
  exact hK

/-- a whole array is stored. -/
theorem store_arr (hg : o.guard = none) (T : TypeId) (x y : Operand) (ho : o.op = .store T x y) (k : IntKind) (b n : Nat) (f g : Nat → Int)
    (hi : (P.info? T).map (·.size) = some n) (hx : a.eval x = .pointer (some ⟨b, 0, none⟩)) (hy : a.eval y = .agg (arr k n g)) (h : Arr k w b n f)
    (hK : wpList P ops Q rest (a.put o.dst undef) (w.setRow b (arr k n g))) : wpList P ops Q (o :: rest) a w :=
  wpList_plain hg fun _ hK' => wp_store_arr T x y ho k b n f g hi hx hy h (hK' _ _ hK)
end

/-- an array's element. -/
theorem run_index_arr {P : Program} {T e : TypeId} {k : IntKind} {n : Nat} {f : Nat → Int} (hu : P.underlying T = some (.array n e)) (he : P.underlying e = some (.int k)) (hi : (P.info? e).map (·.size) = some 1) (i : Nat) (h : i < n) (w : World) :
    (Instr.index T (.agg (arr k n f)) (.int .i64 (i : Int))).run P w = .ok (.int k (f i)) w := by
  obtain ⟨x, hx, hs⟩ := Option.map_eq_some_iff.1 hi
  have h2 : (0 : Int) ≤ i ∧ (i : Int) < n := by omega
  simp [Instr.index, asIntOf, run_underlying hu, run_underlying he, h2, sizeOf, typeInfo, hx, hs, part, isAgg, arr_get h]
  intro h3; omega

theorem below_setRow' {B g : Nat} {w0 w : World} (hb : Below B w0 w) (hBg : B ≤ g) (cs : Array Value) : Below B w0 (w.setRow g cs) := below_setRow hb hBg cs

/-- the result is one array in a variable. -/
theorem results_arr {P : Program} {fn : Func} {p : Tmp} {T : TypeId} (h : fn.results = #[.cell p T]) (tmps : Array Value) (w : World) (k : IntKind) (b n : Nat) (f : Nat → Int) (e : TypeId)
    (hp : tmps.getD p undef = .pointer (some ⟨b, 0, none⟩)) (ha : Arr k w b n f) (hu : P.underlying T = some (.array n e)) (hi : (P.info? T).map (·.size) = some n) :
    (results fn tmps).run P w = .ok (.agg (arr k n f)) w := by
  obtain ⟨t, ht⟩ := ha
  exact results_cell_row h tmps w b t (arr k n f) (0, 0) _ hp ht hu rfl (by rw [hi, arr_size])

/-- the results are one array in a variable, and one value. -/
theorem results_arr2 {P : Program} {fn : Func} {p q : Tmp} {T : TypeId} (h : fn.results = #[.cell p T, .tmp q]) (tmps : Array Value) (w : World) (k : IntKind) (b n : Nat) (f : Nat → Int) (e : TypeId)
    (hp : tmps.getD p undef = .pointer (some ⟨b, 0, none⟩)) (ha : Arr k w b n f) (hu : P.underlying T = some (.array n e)) (hi : (P.info? T).map (·.size) = some n) :
    (results fn tmps).run P w = .ok (.tuple #[.agg (arr k n f), tmps.getD q undef]) w := by
  obtain ⟨t, ht⟩ := ha
  have hp' : tmps[p]?.getD undef = .pointer (some ⟨b, 0, none⟩) := by simpa using hp
  simp [results, h, hp', asAddr, run_loadVar_row w b t T (arr k n f) (0, 0) _ ht hu rfl (by rw [hi, arr_size])]
end Go.Bas
