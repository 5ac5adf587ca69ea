/-
  Structs and arrays of integers by value, whatever their description. No program in sight.
-/
import Derived.Test.YtiiafgbdmejcpaaStep
import Derived.Test.YtiiafgbdmejcpaaGrow
namespace Go.Bas
open Go.RowKit
section
variable {P : Program} {ops : Array Oper} {rest : List Oper} {o : Oper} {a : Act} {w : World} {Q : Exit → Act → World → Prop}
theorem load_str (hg : o.guard = none) (T : TypeId) (x : Operand) (ho : o.op = .load T x) (k : IntKind) (b n : Nat) (f : Nat → Int) {d : TypeDesc}
    (hu : P.underlying T = some d) (hd : aggB d = true) (hi : (P.info? T).map (·.size) = some n) (hx : a.eval x = .pointer (some ⟨b, 0, none⟩)) (h : Arr k w b n f)
    (hK : wpList P ops Q rest (a.put o.dst (.agg (arr k n f))) w) : wpList P ops Q (o :: rest) a w := by
  obtain ⟨t, ht⟩ := h
  exact wpList_load_row hg T x ho b hx t (arr k n f) (0, 0) _ ht hu (by cases d <;> first | rfl | cases hd) (by rw [hi, arr_size]) hK
theorem results_str {fn : Func} {p : Tmp} {T : TypeId} (h : fn.results = #[.cell p T]) (tmps : Array Value) (w : World) (k : IntKind) (b n : Nat) (f : Nat → Int) {d : TypeDesc}
    (hp : tmps.getD p undef = .pointer (some ⟨b, 0, none⟩)) (ha : Arr k w b n f) (hu : P.underlying T = some d) (hd : aggB d = true) (hi : (P.info? T).map (·.size) = some n) :
    (results fn tmps).run P w = .ok (.agg (arr k n f)) w := by
  obtain ⟨t, ht⟩ := ha
  exact results_cell_row h tmps w b t (arr k n f) (0, 0) _ hp ht hu (by cases d <;> first | rfl | cases hd) (by rw [hi, arr_size])
theorem results_str2 {fn : Func} {p q : Tmp} {T : TypeId} (h : fn.results = #[.cell p T, .tmp q]) (tmps : Array Value) (w : World) (k : IntKind) (b n : Nat) (f : Nat → Int) {d : TypeDesc}
    (hp : tmps.getD p undef = .pointer (some ⟨b, 0, none⟩)) (ha : Arr k w b n f) (hu : P.underlying T = some d) (hd : aggB d = true) (hi : (P.info? T).map (·.size) = some n) :
    (results fn tmps).run P w = .ok (.tuple #[.agg (arr k n f), tmps.getD q undef]) w := by
  obtain ⟨t, ht⟩ := ha
  have hp' : tmps[p]?.getD undef = .pointer (some ⟨b, 0, none⟩) := by simpa using hp
  simp [results, h, hp', asAddr, run_loadVar_row w b t T (arr k n f) (0, 0) _ ht hu (by cases d <;> first | rfl | cases hd) (by rw [hi, arr_size])]
theorem results_strs {fn : Func} {p q : Tmp} {T U : TypeId} (h : fn.results = #[.cell p T, .cell q U]) (tmps : Array Value) (w : World) (k : IntKind) (b n : Nat) (f : Nat → Int) (k2 : IntKind) (b2 n2 : Nat) (f2 : Nat → Int) {d d2 : TypeDesc}
    (hp : tmps.getD p undef = .pointer (some ⟨b, 0, none⟩)) (ha : Arr k w b n f) (hu : P.underlying T = some d) (hd : aggB d = true) (hi : (P.info? T).map (·.size) = some n)
    (hp2 : tmps.getD q undef = .pointer (some ⟨b2, 0, none⟩)) (ha2 : Arr k2 w b2 n2 f2) (hu2 : P.underlying U = some d2) (hd2 : aggB d2 = true) (hi2 : (P.info? U).map (·.size) = some n2) :
    (results fn tmps).run P w = .ok (.tuple #[.agg (arr k n f), .agg (arr k2 n2 f2)]) w := by
  obtain ⟨t, ht⟩ := ha
  obtain ⟨t2, ht2⟩ := ha2
  have hp' : tmps[p]?.getD undef = .pointer (some ⟨b, 0, none⟩) := by simpa using hp
  have hp2' : tmps[q]?.getD undef = .pointer (some ⟨b2, 0, none⟩) := by simpa using hp2
  simp [results, h, hp', hp2', asAddr, run_loadVar_row w b t T (arr k n f) (0, 0) _ ht hu (by cases d <;> first | rfl | cases hd) (by rw [hi, arr_size]), run_loadVar_row w b2 t2 U (arr k2 n2 f2) (0, 0) _ ht2 hu2 (by cases d2 <;> first | rfl | cases hd2) (by rw [hi2, arr_size])]
end
theorem Gr.setRow {w w' : World} {b : Nat} (h : w.grownBy w' (some b)) (cs : Array Value) : w.grownBy (w'.setRow b cs) (some b) := by
  refine ⟨?_, ?_, ?_, ?_, fun j hj hne => ?_⟩
  · rw [← h.os]; exact setRow_os _ _ _
  · rw [← h.tape]; exact setRow_tape _ _ _
  · rw [← h.output]; exact setRow_output _ _ _
  · have := h.size; rw [setRow_size]; exact this
  · rw [setRow_other _ _ _ _ (fun e => hne (by rw [e]))]; exact h.block j hj hne
end Go.Bas
