/-
  One guarded operation of a region that keeps the text's order, by its value. No program in sight.
  Structs and arrays of integers by value, whatever their description. No program in sight.
  copy into an array or a slice that is known whole, contents as functions. No program in sight.
-/
import Derived.Test.YtlmdgmgbijfaoaaFlow
import Derived.Test.YtlmdgmgbijfaoaaGrow
import Derived.BigFrame
import Derived.Laws.CopyOwn
import Derived.Deep.RegionLaw
set_option linter.unusedVariables false
set_option linter.unusedSimpArgs false
namespace Go.Bas
open Go.RowKit
section
variable {P : Program} {ops : Array Oper} {rest : List Oper} {o : Oper} {a : Act} {w : World} {Q : Exit → Act → World → Prop}
theorem step_valg (hw : Region.wanted o (yielded ops a.tmps) = true) {v : Value} (hr : (execOp a.eval o).run P w = .ok (.value v) w) (hK : wpList P ops Q rest (a.put o.dst v) w) : wpList P ops Q (o :: rest) a w :=
  Go.BigFrame.wpList_want hw fun K hK' => by unfold Oper.wp; rw [hr]; exact hK' _ _ hK
end
end Go.Bas
namespace Go.Bas
open Go.RowKit
section
variable {P : Program} {ops : Array Oper} {rest : List Oper} {o : Oper} {a : Act} {w : World} {Q : Exit → Act → World → Prop}
theorem load_str (hg : o.guard = none) (T : TypeId) (x : Operand) (ho : o.op = .load T x) (k : IntKind) (b n : Nat) (f : Nat → Int) {d : TypeDesc}
    (hu : P.underlying T = some d) (hd : aggB d = true) (hi : (P.info? T).map (·.size) = some n) (hx : a.eval x = .pointer (some ⟨b, 0, none⟩)) (h : Arr k w b n f)
    (hK : wpList P ops Q rest (a.put o.dst (.agg (arr k n f))) w) : wpList P ops Q (o :: rest) a w := by
  obtain ⟨t, ht⟩ := h
  exact wpList_load_row hg T x ho b hx t (arr k n f) (0, 0) _ ht hu (by cases d <;> first | rfl | cases hd) (by rw [hi, arr_size]) hK
theorem results_str {fn : Func} {p : Tmp} {T : TypeId} (h : fn.results = #[.cell p T]) (tmps : Array Value) (w : World) (k : IntKind) (b n : Nat) (f : Nat → Int) {d : TypeDesc}
    (hp : tmps.getD p undef = .pointer (some ⟨b, 0, none⟩)) (ha : Arr k w b n f) (hu : P.underlying T = some d) (hd : aggB d = true) (hi : (P.info? T).map (·.size) = some n) :
    (results fn tmps).run P w = .ok (.agg (arr k n f)) w := by
  obtain ⟨t, ht⟩ := ha
  exact results_cell_row h tmps w b t (arr k n f) (0, 0) _ hp ht hu (by cases d <;> first | rfl | cases hd) (by rw [hi, arr_size])
theorem results_str2 {fn : Func} {p q : Tmp} {T : TypeId} (h : fn.results = #[.cell p T, .tmp q]) (tmps : Array Value) (w : World) (k : IntKind) (b n : Nat) (f : Nat → Int) {d : TypeDesc}
    (hp : tmps.getD p undef = .pointer (some ⟨b, 0, none⟩)) (ha : Arr k w b n f) (hu : P.underlying T = some d) (hd : aggB d = true) (hi : (P.info? T).map (·.size) = some n) :
    (results fn tmps).run P w = .ok (.tuple #[.agg (arr k n f), tmps.getD q undef]) w := by
  obtain ⟨t, ht⟩ := ha
  have hp' : tmps[p]?.getD undef = .pointer (some ⟨b, 0, none⟩) := by simpa using hp
  simp [results, h, hp', asAddr, run_loadVar_row w b t T (arr k n f) (0, 0) _ ht hu (by cases d <;> first | rfl | cases hd) (by rw [hi, arr_size])]
theorem results_strs {fn : Func} {p q : Tmp} {T U : TypeId} (h : fn.results = #[.cell p T, .cell q U]) (tmps : Array Value) (w : World) (k : IntKind) (b n : Nat) (f : Nat → Int) (k2 : IntKind) (b2 n2 : Nat) (f2 : Nat → Int) {d d2 : TypeDesc}
    (hp : tmps.getD p undef = .pointer (some ⟨b, 0, none⟩)) (ha : Arr k w b n f) (hu : P.underlying T = some d) (hd : aggB d = true) (hi : (P.info? T).map (·.size) = some n)
    (hp2 : tmps.getD q undef = .pointer (some ⟨b2, 0, none⟩)) (ha2 : Arr k2 w b2 n2 f2) (hu2 : P.underlying U = some d2) (hd2 : aggB d2 = true) (hi2 : (P.info? U).map (·.size) = some n2) :
    (results fn tmps).run P w = .ok (.tuple #[.agg (arr k n f), .agg (arr k2 n2 f2)]) w := by
  obtain ⟨t, ht⟩ := ha
  obtain ⟨t2, ht2⟩ := ha2
  have hp' : tmps[p]?.getD undef = .pointer (some ⟨b, 0, none⟩) := by simpa using hp
  have hp2' : tmps[q]?.getD undef = .pointer (some ⟨b2, 0, none⟩) := by simpa using hp2
  simp [results, h, hp', hp2', asAddr, run_loadVar_row w b t T (arr k n f) (0, 0) _ ht hu (by cases d <;> first | rfl | cases hd) (by rw [hi, arr_size]), run_loadVar_row w b2 t2 U (arr k2 n2 f2) (0, 0) _ ht2 hu2 (by cases d2 <;> first | rfl | cases hd2) (by rw [hi2, arr_size])]
end
theorem Gr.setRow {w w' : World} {b : Nat} (h : w.grownBy w' (some b)) (cs : Array Value) : w.grownBy (w'.setRow b cs) (some b) := by
  refine ⟨?_, ?_, ?_, ?_, fun j hj hne => ?_⟩
  · rw [← h.os]; exact setRow_os _ _ _
  · rw [← h.tape]; exact setRow_tape _ _ _
  · rw [← h.output]; exact setRow_output _ _ _
  · have := h.size; rw [setRow_size]; exact this
  · rw [setRow_other _ _ _ _ (fun e => hne (by rw [e]))]; exact h.block j hj hne
end Go.Bas
namespace Go.Bas
open Go.RowKit
/-- h's first m integers laid over f from place off on. -/
def laid (f : Nat → Int) (off m : Nat) (h : Nat → Int) : Nat → Int := fun i => if off ≤ i ∧ i < off + m then h (i - off) else f i
theorem laid_list {k : IntKind} {n : Nat} {f h : Nat → Int} {off m : Nat} (hf : off + m ≤ n) : ((vals k n f).take off ++ (vals k m h ++ (vals k n f).drop (off + (vals k m h).length))).toArray = arr k n (laid f off m h) := by
  unfold arr
  congr 1
  apply List.ext_getElem?
  intro i
  rw [vals_length]
  have hl : ((vals k n f).take off).length = off := by simp; omega
  by_cases h1 : i < off
  · rw [List.getElem?_append_left (by omega), List.getElem?_take, if_pos h1, vals_get (by omega), vals_get (by omega)]
    unfold laid; rw [if_neg (by omega)]
  · rw [List.getElem?_append_right (by omega), hl]
    by_cases h2 : i < off + m
    · rw [List.getElem?_append_left (by simp; omega), vals_get (by omega), vals_get (by omega)]
      unfold laid; rw [if_pos (by omega)]
    · rw [List.getElem?_append_right (by simp; omega), List.getElem?_drop, vals_length, show off + m + (i - off - m) = i by omega]
      by_cases h3 : i < n
      · rw [vals_get h3, vals_get h3]
        unfold laid; rw [if_neg (by omega)]
      · rw [List.getElem?_eq_none (by simp; omega), List.getElem?_eq_none (by simp; omega)]
theorem run_copy_arr {P : Program} {w : World} {dT sT : TypeId} (t0 : TypeId) {e : TypeId} {k : IntKind} {g off dLen dCap n : Nat} {f : Nat → Int} (hu : P.underlying dT = some (.slice e)) (hsz : (P.info? e).map (·.size) = some 1)
    (hA : Arr k w g n f) {u : Value} {m : Nat} {h : Nat → Int} (hr : Rd k w u m h) (hm : m ≤ dLen) (hf : off + m ≤ n) :
    (Builtin.copy_ #[dT, sT] t0 #[.slice (some ⟨g, off, none⟩) dLen dCap, u]).run P w = .ok (goInt m) (w.setRow g (arr k n (laid f off m h))) := by
  obtain ⟨t, hg⟩ := hA
  obtain ⟨sp, c, rfl, l1, l2, l3, l4⟩ := hr
  have hmin : Nat.min m dLen = m := Nat.min_eq_left hm
  by_cases h0 : m = 0
  · subst h0
    have hrun := run_copy_none (P := P) w dT sT t0 e (some ⟨g, off, none⟩) sp dLen dCap 0 c hu hsz (by simp)
    have hl : arr k n (laid f off 0 h) = arr k n f := arr_congr fun i _ => by unfold laid; rw [if_neg (by omega)]
    rw [hl, setRow_self w g _ t (0, 0) hg]
    exact hrun
  · obtain ⟨b, o, rfl, hb, hc⟩ := l4 (by omega)
    have hrun := run_copy_row (P := P) w dT sT t0 e g off dLen dCap ⟨b, o, none⟩ m c (arr k n f) t (vals k m h) hu hsz hg (by rw [vals_length, hmin]) (fun j v hv => by
      have hj : j < m := by have := (List.getElem?_eq_some_iff.1 hv).1; simpa using this
      have hadd : (⟨b, o, none⟩ : Addr).add j = ⟨b, o + j, none⟩ := by unfold Addr.add; split <;> simp_all
      rw [hadd, hc j hj, ← vals_get (k := k) (f := h) hj]
      exact hv) (by simpa using hf) (fun v hv => by obtain ⟨_, _, rfl⟩ := List.mem_map.1 hv; rfl)
    have hl := laid_list (k := k) (f := f) (h := h) hf
    have e1 : (arr k n f).toList = vals k n f := by unfold arr; simp
    rw [e1, List.append_assoc, hl, vals_length] at hrun
    exact hrun
section
variable {P : Program} {ops : Array Oper} {o : Oper} {a : Act} {w : World} {rest : List Oper} {K : Act → World → Prop} {Q : Exit → Act → World → Prop} {E : Prop}
theorem wp_copy_arr (d s : Operand) (dT sT : TypeId) (ho : o.op = .call { callee := .builtin .copy, args := #[d, s], argTypes := #[dT, sT] }) {e : TypeId} {k : IntKind} (g off dLen dCap n : Nat) (f : Nat → Int) (hu : P.underlying dT = some (.slice e)) (hsz : (P.info? e).map (·.size) = some 1)
    (hd : a.eval d = .slice (some ⟨g, off, none⟩) dLen dCap) (hA : Arr k w g n f) (u : Value) (m : Nat) (h : Nat → Int) (hr : Rd k w u m h) (hs : a.eval s = u) (hm : m ≤ dLen) (hf : off + m ≤ n)
    (hK : K (a.put o.dst (goInt m)) (w.setRow g (arr k n (laid f off m h)))) : o.wp P a w K Q := by
  have hrun := run_copy_arr (P := P) (dT := dT) (sT := sT) o.type (dCap := dCap) hu hsz hA hr hm hf
  unfold Oper.wp
  simp [execOp, ho, resolve, invoke, builtin, hd, hs, hrun, Result.andThen]
  exact hK
theorem step_copy_arr (hg : o.guard = none) (d s : Operand) (dT sT : TypeId) (ho : o.op = .call { callee := .builtin .copy, args := #[d, s], argTypes := #[dT, sT] }) {e : TypeId} {k : IntKind} (g off dLen dCap n : Nat) (f : Nat → Int) (hu : P.underlying dT = some (.slice e)) (hsz : (P.info? e).map (·.size) = some 1)
    (hd : a.eval d = .slice (some ⟨g, off, none⟩) dLen dCap) (hA : Arr k w g n f) (u : Value) (m : Nat) (h : Nat → Int) (hr : Rd k w u m h) (hs : a.eval s = u) (hm : m ≤ dLen) (hf : off + m ≤ n)
    (hK : K (a.put o.dst (goInt m)) (w.setRow g (arr k n (laid f off m h)))) : if Region.wanted o (yielded ops a.tmps) = true then Oper.wp P o a w K Q else E := by
  have hw : Region.wanted o (yielded ops a.tmps) = true := by simp [Region.wanted, hg]
  rw [if_pos hw]
  exact wp_copy_arr d s dT sT ho g off dLen dCap n f hu hsz hd hA u m h hr hs hm hf hK
theorem list_copy_arr (hg : o.guard = none) (d s : Operand) (dT sT : TypeId) (ho : o.op = .call { callee := .builtin .copy, args := #[d, s], argTypes := #[dT, sT] }) {e : TypeId} {k : IntKind} (g off dLen dCap n : Nat) (f : Nat → Int) (hu : P.underlying dT = some (.slice e)) (hsz : (P.info? e).map (·.size) = some 1)
    (hd : a.eval d = .slice (some ⟨g, off, none⟩) dLen dCap) (hA : Arr k w g n f) (u : Value) (m : Nat) (h : Nat → Int) (hr : Rd k w u m h) (hs : a.eval s = u) (hm : m ≤ dLen) (hf : off + m ≤ n)
    (hK : wpList P ops Q rest (a.put o.dst (goInt m)) (w.setRow g (arr k n (laid f off m h)))) : wpList P ops Q (o :: rest) a w :=
  wpList_plain hg fun _ hK' => wp_copy_arr d s dT sT ho g off dLen dCap n f hu hsz hd hA u m h hr hs hm hf (hK' _ _ hK)
end
end Go.Bas
