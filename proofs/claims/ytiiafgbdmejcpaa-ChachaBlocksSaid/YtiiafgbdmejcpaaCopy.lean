/-
  copy into an array or a slice that is known whole, contents as functions. No program in sight.
-/
import Derived.Test.YtiiafgbdmejcpaaElem
import Derived.Laws.CopyOwn
import Derived.Deep.RegionLaw
namespace Go.Bas
open Go.RowKit
/-- h's first m integers laid over f from place off on. -/
def laid (f : Nat → Int) (off m : Nat) (h : Nat → Int) : Nat → Int := fun i => if off ≤ i ∧ i < off + m then h (i - off) else f i
theorem laid_list {k : IntKind} {n : Nat} {f h : Nat → Int} {off m : Nat} (hf : off + m ≤ n) : ((vals k n f).take off ++ (vals k m h ++ (vals k n f).drop (off + (vals k m h).length))).toArray = arr k n (laid f off m h) := by
  unfold arr
  congr 1
  apply List.ext_getElem?
  intro i
  rw [vals_length]
  have hl : ((vals k n f).take off).length = off := by simp; omega
  by_cases h1 : i < off
  · rw [List.getElem?_append_left (by omega), List.getElem?_take, if_pos h1, vals_get (by omega), vals_get (by omega)]
    unfold laid; rw [if_neg (by omega)]
  · rw [List.getElem?_append_right (by omega), hl]
    by_cases h2 : i < off + m
    · rw [List.getElem?_append_left (by simp; omega), vals_get (by omega), vals_get (by omega)]
      unfold laid; rw [if_pos (by omega)]
    · rw [List.getElem?_append_right (by simp; omega), List.getElem?_drop, vals_length, show off + m + (i - off - m) = i by omega]
      by_cases h3 : i < n
      · rw [vals_get h3, vals_get h3]
        unfold laid; rw [if_neg (by omega)]
      · rw [List.getElem?_eq_none (by simp; omega), List.getElem?_eq_none (by simp; omega)]
theorem run_copy_arr {P : Program} {w : World} {dT sT : TypeId} (t0 : TypeId) {e : TypeId} {k : IntKind} {g off dLen dCap n : Nat} {f : Nat → Int} (hu : P.underlying dT = some (.slice e)) (hsz : (P.info? e).map (·.size) = some 1)
    (hA : Arr k w g n f) {u : Value} {m : Nat} {h : Nat → Int} (hr : Rd k w u m h) (hm : m ≤ dLen) (hf : off + m ≤ n) :
    (Builtin.copy_ #[dT, sT] t0 #[.slice (some ⟨g, off, none⟩) dLen dCap, u]).run P w = .ok (goInt m) (w.setRow g (arr k n (laid f off m h))) := by
  obtain ⟨t, hg⟩ := hA
  obtain ⟨sp, c, rfl, l1, l2, l3, l4⟩ := hr
  have hmin : Nat.min m dLen = m := Nat.min_eq_left hm
  by_cases h0 : m = 0
  · subst h0
    have hrun := run_copy_none (P := P) w dT sT t0 e (some ⟨g, off, none⟩) sp dLen dCap 0 c hu hsz (by simp)
    have hl : arr k n (laid f off 0 h) = arr k n f := arr_congr fun i _ => by unfold laid; rw [if_neg (by omega)]
    rw [hl, setRow_self w g _ t (0, 0) hg]
    exact hrun
  · obtain ⟨b, o, rfl, hb, hc⟩ := l4 (by omega)
    have hrun := run_copy_row (P := P) w dT sT t0 e g off dLen dCap ⟨b, o, none⟩ m c (arr k n f) t (vals k m h) hu hsz hg (by rw [vals_length, hmin]) (fun j v hv => by
      have hj : j < m := by have := (List.getElem?_eq_some_iff.1 hv).1; simpa using this
      have hadd : (⟨b, o, none⟩ : Addr).add j = ⟨b, o + j, none⟩ := by unfold Addr.add; split <;> simp_all
      rw [hadd, hc j hj, ← vals_get (k := k) (f := h) hj]
      exact hv) (by simpa using hf) (fun v hv => by obtain ⟨_, _, rfl⟩ := List.mem_map.1 hv; rfl)
    have hl := laid_list (k := k) (f := f) (h := h) hf
    have e1 : (arr k n f).toList = vals k n f := by unfold arr; simp
    rw [e1, List.append_assoc, hl, vals_length] at hrun
    exact hrun
section
variable {P : Program} {ops : Array Oper} {o : Oper} {a : Act} {w : World} {rest : List Oper} {K : Act → World → Prop} {Q : Exit → Act → World → Prop} {E : Prop}
theorem wp_copy_arr (d s : Operand) (dT sT : TypeId) (ho : o.op = .call { callee := .builtin .copy, args := #[d, s], argTypes := #[dT, sT] }) {e : TypeId} {k : IntKind} (g off dLen dCap n : Nat) (f : Nat → Int) (hu : P.underlying dT = some (.slice e)) (hsz : (P.info? e).map (·.size) = some 1)
    (hd : a.eval d = .slice (some ⟨g, off, none⟩) dLen dCap) (hA : Arr k w g n f) (u : Value) (m : Nat) (h : Nat → Int) (hr : Rd k w u m h) (hs : a.eval s = u) (hm : m ≤ dLen) (hf : off + m ≤ n)
    (hK : K (a.put o.dst (goInt m)) (w.setRow g (arr k n (laid f off m h)))) : o.wp P a w K Q := by
  have hrun := run_copy_arr (P := P) (dT := dT) (sT := sT) o.type (dCap := dCap) hu hsz hA hr hm hf
  unfold Oper.wp
  simp [execOp, ho, resolve, invoke, builtin, hd, hs, hrun, Result.andThen]
  exact hK
theorem step_copy_arr (hg : o.guard = none) (d s : Operand) (dT sT : TypeId) (ho : o.op = .call { callee := .builtin .copy, args := #[d, s], argTypes := #[dT, sT] }) {e : TypeId} {k : IntKind} (g off dLen dCap n : Nat) (f : Nat → Int) (hu : P.underlying dT = some (.slice e)) (hsz : (P.info? e).map (·.size) = some 1)
    (hd : a.eval d = .slice (some ⟨g, off, none⟩) dLen dCap) (hA : Arr k w g n f) (u : Value) (m : Nat) (h : Nat → Int) (hr : Rd k w u m h) (hs : a.eval s = u) (hm : m ≤ dLen) (hf : off + m ≤ n)
    (hK : K (a.put o.dst (goInt m)) (w.setRow g (arr k n (laid f off m h)))) : if Region.wanted o (yielded ops a.tmps) = true then Oper.wp P o a w K Q else E := by
  have hw : Region.wanted o (yielded ops a.tmps) = true := by simp [Region.wanted, hg]
  rw [if_pos hw]
  exact wp_copy_arr d s dT sT ho g off dLen dCap n f hu hsz hd hA u m h hr hs hm hf hK
theorem list_copy_arr (hg : o.guard = none) (d s : Operand) (dT sT : TypeId) (ho : o.op = .call { callee := .builtin .copy, args := #[d, s], argTypes := #[dT, sT] }) {e : TypeId} {k : IntKind} (g off dLen dCap n : Nat) (f : Nat → Int) (hu : P.underlying dT = some (.slice e)) (hsz : (P.info? e).map (·.size) = some 1)
    (hd : a.eval d = .slice (some ⟨g, off, none⟩) dLen dCap) (hA : Arr k w g n f) (u : Value) (m : Nat) (h : Nat → Int) (hr : Rd k w u m h) (hs : a.eval s = u) (hm : m ≤ dLen) (hf : off + m ≤ n)
    (hK : wpList P ops Q rest (a.put o.dst (goInt m)) (w.setRow g (arr k n (laid f off m h)))) : wpList P ops Q (o :: rest) a w :=
  wpList_plain hg fun _ hK' => wp_copy_arr d s dT sT ho g off dLen dCap n f hu hsz hd hA u m h hr hs hm hf (hK' _ _ hK)
end
end Go.Bas
