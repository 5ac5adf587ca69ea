/-
  A block's first integers, whatever its spare room: for functions that write into a slice they are handed. No program in sight.
-/
import Derived.Test.YtgobodhcamgidaaGrow
import Derived.Test.YtgobodhcamgidaaElem
set_option linter.unusedVariables false
set_option linter.unusedSimpArgs false
namespace Go.Bas
open Go.RowKit
/-- block g (of type T, with cap cells) begins with f 0 .. f (n-1). -/
def Row (k : IntKind) (w : World) (g cap n : Nat) (f : Nat → Int) (T : TypeId) : Prop :=
  ∃ cs, w.heap[g]? = some (.cells cs T (0, 0)) ∧ cs.size = cap ∧ n ≤ cap ∧ ∀ i, i < n → cs[i]? = some (.int k (f i))
theorem Row.lt {k : IntKind} {w : World} {g cap n : Nat} {f : Nat → Int} {T : TypeId} (h : Row k w g cap n f T) : g < w.heap.size := by
  obtain ⟨cs, h1, _⟩ := h; exact (Array.getElem?_eq_some_iff.1 h1).1
theorem Row.cell {k : IntKind} {w : World} {g cap n : Nat} {f : Nat → Int} {T : TypeId} (h : Row k w g cap n f T) (i : Nat) (hi : i < n) : w.cell? ⟨g, i, none⟩ = some (.int k (f i)) := by
  obtain ⟨cs, h1, _, _, h2⟩ := h
  rw [cell_of_row w g i cs T (0, 0) h1, h2 i hi]
theorem Row.free {k : IntKind} {w : World} {g cap n : Nat} {f : Nat → Int} {T : TypeId} (h : Row k w g cap n f T) (i : Nat) : w.frozen? ⟨g, i, none⟩ = false := by
  obtain ⟨cs, h1, _⟩ := h; exact frozen_of_row w g i cs T h1
theorem Row.drew {k : IntKind} {w : World} {g cap n : Nat} {f : Nat → Int} {T : TypeId} (h : Row k w g cap n f T) : Row k w.drew g cap n f T := h
theorem Row.drewN {k : IntKind} {w : World} {g cap n : Nat} {f : Nat → Int} {T : TypeId} (h : Row k w g cap n f T) (m : Nat) : Row k (w.drewN m) g cap n f T := h
theorem Row.congr {k : IntKind} {w : World} {g cap n : Nat} {f f' : Nat → Int} {T : TypeId} (h : Row k w g cap n f T) (e : ∀ i, i < n → f i = f' i) : Row k w g cap n f' T := by
  obtain ⟨cs, h1, h2, h3, h4⟩ := h
  exact ⟨cs, h1, h2, h3, fun i hi => by rw [h4 i hi, e i hi]⟩
theorem Row.set {k : IntKind} {w : World} {g cap n : Nat} {f : Nat → Int} {T : TypeId} (h : Row k w g cap n f T) (j : Nat) (x : Int) : Row k (w.setCell ⟨g, j, none⟩ (.int k x)) g cap n (upd f j x) T := by
  obtain ⟨cs, h1, h2, h3, h4⟩ := h
  refine ⟨cs.setIfInBounds j (.int k x), heap_setCell_same w g j _ T _ h1, by simpa using h2, h3, fun i hi => ?_⟩
  unfold upd
  by_cases e : i = j
  · subst e
    rw [if_pos rfl]
    simp [show i < cs.size by omega]
  · rw [if_neg e, Array.getElem?_setIfInBounds_ne (fun q => e q.symm)]
    exact h4 i hi
theorem Row.kept {k : IntKind} {w w' : World} {g cap n : Nat} {f : Nat → Int} {T : TypeId} (h : Row k w g cap n f T) (hb : Below w.heap.size w w') : Row k w' g cap n f T := by
  have hlt := h.lt
  obtain ⟨cs, h1, h2⟩ := h
  exact ⟨cs, by rw [hb.block g hlt]; exact h1, h2⟩
theorem Arr.rows {k : IntKind} {w : World} {g n : Nat} {f : Nat → Int} (h : Arr k w g n f) : ∃ T, Row k w g n n f T := by
  obtain ⟨T, h⟩ := h
  exact ⟨T, _, h, arr_size _ _ _, Nat.le_refl _, fun i hi => arr_get hi⟩
theorem Row.arr {k : IntKind} {w : World} {g n : Nat} {f : Nat → Int} {T : TypeId} (h : Row k w g n n f T) : Arr k w g n f := by
  obtain ⟨cs, h1, h2, _, h3⟩ := h
  refine ⟨T, ?_⟩
  rw [h1]
  congr 2
  apply Array.ext_getElem?
  intro i
  by_cases hi : i < n
  · rw [h3 i hi, arr_get hi]
  · rw [Array.getElem?_eq_none (by omega), Array.getElem?_eq_none (by rw [arr_size]; omega)]
theorem Own.rows {k : IntKind} {e : TypeId} {base : Nat} {w : World} {g n c : Nat} {f : Nat → Int} (h : Own k e base w (.slice (some ⟨g, 0, none⟩) n c) n f) : Row k w g c n f e := by
  rcases h.2 with ⟨h1, _⟩ | ⟨g', cap, cur, hv, hb', hg, hn, hc, hs, ht⟩
  · cases h1
  · simp only [Value.slice.injEq, Option.some.injEq, Addr.mk.injEq, and_true, true_and] at hv
    obtain ⟨rfl, rfl⟩ := hv
    refine ⟨cur, hg, by simpa using hs, hn, fun i hi => ?_⟩
    have := vals_get (k := k) (f := f) hi
    rw [← ht, List.getElem?_take] at this
    simpa [hi] using this
theorem Own.ofRow {k : IntKind} {e : TypeId} {base : Nat} {w w' : World} {g n c : Nat} {f f' : Nat → Int} (h : Own k e base w (.slice (some ⟨g, 0, none⟩) n c) n f) (hr : Row k w' g c n f' e) : Own k e base w' (.slice (some ⟨g, 0, none⟩) n c) n f' := by
  refine ⟨by simp, ?_⟩
  rcases h.2 with ⟨h1, _⟩ | ⟨g', cap, cur, hv, hb', hg, hn, hc, hs, ht⟩
  · cases h1
  · simp only [Value.slice.injEq, Option.some.injEq, Addr.mk.injEq, and_true, true_and] at hv
    obtain ⟨rfl, rfl⟩ := hv
    obtain ⟨cs, q1, q2, q3, q4⟩ := hr
    refine .inr ⟨g, c, cs, rfl, hb', q1, hn, hc, by simpa using q2, ?_⟩
    apply List.ext_getElem?
    intro i
    rw [List.getElem?_take]
    by_cases hi : i < n
    · rw [if_pos (by omega), vals_get hi, Array.getElem?_toList, q4 i hi]
    · rw [if_neg (by omega), List.getElem?_eq_none (by simp; omega)]
theorem Own.setRow {k : IntKind} {e : TypeId} {base : Nat} {w : World} {v : Value} {n : Nat} {f : Nat → Int} (h : Own k e base w v n f) {b : Nat} (hb : b < base) (cs : Array Value) : Own k e base (w.setRow b cs) v n f :=
  World.ownsRow.kept (row := some b) h (Gr.setRow (Gr.refl w b) cs) (by
    cases hv : v.ownBlock with
    | none => exact .inl rfl
    | some g => exact .inr (fun q => by have := (World.ownsRow.lt h g hv).1; have := Option.some.inj q; omega))
theorem Own.setCell {k : IntKind} {e : TypeId} {base : Nat} {w : World} {v : Value} {n : Nat} {f : Nat → Int} (h : Own k e base w v n f) {b : Nat} (hb : b < base) (i : Nat) (x : Value) : Own k e base (w.setCell ⟨b, i, none⟩ x) v n f :=
  World.ownsRow.kept (row := some b) h (Gr.set (Gr.refl w b) i x) (by
    cases hv : v.ownBlock with
    | none => exact .inl rfl
    | some g => exact .inr (fun q => by have := (World.ownsRow.lt h g hv).1; have := Option.some.inj q; omega))
theorem Own.gr {k : IntKind} {e : TypeId} {base : Nat} {w w' : World} {v : Value} {n : Nat} {f : Nat → Int} (h : Own k e base w v n f) {b : Nat} (hg : w.grownBy w' (some b)) (hb : b < base) : Own k e base w' v n f :=
  World.ownsRow.kept (row := some b) h hg (by
    cases hv : v.ownBlock with
    | none => exact .inl rfl
    | some g => exact .inr (fun q => by have := (World.ownsRow.lt h g hv).1; have := Option.some.inj q; omega))
theorem below_gr {B : Nat} {w0 w w' : World} {b : Nat} (h : Below B w0 w) (hg : w.grownBy w' (some b)) (hB : B ≤ b) (hs : B ≤ w.heap.size) : Below B w0 w' :=
  h.grown hg hs fun k e => by cases e; exact hB
/-- literals of integers. -/
theorem lit_rd {k : IntKind} {w : World} {T : TypeId} {cs : List Value} {n : Nat} {f : Nat → Int} (hn : cs.length = n) (hm : n ≤ 9223372036854775807) (hc : ∀ i, i < n → cs[i]? = some (.int k (f i))) :
    Rd k (w.alloc (.cells cs.toArray T)) (.slice (some ⟨w.heap.size, 0, none⟩) n n) n f :=
  (Own.new k T (base := 0) w cs.toArray n f (Nat.zero_le _) hm (by simpa using hn) (fun i hi => by simpa using hc i hi)).rd
theorem lit1_rd {k : IntKind} {w : World} {T : TypeId} {x : Int} : Rd k (w.alloc (.cells [Value.int k x].toArray T)) (.slice (some ⟨w.heap.size, 0, none⟩) 1 1) 1 (fun _ => x) :=
  lit_rd rfl (by decide) fun i hi => by obtain rfl : i = 0 := by omega
                                        rfl
theorem lit4_rd {k : IntKind} {w : World} {T : TypeId} {f : Nat → Int} : Rd k (w.alloc (.cells [Value.int k (f 0), .int k (f 1), .int k (f 2), .int k (f 3)].toArray T)) (.slice (some ⟨w.heap.size, 0, none⟩) 4 4) 4 f :=
  lit_rd rfl (by decide) fun i hi => by rcases (by omega : i = 0 ∨ i = 1 ∨ i = 2 ∨ i = 3) with rfl | rfl | rfl | rfl <;> rfl
theorem Gr.trans {w w1 w2 : World} {b : Nat} (h : w.grownBy w1 (some b)) (h' : w1.grownBy w2 (some b)) : w.grownBy w2 (some b) :=
  ⟨h'.os.trans h.os, h'.tape.trans h.tape, h'.output.trans h.output, Nat.le_trans h.size h'.size, fun j hj hne => (h'.block j (by have := h.size; omega) hne).trans (h.block j hj hne)⟩
end Go.Bas
