/-
  The law of graphs: the chapter's example. Conditions: named in each theorem.
-/
import Derived.Test.YtlmdgmgbijfaoaaLtA
set_option linter.unusedVariables false
set_option linter.unusedSimpArgs false
namespace Go.Bas
open Go.RowKit
/-- a list of one or more numbers, just written out. -/
theorem mat_lit {w : World} {e : TypeId} {cs : Array Value} {L : List Int} (h : cs.size = L.length) (hl : L.length ≤ 1000) (hc : ∀ (j : Nat) (x : Int), L[j]? = some x → cs[j]? = some (Value.int .i64 x)) : Mat (w.alloc (.cells cs e)) (.slice (some ⟨w.heap.size, 0, none⟩) L.length L.length) L.length 1 (lv (Value.int .i64) L) :=
  (OwM.new w e 1 (n := L.length) (by unfold maxLen; omega) (by omega) fun j hj i hi => by
    obtain rfl : i = 0 := by omega
    rw [show j * 1 + 0 = j by omega, lv_at (List.getElem?_eq_getElem hj)]
    exact hc j _ (List.getElem?_eq_getElem hj)).mat
end Go.Bas
namespace Go.Proofs.Ytlmdgmgbijfaoaa
open Go.RowKit Go.Bas Go.ChangeShapes Go.Maps
attribute [local go_sem ↓] Go.wp_at_zero Go.wp_at_succ
/-- the example's edges. -/
def exE : List (Int × Int) := [(1, 2), (1, 3), (3, 2)]
theorem exE_once : onceL exE = exE := by decide
theorem exE_way : wayTo (srch exE [1]) 2 = [1, 2] ∧ (2 : Int) ∈ (srch exE [1]).1 := by decide
theorem exE_ord : ordI exE (nodesL exE).length = some [1, 3, 2] := by decide
theorem okI_small {x : Int} (h0 : 0 ≤ x) (h1 : x ≤ 100) : okI x := ⟨by omega, by omega⟩
set_option maxRecDepth 100000 in
set_option maxHeartbeats 1600000 in
theorem awake26 (w : World) : Calls Try.prog 34 #[] w fun e w' => e = .returned (.bool true) ∧ Below w.heap.size w w' := by
  go_enter Try.func34, Try.ntmps34
  go_wp2_with (fail)
  have hm : Mat (w.alloc (.cells #[.int .i64 1, .int .i64 2, .int .i64 1, .int .i64 3, .int .i64 3, .int .i64 2] 63)) (.slice (some ⟨w.heap.size, 0, none⟩) 3 3) exE.length 2 (pv exE) := by
    refine (OwM.new w 63 2 (n := 3) (by unfold maxLen; decide) rfl fun j hj i hi => ?_).mat
    rcases (by omega : j = 0 ∨ j = 1 ∨ j = 2) with rfl | rfl | rfl <;> rcases (by omega : i = 0 ∨ i = 1) with rfl | rfl <;> rfl
  have hb0 : Below w.heap.size w (w.alloc (.cells #[.int .i64 1, .int .i64 2, .int .i64 1, .int .i64 3, .int .i64 3, .int .i64 2] 63)) := (Below.refl _ _).alloc (Nat.le_refl _) _
  have HB0 := Lib.hid hb0
  refine (graph_any exE _ _ hm (fun e he => by
    simp only [exE, List.mem_cons, List.not_mem_nil, or_false] at he
    rcases he with rfl | rfl | rfl <;> exact ⟨okI_small (by decide) (by decide), okI_small (by decide) (by decide)⟩) (by decide)).mono ?_
  rintro e w1 ⟨p, F, rfl, hg, hb1⟩
  rw [exE_once] at hg
  have HG := Lib.hid hg
  have HB1 := Lib.hid (hb0.trans (hb1.mono hb0.size))
  clear hm hb0 hg hb1
  go_wp2_with (fail)
  have hb2 : Below w1.heap.size w1 (w1.alloc (.cells #[.int .i64 1] 3)) := (Below.refl _ _).alloc (Nat.le_refl _) _
  refine (pathI_any (HG.out.below hb2) 2 [1] _ (mat_lit (e := 3) (L := [1]) rfl (by decide) (fun j x hx => by
    match j with
    | 0 => simp at hx; subst hx; rfl
    | j + 1 => simp at hx)) (fun x hx => by simp at hx; subst hx; exact okI_small (by decide) (by decide)) (by decide) (by decide)).mono ?_
  rintro e w2 ⟨va, b, rfl, hbi, hpa, hb3⟩
  obtain rfl : b = true := hbi.2 exE_way.2
  rw [exE_way.1] at hpa
  have HPA := Lib.hid hpa
  have B2 := Lib.hid (HB1.out.trans ((hb2.trans (hb3.mono hb2.size)).mono HB1.out.size))
  have G2 := Lib.hid ((HG.out.below hb2).below hb3)
  obtain ⟨aa, ca, rfl, _⟩ := hpa.slice
  clear hbi hpa hb3 hb2
  go_wp2_with (fail)
  refine (order_any G2.out (by decide)).mono ?_
  rintro e w3 ⟨vo, bo, rfl, ho, hb4⟩
  unfold OrdA at ho
  rw [exE_ord] at ho
  obtain ⟨rfl, ho⟩ := ho
  have HO := Lib.hid ho
  have P3 := Lib.hid (HPA.out.below hb4)
  have B3 := Lib.hid (B2.out.trans (hb4.mono B2.out.size))
  obtain ⟨ao, co, rfl, _⟩ := ho.slice
  clear ho hb4
  go_wp2_with (fail)
  have hb5 : Below w3.heap.size w3 (w3.alloc (.cells #[.int .i64 1, .int .i64 2] 3)) := (Below.refl _ _).alloc (Nat.le_refl _) _
  refine (ints_any [1, 2] [1, 2] _ _ _ (P3.out.below hb5).mat (mat_lit (e := 3) (L := [1, 2]) rfl (by decide) (fun j x hx => by
    match j with
    | 0 => simp at hx; subst hx; rfl
    | 1 => simp at hx; subst hx; rfl
    | j + 2 => simp at hx)) (by decide)).mono ?_
  rintro e w4 ⟨rfl, hb6⟩
  have O4 := Lib.hid ((HO.out.below hb5).below hb6)
  have B4 := Lib.hid (B3.out.trans ((hb5.trans (hb6.mono hb5.size)).mono B3.out.size))
  rw [show decide (([1, 2] : List Int) = [1, 2]) = true by decide]
  clear hb5 hb6
  go_wp2_with (fail)
  have hb7 : Below w4.heap.size w4 (w4.alloc (.cells #[.int .i64 1, .int .i64 3, .int .i64 2] 3)) := (Below.refl _ _).alloc (Nat.le_refl _) _
  refine (ints_any [1, 3, 2] [1, 3, 2] _ _ _ (O4.out.below hb7).mat (mat_lit (e := 3) (L := [1, 3, 2]) rfl (by decide) (fun j x hx => by
    match j with
    | 0 => simp at hx; subst hx; rfl
    | 1 => simp at hx; subst hx; rfl
    | 2 => simp at hx; subst hx; rfl
    | j + 3 => simp at hx)) (by decide)).mono ?_
  rintro e w5 ⟨rfl, hb8⟩
  have B5 := Lib.hid (B4.out.trans ((hb7.trans (hb8.mono hb7.size)).mono B4.out.size))
  rw [show decide (([1, 3, 2] : List Int) = [1, 3, 2]) = true by decide]
  clear hb7 hb8
  go_wp2
  go_ret
  exact ⟨rfl, B5.out⟩
end Go.Proofs.Ytlmdgmgbijfaoaa
