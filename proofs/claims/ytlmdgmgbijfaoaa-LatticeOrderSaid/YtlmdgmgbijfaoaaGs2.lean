/-
  Graphs of strings: a new one; what is new of an edge; is there an edge. Conditions: named in each theorem.
-/
import Derived.Test.YtlmdgmgbijfaoaaGs1
import Derived.Test.YtlmdgmgbijfaoaaGi2
set_option linter.unusedVariables false
set_option linter.unusedSimpArgs false
namespace Go.Proofs.Ytlmdgmgbijfaoaa
open Go.RowKit Go.Bas Go.ChangeShapes Go.Maps
attribute [local go_sem ↓] Go.wp_at_zero Go.wp_at_succ
set_option maxRecDepth 100000 in
theorem newS_any (w : World) : Calls Try.prog 48 #[] w fun e w' => ∃ p mb, e = .returned (.pointer (some ⟨p, 0, none⟩)) ∧ GS w.heap.size w' p mb (.slice none 0 0) (.slice none 0 0) (fun _ => .slice none 0 0) [] [] 0 ∧ Below w.heap.size w w' := by
  have HM := Lib.hid (Mpv.made Try.prog 9 3 w (fun i => lv kvS [] i 0) natV)
  have hmk : ∀ w, (Instr.makeMap 157 none).run Try.prog w = .ok (.map (some w.heap.size)) (w.alloc (.map #[] 0)) := fun w => rfl
  go_enter Try.func48, Try.ntmps48
  go_wp2
  go_ret
  have b1 : Below w.heap.size w (w.alloc (.map #[] 0)) := (Below.refl _ _).alloc (Nat.le_refl _) _
  refine ⟨_, w.heap.size, rfl, ?_, by first | exact b1.alloc b1.size _ | exact (b1.alloc b1.size _).drew | exact ((b1.drew).alloc b1.size _).drew | exact (b1.drew).alloc b1.size _⟩
  have hb := heap_alloc_new (w.alloc (.map #[] 0)) (.cells #[.map (some w.heap.size), .slice none 0 0, .slice none 0 0, .int .i64 0] 159)
  have hc : ∀ i, ((w.alloc (.map #[] 0)).alloc (.cells #[.map (some w.heap.size), .slice none 0 0, .slice none 0 0, .int .i64 0] 159)).cell? ⟨(w.alloc (.map #[] 0)).heap.size, i, none⟩ = (#[.map (some w.heap.size), .slice none 0 0, .slice none 0 0, .int .i64 0] : Array Value)[i]? := fun i => cell_of_row _ _ i _ _ (0, 0) hb
  have hs : w.heap.size ≤ (w.alloc (.map #[] 0)).heap.size := b1.size
  rw [World.size_alloc] at hb hc hs
  refine ⟨⟨⟨_, hb, rfl⟩, hc 0, hc 1, hc 2, hc 3⟩, (HM.out.alloc _ : NdMap Try.prog 9 3 kvS _ w.heap.size []), OwM.nil _ _ _ _, OwM.nil _ _ _ _, fun j l hj => by simp at hj, fun i j hi => absurd hi (Nat.not_lt_zero _), fun j hj => absurd hj (Nat.not_lt_zero _), fun b hb => ?_, rfl, by decide, by decide, fun l hl => by simp at hl, List.nodup_nil⟩
  rcases hb with rfl | rfl | hb | hb | ⟨j, hj, _⟩
  · exact hs
  · exact Nat.le_refl _
  · cases hb
  · cases hb
  · exact absurd hj (Nat.not_lt_zero _)
section
variable {B : Nat} {w w' : World} {p mb : Nat} {vn vo : Value} {ov : Nat → Value} {nd : List ByteArray} {os : List (List Nat)} {ed : Nat}
set_option maxRecDepth 100000 in
theorem freshS_any (h : GS B w p mb vn vo ov nd os ed) (x y : ByteArray) (hx : okS x) (hy : okS y) : Calls Try.prog 98 #[.pointer (some ⟨p, 0, none⟩), kvS x, kvS y] w fun e w' => e = .returned (.int .i64 (newG nd x y)) ∧ w' = w := by
  have c0 := h.row.c0
  have HM := Lib.hid h.map
  clear h
  obtain ⟨E, hE⟩ : ∃ E, E = newG nd x y := ⟨_, rfl⟩
  rw [← hE]
  have HE := Lib.hid hE
  clear hE
  by_cases h1 : x ∈ nd
  · have l1 := keyS.lookYes HM.out h1
    by_cases h2 : y ∈ nd
    · have l2 := keyS.lookYes HM.out h2
      have HE2 : Hid (E = 0) := by rw [HE.out, newG_00 h1 h2]; exact rfl
      clear hx hy
      go_enter Try.func98, Try.ntmps98
      go_wp2
      go_ret
      rw [HE2.out]
      exact ⟨rfl, rfl⟩
    · have l2 := keyS.lookNo HM.out hy h2
      have hxy : ¬ y = x := fun e => h2 (e ▸ h1)
      have hbq : (y.toList == x.toList) = false := (bytesNo hxy)
      have HE2 : Hid (E = 1) := by rw [HE.out, newG_01 h1 h2]; exact rfl
      clear hx hy
      go_enter Try.func98, Try.ntmps98
      go_wp2
      go_ret
      rw [HE2.out]
      exact ⟨rfl, rfl⟩
  · have l1 := keyS.lookNo HM.out hx h1
    by_cases h2 : y ∈ nd
    · have l2 := keyS.lookYes HM.out h2
      have HE2 : Hid (E = 1) := by rw [HE.out, newG_10 h1 h2]; exact rfl
      clear hx hy
      go_enter Try.func98, Try.ntmps98
      go_wp2
      go_ret
      rw [HE2.out]
      exact ⟨rfl, rfl⟩
    · have l2 := keyS.lookNo HM.out hy h2
      by_cases hxy : y = x
      · have HE2 : Hid (E = 1) := by rw [HE.out, newG_11 h1 h2 hxy]; exact rfl
        have hbq : (y.toList == x.toList) = true := (bytesYes hxy)
        clear hx hy
        go_enter Try.func98, Try.ntmps98
        go_wp2
        go_ret
        rw [HE2.out]
        exact ⟨rfl, rfl⟩
      · have hbq : (y.toList == x.toList) = false := (bytesNo hxy)
        have HE2 : Hid (E = 2) := by rw [HE.out, newG_12 h1 h2 hxy]; exact rfl
        clear hx hy
        go_enter Try.func98, Try.ntmps98
        go_wp2
        go_ret
        rw [HE2.out]
        exact ⟨rfl, rfl⟩
set_option maxRecDepth 100000 in
theorem hasS_any (h : GS B w p mb vn vo ov nd os ed) (x y : ByteArray) (hx : okS x) (hy : okS y) : Calls Try.prog 97 #[.pointer (some ⟨p, 0, none⟩), kvS x, kvS y] w fun e w' => ∃ b, e = .returned (.bool b) ∧ (b = true ↔ hasG nd os x y) ∧ w' = w := by
  have c0 := h.row.c0
  have HM := Lib.hid h.map
  have HG := Lib.hid h
  clear h
  by_cases h1 : x ∈ nd
  · have l1 := keyS.lookYes HM.out h1
    by_cases h2 : y ∈ nd
    · have l2 := keyS.lookYes HM.out h2
      have hi : plc nd x < os.length := by rw [← HG.out.same]; exact plc_lt h1
      obtain ⟨l, hl⟩ : ∃ l, os[plc nd x]? = some l := ⟨_, List.getElem?_eq_getElem hi⟩
      have HL := Lib.hid hl
      have hlist := HG.out.lists _ l hl
      have HC := Lib.hid (contains_any (toI l) (ov (plc nd x)) (plc nd y : Nat) w (by rw [← natList, toI_length]; exact hlist.mat))
      obtain ⟨go_, co, rfl, hro, hco, hco2, hcells⟩ := HG.out.out.form (by omega)
      have c2 := HG.out.row.c2
      have z0 := hcells _ hi 0 (by decide)
      rw [show plc nd x * 1 + 0 = plc nd x by omega] at z0
      obtain ⟨al, cl, el, _⟩ := hlist.slice
      rw [el] at z0 HC
      have HR : Hid (((plc nd y : Nat) : Int) ∈ toI l ↔ hasG nd os x y) := by
        rw [mem_natList]
        constructor
        · intro h; exact ⟨h1, h2, l, HL.out, h⟩
        · rintro ⟨_, _, l', h3, h4⟩
          rw [HL.out] at h3
          cases h3
          exact h4
      have hi9 : ((plc nd x : Nat) : Int) < os.length := by omega
      obtain ⟨X, hX⟩ : ∃ X, X = plc nd x := ⟨_, rfl⟩
      obtain ⟨Y, hY⟩ : ∃ Y, Y = plc nd y := ⟨_, rfl⟩
      rw [← hX] at z0 l1 hi9 hi
      rw [← hY] at l2 HC HR
      clear hx hy hlist el hl hcells hro hX hY
      go_enter Try.func97, Try.ntmps97
      go_wp2_with fail
      refine HC.out.mono ?_
      rintro e w' ⟨rfl, rfl⟩
      go_wp2
      go_ret
      exact ⟨_, rfl, by rw [decide_eq_true_iff]; exact HR.out, rfl⟩
    · have l2 := keyS.lookNo HM.out hy h2
      have HN := Lib.hid h2
      clear hx hy h2
      go_enter Try.func97, Try.ntmps97
      go_wp2
      go_ret
      exact ⟨false, rfl, ⟨(fun e => by cases e), fun h => absurd h.2.1 HN.out⟩, rfl⟩
  · have l1 := keyS.lookNo HM.out hx h1
    have HN := Lib.hid h1
    have l2 : ∃ v b, (Instr.lookup 157 (.map (some mb)) (kvS y) true).run Try.prog w = .ok (.tuple #[.int .i64 v, .bool b]) w := by
      by_cases h2 : y ∈ nd
      · exact ⟨_, _, keyS.lookYes HM.out h2⟩
      · exact ⟨_, _, keyS.lookNo HM.out hy h2⟩
    obtain ⟨v2, b2, l2⟩ := l2
    clear hx hy h1
    go_enter Try.func97, Try.ntmps97
    go_wp2
    go_ret
    exact ⟨false, rfl, ⟨(fun e => by cases e), fun h => absurd h.1 HN.out⟩, rfl⟩
end
end Go.Proofs.Ytlmdgmgbijfaoaa
