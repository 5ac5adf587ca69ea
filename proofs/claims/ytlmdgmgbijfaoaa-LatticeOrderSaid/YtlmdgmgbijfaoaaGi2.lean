/-
  Graphs of ints: a new one; what is new of an edge; is there an edge. Conditions: named in each theorem.
-/
import Derived.Test.YtlmdgmgbijfaoaaGi1
set_option linter.unusedVariables false
set_option linter.unusedSimpArgs false
namespace Go.Proofs.Ytlmdgmgbijfaoaa
open Go.RowKit Go.Bas Go.ChangeShapes Go.Maps
attribute [local go_sem ↓] Go.wp_at_zero Go.wp_at_succ
theorem fidx_ge {K : Type} [DecidableEq K] (L : List K) (x : K) : decide (0 ≤ fidx L x) = decide (x ∈ L) := by
  unfold fidx
  by_cases h : x ∈ L
  · rw [if_pos h, decide_eq_true h, decide_eq_true (by omega)]
  · rw [if_neg h, decide_eq_false h, decide_eq_false (by omega)]
set_option maxRecDepth 100000 in
theorem contains_any (L : List Int) (v : Value) (x : Int) (w : World) (h : Mat w v L.length 1 (lv kvI L)) : Calls Try.prog 116 #[v, .int .i64 x] w fun e w' => e = .returned (.bool (decide (x ∈ L))) ∧ w' = w := by
  have HI := Lib.hid (indexI_any L v x w h)
  obtain ⟨a, cap, rfl, _⟩ := h.one
  have HF := Lib.hid (fidx_ge L x)
  obtain ⟨E, hE⟩ : ∃ E, E = fidx L x := ⟨_, rfl⟩
  rw [← hE] at HI HF
  clear h hE
  go_enter Try.func116, Try.ntmps116
  go_wp2_with fail
  refine HI.out.mono ?_
  rintro e w' ⟨rfl, rfl⟩
  go_wp2
  go_ret
  rw [← HF.out]
  exact ⟨rfl, rfl⟩
def toI (l : List Nat) : List Int := l.map fun n : Nat => (n : Int)
theorem toI_length (l : List Nat) : (toI l).length = l.length := List.length_map ..
theorem natList (l : List Nat) : lv natV l = lv kvI (toI l) := by
  funext j i
  unfold lv
  unfold toI
  rw [List.getElem?_map]
  cases l[j]? <;> rfl
theorem mem_natList {l : List Nat} {n : Nat} : (n : Int) ∈ toI l ↔ n ∈ l := by
  unfold toI
  rw [List.mem_map]
  constructor
  · rintro ⟨m, hm, e⟩
    obtain rfl : m = n := by omega
    exact hm
  · intro h
    exact ⟨n, h, rfl⟩
set_option maxRecDepth 100000 in
theorem newI_any (w : World) : Calls Try.prog 88 #[] w fun e w' => ∃ p mb, e = .returned (.pointer (some ⟨p, 0, none⟩)) ∧ GI w.heap.size w' p mb (.slice none 0 0) (.slice none 0 0) (fun _ => .slice none 0 0) [] [] 0 ∧ Below w.heap.size w w' := by
  have HM := Lib.hid (Mpv.made Try.prog 3 3 w (fun i => lv kvI [] i 0) natV)
  have hmk : ∀ w, (Instr.makeMap 152 none).run Try.prog w = .ok (.map (some w.heap.size)) (w.alloc (.map #[] 0)) := fun w => rfl
  go_enter Try.func88, Try.ntmps88
  go_wp2
  go_ret
  have b1 : Below w.heap.size w (w.alloc (.map #[] 0)) := (Below.refl _ _).alloc (Nat.le_refl _) _
  refine ⟨_, w.heap.size, rfl, ?_, by first | exact b1.alloc b1.size _ | exact (b1.alloc b1.size _).drew | exact ((b1.drew).alloc b1.size _).drew | exact (b1.drew).alloc b1.size _⟩
  have hb := heap_alloc_new (w.alloc (.map #[] 0)) (.cells #[.map (some w.heap.size), .slice none 0 0, .slice none 0 0, .int .i64 0] 155)
  have hc : ∀ i, ((w.alloc (.map #[] 0)).alloc (.cells #[.map (some w.heap.size), .slice none 0 0, .slice none 0 0, .int .i64 0] 155)).cell? ⟨(w.alloc (.map #[] 0)).heap.size, i, none⟩ = (#[.map (some w.heap.size), .slice none 0 0, .slice none 0 0, .int .i64 0] : Array Value)[i]? := fun i => cell_of_row _ _ i _ _ (0, 0) hb
  have hs : w.heap.size ≤ (w.alloc (.map #[] 0)).heap.size := b1.size
  rw [World.size_alloc] at hb hc hs
  refine ⟨⟨⟨_, hb, rfl⟩, hc 0, hc 1, hc 2, hc 3⟩, (HM.out.alloc _ : NdMap Try.prog 3 3 kvI _ w.heap.size []), OwM.nil _ _ _ _, OwM.nil _ _ _ _, fun j l hj => by simp at hj, fun i j hi => absurd hi (Nat.not_lt_zero _), fun j hj => absurd hj (Nat.not_lt_zero _), fun b hb => ?_, rfl, by decide, by decide, fun l hl => by simp at hl, List.nodup_nil⟩
  rcases hb with rfl | rfl | hb | hb | ⟨j, hj, _⟩
  · exact hs
  · exact Nat.le_refl _
  · cases hb
  · cases hb
  · exact absurd hj (Nat.not_lt_zero _)
section
variable {B : Nat} {w w' : World} {p mb : Nat} {vn vo : Value} {ov : Nat → Value} {nd : List Int} {os : List (List Nat)} {ed : Nat}
set_option maxRecDepth 100000 in
theorem freshI_any (h : GI B w p mb vn vo ov nd os ed) (x y : Int) (hx : okI x) (hy : okI y) : Calls Try.prog 94 #[.pointer (some ⟨p, 0, none⟩), kvI x, kvI y] w fun e w' => e = .returned (.int .i64 (newG nd x y)) ∧ w' = w := by
  have c0 := h.row.c0
  have HM := Lib.hid h.map
  clear h
  obtain ⟨E, hE⟩ : ∃ E, E = newG nd x y := ⟨_, rfl⟩
  rw [← hE]
  have HE := Lib.hid hE
  clear hE
  by_cases h1 : x ∈ nd
  · have l1 := keyI.lookYes HM.out h1
    by_cases h2 : y ∈ nd
    · have l2 := keyI.lookYes HM.out h2
      have HE2 : Hid (E = 0) := by rw [HE.out, newG_00 h1 h2]; exact rfl
      clear hx hy
      go_enter Try.func94, Try.ntmps94
      go_wp2
      go_ret
      rw [HE2.out]
      exact ⟨rfl, rfl⟩
    · have l2 := keyI.lookNo HM.out hy h2
      have hxy : ¬ y = x := fun e => h2 (e ▸ h1)
      have hbq : (y == x) = false := (by simpa using hxy)
      have HE2 : Hid (E = 1) := by rw [HE.out, newG_01 h1 h2]; exact rfl
      clear hx hy
      go_enter Try.func94, Try.ntmps94
      go_wp2
      go_ret
      rw [HE2.out]
      exact ⟨rfl, rfl⟩
  · have l1 := keyI.lookNo HM.out hx h1
    by_cases h2 : y ∈ nd
    · have l2 := keyI.lookYes HM.out h2
      have HE2 : Hid (E = 1) := by rw [HE.out, newG_10 h1 h2]; exact rfl
      clear hx hy
      go_enter Try.func94, Try.ntmps94
      go_wp2
      go_ret
      rw [HE2.out]
      exact ⟨rfl, rfl⟩
    · have l2 := keyI.lookNo HM.out hy h2
      by_cases hxy : y = x
      · have HE2 : Hid (E = 1) := by rw [HE.out, newG_11 h1 h2 hxy]; exact rfl
        have hbq : (y == x) = true := (by simpa using hxy)
        clear hx hy
        go_enter Try.func94, Try.ntmps94
        go_wp2
        go_ret
        rw [HE2.out]
        exact ⟨rfl, rfl⟩
      · have hbq : (y == x) = false := (by simpa using hxy)
        have HE2 : Hid (E = 2) := by rw [HE.out, newG_12 h1 h2 hxy]; exact rfl
        clear hx hy
        go_enter Try.func94, Try.ntmps94
        go_wp2
        go_ret
        rw [HE2.out]
        exact ⟨rfl, rfl⟩
set_option maxRecDepth 100000 in
theorem hasI_any (h : GI B w p mb vn vo ov nd os ed) (x y : Int) (hx : okI x) (hy : okI y) : Calls Try.prog 93 #[.pointer (some ⟨p, 0, none⟩), kvI x, kvI y] w fun e w' => ∃ b, e = .returned (.bool b) ∧ (b = true ↔ hasG nd os x y) ∧ w' = w := by
  have c0 := h.row.c0
  have HM := Lib.hid h.map
  have HG := Lib.hid h
  clear h
  by_cases h1 : x ∈ nd
  · have l1 := keyI.lookYes HM.out h1
    by_cases h2 : y ∈ nd
    · have l2 := keyI.lookYes HM.out h2
      have hi : plc nd x < os.length := by rw [← HG.out.same]; exact plc_lt h1
      obtain ⟨l, hl⟩ : ∃ l, os[plc nd x]? = some l := ⟨_, List.getElem?_eq_getElem hi⟩
      have HL := Lib.hid hl
      have hlist := HG.out.lists _ l hl
      have HC := Lib.hid (contains_any (toI l) (ov (plc nd x)) (plc nd y : Nat) w (by rw [← natList, toI_length]; exact hlist.mat))
      obtain ⟨go_, co, rfl, hro, hco, hco2, hcells⟩ := HG.out.out.form (by omega)
      have c2 := HG.out.row.c2
      have z0 := hcells _ hi 0 (by decide)
      rw [show plc nd x * 1 + 0 = plc nd x by omega] at z0
      obtain ⟨al, cl, el, _⟩ := hlist.slice
      rw [el] at z0 HC
      have HR : Hid (((plc nd y : Nat) : Int) ∈ toI l ↔ hasG nd os x y) := by
        rw [mem_natList]
        constructor
        · intro h; exact ⟨h1, h2, l, HL.out, h⟩
        · rintro ⟨_, _, l', h3, h4⟩
          rw [HL.out] at h3
          cases h3
          exact h4
      have hi9 : ((plc nd x : Nat) : Int) < os.length := by omega
      obtain ⟨X, hX⟩ : ∃ X, X = plc nd x := ⟨_, rfl⟩
      obtain ⟨Y, hY⟩ : ∃ Y, Y = plc nd y := ⟨_, rfl⟩
      rw [← hX] at z0 l1 hi9 hi
      rw [← hY] at l2 HC HR
      clear hx hy hlist el hl hcells hro hX hY
      go_enter Try.func93, Try.ntmps93
      go_wp2_with fail
      refine HC.out.mono ?_
      rintro e w' ⟨rfl, rfl⟩
      go_wp2
      go_ret
      exact ⟨_, rfl, by rw [decide_eq_true_iff]; exact HR.out, rfl⟩
    · have l2 := keyI.lookNo HM.out hy h2
      have HN := Lib.hid h2
      clear hx hy h2
      go_enter Try.func93, Try.ntmps93
      go_wp2
      go_ret
      exact ⟨false, rfl, ⟨(fun e => by cases e), fun h => absurd h.2.1 HN.out⟩, rfl⟩
  · have l1 := keyI.lookNo HM.out hx h1
    have HN := Lib.hid h1
    have l2 : ∃ v b, (Instr.lookup 152 (.map (some mb)) (kvI y) true).run Try.prog w = .ok (.tuple #[.int .i64 v, .bool b]) w := by
      by_cases h2 : y ∈ nd
      · exact ⟨_, _, keyI.lookYes HM.out h2⟩
      · exact ⟨_, _, keyI.lookNo HM.out hy h2⟩
    obtain ⟨v2, b2, l2⟩ := l2
    clear hx hy h1
    go_enter Try.func93, Try.ntmps93
    go_wp2
    go_ret
    exact ⟨false, rfl, ⟨(fun e => by cases e), fun h => absurd h.1 HN.out⟩, rfl⟩
end
end Go.Proofs.Ytlmdgmgbijfaoaa
