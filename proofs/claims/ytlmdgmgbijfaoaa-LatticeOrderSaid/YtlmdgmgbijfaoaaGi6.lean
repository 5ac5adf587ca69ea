/-
  Graphs of ints: what is reached; a path; a list turned round. Conditions: named in each theorem.
-/
import Derived.Test.YtlmdgmgbijfaoaaGi5
set_option linter.unusedVariables false
set_option linter.unusedSimpArgs false
namespace Go.Proofs.Ytlmdgmgbijfaoaa
open Go.RowKit Go.Bas Go.ChangeShapes Go.Maps
attribute [local go_sem ↓] Go.wp_at_zero Go.wp_at_succ
section
variable {B : Nat} {w w' : World} {p : Nat} {F : Nat → Prop} {E : List (Int × Int)}
set_option maxRecDepth 100000 in
theorem reachI_any (h : GEI B w p F E) (fr : List Int) (v : Value) (hv : Mat w v fr.length 1 (lv kvI fr)) (hok : ∀ x, x ∈ fr → okI x) (hfr : fr.length ≤ 1000) (hE : E.length ≤ 1000) : Calls Try.prog 38 #[.pointer (some ⟨p, 0, none⟩), v] w fun e w' => ∃ va, e = .returned va ∧ OwM 3 1 w' va (srch E fr).1.length (lv kvI (srch E fr).1) ∧ (∀ b, va.ownBlock = some b → w.heap.size ≤ b) ∧ Below w.heap.size w w' := by
  have HS := Lib.hid (searchI_any h fr v hv hok hfr hE)
  obtain ⟨a, cap, rfl, _⟩ := hv.one
  obtain ⟨SS, hSS⟩ : ∃ s, s = srch E fr := ⟨_, rfl⟩
  rw [← hSS] at HS ⊢
  clear h hv hok hfr hE hSS
  go_enter Try.func38, Try.ntmps38
  go_wp2_with fail
  refine HS.out.mono ?_
  rintro e w' ⟨va, vb, rfl, ⟨mbs, hs⟩, hb⟩
  have S1 := Lib.hid hs
  have B1 := Lib.hid hb
  obtain ⟨a1, c1, rfl, _⟩ := hs.all.slice
  clear hs hb
  go_wp2
  go_ret
  exact ⟨_, rfl, S1.out.all, S1.out.ha, B1.out⟩
/-- the first k from either side are turned round. -/
def revQ (kv : Int → Value) (L : List Int) (k : Nat) : Nat → Nat → Value := fun m _ => lv kv L (if m < k ∨ L.length - 1 - k < m then L.length - 1 - m else m) 0
set_option maxRecDepth 100000 in
set_option maxHeartbeats 800000 in
theorem reverseI_any (L : List Int) (v : Value) (w : World) (h : OwM 3 1 w v L.length (lv kvI L)) (hl : L.length ≤ 1000000) : Calls Try.prog 91 #[v] w fun e w' => e = .returned (.tuple #[]) ∧ OwM 3 1 w' v L.length (lv kvI L.reverse) ∧ Chg (fun b => v.ownBlock = some b) w w' := by
  obtain ⟨a, cap, rfl, _⟩ := h.slice
  have HH := Lib.hid h
  have HL := Lib.hid hl
  have hwr : IntKind.i64.wrap ((L.length : Int) - 1) = (L.length : Int) - 1 := wrap_i64_id (by omega) (by omega)
  clear h hl
  go_enter Try.func91, Try.ntmps91
  go_wp2
  go_loopw [2, 3] (fun i j wr => ∃ k : Nat, i = .int .i64 k ∧ j = .int .i64 ((L.length : Int) - 1 - k) ∧ 2 * k ≤ L.length ∧ OwM 3 1 wr (.slice a L.length cap) L.length (revQ kvI L k) ∧ Chg (fun b => (Value.slice a L.length cap).ownBlock = some b) w wr) (fun i _ _ => L.length - (intOf i).toNat)
  case atStart => exact ⟨0, rfl, by first | rfl | simp, by omega, HH.out.congr fun j hj i hi => by
    obtain rfl : i = 0 := by omega
    unfold revQ
    rw [if_neg (by omega)], .refl _ _⟩
  case round =>
    obtain ⟨k, rfl, rfl, hk, hO, hC⟩ := hrel
    have HO := Lib.hid hO
    have HC := Lib.hid hC
    have HK := Lib.hid hk
    clear hO hC
    by_cases hlt : (k : Int) < (L.length : Int) - 1 - k
    · obtain ⟨g, c', e0, hr, _, _, hc⟩ := HO.out.form (by omega)
      simp only [Value.slice.injEq, true_and] at e0
      obtain ⟨rfl, rfl⟩ := e0
      obtain ⟨x, hx⟩ : ∃ x, L[k]? = some x := ⟨_, List.getElem?_eq_getElem (by omega)⟩
      obtain ⟨y, hy⟩ : ∃ y, L[L.length - 1 - k]? = some y := ⟨_, List.getElem?_eq_getElem (by omega)⟩
      have z1 := hc k (by omega) 0 (by decide)
      have z2 := hc (L.length - 1 - k) (by omega) 0 (by decide)
      rw [show k * 1 + 0 = k by omega, show revQ kvI L k k 0 = kvI x by unfold revQ; rw [if_neg (by omega)]; exact lv_at hx] at z1
      rw [show (L.length - 1 - k) * 1 + 0 = L.length - 1 - k by omega, show revQ kvI L k (L.length - 1 - k) 0 = kvI y by unfold revQ; rw [if_neg (by omega)]; exact lv_at hy] at z2
      obtain ⟨m, hm⟩ : ∃ m, m = L.length - 1 - k := ⟨_, rfl⟩
      have hmi : (L.length : Int) - 1 - k = (m : Int) := by omega
      rw [← hm] at z2 hy
      rw [hmi]
      have Z1 := Lib.hid z1
      have Z2 := Lib.hid z2
      have HX := Lib.hid hx
      have HY := Lib.hid hy
      have HM := Lib.hid hm
      have h1 : (k : Int) < (L.length : Int) := by omega
      have h2 : (m : Int) < (L.length : Int) := by omega
      have H12 := Lib.hid (And.intro (show k < m by omega) (show m < L.length by omega))
      have hkm0 : k < m := by omega
      have hkm1 : (k : Int) < (m : Int) := by omega
      clear hc hr hx hy hm hmi z1 z2 hlt hk hwr
      go_upto_region 3 with (fail)
      apply region_early' (n := 28) [.e, .e, .f, .f, .e, .e, .e, .e, .e, .e, .e, .e, .e, .c, .f, .c] 0 (by kernel_rfl) (by kernel_rfl) (by kernel_rfl) rfl
      · intro w5 hB5
        have z1 := (hB5.cell (p := ⟨g, k, none⟩) (HO.out.lt g rfl)).trans Z1.out
        have z2 := (hB5.cell (p := ⟨g, m, none⟩) (HO.out.lt g rfl)).trans Z2.out
        simp only [selBy, Cl.isE, cond_true, cond_false]
        repeat still_step
        exact wpStill_nil rfl
      · intro w5
        simp only [selBy, Cl.isF, cond_true, cond_false]
        repeat still_step
        exact wpStill_nil rfl
      · simp only [selBy, Cl.isC, cond_true, cond_false]
        refine chW_zero ?_
        have O1 := (HO.out.below ((Below.refl wr.heap.size wr).drew)).set k 0 (by have := H12.out; omega) (by decide) (kvI y)
        rw [show k * 1 + 0 = k by omega] at O1
        have O2 := O1.set m 0 H12.out.2 (by decide) (kvI x)
        rw [show m * 1 + 0 = m by omega] at O2
        have F2 := Lib.hid (O2.congr (q' := revQ kvI L (k + 1)) fun j hj i hi => by
          obtain rfl : i = 0 := by omega
          have q := H12.out
          have qm := HM.out
          try dsimp only
          unfold revQ
          by_cases e1 : j = m
          · subst e1
            rw [if_pos ⟨rfl, rfl⟩, if_pos (.inr (by omega)), show L.length - 1 - j = k by omega]
            exact (lv_at HX.out).symm
          · rw [if_neg (fun h => e1 h.1)]
            by_cases e2 : j = k
            · subst e2
              rw [if_pos ⟨rfl, rfl⟩, if_pos (.inl (by omega)), ← qm]
              exact (lv_at HY.out).symm
            · rw [if_neg (fun h => e2 h.1)]
              by_cases e3 : j < k ∨ L.length - 1 - k < j
              · rw [if_pos e3, if_pos (by omega)]
              · rw [if_neg e3, if_neg (by omega)])
        have C2 := Lib.hid (HC.out.trans (((Chg.of_below ((Below.refl wr.heap.size wr).drew) (fun b => (Value.slice (some ⟨g, 0, none⟩) L.length cap).ownBlock = some b)).trans (Chg.set (fun b => (Value.slice (some ⟨g, 0, none⟩) L.length cap).ownBlock = some b) _ ⟨g, k, none⟩ (kvI y) rfl) fun _ _ h => h).trans (Chg.set (fun b => (Value.slice (some ⟨g, 0, none⟩) L.length cap).ownBlock = some b) _ ⟨g, m, none⟩ (kvI x) rfl) fun _ _ h => h) fun _ _ h => h)
        obtain ⟨g9, c9, e9, r9, _, _, k9⟩ := (HO.out.below ((Below.refl wr.heap.size wr).drew)).form (by have := H12.out; omega)
        simp only [Value.slice.injEq, Option.some.injEq, Addr.mk.injEq, and_true, true_and] at e9
        obtain ⟨rfl, rfl⟩ := e9
        have z1 : wr.drew.cell? ⟨g, k, none⟩ = some (kvI x) := Z1.out
        have f1 := r9.free k
        have z2 : (wr.setCell ⟨g, k, none⟩ (kvI y)).cell? ⟨g, m, none⟩ = some (kvI y) := by
          rw [World.cell?_setCell_other (h := addrNe (by have := H12.out; omega))]
          exact Z2.out
        have f2 : (wr.setCell ⟨g, k, none⟩ (kvI y)).frozen? ⟨g, m, none⟩ = false := (r9.setCell (p := ⟨g, k, none⟩) rfl (kvI y)).free m
        have hw1 : IntKind.i64.wrap ((k : Int) + 1) = (k : Int) + 1 := wrap_i64_id (by omega) (by have := H12.out; have := HL.out; omega)
        have hw2 : IntKind.i64.wrap ((m : Int) - 1) = (m : Int) - 1 := wrap_i64_id (by omega) (by have := H12.out; have := HL.out; omega)
        have hkm : ¬ k = m := by have := H12.out; omega
        have hkm' : ¬ m = k := by have := H12.out; omega
        clear O1 O2 r9 k9
        go_wp2
        refine onlyN ?_
        go_wp2
        go_roundw
        case rel => exact ⟨k + 1, by go_num, by have := HM.out; have := H12.out; exact congrArg (Value.int .i64) (by omega), by have := H12.out; have := HM.out; omega, F2.out, C2.out⟩
        case measure => have := H12.out; simp [intOf]; omega
    · have FO := Lib.hid (HO.out.congr (q' := lv kvI L.reverse) fun j hj i hi => by
        obtain rfl : i = 0 := by omega
        have e : L.reverse[j]? = L[L.length - 1 - j]? := List.getElem?_reverse hj
        have hk' := HK.out
        unfold revQ
        unfold lv
        rw [e]
        by_cases e3 : j < k ∨ L.length - 1 - k < j
        · rw [if_pos e3]
        · rw [if_neg e3, show L.length - 1 - j = j by omega])
      clear hwr
      go_wp2
      go_end0
      exact ⟨rfl, FO.out, HC.out⟩
end
end Go.Proofs.Ytlmdgmgbijfaoaa
