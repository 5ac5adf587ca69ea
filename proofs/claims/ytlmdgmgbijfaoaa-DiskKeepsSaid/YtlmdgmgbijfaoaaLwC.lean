/-
  The law of disks: a sector of one byte; few deeds; both disks are one. Conditions: named in each theorem.
-/
import Derived.Test.YtlmdgmgbijfaoaaLwB
import Derived.Test.YtlmdgmgbijfaoaaMat
set_option linter.unusedVariables false
set_option linter.unusedSimpArgs false
namespace Go.Proofs.Ytlmdgmgbijfaoaa
open Go.RowKit Go.Bas Go.ChangeShapes
attribute [local go_sem ↓] Go.wp_at_zero Go.wp_at_succ
set_option maxRecDepth 100000 in
theorem fill_own (c : Int) (w : World) : Calls Try.prog 29 #[.int .u8 c] w fun e w' => e = .returned (.slice (some ⟨w.heap.size, 0, none⟩) 64 64) ∧ Own .u8 5 w.heap.size w' (.slice (some ⟨w.heap.size, 0, none⟩) 64 64) 64 (fun _ => c) ∧ Below w.heap.size w w' := by
  go_enter Try.func29, Try.ntmps29
  go_wp2_with (refine make_ints rfl _ _ 23 rfl w.heap.size 5 .u8 1 Try.underlying23 Try.info5 .i64 .i64 64 rfl rfl (by decide) (by decide) (Nat.le_refl _) ?_; intro w2 hown hgrow)
  have hb2 : Below w.heap.size w w2 := below_grown0 (Below.refl _ _) hgrow (Nat.le_refl _)
  obtain ⟨B, hB⟩ : ∃ x, x = w.heap.size := ⟨_, rfl⟩
  rw [← hB] at hown hb2
  have HB := Lib.hid hB
  have HO := Lib.hid hown
  have HB2 := Lib.hid hb2
  rw [← hB]
  clear hgrow hown hb2 hB
  go_wp2
  go_loopw [8] (fun i wr => ∃ k : Nat, k ≤ 64 ∧ i = .int .i64 k ∧ Own .u8 5 B wr (.slice (some ⟨B, 0, none⟩) 64 64) 64 (upto k (fun _ => c) (fun _ => 0)) ∧ Below B w wr) (fun i _ => 64 - (intOf i).toNat)
  case atStart => exact ⟨0, by decide, rfl, by rw [upto_zero]; exact HO.out, HB2.out⟩
  case round =>
    obtain ⟨k, hk, rfl, hO, hBe⟩ := hrel
    by_cases hlt : k < 64
    · obtain ⟨g, cap, eg, _, _, _, _, hcell, hfree⟩ := hO.form (by decide)
      simp only [Value.slice.injEq, Option.some.injEq, Addr.mk.injEq, and_true, true_and] at eg
      obtain ⟨rfl, rfl⟩ := eg
      have c0 := hcell k hlt
      have f0 := hfree k
      have HO1 := Lib.hid (hO.store k c)
      rw [upto_step rfl] at HO1
      have HB1 := Lib.hid (hBe.setCell (p := ⟨B, k, none⟩) (Nat.le_refl _) (.int .u8 c))
      have hk9 : (k : Int) < 64 := by omega
      clear hcell hfree hO hBe
      go_wp2
      go_roundw
      case rel => exact ⟨k + 1, by omega, by go_num, HO1.out, HB1.out⟩
      case measure => simp [intOf]; omega
    · obtain rfl : k = 64 := by omega
      have HR := Lib.hid (hO.congr fun i hi => upto_full (fun _ => c) (fun _ => 0) (Nat.le_refl 64) i hi)
      have HBe := Lib.hid hBe
      clear hO hBe
      go_wp2
      go_ret
      rw [← HB.out]
      exact ⟨rfl, HR.out, HBe.out⟩
theorem fill_any (c : Int) (w : World) : Calls Try.prog 29 #[.int .u8 c] w fun e w' => ∃ v, e = .returned v ∧ Rd .u8 w' v 64 (fun _ => c) ∧ Below w.heap.size w w' ∧ ∀ b, v.ownBlock = some b → w.heap.size ≤ b := by
  refine (fill_own c w).mono ?_
  rintro e w' ⟨rfl, h1, h2⟩
  exact ⟨_, rfl, h1.rd, h2, fun b hb => by cases hb; exact Nat.le_refl _⟩
/-- the same, of a number. -/
theorem Try.sizeDo : (Try.prog.info? 31).map (·.size) = some 3 := by kernel_rfl
theorem Mat.form {w : World} {v : Value} {m c : Nat} {q : Nat → Nat → Value} (h : Mat w v m c q) : ∃ a cap, v = .slice a m cap ∧ m ≤ cap ∧ cap ≤ 9223372036854775807 := by
  obtain ⟨a, cap, rfl, h1, h2, _⟩ := h
  exact ⟨a, cap, rfl, h1, h2⟩
/-- few deeds. -/
def FewB (m : Nat) (lens : Nat → Nat) : Prop := m ≤ 40 ∧ ∀ j, j < m → lens j ≤ 100
set_option maxRecDepth 100000 in
set_option maxHeartbeats 800000 in
theorem few_any (v : Value) (m : Nat) (kd nn : Nat → Int) (lens : Nat → Nat) (g : Nat → Nat → Int) (w : World) (h : Dos w v m kd nn lens g) : Calls Try.prog 17 #[v] w fun e w' => ∃ r, e = .returned (.bool r) ∧ (r = true → FewB m lens) ∧ Below w.heap.size w w' := by
  obtain ⟨q, hq, hd⟩ := h
  obtain ⟨a, cap, rfl, hcap, hcap2, hcell⟩ := hq
  have HD := Lib.hid hd
  have HC := Lib.hid hcell
  clear hd hcell
  go_enter Try.func17, Try.ntmps17
  go_wp2
  go_loopw [7] (fun i wr => ∃ k : Nat, k ≤ m ∧ i = .int .i64 k ∧ (∀ j, j < k → lens j ≤ 100) ∧ Below w.heap.size w wr) (fun i _ => m - (intOf i).toNat)
  case atStart => exact ⟨0, Nat.zero_le _, rfl, fun j hj => absurd hj (Nat.not_lt_zero _), Below.refl _ _⟩
  case round =>
    obtain ⟨k, hk, rfl, hle, hBe⟩ := hrel
    have HL := Lib.hid hle
    have HBe := Lib.hid hBe
    clear hle hBe
    by_cases hlt : k < m
    · obtain ⟨bb, o, rfl, hbl, hcc⟩ := HC.out (by omega)
      have HCL : Hid (∀ i, i < 3 → wr.cell? ⟨bb, o + k * 3 + i, none⟩ = some (q k i)) := fun i hi => (HBe.out.cell (p := ⟨bb, o + k * 3 + i, none⟩) hbl).trans (hcc k hlt i hi)
      obtain ⟨q0, q1, q2⟩ := HD.out k hlt
      obtain ⟨ax, cx, e2, _⟩ := q2
      have HOC : Hid (∀ i, i < 3 → (q k i).oneCell' = true) := fun i hi => by
        rcases (by omega : i = 0 ∨ i = 1 ∨ i = 2) with rfl | rfl | rfl
        · rw [q0]; rfl
        · rw [q1]; rfl
        · rw [e2]; rfl
      have HE2 := Lib.hid e2
      clear hcc q0 q1 e2
      go_upto_region 4 with (first | (refine load_row rfl rfl rfl Try.underlying31 rfl Try.sizeDo HCL.out ?_) | (refine store_rowV rfl 31 _ _ rfl wr.heap.size 3 (q k) _ 31 (heap_alloc_new _ _) rfl Try.sizeDo rfl rfl HOC.out ?_))
      refine wp_world (fun w4 => RowN w4 wr.heap.size 3 31 (q k) ∧ Below wr.heap.size wr w4) ⟨RowN.setRow (heap_alloc_new _ _), below_setRow' ((Below.refl _ _).alloc (Nat.le_refl _) _) (Nat.le_refl _) _⟩ ?_
      rintro w4 ⟨hr4, hb4⟩
      have d2 := hr4.2 2 (by decide)
      rw [HE2.out] at d2
      have HB4 := Lib.hid (HBe.out.trans (hb4.mono HBe.out.size))
      clear hr4 hb4 HCL
      by_cases hgt : lens k ≤ 100
      · have hg9 : ¬ (100 : Int) < (lens k : Int) := by omega
        go_wp2
        go_roundw
        case rel => exact ⟨k + 1, by omega, by go_num, fun j hj => by
          by_cases e : j = k
          · subst e; exact hgt
          · exact HL.out j (by omega), HB4.out⟩
        case measure => simp [intOf]; omega
      · have hg9 : (100 : Int) < (lens k : Int) := by omega
        go_wp2
        go_ret
        exact ⟨false, rfl, (fun e => by cases e), HB4.out⟩
    · obtain rfl : k = m := by omega
      go_wp2
      go_ret
      refine ⟨_, rfl, fun e => ⟨?_, HL.out⟩, HBe.out⟩
      have : (k : Int) ≤ 40 := by simpa using e
      omega
theorem may_lt {d : Dsk} {k : Nat} (hk : k < d.n) : d.may k = if d.off = true then 30 else 0 := by
  unfold Dsk.may
  split
  · rfl
  · rw [if_neg (by omega)]
set_option maxRecDepth 100000 in
set_option maxHeartbeats 1600000 in
theorem whole_any {w : World} {p q : Nat} {F : Nat → Prop} {d : Dsk} (h : Two w p q F d) : Calls Try.prog 28 #[ptrTo p, ptrTo q] w fun e w' => e = .returned (.bool true) ∧ Below w.heap.size w w' := by
  obtain ⟨vk, vn, vw, rk, rw, uk, ub, h1, h2, _⟩ := h
  have H1 := Lib.hid h1
  have H2 := Lib.hid h2
  have q0 := h2.ck
  obtain ⟨ark, crk, rfl, _⟩ := h2.kept.slice
  obtain ⟨arw, crw, rfl, _⟩ := h2.wait.slice
  clear h1 h2
  go_enter Try.func28, Try.ntmps28
  go_wp2
  go_loopw [13] (fun i wr => ∃ k : Nat, k ≤ d.n ∧ i = .int .i64 k ∧ Below w.heap.size w wr) (fun i _ => d.n - (intOf i).toNat)
  case atStart => exact ⟨0, Nat.zero_le _, rfl, Below.refl _ _⟩
  case round =>
    obtain ⟨k, hk, rfl, hBe⟩ := hrel
    have HBe := Lib.hid hBe
    by_cases hlt : k < d.n
    · have A1 := Lib.hid (H1.out.below hBe)
      have hm := may_lt hlt
      clear hBe
      go_wp2_with fail
      refine (dkRead_any A1.out k).mono ?_
      rintro e w2 ⟨u, lu, rfl, hlu, hu, hb2⟩
      have HU := Lib.hid hu
      have B2 := Lib.hid (HBe.out.trans (hb2.mono HBe.out.size))
      have r0 := (H2.out.below B2.out).co
      obtain ⟨au, cu, rfl, _⟩ := hu
      have A2 := Lib.hid (H2.out.below B2.out)
      clear hb2
      cases hoff : d.off with
      | true =>
        rw [hoff] at r0
        have hm' : d.may (k : Int) = 30 := by rw [hm, hoff]; rfl
        rw [hm'] at hlu ⊢
        obtain rfl : lu = 0 := hlu
        clear hm hm' hoff
        go_wp2
        go_roundw
        case rel => exact ⟨k + 1, by omega, by go_num, B2.out⟩
        case measure => simp [intOf]; omega
      | false =>
        rw [hoff] at r0
        have hm' : d.may (k : Int) = 0 := by rw [hm, hoff]; rfl
        rw [hm'] at hlu ⊢
        obtain rfl : lu = 64 := hlu
        clear hm hm' hoff
        go_wp2_with fail
        refine (rkAt_any A2.out k hlt).mono ?_
        rintro e w3 ⟨u', rfl, hu', rfl⟩
        have HU' := Lib.hid (Byt.rd hu')
        obtain ⟨au', cu', rfl, _⟩ := (Byt.rd hu')
        clear hu'
        go_wp2_with fail
        refine (same_yes _ _ 64 _ _ _ HU.out HU'.out (fun _ _ => rfl)).mono ?_
        rintro e w4 ⟨rfl, hb4⟩
        have B4 := Lib.hid (B2.out.trans (hb4.mono B2.out.size))
        clear hb4
        go_wp2
        go_roundw
        case rel => exact ⟨k + 1, by omega, by go_num, B4.out⟩
        case measure => simp [intOf]; omega
    · obtain rfl : k = d.n := by omega
      have A1 := Lib.hid (H1.out.below hBe)
      have A2 := H2.out.below hBe
      have r0 := A2.ck
      have r1 := A2.cw
      have r3 := A2.co
      have r4 := A2.cl
      have dn : Hid (∀ n, DkAt (wr.drewN n) p vk vn vw d) := fun n => A1.out.below (Go.Bas.below_drewN (Below.refl _ _) n)
      clear A2 hBe A1
      go_wp2
      go_quiet (first | exact Calls.quiet_of_same (dkSize_any (dn.out _)) | exact Calls.quiet_of_same (dkWaiting_any (dn.out _)) | exact Calls.quiet_of_same (dkLives_any (dn.out _)) | exact Calls.quiet_of_same (dkOff_any (dn.out _)))
      go_wp2
      go_ret
      exact ⟨by first | rfl | simp, Go.Bas.below_drewN HBe.out _⟩
end Go.Proofs.Ytlmdgmgbijfaoaa
