/-
  DiskKeeps: what was flushed is there behind any crash. Conditions: named in each theorem.
-/
import Derived.Test.YtlmdgmgbijfaoaaLwJ
import Derived.Test.YtlmdgmgbijfaoaaLwF
set_option linter.unusedVariables false
set_option linter.unusedSimpArgs false
namespace Go.Proofs.Ytlmdgmgbijfaoaa
open Go.RowKit Go.Bas Go.ChangeShapes
attribute [local go_sem ↓] Go.wp_at_zero Go.wp_at_succ
set_option maxRecDepth 100000 in
set_option maxHeartbeats 12800000 in
theorem diskKeeps_law (w : World) (v0 : Value) (m0 : Nat) (kd0 nn0 : Nat → Int) (lens0 : Nat → Nat) (g0 : Nat → Nat → Int) (hd0 : Dos w v0 m0 kd0 nn0 lens0 g0) (hb0 : DosB m0 kd0 nn0 lens0 g0)
    (v1 : Value) (m1 : Nat) (kd1 nn1 : Nat → Int) (lens1 : Nat → Nat) (g1 : Nat → Nat → Int) (hd1 : Dos w v1 m1 kd1 nn1 lens1 g1) (hb1 : DosB m1 kd1 nn1 lens1 g1)
    (v2 : Value) (l2 : Nat) (ch : Nat → Int) (hr2 : Rd .u8 w v2 l2 ch) (hb2 : ∀ i, i < l2 → (Lit.int .u8 (ch i)).wf = true) :
    Calls Try.prog 3 #[v0, v1, v2] w fun e w' => e = .returned (.bool true) ∧ Below w.heap.size w w' := by
  obtain ⟨B, hB⟩ : ∃ x, x = w.heap.size := ⟨_, rfl⟩
  have HB := Lib.hid hB
  obtain ⟨q0, hq0, hdo0⟩ := hd0
  obtain ⟨q1, hq1, hdo1⟩ := hd1
  have L0 : Hid (Lst w v0 m0 kd0 nn0 lens0 g0 q0) := ⟨hq0, hdo0, hb0⟩
  have L1 : Hid (Lst w v1 m1 kd1 nn1 lens1 g1 q1) := ⟨hq1, hdo1, hb1⟩
  obtain ⟨a0, c0, rfl, hc0⟩ := L0.out.cells hB
  obtain ⟨a1, c1, rfl, hc1⟩ := L1.out.cells hB
  have C0 := Lib.hid hc0
  have C1 := Lib.hid hc1
  have R2 := Lib.hid hr2
  have HCH : Hid (∀ i, i < l2 → 0 ≤ ch i ∧ ch i < 256) := fun i hi => wf8 (hb2 i hi)
  obtain ⟨a2, c2, rfl, _⟩ := hr2
  clear hc0 hc1 hq0 hq1 hdo0 hdo1 hb0 hb1 hb2
  rw [← hB]
  clear hB
  go_enter Try.func3, Try.ntmps3
  go_wp2_with fail
  refine (awake17 w).mono ?_
  rintro e w1 ⟨rfl, b1⟩
  have B1 : Hid (Below B w w1) := by rw [HB.out]; exact b1
  clear b1
  go_wp2_with fail
  refine (few_any _ m0 kd0 nn0 lens0 g0 w1 (L0.out.dos HB.out B1.out)).mono ?_
  rintro e w2 ⟨r0, rfl, hr0, b2⟩
  have B2 := Lib.hid (later HB.out B1.out b2)
  clear b2
  cases r0 with
  | false =>
    go_wp2
    go_ret
    exact ⟨rfl, B2.out⟩
  | true =>
  go_wp2_with fail
  refine (few_any _ m1 kd1 nn1 lens1 g1 w2 (L1.out.dos HB.out B2.out)).mono ?_
  rintro e w3 ⟨r1, rfl, hr1, b3⟩
  have B3 := Lib.hid (later HB.out B2.out b3)
  clear b3
  cases r1 with
  | false =>
    go_wp2
    go_ret
    exact ⟨rfl, B3.out⟩
  | true =>
  have hm0 : m0 ≤ 40 := (hr0 (by trivial)).1
  have hm1 : m1 ≤ 40 := (hr1 (by trivial)).1
  clear hr0 hr1
  by_cases h100 : 100 < l2
  · have h100' : (100 : Int) < l2 := by omega
    go_wp2
    go_ret
    exact ⟨rfl, B3.out⟩
  have h100' : ¬ (100 : Int) < l2 := by omega
  go_wp2_with fail
  refine (dkB_new 8 (by decide) (by decide) HB.out B3.out).mono ?_
  rintro e w5 ⟨p, rfl, h5, b5⟩
  have H5 := Lib.hid h5
  have B5 := Lib.hid b5
  clear h5 b5 B1 B2 B3 h100 h100'
  go_wp2
  go_loopw [47] (fun i wr => ∃ k : Nat, k ≤ m0 ∧ i = .int .i64 k ∧ Below B w wr ∧ ∃ d, DkB B wr p d ∧ Quiet d ∧ d.m ≤ k) (fun i _ => m0 - (intOf i).toNat)
  case atStart => exact ⟨0, Nat.zero_le _, rfl, B5.out, _, H5.out, ⟨rfl, rfl, rfl⟩, Nat.zero_le _⟩
  case round =>
    obtain ⟨k, hk, rfl, hBe, d, hT, hQ, hdm⟩ := hrel
    have HBe := Lib.hid hBe
    have HT := Lib.hid hT
    have HQ := Lib.hid hQ
    clear hBe hT hQ
    by_cases hlt : k < m0
    · obtain ⟨bb, o, rfl, hcc⟩ := C0.out k hlt
      have HCL := Lib.hid (hcc wr HBe.out)
      have HOC := Lib.hid (L0.out.one hlt)
      clear hcc
      go_upto_region 9 with (first | (refine load_row rfl rfl rfl Try.underlying31 rfl Try.sizeDo HCL.out ?_) | (refine store_rowV rfl 31 _ _ rfl wr.heap.size 3 (q0 k) _ 31 (heap_alloc_new _ _) rfl Try.sizeDo rfl rfl HOC.out ?_))
      refine wp_world (fun w5 => RowN w5 wr.heap.size 3 31 (q0 k) ∧ Below wr.heap.size wr w5) ⟨RowN.setRow (heap_alloc_new _ _), below_setRow' ((Below.refl _ _).alloc (Nat.le_refl _) _) (Nat.le_refl _) _⟩ ?_
      rintro w5 ⟨hr5, hb5⟩
      obtain ⟨z0, z1, z2⟩ := L0.out.each k hlt
      have e1 := hr5.2 1 (by decide)
      have e2 := hr5.2 2 (by decide)
      rw [z1] at e1
      have V5 := Lib.hid (z2.below (HB.out ▸ (later HB.out HBe.out hb5)))
      obtain ⟨ax, cx, ex, _⟩ := z2
      rw [ex] at e2 V5
      have B5 := Lib.hid (later HB.out HBe.out hb5)
      have T5 := Lib.hid (HT.out.below hb5)
      clear hr5 hb5 HCL z0 z1 ex
      go_wp2_with fail
      refine (dkB_write T5.out HB.out B5.out (nn0 k) _ (lens0 k) (g0 k) V5.out (by omega)).mono ?_
      rintro e w6 ⟨rfl, h6, b6, _⟩
      have H6 : Hid (∃ d, DkB B w6 p d ∧ Quiet d ∧ d.m ≤ k + 1) := by
        rcases HQ.out.write (nn0 k) (lens0 k) (g0 k) with ⟨hw, _⟩ | ⟨e, _, hw⟩
        · rw [hw] at h6
          exact ⟨_, h6, HQ.out.add _ _, by show d.m + 1 ≤ k + 1; omega⟩
        · rw [hw] at h6
          exact ⟨_, h6, HQ.out, by show d.m ≤ k + 1; omega⟩
      have B6 := Lib.hid b6
      clear h6 b6
      go_wp2
      go_roundw
      case rel => exact ⟨k + 1, by omega, by go_num, B6.out, H6.out⟩
      case measure => simp [intOf]; omega
    · obtain rfl : k = m0 := by omega
      clear H5 B5
      go_wp2_with fail
      refine (dkB_flush HT.out HB.out HBe.out).mono ?_
      rintro e w6 ⟨rfl, h6, b6, _⟩
      rw [HQ.out.flush] at h6 ⊢
      obtain ⟨D, hD⟩ : ∃ x, x = ({ d with K := d.now, m := 0 } : Dsk) := ⟨_, rfl⟩
      have QD : Hid (Quiet D) := by rw [hD]; exact HQ.out
      have MD : Hid (D.m = 0) := by rw [hD]; exact rfl
      rw [← hD] at h6
      have H6 := Lib.hid h6
      have B6 := Lib.hid b6
      clear h6 b6 HT HBe HQ hD
      go_wp2_with fail
      refine (dkB_waiting H6.out).mono ?_
      rintro e w6 ⟨rfl, rfl⟩
      rw [MD.out]
      have HBw := Lib.hid (show B ≤ w6.heap.size by have := B6.out.size; have := HB.out; omega)
      go_upto_region 14 with (fail)
      refine wp_world (fun w7 => (∃ vm em, May B w7 w6.heap.size (fun n => if n < 0 then 1 else 0) vm em (fun n _ => D.K n) (fun b => b < B) ∧ ∀ n, 0 ≤ n → n < 8 → vm n = .slice none 0 0) ∧ DkX B (fun b => b < B) w7 p D ∧ Below w6.heap.size w6 w7) ⟨⟨_, fun _ _ => undef, May.start HBw.out, fun _ _ _ => rfl⟩, H6.out.x.below ((Below.refl _ _).alloc (Nat.le_refl _) _), (Below.refl _ _).alloc (Nat.le_refl _) _⟩ ?_
      rintro w7 ⟨hM, hX7, b7⟩
      obtain ⟨a, ha⟩ : ∃ x, x = w6.heap.size := ⟨_, rfl⟩
      rw [← ha] at hM ⊢
      have M7 := Lib.hid hM
      have X7 := Lib.hid hX7
      have B7 := Lib.hid (later HB.out B6.out b7)
      have HAB := Lib.hid (show B ≤ a by rw [ha]; exact HBw.out)
      clear hM hX7 b7 ha H6 B6 HBw
      go_wp2
      go_loopw [66] (fun i wr => ∃ k : Nat, k ≤ 8 ∧ i = .int .i64 k ∧ Below B w wr ∧ ∃ X, (∀ b, b < B → X b) ∧ (∃ vm em, May B wr a (fun n => if n < k then 1 else 0) vm em (fun n _ => D.K n) X ∧ ∀ n, k ≤ n → n < 8 → vm n = .slice none 0 0) ∧ DkX B X wr p D) (fun i _ => 8 - (intOf i).toNat)
      case atStart => exact ⟨0, by decide, rfl, B7.out, _, fun b hb => hb, M7.out, X7.out⟩
      case round =>
        obtain ⟨k1, hk1, rfl, hBe, X, hXB, ⟨vm, em, hM, hvn⟩, hX⟩ := hrel
        have HBe := Lib.hid hBe
        have HM := Lib.hid hM
        have HX := Lib.hid hX
        have HXB := Lib.hid hXB
        have HVN := Lib.hid hvn
        clear hBe hM hX hXB hvn
        by_cases hlt : k1 < 8
        · go_wp2_with fail
          refine (dkX_read HX.out HM.out.lt (k1 : Int) (QD.out.may k1 hlt)).mono ?_
          rintro e w8 ⟨rfl, hr8, hX8, b8⟩
          have R8 : Hid (Rd .u8 w8 (.slice (some ⟨wr.heap.size, 0, none⟩) 64 64) 64 (D.K k1)) := by
            have e1 : D.now ((k1 : Int).toNat) = D.K k1 := by
              unfold Dsk.now
              rw [MD.out]
              rfl
            rw [← e1]
            exact hr8
          have X8 := Lib.hid hX8
          have B8 := Lib.hid (later HB.out HBe.out b8)
          have M8 : Hid (May B w8 a (fun n => if n < k1 then 1 else 0) vm em (fun n _ => D.K n) (fun b => X b ∨ b = wr.heap.size)) := by
            refine (HM.out.below b8).wider (fun b hb => .inl hb) (fun h => ?_) (fun n hn b hb h => ?_) (fun b h => ?_)
            · rcases h with h | h
              · exact HM.out.ax h
              · have := HM.out.row.lt; omega
            · rcases h with h | h
              · exact (HM.out.lhi n hn b hb).2 h
              · have := (HM.out.list n hn).lt b hb; omega
            · rcases h with h | h
              · have := HM.out.lt b h; have := b8.size; omega
              · have := Rd.lt hr8 (by decide) wr.heap.size rfl
                omega
          have HVK := Lib.hid (HVN.out k1 (Nat.le_refl _) hlt)
          have c8 := M8.out.cell k1 hlt
          rw [HVK.out] at c8
          have f8 := M8.out.row.free k1
          have hk9 : (k1 : Int) < 8 := by omega
          have hane : a ≠ w8.heap.size := by have := M8.out.row.lt; omega
          have hw8 := Lib.hid (show B ≤ w8.heap.size by have := B8.out.size; have := HB.out; omega)
          clear hr8 hX8 b8
          have PUT : ∀ v', v' = Value.slice (some ⟨w8.heap.size, 0, none⟩) 1 1 → May B ((w8.alloc (.cells #[.slice (some ⟨wr.heap.size, 0, none⟩) 64 64] 23)).setCell ⟨a, k1, none⟩ v') a (fun n => if n = k1 then 1 else if n < k1 then 1 else 0) (fun n => if n = k1 then v' else vm n) (fun n => if n = k1 then (fun _ => .slice (some ⟨wr.heap.size, 0, none⟩) 64 64) else em n) (fun n => if n = k1 then (fun _ => D.K k1) else fun _ => D.K n) (fun b => X b ∨ b = wr.heap.size) := by
            rintro v' rfl
            refine M8.out.put hw8.out k1 hlt (G := fun _ => False) (Chg.of_below ((Below.refl _ _).alloc (Nat.le_refl _) _) _) (fun _ h => h.elim) _ 1 _ _ ?_ (fun b hb => ?_) (fun j _ => ⟨R8.out, fun b hb => ?_⟩) (by decide)
            · exact OwM.new w8 23 1 (cs := #[.slice (some ⟨wr.heap.size, 0, none⟩) 64 64]) (n := 1) (by unfold maxLen; decide) rfl (fun j hj i hi => by
                obtain rfl : j = 0 := by omega
                obtain rfl : i = 0 := by omega
                rfl)
            · cases hb; exact .inr (Nat.le_refl _)
            · cases hb; exact .inr rfl
          have PUT := Lib.hid (PUT _ rfl)
          have XPUT : Hid (DkX B (fun b => X b ∨ b = wr.heap.size) ((w8.alloc (.cells #[.slice (some ⟨wr.heap.size, 0, none⟩) 64 64] 23)).setCell ⟨a, k1, none⟩ (Value.slice (some ⟨w8.heap.size, 0, none⟩) 1 1)) p D) := by
            have b9 : Below w8.heap.size w8 (w8.alloc (.cells #[.slice (some ⟨wr.heap.size, 0, none⟩) 64 64] 23)) := (Below.refl _ _).alloc (Nat.le_refl _) _
            exact (X8.out.below b9).may (M8.out.below b9) (F := fun b => b = a) (Chg.set _ _ _ _ rfl) (fun b hb => .inl ⟨8, by rw [hb]; exact (M8.out.below b9).row⟩)
          have BPUT := Lib.hid ((B8.out.alloc (hw8.out) (.cells #[.slice (some ⟨wr.heap.size, 0, none⟩) 64 64] 23)).setCell (p := ⟨a, k1, none⟩) HAB.out (Value.slice (some ⟨w8.heap.size, 0, none⟩) 1 1))
          have c9 := (M8.out.below ((Below.refl _ _).alloc (Nat.le_refl _) (.cells #[.slice (some ⟨wr.heap.size, 0, none⟩) 64 64] 23))).cell k1 hlt
          rw [HVK.out] at c9
          have f9 := (M8.out.below ((Below.refl _ _).alloc (Nat.le_refl _) (.cells #[.slice (some ⟨wr.heap.size, 0, none⟩) 64 64] 23))).row.free k1
          clear hane c8 f8
          have FIN : Hid (∃ X, (∀ b, b < B → X b) ∧ (∃ vm em, May B ((w8.alloc (.cells #[.slice (some ⟨wr.heap.size, 0, none⟩) 64 64] 23)).setCell ⟨a, k1, none⟩ (Value.slice (some ⟨w8.heap.size, 0, none⟩) 1 1)) a (fun n => if n < k1 + 1 then 1 else 0) vm em (fun n _ => D.K n) X ∧ ∀ n, k1 + 1 ≤ n → n < 8 → vm n = .slice none 0 0) ∧ DkX B X ((w8.alloc (.cells #[.slice (some ⟨wr.heap.size, 0, none⟩) 64 64] 23)).setCell ⟨a, k1, none⟩ (Value.slice (some ⟨w8.heap.size, 0, none⟩) 1 1)) p D) := by
            have e1 : (fun n => if n < k1 + 1 then 1 else 0) = fun n => if n = k1 then 1 else if n < k1 then 1 else 0 := by
              funext n
              by_cases h1 : n = k1
              · rw [if_pos h1, if_pos (by omega)]
              · rw [if_neg h1]
                by_cases h2 : n < k1
                · rw [if_pos h2, if_pos (by omega)]
                · rw [if_neg h2, if_neg (by omega)]
            have e2 : (fun n (_ : Nat) => D.K n) = fun n => if n = k1 then (fun _ => D.K k1) else fun _ => D.K n := by
              funext n
              split
              · rename_i h; rw [h]
              · rfl
            rw [e1, e2]
            have hrest : ∀ n, k1 + 1 ≤ n → n < 8 → (if n = k1 then Value.slice (some ⟨w8.heap.size, 0, none⟩) 1 1 else vm n) = .slice none 0 0 := fun n hn hn8 => by
              rw [if_neg (by omega)]
              exact HVN.out n (by omega) hn8
            exact ⟨_, fun b hb => .inl (HXB.out b hb), ⟨_, _, PUT.out, hrest⟩, XPUT.out⟩
          clear PUT XPUT
          go_wp2
          go_roundw
          case rel => exact ⟨k1 + 1, by omega, by go_num, BPUT.out, FIN.out⟩
          case measure => simp [intOf]; omega
        · obtain rfl : k1 = 8 := by omega
          have T0 : Hid (Tells D (fun n => if n < 8 then 1 else 0) (fun n _ => D.K n)) := by
            refine ⟨fun n hn => ⟨?_, rfl⟩, fun j hj => ?_⟩
            · dsimp only; rw [if_pos hn]; exact Nat.le_refl _
            · rw [MD.out] at hj; exact absurd hj (Nat.not_lt_zero _)
          have hmd := MD.out
          have LT := Lib.hid HM.out.lt
          clear HVN B7 M7 X7 hlt hk1
          go_wp2
          go_loopw [84] (fun i wr => ∃ k : Nat, k ≤ m1 ∧ i = .int .i64 k ∧ Below B w wr ∧ ∃ cnt vm em eb d, May B wr a cnt vm em eb X ∧ DkX B X wr p d ∧ Quiet d ∧ Tells d cnt eb ∧ d.m ≤ k ∧ ∀ n, cnt n ≤ k + 1) (fun i _ => m1 - (intOf i).toNat)
          case atStart => exact ⟨0, Nat.zero_le _, rfl, HBe.out, _, _, _, _, _, HM.out, HX.out, QD.out, T0.out, Nat.le_of_eq hmd, fun n => by show (if n < 8 then 1 else 0) ≤ 0 + 1; split <;> omega⟩
          case round =>
            obtain ⟨k2, hk2, rfl, hBe, cnt, vm, em, eb, d2, hM, hX, hQ, hT, hdm, hcn⟩ := hrel
            have HBe := Lib.hid hBe
            have HM := Lib.hid hM
            have HX := Lib.hid hX
            have HQ := Lib.hid hQ
            have HT := Lib.hid hT
            have HCN := Lib.hid hcn
            clear hBe hM hX hQ hT hcn
            by_cases hlt : k2 < m1
            · obtain ⟨bb, o, rfl, hcc⟩ := C1.out k2 hlt
              have HCL := Lib.hid (hcc _ HBe.out)
              have HOC := Lib.hid (L1.out.one hlt)
              clear hcc
              go_upto_region 25 with (first | (refine load_row rfl rfl rfl Try.underlying31 rfl Try.sizeDo HCL.out ?_) | (refine store_rowV rfl 31 _ _ rfl wr.heap.size 3 (q1 k2) _ 31 (heap_alloc_new _ _) rfl Try.sizeDo rfl rfl HOC.out ?_))
              refine wp_world (fun w5 => RowN w5 wr.heap.size 3 31 (q1 k2) ∧ Below wr.heap.size wr w5) ⟨RowN.setRow (heap_alloc_new _ _), below_setRow' ((Below.refl _ _).alloc (Nat.le_refl _) _) (Nat.le_refl _) _⟩ ?_
              rintro w5 ⟨hr5, hb5⟩
              obtain ⟨z0, z1, z2⟩ := L1.out.each k2 hlt
              have Z1 := Lib.hid z1
              have Z2 := Lib.hid z2
              have e1 := hr5.2 1 (by decide)
              have e2 := hr5.2 2 (by decide)
              rw [z1] at e1
              have V5 := Lib.hid (z2.below (HB.out ▸ (later HB.out HBe.out hb5)))
              obtain ⟨ax, cx, ex, _⟩ := z2
              rw [ex] at e2 V5 Z2
              have EX := Lib.hid ex
              have R5 := Lib.hid hr5
              have B5 := Lib.hid (later HB.out HBe.out hb5)
              have M5 := Lib.hid (HM.out.below hb5)
              have X5 := Lib.hid (HX.out.below hb5)
              have HB5 := Lib.hid (show B ≤ w5.heap.size by have := B5.out.size; have := HB.out; omega)
              clear hr5 hb5 HCL z0 z1 ex
              go_wp2_with fail
              refine (dkX_write X5.out M5.out.lt M5.out HB5.out (nn1 k2) _ (lens1 k2) (g1 k2) V5.out (by omega)).mono ?_
              rintro e w6 ⟨rfl, h6, m6, b6, F6, c6, f6⟩
              have M6 := Lib.hid m6
              have B6 := Lib.hid (B5.out.trans b6)
              have R6 := Lib.hid (R5.out.keep c6 (fun h => by
                rcases (f6 _ h).2 with ⟨_, h'⟩ | ⟨_, h'⟩ | ⟨_, h'⟩ <;> exact absurd (RowB.same h' R5.out.1) (by decide)))
              clear m6 b6 c6 f6 M5 X5 R5 HM HX V5
              rcases HQ.out.write (nn1 k2) (lens1 k2) (g1 k2) with ⟨hw, hn0, hn8, hl64⟩ | ⟨e, he0, hw⟩
              · rw [hw] at h6 ⊢
                have X6 := Lib.hid h6
                obtain ⟨nk, hnk⟩ := Int.eq_ofNat_of_zero_le hn0
                have hnk8 : nk < 8 := by omega
                have NK := Lib.hid hnk
                have NN8 := Lib.hid hnk8
                have L64 := Lib.hid hl64
                clear h6 hw hn0 hn8 hnk hl64 e1 e2 hnk8
                go_upto_region 26 with (fail)
                have LI := Lib.hid (M6.out.list nk NN8.out)
                obtain ⟨al, cl, evm, _⟩ := LI.out.slice
                have EVM := Lib.hid evm
                clear evm
                apply region_earlyJ' (n := 163) (fun w9 => RowN w9 wr.heap.size 3 31 (q1 k2) ∧ w9.cell? ⟨a, nk, none⟩ = some (vm nk)) [.e, .e, .e, .e, .e, .e, .e, .e, .c, .c, .e, .c] 2 (by kernel_rfl) (by kernel_rfl) (by kernel_rfl) rfl
                · exact ⟨R6.out.below ((Below.refl _ _).drew), M6.out.cell nk NN8.out⟩
                · rintro w9 ⟨hr9, hc9⟩
                  have e1 := hr9.2 1 (by decide)
                  have e2 := hr9.2 2 (by decide)
                  rw [Z1.out, NK.out] at e1
                  rw [EX.out] at e2
                  rw [EVM.out] at hc9
                  have h9 : (nk : Int) < 8 := by have := NN8.out; omega
                  simp only [selBy, Cl.isE, cond_true, cond_false]
                  repeat still_step
                  exact wpStill_nil rfl
                · intro w9
                  simp only [selBy, Cl.isF, cond_true, cond_false]
                  repeat still_step
                  exact wpStill_nil rfl
                · simp only [selBy, Cl.isC, cond_true, cond_false]
                  have hJ0 : RowN w6.drew wr.heap.size 3 31 (q1 k2) ∧ w6.drew.cell? ⟨a, nk, none⟩ = some (vm nk) := ⟨R6.out.below ((Below.refl _ _).drew), M6.out.cell nk NN8.out⟩
                  refine chJ_step hJ0 (fun K hK => ?_)
                  rw [if_pos (wanted_none rfl)]
                  have b7 : Below w6.heap.size w6 (w6.drew.alloc (.cells (rowV 1 (fun _ => .slice ax (lens1 k2) cx)) 23)) := ((Below.refl _ _).drew).alloc (Nat.le_refl _) _
                  refine wp_buildS 35 23 1 _ rfl Try.underlying35 (rowV 1 (fun _ => .slice ax (lens1 k2) cx)) (by kernel_rfl) (hK _ _ ⟨R6.out.below b7, (M6.out.below b7).cell nk NN8.out⟩ ?_)
                  clear hK K
                  obtain ⟨W7, hW7⟩ : ∃ x, x = w6.drew.alloc (.cells (rowV 1 (fun _ => Value.slice ax (lens1 k2) cx)) 23) := ⟨_, rfl⟩
                  have hrow7 : W7.cell? ⟨w6.drew.heap.size, 0, none⟩ = some (.slice ax (lens1 k2) cx) := by rw [hW7]; exact RowN.new.2 0 (by decide)
                  rw [← hW7] at b7 ⊢
                  clear hW7
                  have M7 := Lib.hid (M6.out.below b7)
                  have hlist7 := M7.out.list nk NN8.out
                  rw [EVM.out] at hlist7
                  refine chJ_step ⟨R6.out.below b7, M7.out.cell nk NN8.out⟩ (fun K hK => ?_)
                  rw [if_pos (wanted_none rfl)]
                  refine wp_append_m _ _ rfl rfl hlist7 (by decide) Try.underlying35 Try.info23 rfl w6.drew.heap.size 0 1 1 rfl (fun _ _ => .slice ax (lens1 k2) cx) (fun j' hj' i hi => ⟨?_, rfl⟩) (by have := M7.out.few nk; unfold maxLen; omega) (by have := M7.out.few nk; omega) ?_
                  · obtain rfl : j' = 0 := by omega
                    obtain rfl : i = 0 := by omega
                    exact hrow7
                  · intro v' w8 hown hgrow hpl
                    have HLI : Hid (OwM 23 1 W7 (.slice al (cnt nk) cl) (cnt nk) (fun j _ => em nk j)) := hlist7
                    have hcg : Chg (fun b => (Value.slice al (cnt nk) cl).ownBlock = some b) w6 w8 := (Chg.of_below b7 _).trans (Chg.of_grown hgrow fun b hb => hb) (fun _ _ h => h)
                    have C8 := Lib.hid hcg
                    have hna : ∀ b, (Value.slice al (cnt nk) cl).ownBlock = some b → b ≠ a := fun b hb e => HLI.out.ne M7.out.row (by decide) b hb e
                    have hrow8 : RowB w8 a 36 8 := M7.out.row.heap (hgrow.block a M7.out.row.lt fun e => hna a e.symm rfl)
                    have hcell8 : w8.cell? ⟨a, nk, none⟩ = some (vm nk) := (hgrow.cell (M7.out.cell nk NN8.out) fun e => hna a e.symm rfl)
                    have hR8 : RowN w8 wr.heap.size 3 31 (q1 k2) := (R6.out.below b7).keep (Chg.of_grown (F := fun b => (Value.slice al (cnt nk) cl).ownBlock = some b) hgrow fun b hb => hb) (fun h => by
                      exact HLI.out.ne (R6.out.below b7).1 (by decide) _ h rfl)
                    refine hK _ _ ⟨hR8, hcell8⟩ (chJ_zero ?_)
                    clear hK K hR8
                    rw [EVM.out] at hcell8
                    have f8 := hrow8.free nk
                    have hB6 : B ≤ w6.heap.size := by have := HBe.out.size; have := B6.out.size; have := HB.out; omega
                    have PUT := Lib.hid (M6.out.put hB6 nk NN8.out hcg (fun b hb => by rw [EVM.out]; exact hb) v' (cnt nk + 1) (fun j => if j = cnt nk then .slice ax (lens1 k2) cx else em nk j) (fun j => if j = cnt nk then g1 k2 else eb nk j)
                      (hown.congr fun j hj i hi => by
                        by_cases h : j = cnt nk
                        · subst h; rw [catM_at, if_pos rfl]
                        · rw [catM_lo (by omega), if_neg h])
                      (fun b hb => by
                        rw [EVM.out]
                        rcases placed_feet hpl hb with h | h
                        · exact .inl h
                        · exact .inr (by have := b7.size; omega))
                      (fun j hj => by
                        by_cases h : j = cnt nk
                        · rw [if_pos h, if_pos h]
                          have hz := Z2.out
                          rw [L64.out] at hz ⊢
                          exact ⟨hz.below (HB.out ▸ B6.out), fun b hb => HXB.out b (by have := Rd.lt hz (by decide) b hb; have := HB.out; omega)⟩
                        · rw [if_neg h, if_neg h]
                          exact M6.out.txt nk NN8.out j (by omega)) (by have := HCN.out nk; omega))
                    have XP : Hid (DkX B X (w8.setCell ⟨a, nk, none⟩ v') p (d2.add (nn1 k2).toNat (g1 k2))) := by
                      have h1 := X6.out.may M6.out hcg (fun b hb => .inr (by
                        have h2 := M6.out.list nk NN8.out
                        rw [EVM.out] at h2
                        exact OwM.row h2 hb))
                      obtain ⟨vk, vn, vw, h2, h3⟩ := h1
                      refine ⟨vk, vn, vw, h2.stay (Chg.set (fun b => b = a) _ ⟨a, nk, none⟩ _ rfl) (fun b hb e => ?_), h3⟩
                      have e' : b = a := e
                      rw [e'] at hb
                      rcases h2.feet hb with ⟨_, h'⟩ | ⟨_, h'⟩ | ⟨_, h'⟩ <;> exact absurd (RowB.same h' hrow8) (by decide)
                    have BP : Hid (Below B w (w8.setCell ⟨a, nk, none⟩ v')) := (B6.out.trans (hcg.below hB6 fun b hb => (M6.out.lhi nk NN8.out b (by rw [EVM.out]; exact hb)).1)).setCell (p := ⟨a, nk, none⟩) HAB.out v'
                    have TP : Hid (Tells (d2.add (nn1 k2).toNat (g1 k2)) (fun n => if n = nk then cnt nk + 1 else cnt n) (fun n => if n = nk then (fun j => if j = cnt nk then g1 k2 else eb nk j) else eb n)) := by
                      rw [NK.out]
                      exact HT.out.add nk NN8.out (g1 k2)
                    have CP : Hid (∀ n, (fun n => if n = nk then cnt nk + 1 else cnt n) n ≤ k2 + 1 + 1) := fun n => by
                      have h1 := HCN.out n
                      have h2 := HCN.out nk
                      show (if n = nk then cnt nk + 1 else cnt n) ≤ _
                      split <;> omega
                    obtain ⟨av, cv, rfl, _⟩ := hown.slice
                    have h9 : (nk : Int) < 8 := by have := NN8.out; omega
                    clear hlist7 hcg hna hrow8 hown hgrow hpl b7 hJ0 hrow7
                    go_wp2
                    refine onlyN ?_
                    go_wp2
                    go_roundw
                    case rel => first | exact ⟨k2 + 1, by omega, by go_num, BP.out, _, _, _, _, _, PUT.out, XP.out, HQ.out.add _ _, TP.out, by show d2.m + 1 ≤ k2 + 1; omega, CP.out⟩ | ((repeat apply Exists.intro); exact ⟨⟨k2 + 1, by omega, by go_num, BP.out, _, _, _, _, _, PUT.out, XP.out, HQ.out.add _ _, TP.out, by show d2.m + 1 ≤ k2 + 1; omega, CP.out⟩, rfl⟩)
                    case measure => simp [intOf]; omega
              · rw [hw] at h6 ⊢
                have X6 := Lib.hid h6
                have he0' : ¬ e = 0 := he0
                clear h6 hw e1 e2
                go_wp2
                go_roundw
                case rel => first | exact ⟨k2 + 1, by omega, by go_num, B6.out, _, _, _, _, _, M6.out, X6.out, HQ.out, HT.out, by show d2.m ≤ k2 + 1; omega, fun n => Nat.le_succ_of_le (HCN.out n)⟩ | ((repeat apply Exists.intro); exact ⟨⟨k2 + 1, by omega, by go_num, B6.out, _, _, _, _, _, M6.out, X6.out, HQ.out, HT.out, by show d2.m ≤ k2 + 1; omega, fun n => Nat.le_succ_of_le (HCN.out n)⟩, rfl⟩)
                case measure => simp [intOf]; omega
            · obtain rfl : k2 = m1 := by omega
              have hfar2 : Hid (0 < l2 → ∀ b, (Value.slice a2 l2 c2).ownBlock = some b → b < B) := fun h0 b hb => by
                have := Rd.lt R2.out h0 b hb
                have := HB.out
                omega
              have RD2 := Lib.hid (R2.out.below (HB.out ▸ HBe.out))
              have HBwr := Lib.hid (show B ≤ wr.heap.size by have := HBe.out.size; have := HB.out; omega)
              go_wp2_with fail
              refine (dkX_crash HX.out HM.out.lt HM.out HBwr.out _ l2 ch RD2.out HCH.out hfar2.out).mono ?_
              rintro e w7 ⟨rfl, hx7, hm7, b7⟩
              have QC : Hid (Quiet (d2.crash l2 ch)) := ⟨rfl, rfl, HQ.out.2.2⟩
              have TC : Hid (∀ n, n < 8 → (∀ i, ∃ t, t < cnt n ∧ eb n t i = (d2.crash l2 ch).now n i) ∧ (cnt n = 1 → ∀ i, eb n 0 i = (d2.crash l2 ch).now n i)) := fun n hn => HT.out.crash l2 ch n hn
              have C1' : Hid (∀ n, n < 8 → 1 ≤ cnt n) := fun n hn => (HT.out.1 n hn).1
              obtain ⟨D2, hD2⟩ : ∃ x, x = d2.crash l2 ch := ⟨_, rfl⟩
              rw [← hD2] at hx7 QC TC
              have X7 := Lib.hid hx7
              have M7 := Lib.hid hm7
              have B7 := Lib.hid (HBe.out.trans b7)
              have HCL : Hid (∀ i, i < 8 → w7.cell? ⟨a, 0 + i, none⟩ = some (vm i)) := fun i hi => by rw [Nat.zero_add]; exact hm7.cell i hi
              clear hx7 hm7 b7 hD2 HX HM HBe HBwr RD2 hfar2 HQ HT HCN
              go_wp2_with (first | (refine load_row rfl rfl rfl Try.underlying36 rfl Try.size36 HCL.out ?_) | fail)
              go_loopw [111] (fun i wr => ∃ k : Nat, k ≤ 8 ∧ i = .int .i64 k ∧ Below B w wr ∧ May B wr a cnt vm em eb X ∧ DkX B X wr p D2) (fun i _ => 8 - (intOf i).toNat)
              case atStart => exact ⟨0, by decide, rfl, B7.out, M7.out, X7.out⟩
              case round =>
                obtain ⟨k3, hk3, rfl, hBe, hM, hX⟩ := hrel
                have HBe := Lib.hid hBe
                have HM := Lib.hid hM
                have HX := Lib.hid hX
                clear hBe hM hX
                by_cases hlt : k3 < 8
                · have LI := Lib.hid (HM.out.list k3 hlt)
                  obtain ⟨al, cl, evm, _⟩ := LI.out.slice
                  have hix : ∀ w, (Instr.index 36 (.agg (rowV 8 vm)) (.int .i64 (k3 : Int))).run Try.prog w = .ok (.slice al (cnt k3) cl) w := run_index_slices Try.underlying36 Try.underlying35 (by kernel_rfl) hlt (by rw [rowV_get hlt, evm])
                  have hk9 : (k3 : Int) < 8 := by omega
                  have EVM := Lib.hid evm
                  clear evm
                  go_wp2_with fail
                  refine (dkX_read HX.out HM.out.lt (k3 : Int) (QC.out.may k3 hlt)).mono ?_
                  rintro e w8 ⟨rfl, hr8, hx8, b8⟩
                  rw [show ((k3 : Int)).toNat = k3 from rfl] at hr8
                  obtain ⟨U, hU⟩ : ∃ x, x = wr.heap.size := ⟨_, rfl⟩
                  rw [← hU] at hr8 ⊢
                  have R8 := Lib.hid hr8
                  have X8 : Hid (DkX B X w8 p D2) := hx8.less fun b hb => .inl hb
                  have M8 := Lib.hid (HM.out.below b8)
                  have B8 := Lib.hid (later HB.out HBe.out b8)
                  have hcp := C1'.out k3 hlt
                  obtain ⟨gl, cl', eg, hrow, _, _, hcells⟩ := (M8.out.list k3 hlt).form hcp
                  rw [EVM.out] at eg
                  simp only [Value.slice.injEq, true_and] at eg
                  obtain ⟨rfl, rfl⟩ := eg
                  have ET : Hid (∀ t, t < cnt k3 → ∃ at' ct, em k3 t = .slice at' 64 ct) := fun t ht => by
                    obtain ⟨a9, c9, e9, _⟩ := (M8.out.txt k3 hlt t ht).1
                    exact ⟨a9, c9, e9⟩
                  have HCE := Lib.hid hcells
                  have HCP := Lib.hid hcp
                  obtain ⟨T, hT⟩ : ∃ x, x = D2.now k3 := ⟨_, rfl⟩
                  have HTE : Hid ((∀ i, ∃ t, t < cnt k3 ∧ eb k3 t i = T i) ∧ (cnt k3 = 1 → ∀ i, eb k3 0 i = T i)) := by rw [hT]; exact TC.out k3 hlt
                  have NE := M8.out.few k3
                  rw [← hT] at R8
                  have hTX : Hid (∀ t, t < cnt k3 → Rd .u8 w8 (em k3 t) 64 (eb k3 t)) := fun t ht => (M8.out.txt k3 hlt t ht).1
                  have HL8 := Lib.hid hlt
                  clear hr8 hx8 b8 hcells hrow hT hlt hcp HX HM hU
                  have inner : ∀ (w9 : World), Below w8.heap.size w8 w9 → (Below B w w9 ∧ May B w9 a cnt vm em eb X ∧ DkX B X w9 p D2 ∧ Rd .u8 w9 (.slice (some ⟨U, 0, none⟩) 64 64) 64 T ∧ (∀ t, t < cnt k3 → Rd .u8 w9 (em k3 t) 64 (eb k3 t)) ∧ ∀ t, t < cnt k3 → w9.cell? ⟨gl, t, none⟩ = some (em k3 t)) := fun w9 b9 => by
                    refine ⟨later HB.out B8.out b9, M8.out.below b9, X8.out.below b9, R8.out.below b9, fun t ht => (hTX.out t ht).below b9, fun t ht => ?_⟩
                    have h1 := HCE.out t ht 0 (by decide)
                    rw [show t * 1 + 0 = t by omega] at h1
                    exact (b9.cell (p := ⟨gl, t, none⟩) ((M8.out.list k3 HL8.out).lt gl (by rw [EVM.out]; rfl))).trans h1
                  have IN := Lib.hid inner
                  clear inner
                  by_cases h1c : cnt k3 = 1
                  · have h1c' : ((cnt k3 : Nat) : Int) = 1 := by omega
                    obtain ⟨a9, c9, e9⟩ := ET.out 0 (by omega)
                    have z0 := (IN.out w8 (Below.refl _ _)).2.2.2.2.2 0 (by omega)
                    rw [e9] at z0
                    have RE := Lib.hid (hTX.out 0 (by omega))
                    rw [e9] at RE
                    clear e9
                    go_wp2_with fail
                    refine (same_yes _ _ 64 _ _ _ R8.out RE.out (fun i _ => (HTE.out.2 h1c i).symm)).mono ?_
                    rintro e w9 ⟨rfl, b9⟩
                    have HB9 := Lib.hid b9
                    have HC9 : Hid (1 = cnt k3) := Lib.hid h1c.symm
                    clear b9 h1c h1c'
                    go_wp2
                    go_loopw [138] (fun i wr => ∃ i0 : Nat, i0 ≤ 64 ∧ i = .int .i64 i0 ∧ Below w8.heap.size w8 wr) (fun i _ => 64 - (intOf i).toNat)
                    case atStart => exact ⟨0, by decide, rfl, HB9.out⟩
                    case round =>
                      obtain ⟨i0, hi0, rfl, hb0⟩ := hrel
                      have HB0 := Lib.hid hb0
                      clear hb0
                      by_cases hlt0 : i0 < 64
                      · have hi9 : (i0 : Int) < 64 := by omega
                        obtain ⟨a3, c3, e3, _, _, _, h3⟩ := (IN.out wr HB0.out).2.2.2.1
                        obtain ⟨b3, o3, e3', _, h3⟩ := h3 (by decide)
                        simp only [Value.slice.injEq, true_and] at e3
                        obtain ⟨rfl, rfl⟩ := e3
                        simp only [Option.some.injEq, Addr.mk.injEq, and_true] at e3'
                        obtain ⟨rfl, rfl⟩ := e3'
                        have z3 := h3 i0 hlt0
                        rw [Nat.zero_add] at z3
                        obtain ⟨TV, hTV⟩ : ∃ x, x = T i0 := ⟨_, rfl⟩
                        rw [← hTV] at z3
                        have HTV := Lib.hid hTV
                        clear h3 hTV
                        go_wp2
                        go_loopw [145, 23] (fun i fo wr => ∃ t : Nat, t ≤ 1 ∧ i = .int .i64 t ∧ (∃ f, fo = .bool f ∧ ((∃ t', t' < t ∧ eb k3 t' i0 = T i0) → f = true)) ∧ Below w8.heap.size w8 wr) (fun i _ _ => 1 - (intOf i).toNat)
                        case atStart => exact ⟨0, Nat.zero_le _, rfl, ⟨false, rfl, fun ⟨t', h, _⟩ => absurd h (Nat.not_lt_zero _)⟩, HB0.out⟩
                        case round =>
                          obtain ⟨t, ht, rfl, ⟨fo, rfl, hfo⟩, hb1⟩ := hrel
                          have HB1 := Lib.hid hb1
                          have HFO := Lib.hid hfo
                          clear hb1 hfo
                          by_cases hltt : t < 1
                          · have hltC : t < cnt k3 := by have := HC9.out; omega
                            obtain ⟨a4, c4, e4⟩ := ET.out t hltC
                            have z4 := (IN.out _ HB1.out).2.2.2.2.2 t hltC
                            rw [e4] at z4
                            have r4 := (IN.out _ HB1.out).2.2.2.2.1 t hltC
                            rw [e4] at r4
                            obtain ⟨a5, c5, e5, _, _, _, h5⟩ := r4
                            obtain ⟨b5, o5, e5', _, h6⟩ := h5 (by decide)
                            simp only [Value.slice.injEq, true_and] at e5
                            obtain ⟨rfl, rfl⟩ := e5
                            subst e5'
                            have z5 := h6 i0 hlt0
                            obtain ⟨EV, hEV⟩ : ∃ x, x = eb k3 t i0 := ⟨_, rfl⟩
                            rw [← hEV] at z5
                            have HEV := Lib.hid hEV
                            clear h5 h6 e4 hEV hltC
                            have ht9 : (t : Int) < 1 := by omega
                            have ht8 : (t : Int) < 1000000 := by omega
                            cases fo with
                            | true =>
                              go_wp2
                              go_roundw
                              case rel => first | exact ⟨t + 1, by omega, by go_num, ⟨true, rfl, fun _ => rfl⟩, HB1.out⟩ | ((repeat apply Exists.intro); exact ⟨⟨t + 1, by omega, by go_num, ⟨true, rfl, fun _ => rfl⟩, HB1.out⟩, rfl⟩)
                              case measure => simp [intOf]; omega
                            | false =>
                              by_cases heq : EV = TV
                              · have hb9 : (EV == TV) = true := by simpa using heq
                                have HH := Lib.hid heq
                                clear heq
                                go_wp2
                                go_roundw
                                case rel => first | exact ⟨t + 1, by omega, by go_num, ⟨true, by first | rfl | simp [HH.out], fun _ => rfl⟩, HB1.out⟩ | ((repeat apply Exists.intro); exact ⟨⟨t + 1, by omega, by go_num, ⟨true, by first | rfl | simp [HH.out], fun _ => rfl⟩, HB1.out⟩, rfl⟩)
                                case measure => simp [intOf]; omega
                              · have hb9 : (EV == TV) = false := by simpa using heq
                                have HH := Lib.hid heq
                                have hno : Hid (∀ t', t' < t → eb k3 t' i0 ≠ T i0) := fun t' h1 h2 => by
                                  have := HFO.out ⟨t', h1, h2⟩
                                  cases this
                                have hnn : Hid ((∃ t', t' < t + 1 ∧ eb k3 t' i0 = T i0) → false = true) := fun ⟨t', h1, h2⟩ => by
                                  exfalso
                                  by_cases he : t' = t
                                  · rw [he, ← HEV.out, ← HTV.out] at h2
                                    exact HH.out h2
                                  · exact hno.out t' (by omega) h2
                                clear heq
                                go_wp2
                                go_roundw
                                case rel => first | exact ⟨t + 1, by omega, by go_num, ⟨false, by first | rfl | simp [HH.out], hnn.out⟩, HB1.out⟩ | ((repeat apply Exists.intro); exact ⟨⟨t + 1, by omega, by go_num, ⟨false, by first | rfl | simp [HH.out], hnn.out⟩, HB1.out⟩, rfl⟩)
                                case measure => simp [intOf]; omega
                          · obtain rfl : t = 1 := by omega
                            obtain rfl : fo = true := by
                              obtain ⟨t', h1, h2⟩ := HTE.out.1 i0
                              exact HFO.out ⟨t', by have := HC9.out; omega, h2⟩
                            go_wp2
                            go_roundw
                            case rel => first | exact ⟨i0 + 1, by omega, by go_num, HB1.out⟩ | ((repeat apply Exists.intro); exact ⟨⟨i0 + 1, by omega, by go_num, HB1.out⟩, rfl⟩)
                            case measure => simp [intOf]; omega
                      · obtain rfl : i0 = 64 := by omega
                        obtain ⟨q1', q2', q3', _⟩ := IN.out _ HB0.out
                        have Q1' := Lib.hid q1'
                        have Q2' := Lib.hid q2'
                        have Q3' := Lib.hid q3'
                        clear q1' q2' q3'
                        go_wp2
                        go_roundw
                        case rel => first | exact ⟨k3 + 1, by have := HL8.out; omega, by go_num, Q1'.out, Q2'.out, Q3'.out⟩ | ((repeat apply Exists.intro); exact ⟨⟨k3 + 1, by have := HL8.out; omega, by go_num, Q1'.out, Q2'.out, Q3'.out⟩, rfl⟩)
                        case measure => have := HL8.out; simp [intOf]; omega
                  · have h1c' : ¬ ((cnt k3 : Nat) : Int) = 1 := by omega
                    have HC9 : Hid (cnt k3 = cnt k3) := rfl
                    go_wp2
                    go_loopw [138] (fun i wr => ∃ i0 : Nat, i0 ≤ 64 ∧ i = .int .i64 i0 ∧ Below w8.heap.size w8 wr) (fun i _ => 64 - (intOf i).toNat)
                    case atStart => exact ⟨0, by decide, rfl, Below.refl _ _⟩
                    case round =>
                      obtain ⟨i0, hi0, rfl, hb0⟩ := hrel
                      have HB0 := Lib.hid hb0
                      clear hb0
                      by_cases hlt0 : i0 < 64
                      · have hi9 : (i0 : Int) < 64 := by omega
                        obtain ⟨a3, c3, e3, _, _, _, h3⟩ := (IN.out wr HB0.out).2.2.2.1
                        obtain ⟨b3, o3, e3', _, h3⟩ := h3 (by decide)
                        simp only [Value.slice.injEq, true_and] at e3
                        obtain ⟨rfl, rfl⟩ := e3
                        simp only [Option.some.injEq, Addr.mk.injEq, and_true] at e3'
                        obtain ⟨rfl, rfl⟩ := e3'
                        have z3 := h3 i0 hlt0
                        rw [Nat.zero_add] at z3
                        obtain ⟨TV, hTV⟩ : ∃ x, x = T i0 := ⟨_, rfl⟩
                        rw [← hTV] at z3
                        have HTV := Lib.hid hTV
                        clear h3 hTV
                        go_wp2
                        go_loopw [145, 23] (fun i fo wr => ∃ t : Nat, t ≤ cnt k3 ∧ i = .int .i64 t ∧ (∃ f, fo = .bool f ∧ ((∃ t', t' < t ∧ eb k3 t' i0 = T i0) → f = true)) ∧ Below w8.heap.size w8 wr) (fun i _ _ => cnt k3 - (intOf i).toNat)
                        case atStart => exact ⟨0, Nat.zero_le _, rfl, ⟨false, rfl, fun ⟨t', h, _⟩ => absurd h (Nat.not_lt_zero _)⟩, HB0.out⟩
                        case round =>
                          obtain ⟨t, ht, rfl, ⟨fo, rfl, hfo⟩, hb1⟩ := hrel
                          have HB1 := Lib.hid hb1
                          have HFO := Lib.hid hfo
                          clear hb1 hfo
                          by_cases hltt : t < cnt k3
                          · have hltC : t < cnt k3 := by have := HC9.out; omega
                            obtain ⟨a4, c4, e4⟩ := ET.out t hltC
                            have z4 := (IN.out _ HB1.out).2.2.2.2.2 t hltC
                            rw [e4] at z4
                            have r4 := (IN.out _ HB1.out).2.2.2.2.1 t hltC
                            rw [e4] at r4
                            obtain ⟨a5, c5, e5, _, _, _, h5⟩ := r4
                            obtain ⟨b5, o5, e5', _, h6⟩ := h5 (by decide)
                            simp only [Value.slice.injEq, true_and] at e5
                            obtain ⟨rfl, rfl⟩ := e5
                            subst e5'
                            have z5 := h6 i0 hlt0
                            obtain ⟨EV, hEV⟩ : ∃ x, x = eb k3 t i0 := ⟨_, rfl⟩
                            rw [← hEV] at z5
                            have HEV := Lib.hid hEV
                            clear h5 h6 e4 hEV hltC
                            have ht9 : (t : Int) < (cnt k3 : Int) := by omega
                            have ht8 : (t : Int) < 1000000 := by omega
                            cases fo with
                            | true =>
                              go_wp2
                              go_roundw
                              case rel => first | exact ⟨t + 1, by omega, by go_num, ⟨true, rfl, fun _ => rfl⟩, HB1.out⟩ | ((repeat apply Exists.intro); exact ⟨⟨t + 1, by omega, by go_num, ⟨true, rfl, fun _ => rfl⟩, HB1.out⟩, rfl⟩)
                              case measure => simp [intOf]; omega
                            | false =>
                              by_cases heq : EV = TV
                              · have hb9 : (EV == TV) = true := by simpa using heq
                                have HH := Lib.hid heq
                                clear heq
                                go_wp2
                                go_roundw
                                case rel => first | exact ⟨t + 1, by omega, by go_num, ⟨true, by first | rfl | simp [HH.out], fun _ => rfl⟩, HB1.out⟩ | ((repeat apply Exists.intro); exact ⟨⟨t + 1, by omega, by go_num, ⟨true, by first | rfl | simp [HH.out], fun _ => rfl⟩, HB1.out⟩, rfl⟩)
                                case measure => simp [intOf]; omega
                              · have hb9 : (EV == TV) = false := by simpa using heq
                                have HH := Lib.hid heq
                                have hno : Hid (∀ t', t' < t → eb k3 t' i0 ≠ T i0) := fun t' h1 h2 => by
                                  have := HFO.out ⟨t', h1, h2⟩
                                  cases this
                                have hnn : Hid ((∃ t', t' < t + 1 ∧ eb k3 t' i0 = T i0) → false = true) := fun ⟨t', h1, h2⟩ => by
                                  exfalso
                                  by_cases he : t' = t
                                  · rw [he, ← HEV.out, ← HTV.out] at h2
                                    exact HH.out h2
                                  · exact hno.out t' (by omega) h2
                                clear heq
                                go_wp2
                                go_roundw
                                case rel => first | exact ⟨t + 1, by omega, by go_num, ⟨false, by first | rfl | simp [HH.out], hnn.out⟩, HB1.out⟩ | ((repeat apply Exists.intro); exact ⟨⟨t + 1, by omega, by go_num, ⟨false, by first | rfl | simp [HH.out], hnn.out⟩, HB1.out⟩, rfl⟩)
                                case measure => simp [intOf]; omega
                          · obtain rfl : t = cnt k3 := by omega
                            obtain rfl : fo = true := by
                              obtain ⟨t', h1, h2⟩ := HTE.out.1 i0
                              exact HFO.out ⟨t', by have := HC9.out; omega, h2⟩
                            go_wp2
                            go_roundw
                            case rel => first | exact ⟨i0 + 1, by omega, by go_num, HB1.out⟩ | ((repeat apply Exists.intro); exact ⟨⟨i0 + 1, by omega, by go_num, HB1.out⟩, rfl⟩)
                            case measure => simp [intOf]; omega
                      · obtain rfl : i0 = 64 := by omega
                        obtain ⟨q1', q2', q3', _⟩ := IN.out _ HB0.out
                        have Q1' := Lib.hid q1'
                        have Q2' := Lib.hid q2'
                        have Q3' := Lib.hid q3'
                        clear q1' q2' q3'
                        go_wp2
                        go_roundw
                        case rel => first | exact ⟨k3 + 1, by have := HL8.out; omega, by go_num, Q1'.out, Q2'.out, Q3'.out⟩ | ((repeat apply Exists.intro); exact ⟨⟨k3 + 1, by have := HL8.out; omega, by go_num, Q1'.out, Q2'.out, Q3'.out⟩, rfl⟩)
                        case measure => have := HL8.out; simp [intOf]; omega
                · obtain rfl : k3 = 8 := by omega
                  go_wp2
                  go_ret
                  exact ⟨rfl, HBe.out⟩
end Go.Proofs.Ytlmdgmgbijfaoaa
