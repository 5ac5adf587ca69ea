/-
  DiskDoes: whatever is done to a disk, each answer and all sectors are the document's. Conditions: named in each theorem.
-/
import Derived.Test.YtlmdgmgbijfaoaaLwD
set_option linter.unusedVariables false
set_option linter.unusedSimpArgs false
namespace Go.Proofs.Ytlmdgmgbijfaoaa
open Go.RowKit Go.Bas Go.ChangeShapes
attribute [local go_sem ↓] Go.wp_at_zero Go.wp_at_succ
theorem later {B : Nat} {w w1 w2 : World} (hB : B = w.heap.size) (h : Below B w w1) (h2 : Below w1.heap.size w1 w2) : Below B w w2 := h.trans (h2.mono (hB ▸ h.size))
theorem one_row {w : World} {p q : Nat} {d : Dsk} {F : Nat → Prop} (h : Two w p q F d) (z : Nat → Value) (k n : Int) (l : Nat) (f : Nat → Int) (z0 : z 0 = .int .i64 k) (z1 : z 1 = .int .i64 n) (hv : Rd .u8 w (z 2) l f) (hfar : 0 < l → ∀ b, (z 2).ownBlock = some b → ¬ F b) (hch : ∀ i, i < l → 0 ≤ f i ∧ f i < 256) (hn0 : -9223372036854775808 ≤ n) (hn1 : n ≤ 9223372036854775807) (hm : d.m < 1000000) : Calls Try.prog 27 #[ptrTo p, ptrTo q, .agg (rowV 3 z)] w fun e w' => e = .returned (.bool true) ∧ After w w' p q F (d.does k n l f) := by
  have e : rowV 3 z = #[.int .i64 k, .int .i64 n, z 2] := by
    rw [← z0, ← z1]; rfl
  rw [e]
  exact one_any h k n _ l f hv hfar hch hn0 hn1 hm
theorem Rd.lt {k : IntKind} {w : World} {v : Value} {n : Nat} {f : Nat → Int} (h : Rd k w v n f) (hn : 0 < n) : ∀ b, v.ownBlock = some b → b < w.heap.size := by
  obtain ⟨a, c, rfl, _, _, _, h4⟩ := h
  obtain ⟨b, o, rfl, hlt, _⟩ := h4 hn
  intro b' hb
  cases hb
  exact hlt
/-- both disks, and all that they write in lies behind B. -/
def TwoB (B : Nat) (w : World) (p q : Nat) (d : Dsk) : Prop := ∃ F, Two w p q F d ∧ ∀ b, F b → B ≤ b
/-- one deed of a list. -/
theorem one_dos {B : Nat} {w0 w : World} {p q : Nat} {d : Dsk} (hB : B = w0.heap.size) (h : TwoB B w p q d) (hbel : Below B w0 w) {m : Nat} {kd nn : Nat → Int} {lens : Nat → Nat} {g : Nat → Nat → Int} {z : Nat → Nat → Value} (hd : ∀ j, j < m → z j 0 = .int .i64 (kd j) ∧ z j 1 = .int .i64 (nn j) ∧ Rd .u8 w0 (z j 2) (lens j) (g j)) (hb : DosB m kd nn lens g) (j : Nat) (hj : j < m) (hm : d.m < 1000000) :
    Calls Try.prog 27 #[ptrTo p, ptrTo q, .agg (rowV 3 (z j))] w fun e w' => e = .returned (.bool true) ∧ TwoB B w' p q (d.does (kd j) (nn j) (lens j) (g j)) ∧ Below B w0 w' := by
  obtain ⟨F, hF, hFB⟩ := h
  obtain ⟨z0, z1, z2⟩ := hd j hj
  obtain ⟨_, b1, b2⟩ := hb j hj
  have hs := hbel.size
  refine (one_row hF (z j) _ (nn j) (lens j) (g j) z0 z1 (z2.below (hB ▸ hbel)) (fun h0 b hbk hFb => ?_) (fun i hi => wf8 (b2 i hi)) (wf64 b1).1 (wf64 b1).2 hm).mono ?_
  · have h1 := Rd.lt z2 h0 b hbk
    have h2 := hFB b hFb
    omega
  · rintro e w' ⟨rfl, F', h1, h2, h3⟩
    refine ⟨rfl, ⟨F', h1, fun b hb => ?_⟩, hbel.trans (h2.below (by omega) hFB)⟩
    rcases h3 b hb with h | h
    · exact hFB b h
    · omega
set_option maxRecDepth 100000 in
set_option maxHeartbeats 3200000 in
theorem diskDoes_law (w : World) (a : Int) (_ : (Lit.int .i64 a).wf = true) (v : Value) (m : Nat) (kd nn : Nat → Int) (lens : Nat → Nat) (g : Nat → Nat → Int) (hd : Dos w v m kd nn lens g) (hb : DosB m kd nn lens g) :
    Calls Try.prog 4 #[.int .i64 a, v] w fun e w' => e = .returned (.bool true) ∧ Below w.heap.size w w' := by
  obtain ⟨q, hq, hdo⟩ := hd
  have HQ := Lib.hid hq
  obtain ⟨av, cv, rfl, hcv, hcv2, hcell⟩ := hq
  have HDO := Lib.hid hdo
  have HC := Lib.hid hcell
  have HBO := Lib.hid hb
  clear hcell hdo hb
  obtain ⟨B, hB⟩ : ∃ x, x = w.heap.size := ⟨_, rfl⟩
  have HB := Lib.hid hB
  rw [← hB]
  clear hB
  go_enter Try.func4, Try.ntmps4
  go_wp2_with fail
  refine (awake17 w).mono ?_
  rintro e w1 ⟨rfl, b1⟩
  have B1 : Hid (Below B w w1) := by rw [HB.out]; exact b1
  clear b1
  by_cases hbad : a < 1 ∨ 16384 < a
  · go_wp2_with fail
    refine (dkNew_no a hbad w1).mono ?_
    rintro e w2 ⟨rfl, rfl⟩
    by_cases h1 : a < 1
    · clear hbad
      go_wp2
      go_ret
      exact ⟨rfl, B1.out⟩
    · have h2 : 16384 < a := by omega
      clear hbad
      go_wp2
      go_ret
      exact ⟨rfl, B1.out⟩
  · obtain ⟨n, rfl⟩ := Int.eq_ofNat_of_zero_le (show 0 ≤ a by omega)
    have h1 : 1 ≤ n := by omega
    have h2 : n ≤ 16384 := by omega
    have n1 : ¬ (n : Int) < 1 := by omega
    have n2 : ¬ (16384 : Int) < n := by omega
    clear hbad
    go_wp2_with fail
    refine (dkNew_yes n h1 h2 w1).mono ?_
    rintro e w2 ⟨p, rfl, vk, vn, hd2, b2, hp, hvk, hvn⟩
    have HD2 := Lib.hid hd2
    have HP := Lib.hid hp
    have HVK := Lib.hid hvk
    have HVN := Lib.hid hvn
    have B2 := Lib.hid (later HB.out B1.out b2)
    clear hd2 b2 hp hvk hvn
    go_wp2_with fail
    refine (dkSize_any HD2.out).mono ?_
    rintro e w2 ⟨rfl, rfl⟩
    rw [show ((dskNew n).n : Int) = n from rfl]
    by_cases h40 : 40 < n
    · have h40' : (40 : Int) < n := by omega
      go_wp2
      go_ret
      exact ⟨rfl, B2.out⟩
    · have h40' : ¬ (40 : Int) < n := by omega
      go_wp2_with fail
      refine (few_any _ m kd nn lens g w2 ⟨q, HQ.out.below (HB.out ▸ B2.out), fun j hj => ⟨(HDO.out j hj).1, (HDO.out j hj).2.1, (HDO.out j hj).2.2.below (HB.out ▸ B2.out)⟩⟩).mono ?_
      rintro e w3 ⟨r, rfl, hr, b3⟩
      have B3 := Lib.hid (later HB.out B2.out b3)
      have HD3 := Lib.hid (HD2.out.below b3)
      clear b3
      cases r with
      | false =>
        go_wp2
        go_ret
        exact ⟨rfl, B3.out⟩
      | true =>
        have hm40 : m ≤ 40 := (hr rfl).1
        clear hr
        go_wp2_with fail
        refine (rkNew_any n h2 w3).mono ?_
        rintro e w4 ⟨q4, rfl, rk, uk, ub, hr4, b4, hq4, hrk⟩
        have B4 := Lib.hid (later HB.out B3.out b4)
        have HT : Hid (TwoB B w4 p q4 (dskNew n)) := by
          refine ⟨_, ⟨vk, vn, _, rk, _, uk, ub, HD3.out.below b4, hr4, fun b => Iff.rfl⟩, fun b hb => ?_⟩
          have s1 := B1.out.size
          have s3 := B3.out.size
          have sB := HB.out
          rcases hb with (rfl | hb | hb | hb) | (rfl | hb | hb)
          · have := HP.out; omega
          · have := HVK.out b hb; omega
          · have := HVN.out b hb; omega
          · cases hb
          · omega
          · have := hrk b hb; omega
          · cases hb
        clear hr4 b4 hq4 hrk
        go_wp2
        go_loopw [48] (fun i wr => ∃ k : Nat, k ≤ m ∧ i = .int .i64 k ∧ Below B w wr ∧ ∃ d, TwoB B wr p q4 d ∧ d.m ≤ k) (fun i _ => m - (intOf i).toNat)
        case atStart => exact ⟨0, Nat.zero_le _, rfl, B4.out, _, HT.out, Nat.zero_le _⟩
        case round =>
          obtain ⟨k, hk, rfl, hBe, d, hT, hdm⟩ := hrel
          have HBe := Lib.hid hBe
          have HTW := Lib.hid hT
          clear hBe hT
          by_cases hlt : k < m
          · obtain ⟨bb, o, rfl, hbl, hcc⟩ := HC.out (by omega)
            have HCL : Hid (∀ i, i < 3 → wr.cell? ⟨bb, o + k * 3 + i, none⟩ = some (q k i)) := fun i hi => (HBe.out.cell (p := ⟨bb, o + k * 3 + i, none⟩) (HB.out ▸ hbl)).trans (hcc k hlt i hi)
            have HOC : Hid (∀ i, i < 3 → (q k i).oneCell' = true) := fun i hi => by
              obtain ⟨q0, q1, ax, cx, e2, _⟩ := HDO.out k hlt
              rcases (by omega : i = 0 ∨ i = 1 ∨ i = 2) with rfl | rfl | rfl
              · rw [q0]; rfl
              · rw [q1]; rfl
              · rw [e2]; rfl
            clear hcc
            go_upto_region 14 with (first | (refine load_row rfl rfl rfl Try.underlying31 rfl Try.sizeDo HCL.out ?_) | (refine store_rowV rfl 31 _ _ rfl wr.heap.size 3 (q k) _ 31 (heap_alloc_new _ _) rfl Try.sizeDo rfl rfl HOC.out ?_))
            refine wp_world (fun w5 => RowN w5 wr.heap.size 3 31 (q k) ∧ Below wr.heap.size wr w5) ⟨RowN.setRow (heap_alloc_new _ _), below_setRow' ((Below.refl _ _).alloc (Nat.le_refl _) _) (Nat.le_refl _) _⟩ ?_
            rintro w5 ⟨hr5, hb5⟩
            have HR5 : Hid (∀ i, i < 3 → w5.cell? ⟨wr.heap.size, 0 + i, none⟩ = some (q k i)) := fun i hi => by rw [Nat.zero_add]; exact hr5.2 i hi
            have B5 := Lib.hid (later HB.out HBe.out hb5)
            have T5 : Hid (TwoB B w5 p q4 d) := by
              obtain ⟨F, h1, h2⟩ := HTW.out
              exact ⟨F, h1.below hb5, h2⟩
            clear hr5 hb5 HCL
            go_wp2_with (first | (refine load_row rfl rfl rfl Try.underlying31 rfl Try.sizeDo HR5.out ?_) | fail)
            refine (one_dos HB.out T5.out B5.out HDO.out HBO.out k hlt (by omega)).mono ?_
            rintro e w6 ⟨rfl, h6, b6⟩
            have T6 := Lib.hid h6
            have B6 := Lib.hid b6
            clear h6 b6
            go_wp2
            go_roundw
            case rel => exact ⟨k + 1, by omega, by go_num, B6.out, _, T6.out, Nat.le_trans (Dsk.does_n _ _ _ _).2 (by omega)⟩
            case measure => simp [intOf]; omega
          · obtain rfl : k = m := by omega
            obtain ⟨F, hF, _⟩ := HTW.out
            have HF := Lib.hid hF
            clear hF
            go_wp2_with fail
            refine (whole_any HF.out).mono ?_
            rintro e w6 ⟨rfl, b6⟩
            have B6 := Lib.hid (later HB.out HBe.out b6)
            clear b6
            go_wp2
            go_ret
            exact ⟨rfl, B6.out⟩
end Go.Proofs.Ytlmdgmgbijfaoaa
