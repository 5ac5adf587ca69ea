/-
  The law of disks: the chapter's example; any deeds. Conditions: named in each theorem.
-/
import Derived.Test.YtlmdgmgbijfaoaaLwC
set_option linter.unusedVariables false
set_option linter.unusedSimpArgs false
namespace Go.Bas
open Go.RowKit
theorem wf64 {x : Int} (h : (Lit.int .i64 x).wf = true) : -9223372036854775808 ≤ x ∧ x ≤ 9223372036854775807 := by have := bounds_i64 h; omega
theorem wf8 {x : Int} (h : (Lit.int .u8 x).wf = true) : 0 ≤ x ∧ x < 256 := by have := bounds_u8 h; omega
end Go.Bas
namespace Go.Proofs.Ytlmdgmgbijfaoaa
open Go.RowKit Go.Bas Go.ChangeShapes
attribute [local go_sem ↓] Go.wp_at_zero Go.wp_at_succ
theorem awakeA (i : Nat) : (dskNew 2).may 1 = 0 ∧ (dskNew 2).write 1 64 (fun _ => 7) = ((dskNew 2).add 1 fun _ => 7, 0) := by
  constructor
  · rfl
  · rw [Dsk.write_yes rfl]; rfl
set_option maxRecDepth 100000 in
set_option maxHeartbeats 1600000 in
theorem awake17 (w : World) : Calls Try.prog 16 #[] w fun e w' => e = .returned (.bool true) ∧ Below w.heap.size w w' := by
  go_enter Try.func16, Try.ntmps16
  go_wp2_with fail
  refine (dkNew_yes 2 (by decide) (by decide) w).mono ?_
  rintro e w1 ⟨p, rfl, vk, vn, h1, b1, hp, hvk, hvn⟩
  have H1 := Lib.hid h1
  have B1 := Lib.hid b1
  have HP := Lib.hid hp
  have HVK := Lib.hid hvk
  have HVN := Lib.hid hvn
  clear h1 b1 hp hvk hvn
  go_wp2_with fail
  refine (dkSize_any H1.out).mono ?_
  rintro e w1 ⟨rfl, rfl⟩
  go_wp2_with fail
  refine (fill_any 7 w1).mono ?_
  rintro e w2 ⟨v, rfl, hv, b2, _⟩
  have V2 := Lib.hid hv
  have B2 := Lib.hid (B1.out.trans (b2.mono B1.out.size))
  have H2 := Lib.hid (H1.out.below b2)
  obtain ⟨av, cv, rfl, _⟩ := hv
  clear b2
  go_wp2_with fail
  refine (dkWrite_yes H2.out 1 _ _ V2.out rfl (by decide)).mono ?_
  rintro e w3 ⟨rfl, vw, h3, c3, p3⟩
  have H3 : Hid (DkAt w3 p vk vn vw ((dskNew 2).add 1 fun _ => 7)) := h3
  have B3 : Hid (Below w.heap.size w w3) := B2.out.trans (c3.below B2.out.size (fun b hb => by
    rcases hb with rfl | hb | hb
    · exact HP.out
    · exact HVN.out b hb
    · cases hb))
  have PW : Hid (∀ b, vw.ownBlock = some b → w.heap.size ≤ b) := fun b hb => by
    rcases placed_feet p3 hb with h | h
    · cases h
    · have := B2.out.size; omega
  clear h3 c3 p3
  go_wp2_with fail
  refine (dkRead_yes H3.out 1 rfl).mono ?_
  rintro e w4 ⟨u, rfl, hu, b4⟩
  have U4 : Hid (Rd .u8 w4 u 64 fun _ => 7) := hu
  have B4 := Lib.hid (B3.out.trans (b4.mono B3.out.size))
  have H4 := Lib.hid (H3.out.below b4)
  obtain ⟨au, cu, rfl, _⟩ := hu
  clear b4
  go_wp2_with fail
  refine (fill_any 7 w4).mono ?_
  rintro e w5 ⟨v5, rfl, hv, b5, _⟩
  have V5 := Lib.hid hv
  have U5 := Lib.hid (U4.out.below b5)
  have B5 := Lib.hid (B4.out.trans (b5.mono B4.out.size))
  have H5 := Lib.hid (H4.out.below b5)
  obtain ⟨av5, cv5, rfl, _⟩ := hv
  clear b5
  go_wp2_with fail
  refine (same_yes _ _ 64 _ _ _ U5.out V5.out (fun _ _ => rfl)).mono ?_
  rintro e w6 ⟨rfl, b6⟩
  have B6 := Lib.hid (B5.out.trans (b6.mono B5.out.size))
  have H6 := Lib.hid (H5.out.below b6)
  clear b6
  go_wp2_with fail
  refine (dkCrash_any H6.out _ 0 (fun _ => 0) (Rd.nil _ _ _) (fun _ h => absurd h (Nat.not_lt_zero _)) (fun h => absurd h (Nat.not_lt_zero _))).mono ?_
  rintro e w7 ⟨rfl, vn', h7, c7, p7⟩
  have H7 := Lib.hid h7
  have B7 : Hid (Below w.heap.size w w7) := B6.out.trans (c7.below B6.out.size (fun b hb => by
    rcases hb with rfl | hb
    · exact HP.out
    · exact HVK.out b hb))
  clear h7 c7 p7
  go_wp2_with fail
  refine (dkRead_yes H7.out 1 rfl).mono ?_
  rintro e w8 ⟨u8, rfl, hu, b8⟩
  have U8 : Hid (Rd .u8 w8 u8 64 fun _ => 0) := hu.congr fun i hi => by
    show (if ((i : Int) < 0) then (7 : Int) else 0) = 0
    rw [if_neg (by omega)]
  have B8 := Lib.hid (B7.out.trans (b8.mono B7.out.size))
  obtain ⟨au8, cu8, rfl, _⟩ := hu
  clear b8
  go_wp2_with fail
  refine (fill_any 0 w8).mono ?_
  rintro e w9 ⟨v9, rfl, hv, b9, _⟩
  have V9 := Lib.hid hv
  have U9 := Lib.hid (U8.out.below b9)
  have B9 := Lib.hid (B8.out.trans (b9.mono B8.out.size))
  obtain ⟨av9, cv9, rfl, _⟩ := hv
  clear b9
  go_wp2_with fail
  refine (same_yes _ _ 64 _ _ _ U9.out V9.out (fun _ _ => rfl)).mono ?_
  rintro e w10 ⟨rfl, b10⟩
  have B10 := Lib.hid (B9.out.trans (b10.mono B9.out.size))
  clear b10
  go_wp2
  go_ret
  exact ⟨rfl, B10.out⟩
end Go.Proofs.Ytlmdgmgbijfaoaa
