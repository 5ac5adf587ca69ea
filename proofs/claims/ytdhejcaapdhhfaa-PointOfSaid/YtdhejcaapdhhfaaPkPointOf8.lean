/-
  Part 8 of the texts that the proof of PointOf rests on, one after the other. Conditions: named in each theorem.
-/
import Derived.Test.YtdhejcaapdhhfaaPkPointOf6
import Derived.Test.YtdhejcaapdhhfaaPkPointOf7
import Derived.Test.YtdhejcaapdhhfaaPkPointOf3
import Derived.Deep.Cut
set_option linter.unusedVariables false
set_option linter.unusedSimpArgs false
namespace Go.Proofs.Ytdhejcaapdhhfaa
open Go.RowKit Go.Bas
attribute [local go_sem ↓] Go.wp_at_zero Go.wp_at_succ

set_option maxRecDepth 100000 in
set_option maxHeartbeats 3200000 in
theorem feOf_any (X : Int) (w : World) :
    Calls Try.prog 65 #[.agg (arr .u8 32 (dg 256 X))] w fun e w' => e = .returned (El (dg 65536 (X % 2 ^ 255))) ∧ Below w.heap.size w w' := by
  unfold El
  go_enter Try.func65, Try.ntmps65
  go_wp2
  go_loopw [5] (fun i wr => ∃ k : Nat, k ≤ 16 ∧ i = .int .i64 k ∧ Arr .u8 wr w.heap.size 32 (dg 256 X) ∧ Arr .i64 wr (w.heap.size + 1) 16 (fun _ => 0) ∧ Arr .i64 wr (w.heap.size + 2) 16 (upto k (dg 65536 X) (fun _ => 0)) ∧ Below w.heap.size w wr) (fun i _ => 16 - (intOf i).toNat)
  case atStart => exact ⟨0, Nat.zero_le _, rfl, Arr.alloc (Arr.alloc (Arr.newAt (by first | omega | (simp <;> omega)) (by rfl)) _) _, Arr.alloc (Arr.newAt (by first | omega | (simp <;> omega)) (by rfl)) _, by rw [upto_zero]; exact Arr.newAt (by first | omega | (simp <;> omega)) (by rfl), (((Below.refl _ _).alloc (Nat.le_refl _) _).alloc (by simp) _).alloc (by simp; omega) _⟩
  case round =>
    obtain ⟨k, hk, rfl, hA, hZ, hR, hbel⟩ := hrel
    by_cases hlt : k < 16
    · have e1 := hA.cell (2 * k) (by omega)
      have e2 := hA.cell (2 * k + 1) (by omega)
      have e3 := hR.cell k (by omega)
      have f3 := hR.free k
      obtain ⟨b0, b1⟩ := dg_bound (by decide : (0 : Int) < 256) X (2 * k)
      obtain ⟨b2, b3⟩ := dg_bound (by decide : (0 : Int) < 256) X (2 * k + 1)
      have hor := or8_i64 b0 b1 b2 b3
      have HA := Lib.hid hA
      have HZ := Lib.hid hZ
      have HR := Lib.hid hR
      clear hA hZ hR
      go_wp2
      go_region
      all_goals
        go_wp2
        go_roundw
        case rel => exact ⟨k + 1, by omega, by go_num, (HA.out.other (by first | omega | (simp <;> omega)) _).drew, (HZ.out.other (by first | omega | (simp <;> omega)) _).drew, by rw [← upto_step (pair16 X k).symm]; exact (HR.out.set k _).drew, (hbel.setCell (by first | omega | (simp <;> omega)) _).drew⟩
        case measure => simp [intOf] <;> omega
    · obtain rfl : k = 16 := by omega
      have hR2 := hR.congr (upto_full _ _ (Nat.le_refl _))
      have e3 := hR2.cell 15 (by omega)
      have f3 := hR2.free 15
      have hand := i64_and15 (dg 65536 X 15)
      obtain ⟨t, ht⟩ : ∃ t, t = dg 65536 X 15 := ⟨_, rfl⟩
      rw [← ht] at e3 hand
      have HT := Lib.hid ht
      have HR := Lib.hid hR2
      have HZ := Lib.hid hZ
      have HBel := Lib.hid hbel
      clear hA hR hR2 hZ hbel ht
      have hfin : Arr .i64 (wr.setCell ⟨w.heap.size + 2, 15, none⟩ (.int .i64 (t % 32768))) (w.heap.size + 2) 16 (dg 65536 (X % 2 ^ 255)) := (HR.out.set 15 (t % 32768)).congr (fun i hi => by rw [HT.out]; exact top_bit X i hi)
      have hZ2 : Arr .i64 (wr.setCell ⟨w.heap.size + 2, 15, none⟩ (.int .i64 (t % 32768))) (w.heap.size + 1) 16 (fun _ => 0) := HZ.out.other (by first | omega | (simp <;> omega)) _
      have hb2 := HBel.out.setCell (p := ⟨w.heap.size + 2, 15, none⟩) (by first | omega | (simp <;> omega)) (.int .i64 (t % 32768))
      go_wp2_with (first
        | (refine load_str rfl 26 _ rfl .i64 (w.heap.size + 2) 16 _ Try.underlying26 rfl Try.size26 rfl hfin ?_)
        | (refine store_arr rfl 26 _ _ rfl .i64 (w.heap.size + 1) 16 (fun _ => 0) _ Try.size26 rfl rfl hZ2 ?_))
      exact bodyPost_ret (results_str rfl _ _ .i64 (w.heap.size + 1) 16 _ rfl (hZ2.setRow _ _) Try.underlying26 rfl Try.size26) rfl ⟨rfl, below_setRow' hb2 (by omega) _⟩

set_option maxRecDepth 100000 in
set_option maxHeartbeats 800000 in
theorem feSmall_any (n : Int) (w : World) :
    Calls Try.prog 50 #[.int .i64 n] w fun e w' => e = .returned (El (smallF n)) ∧ Below w.heap.size w w' := by
  unfold El
  have key : ∀ h : Nat → Int, Fe h (smallN n) → (0 ≤ n ∧ n < 65536 → h = upd (fun _ => 0) 0 n) → (¬ (0 ≤ n ∧ n < 65536) → h = fun _ => 0) →
      Calls Try.prog 50 #[.int .i64 n] w fun e w' => e = .returned (.agg (arr .i64 16 h)) ∧ Below w.heap.size w w' := by
    intro h _ hy hn
    have HY := Lib.hid hy
    have HN := Lib.hid hn
    clear hy hn
    go_enter Try.func50, Try.ntmps50
    go_upto_region 2 with (fail)
    refine wp_world (fun w1 => Arr .i64 w1 w.heap.size 16 (fun _ => 0) ∧ Arr .i64 w1 (w.heap.size + 1) 16 (fun _ => 0) ∧ Below w.heap.size w w1)
      ⟨Arr.alloc (Arr.newAt (by first | omega | (simp <;> omega)) (by rfl)) _, Arr.newAt (by first | omega | (simp <;> omega)) (by rfl), ((Below.refl _ _).alloc (Nat.le_refl _) _).alloc (by simp) _⟩ ?_
    rintro w1 ⟨hZ, hR, hb⟩
    have f1 := hR.free 0
    have e1 := hR.cell 0 (by decide)
    by_cases h0 : 0 ≤ n
    · by_cases h1 : n < 65536
      · have hE := HY.out ⟨h0, h1⟩
        subst hE
        have hR2 := hR.set 0 n
        have hZ2 := hZ.other (p := ⟨w.heap.size + 1, 0, none⟩) (by first | omega | (simp <;> omega)) (.int .i64 n)
        have hb2 := hb.setCell (p := ⟨w.heap.size + 1, 0, none⟩) (by first | omega | (simp <;> omega)) (.int .i64 n)
        clear hZ hR hb
        go_wp2_with (first
          | (refine load_str rfl 26 _ rfl .i64 (w.heap.size + 1) 16 _ Try.underlying26 rfl Try.size26 rfl hR2 ?_)
          | (refine store_arr rfl 26 _ _ rfl .i64 w.heap.size 16 (fun _ => 0) _ Try.size26 rfl rfl hZ2 ?_))
        exact bodyPost_ret (results_str rfl _ _ .i64 w.heap.size 16 _ rfl (hZ2.setRow _ _) Try.underlying26 rfl Try.size26) rfl ⟨rfl, below_setRow' hb2 (by omega) _⟩
      · have hE := HN.out (by omega)
        subst hE
        go_wp2_with (first
          | (refine load_str rfl 26 _ rfl .i64 (w.heap.size + 1) 16 _ Try.underlying26 rfl Try.size26 rfl hR ?_)
          | (refine store_arr rfl 26 _ _ rfl .i64 w.heap.size 16 (fun _ => 0) _ Try.size26 rfl rfl hZ ?_))
        exact bodyPost_ret (results_str rfl _ _ .i64 w.heap.size 16 _ rfl (hZ.setRow _ _) Try.underlying26 rfl Try.size26) rfl ⟨rfl, below_setRow' hb (by omega) _⟩
    · have hE := HN.out (by omega)
      subst hE
      have hd : decide (0 ≤ n) = false := by simpa using h0
      go_wp2_with (first
        | (refine load_str rfl 26 _ rfl .i64 (w.heap.size + 1) 16 _ Try.underlying26 rfl Try.size26 rfl hR ?_)
        | (refine store_arr rfl 26 _ _ rfl .i64 w.heap.size 16 (fun _ => 0) _ Try.size26 rfl rfl hZ ?_))
      exact bodyPost_ret (results_str rfl _ _ .i64 w.heap.size 16 _ rfl (hZ.setRow _ _) Try.underlying26 rfl Try.size26) rfl ⟨rfl, below_setRow' hb (by omega) _⟩
  exact key (smallF n) (fe_smallF n) (fun h => if_pos h) (fun h => if_neg h)

theorem near_i64 {f : Nat → Int} (h : ∀ i, i < 16 → 0 ≤ f i ∧ f i < 65536) : ∀ i, i < 16 → -9223372036854775808 ≤ f i ∧ f i < 9223372036854775808 := fun i hi => by have := h i hi; omega

set_option maxRecDepth 100000 in
set_option maxHeartbeats 3200000 in
theorem feChoose_any (f g : Nat → Int) (yes : Int) (hy : yes = 0 ∨ yes = 1) (hf : ∀ i, i < 16 → -9223372036854775808 ≤ f i ∧ f i < 9223372036854775808) (hg : ∀ i, i < 16 → -9223372036854775808 ≤ g i ∧ g i < 9223372036854775808) (w : World) :
    Calls Try.prog 112 #[El f, El g, .int .i64 yes] w fun e w' => e = .returned (El (if yes = 1 then g else f)) ∧ Below w.heap.size w w' := by
  obtain ⟨h, hh⟩ : ∃ h, h = if yes = 1 then g else f := ⟨_, rfl⟩
  rw [← hh]
  have key : ∀ i, i < 16 → bits .xor .i64 (f i) (bits .and .i64 (-yes) (bits .xor .i64 (f i) (g i))) = h i := by
    intro i hi
    have xb := i64_xor_bound (f i) (g i)
    rcases hy with rfl | rfl
    · rw [hh, if_neg (by decide)]
      rw [show -(0 : Int) = 0 by decide, i64_and_zero, i64_xor_zero (hf i hi).1 (hf i hi).2]
    · rw [hh, if_pos rfl, i64_and_ones xb.1 xb.2, i64_xor_back _ (hg i hi).1 (hg i hi).2]
  have HK := Lib.hid key
  have HF := Lib.hid hf
  have HG := Lib.hid hg
  have y0 : 0 ≤ yes := by omega
  have y1 : yes ≤ 1 := by omega
  clear key hf hg hh hy
  unfold El
  go_enter Try.func112, Try.ntmps112
  go_wp2
  go_loopw [8] (fun i wr => ∃ k : Nat, k ≤ 16 ∧ i = .int .i64 k ∧ Arr .i64 wr w.heap.size 16 (upto k h f) ∧ Arr .i64 wr (w.heap.size + 1) 16 g ∧ Arr .i64 wr (w.heap.size + 2) 16 (fun _ => 0) ∧ Below w.heap.size w wr) (fun i _ => 16 - (intOf i).toNat)
  case atStart => exact ⟨0, Nat.zero_le _, rfl, by rw [upto_zero]; exact Arr.alloc (Arr.alloc (Arr.newAt (by first | omega | (simp <;> omega)) (by rfl)) _) _, Arr.alloc (Arr.newAt (by first | omega | (simp <;> omega)) (by rfl)) _, Arr.newAt (by first | omega | (simp <;> omega)) (by rfl), (((Below.refl _ _).alloc (Nat.le_refl _) _).alloc (by simp) _).alloc (by simp; omega) _⟩
  case round =>
    obtain ⟨k, hk, rfl, hA, hB, hZ, hbel⟩ := hrel
    by_cases hlt : k < 16
    · have e1 := hA.cell k hlt
      have e2 := hB.cell k hlt
      have f1 := hA.free k
      rw [upto_at] at e1
      have HKk := Lib.hid (HK.out k hlt)
      obtain ⟨x, hx⟩ : ∃ x, x = f k := ⟨_, rfl⟩
      obtain ⟨y, hy⟩ : ∃ y, y = g k := ⟨_, rfl⟩
      rw [← hx] at e1 HKk
      rw [← hy] at e2 HKk
      clear hx hy
      have HA := Lib.hid hA
      have HB := Lib.hid hB
      have HZ := Lib.hid hZ
      have HBel := Lib.hid hbel
      clear hA hB hZ hbel
      go_wp2
      go_region
      all_goals
        go_wp2
        go_roundw
        case rel => exact ⟨k + 1, by omega, by go_num, by rw [← upto_step HKk.out]; exact (HA.out.set k _).drew, (HB.out.other (by first | omega | (simp <;> omega)) _).drew, (HZ.out.other (by first | omega | (simp <;> omega)) _).drew, (HBel.out.setCell (Nat.le_refl _) _).drew⟩
        case measure => simp [intOf] <;> omega
    · obtain rfl : k = 16 := by omega
      have hA2 := hA.congr (upto_full _ _ (Nat.le_refl _))
      clear hA hB
      go_wp2_with (first
        | (refine load_str rfl 26 _ rfl .i64 w.heap.size 16 _ Try.underlying26 rfl Try.size26 rfl hA2 ?_)
        | (refine store_arr rfl 26 _ _ rfl .i64 (w.heap.size + 2) 16 (fun _ => 0) _ Try.size26 rfl rfl hZ ?_))
      exact bodyPost_ret (results_str rfl _ _ .i64 (w.heap.size + 2) 16 _ rfl (hZ.setRow _ _) Try.underlying26 rfl Try.size26) rfl ⟨rfl, below_setRow' hbel (by omega) _⟩

/-- the prime's digits. -/
def pdig (k : Nat) : Int := if k = 0 then 65517 else if k = 15 then 32767 else 65535
theorem pdig_eq (k : Nat) (h : k < 16) : pdig k = dg 65536 Pr k := by
  have key : ∀ k : Fin 16, pdig k.val = dg 65536 Pr k.val := by decide
  exact key ⟨k, h⟩
theorem bor2_next (X Y : Int) (k : Nat) (c : Int) (hc : c = bor2 X Y k) (h0 : 0 ≤ c) (h1 : c ≤ 1) :
    (dg 65536 X k - dg 65536 Y k - c) % 65536 = dg 65536 (X - Y) k ∧ (dg 65536 X k - dg 65536 Y k - c) / 65536 % 2 = bor2 X Y (k + 1) ∧ 0 ≤ (dg 65536 X k - dg 65536 Y k - c) / 65536 % 2 ∧ (dg 65536 X k - dg 65536 Y k - c) / 65536 % 2 ≤ 1 := by
  subst hc
  unfold bor2 dg at *
  rw [div_succ (by decide) X, div_succ (by decide) Y, div_succ (by decide) (X - Y)]
  omega
theorem bor2_last {X Y c : Int} (hX : 0 ≤ X ∧ X < 65536 ^ 16) (hY : 0 ≤ Y ∧ Y < 65536 ^ 16) (hc : c = bor2 X Y 16) : 1 - c = if Y ≤ X then 1 else 0 := by
  unfold bor2 at hc
  rw [Int.ediv_eq_zero_of_lt hX.1 hX.2, Int.ediv_eq_zero_of_lt hY.1 hY.2] at hc
  by_cases h : Y ≤ X
  · rw [Int.ediv_eq_zero_of_lt (by omega) (by omega)] at hc
    rw [if_pos h]; omega
  · have : (X - Y) / 65536 ^ 16 = -1 := by omega
    rw [this] at hc
    rw [if_neg h]; omega
/-- 1, if the prime is not above a number. -/
def geP (Y : Int) : Int := if Pr ≤ Y then 1 else 0

set_option maxRecDepth 100000 in
set_option maxHeartbeats 3200000 in
theorem feLess_any (Y : Int) (h0 : 0 ≤ Y) (h1 : Y < 65536 ^ 16) (w : World) :
    Calls Try.prog 111 #[El (dg 65536 Y)] w fun e w' => e = .returned (.tuple #[El (dg 65536 (Y - Pr)), .int .i64 (geP Y)]) ∧ Below w.heap.size w w' := by
  have H0 := Lib.hid h0
  have H1 := Lib.hid h1
  clear h0 h1
  unfold El
  go_enter Try.func111, Try.ntmps111
  go_wp2
  go_loopw [4, 8] (fun c i wr => ∃ (k : Nat) (z : Int), k ≤ 16 ∧ z = bor2 Y Pr k ∧ 0 ≤ z ∧ z ≤ 1 ∧ c = .int .i64 z ∧ i = .int .i64 k ∧ Arr .i64 wr w.heap.size 16 (upto k (dg 65536 (Y - Pr)) (dg 65536 Y)) ∧ Arr .i64 wr (w.heap.size + 1) 16 (fun _ => 0) ∧ Below w.heap.size w wr) (fun _ i _ => 16 - (intOf i).toNat)
  case atStart => exact ⟨0, 0, Nat.zero_le _, (bor2_zero _ _).symm, by decide, by decide, rfl, rfl, by rw [upto_zero]; exact Arr.alloc (Arr.newAt (by first | omega | (simp <;> omega)) (by rfl)) _, Arr.newAt (by first | omega | (simp <;> omega)) (by rfl), ((Below.refl _ _).alloc (Nat.le_refl _) _).alloc (by simp) _⟩
  case round =>
    obtain ⟨k, z, hk, hz, z0, z1, rfl, rfl, hA, hZ, hbel⟩ := hrel
    have HZ' := Lib.hid hz
    clear hz
    by_cases hlt : k < 16
    · have e1 := hA.cell k hlt
      have f1 := hA.free k
      rw [upto_at] at e1
      obtain ⟨x0, x1⟩ := dg_bound (by decide : (0 : Int) < 65536) Y k
      have hst := bor2_next Y Pr k z HZ'.out z0 z1
      rw [← pdig_eq k hlt] at hst
      have HST := Lib.hid hst
      have HA := Lib.hid hA
      have HZ := Lib.hid hZ
      have HBel := Lib.hid hbel
      have m1 := i64_and16 (dg 65536 Y k - pdig k - z)
      have m2 := i64_and1 ((dg 65536 Y k - pdig k - z) / 65536)
      clear hA hZ hbel hst
      by_cases hk0 : k = 0
      · subst hk0
        have hp : pdig 0 = 65517 := rfl
        rw [hp] at m1 m2 HST
        clear hp
        go_wp2
        go_roundw
        case rel => exact ⟨1, _, by omega, HST.out.2.1, HST.out.2.2.1, HST.out.2.2.2, rfl, by go_num, by rw [← upto_step HST.out.1]; exact HA.out.set 0 _, HZ.out.other (by first | omega | (simp <;> omega)) _, HBel.out.setCell (Nat.le_refl _) _⟩
        case measure => simp [intOf] <;> omega
      · by_cases hk15 : k = 15
        · subst hk15
          have hp : pdig 15 = 32767 := rfl
          rw [hp] at m1 m2 HST
          clear hp
          go_wp2
          go_roundw
          case rel => exact ⟨16, _, by omega, HST.out.2.1, HST.out.2.2.1, HST.out.2.2.2, rfl, by go_num, by rw [← upto_step HST.out.1]; exact HA.out.set 15 _, HZ.out.other (by first | omega | (simp <;> omega)) _, HBel.out.setCell (Nat.le_refl _) _⟩
          case measure => simp [intOf] <;> omega

        · have hp : pdig k = 65535 := by unfold pdig; rw [if_neg hk0, if_neg hk15]
          rw [hp] at m1 m2 HST
          have t1 : ((k : Int) == 0) = false := by simpa using hk0
          have t2 : ((k : Int) == 15) = false := by simp; omega
          clear hp
          go_wp2
          go_roundw
          case rel => exact ⟨k + 1, _, by omega, HST.out.2.1, HST.out.2.2.1, HST.out.2.2.2, rfl, by go_num, by rw [← upto_step HST.out.1]; exact HA.out.set k _, HZ.out.other (by first | omega | (simp <;> omega)) _, HBel.out.setCell (Nat.le_refl _) _⟩
          case measure => simp [intOf] <;> omega

    · obtain rfl : k = 16 := by omega
      have hA2 := hA.congr (upto_full _ _ (Nat.le_refl _))
      have HL := Lib.hid (bor2_last ⟨H0.out, H1.out⟩ Pr16 HZ'.out)
      have HA2 := Lib.hid hA2
      have HBel := Lib.hid hbel
      clear hA hA2 hbel
      go_wp2_with (first
        | (refine load_str rfl 26 _ rfl .i64 w.heap.size 16 _ Try.underlying26 rfl Try.size26 rfl HA2.out ?_)
        | (refine store_arr rfl 26 _ _ rfl .i64 (w.heap.size + 1) 16 (fun _ => 0) _ Try.size26 rfl rfl hZ ?_))
      exact bodyPost_ret (results_str2 rfl _ _ .i64 (w.heap.size + 1) 16 _ rfl (hZ.setRow _ _) Try.underlying26 rfl Try.size26) rfl ⟨by rw [show geP Y = 1 - z from HL.out.symm]; rfl, below_setRow' HBel.out (by omega) _⟩
end Go.Proofs.Ytdhejcaapdhhfaa

namespace Go.Proofs.Ytdhejcaapdhhfaa
open Go.RowKit Go.Bas
attribute [local go_sem ↓] Go.wp_at_zero Go.wp_at_succ

/-- k times less the prime, if that is not below 0. -/
def subN (Y : Int) : Nat → Int
  | 0 => Y
  | k + 1 => sub1 (subN Y k)
theorem subN_bound {Y : Int} (h0 : 0 ≤ Y) (h1 : Y < 65536 ^ 16) : ∀ k, 0 ≤ subN Y k ∧ subN Y k < 65536 ^ 16
  | 0 => ⟨h0, h1⟩
  | k + 1 => sub1_bound (subN_bound h0 h1 k).1 (subN_bound h0 h1 k).2
theorem choose_sub1 (Y : Int) : (if geP Y = 1 then dg 65536 (Y - Pr) else dg 65536 Y) = dg 65536 (sub1 Y) := by
  unfold geP sub1
  by_cases h : Pr ≤ Y
  · rw [if_pos h, if_pos rfl, if_pos h]
  · rw [if_neg h, if_neg (by decide), if_neg h]
theorem geP_01 (Y : Int) : geP Y = 0 ∨ geP Y = 1 := by unfold geP; split <;> omega
theorem dg_i64 (X : Int) : ∀ i, i < 16 → -9223372036854775808 ≤ dg 65536 X i ∧ dg 65536 X i < 9223372036854775808 := fun i _ => by have := dg_bound (by decide : (0 : Int) < 65536) X i; omega
theorem dg_small2 (X : Int) : ∀ i, i < 16 → -4000000000000000 ≤ dg 65536 X i ∧ dg 65536 X i ≤ 4000000000000000 := fun i _ => by have := dg_bound (by decide : (0 : Int) < 65536) X i; omega

theorem less_any' (Y : Int) (h0 : 0 ≤ Y) (h1 : Y < 65536 ^ 16) (w : World) :
    Calls Try.prog 111 #[.agg (arr .i64 16 (dg 65536 Y))] w fun e w' => e = .returned (.tuple #[.agg (arr .i64 16 (dg 65536 (Y - Pr))), .int .i64 (geP Y)]) ∧ Below w.heap.size w w' := feLess_any Y h0 h1 w
theorem choose_any' (Y : Int) (w : World) :
    Calls Try.prog 112 #[.agg (arr .i64 16 (dg 65536 Y)), .agg (arr .i64 16 (dg 65536 (Y - Pr))), .int .i64 (geP Y)] w fun e w' => e = .returned (.agg (arr .i64 16 (dg 65536 (sub1 Y)))) ∧ Below w.heap.size w w' := by
  have h := feChoose_any (dg 65536 Y) (dg 65536 (Y - Pr)) (geP Y) (geP_01 Y) (dg_i64 _) (dg_i64 _) w
  rw [choose_sub1] at h
  exact h

set_option maxRecDepth 100000 in
set_option maxHeartbeats 3200000 in
theorem feReduced_any (f : Nat → Int) (X : Int) (hf : Fe f X) (w : World) :
    Calls Try.prog 89 #[El f] w fun e w' => e = .returned (El (dg 65536 (X % Pr))) ∧ Below w.heap.size w w' := by
  obtain ⟨Y, y0, y1, hY, hc⟩ := hf.canon
  have HF := Lib.hid hf
  have HY := Lib.hid hY
  have HC := Lib.hid hc
  have H0 := Lib.hid y0
  have H1 := Lib.hid y1
  clear hf hY hc y0 y1
  unfold El
  go_enter Try.func89, Try.ntmps89
  go_wp2_with fail
  have hb0 : Below w.heap.size w ((w.alloc (.cells (arr .i64 16 f) 26)).alloc (.cells (arr .i64 16 (fun _ => 0)) 26)) := ((Below.refl _ _).alloc (Nat.le_refl _) _).alloc (by simp) _
  have hZ0 : Arr .i64 ((w.alloc (.cells (arr .i64 16 f) 26)).alloc (.cells (arr .i64 16 (fun _ => 0)) 26)) (w.heap.size + 1) 16 (fun _ => 0) := Arr.newAt (by first | omega | (simp <;> omega)) rfl
  refine (carry_any f w.heap.size _ (Arr.alloc (Arr.new .i64 w 26 16 f) _) (fun i hi => by have := HF.out.1.bound i hi; omega)).mono ?_
  rintro e w1 ⟨⟨v, rfl⟩, hA1, hg1⟩
  have hZ1 := hZ0.grown hg1 (by simp)
  have hb1 := hb0.trans (Gr.below hg1 (Nat.le_refl _) hb0.size)
  have hA1' := hA1.congr HC.out
  clear hb0 hZ0 hA1 hg1
  go_wp2_with fail
  refine (carry_any (dg 65536 Y) w.heap.size _ hA1' (dg_small2 Y)).mono ?_
  rintro e w2 ⟨⟨v, rfl⟩, hA2, hg2⟩
  have hZ2 := hZ1.grown hg2 (by simp)
  have hb2 := hb1.trans (Gr.below hg2 (Nat.le_refl _) hb1.size)
  have hA2' := hA2.congr (crr_dg (fun i _ => dg_bound (by decide) Y i))
  clear hb1 hZ1 hA1' hA2 hg2
  go_wp2_with fail
  refine (carry_any (dg 65536 Y) w.heap.size _ hA2' (dg_small2 Y)).mono ?_
  rintro e w3 ⟨⟨v, rfl⟩, hA3, hg3⟩
  have hZ3 := hZ2.grown hg3 (by simp)
  have hb3 := hb2.trans (Gr.below hg3 (Nat.le_refl _) hb2.size)
  have hA3' := hA3.congr (crr_dg (fun i _ => dg_bound (by decide) Y i))
  clear hb2 hZ2 hA2' hA3 hg3
  go_wp2
  go_loopw [8] (fun i wr => ∃ k : Nat, k ≤ 2 ∧ i = .int .i64 k ∧ Arr .i64 wr w.heap.size 16 (dg 65536 (subN Y k)) ∧ Arr .i64 wr (w.heap.size + 1) 16 (fun _ => 0) ∧ Below w.heap.size w wr) (fun i _ => 2 - (intOf i).toNat)
  case atStart => exact ⟨0, Nat.zero_le _, rfl, hA3', hZ3, hb3⟩
  case round =>
    obtain ⟨k, hk, rfl, hA, hZ, hbel⟩ := hrel
    by_cases hlt : k < 2
    · have hsb := subN_bound H0.out H1.out k
      have HSB := Lib.hid hsb
      clear hsb
      go_wp2_with (refine load_str rfl 26 _ rfl .i64 w.heap.size 16 _ Try.underlying26 rfl Try.size26 rfl hA ?_)
      refine (less_any' (subN Y k) HSB.out.1 HSB.out.2 _).mono ?_
      rintro e w4 ⟨rfl, hb4⟩
      have hA4 := hA.kept hb4
      have hZ4 := hZ.kept hb4
      have hbel4 := hbel.trans (hb4.mono hbel.size)
      have l4 := hZ4.lt
      clear hA hZ hbel hb4
      go_upto_region 7 with (refine store_arr rfl 26 _ _ rfl .i64 w4.heap.size 16 (fun _ => 0) _ Try.size26 rfl rfl (Arr.newAt rfl rfl) ?_)
      refine wp_world (fun w5 => Arr .i64 w5 w4.heap.size 16 (dg 65536 (subN Y k - Pr)) ∧ Arr .i64 w5 w.heap.size 16 (dg 65536 (subN Y k)) ∧ Arr .i64 w5 (w.heap.size + 1) 16 (fun _ => 0) ∧ Below w.heap.size w w5)
        ⟨Arr.setRow (Arr.newAt (n := 16) (f := fun _ => 0) rfl rfl) _ _, Arr.setRowOther (Arr.alloc hA4 _) _ (by omega) _, Arr.setRowOther (Arr.alloc hZ4 _) _ (by omega) _, below_setRow' (hbel4.alloc hbel4.size _) hbel4.size _⟩ ?_
      rintro w5 ⟨hB, hA, hZ, hbel⟩
      clear hA4 hZ4 hbel4 l4
      go_wp2_with (first
        | (refine load_str rfl 26 (.tmp 1) rfl .i64 w.heap.size 16 _ Try.underlying26 rfl Try.size26 rfl hA ?_)
        | (refine load_str rfl 26 (.tmp 3) rfl .i64 w4.heap.size 16 _ Try.underlying26 rfl Try.size26 rfl hB ?_))
      refine (choose_any' (subN Y k) _).mono ?_
      rintro e w6 ⟨rfl, hb6⟩
      have hA6 := hA.kept hb6
      have hZ6 := hZ.kept hb6
      have hbel6 := hbel.trans (hb6.mono hbel.size)
      clear hA hB hZ hbel hb6
      go_wp2_with (refine store_arr rfl 26 _ _ rfl .i64 w.heap.size 16 _ _ Try.size26 rfl rfl hA6 ?_)
      go_roundw
      case rel => exact ⟨k + 1, by omega, by go_num, hA6.setRow _ _, hZ6.setRowOther _ (by omega) _, below_setRow' hbel6 (Nat.le_refl _) _⟩
      case measure => simp [intOf] <;> omega
    · obtain rfl : k = 2 := by omega
      have hfin : subN Y 2 = X % Pr := by rw [← HY.out]; exact sub1_twice H0.out H1.out
      rw [hfin] at hA
      clear hfin
      go_wp2_with (first
        | (refine load_str rfl 26 _ rfl .i64 w.heap.size 16 _ Try.underlying26 rfl Try.size26 rfl hA ?_)
        | (refine store_arr rfl 26 _ _ rfl .i64 (w.heap.size + 1) 16 (fun _ => 0) _ Try.size26 rfl rfl hZ ?_))
      exact bodyPost_ret (results_str rfl _ _ .i64 (w.heap.size + 1) 16 _ rfl (hZ.setRow _ _) Try.underlying26 rfl Try.size26) rfl ⟨rfl, below_setRow' hbel (by omega) _⟩

theorem modP (X : Int) : 0 ≤ X % Pr ∧ X % Pr < Pr := ⟨Int.emod_nonneg _ (by decide), Int.emod_lt_of_pos _ (by decide)⟩
theorem modP16 (X : Int) : 0 ≤ X % Pr ∧ X % Pr < 65536 ^ 16 := ⟨(modP X).1, Int.lt_trans (modP X).2 Pr16.2⟩
theorem modP_byte (X : Int) : 0 ≤ X % Pr ∧ X % Pr < 256 ^ 32 := ⟨(modP X).1, Int.lt_trans (modP X).2 (by decide)⟩

set_option maxRecDepth 100000 in
set_option maxHeartbeats 3200000 in
theorem feBytes_any (f : Nat → Int) (X : Int) (hf : Fe f X) (w : World) :
    Calls Try.prog 56 #[El f] w fun e w' => e = .returned (.agg (arr .u8 32 (dg 256 (X % Pr)))) ∧ Below w.heap.size w w' := by
  have HF := Lib.hid hf
  clear hf
  unfold El
  go_enter Try.func56, Try.ntmps56
  go_wp2_with (refine load_str rfl 26 _ rfl .i64 w.heap.size 16 _ Try.underlying26 rfl Try.size26 rfl (Arr.alloc (Arr.new .i64 w 26 16 f) _) ?_)
  refine (feReduced_any f X HF.out _).mono ?_
  rintro e w1 ⟨rfl, hb1⟩
  have hA1 : Arr .i64 w1 w.heap.size 16 f := Arr.kept (Arr.alloc (Arr.new .i64 w 26 16 f) _) hb1
  have hZ1 : Arr .u8 w1 (w.heap.size + 1) 32 (fun _ => 0) := Arr.kept (Arr.newAt (by first | omega | (simp <;> omega)) (by rfl)) hb1
  have hbel1 : Below w.heap.size w w1 := (((Below.refl _ _).alloc (Nat.le_refl _) _).alloc (by simp) _).trans (hb1.mono (by simp; omega))
  have l1 := hZ1.lt
  clear hb1
  unfold El
  go_upto_region 3 with (refine store_arr rfl 26 _ _ rfl .i64 w.heap.size 16 _ _ Try.size26 rfl rfl hA1 ?_)
  refine wp_world (fun w2 => Arr .i64 w2 w.heap.size 16 (dg 65536 (X % Pr)) ∧ Arr .u8 w2 (w.heap.size + 1) 32 (fun _ => 0) ∧ Arr .u8 w2 w1.heap.size 32 (fun _ => 0) ∧ Below w.heap.size w w2)
    ⟨Arr.alloc (hA1.setRow _ _) _, Arr.alloc (hZ1.setRowOther _ (by omega) _) _, Arr.newAt (by simp) (by rfl), (below_setRow' hbel1 (Nat.le_refl _) _).alloc (by simp; exact hbel1.size) _⟩ ?_
  rintro w2 ⟨hA, hZ, hR, hbel⟩
  clear hA1 hZ1 hbel1
  obtain ⟨Z, hZe⟩ : ∃ Z, Z = X % Pr := ⟨_, rfl⟩
  rw [← hZe] at hA ⊢
  obtain ⟨b, hbe⟩ : ∃ b, b = w1.heap.size := ⟨_, rfl⟩
  rw [← hbe] at hR l1 ⊢
  have HZE := Lib.hid hZe
  clear hZe hbe
  go_wp2_with (refine load_arr rfl 24 _ rfl .i64 w.heap.size 16 _ 2 Try.underlying24 Try.size24 rfl hA ?_)
  go_loopw [10] (fun i wr => ∃ k : Nat, k ≤ 16 ∧ i = .int .i64 k ∧ Arr .u8 wr (w.heap.size + 1) 32 (fun _ => 0) ∧ Arr .u8 wr b 32 (upto (2 * k) (dg 256 Z) (fun _ => 0)) ∧ Below w.heap.size w wr) (fun i _ => 16 - (intOf i).toNat)
  case atStart => exact ⟨0, Nat.zero_le _, rfl, hZ, by rw [Nat.mul_zero, upto_zero]; exact hR, hbel⟩
  case round =>
    clear hA hZ hR hbel
    obtain ⟨k, hk, rfl, hZ, hR, hbel⟩ := hrel
    by_cases hlt : k < 16
    · have hix := run_index_arr (f := dg 65536 Z) Try.underlying24 Try.underlying2 Try.size2 k hlt
      have e2 := hR.cell (2 * k) (by omega)
      have e3 := hR.cell (2 * k + 1) (by omega)
      have f2 := hR.free (2 * k)
      have f3 := hR.free (2 * k + 1)
      obtain ⟨b0, b1⟩ := dg_bound (by decide : (0 : Int) < 65536) Z k
      have HZ := Lib.hid hZ
      have HR := Lib.hid hR
      clear hZ hR
      go_wp2
      go_roundw
      case rel => exact ⟨k + 1, by omega, by go_num, (HZ.out.other (by simp; omega) _).other (by simp; omega) _, by rw [show 2 * (k + 1) = 2 * k + 1 + 1 by omega, ← upto_step (byte1 Z k), ← upto_step (byte0 Z k)]; exact (HR.out.set (2 * k) _).set (2 * k + 1) _, (hbel.setCell (by simp; omega) _).setCell (by simp; omega) _⟩
      case measure => simp [intOf] <;> omega
    · obtain rfl : k = 16 := by omega
      have hR2 := hR.congr (upto_full _ _ (Nat.le_refl _))
      go_wp2_with (first
        | (refine load_arr rfl 22 _ rfl .u8 b 32 _ 5 Try.underlying22 Try.size22 rfl hR2 ?_)
        | (refine store_arr rfl 22 _ _ rfl .u8 (w.heap.size + 1) 32 (fun _ => 0) _ Try.size22 rfl rfl hZ ?_))
      exact bodyPost_ret (results_arr rfl _ _ .u8 (w.heap.size + 1) 32 _ 5 rfl (hZ.setRow _ _) Try.underlying22 Try.size22) rfl ⟨by rw [HZE.out], below_setRow' hbel (by omega) _⟩

/-- whether two numbers are one modulo the prime. -/
def eqP (X Y : Int) : Bool := decide (X % Pr = Y % Pr)
theorem sameB_modP (X Y : Int) : sameB 32 (dg 256 (X % Pr)) (dg 256 (Y % Pr)) = eqP X Y := by
  unfold eqP
  by_cases h : X % Pr = Y % Pr
  · rw [h, decide_eq_true rfl]; exact sameB_self
  · rw [decide_eq_false h]
    exact sameB_no fun e => h (eq_of_dg (by decide) (modP_byte X) (modP_byte Y) e)

set_option maxRecDepth 100000 in
set_option maxHeartbeats 1600000 in
theorem feEqual_any (f g : Nat → Int) (X Y : Int) (hf : Fe f X) (hg : Fe g Y) (w : World) :
    Calls Try.prog 59 #[El f, El g] w fun e w' => e = .returned (.bool (eqP X Y)) ∧ Below w.heap.size w w' := by
  have HF := Lib.hid hf
  have HG := Lib.hid hg
  clear hf hg
  unfold El
  go_enter Try.func59, Try.ntmps59
  go_wp2
  refine wp_world (fun w1 => Arr .i64 w1 w.heap.size 16 f ∧ Arr .i64 w1 (w.heap.size + 1) 16 g ∧ Below w.heap.size w w1)
    ⟨Arr.alloc (Arr.newAt (by first | omega | (simp <;> omega)) (by rfl)) _, Arr.newAt (by first | omega | (simp <;> omega)) (by rfl), ((Below.refl _ _).alloc (Nat.le_refl _) _).alloc (by simp) _⟩ ?_
  rintro w1 ⟨hA, hB', hbel⟩
  refine region_flow (n := 10) (by kernel_rfl) (by kernel_rfl) (by kernel_rfl) rfl
    (fun ii vv _ => (match ii with | 0 => vv = .agg (arr .i64 16 (f)) | 1 => vv = .agg (arr .u8 32 (dg 256 (X % Pr))) | 2 => vv = .agg (arr .i64 16 (g)) | 3 => vv = .agg (arr .u8 32 (dg 256 (Y % Pr))) | 4 | 5 => vv = .bool ((eqP X Y)) | _ => True))
    (fun w w' => Below w.heap.size w w') (fun _ _ h => h) (fun _ _ _ _ h _ => h) ?_ ?_
  · refine Each.all ?_
    refine ⟨?_, ?_, ?_, ?_, ?_, ?_, trivial⟩
    · intro a w2 hB hF hd
      rw [if_pos (wanted_none rfl)]
      exact flow_val (fun h => by cases h) (run_load_str rfl Try.underlying26 rfl Try.size26 (hF.same 2 rfl) (hA.below hB hA.lt)) rfl
    · intro a w2 hB hF hd
      rw [if_pos (wanted_none rfl)]
      refine flow_call _ _ _ rfl Try.call56 _ (args1 (hd 0 _ rfl (waits_spec rfl))) (by simp) ((feBytes_any (f) X HF.out w2).mono ?_)
      rintro e w3 ⟨rfl, hb⟩; exact ⟨_, rfl, rfl, hb⟩
    · intro a w2 hB hF hd
      rw [if_pos (wanted_none rfl)]
      exact flow_val (fun h => by cases h) (run_load_str rfl Try.underlying26 rfl Try.size26 (hF.same 3 rfl) (hB'.below hB hB'.lt)) rfl
    · intro a w2 hB hF hd
      rw [if_pos (wanted_none rfl)]
      refine flow_call _ _ _ rfl Try.call56 _ (args1 (hd 2 _ rfl (waits_spec rfl))) (by simp) ((feBytes_any (g) Y HG.out w2).mono ?_)
      rintro e w3 ⟨rfl, hb⟩; exact ⟨_, rfl, rfl, hb⟩
    · intro a w2 hB hF hd
      rw [if_pos (wanted_none rfl)]
      exact flow_val (fun h => by cases h) (run_eql_arr ((eqP X Y)) rfl (hd 1 _ rfl (waits_spec rfl)) (hd 3 _ rfl (waits_spec rfl)) Try.underlying22 (by kernel_rfl) (by kernel_rfl) (by kernel_rfl) (by kernel_rfl) (by kernel_rfl) (sameB_modP X Y)) rfl
    · intro a w2 hB hF hd
      rw [if_pos (wanted_none rfl)]
      exact flow_move _ (.inr rfl) (by simp) (hd 4 _ rfl (waits_spec rfl))
  · intro a w2 hB hF hS
    have ha := puts_each rfl rfl hF [_, _, _, _, _, _] rfl ⟨hS 0 _ rfl, hS 1 _ rfl, hS 2 _ rfl, hS 3 _ rfl, hS 4 _ rfl, hS 5 _ rfl, trivial⟩
    simp only [puts, Act.put, List.setIfInBounds_toArray, List.set_cons_succ, List.set_cons_zero] at ha
    subst ha
    clear hS hF
    have hb := hbel.trans (hB.mono hbel.size)
    clear hA hB' hbel hB
    go_wp2
    go_ret
    exact ⟨rfl, hb⟩
end Go.Proofs.Ytdhejcaapdhhfaa

namespace Go.Proofs.Ytdhejcaapdhhfaa
open Go.RowKit Go.Bas
attribute [local go_sem ↓] Go.wp_at_zero Go.wp_at_succ

set_option maxRecDepth 100000 in
set_option maxHeartbeats 1600000 in
theorem feOdd_any (f : Nat → Int) (X : Int) (hf : Fe f X) (w : World) :
    Calls Try.prog 57 #[El f] w fun e w' => e = .returned (.bool (X % Pr % 2 == 1)) ∧ Below w.heap.size w w' := by
  have HF := Lib.hid hf
  clear hf
  unfold El
  go_enter Try.func57, Try.ntmps57
  go_wp2_with (refine load_str rfl 26 _ rfl .i64 w.heap.size 16 _ Try.underlying26 rfl Try.size26 rfl (Arr.new .i64 w 26 16 f) ?_)
  refine (feBytes_any f X HF.out _).mono ?_
  rintro e w1 ⟨rfl, hb1⟩
  have hbel : Below w.heap.size w w1 := ((Below.refl _ _).alloc (Nat.le_refl _) _).trans (hb1.mono (by simp))
  clear hb1
  go_upto_region 2 with (refine store_arr rfl 22 _ _ rfl .u8 w1.heap.size 32 (fun _ => 0) _ Try.size22 rfl rfl (Arr.newAt rfl rfl) ?_)
  refine wp_world (fun w2 => Arr .u8 w2 w1.heap.size 32 (dg 256 (X % Pr)) ∧ Below w.heap.size w w2)
    ⟨Arr.setRow (Arr.newAt (n := 32) (f := fun _ => 0) rfl rfl) _ _, below_setRow' (hbel.alloc hbel.size _) hbel.size _⟩ ?_
  rintro w2 ⟨hA, hb⟩
  have e1 := hA.cell 0 (by decide)
  obtain ⟨b0, b1⟩ := dg_bound (by decide : (0 : Int) < 256) (X % Pr) 0
  have hand := and1_u8x b0 b1
  have hm : dg 256 (X % Pr) 0 % 2 = X % Pr % 2 := by rw [dg_zero]; omega
  rw [hm] at hand
  clear hm
  go_wp2
  go_ret
  exact ⟨rfl, hb⟩

set_option maxRecDepth 100000 in
set_option maxHeartbeats 6400000 in
theorem feMul_any (f g : Nat → Int) (X Y : Int) (hf : Fe f X) (hg : Fe g Y) (w : World) :
    Calls Try.prog 51 #[El f, El g] w fun e w' => e = .returned (El (mulF f g)) ∧ Below w.heap.size w w' := by
  have HF := Lib.hid hf
  have HG := Lib.hid hg
  clear hf hg
  unfold El
  go_enter Try.func51, Try.ntmps51
  go_upto_region 2 with (fail)
  refine wp_world (fun w1 => Arr .i64 w1 w.heap.size 16 f ∧ Arr .i64 w1 (w.heap.size + 1) 16 g ∧ Arr .i64 w1 (w.heap.size + 2) 16 (fun _ => 0) ∧ Arr .i64 w1 (w.heap.size + 3) 31 (fun _ => 0) ∧ Below w.heap.size w w1 ∧ w1.heap.size = w.heap.size + 4)
    ⟨Arr.alloc (Arr.alloc (Arr.alloc (Arr.newAt (by first | omega | (simp <;> omega)) (by rfl)) _) _) _, Arr.alloc (Arr.alloc (Arr.newAt (by first | omega | (simp <;> omega)) (by rfl)) _) _, Arr.alloc (Arr.newAt (by first | omega | (simp <;> omega)) (by rfl)) _, Arr.newAt (by first | omega | (simp <;> omega)) (by rfl), ((((Below.refl _ _).alloc (Nat.le_refl _) _).alloc (by simp) _).alloc (by simp; omega) _).alloc (by simp; omega) _, by simp⟩ ?_
  rintro w1 ⟨hA, hB, hZ, hT, hbel, hsz⟩
  have HSZ := Lib.hid hsz
  clear hsz
  go_wp2_with (refine load_arr rfl 24 _ rfl .i64 w.heap.size 16 _ 2 Try.underlying24 Try.size24 rfl hA ?_)
  go_loopw [15] (fun i wr => ∃ (k : Nat) (t : Nat → Int), k ≤ 16 ∧ i = .int .i64 k ∧ t = colF f g k ∧ Arr .i64 wr (w.heap.size + 1) 16 g ∧ Arr .i64 wr (w.heap.size + 2) 16 (fun _ => 0) ∧ Arr .i64 wr (w.heap.size + 3) 31 t ∧ Below w.heap.size w wr ∧ wr.heap.size = w.heap.size + 4) (fun i _ => 16 - (intOf i).toNat)
  case atStart => exact ⟨0, _, Nat.zero_le _, rfl, rfl, hB, hZ, hT, hbel, HSZ.out⟩
  case round =>
    clear hA hB hZ hT hbel HSZ
    obtain ⟨i, t, hi, rfl, hte, hB, hZ, hT, hbel, hsz⟩ := hrel
    have hC : FeCols t f g i 0 := by rw [hte]; exact colF_cols HF.out.1 HG.out.1 i hi
    have HTE := Lib.hid hte
    clear hte
    have HSZ := Lib.hid hsz
    have HC := Lib.hid hC
    have HZ := Lib.hid hZ
    have HT := Lib.hid hT
    have HBel := Lib.hid hbel
    clear hsz hC hZ hT hbel
    by_cases hlt : i < 16
    · have hix := run_index_arr (f := f) Try.underlying24 Try.underlying2 Try.size2 i hlt
      obtain ⟨x0, x1⟩ := HF.out.1.bound i hlt
      go_wp2_with (refine load_arr rfl 24 _ rfl .i64 (w.heap.size + 1) 16 _ 2 Try.underlying24 Try.size24 rfl hB ?_)
      have HBB := Lib.hid hB
      clear hB hix
      go_loopw [21] (fun j wr => ∃ (k : Nat) (t : Nat → Int), k ≤ 16 ∧ j = .int .i64 k ∧ t = rowF f g (colF f g i) i k ∧ Arr .i64 wr (w.heap.size + 1) 16 g ∧ Arr .i64 wr (w.heap.size + 2) 16 (fun _ => 0) ∧ Arr .i64 wr (w.heap.size + 3) 31 t ∧ Below w.heap.size w wr ∧ wr.heap.size = w.heap.size + 4) (fun j _ => 16 - (intOf j).toNat)
      case atStart => exact ⟨0, t, Nat.zero_le _, rfl, HTE.out, HBB.out, HZ.out, HT.out, HBel.out, HSZ.out⟩
      case round =>
        clear HSZ HC HZ HT HBel HBB HTE
        obtain ⟨k, t, hk, rfl, hte, hB, hZ, hT, hbel, hsz⟩ := hrel
        have hC : FeCols t f g i k := by rw [hte]; exact rowF_cols HF.out.1 HG.out.1 hlt (colF_cols HF.out.1 HG.out.1 i hi) k hk
        have HTE := Lib.hid hte
        clear hte
        have HSZ := Lib.hid hsz
        have HC := Lib.hid hC
        have HB := Lib.hid hB
        have HZ := Lib.hid hZ
        have HT := Lib.hid hT
        have HBel := Lib.hid hbel
        clear hsz hC hZ hT hbel hB
        by_cases hkt : k < 16
        · have hix := run_index_arr (f := g) Try.underlying24 Try.underlying2 Try.size2 k hkt
          obtain ⟨y0, y1⟩ := HG.out.1.bound k hkt
          have e1 := HT.out.cell (i + k) (by omega)
          have f1 := HT.out.free (i + k)
          obtain ⟨t0, t1⟩ := HC.out.bound (by omega) (i + k)
          obtain ⟨m0, m1⟩ := near_mul x0 x1 y0 y1
          have HST : Hid (upd t (i + k) (t (i + k) + f i * g k) = rowF f g (colF f g i) i (k + 1)) := by show _ = _; rw [HTE.out]; rfl
          go_wp2
          go_roundw
          case rel => exact ⟨k + 1, _, by omega, by go_num, HST.out, HB.out.other (by simp) _, HZ.out.other (by simp) _, HT.out.set (i + k) _, HBel.out.setCell (by simp; omega) _, by rw [size_setCell]; exact HSZ.out⟩
          case measure => simp [intOf] <;> omega
        · obtain rfl : k = 16 := by omega
          go_wp2
          go_roundw
          case rel => exact ⟨i + 1, t, by omega, by go_num, HTE.out, HB.out, HZ.out, HT.out, HBel.out, HSZ.out⟩
          case measure => simp [intOf] <;> omega
    · obtain rfl : i = 16 := by omega
      clear hB
      go_wp2
      refine wp_world (fun w2 => Arr .i64 w2 (w.heap.size + 2) 16 (fun _ => 0) ∧ Arr .i64 w2 (w.heap.size + 3) 31 t ∧ Arr .i64 w2 wr.heap.size 16 (fun _ => 0) ∧ Below w.heap.size w w2)
        ⟨Arr.alloc HZ.out _, Arr.alloc HT.out _, Arr.newAt rfl (by rfl), HBel.out.alloc HBel.out.size _⟩ ?_
      rintro w2 ⟨hZ2, hT2, hO2, hbel2⟩
      obtain ⟨b, hb⟩ : ∃ b, b = wr.heap.size := ⟨_, rfl⟩
      have hbs : b = w.heap.size + 4 := by have := HSZ.out; omega
      rw [← hb] at hO2 ⊢
      subst hbs
      clear hb HZ HT HBel HSZ
      have hR : Rd .i64 w2.drew (.slice (some ⟨w.heap.size + 3, 0, none⟩) 16 31) 16 t := ⟨_, _, rfl, by decide, by decide, (fun h => by cases h), fun _ => ⟨_, 0, rfl, hT2.lt, fun i hi => by rw [Nat.zero_add]; exact hT2.cell i (by omega)⟩⟩
      go_region_law (refine step_copy_arr rfl _ _ 97 97 rfl (w.heap.size + 4) 0 16 16 16 (fun _ => 0) Try.underlying97 Try.size2 rfl hO2.drew _ 16 t hR rfl (by decide) (by decide) ?_)
      all_goals
        go_wp2
        refine wp_world (fun w3 => Arr .i64 w3 (w.heap.size + 2) 16 (fun _ => 0) ∧ Arr .i64 w3 (w.heap.size + 3) 31 t ∧ Arr .i64 w3 (w.heap.size + 4) 16 t ∧ Below w.heap.size w w3)
          ⟨Arr.setRowOther hZ2.drew _ (by omega) _, Arr.setRowOther hT2.drew _ (by omega) _, (Arr.setRow hO2.drew _ _).congr (fun i hi => if_pos ⟨Nat.zero_le _, by omega⟩), below_setRow' hbel2.drew (by omega) _⟩ ?_
        rintro w3 ⟨hZ3, hT3, hO3, hbel3⟩
        clear hZ2 hT2 hO2 hbel2 hR
        go_wp2
        go_loopw [43] (fun i wr => ∃ k : Nat, k ≤ 15 ∧ i = .int .i64 k ∧ Arr .i64 wr (w.heap.size + 2) 16 (fun _ => 0) ∧ Arr .i64 wr (w.heap.size + 3) 31 t ∧ Arr .i64 wr (w.heap.size + 4) 16 (upto k (fun i => t i + 38 * t (16 + i)) t) ∧ Below w.heap.size w wr) (fun i _ => 15 - (intOf i).toNat)
        case atStart => exact ⟨0, Nat.zero_le _, rfl, hZ3, hT3, by rw [upto_zero]; exact hO3, hbel3⟩
        case round =>
          clear hZ3 hT3 hO3 hbel3
          obtain ⟨k, hk, rfl, hZ, hT, hO, hbel⟩ := hrel
          by_cases hkt : k < 15
          · have e1 := hT.cell (16 + k) (by omega)
            have e2 := hO.cell k (by omega)
            have f2 := hO.free k
            rw [upto_at] at e2
            obtain ⟨t0, t1⟩ := HC.out.bound (by omega) k
            obtain ⟨t2, t3⟩ := HC.out.bound (by omega) (16 + k)
            have HZ := Lib.hid hZ
            have HT := Lib.hid hT
            have HO := Lib.hid hO
            have HBel := Lib.hid hbel
            clear hZ hT hO hbel
            go_wp2
            go_roundw
            case rel => exact ⟨k + 1, by omega, by go_num, HZ.out.other (by first | omega | (simp <;> omega)) _, HT.out.other (by first | omega | (simp <;> omega)) _, by rw [← upto_step rfl]; exact HO.out.set k _, HBel.out.setCell (by first | omega | (simp <;> omega)) _⟩
            case measure => simp [intOf] <;> omega
          · obtain rfl : k = 15 := by omega
            have HFE : Hid (crr (crr (upto 15 (fun i => t i + 38 * t (16 + i)) t)) = mulF f g) := by show _ = _; rw [HTE.out]; rfl
            have hlim : ∀ i, i < 16 → -4000000000000000 ≤ upto 15 (fun i => t i + 38 * t (16 + i)) t i ∧ upto 15 (fun i => t i + 38 * t (16 + i)) t i ≤ 4000000000000000 := by
              intro i hi
              have h1 := HC.out.bound (by omega) i
              have h2 := HC.out.bound (by omega) (16 + i)
              unfold upto
              split
              · show _ ≤ t i + 38 * t (16 + i) ∧ t i + 38 * t (16 + i) ≤ _; omega
              · omega
            have hlim2 : ∀ i, i < 16 → -4000000000000000 ≤ crr (upto 15 (fun i => t i + 38 * t (16 + i)) t) i ∧ crr (upto 15 (fun i => t i + 38 * t (16 + i)) t) i ≤ 4000000000000000 := by
              intro i hi
              have h1 := crr_bound hlim 16 (Nat.le_refl _)
              have h2 := crr_bound hlim i (by omega)
              unfold crr
              split <;> omega
            have L1 := Lib.hid hlim
            have L2 := Lib.hid hlim2
            have hl := hO.lt
            clear hlim hlim2 hT
            go_wp2_with fail
            refine (carry_any _ (w.heap.size + 4) _ hO L1.out).mono ?_
            rintro e w5 ⟨⟨v, rfl⟩, hO5, hg5⟩
            have hZ5 := hZ.grown hg5 (by simp)
            have hb5 := hbel.trans (Gr.below hg5 (by omega) hbel.size)
            clear hZ hO hbel hg5
            go_wp2_with fail
            refine (carry_any _ (w.heap.size + 4) _ hO5 L2.out).mono ?_
            rintro e w6 ⟨⟨v, rfl⟩, hO6, hg6⟩
            have hZ6 := hZ5.grown hg6 (by simp)
            have hb6 := hb5.trans (Gr.below hg6 (by omega) hb5.size)
            clear hZ5 hO5 hb5 hg6
            go_wp2_with (first
              | (refine load_str rfl 26 _ rfl .i64 (w.heap.size + 4) 16 _ Try.underlying26 rfl Try.size26 rfl hO6 ?_)
              | (refine store_arr rfl 26 _ _ rfl .i64 (w.heap.size + 2) 16 (fun _ => 0) _ Try.size26 rfl rfl hZ6 ?_))
            exact bodyPost_ret (results_str rfl _ _ .i64 (w.heap.size + 2) 16 _ rfl (hZ6.setRow _ _) Try.underlying26 rfl Try.size26) rfl ⟨by rw [HFE.out], below_setRow' hb6 (by omega) _⟩
end Go.Proofs.Ytdhejcaapdhhfaa
