/-
  fe.Of, Small, choose, less, reduced, Bytes, Equal, Odd: what each makes. Conditions: named in each theorem.
-/
import Derived.Test.YtllkfkbioloaoaaFe1
import Derived.Test.YtllkfkbioloaoaaBits
import Derived.Deep.Cut
set_option linter.unusedVariables false
set_option linter.unusedSimpArgs false
namespace Go.Proofs.Ytllkfkbioloaoaa
open Go.RowKit Go.Bas
attribute [local go_sem ↓] Go.wp_at_zero Go.wp_at_succ

set_option maxRecDepth 100000 in
set_option maxHeartbeats 3200000 in
theorem feOf_any (X : Int) (w : World) :
    Calls Try.prog 92 #[.agg (arr .u8 32 (dg 256 X))] w fun e w' => e = .returned (El (dg 65536 (X % 2 ^ 255))) ∧ Below w.heap.size w w' := by
  unfold El
  go_enter Try.func92, Try.ntmps92
  go_wp2
  go_loopw [5] (fun i wr => ∃ k : Nat, k ≤ 16 ∧ i = .int .i64 k ∧ Arr .u8 wr w.heap.size 32 (dg 256 X) ∧ Arr .i64 wr (w.heap.size + 1) 16 (fun _ => 0) ∧ Arr .i64 wr (w.heap.size + 2) 16 (upto k (dg 65536 X) (fun _ => 0)) ∧ Below w.heap.size w wr) (fun i _ => 16 - (intOf i).toNat)
  case atStart => exact ⟨0, Nat.zero_le _, rfl, Arr.alloc (Arr.alloc (Arr.newAt (by first | omega | (simp <;> omega)) (by rfl)) _) _, Arr.alloc (Arr.newAt (by first | omega | (simp <;> omega)) (by rfl)) _, by rw [upto_zero]; exact Arr.newAt (by first | omega | (simp <;> omega)) (by rfl), (((Below.refl _ _).alloc (Nat.le_refl _) _).alloc (by simp) _).alloc (by simp; omega) _⟩
  case round =>
    obtain ⟨k, hk, rfl, hA, hZ, hR, hbel⟩ := hrel
    by_cases hlt : k < 16
    · have e1 := hA.cell (2 * k) (by omega)
      have e2 := hA.cell (2 * k + 1) (by omega)
      have e3 := hR.cell k (by omega)
      have f3 := hR.free k
      obtain ⟨b0, b1⟩ := dg_bound (by decide : (0 : Int) < 256) X (2 * k)
      obtain ⟨b2, b3⟩ := dg_bound (by decide : (0 : Int) < 256) X (2 * k + 1)
      have hor := or8_i64 b0 b1 b2 b3
      have HA := Lib.hid hA
      have HZ := Lib.hid hZ
      have HR := Lib.hid hR
      clear hA hZ hR
      go_wp2
      go_region
      all_goals
        go_wp2
        go_roundw
        case rel => exact ⟨k + 1, by omega, by go_num, (HA.out.other (by first | omega | (simp <;> omega)) _).drew, (HZ.out.other (by first | omega | (simp <;> omega)) _).drew, by rw [← upto_step (pair16 X k).symm]; exact (HR.out.set k _).drew, (hbel.setCell (by first | omega | (simp <;> omega)) _).drew⟩
        case measure => simp [intOf] <;> omega
    · obtain rfl : k = 16 := by omega
      have hR2 := hR.congr (upto_full _ _ (Nat.le_refl _))
      have e3 := hR2.cell 15 (by omega)
      have f3 := hR2.free 15
      have hand := i64_and15 (dg 65536 X 15)
      obtain ⟨t, ht⟩ : ∃ t, t = dg 65536 X 15 := ⟨_, rfl⟩
      rw [← ht] at e3 hand
      have HT := Lib.hid ht
      have HR := Lib.hid hR2
      have HZ := Lib.hid hZ
      have HBel := Lib.hid hbel
      clear hA hR hR2 hZ hbel ht
      have hfin : Arr .i64 (wr.setCell ⟨w.heap.size + 2, 15, none⟩ (.int .i64 (t % 32768))) (w.heap.size + 2) 16 (dg 65536 (X % 2 ^ 255)) := (HR.out.set 15 (t % 32768)).congr (fun i hi => by rw [HT.out]; exact top_bit X i hi)
      have hZ2 : Arr .i64 (wr.setCell ⟨w.heap.size + 2, 15, none⟩ (.int .i64 (t % 32768))) (w.heap.size + 1) 16 (fun _ => 0) := HZ.out.other (by first | omega | (simp <;> omega)) _
      have hb2 := HBel.out.setCell (p := ⟨w.heap.size + 2, 15, none⟩) (by first | omega | (simp <;> omega)) (.int .i64 (t % 32768))
      go_wp2_with (first
        | (refine load_str rfl 141 _ rfl .i64 (w.heap.size + 2) 16 _ Try.underlying141 rfl Try.size141 rfl hfin ?_)
        | (refine store_arr rfl 141 _ _ rfl .i64 (w.heap.size + 1) 16 (fun _ => 0) _ Try.size141 rfl rfl hZ2 ?_))
      exact bodyPost_ret (results_str rfl _ _ .i64 (w.heap.size + 1) 16 _ rfl (hZ2.setRow _ _) Try.underlying141 rfl Try.size141) rfl ⟨rfl, below_setRow' hb2 (by omega) _⟩

set_option maxRecDepth 100000 in
set_option maxHeartbeats 800000 in
theorem feSmall_any (n : Int) (w : World) :
    Calls Try.prog 93 #[.int .i64 n] w fun e w' => e = .returned (El (smallF n)) ∧ Below w.heap.size w w' := by
  unfold El
  have key : ∀ h : Nat → Int, Fe h (smallN n) → (0 ≤ n ∧ n < 65536 → h = upd (fun _ => 0) 0 n) → (¬ (0 ≤ n ∧ n < 65536) → h = fun _ => 0) →
      Calls Try.prog 93 #[.int .i64 n] w fun e w' => e = .returned (.agg (arr .i64 16 h)) ∧ Below w.heap.size w w' := by
    intro h _ hy hn
    have HY := Lib.hid hy
    have HN := Lib.hid hn
    clear hy hn
    go_enter Try.func93, Try.ntmps93
    go_upto_region 2 with (fail)
    refine wp_world (fun w1 => Arr .i64 w1 w.heap.size 16 (fun _ => 0) ∧ Arr .i64 w1 (w.heap.size + 1) 16 (fun _ => 0) ∧ Below w.heap.size w w1)
      ⟨Arr.alloc (Arr.newAt (by first | omega | (simp <;> omega)) (by rfl)) _, Arr.newAt (by first | omega | (simp <;> omega)) (by rfl), ((Below.refl _ _).alloc (Nat.le_refl _) _).alloc (by simp) _⟩ ?_
    rintro w1 ⟨hZ, hR, hb⟩
    have f1 := hR.free 0
    have e1 := hR.cell 0 (by decide)
    by_cases h0 : 0 ≤ n
    · by_cases h1 : n < 65536
      · have hE := HY.out ⟨h0, h1⟩
        subst hE
        have hR2 := hR.set 0 n
        have hZ2 := hZ.other (p := ⟨w.heap.size + 1, 0, none⟩) (by first | omega | (simp <;> omega)) (.int .i64 n)
        have hb2 := hb.setCell (p := ⟨w.heap.size + 1, 0, none⟩) (by first | omega | (simp <;> omega)) (.int .i64 n)
        clear hZ hR hb
        go_wp2_with (first
          | (refine load_str rfl 141 _ rfl .i64 (w.heap.size + 1) 16 _ Try.underlying141 rfl Try.size141 rfl hR2 ?_)
          | (refine store_arr rfl 141 _ _ rfl .i64 w.heap.size 16 (fun _ => 0) _ Try.size141 rfl rfl hZ2 ?_))
        exact bodyPost_ret (results_str rfl _ _ .i64 w.heap.size 16 _ rfl (hZ2.setRow _ _) Try.underlying141 rfl Try.size141) rfl ⟨rfl, below_setRow' hb2 (by omega) _⟩
      · have hE := HN.out (by omega)
        subst hE
        go_wp2_with (first
          | (refine load_str rfl 141 _ rfl .i64 (w.heap.size + 1) 16 _ Try.underlying141 rfl Try.size141 rfl hR ?_)
          | (refine store_arr rfl 141 _ _ rfl .i64 w.heap.size 16 (fun _ => 0) _ Try.size141 rfl rfl hZ ?_))
        exact bodyPost_ret (results_str rfl _ _ .i64 w.heap.size 16 _ rfl (hZ.setRow _ _) Try.underlying141 rfl Try.size141) rfl ⟨rfl, below_setRow' hb (by omega) _⟩
    · have hE := HN.out (by omega)
      subst hE
      have hd : decide (0 ≤ n) = false := by simpa using h0
      go_wp2_with (first
        | (refine load_str rfl 141 _ rfl .i64 (w.heap.size + 1) 16 _ Try.underlying141 rfl Try.size141 rfl hR ?_)
        | (refine store_arr rfl 141 _ _ rfl .i64 w.heap.size 16 (fun _ => 0) _ Try.size141 rfl rfl hZ ?_))
      exact bodyPost_ret (results_str rfl _ _ .i64 w.heap.size 16 _ rfl (hZ.setRow _ _) Try.underlying141 rfl Try.size141) rfl ⟨rfl, below_setRow' hb (by omega) _⟩
  exact key (smallF n) (fe_smallF n) (fun h => if_pos h) (fun h => if_neg h)

theorem near_i64 {f : Nat → Int} (h : ∀ i, i < 16 → 0 ≤ f i ∧ f i < 65536) : ∀ i, i < 16 → -9223372036854775808 ≤ f i ∧ f i < 9223372036854775808 := fun i hi => by have := h i hi; omega

set_option maxRecDepth 100000 in
set_option maxHeartbeats 3200000 in
theorem feChoose_any (f g : Nat → Int) (yes : Int) (hy : yes = 0 ∨ yes = 1) (hf : ∀ i, i < 16 → -9223372036854775808 ≤ f i ∧ f i < 9223372036854775808) (hg : ∀ i, i < 16 → -9223372036854775808 ≤ g i ∧ g i < 9223372036854775808) (w : World) :
    Calls Try.prog 104 #[El f, El g, .int .i64 yes] w fun e w' => e = .returned (El (if yes = 1 then g else f)) ∧ Below w.heap.size w w' := by
  obtain ⟨h, hh⟩ : ∃ h, h = if yes = 1 then g else f := ⟨_, rfl⟩
  rw [← hh]
  have key : ∀ i, i < 16 → bits .xor .i64 (f i) (bits .and .i64 (-yes) (bits .xor .i64 (f i) (g i))) = h i := by
    intro i hi
    have xb := i64_xor_bound (f i) (g i)
    rcases hy with rfl | rfl
    · rw [hh, if_neg (by decide)]
      rw [show -(0 : Int) = 0 by decide, i64_and_zero, i64_xor_zero (hf i hi).1 (hf i hi).2]
    · rw [hh, if_pos rfl, i64_and_ones xb.1 xb.2, i64_xor_back _ (hg i hi).1 (hg i hi).2]
  have HK := Lib.hid key
  have HF := Lib.hid hf
  have HG := Lib.hid hg
  have y0 : 0 ≤ yes := by omega
  have y1 : yes ≤ 1 := by omega
  clear key hf hg hh hy
  unfold El
  go_enter Try.func104, Try.ntmps104
  go_wp2
  go_loopw [8] (fun i wr => ∃ k : Nat, k ≤ 16 ∧ i = .int .i64 k ∧ Arr .i64 wr w.heap.size 16 (upto k h f) ∧ Arr .i64 wr (w.heap.size + 1) 16 g ∧ Arr .i64 wr (w.heap.size + 2) 16 (fun _ => 0) ∧ Below w.heap.size w wr) (fun i _ => 16 - (intOf i).toNat)
  case atStart => exact ⟨0, Nat.zero_le _, rfl, by rw [upto_zero]; exact Arr.alloc (Arr.alloc (Arr.newAt (by first | omega | (simp <;> omega)) (by rfl)) _) _, Arr.alloc (Arr.newAt (by first | omega | (simp <;> omega)) (by rfl)) _, Arr.newAt (by first | omega | (simp <;> omega)) (by rfl), (((Below.refl _ _).alloc (Nat.le_refl _) _).alloc (by simp) _).alloc (by simp; omega) _⟩
  case round =>
    obtain ⟨k, hk, rfl, hA, hB, hZ, hbel⟩ := hrel
    by_cases hlt : k < 16
    · have e1 := hA.cell k hlt
      have e2 := hB.cell k hlt
      have f1 := hA.free k
      rw [upto_at] at e1
      have HKk := Lib.hid (HK.out k hlt)
      obtain ⟨x, hx⟩ : ∃ x, x = f k := ⟨_, rfl⟩
      obtain ⟨y, hy⟩ : ∃ y, y = g k := ⟨_, rfl⟩
      rw [← hx] at e1 HKk
      rw [← hy] at e2 HKk
      clear hx hy
      have HA := Lib.hid hA
      have HB := Lib.hid hB
      have HZ := Lib.hid hZ
      have HBel := Lib.hid hbel
      clear hA hB hZ hbel
      go_wp2
      go_region
      all_goals
        go_wp2
        go_roundw
        case rel => exact ⟨k + 1, by omega, by go_num, by rw [← upto_step HKk.out]; exact (HA.out.set k _).drew, (HB.out.other (by first | omega | (simp <;> omega)) _).drew, (HZ.out.other (by first | omega | (simp <;> omega)) _).drew, (HBel.out.setCell (Nat.le_refl _) _).drew⟩
        case measure => simp [intOf] <;> omega
    · obtain rfl : k = 16 := by omega
      have hA2 := hA.congr (upto_full _ _ (Nat.le_refl _))
      clear hA hB
      go_wp2_with (first
        | (refine load_str rfl 141 _ rfl .i64 w.heap.size 16 _ Try.underlying141 rfl Try.size141 rfl hA2 ?_)
        | (refine store_arr rfl 141 _ _ rfl .i64 (w.heap.size + 2) 16 (fun _ => 0) _ Try.size141 rfl rfl hZ ?_))
      exact bodyPost_ret (results_str rfl _ _ .i64 (w.heap.size + 2) 16 _ rfl (hZ.setRow _ _) Try.underlying141 rfl Try.size141) rfl ⟨rfl, below_setRow' hbel (by omega) _⟩

/-- the prime's digits. -/
def pdig (k : Nat) : Int := if k = 0 then 65517 else if k = 15 then 32767 else 65535
theorem pdig_eq (k : Nat) (h : k < 16) : pdig k = dg 65536 Pr k := by
  have key : ∀ k : Fin 16, pdig k.val = dg 65536 Pr k.val := by decide
  exact key ⟨k, h⟩
theorem bor2_next (X Y : Int) (k : Nat) (c : Int) (hc : c = bor2 X Y k) (h0 : 0 ≤ c) (h1 : c ≤ 1) :
    (dg 65536 X k - dg 65536 Y k - c) % 65536 = dg 65536 (X - Y) k ∧ (dg 65536 X k - dg 65536 Y k - c) / 65536 % 2 = bor2 X Y (k + 1) ∧ 0 ≤ (dg 65536 X k - dg 65536 Y k - c) / 65536 % 2 ∧ (dg 65536 X k - dg 65536 Y k - c) / 65536 % 2 ≤ 1 := by
  subst hc
  unfold bor2 dg at *
  rw [div_succ (by decide) X, div_succ (by decide) Y, div_succ (by decide) (X - Y)]
  omega
theorem bor2_last {X Y c : Int} (hX : 0 ≤ X ∧ X < 65536 ^ 16) (hY : 0 ≤ Y ∧ Y < 65536 ^ 16) (hc : c = bor2 X Y 16) : 1 - c = if Y ≤ X then 1 else 0 := by
  unfold bor2 at hc
  rw [Int.ediv_eq_zero_of_lt hX.1 hX.2, Int.ediv_eq_zero_of_lt hY.1 hY.2] at hc
  by_cases h : Y ≤ X
  · rw [Int.ediv_eq_zero_of_lt (by omega) (by omega)] at hc
    rw [if_pos h]; omega
  · have : (X - Y) / 65536 ^ 16 = -1 := by omega
    rw [this] at hc
    rw [if_neg h]; omega
/-- 1, if the prime is not above a number. -/
def geP (Y : Int) : Int := if Pr ≤ Y then 1 else 0

set_option maxRecDepth 100000 in
set_option maxHeartbeats 3200000 in
theorem feLess_any (Y : Int) (h0 : 0 ≤ Y) (h1 : Y < 65536 ^ 16) (w : World) :
    Calls Try.prog 112 #[El (dg 65536 Y)] w fun e w' => e = .returned (.tuple #[El (dg 65536 (Y - Pr)), .int .i64 (geP Y)]) ∧ Below w.heap.size w w' := by
  have H0 := Lib.hid h0
  have H1 := Lib.hid h1
  clear h0 h1
  unfold El
  go_enter Try.func112, Try.ntmps112
  go_wp2
  go_loopw [4, 8] (fun c i wr => ∃ (k : Nat) (z : Int), k ≤ 16 ∧ z = bor2 Y Pr k ∧ 0 ≤ z ∧ z ≤ 1 ∧ c = .int .i64 z ∧ i = .int .i64 k ∧ Arr .i64 wr w.heap.size 16 (upto k (dg 65536 (Y - Pr)) (dg 65536 Y)) ∧ Arr .i64 wr (w.heap.size + 1) 16 (fun _ => 0) ∧ Below w.heap.size w wr) (fun _ i _ => 16 - (intOf i).toNat)
  case atStart => exact ⟨0, 0, Nat.zero_le _, (bor2_zero _ _).symm, by decide, by decide, rfl, rfl, by rw [upto_zero]; exact Arr.alloc (Arr.newAt (by first | omega | (simp <;> omega)) (by rfl)) _, Arr.newAt (by first | omega | (simp <;> omega)) (by rfl), ((Below.refl _ _).alloc (Nat.le_refl _) _).alloc (by simp) _⟩
  case round =>
    obtain ⟨k, z, hk, hz, z0, z1, rfl, rfl, hA, hZ, hbel⟩ := hrel
    have HZ' := Lib.hid hz
    clear hz
    by_cases hlt : k < 16
    · have e1 := hA.cell k hlt
      have f1 := hA.free k
      rw [upto_at] at e1
      obtain ⟨x0, x1⟩ := dg_bound (by decide : (0 : Int) < 65536) Y k
      have hst := bor2_next Y Pr k z HZ'.out z0 z1
      rw [← pdig_eq k hlt] at hst
      have HST := Lib.hid hst
      have HA := Lib.hid hA
      have HZ := Lib.hid hZ
      have HBel := Lib.hid hbel
      have m1 := i64_and16 (dg 65536 Y k - pdig k - z)
      have m2 := i64_and1 ((dg 65536 Y k - pdig k - z) / 65536)
      clear hA hZ hbel hst
      by_cases hk0 : k = 0
      · subst hk0
        have hp : pdig 0 = 65517 := rfl
        rw [hp] at m1 m2 HST
        clear hp
        go_wp2
        go_roundw
        case rel => exact ⟨1, _, by omega, HST.out.2.1, HST.out.2.2.1, HST.out.2.2.2, rfl, by go_num, by rw [← upto_step HST.out.1]; exact HA.out.set 0 _, HZ.out.other (by first | omega | (simp <;> omega)) _, HBel.out.setCell (Nat.le_refl _) _⟩
        case measure => simp [intOf] <;> omega
      · by_cases hk15 : k = 15
        · subst hk15
          have hp : pdig 15 = 32767 := rfl
          rw [hp] at m1 m2 HST
          clear hp
          go_wp2
          go_roundw
          case rel => exact ⟨16, _, by omega, HST.out.2.1, HST.out.2.2.1, HST.out.2.2.2, rfl, by go_num, by rw [← upto_step HST.out.1]; exact HA.out.set 15 _, HZ.out.other (by first | omega | (simp <;> omega)) _, HBel.out.setCell (Nat.le_refl _) _⟩
          case measure => simp [intOf] <;> omega

        · have hp : pdig k = 65535 := by unfold pdig; rw [if_neg hk0, if_neg hk15]
          rw [hp] at m1 m2 HST
          have t1 : ((k : Int) == 0) = false := by simpa using hk0
          have t2 : ((k : Int) == 15) = false := by simp; omega
          clear hp
          go_wp2
          go_roundw
          case rel => exact ⟨k + 1, _, by omega, HST.out.2.1, HST.out.2.2.1, HST.out.2.2.2, rfl, by go_num, by rw [← upto_step HST.out.1]; exact HA.out.set k _, HZ.out.other (by first | omega | (simp <;> omega)) _, HBel.out.setCell (Nat.le_refl _) _⟩
          case measure => simp [intOf] <;> omega

    · obtain rfl : k = 16 := by omega
      have hA2 := hA.congr (upto_full _ _ (Nat.le_refl _))
      have HL := Lib.hid (bor2_last ⟨H0.out, H1.out⟩ Pr16 HZ'.out)
      have HA2 := Lib.hid hA2
      have HBel := Lib.hid hbel
      clear hA hA2 hbel
      go_wp2_with (first
        | (refine load_str rfl 141 _ rfl .i64 w.heap.size 16 _ Try.underlying141 rfl Try.size141 rfl HA2.out ?_)
        | (refine store_arr rfl 141 _ _ rfl .i64 (w.heap.size + 1) 16 (fun _ => 0) _ Try.size141 rfl rfl hZ ?_))
      exact bodyPost_ret (results_str2 rfl _ _ .i64 (w.heap.size + 1) 16 _ rfl (hZ.setRow _ _) Try.underlying141 rfl Try.size141) rfl ⟨by rw [show geP Y = 1 - z from HL.out.symm]; rfl, below_setRow' HBel.out (by omega) _⟩
end Go.Proofs.Ytllkfkbioloaoaa
