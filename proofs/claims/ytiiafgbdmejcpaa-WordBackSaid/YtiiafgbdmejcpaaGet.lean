/-
  word.Get, word.GetLow and bastilleref01.Get: each answers the number of the bytes, or why there is none. Conditions: each byte is one.
-/
import Derived.Test.YtiiafgbdmejcpaaRows
import Derived.Test.YtiiafgbdmejcpaaKit
import Derived.Test.YtiiafgbdmejcpaaPut
namespace Go.Proofs.Ytiiafgbdmejcpaa
open Go.RowKit Go.Bas

set_option maxRecDepth 100000 in
set_option maxHeartbeats 400000 in
theorem get_core (va : Value) (n : Nat) (f : Nat → Int) (w : World) (ha : Rd .u8 w va n f) (h0 : 1 ≤ n) (h8 : n ≤ 8) (hf : ∀ i, i < n → 0 ≤ f i ∧ f i < 256) :
    Calls Try.prog 19 #[va] w fun e w' => e = .returned (.tuple #[.int .i64 (getNum f n), .int .i64 (getErr f n)]) ∧ Below w.heap.size w w' := by
  obtain ⟨a1, c1, rfl, l1, m1, z1, h1⟩ := ha
  obtain ⟨b, o, rfl, hs, hc⟩ := h1 (by omega)
  have HC := Lib.hid hc
  have HF := Lib.hid hf
  clear z1 hc hf h1
  go_enter Try.func19, Try.ntmps19
  go_wp2
  go_loopw [4, 17] (fun x i wr => ∃ k : Nat, k ≤ n ∧ x = .int .u64 (big f k) ∧ i = .int .i64 k ∧ Below w.heap.size w wr) (fun _ i _ => n - (intOf i).toNat)
  case atStart => exact ⟨0, Nat.zero_le _, rfl, rfl, Below.refl _ _⟩
  case round =>
    obtain ⟨k, hk, rfl, rfl, hbel⟩ := hrel
    by_cases hlt : k < n
    · have e1 := (hbel.cell (p := ⟨b, o + k, none⟩) hs).trans (HC.out k hlt)
      obtain ⟨f0, f1⟩ := HF.out k hlt
      have b0 := (big_bound HF.out k hk).1
      have b2 : big f k < 72057594037927936 := big_lt HF.out k 7 hk (by omega)
      go_wp2
      go_roundw
      case rel => exact ⟨k + 1, by omega, by rw [or_u64 b0 b2 f0 f1]; rfl, by go_num, hbel⟩
      case measure => simp [intOf] <;> omega
    · obtain rfl : k = n := by omega
      have b0 := (big_bound HF.out k hk).1
      have b2 : big f k < 18446744073709551616 := big_lt HF.out k 8 hk (by omega)
      by_cases hle : big f k ≤ 4611686018427387904
      · have h1 : getNum f k = big f k := if_neg (by omega)
        have h2 : getErr f k = 0 := by simp [getErr, show k ≠ 0 by omega, show ¬ 8 < k by omega, show ¬ 4611686018427387904 < big f k by omega]
        have H1 := Lib.hid h1
        have H2 := Lib.hid h2
        clear h1 h2
        go_wp2
        go_ret2
        exact ⟨by rw [H1.out, H2.out]; rfl, hbel⟩
      · have h1 : getNum f k = 0 := if_pos (by omega)
        have h2 : getErr f k = 11 := by simp [getErr, show k ≠ 0 by omega, show ¬ 8 < k by omega, show 4611686018427387904 < big f k by omega]
        have H1 := Lib.hid h1
        have H2 := Lib.hid h2
        clear h1 h2
        go_wp2
        go_ret2
        exact ⟨by rw [H1.out, H2.out]; rfl, hbel⟩

set_option maxRecDepth 100000 in
set_option maxHeartbeats 400000 in
theorem get_nil (va : Value) (f : Nat → Int) (w : World) (ha : Rd .u8 w va 0 f) :
    Calls Try.prog 19 #[va] w fun e w' => Below w.heap.size w w' ∧ e = .returned (.tuple #[.int .i64 0, .int .i64 10]) := by
  obtain ⟨a1, c1, rfl, l1, m1, z1, h1⟩ := ha
  clear h1 z1
  go_enter Try.func19, Try.ntmps19
  go_wp2
  go_ret2
  exact ⟨Below.refl _ _, rfl⟩

set_option maxRecDepth 100000 in
set_option maxHeartbeats 400000 in
theorem get_long (va : Value) (n : Nat) (f : Nat → Int) (w : World) (ha : Rd .u8 w va n f) (h : 8 < n) :
    Calls Try.prog 19 #[va] w fun e w' => Below w.heap.size w w' ∧ e = .returned (.tuple #[.int .i64 0, .int .i64 2]) := by
  obtain ⟨a1, c1, rfl, l1, m1, z1, h1⟩ := ha
  clear h1 z1
  have hz : ((n : Int) == 0) = false := by simp; omega
  have hz' : (8 : Int) < n := by omega
  go_enter Try.func19, Try.ntmps19
  go_wp2
  go_ret2
  exact ⟨Below.refl _ _, rfl⟩

theorem get_any (va : Value) (n : Nat) (f : Nat → Int) (w : World) (ha : Rd .u8 w va n f) (hf : ∀ i, i < n → 0 ≤ f i ∧ f i < 256) :
    Calls Try.prog 19 #[va] w fun e w' => e = .returned (.tuple #[.int .i64 (getNum f n), .int .i64 (getErr f n)]) ∧ Below w.heap.size w w' := by
  by_cases h0 : n = 0
  · subst h0
    exact (get_nil va f w ha).mono fun e w' ⟨h1, h2⟩ => ⟨by rw [h2]; rfl, h1⟩
  by_cases h8 : 8 < n
  · exact (get_long va n f w ha h8).mono fun e w' ⟨h1, h2⟩ => ⟨by rw [h2]; simp [getNum, getErr, h0, h8], h1⟩
  exact get_core va n f w ha (by omega) (by omega) hf

set_option maxRecDepth 100000 in
set_option maxHeartbeats 400000 in
theorem getLow_any (va : Value) (n : Nat) (f : Nat → Int) (w : World) (ha : Rd .u8 w va n f) (hf : ∀ i, i < n → 0 ≤ f i ∧ f i < 256) :
    Calls Try.prog 20 #[va] w fun e w' => e = .returned (.tuple #[.int .i64 (getNum (fun i => f (n - 1 - i)) n), .int .i64 (getErr (fun i => f (n - 1 - i)) n)]) ∧ Below w.heap.size w w' := by
  have HA := Lib.hid ha
  have HF := Lib.hid hf
  obtain ⟨a1, c1, rfl, l1, m1, z1, h1⟩ := ha
  clear h1 z1 hf
  by_cases h8 : 8 < n
  · have h8' : (8 : Int) < n := by omega
    have HN : Hid (getNum (fun i => f (n - 1 - i)) n = 0) := by simp [Hid, getNum, h8]
    have HE : Hid (getErr (fun i => f (n - 1 - i)) n = 2) := by simp [Hid, getErr, h8, show n ≠ 0 by omega]
    go_enter Try.func20, Try.ntmps20
    go_wp2_with fail
    go_ret2
    exact ⟨by rw [HN.out, HE.out]; rfl, Below.refl _ _⟩
  · have h8' : (n : Int) ≤ 8 := by omega
    go_enter Try.func20, Try.ntmps20
    go_wp2_with fail
    refine (turned_any _ n f _ HA.out (by omega)).mono ?_
    rintro e w1 ⟨v, rfl, hown, hbel⟩
    have HO := Lib.hid hown
    clear hown
    go_wp2_with fail
    refine (get_any _ n _ _ HO.out.rd (fun i hi => HF.out _ (by omega))).mono ?_
    rintro e w2 ⟨rfl, hbel2⟩
    go_wp2_with fail
    go_ret2
    exact ⟨rfl, hbel.trans (hbel2.mono hbel.size)⟩

set_option maxRecDepth 100000 in
set_option maxHeartbeats 800000 in
theorem Get_any (va : Value) (n : Nat) (f : Nat → Int) (w : World) (ha : Rd .u8 w va n f) (hf : ∀ i, i < n → 0 ≤ f i ∧ f i < 256) :
    Calls Try.prog 21 #[va] w fun e w' => e = .returned (.tuple #[.int .i64 (getNum f n), .int .i64 (getErr f n)]) ∧ Below w.heap.size w w' := by
  have HF := Lib.hid hf
  obtain ⟨a1, c1, rfl, l1, m1, z1, h1⟩ := ha
  by_cases h0 : n = 0
  · subst h0
    have HN : Hid (getNum f 0 = 0) := rfl
    have HE : Hid (getErr f 0 = 10) := rfl
    clear h1 z1 hf
    go_enter Try.func21, Try.ntmps21
    go_wp2
    go_ret2
    exact ⟨by rw [HN.out, HE.out]; rfl, Below.refl _ _⟩
  have hz : ((n : Int) == 0) = false := by simp; omega
  by_cases h8 : 8 < n
  · have h8' : (8 : Int) < n := by omega
    have HN : Hid (getNum f n = 0) := by simp [Hid, getNum, h8]
    have HE : Hid (getErr f n = 2) := by simp [Hid, getErr, h8, show n ≠ 0 by omega]
    clear h1 z1 hf
    go_enter Try.func21, Try.ntmps21
    go_wp2
    go_ret2
    exact ⟨by rw [HN.out, HE.out]; rfl, Below.refl _ _⟩
  obtain ⟨b, o, rfl, hs, hc⟩ := h1 (by omega)
  have h8' : (n : Int) ≤ 8 := by omega
  have HC := Lib.hid hc
  clear z1 hc hf h1
  go_enter Try.func21, Try.ntmps21
  go_wp2
  go_loopw [4, 5] (fun x i wr => ∃ (k : Nat) (q : Int), k ≤ n ∧ q = big f k ∧ 0 ≤ q ∧ q ≤ 4611686018427387904 ∧ x = .int .i64 q ∧ i = .int .i64 k ∧ Below w.heap.size w wr) (fun _ i _ => n - (intOf i).toNat)
  case atStart => exact ⟨0, 0, Nat.zero_le _, rfl, by decide, by decide, rfl, rfl, Below.refl _ _⟩
  case round =>
    obtain ⟨k, q, hk, hq, hq0, hq1, rfl, rfl, hbel⟩ := hrel
    have HQ := Lib.hid hq
    clear hq
    by_cases hlt : k < n
    · have e1 := (hbel.cell (p := ⟨b, o + k, none⟩) hs).trans (HC.out k hlt)
      obtain ⟨f0, f1⟩ := HF.out k hlt
      have hnext : big f (k + 1) = 256 * q + f k := by rw [big, ← HQ.out]
      have HX := Lib.hid hnext
      clear hnext
      by_cases hover : 4611686018427387904 < 256 * q + f k
      · have hm := big_mono HF.out (k + 1) (by omega) n (by omega) (Nat.le_refl _)
        rw [HX.out] at hm
        have HN : Hid (getNum f n = 0) := by unfold Hid getNum; rw [if_pos (by omega)]
        have HE : Hid (getErr f n = 11) := by unfold Hid getErr; rw [if_neg (by omega), if_neg (by omega), if_pos (by omega)]
        clear hm
        by_cases hq2 : 18014398509481984 < q
        · clear hover
          go_wp2
          go_ret2
          exact ⟨by rw [HN.out, HE.out]; rfl, hbel⟩
        · have hq3 : (q == 18014398509481984) = true := by simp; omega
          have hf0 : 0 < f k := by omega
          clear hover
          go_wp2
          go_ret2
          exact ⟨by rw [HN.out, HE.out]; rfl, hbel⟩
      · have hq2 : ¬ 18014398509481984 < q := by omega
        by_cases hq3 : q = 18014398509481984
        · have hq3 : (q == 18014398509481984) = true := by simp; omega
          have hf0 : ¬ 0 < f k := by omega
          go_wp2
          go_roundw
          case rel => exact ⟨k + 1, 256 * q + f k, by omega, HX.out.symm, by omega, by omega, by go_num, by go_num, hbel⟩
          case measure => simp [intOf] <;> omega
        · have hq3 : (q == 18014398509481984) = false := by simp; omega
          go_wp2
          go_roundw
          case rel => exact ⟨k + 1, 256 * q + f k, by omega, HX.out.symm, by omega, by omega, by go_num, by go_num, hbel⟩
          case measure => simp [intOf] <;> omega
    · obtain rfl : k = n := by omega
      have h1 : getNum f k = q := by unfold getNum; rw [if_neg (by rw [← HQ.out]; omega), HQ.out]
      have h2 : getErr f k = 0 := by unfold getErr; rw [if_neg (by omega), if_neg (by omega), if_neg (by rw [← HQ.out]; omega)]
      have H1 := Lib.hid h1
      have H2 := Lib.hid h2
      clear h1 h2
      go_wp2
      go_ret2
      exact ⟨by rw [H1.out, H2.out]; rfl, hbel⟩
end Go.Proofs.Ytiiafgbdmejcpaa
