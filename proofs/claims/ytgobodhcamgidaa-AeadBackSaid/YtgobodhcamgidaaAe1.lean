/-
  aead.gap, aead.size, aead.Equal, aead.Size: what each answers. Conditions: named in each theorem.
-/
import Derived.Test.YtgobodhcamgidaaAeN
import Derived.Test.YtgobodhcamgidaaLow
import Derived.Test.YtgobodhcamgidaaPoR3
import Derived.Test.YtgobodhcamgidaaCh7
import Derived.Test.YtgobodhcamgidaaChO
import Derived.Test.YtgobodhcamgidaaSame
set_option linter.unusedVariables false
set_option linter.unusedSimpArgs false
namespace Go.Bas
open Go.RowKit
/-- the tag of a sealed text, as a number. -/
def aTag (key nonce : Nat → Int) (nb : Nat) (fb : Nat → Int) (nh : Nat) (fh : Nat → Int) : Int := tagN (sm 256 (blkB key nonce 0) 32) (macF nb fb nh fh) (macN nb nh)
theorem aTag_congr {key nonce : Nat → Int} {nb nh : Nat} {fb fb' fh fh' : Nat → Int} (hb : ∀ i, i < nb → fb i = fb' i) (hh : ∀ i, i < nh → fh i = fh' i) : aTag key nonce nb fb nh fh = aTag key nonce nb fb' nh fh' := by
  unfold aTag tagN
  rw [accN_congr (macF_congr hb hh)]
theorem xor_zero_iff (a b : Nat) : a ^^^ b = 0 ↔ a = b := by
  constructor
  · intro h
    have h2 : (a ^^^ b) ^^^ b = 0 ^^^ b := by rw [h]
    rw [Nat.xor_assoc, Nat.xor_self, Nat.xor_zero, Nat.zero_xor] at h2
    exact h2
  · rintro rfl; exact Nat.xor_self _
theorem or_xor {x a b : Int} (x0 : 0 ≤ x ∧ x < 256) (a0 : 0 ≤ a ∧ a < 256) (b0 : 0 ≤ b ∧ b < 256) : (0 ≤ bits .or .u8 x (bits .xor .u8 a b) ∧ bits .or .u8 x (bits .xor .u8 a b) < 256) ∧ (bits .or .u8 x (bits .xor .u8 a b) = 0 ↔ x = 0 ∧ a = b) := by
  have h1 : (a.toNat ^^^ b.toNat) < 256 := Nat.xor_lt_two_pow (n := 8) (by omega) (by omega)
  have h2 : (x.toNat ||| (a.toNat ^^^ b.toNat)) < 256 := Nat.or_lt_two_pow (n := 8) (by omega) h1
  rw [u8_xor a b a0.1 a0.2 b0.1 b0.2, u8_or x _ x0.1 x0.2 (by omega) (by omega), Int.toNat_natCast]
  refine ⟨by omega, ?_⟩
  have h3 : (x.toNat ||| (a.toNat ^^^ b.toNat)) = 0 ↔ x.toNat = 0 ∧ a.toNat = b.toNat := by
    rw [Nat.or_eq_zero_iff, xor_zero_iff]
  omega
end Go.Bas
namespace Go.Proofs.Ytgobodhcamgidaa
open Go.RowKit Go.Bas
attribute [local go_sem ↓] Go.wp_at_zero Go.wp_at_succ

theorem aGap_any (n : Nat) (hn : n ≤ 1048576) (w : World) :
    Calls Try.prog 68 #[.int .i64 n] w fun e w' => ∃ v, e = .returned v ∧ Rd .u8 w' v (gp n) (fun _ => 0) ∧ Below w.heap.size w w' := by
  obtain ⟨G, hG⟩ : ∃ G : Nat, G = gp n := ⟨_, rfl⟩
  have hg : (16 - (n : Int) % 16) % 16 = (G : Int) := by rw [hG]; unfold gp; omega
  have hl : G < 16 := by rw [hG]; exact gp_lt n
  rw [← hG]
  have h1 : Int.tmod (n : Int) 16 = (n : Int) % 16 := Int.tmod_eq_emod_of_nonneg (by omega)
  have h2 : Int.tmod (16 - (n : Int) % 16) 16 = (G : Int) := by rw [Int.tmod_eq_emod_of_nonneg (by omega)]; exact hg
  clear hG
  go_enter Try.func68, Try.ntmps68
  go_wp2_with (refine make_ints rfl _ _ 22 rfl w.heap.size 5 .u8 1 Try.underlying22 Try.info5 .i64 .i64 G rfl rfl (by omega) (by omega) (Nat.le_refl _) ?_; intro w2 hown hgrow)
  go_ret
  exact ⟨_, rfl, hown.rd, below_grown0 (Below.refl _ _) hgrow (Nat.le_refl _)⟩

theorem aSize_any (v : Value) (n : Nat) (f : Nat → Int) (w : World) (hv : Rd .u8 w v n f) (hn : n ≤ 1048576) :
    Calls Try.prog 69 #[v] w fun e w' => ∃ v, e = .returned v ∧ Rd .u8 w' v 8 (num8 n) ∧ Below w.heap.size w w' := by
  obtain ⟨a1, c1, rfl, l1, m1, z1, h1⟩ := hv
  clear z1 h1
  go_enter Try.func69, Try.ntmps69
  go_wp2_with fail
  refine (low_ok n 8 _ (by decide) (by decide) (by omega) (by omega) (fun h => absurd h (by decide))).mono ?_
  rintro e w2 ⟨v, rfl, hv, hb⟩
  have HV := Lib.hid hv.rd
  clear hv
  go_wp2
  go_ret
  exact ⟨_, rfl, HV.out, hb⟩

theorem aEqual_len (va vb : Value) (n m : Nat) (f g : Nat → Int) (w : World) (ha : Rd .u8 w va n f) (hb : Rd .u8 w vb m g) (h : n ≠ m) :
    Calls Try.prog 45 #[va, vb] w fun e w' => e = .returned (.bool false) ∧ Below w.heap.size w w' := by
  obtain ⟨a1, c1, rfl, l1, m1, z1, h1⟩ := ha
  obtain ⟨a2, c2, rfl, l2, m2, z2, h2⟩ := hb
  clear h1 h2 z1 z2
  go_enter Try.func45, Try.ntmps45
  go_wp2
  go_ret
  exact ⟨rfl, Below.refl _ _⟩
theorem ret_bl {a b : Bool} (h : a = b) : Ending.returned (.bool a) = .returned (.bool b) := by rw [h]
set_option maxHeartbeats 400000 in
theorem aEqual_any (va vb : Value) (n : Nat) (f g : Nat → Int) (w : World) (ha : Rd .u8 w va n f) (hb : Rd .u8 w vb n g) (hf : ∀ i, i < n → 0 ≤ f i ∧ f i < 256) (hg : ∀ i, i < n → 0 ≤ g i ∧ g i < 256) :
    Calls Try.prog 45 #[va, vb] w fun e w' => e = .returned (.bool (sameB n f g)) ∧ Below w.heap.size w w' := by
  obtain ⟨a1, c1, rfl, l1, m1, z1, h1⟩ := ha
  obtain ⟨a2, c2, rfl, l2, m2, z2, h2⟩ := hb
  have H1 := Lib.hid h1
  have H2 := Lib.hid h2
  have HF := Lib.hid hf
  have HG := Lib.hid hg
  clear h1 h2 z1 z2 hf hg
  go_enter Try.func45, Try.ntmps45
  go_wp2
  go_loopw [5, 14] (fun d i wr => ∃ (k : Nat) (x : Int), k ≤ n ∧ i = .int .i64 k ∧ d = .int .u8 x ∧ (0 ≤ x ∧ x < 256) ∧ (x = 0 ↔ ∀ j, j < k → f j = g j) ∧ Below w.heap.size w wr) (fun _ i _ => n - (intOf i).toNat)
  case atStart => exact ⟨0, 0, Nat.zero_le _, rfl, rfl, by decide, by simp, Below.refl _ _⟩
  case round =>
    obtain ⟨k, x, hk, rfl, rfl, hx, hiff, hnx⟩ := hrel
    have HX := Lib.hid hiff
    clear hiff
    by_cases hlt : k < n
    · obtain ⟨b1, o1, rfl, s1, e1⟩ := H1.out (by omega)
      obtain ⟨b2, o2, rfl, s2, e2⟩ := H2.out (by omega)
      replace e1 := (hnx.cell s1).trans (e1 k hlt)
      replace e2 := (hnx.cell s2).trans (e2 k hlt)
      have HO := Lib.hid (or_xor hx (HF.out k hlt) (HG.out k hlt))
      go_wp2
      go_quiet (fail)
      go_wp2
      go_roundw
      case rel =>
        refine ⟨k + 1, _, by omega, by go_num, rfl, HO.out.1, ?_, below_drewN hnx _⟩
        rw [HO.out.2, HX.out]
        constructor
        · rintro ⟨q1, q2⟩ j hj
          by_cases e : j = k
          · rw [e]; exact q2
          · exact q1 j (by omega)
        · exact fun q => ⟨fun j hj => q j (by omega), q k (by omega)⟩
      case measure => simp [intOf] <;> omega
    · obtain rfl : k = n := by omega
      by_cases hx0 : x = 0
      · subst hx0
        have HS : Hid (true = sameB k f g) := by unfold Hid; exact (sameB_yes (HX.out.1 rfl)).symm
        go_wp2
        go_ret
        exact ⟨ret_bl HS.out, hnx⟩
      · have hxb : (x == 0) = false := by simpa using hx0
        have HS : Hid (false = sameB k f g) := by unfold Hid; exact (sameB_no (fun q => hx0 (HX.out.2 q))).symm
        clear hx0
        go_wp2
        go_ret
        exact ⟨ret_bl HS.out, hnx⟩
theorem aSz_low (n : Int) (h0 : 0 ≤ n) (h1 : n ≤ 1048560) (w : World) : Calls Try.prog 42 #[.int .i64 n] w fun e w' => e = .returned (.int .i64 (n + 16)) ∧ w = w' := by
  go_enter Try.func42, Try.ntmps42
  go_wp2
  go_ret
  exact ⟨rfl, rfl⟩
theorem aSz_out (n : Int) (h : n < 0 ∨ 1048560 < n) (w : World) : Calls Try.prog 42 #[.int .i64 n] w fun e w' => e = .returned (.int .i64 0) ∧ w = w' := by
  by_cases h0 : n < 0
  · clear h
    go_enter Try.func42, Try.ntmps42
    go_wp2
    go_ret
    exact ⟨rfl, rfl⟩
  · have h1 : 1048560 < n := by omega
    have h2 : 0 ≤ n := by omega
    clear h h0
    go_enter Try.func42, Try.ntmps42
    go_wp2
    go_ret
    exact ⟨rfl, rfl⟩
/-- how many bytes a sealed text has. -/
def sizeN (n : Int) : Int := if 0 ≤ n ∧ n ≤ 1048560 then n + 16 else 0
theorem aSz_any (n : Int) (w : World) : Calls Try.prog 42 #[.int .i64 n] w fun e w' => e = .returned (.int .i64 (sizeN n)) ∧ Below w.heap.size w w' := by
  unfold sizeN
  by_cases h : 0 ≤ n ∧ n ≤ 1048560
  · rw [if_pos h]; exact (aSz_low n h.1 h.2 w).mono fun e w' ⟨h1, h2⟩ => ⟨h1, h2 ▸ Below.refl _ _⟩
  · rw [if_neg h]; exact (aSz_out n (by omega) w).mono fun e w' ⟨h1, h2⟩ => ⟨h1, h2 ▸ Below.refl _ _⟩
end Go.Proofs.Ytgobodhcamgidaa
