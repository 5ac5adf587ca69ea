/-
  sha.Root: what it answers. Conditions: named in each theorem.
-/
import Derived.Test.YtgobodhcamgidaaRt4
import Derived.Test.YtgobodhcamgidaaStr
set_option linter.unusedVariables false
set_option linter.unusedSimpArgs false
namespace Go.Bas
open Go.RowKit
theorem M64_k {k : Nat} (hk : k = 2 ∨ k = 3) : (18446744073709551616 : Int) ^ k = 2 ^ (64 * k) := by rcases hk with rfl | rfl <;> decide
theorem root_step {p : Int} {a k : Nat} (hk : k = 2 ∨ k = 3) (hp : p ≤ 500) (h : (((a : Int) + 1) * M64) ^ k ≤ p * 2 ^ (64 * k)) : a + 1 ≤ 500 := by
  rw [← M64_k hk] at h
  have hM : M64 = 18446744073709551616 := rfl
  have e : (((a : Int) + 1) * M64) ^ k = ((a : Int) + 1) ^ k * 18446744073709551616 ^ k := by rw [hM, Int.mul_pow]
  rw [e] at h
  have hpos : (0 : Int) < 18446744073709551616 ^ k := Int.pow_pos (by decide)
  have h1 : ((a : Int) + 1) ^ k ≤ p := Int.le_of_mul_le_mul_right h hpos
  have h2 : (a : Int) + 1 ≤ ((a : Int) + 1) ^ k := by
    have : ((a : Int) + 1) ^ 1 ≤ ((a : Int) + 1) ^ k := pow_mono _ (by omega) 1 k (by omega)
    rwa [Int.pow_succ, Int.pow_zero, Int.one_mul] at this
  omega
/-- half of two to the t. -/
def hb2 (t : Nat) : Int := 2 ^ t / 2
theorem hb2_succ (t : Nat) : hb2 (t + 1) = 2 ^ t := by unfold hb2; rw [Int.pow_succ]; omega
theorem hb2_half (t : Nat) : 2 ^ t / 2 = hb2 t := rfl
theorem bit_add {P : Int} {t : Nat} (h0 : 0 ≤ P) (h1 : P < M64) (ht : t < 64) (hd : P % 2 ^ (t + 1) = 0) :
    P + 2 ^ t < M64 ∧ bits .or .u64 P (2 ^ t) = P + 2 ^ t ∧ P % 2 ^ t = 0 ∧ (P + 2 ^ t) % 2 ^ t = 0 := by
  have hpt : (0 : Int) < 2 ^ t := Int.pow_pos (by decide)
  have hpt1 : (0 : Int) < 2 ^ (t + 1) := Int.pow_pos (by decide)
  have e1 : M64 = 2 ^ (64 - (t + 1)) * 2 ^ (t + 1) := by rw [← Int.pow_add, show 64 - (t + 1) + (t + 1) = 64 by omega]; rfl
  obtain ⟨q, hq⟩ := Int.dvd_of_emod_eq_zero hd
  have e2 : (2 : Int) ^ (t + 1) = 2 * 2 ^ t := by rw [Int.pow_succ, Int.mul_comm]
  have hlt : P + 2 ^ (t + 1) ≤ M64 := by
    have hqm : q < 2 ^ (64 - (t + 1)) := by
      rw [hq, e1, Int.mul_comm] at h1
      exact Int.lt_of_mul_lt_mul_right h1 (Int.le_of_lt (Int.pow_pos (by decide)))
    have := Int.mul_le_mul_of_nonneg_right (show q + 1 ≤ 2 ^ (64 - (t + 1)) by omega) (Int.le_of_lt hpt1)
    rw [← e1, Int.add_mul, Int.one_mul, Int.mul_comm q] at this
    omega
  have hm : P % 2 ^ t = 0 := by rw [hq, e2, Int.mul_assoc, Int.mul_left_comm, Int.mul_emod_right]
  refine ⟨by omega, ?_, hm, by rw [Int.add_emod_right]; exact hm⟩
  have hpl : (2 : Int) ^ t < M64 := by omega
  unfold M64 at h1 hpl
  rw [u64_or P (2 ^ t) h0 h1 (by omega) hpl]
  have hpn : ((2 : Int) ^ t).toNat = 2 ^ t := by
    have : (2 : Int) ^ t = ((2 ^ t : Nat) : Int) := by simp
    rw [this, Int.toNat_natCast]
  have hPn : P.toNat = 2 ^ (t + 1) * q.toNat := by
    have hq0 : 0 ≤ q := by
      apply Classical.byContradiction
      intro hc
      have h2 := Int.mul_le_mul_of_nonneg_left (show q ≤ -1 by omega) (Int.le_of_lt hpt1)
      have h3 : (0 : Int) < 2 ^ (t + 1) := Int.pow_pos (by decide)
      omega
    obtain ⟨Q', rfl⟩ := Int.eq_ofNat_of_zero_le hq0
    rw [hq, show (2 : Int) ^ (t + 1) * (Q' : Int) = ((2 ^ (t + 1) * Q' : Nat) : Int) by simp, Int.toNat_natCast, Int.toNat_natCast]
  rw [hpn, hPn, ← Nat.two_pow_add_eq_or_of_lt (show 2 ^ t < 2 ^ (t + 1) from Nat.pow_lt_pow_right (by decide) (by omega)), ← hPn, Int.natCast_add, Int.toNat_of_nonneg h0]
  simp
theorem shr1 (x : Int) : Int.fdiv x (2 ^ (min (Int.toNat 1) IntKind.u64.bits)) = x / 2 := Int.fdiv_eq_ediv_of_nonneg x (by decide)
/-- what a root answers. -/
def RootP (p : Int) (k : Nat) (w : World) (e : Ending) (w' : World) : Prop := ∃ X, isRoot p k X ∧ e = .returned (.tuple #[.int .u64 (X % M64), .int .i64 0]) ∧ Below w.heap.size w w'
end Go.Bas
namespace Go.Proofs.Ytgobodhcamgidaa
open Go.RowKit Go.Bas
attribute [local go_sem ↓] Go.wp_at_zero Go.wp_at_succ

set_option maxRecDepth 100000 in
set_option maxHeartbeats 6400000 in
theorem root_any (p : Int) (k : Nat) (hk : k = 2 ∨ k = 3) (p0 : 2 ≤ p) (p1 : p ≤ 500) (w : World) :
    Calls Try.prog 21 #[.int .i64 p, .int .i64 k] w (RootP p k w) := by
  obtain ⟨T, hT⟩ : ∃ T, T = p * 2 ^ (64 * k) := ⟨_, rfl⟩
  obtain ⟨AB, hAB⟩ : ∃ AB : Int → Int → Bool, AB = fun u v => gtN 18446744073709551616 p k ((u * M64 + v) ^ k) := ⟨_, rfl⟩
  have HAB : Hid (∀ u v, AB u v = decide (T < (u * M64 + v) ^ k)) := by
    rw [hAB, hT]; intro u v
    show gtN 18446744073709551616 p k ((u * M64 + v) ^ k) = _
    unfold gtN
    rw [M64_k hk]
  have HC : Hid (∀ u v w, 0 ≤ u ∧ u < M64 → 0 ≤ v ∧ v < M64 → Calls Try.prog 53 #[.int .u64 u, .int .u64 v, .int .i64 p, .int .i64 k] w fun e w' => e = .returned (.bool (AB u v)) ∧ Below w.heap.size w w') := by
    rw [hAB]; exact fun u v w hu hv => sAbove_any u v p k hk hu hv (by omega) p1 w
  have HST : Hid (∀ a : Nat, (((a : Int) + 1) * M64) ^ k ≤ T → a + 1 ≤ 500) := by rw [hT]; exact fun a h => root_step hk p1 h
  have HRP : Hid (∀ X w e w', 0 ≤ X → X ^ k ≤ T → T < (X + 1) ^ k → e = .returned (.tuple #[.int .u64 (X % M64), .int .i64 0]) → Below w.heap.size w w' → RootP p k w e w') := by
    rw [hT]; exact fun X w e w' h0 h1 h2 h3 h4 => ⟨X, ⟨h0, h1, h2⟩, h3, h4⟩
  have HT0 : Hid ((((0 : Nat) : Int) * M64) ^ k ≤ T) := by
    unfold Hid
    rw [hT]
    have h1 : (0 : Int) < 2 ^ (64 * k) := Int.pow_pos (by decide)
    have h2 := Int.mul_nonneg (show 0 ≤ p by omega) (Int.le_of_lt h1)
    rcases hk with rfl | rfl <;> simpa using h2
  have HK := Lib.hid hk
  have hk23 : 2 ≤ k := by omega
  have hk32 : k ≤ 3 := by omega
  obtain ⟨RP, hRP⟩ : ∃ RP, RP = RootP p k w := ⟨_, rfl⟩
  have HRP2 : Hid (∀ X e w', 0 ≤ X → X ^ k ≤ T → T < (X + 1) ^ k → e = .returned (.tuple #[.int .u64 (X % M64), .int .i64 0]) → Below w.heap.size w w' → RP e w') := by
    rw [hRP]; exact fun X e w' => HRP.out X w e w'
  rw [← hRP]
  clear hT hAB hk hRP HRP
  go_enter Try.func21, Try.ntmps21
  go_upto_region 1 with (fail)
  rcases HK.out with hk2 | hk2
  case' inl =>
    have K1 : Hid ((((k : Nat) : Int) != 2) = false) := by unfold Hid; subst hk2; rfl
    clear hk2
  case' inr =>
    have K1 : Hid ((((k : Nat) : Int) != 2) = true) := by unfold Hid; subst hk2; rfl
    have K2 : Hid ((((k : Nat) : Int) != 3) = false) := by unfold Hid; subst hk2; rfl
    clear hk2
  case inl =>
    refine region_flow (n := 47) (by kernel_rfl) (by kernel_rfl) (by kernel_rfl) rfl
      (fun ii vv _ => (match ii with | 0 => vv = .int .i64 ((k : Int)) | 1 | 2 | 5 | 6 | 8 | 9 | 10 | 12 | 13 => vv = .bool false | 3 | 4 => vv = undef | 7 | 11 => vv = .int .i64 (p) | _ => True))
      (fun w w' => Below w.heap.size w w') (fun _ _ h => h) (fun _ _ _ _ h _ => h) ?_ ?_
    · refine Each.all ?_
      refine ⟨?_, ?_, ?_, ?_, ?_, ?_, ?_, ?_, ?_, ?_, ?_, ?_, ?_, ?_, trivial⟩
      · intro a w2 hB hF hd
        rw [if_pos (wanted_none rfl)]
        exact flow_move _ (.inl rfl) (by simp) (hF.same 1 rfl)
      · intro a w2 hB hF hd
        rw [if_pos (wanted_none rfl)]
        exact flow_val (fun h => by cases h) (Go.Bas.run_neq_int rfl (hd 0 _ rfl (waits_spec rfl)) rfl) (congrArg Value.bool (K1.out))
      · intro a w2 hB hF hd
        rw [if_pos (wanted_none rfl)]
        exact flow_move _ (.inl rfl) (by simp) (hd 1 _ rfl (waits_spec rfl))
      · intro a w2 hB hF hd
        rw [if_neg (by rw [wanted_some rfl rfl (hd 2 _ rfl (waits_spec rfl))]; decide)]
        exact rfl
      · intro a w2 hB hF hd
        rw [if_neg (by rw [wanted_some rfl rfl (hd 2 _ rfl (waits_spec rfl))]; decide)]
        exact rfl
      · intro a w2 hB hF hd
        rw [if_pos (wanted_none rfl)]
        exact flow_val (fun h => by cases h) (run_pick rfl (hd 2 _ rfl (waits_spec rfl))) (rfl)
      · intro a w2 hB hF hd
        rw [if_pos (wanted_none rfl)]
        exact flow_move _ (.inl rfl) (by simp) (hd 5 _ rfl (waits_spec rfl))
      · intro a w2 hB hF hd
        refine flow_wanted (wanted_yes rfl rfl (hd 6 _ rfl (waits_spec rfl)) rfl) ?_
        exact flow_move _ (.inl rfl) (by simp) (hF.same 0 rfl)
      · intro a w2 hB hF hd
        refine flow_wanted (wanted_yes rfl rfl (hd 6 _ rfl (waits_spec rfl)) rfl) ?_
        exact flow_val (fun h => by cases h) (Go.Bas.run_lss rfl (hd 7 _ rfl (waits_spec rfl)) rfl) (congrArg Value.bool (decide_eq_false (by omega)))
      · intro a w2 hB hF hd
        rw [if_pos (wanted_none rfl)]
        exact flow_val (fun h => by cases h) (run_pick rfl (hd 6 _ rfl (waits_spec rfl))) ((hd 8 _ rfl (waits_spec rfl)))
      · intro a w2 hB hF hd
        rw [if_pos (wanted_none rfl)]
        exact flow_move _ (.inl rfl) (by simp) (hd 9 _ rfl (waits_spec rfl))
      · intro a w2 hB hF hd
        refine flow_wanted (wanted_yes rfl rfl (hd 10 _ rfl (waits_spec rfl)) rfl) ?_
        exact flow_move _ (.inl rfl) (by simp) (hF.same 0 rfl)
      · intro a w2 hB hF hd
        refine flow_wanted (wanted_yes rfl rfl (hd 10 _ rfl (waits_spec rfl)) rfl) ?_
        exact flow_val (fun h => by cases h) (Go.Bas.run_gtr rfl (hd 11 _ rfl (waits_spec rfl)) rfl) (congrArg Value.bool (decide_eq_false (by omega)))
      · intro a w2 hB hF hd
        rw [if_pos (wanted_none rfl)]
        exact flow_val (fun h => by cases h) (run_pick rfl (hd 10 _ rfl (waits_spec rfl))) ((hd 12 _ rfl (waits_spec rfl)))
    · intro a w1 hB hF hS
      have ha := puts_each rfl rfl hF [_, _, _, _, _, _, _, _, _, _, _, _, _, _] rfl ⟨hS 0 _ rfl, hS 1 _ rfl, hS 2 _ rfl, hS 3 _ rfl, hS 4 _ rfl, hS 5 _ rfl, hS 6 _ rfl, hS 7 _ rfl, hS 8 _ rfl, hS 9 _ rfl, hS 10 _ rfl, hS 11 _ rfl, hS 12 _ rfl, hS 13 _ rfl, trivial⟩
      simp only [puts, Act.put, List.setIfInBounds_toArray, List.set_cons_succ, List.set_cons_zero] at ha
      subst ha
      clear hS hF
      have hb1 := hB
      clear hB
      go_wp2
      go_loopw [6] (fun u wr => ∃ c : Nat, c ≤ 500 ∧ u = .int .u64 (c : Int) ∧ Hid (((c : Int) * M64) ^ k ≤ T) ∧ Below w.heap.size w wr) (fun u _ => 500 - (intOf u).toNat)
      case atStart => exact ⟨0, by decide, rfl, HT0.out, hb1⟩
      case round =>
        clear hb1
        obtain ⟨c, hc, rfl, hcT, hbel⟩ := hrel
        have hs := hbel.size
        have hM : (501 : Int) < M64 := by decide
        have ec : (((c : Int) + 1) * M64 + 0) ^ k = (((c : Int) + 1) * M64) ^ k := by rw [Int.add_zero]
        have con := HC.out ((c : Int) + 1) 0 wr ⟨by omega, by omega⟩ ⟨by decide, by decide⟩
        by_cases hgt : T < (((c : Int) + 1) * M64) ^ k
        · rw [HAB.out, ec, decide_eq_true hgt] at con
          have CON := Lib.hid con
          have HGT := Lib.hid hgt
          clear con hgt ec hM
          go_wp2_with fail
          refine CON.out.mono ?_
          rintro e w2 ⟨rfl, hb2⟩
          have hbel2 := hbel.trans (hb2.mono hs)
          clear hb2 hbel hs CON
          go_wp2
          go_loopw [7, 8] (fun u v wr => ∃ (P : Int) (t : Nat), u = .int .u64 P ∧ v = .int .u64 (hb2 t) ∧ t ≤ 64 ∧ Hid (0 ≤ P ∧ P < M64 ∧ P % 2 ^ t = 0 ∧ ((c : Int) * M64 + P) ^ k ≤ T ∧ T < ((c : Int) * M64 + P + 2 ^ t) ^ k) ∧ Below w.heap.size w wr) (fun _ v _ => (intOf v).toNat)
          case atStart => exact ⟨0, 64, rfl, rfl, Nat.le_refl _, ⟨by decide, by decide, by simp, by rw [Int.add_zero]; exact hcT.out, by have := HGT.out; rw [Int.add_mul, Int.one_mul] at this; rw [Int.add_zero]; exact this⟩, hbel2⟩
          case round =>
            clear HGT hcT hbel2
            obtain ⟨P, t, rfl, rfl, ht, hP, hbel⟩ := hrel
            have hs := hbel.size
            cases t with
            | zero =>
              have hz : hb2 0 = 0 := rfl
              rw [hz]
              clear hz
              obtain ⟨h0, h1, _, h3, h4⟩ := hP.out
              have hM : 0 ≤ M64 := by decide
              have HFIN := Lib.hid (HRP2.out ((c : Int) * M64 + P) (.returned (.tuple #[.int .u64 P, .int .i64 0])) wr (by have := Int.mul_nonneg (show (0 : Int) ≤ (c : Int) by omega) hM; omega) h3 (by simpa using h4) (by rw [Int.add_comm, Int.add_mul_emod_self_right, Int.emod_eq_of_lt h0 h1]) hbel)
              clear h0 h1 h3 h4 hM
              go_wp2
              exact HFIN.out
            | succ t =>
              rw [hb2_succ t]
              obtain ⟨h0, h1, h2, h3, h4⟩ := hP.out
              obtain ⟨b1, b2, b3, b4⟩ := bit_add h0 h1 (by omega) h2
              have hpt : (0 : Int) < 2 ^ t := Int.pow_pos (by decide)
              have hdbl : (2 : Int) ^ (t + 1) = 2 ^ t + 2 ^ t := by rw [Int.pow_succ]; omega
              obtain ⟨q, hq⟩ : ∃ q, q = (2 : Int) ^ t := ⟨_, rfl⟩
              rw [← hq] at b1 b2 b3 b4 hpt hdbl ⊢
              obtain ⟨C, hC⟩ : ∃ C, C = P + q := ⟨_, rfl⟩
              rw [← hC] at b1 b2 b4
              have cb0 : 0 ≤ (c : Int) ∧ (c : Int) < M64 := ⟨by omega, by have : (501 : Int) < M64 := (by decide); omega⟩
              have con := fun w => HC.out (c : Int) C w cb0 ⟨by omega, b1⟩
              have hnew : Hid (hb2 t = q / 2) := by rw [hq]; exact rfl
              have eC : (c : Int) * M64 + P + q = (c : Int) * M64 + C := by omega
              by_cases hgt : T < ((c : Int) * M64 + C) ^ k
              · skip
                have HNX : Hid (0 ≤ P ∧ P < M64 ∧ P % 2 ^ t = 0 ∧ ((c : Int) * M64 + P) ^ k ≤ T ∧ T < ((c : Int) * M64 + P + 2 ^ t) ^ k) := ⟨h0, h1, by rw [← hq]; exact b3, h3, by rw [← hq, eC]; exact hgt⟩
                have con2 : ∀ w, Calls Try.prog 53 #[.int .u64 (c : Int), .int .u64 C, .int .i64 p, .int .i64 k] w fun e w' => e = .returned (.bool true) ∧ Below w.heap.size w w' := fun w => by
                  have := con w
                  rwa [HAB.out, decide_eq_true hgt] at this
                have CON := Lib.hid con2
                have B2 := Lib.hid b2
                have hq2 : 1 ≤ q := by omega
                clear con con2 cb0 h0 h1 h2 h3 h4 b1 b2 b3 b4 hdbl hq hC eC hgt hP
                go_upto_region 9 with (fail)
                refine region_flow (n := 47) (by kernel_rfl) (by kernel_rfl) (by kernel_rfl) rfl
                  (fun ii vv _ => (match ii with | 0 => vv = .int .u64 ((c : Int)) | 1 => vv = .int .u64 (P) | 2 => vv = .int .u64 (q) | 3 => vv = .int .u64 (C) | 4 => vv = .int .i64 (p) | 5 => vv = .int .i64 ((k : Int)) | 6 => vv = .bool true | 7 => vv = .bool false | _ => True))
                  (fun w w' => Below w.heap.size w w') (fun _ _ h => h) (fun _ _ _ _ h _ => h) ?_ ?_
                · refine Each.all ?_
                  refine ⟨?_, ?_, ?_, ?_, ?_, ?_, ?_, ?_, trivial⟩
                  · intro a w2 hB hF hd
                    rw [if_pos (wanted_none rfl)]
                    exact flow_move _ (.inl rfl) (by simp) (hF.same 6 rfl)
                  · intro a w2 hB hF hd
                    rw [if_pos (wanted_none rfl)]
                    exact flow_move _ (.inl rfl) (by simp) (hF.same 7 rfl)
                  · intro a w2 hB hF hd
                    rw [if_pos (wanted_none rfl)]
                    exact flow_move _ (.inl rfl) (by simp) (hF.same 8 rfl)
                  · intro a w2 hB hF hd
                    rw [if_pos (wanted_none rfl)]
                    exact flow_val (fun h => by cases h) (Go.Bas.run_or rfl (hd 1 _ rfl (waits_spec rfl)) (hd 2 _ rfl (waits_spec rfl))) (congrArg (Value.int .u64) (B2.out))
                  · intro a w2 hB hF hd
                    rw [if_pos (wanted_none rfl)]
                    exact flow_move _ (.inl rfl) (by simp) (hF.same 0 rfl)
                  · intro a w2 hB hF hd
                    rw [if_pos (wanted_none rfl)]
                    exact flow_move _ (.inl rfl) (by simp) (hF.same 1 rfl)
                  · intro a w2 hB hF hd
                    rw [if_pos (wanted_none rfl)]
                    refine flow_call _ _ _ rfl Try.call53 _ (args4 (hd 0 _ rfl (waits_spec rfl)) (hd 3 _ rfl (waits_spec rfl)) (hd 4 _ rfl (waits_spec rfl)) (hd 5 _ rfl (waits_spec rfl))) (by simp) (((CON.out _)).mono ?_)
                    rintro e w3 ⟨rfl, hb⟩; exact ⟨_, rfl, rfl, hb⟩
                  · intro a w2 hB hF hd
                    rw [if_pos (wanted_none rfl)]
                    exact flow_val (fun h => by cases h) (run_not rfl (hd 6 _ rfl (waits_spec rfl))) rfl
                · intro a w3 hB hF hS
                  have ha := puts_each rfl rfl hF [_, _, _, _, _, _, _, _] rfl ⟨hS 0 _ rfl, hS 1 _ rfl, hS 2 _ rfl, hS 3 _ rfl, hS 4 _ rfl, hS 5 _ rfl, hS 6 _ rfl, hS 7 _ rfl, trivial⟩
                  simp only [puts, Act.put, List.setIfInBounds_toArray, List.set_cons_succ, List.set_cons_zero] at ha
                  subst ha
                  clear hS hF
                  have hbel3 := hbel.trans (hB.mono hs)
                  clear hB hbel hs
                  go_upto_region 8 with (fail)
                  refine region_tail (n := 47) 2 (by decide) (by kernel_rfl) (by kernel_rfl) (by kernel_rfl) (by kernel_rfl) rfl
                    (fun ii vv _ => (match ii with | 0 => vv = .int .u64 (q) | 1 => vv = .int .u64 (q / 2) | _ => True))
                    (fun _ _ _ _ h _ => h) ?_ ?_
                  · refine Each.all ?_
                    refine ⟨?_, ?_, (fun h => absurd h (by decide)), trivial⟩
                    · intro _ a w2 hB hF hd
                      rw [if_pos (wanted_none rfl)]
                      exact flow_move _ (.inl rfl) (by simp) (hF.same 8 rfl)
                    · intro _ a w2 hB hF hd
                      rw [if_pos (wanted_none rfl)]
                      exact flow_val (fun h => by cases h) (Go.Bas.run_shr rfl (hd 0 _ rfl (waits_spec rfl)) rfl (by omega)) (congrArg (Value.int .u64) (shr1 q))
                  · intro a w5 hB hF hS
                    have ha := puts_each rfl rfl hF [_, _] rfl ⟨hS 0 _ rfl (by decide), hS 1 _ rfl (by decide), trivial⟩
                    simp only [puts, List.take_succ_cons, List.take_zero, Act.put, List.setIfInBounds_toArray, List.set_cons_succ, List.set_cons_zero] at ha
                    subst ha
                    change tl _ _ _ (_ :: []) _ _
                    clear hS hF
                    refine tl_move rfl _ (.inr rfl) (tl_nil ?_)
                    have hbel5 := hbel3.trans (hB.mono hbel3.size)
                    clear hB hbel3
                    simp only [Act.put, Act.eval, List.setIfInBounds_toArray, List.set_cons_succ, List.set_cons_zero]
                    go_wp2
                    go_roundw
                    case rel => first | exact ⟨_, t, rfl, by rw [hnew.out]; rfl, by omega, HNX, hbel5⟩ | ((repeat apply Exists.intro); exact ⟨⟨_, t, rfl, by rw [hnew.out]; rfl, by omega, HNX, hbel5⟩, rfl⟩)
                    case measure => simp [intOf] <;> omega
              · skip
                have HNX : Hid (0 ≤ C ∧ C < M64 ∧ C % 2 ^ t = 0 ∧ ((c : Int) * M64 + C) ^ k ≤ T ∧ T < ((c : Int) * M64 + C + 2 ^ t) ^ k) := ⟨by omega, b1, by rw [← hq]; exact b4, by omega, by rw [← hq, show (c : Int) * M64 + C + q = (c : Int) * M64 + P + (q + q) by omega, ← hdbl]; exact h4⟩
                have con2 : ∀ w, Calls Try.prog 53 #[.int .u64 (c : Int), .int .u64 C, .int .i64 p, .int .i64 k] w fun e w' => e = .returned (.bool false) ∧ Below w.heap.size w w' := fun w => by
                  have := con w
                  rwa [HAB.out, decide_eq_false hgt] at this
                have CON := Lib.hid con2
                have B2 := Lib.hid b2
                have hq2 : 1 ≤ q := by omega
                clear con con2 cb0 h0 h1 h2 h3 h4 b1 b2 b3 b4 hdbl hq hC eC hgt hP
                go_upto_region 9 with (fail)
                refine region_flow (n := 47) (by kernel_rfl) (by kernel_rfl) (by kernel_rfl) rfl
                  (fun ii vv _ => (match ii with | 0 => vv = .int .u64 ((c : Int)) | 1 => vv = .int .u64 (P) | 2 => vv = .int .u64 (q) | 3 => vv = .int .u64 (C) | 4 => vv = .int .i64 (p) | 5 => vv = .int .i64 ((k : Int)) | 6 => vv = .bool false | 7 => vv = .bool true | _ => True))
                  (fun w w' => Below w.heap.size w w') (fun _ _ h => h) (fun _ _ _ _ h _ => h) ?_ ?_
                · refine Each.all ?_
                  refine ⟨?_, ?_, ?_, ?_, ?_, ?_, ?_, ?_, trivial⟩
                  · intro a w2 hB hF hd
                    rw [if_pos (wanted_none rfl)]
                    exact flow_move _ (.inl rfl) (by simp) (hF.same 6 rfl)
                  · intro a w2 hB hF hd
                    rw [if_pos (wanted_none rfl)]
                    exact flow_move _ (.inl rfl) (by simp) (hF.same 7 rfl)
                  · intro a w2 hB hF hd
                    rw [if_pos (wanted_none rfl)]
                    exact flow_move _ (.inl rfl) (by simp) (hF.same 8 rfl)
                  · intro a w2 hB hF hd
                    rw [if_pos (wanted_none rfl)]
                    exact flow_val (fun h => by cases h) (Go.Bas.run_or rfl (hd 1 _ rfl (waits_spec rfl)) (hd 2 _ rfl (waits_spec rfl))) (congrArg (Value.int .u64) (B2.out))
                  · intro a w2 hB hF hd
                    rw [if_pos (wanted_none rfl)]
                    exact flow_move _ (.inl rfl) (by simp) (hF.same 0 rfl)
                  · intro a w2 hB hF hd
                    rw [if_pos (wanted_none rfl)]
                    exact flow_move _ (.inl rfl) (by simp) (hF.same 1 rfl)
                  · intro a w2 hB hF hd
                    rw [if_pos (wanted_none rfl)]
                    refine flow_call _ _ _ rfl Try.call53 _ (args4 (hd 0 _ rfl (waits_spec rfl)) (hd 3 _ rfl (waits_spec rfl)) (hd 4 _ rfl (waits_spec rfl)) (hd 5 _ rfl (waits_spec rfl))) (by simp) (((CON.out _)).mono ?_)
                    rintro e w3 ⟨rfl, hb⟩; exact ⟨_, rfl, rfl, hb⟩
                  · intro a w2 hB hF hd
                    rw [if_pos (wanted_none rfl)]
                    exact flow_val (fun h => by cases h) (run_not rfl (hd 6 _ rfl (waits_spec rfl))) rfl
                · intro a w3 hB hF hS
                  have ha := puts_each rfl rfl hF [_, _, _, _, _, _, _, _] rfl ⟨hS 0 _ rfl, hS 1 _ rfl, hS 2 _ rfl, hS 3 _ rfl, hS 4 _ rfl, hS 5 _ rfl, hS 6 _ rfl, hS 7 _ rfl, trivial⟩
                  simp only [puts, Act.put, List.setIfInBounds_toArray, List.set_cons_succ, List.set_cons_zero] at ha
                  subst ha
                  clear hS hF
                  have hbel3 := hbel.trans (hB.mono hs)
                  clear hB hbel hs
                  go_upto_region 10 with (fail)
                  refine region_tail (n := 47) 3 (by decide) (by kernel_rfl) (by kernel_rfl) (by kernel_rfl) (by kernel_rfl) rfl
                    (fun ii vv _ => (match ii with | 0 => vv = .int .u64 (P) | 1 => vv = .int .u64 (q) | 2 => vv = .int .u64 (C) | _ => True))
                    (fun _ _ _ _ h _ => h) ?_ ?_
                  · refine Each.all ?_
                    refine ⟨?_, ?_, ?_, (fun h => absurd h (by decide)), trivial⟩
                    · intro _ a w2 hB hF hd
                      rw [if_pos (wanted_none rfl)]
                      exact flow_move _ (.inl rfl) (by simp) (hF.same 7 rfl)
                    · intro _ a w2 hB hF hd
                      rw [if_pos (wanted_none rfl)]
                      exact flow_move _ (.inl rfl) (by simp) (hF.same 8 rfl)
                    · intro _ a w2 hB hF hd
                      rw [if_pos (wanted_none rfl)]
                      exact flow_val (fun h => by cases h) (Go.Bas.run_or rfl (hd 0 _ rfl (waits_spec rfl)) (hd 1 _ rfl (waits_spec rfl))) (congrArg (Value.int .u64) (B2.out))
                  · intro a w4 hB hF hS
                    have ha := puts_each rfl rfl hF [_, _, _] rfl ⟨hS 0 _ rfl (by decide), hS 1 _ rfl (by decide), hS 2 _ rfl (by decide), trivial⟩
                    simp only [puts, List.take_succ_cons, List.take_zero, Act.put, List.setIfInBounds_toArray, List.set_cons_succ, List.set_cons_zero] at ha
                    subst ha
                    change tl _ _ _ (_ :: []) _ _
                    clear hS hF
                    refine tl_move rfl _ (.inr rfl) (tl_nil ?_)
                    have hbel4 := hbel3.trans (hB.mono hbel3.size)
                    clear hB hbel3
                    go_upto_region 8 with (fail)
                    refine region_tail (n := 47) 2 (by decide) (by kernel_rfl) (by kernel_rfl) (by kernel_rfl) (by kernel_rfl) rfl
                      (fun ii vv _ => (match ii with | 0 => vv = .int .u64 (q) | 1 => vv = .int .u64 (q / 2) | _ => True))
                      (fun _ _ _ _ h _ => h) ?_ ?_
                    · refine Each.all ?_
                      refine ⟨?_, ?_, (fun h => absurd h (by decide)), trivial⟩
                      · intro _ a w2 hB hF hd
                        rw [if_pos (wanted_none rfl)]
                        exact flow_move _ (.inl rfl) (by simp) (hF.same 8 rfl)
                      · intro _ a w2 hB hF hd
                        rw [if_pos (wanted_none rfl)]
                        exact flow_val (fun h => by cases h) (Go.Bas.run_shr rfl (hd 0 _ rfl (waits_spec rfl)) rfl (by omega)) (congrArg (Value.int .u64) (shr1 q))
                    · intro a w5 hB hF hS
                      have ha := puts_each rfl rfl hF [_, _] rfl ⟨hS 0 _ rfl (by decide), hS 1 _ rfl (by decide), trivial⟩
                      simp only [puts, List.take_succ_cons, List.take_zero, Act.put, List.setIfInBounds_toArray, List.set_cons_succ, List.set_cons_zero] at ha
                      subst ha
                      change tl _ _ _ (_ :: []) _ _
                      clear hS hF
                      refine tl_move rfl _ (.inr rfl) (tl_nil ?_)
                      have hbel5 := hbel4.trans (hB.mono hbel4.size)
                      clear hB hbel4
                      simp only [Act.put, Act.eval, List.setIfInBounds_toArray, List.set_cons_succ, List.set_cons_zero]
                      go_wp2
                      go_roundw
                      case rel => first | exact ⟨_, t, rfl, by rw [hnew.out]; rfl, by omega, HNX, hbel5⟩ | ((repeat apply Exists.intro); exact ⟨⟨_, t, rfl, by rw [hnew.out]; rfl, by omega, HNX, hbel5⟩, rfl⟩)
                      case measure => simp [intOf] <;> omega
        · rw [HAB.out, ec, decide_eq_false hgt] at con
          have CON := Lib.hid con
          have hcn : c + 1 ≤ 500 := HST.out c (by omega)
          have HGT : Hid ((((c + 1 : Nat) : Int) * M64) ^ k ≤ T) := by unfold Hid; have := Int.not_lt.1 hgt; simpa using this
          clear con hgt ec hM
          go_wp2_with fail
          refine CON.out.mono ?_
          rintro e w2 ⟨rfl, hb2⟩
          have hbel2 := hbel.trans (hb2.mono hs)
          clear hb2 hbel hs CON
          go_wp2
          go_roundw
          case rel => exact ⟨c + 1, hcn, by go_num, HGT, hbel2⟩
          case measure => simp [intOf] <;> omega
  case inr =>
    refine region_flow (n := 47) (by kernel_rfl) (by kernel_rfl) (by kernel_rfl) rfl
      (fun ii vv _ => (match ii with | 0 | 3 => vv = .int .i64 ((k : Int)) | 1 | 2 => vv = .bool true | 4 | 5 | 6 | 8 | 9 | 10 | 12 | 13 => vv = .bool false | 7 | 11 => vv = .int .i64 (p) | _ => True))
      (fun w w' => Below w.heap.size w w') (fun _ _ h => h) (fun _ _ _ _ h _ => h) ?_ ?_
    · refine Each.all ?_
      refine ⟨?_, ?_, ?_, ?_, ?_, ?_, ?_, ?_, ?_, ?_, ?_, ?_, ?_, ?_, trivial⟩
      · intro a w2 hB hF hd
        rw [if_pos (wanted_none rfl)]
        exact flow_move _ (.inl rfl) (by simp) (hF.same 1 rfl)
      · intro a w2 hB hF hd
        rw [if_pos (wanted_none rfl)]
        exact flow_val (fun h => by cases h) (Go.Bas.run_neq_int rfl (hd 0 _ rfl (waits_spec rfl)) rfl) (congrArg Value.bool (K1.out))
      · intro a w2 hB hF hd
        rw [if_pos (wanted_none rfl)]
        exact flow_move _ (.inl rfl) (by simp) (hd 1 _ rfl (waits_spec rfl))
      · intro a w2 hB hF hd
        refine flow_wanted (wanted_yes rfl rfl (hd 2 _ rfl (waits_spec rfl)) rfl) ?_
        exact flow_move _ (.inl rfl) (by simp) (hF.same 1 rfl)
      · intro a w2 hB hF hd
        refine flow_wanted (wanted_yes rfl rfl (hd 2 _ rfl (waits_spec rfl)) rfl) ?_
        exact flow_val (fun h => by cases h) (Go.Bas.run_neq_int rfl (hd 3 _ rfl (waits_spec rfl)) rfl) (congrArg Value.bool (K2.out))
      · intro a w2 hB hF hd
        rw [if_pos (wanted_none rfl)]
        exact flow_val (fun h => by cases h) (run_pick rfl (hd 2 _ rfl (waits_spec rfl))) ((hd 4 _ rfl (waits_spec rfl)))
      · intro a w2 hB hF hd
        rw [if_pos (wanted_none rfl)]
        exact flow_move _ (.inl rfl) (by simp) (hd 5 _ rfl (waits_spec rfl))
      · intro a w2 hB hF hd
        refine flow_wanted (wanted_yes rfl rfl (hd 6 _ rfl (waits_spec rfl)) rfl) ?_
        exact flow_move _ (.inl rfl) (by simp) (hF.same 0 rfl)
      · intro a w2 hB hF hd
        refine flow_wanted (wanted_yes rfl rfl (hd 6 _ rfl (waits_spec rfl)) rfl) ?_
        exact flow_val (fun h => by cases h) (Go.Bas.run_lss rfl (hd 7 _ rfl (waits_spec rfl)) rfl) (congrArg Value.bool (decide_eq_false (by omega)))
      · intro a w2 hB hF hd
        rw [if_pos (wanted_none rfl)]
        exact flow_val (fun h => by cases h) (run_pick rfl (hd 6 _ rfl (waits_spec rfl))) ((hd 8 _ rfl (waits_spec rfl)))
      · intro a w2 hB hF hd
        rw [if_pos (wanted_none rfl)]
        exact flow_move _ (.inl rfl) (by simp) (hd 9 _ rfl (waits_spec rfl))
      · intro a w2 hB hF hd
        refine flow_wanted (wanted_yes rfl rfl (hd 10 _ rfl (waits_spec rfl)) rfl) ?_
        exact flow_move _ (.inl rfl) (by simp) (hF.same 0 rfl)
      · intro a w2 hB hF hd
        refine flow_wanted (wanted_yes rfl rfl (hd 10 _ rfl (waits_spec rfl)) rfl) ?_
        exact flow_val (fun h => by cases h) (Go.Bas.run_gtr rfl (hd 11 _ rfl (waits_spec rfl)) rfl) (congrArg Value.bool (decide_eq_false (by omega)))
      · intro a w2 hB hF hd
        rw [if_pos (wanted_none rfl)]
        exact flow_val (fun h => by cases h) (run_pick rfl (hd 10 _ rfl (waits_spec rfl))) ((hd 12 _ rfl (waits_spec rfl)))
    · intro a w1 hB hF hS
      have ha := puts_each rfl rfl hF [_, _, _, _, _, _, _, _, _, _, _, _, _, _] rfl ⟨hS 0 _ rfl, hS 1 _ rfl, hS 2 _ rfl, hS 3 _ rfl, hS 4 _ rfl, hS 5 _ rfl, hS 6 _ rfl, hS 7 _ rfl, hS 8 _ rfl, hS 9 _ rfl, hS 10 _ rfl, hS 11 _ rfl, hS 12 _ rfl, hS 13 _ rfl, trivial⟩
      simp only [puts, Act.put, List.setIfInBounds_toArray, List.set_cons_succ, List.set_cons_zero] at ha
      subst ha
      clear hS hF
      have hb1 := hB
      clear hB
      go_wp2
      go_loopw [6] (fun u wr => ∃ c : Nat, c ≤ 500 ∧ u = .int .u64 (c : Int) ∧ Hid (((c : Int) * M64) ^ k ≤ T) ∧ Below w.heap.size w wr) (fun u _ => 500 - (intOf u).toNat)
      case atStart => exact ⟨0, by decide, rfl, HT0.out, hb1⟩
      case round =>
        clear hb1
        obtain ⟨c, hc, rfl, hcT, hbel⟩ := hrel
        have hs := hbel.size
        have hM : (501 : Int) < M64 := by decide
        have ec : (((c : Int) + 1) * M64 + 0) ^ k = (((c : Int) + 1) * M64) ^ k := by rw [Int.add_zero]
        have con := HC.out ((c : Int) + 1) 0 wr ⟨by omega, by omega⟩ ⟨by decide, by decide⟩
        by_cases hgt : T < (((c : Int) + 1) * M64) ^ k
        · rw [HAB.out, ec, decide_eq_true hgt] at con
          have CON := Lib.hid con
          have HGT := Lib.hid hgt
          clear con hgt ec hM
          go_wp2_with fail
          refine CON.out.mono ?_
          rintro e w2 ⟨rfl, hb2⟩
          have hbel2 := hbel.trans (hb2.mono hs)
          clear hb2 hbel hs CON
          go_wp2
          go_loopw [7, 8] (fun u v wr => ∃ (P : Int) (t : Nat), u = .int .u64 P ∧ v = .int .u64 (hb2 t) ∧ t ≤ 64 ∧ Hid (0 ≤ P ∧ P < M64 ∧ P % 2 ^ t = 0 ∧ ((c : Int) * M64 + P) ^ k ≤ T ∧ T < ((c : Int) * M64 + P + 2 ^ t) ^ k) ∧ Below w.heap.size w wr) (fun _ v _ => (intOf v).toNat)
          case atStart => exact ⟨0, 64, rfl, rfl, Nat.le_refl _, ⟨by decide, by decide, by simp, by rw [Int.add_zero]; exact hcT.out, by have := HGT.out; rw [Int.add_mul, Int.one_mul] at this; rw [Int.add_zero]; exact this⟩, hbel2⟩
          case round =>
            clear HGT hcT hbel2
            obtain ⟨P, t, rfl, rfl, ht, hP, hbel⟩ := hrel
            have hs := hbel.size
            cases t with
            | zero =>
              have hz : hb2 0 = 0 := rfl
              rw [hz]
              clear hz
              obtain ⟨h0, h1, _, h3, h4⟩ := hP.out
              have hM : 0 ≤ M64 := by decide
              have HFIN := Lib.hid (HRP2.out ((c : Int) * M64 + P) (.returned (.tuple #[.int .u64 P, .int .i64 0])) wr (by have := Int.mul_nonneg (show (0 : Int) ≤ (c : Int) by omega) hM; omega) h3 (by simpa using h4) (by rw [Int.add_comm, Int.add_mul_emod_self_right, Int.emod_eq_of_lt h0 h1]) hbel)
              clear h0 h1 h3 h4 hM
              go_wp2
              exact HFIN.out
            | succ t =>
              rw [hb2_succ t]
              obtain ⟨h0, h1, h2, h3, h4⟩ := hP.out
              obtain ⟨b1, b2, b3, b4⟩ := bit_add h0 h1 (by omega) h2
              have hpt : (0 : Int) < 2 ^ t := Int.pow_pos (by decide)
              have hdbl : (2 : Int) ^ (t + 1) = 2 ^ t + 2 ^ t := by rw [Int.pow_succ]; omega
              obtain ⟨q, hq⟩ : ∃ q, q = (2 : Int) ^ t := ⟨_, rfl⟩
              rw [← hq] at b1 b2 b3 b4 hpt hdbl ⊢
              obtain ⟨C, hC⟩ : ∃ C, C = P + q := ⟨_, rfl⟩
              rw [← hC] at b1 b2 b4
              have cb0 : 0 ≤ (c : Int) ∧ (c : Int) < M64 := ⟨by omega, by have : (501 : Int) < M64 := (by decide); omega⟩
              have con := fun w => HC.out (c : Int) C w cb0 ⟨by omega, b1⟩
              have hnew : Hid (hb2 t = q / 2) := by rw [hq]; exact rfl
              have eC : (c : Int) * M64 + P + q = (c : Int) * M64 + C := by omega
              by_cases hgt : T < ((c : Int) * M64 + C) ^ k
              · skip
                have HNX : Hid (0 ≤ P ∧ P < M64 ∧ P % 2 ^ t = 0 ∧ ((c : Int) * M64 + P) ^ k ≤ T ∧ T < ((c : Int) * M64 + P + 2 ^ t) ^ k) := ⟨h0, h1, by rw [← hq]; exact b3, h3, by rw [← hq, eC]; exact hgt⟩
                have con2 : ∀ w, Calls Try.prog 53 #[.int .u64 (c : Int), .int .u64 C, .int .i64 p, .int .i64 k] w fun e w' => e = .returned (.bool true) ∧ Below w.heap.size w w' := fun w => by
                  have := con w
                  rwa [HAB.out, decide_eq_true hgt] at this
                have CON := Lib.hid con2
                have B2 := Lib.hid b2
                have hq2 : 1 ≤ q := by omega
                clear con con2 cb0 h0 h1 h2 h3 h4 b1 b2 b3 b4 hdbl hq hC eC hgt hP
                go_upto_region 9 with (fail)
                refine region_flow (n := 47) (by kernel_rfl) (by kernel_rfl) (by kernel_rfl) rfl
                  (fun ii vv _ => (match ii with | 0 => vv = .int .u64 ((c : Int)) | 1 => vv = .int .u64 (P) | 2 => vv = .int .u64 (q) | 3 => vv = .int .u64 (C) | 4 => vv = .int .i64 (p) | 5 => vv = .int .i64 ((k : Int)) | 6 => vv = .bool true | 7 => vv = .bool false | _ => True))
                  (fun w w' => Below w.heap.size w w') (fun _ _ h => h) (fun _ _ _ _ h _ => h) ?_ ?_
                · refine Each.all ?_
                  refine ⟨?_, ?_, ?_, ?_, ?_, ?_, ?_, ?_, trivial⟩
                  · intro a w2 hB hF hd
                    rw [if_pos (wanted_none rfl)]
                    exact flow_move _ (.inl rfl) (by simp) (hF.same 6 rfl)
                  · intro a w2 hB hF hd
                    rw [if_pos (wanted_none rfl)]
                    exact flow_move _ (.inl rfl) (by simp) (hF.same 7 rfl)
                  · intro a w2 hB hF hd
                    rw [if_pos (wanted_none rfl)]
                    exact flow_move _ (.inl rfl) (by simp) (hF.same 8 rfl)
                  · intro a w2 hB hF hd
                    rw [if_pos (wanted_none rfl)]
                    exact flow_val (fun h => by cases h) (Go.Bas.run_or rfl (hd 1 _ rfl (waits_spec rfl)) (hd 2 _ rfl (waits_spec rfl))) (congrArg (Value.int .u64) (B2.out))
                  · intro a w2 hB hF hd
                    rw [if_pos (wanted_none rfl)]
                    exact flow_move _ (.inl rfl) (by simp) (hF.same 0 rfl)
                  · intro a w2 hB hF hd
                    rw [if_pos (wanted_none rfl)]
                    exact flow_move _ (.inl rfl) (by simp) (hF.same 1 rfl)
                  · intro a w2 hB hF hd
                    rw [if_pos (wanted_none rfl)]
                    refine flow_call _ _ _ rfl Try.call53 _ (args4 (hd 0 _ rfl (waits_spec rfl)) (hd 3 _ rfl (waits_spec rfl)) (hd 4 _ rfl (waits_spec rfl)) (hd 5 _ rfl (waits_spec rfl))) (by simp) (((CON.out _)).mono ?_)
                    rintro e w3 ⟨rfl, hb⟩; exact ⟨_, rfl, rfl, hb⟩
                  · intro a w2 hB hF hd
                    rw [if_pos (wanted_none rfl)]
                    exact flow_val (fun h => by cases h) (run_not rfl (hd 6 _ rfl (waits_spec rfl))) rfl
                · intro a w3 hB hF hS
                  have ha := puts_each rfl rfl hF [_, _, _, _, _, _, _, _] rfl ⟨hS 0 _ rfl, hS 1 _ rfl, hS 2 _ rfl, hS 3 _ rfl, hS 4 _ rfl, hS 5 _ rfl, hS 6 _ rfl, hS 7 _ rfl, trivial⟩
                  simp only [puts, Act.put, List.setIfInBounds_toArray, List.set_cons_succ, List.set_cons_zero] at ha
                  subst ha
                  clear hS hF
                  have hbel3 := hbel.trans (hB.mono hs)
                  clear hB hbel hs
                  go_upto_region 8 with (fail)
                  refine region_tail (n := 47) 2 (by decide) (by kernel_rfl) (by kernel_rfl) (by kernel_rfl) (by kernel_rfl) rfl
                    (fun ii vv _ => (match ii with | 0 => vv = .int .u64 (q) | 1 => vv = .int .u64 (q / 2) | _ => True))
                    (fun _ _ _ _ h _ => h) ?_ ?_
                  · refine Each.all ?_
                    refine ⟨?_, ?_, (fun h => absurd h (by decide)), trivial⟩
                    · intro _ a w2 hB hF hd
                      rw [if_pos (wanted_none rfl)]
                      exact flow_move _ (.inl rfl) (by simp) (hF.same 8 rfl)
                    · intro _ a w2 hB hF hd
                      rw [if_pos (wanted_none rfl)]
                      exact flow_val (fun h => by cases h) (Go.Bas.run_shr rfl (hd 0 _ rfl (waits_spec rfl)) rfl (by omega)) (congrArg (Value.int .u64) (shr1 q))
                  · intro a w5 hB hF hS
                    have ha := puts_each rfl rfl hF [_, _] rfl ⟨hS 0 _ rfl (by decide), hS 1 _ rfl (by decide), trivial⟩
                    simp only [puts, List.take_succ_cons, List.take_zero, Act.put, List.setIfInBounds_toArray, List.set_cons_succ, List.set_cons_zero] at ha
                    subst ha
                    change tl _ _ _ (_ :: []) _ _
                    clear hS hF
                    refine tl_move rfl _ (.inr rfl) (tl_nil ?_)
                    have hbel5 := hbel3.trans (hB.mono hbel3.size)
                    clear hB hbel3
                    simp only [Act.put, Act.eval, List.setIfInBounds_toArray, List.set_cons_succ, List.set_cons_zero]
                    go_wp2
                    go_roundw
                    case rel => first | exact ⟨_, t, rfl, by rw [hnew.out]; rfl, by omega, HNX, hbel5⟩ | ((repeat apply Exists.intro); exact ⟨⟨_, t, rfl, by rw [hnew.out]; rfl, by omega, HNX, hbel5⟩, rfl⟩)
                    case measure => simp [intOf] <;> omega
              · skip
                have HNX : Hid (0 ≤ C ∧ C < M64 ∧ C % 2 ^ t = 0 ∧ ((c : Int) * M64 + C) ^ k ≤ T ∧ T < ((c : Int) * M64 + C + 2 ^ t) ^ k) := ⟨by omega, b1, by rw [← hq]; exact b4, by omega, by rw [← hq, show (c : Int) * M64 + C + q = (c : Int) * M64 + P + (q + q) by omega, ← hdbl]; exact h4⟩
                have con2 : ∀ w, Calls Try.prog 53 #[.int .u64 (c : Int), .int .u64 C, .int .i64 p, .int .i64 k] w fun e w' => e = .returned (.bool false) ∧ Below w.heap.size w w' := fun w => by
                  have := con w
                  rwa [HAB.out, decide_eq_false hgt] at this
                have CON := Lib.hid con2
                have B2 := Lib.hid b2
                have hq2 : 1 ≤ q := by omega
                clear con con2 cb0 h0 h1 h2 h3 h4 b1 b2 b3 b4 hdbl hq hC eC hgt hP
                go_upto_region 9 with (fail)
                refine region_flow (n := 47) (by kernel_rfl) (by kernel_rfl) (by kernel_rfl) rfl
                  (fun ii vv _ => (match ii with | 0 => vv = .int .u64 ((c : Int)) | 1 => vv = .int .u64 (P) | 2 => vv = .int .u64 (q) | 3 => vv = .int .u64 (C) | 4 => vv = .int .i64 (p) | 5 => vv = .int .i64 ((k : Int)) | 6 => vv = .bool false | 7 => vv = .bool true | _ => True))
                  (fun w w' => Below w.heap.size w w') (fun _ _ h => h) (fun _ _ _ _ h _ => h) ?_ ?_
                · refine Each.all ?_
                  refine ⟨?_, ?_, ?_, ?_, ?_, ?_, ?_, ?_, trivial⟩
                  · intro a w2 hB hF hd
                    rw [if_pos (wanted_none rfl)]
                    exact flow_move _ (.inl rfl) (by simp) (hF.same 6 rfl)
                  · intro a w2 hB hF hd
                    rw [if_pos (wanted_none rfl)]
                    exact flow_move _ (.inl rfl) (by simp) (hF.same 7 rfl)
                  · intro a w2 hB hF hd
                    rw [if_pos (wanted_none rfl)]
                    exact flow_move _ (.inl rfl) (by simp) (hF.same 8 rfl)
                  · intro a w2 hB hF hd
                    rw [if_pos (wanted_none rfl)]
                    exact flow_val (fun h => by cases h) (Go.Bas.run_or rfl (hd 1 _ rfl (waits_spec rfl)) (hd 2 _ rfl (waits_spec rfl))) (congrArg (Value.int .u64) (B2.out))
                  · intro a w2 hB hF hd
                    rw [if_pos (wanted_none rfl)]
                    exact flow_move _ (.inl rfl) (by simp) (hF.same 0 rfl)
                  · intro a w2 hB hF hd
                    rw [if_pos (wanted_none rfl)]
                    exact flow_move _ (.inl rfl) (by simp) (hF.same 1 rfl)
                  · intro a w2 hB hF hd
                    rw [if_pos (wanted_none rfl)]
                    refine flow_call _ _ _ rfl Try.call53 _ (args4 (hd 0 _ rfl (waits_spec rfl)) (hd 3 _ rfl (waits_spec rfl)) (hd 4 _ rfl (waits_spec rfl)) (hd 5 _ rfl (waits_spec rfl))) (by simp) (((CON.out _)).mono ?_)
                    rintro e w3 ⟨rfl, hb⟩; exact ⟨_, rfl, rfl, hb⟩
                  · intro a w2 hB hF hd
                    rw [if_pos (wanted_none rfl)]
                    exact flow_val (fun h => by cases h) (run_not rfl (hd 6 _ rfl (waits_spec rfl))) rfl
                · intro a w3 hB hF hS
                  have ha := puts_each rfl rfl hF [_, _, _, _, _, _, _, _] rfl ⟨hS 0 _ rfl, hS 1 _ rfl, hS 2 _ rfl, hS 3 _ rfl, hS 4 _ rfl, hS 5 _ rfl, hS 6 _ rfl, hS 7 _ rfl, trivial⟩
                  simp only [puts, Act.put, List.setIfInBounds_toArray, List.set_cons_succ, List.set_cons_zero] at ha
                  subst ha
                  clear hS hF
                  have hbel3 := hbel.trans (hB.mono hs)
                  clear hB hbel hs
                  go_upto_region 10 with (fail)
                  refine region_tail (n := 47) 3 (by decide) (by kernel_rfl) (by kernel_rfl) (by kernel_rfl) (by kernel_rfl) rfl
                    (fun ii vv _ => (match ii with | 0 => vv = .int .u64 (P) | 1 => vv = .int .u64 (q) | 2 => vv = .int .u64 (C) | _ => True))
                    (fun _ _ _ _ h _ => h) ?_ ?_
                  · refine Each.all ?_
                    refine ⟨?_, ?_, ?_, (fun h => absurd h (by decide)), trivial⟩
                    · intro _ a w2 hB hF hd
                      rw [if_pos (wanted_none rfl)]
                      exact flow_move _ (.inl rfl) (by simp) (hF.same 7 rfl)
                    · intro _ a w2 hB hF hd
                      rw [if_pos (wanted_none rfl)]
                      exact flow_move _ (.inl rfl) (by simp) (hF.same 8 rfl)
                    · intro _ a w2 hB hF hd
                      rw [if_pos (wanted_none rfl)]
                      exact flow_val (fun h => by cases h) (Go.Bas.run_or rfl (hd 0 _ rfl (waits_spec rfl)) (hd 1 _ rfl (waits_spec rfl))) (congrArg (Value.int .u64) (B2.out))
                  · intro a w4 hB hF hS
                    have ha := puts_each rfl rfl hF [_, _, _] rfl ⟨hS 0 _ rfl (by decide), hS 1 _ rfl (by decide), hS 2 _ rfl (by decide), trivial⟩
                    simp only [puts, List.take_succ_cons, List.take_zero, Act.put, List.setIfInBounds_toArray, List.set_cons_succ, List.set_cons_zero] at ha
                    subst ha
                    change tl _ _ _ (_ :: []) _ _
                    clear hS hF
                    refine tl_move rfl _ (.inr rfl) (tl_nil ?_)
                    have hbel4 := hbel3.trans (hB.mono hbel3.size)
                    clear hB hbel3
                    go_upto_region 8 with (fail)
                    refine region_tail (n := 47) 2 (by decide) (by kernel_rfl) (by kernel_rfl) (by kernel_rfl) (by kernel_rfl) rfl
                      (fun ii vv _ => (match ii with | 0 => vv = .int .u64 (q) | 1 => vv = .int .u64 (q / 2) | _ => True))
                      (fun _ _ _ _ h _ => h) ?_ ?_
                    · refine Each.all ?_
                      refine ⟨?_, ?_, (fun h => absurd h (by decide)), trivial⟩
                      · intro _ a w2 hB hF hd
                        rw [if_pos (wanted_none rfl)]
                        exact flow_move _ (.inl rfl) (by simp) (hF.same 8 rfl)
                      · intro _ a w2 hB hF hd
                        rw [if_pos (wanted_none rfl)]
                        exact flow_val (fun h => by cases h) (Go.Bas.run_shr rfl (hd 0 _ rfl (waits_spec rfl)) rfl (by omega)) (congrArg (Value.int .u64) (shr1 q))
                    · intro a w5 hB hF hS
                      have ha := puts_each rfl rfl hF [_, _] rfl ⟨hS 0 _ rfl (by decide), hS 1 _ rfl (by decide), trivial⟩
                      simp only [puts, List.take_succ_cons, List.take_zero, Act.put, List.setIfInBounds_toArray, List.set_cons_succ, List.set_cons_zero] at ha
                      subst ha
                      change tl _ _ _ (_ :: []) _ _
                      clear hS hF
                      refine tl_move rfl _ (.inr rfl) (tl_nil ?_)
                      have hbel5 := hbel4.trans (hB.mono hbel4.size)
                      clear hB hbel4
                      simp only [Act.put, Act.eval, List.setIfInBounds_toArray, List.set_cons_succ, List.set_cons_zero]
                      go_wp2
                      go_roundw
                      case rel => first | exact ⟨_, t, rfl, by rw [hnew.out]; rfl, by omega, HNX, hbel5⟩ | ((repeat apply Exists.intro); exact ⟨⟨_, t, rfl, by rw [hnew.out]; rfl, by omega, HNX, hbel5⟩, rfl⟩)
                      case measure => simp [intOf] <;> omega
        · rw [HAB.out, ec, decide_eq_false hgt] at con
          have CON := Lib.hid con
          have hcn : c + 1 ≤ 500 := HST.out c (by omega)
          have HGT : Hid ((((c + 1 : Nat) : Int) * M64) ^ k ≤ T) := by unfold Hid; have := Int.not_lt.1 hgt; simpa using this
          clear con hgt ec hM
          go_wp2_with fail
          refine CON.out.mono ?_
          rintro e w2 ⟨rfl, hb2⟩
          have hbel2 := hbel.trans (hb2.mono hs)
          clear hb2 hbel hs CON
          go_wp2
          go_roundw
          case rel => exact ⟨c + 1, hcn, by go_num, HGT, hbel2⟩
          case measure => simp [intOf] <;> omega
end Go.Proofs.Ytgobodhcamgidaa
