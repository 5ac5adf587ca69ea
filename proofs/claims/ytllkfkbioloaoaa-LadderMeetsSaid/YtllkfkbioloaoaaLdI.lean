/-
  Every number but nought is that of a point, on one of two curves; two secrets meet. No program in sight.
-/
import Derived.Test.YtllkfkbioloaoaaLdH
set_option linter.unusedVariables false
set_option linter.unusedSimpArgs false
namespace Go.Bas
/-- 121665. -/
def fE : Fp := toF 121665
theorem fE_one : toF 121666 = 1 + fE := by
  unfold fE
  rw [← toF_one, ← toF_add]; rfl
theorem fE_ne : fE ≠ 0 := toF_nz.2 (by decide)
theorem fE_ne1 : 1 + fE ≠ 0 := by rw [← fE_one]; exact toF_nz.2 (by decide)
theorem dE_f : dE * (1 + fE) = -fE := by have h := dE_eq; rwa [fE_one] at h
theorem flip_no {d f r : Fp} (h : d * f = -(1 + f)) (hr : r * r = d) : (r * f) * (r * f) = -(f * (1 + f)) := by grind
noncomputable def d2 : Fp := -((1 + fE) * inv fE)
theorem d2_f : d2 * fE = -(1 + fE) := quot_mul (inv_mul fE_ne)
theorem d2_sq (r : Fp) : r * r ≠ d2 := by
  intro h
  have h1 := flip_no d2_f h
  obtain ⟨R, rfl⟩ : ∃ R, r = toF R := ⟨_, (toF_of r).symm⟩
  rw [← fE_one] at h1
  unfold fE at h1
  rw [← toF_mul, ← toF_mul, ← toF_mul, ← toF_neg] at h1
  exact no_sq_121 (R * 121665) (toF_eq.1 h1)
theorem dbl_of_neg {a : Fp} (h : a = -a) : 2 * a = 0 := by grind
theorem one_neg : (1 : Fp) ≠ -1 := fun h => fp_mul_ne fp_two_ne fp_one_ne (dbl_of_neg h)
noncomputable def K1 : Kind := ⟨C7, 1, fE, by grind, fun _ => dE_f, fun h => absurd h one_neg, .inl rfl, fE_ne, fE_ne1⟩
noncomputable def K2 : Kind := ⟨⟨d2, d2_sq⟩, -1, fE, by grind, fun h => absurd h.symm one_neg, fun _ => d2_f, .inr rfl, fE_ne, fE_ne1⟩
theorem k1_on {d f U w v t r : Fp} (hd : d * (1 + f) = -f) (hf : 1 + f ≠ 0) (hw : w * w = U * (U * U + (4 * f + 2) * U + 1)) (hv : w * v = 1) (ht : (U + 1) * t = 1) (hr : r * r = -(4 * f + 4)) :
    ((U - 1) * t) ^ 2 - (r * U * v) ^ 2 = 1 + d * (r * U * v) ^ 2 * ((U - 1) * t) ^ 2 := by
  refine fp_cancel hf ?_
  have hv2 : U * (U * U + (4 * f + 2) * U + 1) * (v * v) = 1 := by grind
  have hx : (r * U * v) ^ 2 = -(4 * f + 4) * U ^ 2 * (v * v) := by grind
  rw [hx]
  generalize v * v = q at *
  have e : (1 + d * (-(4 * f + 4) * U ^ 2 * q) * ((U - 1) * t) ^ 2) * (1 + f) = (1 + f) + f * (4 * f + 4) * U ^ 2 * q * ((U - 1) * t) ^ 2 := by grind
  rw [e]
  grind
theorem k2_on {d f U w v t m : Fp} (hd : d * f = -(1 + f)) (hf : f ≠ 0) (hm : m = U * (U * U + (4 * f + 2) * U + 1)) (hw : w * w = -(4 * f) * m) (hv : m * v = 1) (ht : (U - 1) * t = 1) :
    ((U + 1) * t) ^ 2 - (U * w * v) ^ 2 = 1 + d * (U * w * v) ^ 2 * ((U + 1) * t) ^ 2 := by
  refine fp_cancel hf ?_
  have hx : (U * w * v) ^ 2 = -(4 * f) * U ^ 2 * v := by grind
  rw [hx]
  have e : (1 + d * (-(4 * f) * U ^ 2 * v) * ((U + 1) * t) ^ 2) * f = f + (1 + f) * (4 * f) * U ^ 2 * v * ((U + 1) * t) ^ 2 := by grind
  rw [e]
  subst hm
  grind
/-! squares -/
theorem sqN_mul (X Y : Int) : sqN (X * Y) = sqN X * sqN Y := by unfold sqN; exact Int.mul_pow ..
theorem sqN_one {X : Int} (h : X % Pr ≠ 0) : sqN X % Pr = 1 % Pr ∨ sqN X % Pr = -1 % Pr := by
  have e : sqN X * sqN X = X ^ (PN - 1) := by
    unfold sqN
    rw [← Int.pow_add]; congr 1
  exact two_roots (by rw [e, fermat_Pr h]; decide)
theorem root_of {X : Int} (h : sqN X % Pr = 1) : ∃ R : Int, Cg (R * R) X := by
  have h1 : isSq X = true := by unfold isSq; rw [Bool.or_eq_true]; exact .inr (decide_eq_true h)
  rcases rt_cases h1 with h2 | h2
  · exact ⟨_, h2⟩
  · exact ⟨_, h2⟩
theorem sqN_nat {n : Nat} {e : Nat} (h : powmod PN 256 n ((PN - 1) / 2) 1 % PN = e) : sqN (n : Int) % Pr = (e : Int) := by
  have h3 := powmod_eq PN 256 n ((PN - 1) / 2) 1 (by decide +kernel)
  rw [Nat.one_mul] at h3
  unfold sqN
  rw [int_pow_nat, ← h3, h]
theorem sq_neg4f : powmod PN 256 (PN - 486660) ((PN - 1) / 2) 1 % PN = PN - 1 := by decide +kernel
theorem sq_disc : powmod PN 256 (486660 * 486664) ((PN - 1) / 2) 1 % PN = PN - 1 := by decide +kernel
theorem sq_4f : powmod PN 256 486660 ((PN - 1) / 2) 1 % PN = PN - 1 := by decide +kernel
theorem not_sq {n : Nat} (h : powmod PN 256 n ((PN - 1) / 2) 1 % PN = PN - 1) (hn : n % PN ≠ 0) (R : Int) : ¬ Cg (R * R) (n : Int) := by
  intro hR
  have h1 := sq_isSq (R := R) (X := n) hR
  unfold isSq at h1
  rw [sqN_nat h] at h1
  simp only [Bool.or_eq_true, decide_eq_true_eq] at h1
  rcases h1 with h1 | h1
  · rw [Pr_PN, ← Int.natCast_emod] at h1; omega
  · have : PN - 1 = 1 := by omega
    exact absurd this (by decide)
theorem neg4f_nat : ((PN - 486660 : Nat) : Int) = Pr - 486660 := by
  rw [Pr_PN]
  have : 486660 ≤ PN := by decide
  omega
/-- the right-hand side of the first curve at u. -/
def mont (u : Int) : Int := u * (u * u + 486662 * u + 1)
theorem mont_ne {u : Int} (h : u % Pr ≠ 0) : mont u % Pr ≠ 0 := by
  intro h0
  unfold mont at h0
  rcases mul_zero_Pr h0 with h1 | h1
  · exact h h1
  · have h2 : Cg ((2 * u + 486662) * (2 * u + 486662)) (((486660 * 486664 : Nat)) : Int) := by
      have e : (2 * u + 486662) * (2 * u + 486662) = 4 * (u * u + 486662 * u + 1) + ((486660 * 486664 : Nat) : Int) := by
        rw [show ((486660 * 486664 : Nat) : Int) = 486660 * 486664 by rfl]; grind
      rw [e]
      have h3 : Cg (4 * (u * u + 486662 * u + 1)) (4 * 0) := (Cg.refl 4).mul (show _ % Pr = 0 % Pr by rw [h1]; rfl)
      have h4 := h3.add (Cg.refl ((486660 * 486664 : Nat) : Int))
      rwa [Int.mul_zero, Int.zero_add] at h4
    exact not_sq sq_disc (by decide) _ h2
def r1 : Int := 6853475219497561581579357271197624642482790079785650197046958215289687604742
theorem r1_sq : Cg (r1 * r1) (-486664) := by unfold Cg r1; decide +kernel
theorem toF_f4 : toF (-486664) = -(4 * fE + 4) := by
  have e : (-486664 : Int) = -((1 + 1 + 1 + 1) * 121665 + (1 + 1 + 1 + 1)) := by decide
  rw [e, toF_neg, toF_add, toF_mul, toF_add, toF_add, toF_add, toF_one]
  show -((1 + 1 + 1 + 1) * fE + (1 + 1 + 1 + 1)) = -(4 * fE + 4)
  grind
theorem toF_mont (u : Int) : toF (mont u) = toF u * (toF u * toF u + (4 * fE + 2) * toF u + 1) := by
  unfold mont
  have e : (486662 : Int) = (1 + 1 + 1 + 1) * 121665 + (1 + 1) := by decide
  rw [e]
  simp only [toF_mul, toF_add, toF_one]
  show toF u * (toF u * toF u + ((1 + 1 + 1 + 1) * fE + (1 + 1)) * toF u + 1) = _
  generalize toF u = U
  generalize fE = f
  grind
theorem toF_n4f : toF (-486660) = -(4 * fE) := by
  have e : (-486660 : Int) = -((1 + 1 + 1 + 1) * 121665) := by decide
  rw [e, toF_neg, toF_mul, toF_add, toF_add, toF_add, toF_one]
  show -((1 + 1 + 1 + 1) * fE) = -(4 * fE)
  generalize fE = f
  grind
theorem base_1 {U t : Fp} (ht : (U + 1) * t = 1) (hU : U ≠ 0) : 1 * U * (1 - (U - 1) * t) = 1 + (U - 1) * t ∧ 1 - (U - 1) * t ≠ 0 ∧ 1 + (U - 1) * t ≠ 0 := by
  have ht0 : t ≠ 0 := by intro e; exact fp_one_ne (by grind)
  refine ⟨by grind, ?_, ?_⟩
  · intro e
    exact fp_mul_ne fp_two_ne ht0 (by grind)
  · intro e
    exact fp_mul_ne fp_two_ne (fp_mul_ne hU ht0) (by grind)
theorem base_2 {U t : Fp} (ht : (U - 1) * t = 1) (hU : U ≠ 0) : -1 * U * (1 - (U + 1) * t) = 1 + (U + 1) * t ∧ 1 - (U + 1) * t ≠ 0 ∧ 1 + (U + 1) * t ≠ 0 := by
  have ht0 : t ≠ 0 := by intro e; exact fp_one_ne (by grind)
  refine ⟨by grind, ?_, ?_⟩
  · intro e
    exact fp_mul_ne fp_two_ne ht0 (by grind)
  · intro e
    exact fp_mul_ne fp_two_ne (fp_mul_ne hU ht0) (by grind)
theorem fp_zz : (0 : Fp) * 0 = 0 := by grind
theorem Cg.mont {u v : Int} (h : Cg u v) : Cg (mont u) (mont v) := h.mul (((h.mul h).add ((Cg.refl 486662).mul h)).add (Cg.refl 1))
def r2 : Int := 48802004052532134862652268456126542835229456083994414501085850622543968879637
theorem r2_sq : Cg (r2 * r2) 486664 := by unfold Cg r2; decide +kernel
theorem exists_base {u : Int} (h : u % Pr ≠ 0) : ∃ (K : Kind) (p : Ed K.E), K.f = toF 121665 ∧ IsBase K p (toF u) := by
  have hU : toF u ≠ 0 := toF_nz.2 h
  have hm := mont_ne h
  have hM := toF_mont u
  rcases sqN_one hm with hs | hs
  · obtain ⟨W, hW⟩ := root_of (X := mont u) (by rw [hs]; decide)
    have hw : toF W * toF W = toF u * (toF u * toF u + (4 * fE + 2) * toF u + 1) := by rw [← toF_mul, ← hM]; exact toF_eq.2 hW
    have hw0 : toF W ≠ 0 := by
      intro e
      rw [e, fp_zz, ← hM] at hw
      exact toF_nz.2 hm hw.symm
    have hu1 : toF u + 1 ≠ 0 := by
      rw [← toF_one, ← toF_add]
      refine toF_nz.2 fun e => ?_
      have e1 : Cg u (-1) := by
        have := (show Cg (u + 1) 0 from e).sub (Cg.refl 1)
        rwa [show u + 1 - 1 = u by omega] at this
      have e2 := hW.trans e1.mont
      exact not_sq (n := 486660) sq_4f (by decide) W e2
    obtain ⟨t, ht⟩ := fp_inv hu1
    obtain ⟨v, hv⟩ := fp_inv hw0
    have hr : toF r1 * toF r1 = -(4 * fE + 4) := by rw [← toF_mul, ← toF_f4]; exact toF_eq.2 r1_sq
    obtain ⟨b1, b2, b3⟩ := base_1 ht hU
    exact ⟨K1, ⟨toF r1 * toF u * v, (toF u - 1) * t, k1_on dE_f fE_ne1 hw hv ht hr⟩, rfl, b1, b2, b3⟩
  · have h4 : sqN (-486660) % Pr = -1 % Pr := by
      have e : sqN (-486660) % Pr = sqN ((PN - 486660 : Nat) : Int) % Pr := by
        refine Cg.pow ?_ _
        rw [neg4f_nat]
        exact mod_eq_of (c := -1) (by omega)
      rw [e, sqN_nat sq_neg4f]
      decide +kernel
    obtain ⟨W, hW⟩ := root_of (X := -486660 * mont u) (by
      rw [sqN_mul, Int.mul_emod, h4, hs]; decide +kernel)
    have hw : toF W * toF W = -(4 * fE) * toF (mont u) := by rw [← toF_mul, ← toF_n4f, ← toF_mul]; exact toF_eq.2 hW
    have hm0 : toF (mont u) ≠ 0 := toF_nz.2 hm
    have hu1 : toF u - 1 ≠ 0 := by
      rw [← toF_one, ← toF_sub]
      refine toF_nz.2 fun e => ?_
      have e1 : Cg u 1 := by
        have := (show Cg (u - 1) 0 from e).add (Cg.refl 1)
        rwa [show u - 1 + 1 = u by omega] at this
      have e2 : Cg (r2 * r2) (mont u) := r2_sq.trans (show Cg 486664 (mont u) from (e1.mont).symm)
      have e3 := sq_isSq e2
      unfold isSq at e3
      simp only [Bool.or_eq_true, decide_eq_true_eq] at e3
      rcases e3 with e3 | e3
      · exact hm e3
      · rw [e3] at hs; exact absurd hs (by decide +kernel)
    obtain ⟨t, ht⟩ := fp_inv hu1
    obtain ⟨v, hv⟩ := fp_inv hm0
    obtain ⟨b1, b2, b3⟩ := base_2 ht hU
    exact ⟨K2, ⟨toF u * toF W * v, (toF u + 1) * t, k2_on d2_f fE_ne hM hw hv ht⟩, rfl, b1, b2, b3⟩
/-- two secrets meet, from any point. -/
theorem meets (m n : Nat) (hm : m < 2 ^ 255) (hn : n < 2 ^ 255) (hm2 : m % 2 = 0) (hn2 : n % 2 = 0) (hmt : (m : Int) / 2 ^ 254 % 2 = 1) (hnt : (n : Int) / 2 ^ 254 % 2 = 1) (u : Int) :
    ladN m (ladN n u % Pr) % Pr = ladN n (ladN m u % Pr) % Pr := by
  by_cases hu : u % Pr = 0
  · have h1 := ladN_nought hnt hu
    have h2 := ladN_nought hmt hu
    rw [ladN_nought hmt (by rw [h1]; rfl), ladN_nought hnt (by rw [h2]; rfl)]
  · obtain ⟨K, p, hf, hb⟩ := exists_base hu
    have h1 := lad_lad hf p hb m n hm hn hm2 hmt
    have h2 := lad_lad hf p hb n m hn hm hn2 hnt
    rw [Nat.mul_comm m n, ← h1] at h2
    exact (toF_eq.1 h2).symm
/-- the same for secrets with their bits made so. -/
theorem clamp_nat (S : Int) : ∃ m : Nat, clampN S = (m : Int) ∧ m < 2 ^ 255 ∧ m % 2 = 0 ∧ (m : Int) / 2 ^ 254 % 2 = 1 := by
  have h0 : 0 ≤ clampN S ∧ clampN S < 2 ^ 255 ∧ clampN S % 2 = 0 ∧ clampN S / 2 ^ 254 % 2 = 1 := by unfold clampN; omega
  obtain ⟨h0, h1, h2, h3⟩ := h0
  obtain ⟨m, hm⟩ := Int.eq_ofNat_of_zero_le h0
  refine ⟨m, hm, ?_, ?_, by rw [← hm]; exact h3⟩
  · rw [hm] at h1; omega
  · rw [hm] at h2; omega
theorem ladN_mod255 (n u : Int) : ladN n (u % Pr % 2 ^ 255) % Pr = ladN n (u % Pr) % Pr := by
  have h : u % Pr % 2 ^ 255 = u % Pr := by
    have h0 := Int.emod_nonneg u (show Pr ≠ 0 by decide)
    have h1 := Int.emod_lt_of_pos u Pr_pos
    have h2 : Pr < 2 ^ 255 := by decide
    exact Int.emod_eq_of_lt h0 (by omega)
  rw [h]
theorem clamp_meets (S T u : Int) : ladN (clampN S) (ladN (clampN T) u % Pr % 2 ^ 255) % Pr = ladN (clampN T) (ladN (clampN S) u % Pr % 2 ^ 255) % Pr := by
  rw [ladN_mod255, ladN_mod255]
  obtain ⟨m, e1, a1, a2, a3⟩ := clamp_nat S
  obtain ⟨n, e2, b1, b2, b3⟩ := clamp_nat T
  rw [e1, e2]
  exact meets m n a1 b1 a2 b2 a3 b3 u
theorem clamp_twice (S : Int) : clampN (clampN S) = clampN S := by unfold clampN; omega
end Go.Bas
