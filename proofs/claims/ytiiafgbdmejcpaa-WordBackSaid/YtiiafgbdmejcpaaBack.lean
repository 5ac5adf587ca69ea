/-
  The law WordBack returns true for every input. Conditions: the bytes can be read.
-/
import Derived.Test.YtiiafgbdmejcpaaRows
import Derived.Test.YtiiafgbdmejcpaaKit
import Derived.Test.YtiiafgbdmejcpaaOpen
import Derived.Test.YtiiafgbdmejcpaaGet
import Derived.Test.YtiiafgbdmejcpaaPuts
namespace Go.Proofs.Ytiiafgbdmejcpaa
open Go.RowKit Go.Bas

theorem get_back (va : Value) (n : Int) (s : Nat) (w : World) (ha : Rd .u8 w va s (fun i => n / 2 ^ (8 * (s - 1 - i)) % 256)) (h1 : 1 ≤ s) (h2 : s ≤ 8) (h4 : n ≤ 4611686018427387904) (h5 : n / 2 ^ (8 * s) = 0) :
    Calls Try.prog 19 #[va] w fun e w' => e = .returned (.tuple #[.int .i64 n, .int .i64 0]) ∧ Below w.heap.size w w' := by
  refine (get_any va s _ w ha (fun i _ => by omega)).mono fun e w' ⟨he, hb⟩ => ⟨?_, hb⟩
  have hbig := big_of_bytes h5 s (Nat.le_refl _)
  simp at hbig
  rw [he]
  unfold getNum getErr
  rw [hbig, if_neg (by omega), if_neg (by omega), if_neg (by omega), if_neg (by omega)]

theorem getLow_back (va : Value) (n : Int) (s : Nat) (w : World) (ha : Rd .u8 w va s (fun i => n / 2 ^ (8 * i) % 256)) (h1 : 1 ≤ s) (h2 : s ≤ 8) (h4 : n ≤ 4611686018427387904) (h5 : n / 2 ^ (8 * s) = 0) :
    Calls Try.prog 20 #[va] w fun e w' => e = .returned (.tuple #[.int .i64 n, .int .i64 0]) ∧ Below w.heap.size w w' := by
  refine (getLow_any va s _ w ha (fun i _ => by omega)).mono fun e w' ⟨he, hb⟩ => ⟨?_, hb⟩
  have hbig := big_of_bytes h5 s (Nat.le_refl _)
  simp at hbig
  rw [he]
  unfold getNum getErr
  rw [hbig, if_neg (by omega), if_neg (by omega), if_neg (by omega), if_neg (by omega)]

theorem getErr_zero {f : Nat → Int} {m : Nat} (h : getErr f m = 0) : 1 ≤ m ∧ m ≤ 8 ∧ big f m ≤ 4611686018427387904 := by
  unfold getErr at h
  by_cases h0 : m = 0
  · rw [if_pos h0] at h; omega
  rw [if_neg h0] at h
  by_cases h8 : 8 < m
  · rw [if_pos h8] at h; omega
  rw [if_neg h8] at h
  by_cases hb : 4611686018427387904 < big f m
  · rw [if_pos hb] at h; omega
  omega

theorem get_ok (va : Value) (m : Nat) (f : Nat → Int) (w : World) (ha : Rd .u8 w va m f) (hf : ∀ i, i < m → 0 ≤ f i ∧ f i < 256) (h : getErr f m = 0) :
    Calls Try.prog 19 #[va] w fun e w' => e = .returned (.tuple #[.int .i64 (big f m), .int .i64 0]) ∧ Below w.heap.size w w' := by
  refine (get_any va m f w ha hf).mono fun e w' ⟨he, hb⟩ => ⟨?_, hb⟩
  have := getErr_zero h
  rw [he, h]
  unfold getNum
  rw [if_neg (by omega)]

/-- the law's second half, from the point where the bytes are asked for their number. -/
def Done (w0 : World) (e : Ending) (w' : World) : Prop := e = .returned (.bool true) ∧ Below w0.heap.size w0 w'

set_option maxRecDepth 100000 in
set_option maxHeartbeats 1000000 in
theorem wordBack_core (n s : Int) (va : Value) (m : Nat) (f : Nat → Int) (w : World) (ha : Rd .u8 w va m f) (hf : ∀ i, i < m → 0 ≤ f i ∧ f i < 256) :
    Calls Try.prog 5 #[.int .i64 n, .int .i64 s, va] w (Done w) := by
  have HA := Lib.hid ha
  have HF := Lib.hid hf
  obtain ⟨a1, c1, rfl, l1, m1, z1, h1⟩ := ha
  clear h1 z1 hf
  by_cases hn : 100 < m
  · have hn' : (100 : Int) < m := by omega
    go_enter Try.func5, Try.ntmps5
    go_wp2_with fail
    refine (awake_any _).mono ?_
    rintro e w0 ⟨rfl, hbel0⟩
    go_wp2_with fail
    go_ret
    exact ⟨rfl, hbel0⟩
  have hn' : ¬ (100 : Int) < m := by omega
  by_cases h : s < 1 ∨ 8 < s ∨ n < 0 ∨ 4611686018427387904 < n ∨ (s < 8 ∧ n / 2 ^ (8 * s.toNat) ≠ 0)
  · have H := Lib.hid h
    clear h
    go_enter Try.func5, Try.ntmps5
    go_wp2_with fail
    refine (awake_any _).mono ?_
    rintro e w0 ⟨rfl, hbel0⟩
    go_wp2_with fail
    refine (put_err n s _ H.out).mono ?_
    rintro e w1 ⟨v1, rfl, hown1, hbel1⟩
    clear hown1
    go_wp2_with fail
    by_cases hE : getErr f m = 0
    · have HE := Lib.hid hE
      clear hE
      refine (get_ok _ m f _ ((HA.out.below hbel0).below hbel1) HF.out HE.out).mono ?_
      rintro e w9 ⟨rfl, hbel9⟩
      have hlen : 1 ≤ m ∧ m ≤ 8 ∧ big f m ≤ 4611686018427387904 := getErr_zero HE.out
      go_wp2_with fail
      refine (put_ok (big f m) m _ hlen.1 hlen.2.1 (big_bound HF.out m (Nat.le_refl _)).1 hlen.2.2 (fun _ => by simp [big_top HF.out])).mono ?_
      rintro e w10 ⟨v10, rfl, hown10, hbel10⟩
      have HO10 := Lib.hid hown10
      clear hown10 hlen
      go_wp2_with fail
      refine (same_yes _ _ m _ _ _ HO10.out.rd ((((HA.out.below hbel0).below hbel1).below hbel9).below hbel10) (fun i hi => big_byte HF.out i hi)).mono ?_
      rintro e w11 ⟨rfl, hbel11⟩
      go_wp2_with fail
      go_ret
      refine ⟨rfl, ?_⟩
      have h10 := hbel10.size
      have h9 := hbel9.size
      have h1 := hbel1.size
      have h0 := hbel0.size
      exact ((((hbel0.trans (hbel1.mono (by omega))).trans (hbel9.mono (by omega))).trans (hbel10.mono (by omega))).trans (hbel11.mono (by omega)))
    · have HE := Lib.hid hE
      clear hE
      refine (get_any _ m f _ ((HA.out.below hbel0).below hbel1) HF.out).mono ?_
      rintro e w9 ⟨rfl, hbel9⟩
      have HN : Hid (getNum f m = 0) := getNum_zero HE.out
      have hE : (getErr f m != 0) = true := by simpa using HE.out
      go_wp2_with fail
      go_ret
      refine ⟨by rw [HN.out]; rfl, ?_⟩
      have h1 := hbel1.size
      have h0 := hbel0.size
      exact ((hbel0.trans (hbel1.mono (by omega))).trans (hbel9.mono (by omega)))
  · obtain ⟨s, rfl⟩ := Int.eq_ofNat_of_zero_le (show 0 ≤ s by omega)
    have hh : 1 ≤ s ∧ s ≤ 8 ∧ 0 ≤ n ∧ n ≤ 4611686018427387904 ∧ n / 2 ^ (8 * s) = 0 := by
      refine ⟨by omega, by omega, by omega, by omega, ?_⟩
      simp only [Int.toNat_natCast] at h
      by_cases h8 : s = 8
      · subst h8
        exact Int.ediv_eq_zero_of_lt (by omega) (by omega)
      · omega
    have H := Lib.hid hh
    clear h hh
    go_enter Try.func5, Try.ntmps5
    go_wp2_with fail
    refine (awake_any _).mono ?_
    rintro e w0 ⟨rfl, hbel0⟩
    go_wp2_with fail
    refine (put_ok n s _ H.out.1 H.out.2.1 H.out.2.2.1 H.out.2.2.2.1 (fun _ => by simp [H.out.2.2.2.2])).mono ?_
    rintro e w1 ⟨v1, rfl, hown1, hbel1⟩
    obtain ⟨a1, c1, hv1, _⟩ := hown1.rd
    subst hv1
    have HO1 := Lib.hid hown1
    clear hown1
    go_wp2_with fail
    refine (low_ok n s _ H.out.1 H.out.2.1 H.out.2.2.1 H.out.2.2.2.1 (fun _ => by simp [H.out.2.2.2.2])).mono ?_
    rintro e w2 ⟨v2, rfl, hown2, hbel2⟩
    have HO2 := Lib.hid hown2
    clear hown2
    go_wp2_with fail
    refine (get_back _ n s _ (HO1.out.below hbel2).rd H.out.1 H.out.2.1 H.out.2.2.2.1 H.out.2.2.2.2).mono ?_
    rintro e w3 ⟨rfl, hbel3⟩
    go_wp2_with fail
    refine (getLow_back _ n s _ (HO2.out.below hbel3).rd H.out.1 H.out.2.1 H.out.2.2.2.1 H.out.2.2.2.2).mono ?_
    rintro e w4 ⟨rfl, hbel4⟩
    go_wp2_with fail
    refine (Turned_any _ s _ _ (((HO1.out.below hbel2).below hbel3).below hbel4).rd (by have := H.out.2.1; omega)).mono ?_
    rintro e w5 ⟨v5, rfl, hown5, hbel5⟩
    have HO5 := Lib.hid hown5
    clear hown5
    go_wp2_with fail
    refine (same_yes _ _ s _ _ _ HO5.out.rd (((HO2.out.below hbel3).below hbel4).below hbel5).rd (fun i hi => by show n / 2 ^ (8 * (s - 1 - (s - 1 - i))) % 256 = _; rw [show s - 1 - (s - 1 - i) = i by omega])).mono ?_
    rintro e w6 ⟨rfl, hbel6⟩
    go_wp2_with fail
    by_cases hE : getErr f m = 0
    · have HE := Lib.hid hE
      clear hE
      refine (get_ok _ m f _ (((((((HA.out.below hbel0).below hbel1).below hbel2).below hbel3).below hbel4).below hbel5).below hbel6) HF.out HE.out).mono ?_
      rintro e w9 ⟨rfl, hbel9⟩
      have hlen : 1 ≤ m ∧ m ≤ 8 ∧ big f m ≤ 4611686018427387904 := getErr_zero HE.out
      go_wp2_with fail
      refine (put_ok (big f m) m _ hlen.1 hlen.2.1 (big_bound HF.out m (Nat.le_refl _)).1 hlen.2.2 (fun _ => by simp [big_top HF.out])).mono ?_
      rintro e w10 ⟨v10, rfl, hown10, hbel10⟩
      have HO10 := Lib.hid hown10
      clear hown10 hlen
      go_wp2_with fail
      refine (same_yes _ _ m _ _ _ HO10.out.rd (((((((((HA.out.below hbel0).below hbel1).below hbel2).below hbel3).below hbel4).below hbel5).below hbel6).below hbel9).below hbel10) (fun i hi => big_byte HF.out i hi)).mono ?_
      rintro e w11 ⟨rfl, hbel11⟩
      go_wp2_with fail
      go_ret
      refine ⟨rfl, ?_⟩
      have h10 := hbel10.size
      have h9 := hbel9.size
      have h6 := hbel6.size
      have h5 := hbel5.size
      have h4 := hbel4.size
      have h3 := hbel3.size
      have h2 := hbel2.size
      have h1 := hbel1.size
      have h0 := hbel0.size
      exact (((((((((hbel0.trans (hbel1.mono (by omega))).trans (hbel2.mono (by omega))).trans (hbel3.mono (by omega))).trans (hbel4.mono (by omega))).trans (hbel5.mono (by omega))).trans (hbel6.mono (by omega))).trans (hbel9.mono (by omega))).trans (hbel10.mono (by omega))).trans (hbel11.mono (by omega)))
    · have HE := Lib.hid hE
      clear hE
      refine (get_any _ m f _ (((((((HA.out.below hbel0).below hbel1).below hbel2).below hbel3).below hbel4).below hbel5).below hbel6) HF.out).mono ?_
      rintro e w9 ⟨rfl, hbel9⟩
      have HN : Hid (getNum f m = 0) := getNum_zero HE.out
      have hE : (getErr f m != 0) = true := by simpa using HE.out
      go_wp2_with fail
      go_ret
      refine ⟨by rw [HN.out]; rfl, ?_⟩
      have h6 := hbel6.size
      have h5 := hbel5.size
      have h4 := hbel4.size
      have h3 := hbel3.size
      have h2 := hbel2.size
      have h1 := hbel1.size
      have h0 := hbel0.size
      exact (((((((hbel0.trans (hbel1.mono (by omega))).trans (hbel2.mono (by omega))).trans (hbel3.mono (by omega))).trans (hbel4.mono (by omega))).trans (hbel5.mono (by omega))).trans (hbel6.mono (by omega))).trans (hbel9.mono (by omega)))

theorem wordBack_law (w : World) (n : Int) (_ : (Lit.int .i64 n).wf = true) (s : Int) (_ : (Lit.int .i64 s).wf = true) (va : Value) (m : Nat) (f : Nat → Int) (ha : Rd .u8 w va m f) (hb : ∀ i, i < m → (Lit.int .u8 (f i)).wf = true) :
    Calls Try.prog 5 #[.int .i64 n, .int .i64 s, va] w fun e w' => e = .returned (.bool true) ∧ Below w.heap.size w w' :=
  wordBack_core n s va m f w ha (fun i hi => by have := bounds_u8 (hb i hi); omega)
end Go.Proofs.Ytiiafgbdmejcpaa
