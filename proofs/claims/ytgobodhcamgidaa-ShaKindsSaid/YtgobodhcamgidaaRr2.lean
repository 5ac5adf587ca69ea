/-
  bastilleref03.Root: what it answers. Conditions: named in each theorem.
-/
import Derived.Test.YtgobodhcamgidaaRr1
import Derived.Test.YtgobodhcamgidaaRt5
set_option linter.unusedVariables false
set_option linter.unusedSimpArgs false
namespace Go.Bas
open Go.RowKit
theorem T_start {p : Int} {k : Nat} (hk : k = 2 ∨ k = 3) (p0 : 0 ≤ p) (p1 : p ≤ 500) : (0 : Int) ^ k ≤ p * 2 ^ (64 * k) ∧ p * 2 ^ (64 * k) < (0 + 65536 ^ 5) ^ k := by
  rcases hk with rfl | rfl
  · rw [show ((0 : Int) + 65536 ^ 5) ^ 2 = 1461501637330902918203684832716283019655932542976 by decide, show (2 : Int) ^ (64 * 2) = 340282366920938463463374607431768211456 by decide, show (0 : Int) ^ 2 = 0 by decide]
    omega
  · rw [show ((0 : Int) + 65536 ^ 5) ^ 3 = 1766847064778384329583297500742918515827483896875618958121606201292619776 by decide, show (2 : Int) ^ (64 * 3) = 6277101735386680763835789423207666416102355444464034512896 by decide, show (0 : Int) ^ 3 = 0 by decide]
    omega
theorem gt_T {p X : Int} {k : Nat} (hk : k = 2 ∨ k = 3) : gtN 65536 p (4 * k) X = decide (p * 2 ^ (64 * k) < X) := by
  unfold gtN
  rcases hk with rfl | rfl
  · rw [show (65536 : Int) ^ (4 * 2) = 2 ^ (64 * 2) by decide]
  · rw [show (65536 : Int) ^ (4 * 3) = 2 ^ (64 * 3) by decide]
/-- the digit i of D takes one bit more. -/
theorem digit_bit {D : Int} {i t : Nat} (h0 : 0 ≤ D ∧ D < 65536 ^ 5) (hi : i < 5) (ht : t < 16) (hz : dg 65536 D i % 2 ^ (t + 1) = 0) :
    dg 65536 D i + 2 ^ t < 65536 ∧ (∀ j, j < 5 → upd (dg 65536 D) i (dg 65536 D i + 2 ^ t) j = dg 65536 (D + 65536 ^ i * 2 ^ t) j) ∧ (0 ≤ D + 65536 ^ i * 2 ^ t ∧ D + 65536 ^ i * 2 ^ t < 65536 ^ 5) ∧ dg 65536 D i % 2 ^ t = 0 ∧ (dg 65536 D i + 2 ^ t) % 2 ^ t = 0 := by
  obtain ⟨a, b⟩ := dg_bound (by decide : (0 : Int) < 65536) D i
  have hpt : (0 : Int) < 2 ^ t := Int.pow_pos (by decide)
  have e2 : (2 : Int) ^ (t + 1) = 2 ^ t * 2 := Int.pow_succ ..
  obtain ⟨q, hq⟩ := Int.dvd_of_emod_eq_zero hz
  have eB : (65536 : Int) = 2 ^ (t + 1) * 2 ^ (15 - t) := by rw [← Int.pow_add, show t + 1 + (15 - t) = 16 by omega]; rfl
  have hpt1 : (0 : Int) < 2 ^ (t + 1) := Int.pow_pos (by decide)
  have hlt : dg 65536 D i + 2 ^ (t + 1) ≤ 65536 := by
    have hb : (2 : Int) ^ (t + 1) * q < 2 ^ (t + 1) * 2 ^ (15 - t) := by rw [← hq, ← eB]; exact b
    have h1 : q < 2 ^ (15 - t) := Int.lt_of_mul_lt_mul_left hb (Int.le_of_lt hpt1)
    have h2 := Int.mul_le_mul_of_nonneg_left (show q + 1 ≤ 2 ^ (15 - t) by omega) (Int.le_of_lt hpt1)
    rw [← eB, Int.mul_add, Int.mul_one, ← hq] at h2
    exact h2
  have hm : dg 65536 D i % 2 ^ t = 0 := by rw [hq, e2, Int.mul_assoc, Int.mul_emod_right]
  have hs : sm 65536 (upd (dg 65536 D) i (dg 65536 D i + 2 ^ t)) 5 = D + 65536 ^ i * 2 ^ t := by
    rw [sm_upd', if_pos hi, sm_dg (by decide), Int.emod_eq_of_lt h0.1 h0.2, show dg 65536 D i + 2 ^ t - dg 65536 D i = 2 ^ t by omega, Int.mul_comm]
  have hr : ∀ j, j < 5 → 0 ≤ upd (dg 65536 D) i (dg 65536 D i + 2 ^ t) j ∧ upd (dg 65536 D) i (dg 65536 D i + 2 ^ t) j < 65536 := by
    intro j _
    unfold upd
    split
    · omega
    · exact dg_bound (by decide) D j
  refine ⟨by omega, fun j hj => ?_, ?_, hm, by rw [Int.add_emod_right]; exact hm⟩
  · rw [← hs, dg_sm (by decide) hr j hj]
  · rw [← hs]; exact sm_bound (by decide) hr
/-- what the reference's root answers. -/
def RootR (p : Int) (k : Nat) (w : World) (e : Ending) (w' : World) : Prop := ∃ X, isRoot p k X ∧ e = .returned (.int .u64 (X % M64)) ∧ Below w.heap.size w w'
/-- the state of the reference's root: the places below m are noughts. -/
def RS (T : Int) (k : Nat) (D : Int) (m : Nat) : Prop := (0 ≤ D ∧ D < 65536 ^ 5) ∧ (∀ j, j < m → dg 65536 D j = 0) ∧ D ^ k ≤ T ∧ T < (D + 65536 ^ m) ^ k
def RI (T : Int) (k : Nat) (D : Int) (i t : Nat) : Prop := (0 ≤ D ∧ D < 65536 ^ 5) ∧ (∀ j, j < i → dg 65536 D j = 0) ∧ dg 65536 D i % 2 ^ t = 0 ∧ D ^ k ≤ T ∧ T < (D + 65536 ^ i * 2 ^ t) ^ k
theorem RS.inner {T : Int} {k : Nat} {D : Int} {i : Nat} (h : RS T k D (i + 1)) : RI T k D i 16 :=
  ⟨h.1, fun j hj => h.2.1 j (by omega), by rw [h.2.1 i (by omega)]; rfl, h.2.2.1, by have := h.2.2.2; rwa [Int.pow_succ] at this⟩
theorem RI.outer {T : Int} {k : Nat} {D : Int} {i : Nat} (h : RI T k D i 0) : RS T k D i :=
  ⟨h.1, h.2.1, h.2.2.2.1, by have := h.2.2.2.2; rwa [Int.pow_zero, Int.mul_one] at this⟩
theorem RI.no {T : Int} {k : Nat} {D : Int} {i t : Nat} (h : RI T k D i (t + 1)) (hi : i < 5) (ht : t < 16) (hg : T < (D + 65536 ^ i * 2 ^ t) ^ k) : RI T k D i t :=
  ⟨h.1, h.2.1, (digit_bit h.1 hi ht h.2.2.1).2.2.2.1, h.2.2.2.1, hg⟩
theorem RI.yes {T : Int} {k : Nat} {D : Int} {i t : Nat} (h : RI T k D i (t + 1)) (hi : i < 5) (ht : t < 16) (hg : ¬ T < (D + 65536 ^ i * 2 ^ t) ^ k) : RI T k (D + 65536 ^ i * 2 ^ t) i t := by
  obtain ⟨a, b, c, d, e⟩ := digit_bit h.1 hi ht h.2.2.1
  refine ⟨c, fun j hj => ?_, ?_, by omega, ?_⟩
  · rw [← b j (by omega), upd_ne _ _ (by omega)]; exact h.2.1 j hj
  · rw [← b i hi, upd_at]; exact e
  · have := h.2.2.2.2
    rw [Int.pow_succ, ← Int.mul_assoc] at this
    rw [Int.add_assoc]
    rwa [show D + (65536 ^ i * 2 ^ t + 65536 ^ i * 2 ^ t) = D + 65536 ^ i * 2 ^ t * 2 by omega]
/-- the digits below the fourth, from above. -/
def topN (D : Int) (m : Nat) : Int := D % 65536 ^ 4 / 65536 ^ m
theorem topN_4 (D : Int) : topN D 4 = 0 := by unfold topN; exact Int.ediv_eq_zero_of_lt (Int.emod_nonneg _ (by decide)) (Int.emod_lt_of_pos _ (by decide))
theorem topN_0 (D : Int) : topN D 0 = D % M64 := by unfold topN; rw [Int.pow_zero, Int.ediv_one]; rfl
theorem mod_div {D P Q : Int} (hP : 0 < P) : D % (P * Q) / P = D / P % Q := by
  rw [Int.emod_def, Int.emod_def (D / P), Int.ediv_ediv_of_nonneg (Int.le_of_lt hP), Int.mul_assoc, Int.sub_eq_add_neg, ← Int.mul_neg, Int.add_mul_ediv_left _ _ (by omega), ← Int.sub_eq_add_neg]
theorem topN_step (D : Int) {m : Nat} (hm : m < 4) : topN D (m + 1) * 65536 + dg 65536 D m = topN D m := by
  have h1 : dg 65536 D m = topN D m % 65536 := by
    unfold topN dg
    have e : (65536 : Int) ^ 4 = 65536 ^ m * (65536 * 65536 ^ (3 - m)) := by rw [Int.mul_comm 65536, ← Int.pow_succ, ← Int.pow_add, show m + (3 - m + 1) = 4 by omega]
    rw [e, mod_div (Int.pow_pos (by decide)), Int.emod_emod_of_dvd _ ⟨_, rfl⟩]
  have h2 : topN D (m + 1) = topN D m / 65536 := by
    unfold topN
    generalize D % 65536 ^ 4 = Y
    rw [Int.pow_succ, Int.ediv_ediv_of_nonneg (Int.le_of_lt (Int.pow_pos (by decide)))]
  rw [h1, h2]
  omega
theorem topN_bound (D : Int) (m : Nat) : 0 ≤ topN D m ∧ topN D m < 18446744073709551616 := by
  unfold topN
  have h1 := Int.emod_nonneg D (show (65536 : Int) ^ 4 ≠ 0 by decide)
  have h2 := Int.emod_lt_of_pos D (show (0 : Int) < 65536 ^ 4 by decide)
  have h3 : (65536 : Int) ^ 4 = 18446744073709551616 := by decide
  exact ⟨Int.ediv_nonneg h1 (Int.le_of_lt (Int.pow_pos (by decide))), Int.lt_of_le_of_lt (Int.ediv_le_self _ h1) (by omega)⟩
end Go.Bas
namespace Go.Proofs.Ytgobodhcamgidaa
open Go.RowKit Go.Bas
attribute [local go_sem ↓] Go.wp_at_zero Go.wp_at_succ
theorem pow_bound {D : Int} (h : 0 ≤ D ∧ D < 65536 ^ 5) : ∀ j, 1 ≤ j → 0 ≤ D ^ j ∧ D ^ j < 65536 ^ (5 * j) := by
  intro j
  induction j with
  | zero => intro h; omega
  | succ j ih =>
    intro _
    by_cases e : j = 0
    · subst e; rw [Int.pow_succ, Int.pow_zero, Int.one_mul]; exact h
    · have h1 := ih (by omega)
      have := Go.Bas.mul_bound h1 h
      rw [Int.pow_succ, show 5 * (j + 1) = 5 * j + 5 by omega]
      exact this

set_option maxRecDepth 100000 in
set_option maxHeartbeats 6400000 in
theorem rRoot_any (p : Int) (k : Nat) (hk : k = 2 ∨ k = 3) (p0 : 2 ≤ p) (p1 : p ≤ 500) (w : World) :
    Calls Try.prog 22 #[.int .i64 p, .int .i64 k] w (RootR p k w) := by
  obtain ⟨T, hT⟩ : ∃ T, T = p * 2 ^ (64 * k) := ⟨_, rfl⟩
  have HGT : Hid (∀ X, gtN 65536 p (4 * k) X = decide (T < X)) := by rw [hT]; exact fun X => gt_T hk
  have HT0 : Hid (RS T k 0 5) := by rw [hT]; exact ⟨by decide, fun j _ => by simp [dg], (T_start hk (by omega) p1).1, (T_start hk (by omega) p1).2⟩
  obtain ⟨RP, hRP⟩ : ∃ RP, RP = RootR p k w := ⟨_, rfl⟩
  have HRP : Hid (∀ X w', RS T k X 0 → Below w.heap.size w w' → RP (.returned (.int .u64 (X % M64))) w') := by
    rw [hRP, hT]; exact fun X w' h hb => ⟨X, ⟨h.1.1, h.2.2.1, by have := h.2.2.2; rwa [Int.pow_zero] at this⟩, rfl, hb⟩
  rw [← hRP]
  have hk2 : 2 ≤ k := by omega
  have hk3 : k ≤ 3 := by omega
  clear hT hk hRP
  go_enter Try.func22, Try.ntmps22
  go_upto_region 2 with (fail)
  refine wp_world (fun w1 => Go.Bas.Own .i64 3 w.heap.size w1 (.slice (some ⟨w.heap.size, 0, none⟩) 5 5) 5 (dg 65536 0) ∧ Below w.heap.size w w1) ⟨Go.Bas.Own.new _ _ _ _ 5 _ (Nat.le_refl _) (by decide) rfl (fun i hi => by rcases (by omega : i = 0 ∨ i = 1 ∨ i = 2 ∨ i = 3 ∨ i = 4) with rfl | rfl | rfl | rfl | rfl <;> simp [dg]), (Below.refl _ _).alloc (Nat.le_refl _) _⟩ ?_
  rintro w1 ⟨ho1, hb1⟩
  go_wp2
  go_loopw [6] (fun i wr => ∃ (m : Nat) (D : Int), m ≤ 5 ∧ i = .int .i64 ((m : Int) - 1) ∧ Hid (RS T k D m) ∧ Go.Bas.Own .i64 3 w.heap.size wr (.slice (some ⟨w.heap.size, 0, none⟩) 5 5) 5 (dg 65536 D) ∧ Below w.heap.size w wr) (fun i _ => (intOf i + 1).toNat)
  case atStart => exact ⟨5, 0, Nat.le_refl _, rfl, HT0.out, ho1, hb1⟩
  case round =>
    clear ho1 hb1 HT0
    obtain ⟨m, D, hm, rfl, hR, ho, hbel⟩ := hrel
    have HO := Lib.hid ho
    have hs := hbel.size
    clear ho
    cases m with
    | zero =>
      have HFIN := Lib.hid (HRP.out D)
      have HR0 := Lib.hid hR.out
      rw [show (((0 : Nat) : Int) - 1) = -1 from rfl]
      clear hR
      go_wp2
      go_loopw [10, 11] (fun u v wr => ∃ m : Nat, m ≤ 4 ∧ u = .int .u64 (topN D m) ∧ v = .int .i64 ((m : Int) - 1) ∧ Go.Bas.Own .i64 3 w.heap.size wr (.slice (some ⟨w.heap.size, 0, none⟩) 5 5) 5 (dg 65536 D) ∧ Below w.heap.size w wr) (fun _ v _ => (intOf v + 1).toNat)
      case atStart => exact ⟨4, Nat.le_refl _, by rw [topN_4], rfl, HO.out, hbel⟩
      case round =>
        clear HO hbel hs
        obtain ⟨m, hm4, rfl, rfl, ho, hbel⟩ := hrel
        cases m with
        | zero =>
          rw [show (((0 : Nat) : Int) - 1) = -1 from rfl, topN_0]
          have HF2 := Lib.hid (HFIN.out _ HR0.out hbel)
          clear HFIN HR0
          go_wp2
          exact HF2.out
        | succ m =>
          rw [show (((m + 1 : Nat) : Int) - 1) = (m : Int) by omega]
          obtain ⟨g', cc', he, _, gl, _, _, hcell, hfree⟩ := ho.form (by decide)
          simp only [Value.slice.injEq, Option.some.injEq, Addr.mk.injEq] at he
          obtain ⟨⟨rfl, q1⟩, q2⟩ := he
          obtain ⟨x, hx⟩ : ∃ x, x = dg 65536 D m := ⟨_, rfl⟩
          obtain ⟨x0, x1⟩ := dg_bound (by decide : (0 : Int) < 65536) D m
          have hst := topN_step D (show m < 4 by omega)
          have hb3 := topN_bound D m
          have hb4 := topN_bound D (m + 1)
          rw [← hx] at x0 x1 hst
          have e1 : wr.cell? ⟨w.heap.size, m, none⟩ = some (.int .i64 x) := by rw [hx]; exact hcell m (by omega)
          obtain ⟨A, hA⟩ : ∃ A, A = topN D (m + 1) := ⟨_, rfl⟩
          obtain ⟨A2, hA2⟩ : ∃ A, A = topN D m := ⟨_, rfl⟩
          rw [← hA] at hst hb4 ⊢
          rw [← hA2] at hst hb3
          obtain ⟨A6, hA6⟩ : ∃ A6, A6 = A * 65536 := ⟨_, rfl⟩
          rw [← hA6] at hst
          have u0 : IntKind.u64.wrap x = x := wrap_u64_id x0 (by omega)
          have u1 : IntKind.u64.wrap (A * 65536) = A6 := by rw [← hA6, wrap_u64_id (by omega) (by omega)]
          have u2 : IntKind.u64.wrap (A6 + x) = A2 := by rw [hst, wrap_u64_id hb3.1 hb3.2]
          have HA2 := Lib.hid hA2
          have HO := Lib.hid ho
          clear hcell hfree q1 q2 ho hx hst hb3 hb4 hA hA2 hA6 gl
          go_wp2
          go_roundw
          case rel => exact ⟨m, by omega, by rw [HA2.out], rfl, HO.out, hbel⟩
          case measure => simp [intOf] <;> omega
    | succ i =>
      rw [show (((i + 1 : Nat) : Int) - 1) = (i : Int) by omega]
      have hi5 : i < 5 := by omega
      have HI := Lib.hid (hR.out.inner)
      clear hR
      go_wp2
      go_loopw [7, 8, 9] (fun u _ _ wr => ∃ (t : Nat) (D : Int), t ≤ 16 ∧ u = .int .i64 (hb2 t) ∧ Hid (RI T k D i t) ∧ Go.Bas.Own .i64 3 w.heap.size wr (.slice (some ⟨w.heap.size, 0, none⟩) 5 5) 5 (dg 65536 D) ∧ Below w.heap.size w wr) (fun u _ _ _ => (intOf u).toNat)
      case atStart => exact ⟨16, D, Nat.le_refl _, rfl, HI.out, HO.out, hbel⟩
      case round =>
        clear HI HO hbel hs
        obtain ⟨t, D, ht, rfl, hR, ho, hbel⟩ := hrel
        have hs := hbel.size
        cases t with
        | zero =>
          have hz : hb2 0 = 0 := rfl
          rw [hz]
          clear hz
          have HR := Lib.hid hR.out.outer
          have HO := Lib.hid ho
          clear hR ho
          go_wp2
          go_roundw
          case rel => exact ⟨i, D, by omega, rfl, HR.out, HO.out, hbel⟩
          case measure => simp [intOf] <;> omega
        | succ t =>
          rw [hb2_succ t]
          obtain ⟨d1, d2, d3, d4, d5⟩ := digit_bit hR.out.1 hi5 (by omega) hR.out.2.2.1
          obtain ⟨q, hq⟩ : ∃ q, q = (2 : Int) ^ t := ⟨_, rfl⟩
          have q0 : 0 < q := by rw [hq]; exact Int.pow_pos (by decide)
          obtain ⟨x, hx⟩ : ∃ x, x = dg 65536 D i := ⟨_, rfl⟩
          obtain ⟨x0, x1⟩ := dg_bound (by decide : (0 : Int) < 65536) D i
          have HNO : Hid (T < (D + 65536 ^ i * q) ^ k → RI T k D i t) := by rw [hq]; exact hR.out.no hi5 (by omega)
          have HYES : Hid (¬ T < (D + 65536 ^ i * q) ^ k → RI T k (D + 65536 ^ i * q) i t) := by rw [hq]; exact hR.out.yes hi5 (by omega)
          rw [← hq] at d1 d2 d3 d4 d5 ⊢
          rw [← hx] at d1 d2 d4 d5 x0 x1
          obtain ⟨C, hC⟩ : ∃ C, C = D + 65536 ^ i * q := ⟨_, rfl⟩
          rw [← hC] at d2 d3 HNO HYES
          obtain ⟨g', cc', he, _, gl, _, _, hcell, hfree⟩ := ho.form (by decide)
          simp only [Value.slice.injEq, Option.some.injEq, Addr.mk.injEq] at he
          obtain ⟨⟨rfl, q1⟩, q2⟩ := he
          have e1 : wr.cell? ⟨w.heap.size, i, none⟩ = some (.int .i64 x) := by rw [hx]; exact hcell i hi5
          have f1 := hfree i
          have HD2 := Lib.hid d2
          have HD3 := Lib.hid d3
          have HXX := Lib.hid hx
          have HQ := Lib.hid hq
          have HO := Lib.hid ho
          have HR := Lib.hid hR.out
          have q16 : q ≤ 65536 := by omega
          have hnew : Hid (hb2 t = q / 2) := by rw [hq]; exact rfl
          clear hcell hfree q1 q2 ho hx hq hC d2 d3 d4 d5 hR
          go_upto_region 9 with (fail)
          have hO1 : Go.Bas.Own .i64 3 w.heap.size (wr.setCell ⟨w.heap.size, i, none⟩ (.int .i64 (x + q))) (.slice (some ⟨w.heap.size, 0, none⟩) 5 5) 5 (dg 65536 C) := (HO.out.store i (x + q)).congr HD2.out
          have hb1 : Below w.heap.size w (wr.setCell ⟨w.heap.size, i, none⟩ (.int .i64 (x + q))) := hbel.setCell (Nat.le_refl _) _
          refine wp_world (fun w1 => Go.Bas.Own .i64 3 w.heap.size w1 (.slice (some ⟨w.heap.size, 0, none⟩) 5 5) 5 (dg 65536 C) ∧ Below w.heap.size w w1) ⟨hO1, hb1⟩ ?_
          rintro w2 ⟨hO2, hb2'⟩
          clear hO1 hb1 e1 f1 hbel hs HO gl
          have hs2 := hb2'.size
          have HO2 := Lib.hid hO2
          clear hO2
          go_wp2
          go_loopw [8, 9] (fun u v wr => ∃ j : Nat, 1 ≤ j ∧ j ≤ k ∧ v = .int .i64 (j : Int) ∧ Rd .i64 wr u (5 * j) (dg 65536 (C ^ j)) ∧ Below w2.heap.size w2 wr) (fun _ v _ => k - (intOf v).toNat)
          case atStart => exact ⟨1, Nat.le_refl _, by omega, rfl, by have := HO2.out.rd; rwa [show C ^ 1 = C from by rw [Int.pow_succ, Int.pow_zero, Int.one_mul]], Below.refl _ _⟩
          case round =>
            obtain ⟨j, hj1, hj, rfl, hrd, hbw⟩ := hrel
            have hsw := hbw.size
            have HRD := Lib.hid hrd
            clear hrd
            by_cases hlt : j < k
            · go_wp2_with fail
              refine (times_any _ _ (5 * j) 5 (C ^ j) C (pow_bound HD3.out j hj1) HD3.out (by omega) (by decide) (by decide) _ HRD.out (HO2.out.rd.below hbw)).mono ?_
              rintro e w3 ⟨v3, rfl, ho3, hb3⟩
              have hrd3 := ho3.rd
              rw [← Int.pow_succ, show 5 * j + 5 = 5 * (j + 1) by omega] at hrd3
              have hbw3 := hbw.trans (hb3.mono hsw)
              clear ho3 hb3 hbw HRD
              go_wp2
              go_roundw
              case rel => exact ⟨j + 1, by omega, by omega, by go_num, hrd3, hbw3⟩
              case measure => simp [intOf] <;> omega
            · obtain rfl : j = k := by omega
              have hO3 := HO2.out.below hbw
              have hb3 := hb2'.trans (hbw.mono hs2)
              have con : ∀ w, Rd .i64 w u8 (5 * j) (dg 65536 (C ^ j)) → Calls Try.prog 55 #[u8, .int .i64 p, .int .i64 (4 * (j : Int))] w fun e' w' => e' = .returned (.bool (decide (T < C ^ j))) ∧ w = w' := fun w h => by
                have := rAbove_any u8 (5 * j) (4 * j) p (C ^ j) (by omega) (by omega) ⟨by omega, by omega⟩ (pow_bound HD3.out j hj1) w h
                rw [HGT.out] at this
                rwa [show ((4 * j : Nat) : Int) = 4 * (j : Int) by omega] at this
              have HRD2 := HRD
              by_cases hg : T < C ^ j
              · rw [decide_eq_true hg] at con
                have CON := Lib.hid con
                have HNX := Lib.hid (HNO.out hg)
                obtain ⟨g', cc', he, _, gl, _, _, hcell, hfree⟩ := hO3.form (by decide)
                simp only [Value.slice.injEq, Option.some.injEq, Addr.mk.injEq] at he
                obtain ⟨⟨rfl, q1⟩, q2⟩ := he
                have e1 : wr.cell? ⟨w.heap.size, i, none⟩ = some (.int .i64 (x + q)) := by rw [hcell i hi5, ← HD2.out i hi5, upd_at]
                have f1 := hfree i
                have HO3 := Lib.hid hO3
                clear con hg HYES HNO hcell hfree q1 q2 gl hO3 HO2 hb2' hbw
                go_wp2_with fail
                refine (CON.out _ HRD.out).mono ?_
                rintro e w3 ⟨rfl, rfl⟩
                go_wp2
                go_roundw
                case rel =>
                  have hO4 : Go.Bas.Own .i64 3 w.heap.size (wr.setCell ⟨w.heap.size, i, none⟩ (.int .i64 x)) (.slice (some ⟨w.heap.size, 0, none⟩) 5 5) 5 (dg 65536 D) := (HO3.out.store i x).congr (fun l hl => by
                    unfold upd
                    split
                    · rename_i hli; subst hli; exact HXX.out
                    · rename_i hli; rw [← HD2.out l hl, upd_ne _ _ hli])
                  have e2 : x + q - q = x := by omega
                  first | exact ⟨t, D, by omega, by rw [hnew.out], HNX.out, hO4, hb3.setCell (Nat.le_refl _) _⟩ | (rw [e2]; exact ⟨t, D, by omega, by rw [hnew.out], HNX.out, hO4, hb3.setCell (Nat.le_refl _) _⟩)
                case measure => simp [intOf] <;> omega
              · rw [decide_eq_false hg] at con
                have CON := Lib.hid con
                have HNX := Lib.hid (HYES.out (by first | exact hg | exact Int.not_lt.1 hg))
                have HO3 := Lib.hid hO3
                clear con hg HYES HNO hO3 HO2 hb2' hbw
                go_wp2_with fail
                refine (CON.out _ HRD.out).mono ?_
                rintro e w3 ⟨rfl, rfl⟩
                go_wp2
                go_roundw
                case rel => exact ⟨t, C, by omega, by rw [hnew.out], HNX.out, HO3.out, hb3⟩
                case measure => simp [intOf] <;> omega
end Go.Proofs.Ytgobodhcamgidaa
