/-
  bastilleref04: Digits, Less: what each makes. Conditions: named in each theorem.
-/
import Derived.Test.YtgobodhcamgidaaRef4
import Derived.Deep.RegionHeld3
import Derived.Deep.DrawnRows
set_option linter.unusedVariables false
set_option linter.unusedSimpArgs false
namespace Go.Proofs.Ytgobodhcamgidaa
open Go.RowKit Go.Bas
attribute [local go_sem ↓] Go.wp_at_zero Go.wp_at_succ

set_option maxRecDepth 100000 in
set_option maxHeartbeats 800000 in
theorem rLess_any (va vb : Value) (X Y : Int) (n m : Nat) (hnm : n ≤ m) (hn : n ≤ 1000) (w : World) (ha : Rd .i64 w va n (dg 65536 X)) (hb : Rd .i64 w vb m (dg 65536 Y)) :
    Calls Try.prog 114 #[va, vb] w fun e w' =>
      ∃ v, e = .returned v ∧ Own .i64 3 w.heap.size w' v n (dg 65536 (X - Y)) ∧ Below w.heap.size w w' := by
  obtain ⟨a1, c1, rfl, l1, m1, z1, h1⟩ := ha
  obtain ⟨a2, c2, rfl, l2, m2, z2, h2⟩ := hb
  have H1 := Lib.hid h1
  have H2 := Lib.hid h2
  clear z1 h1 z2 h2
  go_enter Try.func114, Try.ntmps114
  go_wp2
  go_loopw [5, 6, 7] (fun v c i wr => ∃ (j : Nat) (z : Int), j ≤ n ∧ z = bor2 X Y j ∧ 0 ≤ z ∧ z ≤ 1 ∧ c = .int .i64 z ∧ i = .int .i64 j ∧ Own .i64 3 w.heap.size wr v j (dg 65536 (X - Y)) ∧ Below w.heap.size w wr) (fun _ _ i _ => n - (intOf i).toNat)
  case atStart => exact ⟨0, 0, Nat.zero_le _, (bor2_zero X Y).symm, by decide, by decide, rfl, rfl, Own.nil _ _ _ _ _, Below.refl _ _⟩
  case round =>
    obtain ⟨j, z, hj, hz, z0, z1, rfl, rfl, ho, hbel⟩ := hrel
    have HZ := Lib.hid hz
    have HO := Lib.hid ho
    clear hz ho
    by_cases hlt : j < n
    · obtain ⟨b1, o1, rfl, s1, e1⟩ := H1.out (by omega)
      obtain ⟨b2, o2, rfl, s2, e2⟩ := H2.out (by omega)
      have c1 := (hbel.cell (p := ⟨b1, o1 + j, none⟩) s1).trans (e1 j (by omega))
      have c2 := (hbel.cell (p := ⟨b2, o2 + j, none⟩) s2).trans (e2 j (by omega))
      obtain ⟨x0, x1⟩ := dg_bound (by decide : (0 : Int) < 65536) X j
      obtain ⟨y0, y1⟩ := dg_bound (by decide : (0 : Int) < 65536) Y j
      have u1 := wrap_i64_id (x := dg 65536 X j - dg 65536 Y j) (by omega) (by omega)
      have u2 := wrap_i64_id (x := dg 65536 X j - dg 65536 Y j - z) (by omega) (by omega)
      have hst : (dg 65536 X j - dg 65536 Y j - z) % 65536 = dg 65536 (X - Y) j ∧ (if dg 65536 X j - dg 65536 Y j - z < 0 then 1 else 0) = bor2 X Y (j + 1) := by
        have := HZ.out
        subst this
        unfold bor2 dg at *
        rw [div_succ (by decide) X, div_succ (by decide) Y, div_succ (by decide) (X - Y)]
        split <;> omega
      have HST := Lib.hid hst
      have hsz := hbel.size
      clear hst e1 e2
      by_cases hneg : dg 65536 X j - dg 65536 Y j - z < 0
      · have HS1 : Hid (dg 65536 X j - dg 65536 Y j - z + 65536 = dg 65536 (X - Y) j) := by unfold Hid; have := HST.out.1; omega
        have HS2 : Hid (1 = bor2 X Y (j + 1)) := by unfold Hid; have := HST.out.2; rwa [if_pos hneg] at this
        go_wp2
        go_quiet (fail)
        go_wp2_with (at_builtin; refine append_new rfl _ _ 44 rfl w.heap.size 3 .i64 8 Try.underlying44 Try.info3 _ j (dg 65536 (X - Y)) _ _ rfl (HO.out.drewN _) rfl 1 rfl rfl ?_ (by omega) (by omega) hsz ?_; rotate_right; intro v' w1 hown hgrow)
        · go_roundw
          case rel => exact ⟨j + 1, _, by omega, HS2.out, by decide, by decide, rfl, by go_num, hown, below_grown ((below_drewN hbel _).alloc hsz _) hgrow HO.out (by simp; omega) (Nat.le_refl _)⟩
          case measure => simp [intOf] <;> omega
        · intro i hi
          obtain rfl : i = 0 := by omega
          rw [Nat.add_zero, ← HS1.out]; rfl
      · have HS1 : Hid (dg 65536 X j - dg 65536 Y j - z = dg 65536 (X - Y) j) := by unfold Hid; have := HST.out.1; omega
        have HS2 : Hid (0 = bor2 X Y (j + 1)) := by unfold Hid; have := HST.out.2; rwa [if_neg hneg] at this
        go_wp2
        go_quiet (fail)
        go_wp2_with (at_builtin; refine append_new rfl _ _ 44 rfl w.heap.size 3 .i64 8 Try.underlying44 Try.info3 _ j (dg 65536 (X - Y)) _ _ rfl (HO.out.drewN _) rfl 1 rfl rfl ?_ (by omega) (by omega) hsz ?_; rotate_right; intro v' w1 hown hgrow)
        · go_roundw
          case rel => exact ⟨j + 1, _, by omega, HS2.out, by decide, by decide, rfl, by go_num, hown, below_grown ((below_drewN hbel _).alloc hsz _) hgrow HO.out (by simp; omega) (Nat.le_refl _)⟩
          case measure => simp [intOf] <;> omega
        · intro i hi
          obtain rfl : i = 0 := by omega
          rw [Nat.add_zero, ← HS1.out]; rfl
    · obtain rfl : j = n := by omega
      go_wp2
      go_ret
      exact ⟨_, rfl, HO.out, hbel⟩
end Go.Proofs.Ytgobodhcamgidaa
