/-
  bastilleref01.Low within its ranges. Conditions: named in the theorem.
-/
import Derived.Test.YtgobodhcamgidaaRows
import Derived.Test.YtgobodhcamgidaaKit
import Derived.Test.YtgobodhcamgidaaLow
import Derived.Test.YtgobodhcamgidaaTurned
set_option linter.unusedVariables false
set_option linter.unusedSimpArgs false
namespace Go.Proofs.Ytgobodhcamgidaa
open Go.RowKit Go.Bas

set_option maxRecDepth 100000 in
set_option maxHeartbeats 400000 in
theorem Low_any (n : Int) (s : Nat) (w : World) (h1 : 1 ≤ s) (h2 : s ≤ 8) (h3 : 0 ≤ n) (h4 : n ≤ 4611686018427387904) :
    Calls Try.prog 71 #[.int .i64 n, .int .i64 s] w fun e w' => ∃ v, Own .u8 5 w.heap.size w' v s (fun i => n / 2 ^ (8 * i) % 256) ∧ Below w.heap.size w w' ∧
      ((n / 2 ^ (8 * s) = 0 → e = .returned (.tuple #[v, .int .i64 0])) ∧ (n / 2 ^ (8 * s) ≠ 0 → e = .returned (.tuple #[.slice none 0 0, .int .i64 2]))) := by
  have h1' : (1 : Int) ≤ s := by omega
  have h2' : (s : Int) ≤ 8 := by omega
  go_enter Try.func71, Try.ntmps71
  go_wp2
  go_loopw [0, 6, 7] (fun x v i wr => ∃ (k : Nat) (q : Int), k ≤ s ∧ q = n / 2 ^ (8 * k) ∧ x = .int .i64 q ∧ i = .int .i64 k ∧ Own .u8 5 w.heap.size wr v k (fun i => n / 2 ^ (8 * i) % 256) ∧ Below w.heap.size w wr) (fun _ _ i _ => s - (intOf i).toNat)
  case atStart => exact ⟨0, _, Nat.zero_le _, by simp, rfl, rfl, Own.nil _ _ _ _ _, Below.refl _ _⟩
  case round =>
    obtain ⟨k, q, hk, hq, rfl, rfl, ho, hbel⟩ := hrel
    have hqb := div_bound h3 (8 * k)
    rw [← hq] at hqb
    obtain ⟨hq0, hq1⟩ := hqb
    have HQ := Lib.hid hq
    have HO := Lib.hid ho
    have hsz := hbel.size
    clear hq ho
    by_cases hlt : k < s
    · go_wp2_with (at_builtin; refine append_new rfl _ _ 22 rfl w.heap.size 5 .u8 1 Try.underlying22 Try.info5 _ k (fun i => n / 2 ^ (8 * i) % 256) wr _ rfl HO.out rfl 1 rfl rfl ?_ (by omega) (by omega) hsz ?_; rotate_right; intro v' w1 hown hgrow)
      · go_roundw
        case rel => exact ⟨k + 1, _, by omega, by rw [div_step, ← HQ.out], rfl, by go_num, hown, below_grown (hbel.alloc hsz _) hgrow HO.out (by simp; omega) (Nat.le_refl _)⟩
        case measure => simp [intOf] <;> omega
      · intro i hi
        obtain rfl : i = 0 := by omega
        simp
        rw [← HQ.out]
    · obtain rfl : k = s := by omega
      by_cases hz : q = 0
      · have hz' : ¬ 0 < q := by omega
        have HZ := Lib.hid hz
        clear hz
        go_wp2
        go_ret2
        exact ⟨_, HO.out, hbel, fun _ => rfl, fun h => absurd (HQ.out.symm.trans HZ.out) h⟩
      · have hz' : 0 < q := by omega
        have HZ := Lib.hid hz
        clear hz
        go_wp2
        go_ret2
        exact ⟨_, HO.out, hbel, fun h => absurd (HQ.out.trans h) HZ.out, fun _ => rfl⟩
end Go.Proofs.Ytgobodhcamgidaa
