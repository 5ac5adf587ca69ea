/-
  bastilleref01.Turned: it answers the bytes turned round. Conditions: at most 2^47 bytes.
-/
import Derived.Test.YtgobodhcamgidaaRows
import Derived.Test.YtgobodhcamgidaaKit
import Derived.Test.YtgobodhcamgidaaLow
set_option linter.unusedVariables false
set_option linter.unusedSimpArgs false
namespace Go.Proofs.Ytgobodhcamgidaa
open Go.RowKit Go.Bas

set_option maxRecDepth 100000 in
set_option maxHeartbeats 400000 in
theorem Turned_any (va : Value) (n : Nat) (f : Nat → Int) (w : World) (ha : Rd .u8 w va n f) (hn : n ≤ 140737488355328) :
    Calls Try.prog 80 #[va] w fun e w' => ∃ v, e = .returned v ∧ Own .u8 5 w.heap.size w' v n (fun i => f (n - 1 - i)) ∧ Below w.heap.size w w' := by
  obtain ⟨a1, c1, rfl, l1, m1, z1, h1⟩ := ha
  have H1 := Lib.hid h1
  clear h1 z1
  go_enter Try.func80, Try.ntmps80
  go_wp2
  go_loopw [3, 4] (fun v i wr => ∃ (j : Nat) (x : Int), j ≤ n ∧ x = (j : Int) - 1 ∧ i = .int .i64 x ∧ Own .u8 5 w.heap.size wr v (n - j) (fun i => f (n - 1 - i)) ∧ Below w.heap.size w wr) (fun _ i _ => (intOf i + 1).toNat)
  case atStart => exact ⟨n, _, Nat.le_refl _, rfl, rfl, by rw [Nat.sub_self]; exact Own.nil _ _ _ _ _, Below.refl _ _⟩
  case round =>
    obtain ⟨j, x, hj, hx, rfl, ho, hbel⟩ := hrel
    rcases j with _ | m
    · obtain rfl : x = -1 := by omega
      clear hx
      go_wp2
      go_ret
      exact ⟨_, rfl, ho, hbel⟩
    · obtain rfl : x = (m : Int) := by omega
      clear hx
      obtain ⟨b, o, rfl, hs, hc⟩ := H1.out (by omega)
      have e1 := (hbel.cell (p := ⟨b, o + m, none⟩) hs).trans (hc m (by omega))
      clear hc
      have HO := Lib.hid ho
      clear ho
      have hsz := hbel.size
      go_wp2_with (at_builtin; refine append_new rfl _ _ 22 rfl w.heap.size 5 .u8 1 Try.underlying22 Try.info5 _ (n - (m + 1)) (fun i => f (n - 1 - i)) wr _ rfl HO.out rfl 1 rfl rfl ?_ (by omega) (by omega) hsz ?_; rotate_right; intro v' w1 hown hgrow)
      · go_roundw
        case rel => exact ⟨m, _, by omega, rfl, rfl, by rw [show n - m = n - (m + 1) + 1 by omega]; exact hown, below_grown ((hbel.alloc hsz _)) hgrow HO.out (by simp; omega) (Nat.le_refl _)⟩
        case measure => simp [intOf] <;> omega
      · intro i hi
        obtain rfl : i = 0 := by omega
        simp
        congr 1; omega
end Go.Proofs.Ytgobodhcamgidaa
