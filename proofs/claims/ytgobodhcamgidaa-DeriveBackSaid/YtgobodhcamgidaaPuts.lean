/-
  The law WordPuts returns true for every input. Conditions: none.
-/
import Derived.Test.YtgobodhcamgidaaRows
import Derived.Test.YtgobodhcamgidaaKit
import Derived.Test.YtgobodhcamgidaaSame
import Derived.Test.YtgobodhcamgidaaPut
import Derived.Test.YtgobodhcamgidaaRLow
set_option linter.unusedVariables false
set_option linter.unusedSimpArgs false
namespace Go.Proofs.Ytgobodhcamgidaa
open Go.RowKit Go.Bas

set_option maxRecDepth 100000 in
set_option maxHeartbeats 800000 in
theorem Low_err (n s : Int) (w : World) (h : s < 1 ∨ 8 < s ∨ n < 0 ∨ 4611686018427387904 < n) :
    Calls Try.prog 71 #[.int .i64 n, .int .i64 s] w fun e w' => e = .returned (.tuple #[.slice none 0 0, .int .i64 2]) ∧ Below w.heap.size w w' := by
  by_cases h1 : s < 1
  · clear h
    go_enter Try.func71, Try.ntmps71
    go_wp2
    go_ret2
    exact ⟨rfl, Below.refl _ _⟩
  by_cases h2 : 8 < s
  · clear h
    go_enter Try.func71, Try.ntmps71
    go_wp2
    go_ret2
    exact ⟨rfl, Below.refl _ _⟩
  by_cases h3 : n < 0
  · clear h
    go_enter Try.func71, Try.ntmps71
    go_wp2
    go_ret2
    exact ⟨rfl, Below.refl _ _⟩
  have h4 : 4611686018427387904 < n := by omega
  clear h
  go_enter Try.func71, Try.ntmps71
  go_wp2
  go_ret2
  exact ⟨rfl, Below.refl _ _⟩

set_option maxRecDepth 100000 in
set_option maxHeartbeats 400000 in
theorem Put_ok (n : Int) (s : Nat) (w : World) (h1 : 1 ≤ s) (h2 : s ≤ 8) (h3 : 0 ≤ n) (h4 : n ≤ 4611686018427387904) (h5 : n / 2 ^ (8 * s) = 0) :
    Calls Try.prog 62 #[.int .i64 n, .int .i64 s] w fun e w' => ∃ v, e = .returned (.tuple #[v, .int .i64 0]) ∧ Own .u8 5 w.heap.size w' v s (fun i => n / 2 ^ (8 * (s - 1 - i)) % 256) ∧ Below w.heap.size w w' := by
  have H := Lib.hid (Low_any n s w h1 h2 h3 h4)
  have H5 := Lib.hid h5
  clear h1 h3 h4 h5
  go_enter Try.func62, Try.ntmps62
  go_wp2_with fail
  refine H.out.mono ?_
  rintro e w1 ⟨v, hown, hbel, he, _⟩
  obtain rfl := he H5.out
  have HO := Lib.hid hown
  clear hown he
  go_wp2_with fail
  refine (Turned_any _ s _ _ HO.out.rd (by omega)).mono ?_
  rintro e w2 ⟨v2, rfl, hown2, hbel2⟩
  go_wp2_with fail
  go_ret2
  exact ⟨_, rfl, hown2.mono hbel.size, hbel.trans (hbel2.mono hbel.size)⟩

theorem Low_bad (n s : Int) (w : World) (h : s < 1 ∨ 8 < s ∨ n < 0 ∨ 4611686018427387904 < n ∨ (s < 8 ∧ n / 2 ^ (8 * s.toNat) ≠ 0)) :
    Calls Try.prog 71 #[.int .i64 n, .int .i64 s] w fun e w' => e = .returned (.tuple #[.slice none 0 0, .int .i64 2]) ∧ Below w.heap.size w w' := by
  by_cases hr : s < 1 ∨ 8 < s ∨ n < 0 ∨ 4611686018427387904 < n
  · exact Low_err n s w hr
  · obtain ⟨s, rfl⟩ := Int.eq_ofNat_of_zero_le (show 0 ≤ s by omega)
    refine (Low_any n s w (by omega) (by omega) (by omega) (by omega)).mono fun e w' ⟨v, _, hb, _, he⟩ => ⟨he ?_, hb⟩
    simp only [Int.toNat_natCast] at h
    omega

set_option maxRecDepth 100000 in
set_option maxHeartbeats 400000 in
theorem Put_bad (n s : Int) (w : World) (h : s < 1 ∨ 8 < s ∨ n < 0 ∨ 4611686018427387904 < n ∨ (s < 8 ∧ n / 2 ^ (8 * s.toNat) ≠ 0)) :
    Calls Try.prog 62 #[.int .i64 n, .int .i64 s] w fun e w' => ∃ v, e = .returned (.tuple #[v, .int .i64 2]) ∧ Own .u8 5 w.heap.size w' v 0 (fun _ => 0) ∧ Below w.heap.size w w' := by
  have H := Lib.hid (Low_bad n s w h)
  clear h
  go_enter Try.func62, Try.ntmps62
  go_wp2_with fail
  refine H.out.mono ?_
  rintro e w1 ⟨rfl, hbel⟩
  go_wp2_with fail
  refine (Turned_any _ 0 (fun _ => 0) _ (Rd.nil _ _ _) (by omega)).mono ?_
  rintro e w2 ⟨v2, rfl, hown2, hbel2⟩
  go_wp2_with fail
  go_ret2
  exact ⟨_, rfl, hown2.mono hbel.size, hbel.trans (hbel2.mono hbel.size)⟩

theorem put_258 (w : World) : Calls Try.prog 61 #[.int .i64 258, .int .i64 3] w fun e w' => ∃ v, e = .returned (.tuple #[v, .int .i64 0]) ∧ Own .u8 5 w.heap.size w' v 3 (fun i => 258 / 2 ^ (8 * (3 - 1 - i)) % 256) ∧ Below w.heap.size w w' :=
  put_ok 258 3 w (by decide) (by decide) (by decide) (by decide) (by decide)
theorem low_258 (w : World) : Calls Try.prog 78 #[.int .i64 258, .int .i64 3] w fun e w' => ∃ v, e = .returned (.tuple #[v, .int .i64 0]) ∧ Own .u8 5 w.heap.size w' v 3 (fun i => 258 / 2 ^ (8 * i) % 256) ∧ Below w.heap.size w w' :=
  low_ok 258 3 w (by decide) (by decide) (by decide) (by decide) (by decide)

end Go.Proofs.Ytgobodhcamgidaa
