/-
  The law WordPuts returns true for every input. Conditions: none.
-/
import Derived.Test.YtiiafgbdmejcpaaRows
import Derived.Test.YtiiafgbdmejcpaaKit
import Derived.Test.YtiiafgbdmejcpaaSame
import Derived.Test.YtiiafgbdmejcpaaPut
import Derived.Test.YtiiafgbdmejcpaaRLow
namespace Go.Proofs.Ytiiafgbdmejcpaa
open Go.RowKit Go.Bas

set_option maxRecDepth 100000 in
set_option maxHeartbeats 800000 in
theorem Low_err (n s : Int) (w : World) (h : s < 1 ∨ 8 < s ∨ n < 0 ∨ 4611686018427387904 < n) :
    Calls Try.prog 17 #[.int .i64 n, .int .i64 s] w fun e w' => e = .returned (.tuple #[.slice none 0 0, .int .i64 2]) ∧ Below w.heap.size w w' := by
  by_cases h1 : s < 1
  · clear h
    go_enter Try.func17, Try.ntmps17
    go_wp2
    go_ret2
    exact ⟨rfl, Below.refl _ _⟩
  by_cases h2 : 8 < s
  · clear h
    go_enter Try.func17, Try.ntmps17
    go_wp2
    go_ret2
    exact ⟨rfl, Below.refl _ _⟩
  by_cases h3 : n < 0
  · clear h
    go_enter Try.func17, Try.ntmps17
    go_wp2
    go_ret2
    exact ⟨rfl, Below.refl _ _⟩
  have h4 : 4611686018427387904 < n := by omega
  clear h
  go_enter Try.func17, Try.ntmps17
  go_wp2
  go_ret2
  exact ⟨rfl, Below.refl _ _⟩

set_option maxRecDepth 100000 in
set_option maxHeartbeats 400000 in
theorem Put_ok (n : Int) (s : Nat) (w : World) (h1 : 1 ≤ s) (h2 : s ≤ 8) (h3 : 0 ≤ n) (h4 : n ≤ 4611686018427387904) (h5 : n / 2 ^ (8 * s) = 0) :
    Calls Try.prog 16 #[.int .i64 n, .int .i64 s] w fun e w' => ∃ v, e = .returned (.tuple #[v, .int .i64 0]) ∧ Own .u8 5 w.heap.size w' v s (fun i => n / 2 ^ (8 * (s - 1 - i)) % 256) ∧ Below w.heap.size w w' := by
  have H := Lib.hid (Low_any n s w h1 h2 h3 h4)
  have H5 := Lib.hid h5
  clear h1 h3 h4 h5
  go_enter Try.func16, Try.ntmps16
  go_wp2_with fail
  refine H.out.mono ?_
  rintro e w1 ⟨v, hown, hbel, he, _⟩
  obtain rfl := he H5.out
  have HO := Lib.hid hown
  clear hown he
  go_wp2_with fail
  refine (Turned_any _ s _ _ HO.out.rd (by omega)).mono ?_
  rintro e w2 ⟨v2, rfl, hown2, hbel2⟩
  go_wp2_with fail
  go_ret2
  exact ⟨_, rfl, hown2.mono hbel.size, hbel.trans (hbel2.mono hbel.size)⟩

theorem Low_bad (n s : Int) (w : World) (h : s < 1 ∨ 8 < s ∨ n < 0 ∨ 4611686018427387904 < n ∨ (s < 8 ∧ n / 2 ^ (8 * s.toNat) ≠ 0)) :
    Calls Try.prog 17 #[.int .i64 n, .int .i64 s] w fun e w' => e = .returned (.tuple #[.slice none 0 0, .int .i64 2]) ∧ Below w.heap.size w w' := by
  by_cases hr : s < 1 ∨ 8 < s ∨ n < 0 ∨ 4611686018427387904 < n
  · exact Low_err n s w hr
  · obtain ⟨s, rfl⟩ := Int.eq_ofNat_of_zero_le (show 0 ≤ s by omega)
    refine (Low_any n s w (by omega) (by omega) (by omega) (by omega)).mono fun e w' ⟨v, _, hb, _, he⟩ => ⟨he ?_, hb⟩
    simp only [Int.toNat_natCast] at h
    omega

set_option maxRecDepth 100000 in
set_option maxHeartbeats 400000 in
theorem Put_bad (n s : Int) (w : World) (h : s < 1 ∨ 8 < s ∨ n < 0 ∨ 4611686018427387904 < n ∨ (s < 8 ∧ n / 2 ^ (8 * s.toNat) ≠ 0)) :
    Calls Try.prog 16 #[.int .i64 n, .int .i64 s] w fun e w' => ∃ v, e = .returned (.tuple #[v, .int .i64 2]) ∧ Own .u8 5 w.heap.size w' v 0 (fun _ => 0) ∧ Below w.heap.size w w' := by
  have H := Lib.hid (Low_bad n s w h)
  clear h
  go_enter Try.func16, Try.ntmps16
  go_wp2_with fail
  refine H.out.mono ?_
  rintro e w1 ⟨rfl, hbel⟩
  go_wp2_with fail
  refine (Turned_any _ 0 (fun _ => 0) _ (Rd.nil _ _ _) (by omega)).mono ?_
  rintro e w2 ⟨v2, rfl, hown2, hbel2⟩
  go_wp2_with fail
  go_ret2
  exact ⟨_, rfl, hown2.mono hbel.size, hbel.trans (hbel2.mono hbel.size)⟩

theorem put_258 (w : World) : Calls Try.prog 14 #[.int .i64 258, .int .i64 3] w fun e w' => ∃ v, e = .returned (.tuple #[v, .int .i64 0]) ∧ Own .u8 5 w.heap.size w' v 3 (fun i => 258 / 2 ^ (8 * (3 - 1 - i)) % 256) ∧ Below w.heap.size w w' :=
  put_ok 258 3 w (by decide) (by decide) (by decide) (by decide) (by decide)
theorem low_258 (w : World) : Calls Try.prog 15 #[.int .i64 258, .int .i64 3] w fun e w' => ∃ v, e = .returned (.tuple #[v, .int .i64 0]) ∧ Own .u8 5 w.heap.size w' v 3 (fun i => 258 / 2 ^ (8 * i) % 256) ∧ Below w.heap.size w w' :=
  low_ok 258 3 w (by decide) (by decide) (by decide) (by decide) (by decide)

set_option maxRecDepth 100000 in
set_option maxHeartbeats 400000 in
theorem awake_any (w : World) : Calls Try.prog 13 #[] w fun e w' => e = .returned (.bool true) ∧ Below w.heap.size w w' := by
  go_enter Try.func13, Try.ntmps13
  go_wp2_with fail
  refine (put_258 _).mono ?_
  rintro e w1 ⟨v1, rfl, hown1, hbel1⟩
  have HO1 := Lib.hid hown1
  clear hown1
  go_wp2_with fail
  refine (low_258 _).mono ?_
  rintro e w2 ⟨v2, rfl, hown2, hbel2⟩
  have HO2 := Lib.hid hown2
  clear hown2
  go_wp2_with fail
  refine (same_yes _ _ 3 _ _ _ (((HO1.out.below hbel2).alloc _).rd) (Own.new .u8 5 w2 _ 3 (fun i => 258 / 2 ^ (8 * (3 - 1 - i)) % 256) (Nat.zero_le _) (by decide) rfl ?_).rd (fun i hi => rfl)).mono ?_
  · intro i hi
    match i, hi with
    | 0, _ => rfl
    | 1, _ => rfl
    | 2, _ => rfl
  rintro e w3 ⟨rfl, hbel3⟩
  go_wp2_with fail
  refine (same_yes _ _ 3 _ _ _ (((HO2.out.alloc _).below hbel3).alloc _).rd (Own.new .u8 5 w3 _ 3 (fun i => 258 / 2 ^ (8 * i) % 256) (Nat.zero_le _) (by decide) rfl ?_).rd (fun i hi => rfl)).mono ?_
  · intro i hi
    match i, hi with
    | 0, _ => rfl
    | 1, _ => rfl
    | 2, _ => rfl
  rintro e w4 ⟨rfl, hbel4⟩
  go_wp2_with fail
  go_ret
  have h3 := hbel3.size
  have h2 := hbel2.size
  have h1 := hbel1.size
  simp only [World.size_alloc] at hbel3 hbel4 h3
  exact ⟨rfl, ((((hbel1.trans (hbel2.mono h1)).alloc (by omega) _).trans (hbel3.mono (by omega))).alloc (by omega) _).trans (hbel4.mono (by omega))⟩

set_option maxRecDepth 100000 in
set_option maxHeartbeats 400000 in
theorem wordPuts_ok (n : Int) (s : Nat) (w : World) (h1 : 1 ≤ s) (h2 : s ≤ 8) (h3 : 0 ≤ n) (h4 : n ≤ 4611686018427387904) (h5 : n / 2 ^ (8 * s) = 0) :
    Calls Try.prog 3 #[.int .i64 n, .int .i64 s] w fun e w' => e = .returned (.bool true) ∧ Below w.heap.size w w' := by
  have P1 := fun w => Lib.hid (put_ok n s w h1 h2 h3 h4 (fun _ => by simp [h5]))
  have P2 := fun w => Lib.hid (low_ok n s w h1 h2 h3 h4 (fun _ => by simp [h5]))
  have P3 := fun w => Lib.hid (Put_ok n s w h1 h2 h3 h4 h5)
  have P4 := fun w => Lib.hid (Low_any n s w h1 h2 h3 h4)
  have H5 := Lib.hid h5
  clear h3 h4 h5
  go_enter Try.func3, Try.ntmps3
  go_wp2_with fail
  refine (awake_any _).mono ?_
  rintro e w0 ⟨rfl, hbel0⟩
  go_wp2_with fail
  refine (P1 _).out.mono ?_
  rintro e w1 ⟨v1, rfl, hown1, hbel1⟩
  have HO1 := Lib.hid hown1
  clear hown1
  go_wp2_with fail
  refine (P2 _).out.mono ?_
  rintro e w2 ⟨v2, rfl, hown2, hbel2⟩
  have HO2 := Lib.hid hown2
  clear hown2
  go_wp2_with fail
  refine (P3 _).out.mono ?_
  rintro e w3 ⟨v3, rfl, hown3, hbel3⟩
  have HO3 := Lib.hid hown3
  clear hown3
  go_wp2_with fail
  refine (P4 _).out.mono ?_
  rintro e w4 ⟨v4, hown4, hbel4, he, _⟩
  obtain rfl := he H5.out
  have HO4 := Lib.hid hown4
  clear hown4 he
  go_wp2_with fail
  refine (same_yes _ _ s _ _ _ (((HO1.out.below hbel2).below hbel3).below hbel4).rd (HO3.out.below hbel4).rd (fun i hi => rfl)).mono ?_
  rintro e w5 ⟨rfl, hbel5⟩
  go_wp2_with fail
  refine (same_yes _ _ s _ _ _ (((HO2.out.below hbel3).below hbel4).below hbel5).rd (HO4.out.below hbel5).rd (fun i hi => rfl)).mono ?_
  rintro e w6 ⟨rfl, hbel6⟩
  go_wp2_with fail
  go_ret
  have h5 := hbel5.size
  have h4 := hbel4.size
  have h3 := hbel3.size
  have h2 := hbel2.size
  have h1 := hbel1.size
  have h0 := hbel0.size
  exact ⟨rfl, (((((hbel0.trans (hbel1.mono (by omega))).trans (hbel2.mono (by omega))).trans (hbel3.mono (by omega))).trans (hbel4.mono (by omega))).trans (hbel5.mono (by omega))).trans (hbel6.mono (by omega))⟩

set_option maxRecDepth 100000 in
set_option maxHeartbeats 400000 in
theorem wordPuts_bad (n s : Int) (w : World) (h : s < 1 ∨ 8 < s ∨ n < 0 ∨ 4611686018427387904 < n ∨ (s < 8 ∧ n / 2 ^ (8 * s.toNat) ≠ 0)) :
    Calls Try.prog 3 #[.int .i64 n, .int .i64 s] w fun e w' => e = .returned (.bool true) ∧ Below w.heap.size w w' := by
  have H := Lib.hid h
  clear h
  go_enter Try.func3, Try.ntmps3
  go_wp2_with fail
  refine (awake_any _).mono ?_
  rintro e w0 ⟨rfl, hbel0⟩
  go_wp2_with fail
  refine (put_err n s _ H.out).mono ?_
  rintro e w1 ⟨v1, rfl, hown1, hbel1⟩
  have HO1 := Lib.hid hown1
  clear hown1
  go_wp2_with fail
  refine (low_err n s _ H.out).mono ?_
  rintro e w2 ⟨rfl, hbel2⟩
  go_wp2_with fail
  refine (Put_bad n s _ H.out).mono ?_
  rintro e w3 ⟨v3, rfl, hown3, hbel3⟩
  have HO3 := Lib.hid hown3
  clear hown3
  go_wp2_with fail
  refine (Low_bad n s _ H.out).mono ?_
  rintro e w4 ⟨rfl, hbel4⟩
  go_wp2_with fail
  refine (same_yes _ _ 0 _ _ _ (((HO1.out.below hbel2).below hbel3).below hbel4).rd (HO3.out.below hbel4).rd (fun i hi => rfl)).mono ?_
  rintro e w5 ⟨rfl, hbel5⟩
  go_wp2_with fail
  refine (same_yes _ _ 0 _ _ _ (Rd.nil _ _ (fun _ => 0)) (Rd.nil _ _ (fun _ => 0)) (fun i hi => rfl)).mono ?_
  rintro e w6 ⟨rfl, hbel6⟩
  go_wp2_with fail
  go_ret
  have h5 := hbel5.size
  have h4 := hbel4.size
  have h3 := hbel3.size
  have h2 := hbel2.size
  have h1 := hbel1.size
  have h0 := hbel0.size
  exact ⟨rfl, (((((hbel0.trans (hbel1.mono (by omega))).trans (hbel2.mono (by omega))).trans (hbel3.mono (by omega))).trans (hbel4.mono (by omega))).trans (hbel5.mono (by omega))).trans (hbel6.mono (by omega))⟩

theorem wordPuts_walk (n s : Int) (w : World) : Calls Try.prog 3 #[.int .i64 n, .int .i64 s] w fun e w' => e = .returned (.bool true) ∧ Below w.heap.size w w' := by
  by_cases h : s < 1 ∨ 8 < s ∨ n < 0 ∨ 4611686018427387904 < n ∨ (s < 8 ∧ n / 2 ^ (8 * s.toNat) ≠ 0)
  · exact wordPuts_bad n s w h
  · obtain ⟨s, rfl⟩ := Int.eq_ofNat_of_zero_le (show 0 ≤ s by omega)
    refine wordPuts_ok n s w (by omega) (by omega) (by omega) (by omega) ?_
    simp only [Int.toNat_natCast] at h
    by_cases h8 : s = 8
    · subst h8
      exact Int.ediv_eq_zero_of_lt (by omega) (by omega)
    · omega

theorem wordPuts_law (w : World) (n : Int) (_ : (Lit.int .i64 n).wf = true) (s : Int) (_ : (Lit.int .i64 s).wf = true) : Calls Try.prog 3 #[.int .i64 n, .int .i64 s] w fun e w' => e = .returned (.bool true) ∧ Below w.heap.size w w' := wordPuts_walk n s w
end Go.Proofs.Ytiiafgbdmejcpaa
