/-
  Part 1 of the texts that the proof of PointLaws rests on, one after the other. Conditions: named in each theorem.
-/
import Derived.Test.YtdhejcaapdhhfaaRows
import Derived.Test.YtdhejcaapdhhfaaKit
set_option linter.unusedVariables false
set_option linter.unusedSimpArgs false
namespace Go.Proofs.Ytdhejcaapdhhfaa
theorem Try.info5 : (Try.prog.info? 5).map (fun i => (i.zero, i.size, i.bytes)) = some (some (.int .u8 0), 1, 1) := by kernel_rfl
theorem Try.size5 : (Try.prog.info? 5).map (·.size) = some 1 := by kernel_rfl
theorem Try.info3 : (Try.prog.info? 3).map (fun i => (i.zero, i.size, i.bytes)) = some (some (.int .i64 0), 1, 8) := by kernel_rfl
theorem Try.size3 : (Try.prog.info? 3).map (·.size) = some 1 := by kernel_rfl
theorem Try.info102 : (Try.prog.info? 102).map (fun i => (i.zero, i.size, i.bytes)) = some (some (.int .u32 0), 1, 4) := by kernel_rfl
theorem Try.size102 : (Try.prog.info? 102).map (·.size) = some 1 := by kernel_rfl
theorem Try.info114 : (Try.prog.info? 114).map (fun i => (i.zero, i.size, i.bytes)) = some (some (.int .u64 0), 1, 8) := by kernel_rfl
theorem Try.size114 : (Try.prog.info? 114).map (·.size) = some 1 := by kernel_rfl
theorem Try.info2 : (Try.prog.info? 2).map (fun i => (i.zero, i.size, i.bytes)) = some (some (.int .i64 0), 1, 8) := by kernel_rfl
theorem Try.size2 : (Try.prog.info? 2).map (·.size) = some 1 := by kernel_rfl
theorem Try.size22 : (Try.prog.info? 22).map (·.size) = some 32 := by kernel_rfl
theorem Try.size104 : (Try.prog.info? 104).map (·.size) = some 17 := by kernel_rfl
theorem Try.size154 : (Try.prog.info? 154).map (·.size) = some 34 := by kernel_rfl
theorem Try.size155 : (Try.prog.info? 155).map (·.size) = some 68 := by kernel_rfl
theorem Try.size95 : (Try.prog.info? 95).map (·.size) = some 12 := by kernel_rfl
theorem Try.size159 : (Try.prog.info? 159).map (·.size) = some 16 := by kernel_rfl
theorem Try.size60 : (Try.prog.info? 60).map (·.size) = some 64 := by kernel_rfl
theorem Try.size24 : (Try.prog.info? 24).map (·.size) = some 16 := by kernel_rfl
theorem Try.size96 : (Try.prog.info? 96).map (·.size) = some 31 := by kernel_rfl
theorem Try.size26 : (Try.prog.info? 26).map (·.size) = some 16 := by kernel_rfl
end Go.Proofs.Ytdhejcaapdhhfaa

namespace Go.Proofs.Ytdhejcaapdhhfaa
open Go.RowKit Go.Bas

set_option maxRecDepth 100000 in
set_option maxHeartbeats 400000 in
theorem low_ok (n : Int) (s : Nat) (w : World) (h1 : 1 ≤ s) (h2 : s ≤ 8) (h3 : 0 ≤ n) (h4 : n ≤ 4611686018427387904) (h5 : s < 8 → (n / 2 ^ (8 * s) != 0) = false) :
    Calls Try.prog 138 #[.int .i64 n, .int .i64 s] w fun e w' => ∃ v, e = .returned (.tuple #[v, .int .i64 0]) ∧ Own .u8 5 w.heap.size w' v s (fun i => n / 2 ^ (8 * i) % 256) ∧ Below w.heap.size w w' := by
  by_cases h8 : s < 8
  all_goals
    first | have h6 := h5 h8 | skip
    go_enter Try.func138, Try.ntmps138
    go_wp2_with (at_make; refine make_ints rfl _ _ 56 rfl w.heap.size 5 .u8 1 Try.underlying56 Try.info5 .i64 .i64 s rfl rfl (by omega) (by omega) (by omega) ?_; intro w1 hown hgrow)
    have hb0 : Below w.heap.size w w1 := below_grown0 (Below.refl _ _) hgrow (Nat.le_refl _)
    clear hgrow
    go_loopw [38] (fun i wr => ∃ k : Nat, k ≤ s ∧ i = .int .i64 k ∧ Own .u8 5 w.heap.size wr (.slice (some ⟨w.heap.size, 0, none⟩) s s) s (upto k (fun i => n / 2 ^ (8 * i) % 256) (fun _ => 0)) ∧ Below w.heap.size w wr) (fun i _ => s - (intOf i).toNat)
    case atStart => exact ⟨0, Nat.zero_le _, rfl, by rw [upto_zero]; exact hown, hb0⟩
    case round =>
      obtain ⟨k, hk, rfl, ho, hbel⟩ := hrel
      by_cases hlt : k < s
      · obtain ⟨g, c, hv, _, hg, _, _, hcell, hfr⟩ := ho.form (by omega)
        simp only [Value.slice.injEq, Option.some.injEq, Addr.mk.injEq, and_true, true_and] at hv
        obtain ⟨rfl, _⟩ := hv
        replace hcell := hcell k hlt
        replace hfr := hfr k
        have HO := Lib.hid ho
        clear ho
        go_wp2
        go_roundw
        case rel => exact ⟨k + 1, by omega, by go_num, by rw [← upto_step rfl]; exact HO.out.store k _, hbel.setCell (Nat.le_refl _) _⟩
        case measure => simp [intOf] <;> omega
      · go_wp2
        go_ret2
        exact ⟨_, rfl, ho.congr (upto_full _ _ (by omega)), hbel⟩

set_option maxRecDepth 100000 in
set_option maxHeartbeats 800000 in
theorem low_err (n s : Int) (w : World) (h : s < 1 ∨ 8 < s ∨ n < 0 ∨ 4611686018427387904 < n ∨ (s < 8 ∧ n / 2 ^ (8 * s.toNat) ≠ 0)) :
    Calls Try.prog 138 #[.int .i64 n, .int .i64 s] w fun e w' => e = .returned (.tuple #[.slice none 0 0, .int .i64 2]) ∧ Below w.heap.size w w' := by
  by_cases h1 : s < 1
  · clear h
    go_enter Try.func138, Try.ntmps138
    go_wp2
    go_ret2
    exact ⟨rfl, Below.refl _ _⟩
  by_cases h2 : 8 < s
  · clear h
    go_enter Try.func138, Try.ntmps138
    go_wp2
    go_ret2
    exact ⟨rfl, Below.refl _ _⟩
  obtain ⟨s, rfl⟩ := Int.eq_ofNat_of_zero_le (show 0 ≤ s by omega)
  by_cases h3 : n < 0
  · clear h
    go_enter Try.func138, Try.ntmps138
    go_wp2
    go_ret2
    exact ⟨rfl, Below.refl _ _⟩
  by_cases h4 : 4611686018427387904 < n
  · clear h
    go_enter Try.func138, Try.ntmps138
    go_wp2
    go_ret2
    exact ⟨rfl, Below.refl _ _⟩
  have h5 : (s : Int) < 8 := by omega
  have h6 : (n / 2 ^ (8 * s) != 0) = true := by simp at h ⊢; omega
  clear h
  go_enter Try.func138, Try.ntmps138
  go_wp2
  go_ret2
  exact ⟨rfl, Below.refl _ _⟩
end Go.Proofs.Ytdhejcaapdhhfaa
