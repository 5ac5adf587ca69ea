/-
  The disk is read. Conditions: named in each theorem.
-/
import Derived.Test.YtlmdgmgbijfaoaaDkB
import Derived.Test.YtlmdgmgbijfaoaaMrow
set_option linter.unusedVariables false
set_option linter.unusedSimpArgs false
namespace Go.Proofs.Ytlmdgmgbijfaoaa
open Go.RowKit Go.Bas Go.ChangeShapes
attribute [local go_sem ↓] Go.wp_at_zero Go.wp_at_succ
theorem Try.size137 : (Try.prog.info? 137).map (·.size) = some 64 := by kernel_rfl
theorem Try.size139 : (Try.prog.info? 139).map (·.size) = some 65 := by kernel_rfl
section
variable {w w' : World} {p : Nat} {vk vn vw : Value} {d : Dsk}
set_option maxRecDepth 100000 in
theorem dkRead_no {N : Nat → Nat → Int} (h : DkR w p vk vn vw d N) (k : Int) (hm : d.may k ≠ 0) : Calls Try.prog 22 #[ptrTo p, .int .i64 k] w fun e w' => e = .returned (.tuple #[.slice none 0 0, .int .i64 (d.may k)]) ∧ w' = w := by
  have HI := Lib.hid (dkMay_any h k)
  clear h
  obtain ⟨E, hE⟩ : ∃ x, x = d.may k := ⟨_, rfl⟩
  rw [← hE] at HI hm ⊢
  clear hE
  go_enter Try.func22, Try.ntmps22
  go_wp2_with fail
  refine HI.out.mono ?_
  rintro e w' ⟨rfl, rfl⟩
  go_wp2
  go_ret2
  exact ⟨rfl, rfl⟩
theorem may_zero {d : Dsk} {k : Int} (h : d.may k = 0) : d.off = false ∧ 0 ≤ k ∧ k < d.n := by
  unfold Dsk.may at h
  by_cases ho : d.off = true
  · rw [if_pos ho] at h; cases h
  · rw [if_neg ho] at h
    by_cases hk : k < 0 ∨ (d.n : Int) ≤ k
    · rw [if_pos hk] at h; cases h
    · exact ⟨by simpa using ho, by omega, by omega⟩
set_option maxRecDepth 100000 in
theorem dkRead_at (h : DkAt w p vk vn vw d) (k : Int) (hm : d.may k = 0) : Calls Try.prog 22 #[ptrTo p, .int .i64 k] w fun e w' => e = .returned (.tuple #[.slice (some ⟨w.heap.size, 0, none⟩) 64 64, .int .i64 0]) ∧ Rd .u8 w' (.slice (some ⟨w.heap.size, 0, none⟩) 64 64) 64 (d.now k.toNat) ∧ Below w.heap.size w w' := by
  have HI := Lib.hid (dkMay_any h k)
  obtain ⟨ho, hk0, hk1⟩ := may_zero hm
  obtain ⟨j, rfl⟩ := Int.eq_ofNat_of_zero_le hk0
  have hj : j < d.n := by omega
  rw [hm] at HI
  have h1 := h.cn
  obtain ⟨g, cap, rfl, hrow, hcap, hcap2, hcell⟩ := h.now.form h.n0
  have HC := Lib.hid (fun i (hi : i < 64) => hcell j hj i hi)
  clear h hcell hm hk0 hk1 ho hrow
  obtain ⟨f, hf⟩ : ∃ x, x = d.now j := ⟨_, rfl⟩
  rw [show ((j : Int)).toNat = j from rfl, ← hf]
  rw [← hf] at HC
  clear hf
  go_enter Try.func22, Try.ntmps22
  go_wp2_with fail
  refine HI.out.mono ?_
  rintro e w' ⟨rfl, rfl⟩
  go_wp2_with (first | (refine wpList_load_mid rfl 137 _ rfl g (j * 64) rfl (vals .u8 64 f) (.array 64 5) (range_vals' HC.out) Try.underlying137 rfl Try.size137 ?_) | (refine store_arr rfl 137 _ _ rfl .u8 w'.heap.size 64 (fun _ => 0) f Try.size137 rfl rfl (Arr.newAt rfl (by rfl)) ?_))
  go_ret2
  have hA : Arr .u8 ((w'.alloc (.cells (arr .u8 64 fun _ => 0) 137)).setRow w'.heap.size (arr .u8 64 f)) w'.heap.size 64 f := (Arr.newAt rfl rfl).setRow 64 f
  exact ⟨rfl, hA.rd (by decide), below_setRow' ((Below.refl _ _).alloc (Nat.le_refl _) _) (Nat.le_refl _) _⟩
theorem dkRead_yes (h : DkAt w p vk vn vw d) (k : Int) (hm : d.may k = 0) : Calls Try.prog 22 #[ptrTo p, .int .i64 k] w fun e w' => ∃ v, e = .returned (.tuple #[v, .int .i64 0]) ∧ Rd .u8 w' v 64 (d.now k.toNat) ∧ Below w.heap.size w w' :=
  (dkRead_at h k hm).mono fun _ _ h => ⟨_, h⟩
end
end Go.Proofs.Ytlmdgmgbijfaoaa
