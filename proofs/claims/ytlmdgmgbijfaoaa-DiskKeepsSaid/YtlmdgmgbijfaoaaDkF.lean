/-
  Clone of the disk's lists. Conditions: named in each theorem.
-/
import Derived.Test.YtlmdgmgbijfaoaaDkE
import Derived.Lib.SliceRun
set_option linter.unusedVariables false
set_option linter.unusedSimpArgs false
namespace Go.Proofs.Ytlmdgmgbijfaoaa
open Go.RowKit Go.Bas Go.ChangeShapes
attribute [local go_sem ↓] Go.wp_at_zero Go.wp_at_succ
theorem Try.info137 : (Try.prog.info? 137).map (fun i => (i.zero, i.size, i.bytes)) = some (some (.agg (arr .u8 64 (fun _ => 0))), 64, 64) := by kernel_rfl
theorem OwM.empty (w : World) (e : TypeId) (c : Nat) (q : Nat → Nat → Value) : OwM e c (w.alloc (.cells #[] e)) (.slice (some ⟨w.heap.size, 0, none⟩) 0 0) 0 q := OwM.new w e c (by unfold maxLen; omega) (by simp) fun j hj => by omega

set_option maxRecDepth 100000 in
set_option maxHeartbeats 1600000 in
theorem clonesector_any {w : World} {v : Value} {n : Nat} {q : Nat → Nat → Value} (h : OwM 137 64 w v n q) (hq : ∀ j, j < n → ∀ i, i < 64 → (q j i).oneCell' = true) (hn : n ≤ 1000000) :
    Calls Try.prog 80 #[v] w fun e w' => ∃ v', e = .returned v' ∧ OwM 137 64 w' v' n q ∧ Below w.heap.size w w' ∧ ∀ b, v'.ownBlock = some b → w.heap.size ≤ b := by
  have HH := Lib.hid h
  have HQ := Lib.hid hq
  have HN := Lib.hid hn
  rcases h with ⟨rfl, rfl⟩ | ⟨g, cap, rfl, h1, h2, h3, h4⟩
  · have HEQ := fun w => Go.Lib.run_eql_slice_nil (P := Try.prog) w 131 137 none 0 0 0 0 Try.underlying131
    clear hq hn
    go_enter Try.func80, Try.ntmps80
    go_wp2
    go_ret
    exact ⟨_, rfl, OwM.nil _ _ _ _, Below.refl _ _, fun b hb => by cases hb⟩
  · have HC := Lib.hid h4
    have HEQ := fun w => Go.Lib.run_eql_slice_nil (P := Try.prog) w 131 137 (some ⟨g, 0, none⟩) n cap 0 0 Try.underlying131
    clear h1 h2 h3 h4 hq hn
    go_enter Try.func80, Try.ntmps80
    have hA : OwM 137 64 (w.alloc (.cells #[] 137)) (.slice (some ⟨w.heap.size, 0, none⟩) 0 0) 0 (fun _ _ => undef) := OwM.empty _ _ _ _
    have hY : ∀ j, j < n → ∀ i, i < 64 → (w.alloc (.cells #[] 137)).cell? ⟨g, 0 + (j * 64 + i), none⟩ = some (q j i) ∧ (q j i).oneCell' = true := fun j hj i hi => ⟨by
      have hlt : g < w.heap.size := HH.out.lt g rfl
      rw [Nat.zero_add, World.cell?_alloc_lt (h := hlt)]
      exact HC.out j hj i hi, HQ.out j hj i hi⟩
    go_wp2_with (refine wpList_append_m rfl _ _ rfl rfl hA (by decide) Try.underlying131 Try.info137 rfl g 0 cap n rfl q hY (by have := HN.out; unfold maxLen; omega) (by have := HN.out; omega) ?_; intro v' w' hown hgrow hpl; obtain ⟨a', c', rfl, hc1, hc2⟩ := hown.slice)
    go_ret
    rw [Nat.zero_add] at hown hpl
    refine ⟨.slice a' n c', rfl, ?_, ?_, ?_⟩
    · skip
      exact hown.congr fun j hj i hi => by unfold catM; rw [if_neg (by omega)]; rfl
    · exact ((Below.refl _ _).alloc (Nat.le_refl _) _).grown hgrow (((Below.refl w.heap.size w).alloc (Nat.le_refl _) _).size) fun b hb => by cases hb; exact Nat.le_refl _
    · intro b hb
      rcases hpl with h5 | h5
      · rw [h5] at hb; cases hb; exact Nat.le_refl _
      · have := h5 b hb
        have h6 := ((Below.refl w.heap.size w).alloc (Nat.le_refl _) (.cells #[] 137)).size
        omega

set_option maxRecDepth 100000 in
set_option maxHeartbeats 1600000 in
theorem clonewrite_any {w : World} {v : Value} {n : Nat} {q : Nat → Nat → Value} (h : OwM 139 65 w v n q) (hq : ∀ j, j < n → ∀ i, i < 65 → (q j i).oneCell' = true) (hn : n ≤ 1000000) :
    Calls Try.prog 87 #[v] w fun e w' => ∃ v', e = .returned v' ∧ OwM 139 65 w' v' n q ∧ Below w.heap.size w w' ∧ ∀ b, v'.ownBlock = some b → w.heap.size ≤ b := by
  have HH := Lib.hid h
  have HQ := Lib.hid hq
  have HN := Lib.hid hn
  rcases h with ⟨rfl, rfl⟩ | ⟨g, cap, rfl, h1, h2, h3, h4⟩
  · have HEQ := fun w => Go.Lib.run_eql_slice_nil (P := Try.prog) w 132 139 none 0 0 0 0 Try.underlying132
    clear hq hn
    go_enter Try.func87, Try.ntmps87
    go_wp2
    go_ret
    exact ⟨_, rfl, OwM.nil _ _ _ _, Below.refl _ _, fun b hb => by cases hb⟩
  · have HC := Lib.hid h4
    have HEQ := fun w => Go.Lib.run_eql_slice_nil (P := Try.prog) w 132 139 (some ⟨g, 0, none⟩) n cap 0 0 Try.underlying132
    clear h1 h2 h3 h4 hq hn
    go_enter Try.func87, Try.ntmps87
    have hA : OwM 139 65 (w.alloc (.cells #[] 139)) (.slice (some ⟨w.heap.size, 0, none⟩) 0 0) 0 (fun _ _ => undef) := OwM.empty _ _ _ _
    have hY : ∀ j, j < n → ∀ i, i < 65 → (w.alloc (.cells #[] 139)).cell? ⟨g, 0 + (j * 65 + i), none⟩ = some (q j i) ∧ (q j i).oneCell' = true := fun j hj i hi => ⟨by
      have hlt : g < w.heap.size := HH.out.lt g rfl
      rw [Nat.zero_add, World.cell?_alloc_lt (h := hlt)]
      exact HC.out j hj i hi, HQ.out j hj i hi⟩
    go_wp2_with (refine wpList_append_m rfl _ _ rfl rfl hA (by decide) Try.underlying132 Try.info139 rfl g 0 cap n rfl q hY (by have := HN.out; unfold maxLen; omega) (by have := HN.out; omega) ?_; intro v' w' hown hgrow hpl; obtain ⟨a', c', rfl, hc1, hc2⟩ := hown.slice)
    go_ret
    rw [Nat.zero_add] at hown hpl
    refine ⟨.slice a' n c', rfl, ?_, ?_, ?_⟩
    · skip
      exact hown.congr fun j hj i hi => by unfold catM; rw [if_neg (by omega)]; rfl
    · exact ((Below.refl _ _).alloc (Nat.le_refl _) _).grown hgrow (((Below.refl w.heap.size w).alloc (Nat.le_refl _) _).size) fun b hb => by cases hb; exact Nat.le_refl _
    · intro b hb
      rcases hpl with h5 | h5
      · rw [h5] at hb; cases hb; exact Nat.le_refl _
      · have := h5 b hb
        have h6 := ((Below.refl w.heap.size w).alloc (Nat.le_refl _) (.cells #[] 139)).size
        omega
end Go.Proofs.Ytlmdgmgbijfaoaa
