/-
  The law ShaRoots answers true: its walk. Conditions: named in each theorem.
-/
import Derived.Test.YtgobodhcamgidaaRr2
import Derived.Test.YtgobodhcamgidaaSh11
import Derived.OpenShut
set_option linter.unusedVariables false
set_option linter.unusedSimpArgs false
namespace Go.Proofs.Ytgobodhcamgidaa
open Go.RowKit Go.Bas Go.ChangeShapes
attribute [local go_sem ↓] Go.wp_at_zero Go.wp_at_succ

set_option maxRecDepth 100000 in
set_option maxHeartbeats 3200000 in
theorem root_no (p k : Int) (h : (k ≠ 2 ∧ k ≠ 3) ∨ p < 2 ∨ 500 < p) (w : World) :
    Calls Try.prog 21 #[.int .i64 p, .int .i64 k] w fun e w' => e = .returned (.tuple #[.int .u64 0, .int .i64 2]) ∧ Below w.heap.size w w' := by
  rcases (by omega : (k ≠ 2 ∧ k ≠ 3) ∨ (k = 2 ∧ p < 2) ∨ (k = 3 ∧ p < 2) ∨ (k = 2 ∧ 500 < p) ∨ (k = 3 ∧ 500 < p)) with h | h | h | h | h
  case' inl => have K1 : Hid ((k != 2) = true) := bne_iff_ne.2 h.1
  case' inl => have K2 : Hid ((k != 3) = true) := bne_iff_ne.2 h.2
  case' inr.inl => have K1 : Hid ((k != 2) = false) := by rw [h.1]; rfl
  case' inr.inl => have B1 : Hid (decide (p < 2) = true) := decide_eq_true h.2
  case' inr.inr.inl => have K1 : Hid ((k != 2) = true) := by rw [h.1]; rfl
  case' inr.inr.inl => have K2 : Hid ((k != 3) = false) := by rw [h.1]; rfl
  case' inr.inr.inl => have B1 : Hid (decide (p < 2) = true) := decide_eq_true h.2
  case' inr.inr.inr.inl => have K1 : Hid ((k != 2) = false) := by rw [h.1]; rfl
  case' inr.inr.inr.inl => have B1 : Hid (decide (p < 2) = false) := decide_eq_false (by omega)
  case' inr.inr.inr.inl => have B2 : Hid (decide (500 < p) = true) := decide_eq_true h.2
  case' inr.inr.inr.inr => have K1 : Hid ((k != 2) = true) := by rw [h.1]; rfl
  case' inr.inr.inr.inr => have K2 : Hid ((k != 3) = false) := by rw [h.1]; rfl
  case' inr.inr.inr.inr => have B1 : Hid (decide (p < 2) = false) := decide_eq_false (by omega)
  case' inr.inr.inr.inr => have B2 : Hid (decide (500 < p) = true) := decide_eq_true h.2
  case inl =>
    clear h
    go_enter Try.func21, Try.ntmps21
    go_upto_region 1 with (fail)
    refine region_flow (n := 47) (by kernel_rfl) (by kernel_rfl) (by kernel_rfl) rfl
      (fun ii vv _ => (match ii with | 0 | 3 => vv = .int .i64 (k) | 1 | 2 | 4 | 5 | 6 | 9 | 10 | 13 => vv = .bool true | 7 | 8 | 11 | 12 => vv = undef | _ => True))
      (fun w w' => Below w.heap.size w w') (fun _ _ h => h) (fun _ _ _ _ h _ => h) ?_ ?_
    · refine Each.all ?_
      refine ⟨?_, ?_, ?_, ?_, ?_, ?_, ?_, ?_, ?_, ?_, ?_, ?_, ?_, ?_, trivial⟩
      · intro a w2 hB hF hd
        rw [if_pos (wanted_none rfl)]
        exact flow_move _ (.inl rfl) (by simp) (hF.same 1 rfl)
      · intro a w2 hB hF hd
        rw [if_pos (wanted_none rfl)]
        exact flow_val (fun h => by cases h) (Go.Bas.run_neq_int rfl (hd 0 _ rfl (waits_spec rfl)) rfl) (congrArg Value.bool (K1.out))
      · intro a w2 hB hF hd
        rw [if_pos (wanted_none rfl)]
        exact flow_move _ (.inl rfl) (by simp) (hd 1 _ rfl (waits_spec rfl))
      · intro a w2 hB hF hd
        refine flow_wanted (wanted_yes rfl rfl (hd 2 _ rfl (waits_spec rfl)) rfl) ?_
        exact flow_move _ (.inl rfl) (by simp) (hF.same 1 rfl)
      · intro a w2 hB hF hd
        refine flow_wanted (wanted_yes rfl rfl (hd 2 _ rfl (waits_spec rfl)) rfl) ?_
        exact flow_val (fun h => by cases h) (Go.Bas.run_neq_int rfl (hd 3 _ rfl (waits_spec rfl)) rfl) (congrArg Value.bool (K2.out))
      · intro a w2 hB hF hd
        rw [if_pos (wanted_none rfl)]
        exact flow_val (fun h => by cases h) (run_pick rfl (hd 2 _ rfl (waits_spec rfl))) ((hd 4 _ rfl (waits_spec rfl)))
      · intro a w2 hB hF hd
        rw [if_pos (wanted_none rfl)]
        exact flow_move _ (.inl rfl) (by simp) (hd 5 _ rfl (waits_spec rfl))
      · intro a w2 hB hF hd
        rw [if_neg (by rw [wanted_some rfl rfl (hd 6 _ rfl (waits_spec rfl))]; decide)]
        exact rfl
      · intro a w2 hB hF hd
        rw [if_neg (by rw [wanted_some rfl rfl (hd 6 _ rfl (waits_spec rfl))]; decide)]
        exact rfl
      · intro a w2 hB hF hd
        rw [if_pos (wanted_none rfl)]
        exact flow_val (fun h => by cases h) (run_pick rfl (hd 6 _ rfl (waits_spec rfl))) (rfl)
      · intro a w2 hB hF hd
        rw [if_pos (wanted_none rfl)]
        exact flow_move _ (.inl rfl) (by simp) (hd 9 _ rfl (waits_spec rfl))
      · intro a w2 hB hF hd
        rw [if_neg (by rw [wanted_some rfl rfl (hd 10 _ rfl (waits_spec rfl))]; decide)]
        exact rfl
      · intro a w2 hB hF hd
        rw [if_neg (by rw [wanted_some rfl rfl (hd 10 _ rfl (waits_spec rfl))]; decide)]
        exact rfl
      · intro a w2 hB hF hd
        rw [if_pos (wanted_none rfl)]
        exact flow_val (fun h => by cases h) (run_pick rfl (hd 10 _ rfl (waits_spec rfl))) (rfl)
    · intro a w1 hB hF hS
      have ha := puts_each rfl rfl hF [_, _, _, _, _, _, _, _, _, _, _, _, _, _] rfl ⟨hS 0 _ rfl, hS 1 _ rfl, hS 2 _ rfl, hS 3 _ rfl, hS 4 _ rfl, hS 5 _ rfl, hS 6 _ rfl, hS 7 _ rfl, hS 8 _ rfl, hS 9 _ rfl, hS 10 _ rfl, hS 11 _ rfl, hS 12 _ rfl, hS 13 _ rfl, trivial⟩
      simp only [puts, Act.put, List.setIfInBounds_toArray, List.set_cons_succ, List.set_cons_zero] at ha
      subst ha
      clear hS hF
      have hb1 := hB
      clear hB
      go_wp2
      go_ret2
      exact ⟨rfl, hb1⟩
  case inr.inl =>
    clear h
    go_enter Try.func21, Try.ntmps21
    go_upto_region 1 with (fail)
    refine region_flow (n := 47) (by kernel_rfl) (by kernel_rfl) (by kernel_rfl) rfl
      (fun ii vv _ => (match ii with | 0 => vv = .int .i64 (k) | 1 | 2 | 5 | 6 => vv = .bool false | 3 | 4 | 11 | 12 => vv = undef | 7 => vv = .int .i64 (p) | 8 | 9 | 10 | 13 => vv = .bool true | _ => True))
      (fun w w' => Below w.heap.size w w') (fun _ _ h => h) (fun _ _ _ _ h _ => h) ?_ ?_
    · refine Each.all ?_
      refine ⟨?_, ?_, ?_, ?_, ?_, ?_, ?_, ?_, ?_, ?_, ?_, ?_, ?_, ?_, trivial⟩
      · intro a w2 hB hF hd
        rw [if_pos (wanted_none rfl)]
        exact flow_move _ (.inl rfl) (by simp) (hF.same 1 rfl)
      · intro a w2 hB hF hd
        rw [if_pos (wanted_none rfl)]
        exact flow_val (fun h => by cases h) (Go.Bas.run_neq_int rfl (hd 0 _ rfl (waits_spec rfl)) rfl) (congrArg Value.bool (K1.out))
      · intro a w2 hB hF hd
        rw [if_pos (wanted_none rfl)]
        exact flow_move _ (.inl rfl) (by simp) (hd 1 _ rfl (waits_spec rfl))
      · intro a w2 hB hF hd
        rw [if_neg (by rw [wanted_some rfl rfl (hd 2 _ rfl (waits_spec rfl))]; decide)]
        exact rfl
      · intro a w2 hB hF hd
        rw [if_neg (by rw [wanted_some rfl rfl (hd 2 _ rfl (waits_spec rfl))]; decide)]
        exact rfl
      · intro a w2 hB hF hd
        rw [if_pos (wanted_none rfl)]
        exact flow_val (fun h => by cases h) (run_pick rfl (hd 2 _ rfl (waits_spec rfl))) (rfl)
      · intro a w2 hB hF hd
        rw [if_pos (wanted_none rfl)]
        exact flow_move _ (.inl rfl) (by simp) (hd 5 _ rfl (waits_spec rfl))
      · intro a w2 hB hF hd
        refine flow_wanted (wanted_yes rfl rfl (hd 6 _ rfl (waits_spec rfl)) rfl) ?_
        exact flow_move _ (.inl rfl) (by simp) (hF.same 0 rfl)
      · intro a w2 hB hF hd
        refine flow_wanted (wanted_yes rfl rfl (hd 6 _ rfl (waits_spec rfl)) rfl) ?_
        exact flow_val (fun h => by cases h) (Go.Bas.run_lss rfl (hd 7 _ rfl (waits_spec rfl)) rfl) (congrArg Value.bool (B1.out))
      · intro a w2 hB hF hd
        rw [if_pos (wanted_none rfl)]
        exact flow_val (fun h => by cases h) (run_pick rfl (hd 6 _ rfl (waits_spec rfl))) ((hd 8 _ rfl (waits_spec rfl)))
      · intro a w2 hB hF hd
        rw [if_pos (wanted_none rfl)]
        exact flow_move _ (.inl rfl) (by simp) (hd 9 _ rfl (waits_spec rfl))
      · intro a w2 hB hF hd
        rw [if_neg (by rw [wanted_some rfl rfl (hd 10 _ rfl (waits_spec rfl))]; decide)]
        exact rfl
      · intro a w2 hB hF hd
        rw [if_neg (by rw [wanted_some rfl rfl (hd 10 _ rfl (waits_spec rfl))]; decide)]
        exact rfl
      · intro a w2 hB hF hd
        rw [if_pos (wanted_none rfl)]
        exact flow_val (fun h => by cases h) (run_pick rfl (hd 10 _ rfl (waits_spec rfl))) (rfl)
    · intro a w1 hB hF hS
      have ha := puts_each rfl rfl hF [_, _, _, _, _, _, _, _, _, _, _, _, _, _] rfl ⟨hS 0 _ rfl, hS 1 _ rfl, hS 2 _ rfl, hS 3 _ rfl, hS 4 _ rfl, hS 5 _ rfl, hS 6 _ rfl, hS 7 _ rfl, hS 8 _ rfl, hS 9 _ rfl, hS 10 _ rfl, hS 11 _ rfl, hS 12 _ rfl, hS 13 _ rfl, trivial⟩
      simp only [puts, Act.put, List.setIfInBounds_toArray, List.set_cons_succ, List.set_cons_zero] at ha
      subst ha
      clear hS hF
      have hb1 := hB
      clear hB
      go_wp2
      go_ret2
      exact ⟨rfl, hb1⟩
  case inr.inr.inl =>
    clear h
    go_enter Try.func21, Try.ntmps21
    go_upto_region 1 with (fail)
    refine region_flow (n := 47) (by kernel_rfl) (by kernel_rfl) (by kernel_rfl) rfl
      (fun ii vv _ => (match ii with | 0 | 3 => vv = .int .i64 (k) | 1 | 2 | 8 | 9 | 10 | 13 => vv = .bool true | 4 | 5 | 6 => vv = .bool false | 7 => vv = .int .i64 (p) | 11 | 12 => vv = undef | _ => True))
      (fun w w' => Below w.heap.size w w') (fun _ _ h => h) (fun _ _ _ _ h _ => h) ?_ ?_
    · refine Each.all ?_
      refine ⟨?_, ?_, ?_, ?_, ?_, ?_, ?_, ?_, ?_, ?_, ?_, ?_, ?_, ?_, trivial⟩
      · intro a w2 hB hF hd
        rw [if_pos (wanted_none rfl)]
        exact flow_move _ (.inl rfl) (by simp) (hF.same 1 rfl)
      · intro a w2 hB hF hd
        rw [if_pos (wanted_none rfl)]
        exact flow_val (fun h => by cases h) (Go.Bas.run_neq_int rfl (hd 0 _ rfl (waits_spec rfl)) rfl) (congrArg Value.bool (K1.out))
      · intro a w2 hB hF hd
        rw [if_pos (wanted_none rfl)]
        exact flow_move _ (.inl rfl) (by simp) (hd 1 _ rfl (waits_spec rfl))
      · intro a w2 hB hF hd
        refine flow_wanted (wanted_yes rfl rfl (hd 2 _ rfl (waits_spec rfl)) rfl) ?_
        exact flow_move _ (.inl rfl) (by simp) (hF.same 1 rfl)
      · intro a w2 hB hF hd
        refine flow_wanted (wanted_yes rfl rfl (hd 2 _ rfl (waits_spec rfl)) rfl) ?_
        exact flow_val (fun h => by cases h) (Go.Bas.run_neq_int rfl (hd 3 _ rfl (waits_spec rfl)) rfl) (congrArg Value.bool (K2.out))
      · intro a w2 hB hF hd
        rw [if_pos (wanted_none rfl)]
        exact flow_val (fun h => by cases h) (run_pick rfl (hd 2 _ rfl (waits_spec rfl))) ((hd 4 _ rfl (waits_spec rfl)))
      · intro a w2 hB hF hd
        rw [if_pos (wanted_none rfl)]
        exact flow_move _ (.inl rfl) (by simp) (hd 5 _ rfl (waits_spec rfl))
      · intro a w2 hB hF hd
        refine flow_wanted (wanted_yes rfl rfl (hd 6 _ rfl (waits_spec rfl)) rfl) ?_
        exact flow_move _ (.inl rfl) (by simp) (hF.same 0 rfl)
      · intro a w2 hB hF hd
        refine flow_wanted (wanted_yes rfl rfl (hd 6 _ rfl (waits_spec rfl)) rfl) ?_
        exact flow_val (fun h => by cases h) (Go.Bas.run_lss rfl (hd 7 _ rfl (waits_spec rfl)) rfl) (congrArg Value.bool (B1.out))
      · intro a w2 hB hF hd
        rw [if_pos (wanted_none rfl)]
        exact flow_val (fun h => by cases h) (run_pick rfl (hd 6 _ rfl (waits_spec rfl))) ((hd 8 _ rfl (waits_spec rfl)))
      · intro a w2 hB hF hd
        rw [if_pos (wanted_none rfl)]
        exact flow_move _ (.inl rfl) (by simp) (hd 9 _ rfl (waits_spec rfl))
      · intro a w2 hB hF hd
        rw [if_neg (by rw [wanted_some rfl rfl (hd 10 _ rfl (waits_spec rfl))]; decide)]
        exact rfl
      · intro a w2 hB hF hd
        rw [if_neg (by rw [wanted_some rfl rfl (hd 10 _ rfl (waits_spec rfl))]; decide)]
        exact rfl
      · intro a w2 hB hF hd
        rw [if_pos (wanted_none rfl)]
        exact flow_val (fun h => by cases h) (run_pick rfl (hd 10 _ rfl (waits_spec rfl))) (rfl)
    · intro a w1 hB hF hS
      have ha := puts_each rfl rfl hF [_, _, _, _, _, _, _, _, _, _, _, _, _, _] rfl ⟨hS 0 _ rfl, hS 1 _ rfl, hS 2 _ rfl, hS 3 _ rfl, hS 4 _ rfl, hS 5 _ rfl, hS 6 _ rfl, hS 7 _ rfl, hS 8 _ rfl, hS 9 _ rfl, hS 10 _ rfl, hS 11 _ rfl, hS 12 _ rfl, hS 13 _ rfl, trivial⟩
      simp only [puts, Act.put, List.setIfInBounds_toArray, List.set_cons_succ, List.set_cons_zero] at ha
      subst ha
      clear hS hF
      have hb1 := hB
      clear hB
      go_wp2
      go_ret2
      exact ⟨rfl, hb1⟩
  case inr.inr.inr.inl =>
    clear h
    go_enter Try.func21, Try.ntmps21
    go_upto_region 1 with (fail)
    refine region_flow (n := 47) (by kernel_rfl) (by kernel_rfl) (by kernel_rfl) rfl
      (fun ii vv _ => (match ii with | 0 => vv = .int .i64 (k) | 1 | 2 | 5 | 6 | 8 | 9 | 10 => vv = .bool false | 3 | 4 => vv = undef | 7 | 11 => vv = .int .i64 (p) | 12 | 13 => vv = .bool true | _ => True))
      (fun w w' => Below w.heap.size w w') (fun _ _ h => h) (fun _ _ _ _ h _ => h) ?_ ?_
    · refine Each.all ?_
      refine ⟨?_, ?_, ?_, ?_, ?_, ?_, ?_, ?_, ?_, ?_, ?_, ?_, ?_, ?_, trivial⟩
      · intro a w2 hB hF hd
        rw [if_pos (wanted_none rfl)]
        exact flow_move _ (.inl rfl) (by simp) (hF.same 1 rfl)
      · intro a w2 hB hF hd
        rw [if_pos (wanted_none rfl)]
        exact flow_val (fun h => by cases h) (Go.Bas.run_neq_int rfl (hd 0 _ rfl (waits_spec rfl)) rfl) (congrArg Value.bool (K1.out))
      · intro a w2 hB hF hd
        rw [if_pos (wanted_none rfl)]
        exact flow_move _ (.inl rfl) (by simp) (hd 1 _ rfl (waits_spec rfl))
      · intro a w2 hB hF hd
        rw [if_neg (by rw [wanted_some rfl rfl (hd 2 _ rfl (waits_spec rfl))]; decide)]
        exact rfl
      · intro a w2 hB hF hd
        rw [if_neg (by rw [wanted_some rfl rfl (hd 2 _ rfl (waits_spec rfl))]; decide)]
        exact rfl
      · intro a w2 hB hF hd
        rw [if_pos (wanted_none rfl)]
        exact flow_val (fun h => by cases h) (run_pick rfl (hd 2 _ rfl (waits_spec rfl))) (rfl)
      · intro a w2 hB hF hd
        rw [if_pos (wanted_none rfl)]
        exact flow_move _ (.inl rfl) (by simp) (hd 5 _ rfl (waits_spec rfl))
      · intro a w2 hB hF hd
        refine flow_wanted (wanted_yes rfl rfl (hd 6 _ rfl (waits_spec rfl)) rfl) ?_
        exact flow_move _ (.inl rfl) (by simp) (hF.same 0 rfl)
      · intro a w2 hB hF hd
        refine flow_wanted (wanted_yes rfl rfl (hd 6 _ rfl (waits_spec rfl)) rfl) ?_
        exact flow_val (fun h => by cases h) (Go.Bas.run_lss rfl (hd 7 _ rfl (waits_spec rfl)) rfl) (congrArg Value.bool (B1.out))
      · intro a w2 hB hF hd
        rw [if_pos (wanted_none rfl)]
        exact flow_val (fun h => by cases h) (run_pick rfl (hd 6 _ rfl (waits_spec rfl))) ((hd 8 _ rfl (waits_spec rfl)))
      · intro a w2 hB hF hd
        rw [if_pos (wanted_none rfl)]
        exact flow_move _ (.inl rfl) (by simp) (hd 9 _ rfl (waits_spec rfl))
      · intro a w2 hB hF hd
        refine flow_wanted (wanted_yes rfl rfl (hd 10 _ rfl (waits_spec rfl)) rfl) ?_
        exact flow_move _ (.inl rfl) (by simp) (hF.same 0 rfl)
      · intro a w2 hB hF hd
        refine flow_wanted (wanted_yes rfl rfl (hd 10 _ rfl (waits_spec rfl)) rfl) ?_
        exact flow_val (fun h => by cases h) (Go.Bas.run_gtr rfl (hd 11 _ rfl (waits_spec rfl)) rfl) (congrArg Value.bool (B2.out))
      · intro a w2 hB hF hd
        rw [if_pos (wanted_none rfl)]
        exact flow_val (fun h => by cases h) (run_pick rfl (hd 10 _ rfl (waits_spec rfl))) ((hd 12 _ rfl (waits_spec rfl)))
    · intro a w1 hB hF hS
      have ha := puts_each rfl rfl hF [_, _, _, _, _, _, _, _, _, _, _, _, _, _] rfl ⟨hS 0 _ rfl, hS 1 _ rfl, hS 2 _ rfl, hS 3 _ rfl, hS 4 _ rfl, hS 5 _ rfl, hS 6 _ rfl, hS 7 _ rfl, hS 8 _ rfl, hS 9 _ rfl, hS 10 _ rfl, hS 11 _ rfl, hS 12 _ rfl, hS 13 _ rfl, trivial⟩
      simp only [puts, Act.put, List.setIfInBounds_toArray, List.set_cons_succ, List.set_cons_zero] at ha
      subst ha
      clear hS hF
      have hb1 := hB
      clear hB
      go_wp2
      go_ret2
      exact ⟨rfl, hb1⟩
  case inr.inr.inr.inr =>
    clear h
    go_enter Try.func21, Try.ntmps21
    go_upto_region 1 with (fail)
    refine region_flow (n := 47) (by kernel_rfl) (by kernel_rfl) (by kernel_rfl) rfl
      (fun ii vv _ => (match ii with | 0 | 3 => vv = .int .i64 (k) | 1 | 2 | 12 | 13 => vv = .bool true | 4 | 5 | 6 | 8 | 9 | 10 => vv = .bool false | 7 | 11 => vv = .int .i64 (p) | _ => True))
      (fun w w' => Below w.heap.size w w') (fun _ _ h => h) (fun _ _ _ _ h _ => h) ?_ ?_
    · refine Each.all ?_
      refine ⟨?_, ?_, ?_, ?_, ?_, ?_, ?_, ?_, ?_, ?_, ?_, ?_, ?_, ?_, trivial⟩
      · intro a w2 hB hF hd
        rw [if_pos (wanted_none rfl)]
        exact flow_move _ (.inl rfl) (by simp) (hF.same 1 rfl)
      · intro a w2 hB hF hd
        rw [if_pos (wanted_none rfl)]
        exact flow_val (fun h => by cases h) (Go.Bas.run_neq_int rfl (hd 0 _ rfl (waits_spec rfl)) rfl) (congrArg Value.bool (K1.out))
      · intro a w2 hB hF hd
        rw [if_pos (wanted_none rfl)]
        exact flow_move _ (.inl rfl) (by simp) (hd 1 _ rfl (waits_spec rfl))
      · intro a w2 hB hF hd
        refine flow_wanted (wanted_yes rfl rfl (hd 2 _ rfl (waits_spec rfl)) rfl) ?_
        exact flow_move _ (.inl rfl) (by simp) (hF.same 1 rfl)
      · intro a w2 hB hF hd
        refine flow_wanted (wanted_yes rfl rfl (hd 2 _ rfl (waits_spec rfl)) rfl) ?_
        exact flow_val (fun h => by cases h) (Go.Bas.run_neq_int rfl (hd 3 _ rfl (waits_spec rfl)) rfl) (congrArg Value.bool (K2.out))
      · intro a w2 hB hF hd
        rw [if_pos (wanted_none rfl)]
        exact flow_val (fun h => by cases h) (run_pick rfl (hd 2 _ rfl (waits_spec rfl))) ((hd 4 _ rfl (waits_spec rfl)))
      · intro a w2 hB hF hd
        rw [if_pos (wanted_none rfl)]
        exact flow_move _ (.inl rfl) (by simp) (hd 5 _ rfl (waits_spec rfl))
      · intro a w2 hB hF hd
        refine flow_wanted (wanted_yes rfl rfl (hd 6 _ rfl (waits_spec rfl)) rfl) ?_
        exact flow_move _ (.inl rfl) (by simp) (hF.same 0 rfl)
      · intro a w2 hB hF hd
        refine flow_wanted (wanted_yes rfl rfl (hd 6 _ rfl (waits_spec rfl)) rfl) ?_
        exact flow_val (fun h => by cases h) (Go.Bas.run_lss rfl (hd 7 _ rfl (waits_spec rfl)) rfl) (congrArg Value.bool (B1.out))
      · intro a w2 hB hF hd
        rw [if_pos (wanted_none rfl)]
        exact flow_val (fun h => by cases h) (run_pick rfl (hd 6 _ rfl (waits_spec rfl))) ((hd 8 _ rfl (waits_spec rfl)))
      · intro a w2 hB hF hd
        rw [if_pos (wanted_none rfl)]
        exact flow_move _ (.inl rfl) (by simp) (hd 9 _ rfl (waits_spec rfl))
      · intro a w2 hB hF hd
        refine flow_wanted (wanted_yes rfl rfl (hd 10 _ rfl (waits_spec rfl)) rfl) ?_
        exact flow_move _ (.inl rfl) (by simp) (hF.same 0 rfl)
      · intro a w2 hB hF hd
        refine flow_wanted (wanted_yes rfl rfl (hd 10 _ rfl (waits_spec rfl)) rfl) ?_
        exact flow_val (fun h => by cases h) (Go.Bas.run_gtr rfl (hd 11 _ rfl (waits_spec rfl)) rfl) (congrArg Value.bool (B2.out))
      · intro a w2 hB hF hd
        rw [if_pos (wanted_none rfl)]
        exact flow_val (fun h => by cases h) (run_pick rfl (hd 10 _ rfl (waits_spec rfl))) ((hd 12 _ rfl (waits_spec rfl)))
    · intro a w1 hB hF hS
      have ha := puts_each rfl rfl hF [_, _, _, _, _, _, _, _, _, _, _, _, _, _] rfl ⟨hS 0 _ rfl, hS 1 _ rfl, hS 2 _ rfl, hS 3 _ rfl, hS 4 _ rfl, hS 5 _ rfl, hS 6 _ rfl, hS 7 _ rfl, hS 8 _ rfl, hS 9 _ rfl, hS 10 _ rfl, hS 11 _ rfl, hS 12 _ rfl, hS 13 _ rfl, trivial⟩
      simp only [puts, Act.put, List.setIfInBounds_toArray, List.set_cons_succ, List.set_cons_zero] at ha
      subst ha
      clear hS hF
      have hb1 := hB
      clear hB
      go_wp2
      go_ret2
      exact ⟨rfl, hb1⟩

set_option maxRecDepth 100000 in
set_option maxHeartbeats 6400000 in
theorem shaRoots_no (w : World) (p : Int) (k : Int) (hno : (k ≠ 2 ∧ k ≠ 3) ∨ p < 2 ∨ 500 < p) :
    Calls Try.prog 5 #[.int .i64 p, .int .i64 k] w fun e w' => e = .returned (.bool true) ∧ Below w.heap.size w w' := by
  have HR := Lib.hid (fun w => root_no p k hno w)
  rcases (by omega : (k ≠ 2 ∧ k ≠ 3) ∨ (k = 2 ∧ p < 2) ∨ (k = 3 ∧ p < 2) ∨ (k = 2 ∧ 500 < p) ∨ (k = 3 ∧ 500 < p)) with h | h | h | h | h
  case' inl => have K1 : Hid ((k != 2) = true) := bne_iff_ne.2 h.1
  case' inl => have K2 : Hid ((k != 3) = true) := bne_iff_ne.2 h.2
  case' inr.inl => have K1 : Hid ((k != 2) = false) := by rw [h.1]; rfl
  case' inr.inl => have B1 : Hid (decide (p < 2) = true) := decide_eq_true h.2
  case' inr.inr.inl => have K1 : Hid ((k != 2) = true) := by rw [h.1]; rfl
  case' inr.inr.inl => have K2 : Hid ((k != 3) = false) := by rw [h.1]; rfl
  case' inr.inr.inl => have B1 : Hid (decide (p < 2) = true) := decide_eq_true h.2
  case' inr.inr.inr.inl => have K1 : Hid ((k != 2) = false) := by rw [h.1]; rfl
  case' inr.inr.inr.inl => have B1 : Hid (decide (p < 2) = false) := decide_eq_false (by omega)
  case' inr.inr.inr.inl => have B2 : Hid (decide (500 < p) = true) := decide_eq_true h.2
  case' inr.inr.inr.inr => have K1 : Hid ((k != 2) = true) := by rw [h.1]; rfl
  case' inr.inr.inr.inr => have K2 : Hid ((k != 3) = false) := by rw [h.1]; rfl
  case' inr.inr.inr.inr => have B1 : Hid (decide (p < 2) = false) := decide_eq_false (by omega)
  case' inr.inr.inr.inr => have B2 : Hid (decide (500 < p) = true) := decide_eq_true h.2
  case inl =>
    clear h hno
    go_enter Try.func5, Try.ntmps5
    go_wp2_with fail
    refine (shAwake_any _).mono ?_
    rintro e w1 ⟨rfl, hb1⟩
    go_wp2_with fail
    refine (HR.out _).mono ?_
    rintro e w2 ⟨rfl, hb2⟩
    have hb := hb1.trans (hb2.mono hb1.size)
    clear hb1 hb2 HR
    go_upto_region 4 with (fail)
    refine region_flow (n := 44) (by kernel_rfl) (by kernel_rfl) (by kernel_rfl) rfl
      (fun ii vv _ => (match ii with | 0 | 3 => vv = .int .i64 (k) | 1 | 2 | 4 | 5 | 6 | 9 | 10 | 13 => vv = .bool true | 7 | 8 | 11 | 12 => vv = undef | _ => True))
      (fun w w' => Below w.heap.size w w') (fun _ _ h => h) (fun _ _ _ _ h _ => h) ?_ ?_
    · refine Each.all ?_
      refine ⟨?_, ?_, ?_, ?_, ?_, ?_, ?_, ?_, ?_, ?_, ?_, ?_, ?_, ?_, trivial⟩
      · intro a w2 hB hF hd
        rw [if_pos (wanted_none rfl)]
        exact flow_move _ (.inl rfl) (by simp) (hF.same 1 rfl)
      · intro a w2 hB hF hd
        rw [if_pos (wanted_none rfl)]
        exact flow_val (fun h => by cases h) (Go.Bas.run_neq_int rfl (hd 0 _ rfl (waits_spec rfl)) rfl) (congrArg Value.bool (K1.out))
      · intro a w2 hB hF hd
        rw [if_pos (wanted_none rfl)]
        exact flow_move _ (.inl rfl) (by simp) (hd 1 _ rfl (waits_spec rfl))
      · intro a w2 hB hF hd
        refine flow_wanted (wanted_yes rfl rfl (hd 2 _ rfl (waits_spec rfl)) rfl) ?_
        exact flow_move _ (.inl rfl) (by simp) (hF.same 1 rfl)
      · intro a w2 hB hF hd
        refine flow_wanted (wanted_yes rfl rfl (hd 2 _ rfl (waits_spec rfl)) rfl) ?_
        exact flow_val (fun h => by cases h) (Go.Bas.run_neq_int rfl (hd 3 _ rfl (waits_spec rfl)) rfl) (congrArg Value.bool (K2.out))
      · intro a w2 hB hF hd
        rw [if_pos (wanted_none rfl)]
        exact flow_val (fun h => by cases h) (run_pick rfl (hd 2 _ rfl (waits_spec rfl))) ((hd 4 _ rfl (waits_spec rfl)))
      · intro a w2 hB hF hd
        rw [if_pos (wanted_none rfl)]
        exact flow_move _ (.inl rfl) (by simp) (hd 5 _ rfl (waits_spec rfl))
      · intro a w2 hB hF hd
        rw [if_neg (by rw [wanted_some rfl rfl (hd 6 _ rfl (waits_spec rfl))]; decide)]
        exact rfl
      · intro a w2 hB hF hd
        rw [if_neg (by rw [wanted_some rfl rfl (hd 6 _ rfl (waits_spec rfl))]; decide)]
        exact rfl
      · intro a w2 hB hF hd
        rw [if_pos (wanted_none rfl)]
        exact flow_val (fun h => by cases h) (run_pick rfl (hd 6 _ rfl (waits_spec rfl))) (rfl)
      · intro a w2 hB hF hd
        rw [if_pos (wanted_none rfl)]
        exact flow_move _ (.inl rfl) (by simp) (hd 9 _ rfl (waits_spec rfl))
      · intro a w2 hB hF hd
        rw [if_neg (by rw [wanted_some rfl rfl (hd 10 _ rfl (waits_spec rfl))]; decide)]
        exact rfl
      · intro a w2 hB hF hd
        rw [if_neg (by rw [wanted_some rfl rfl (hd 10 _ rfl (waits_spec rfl))]; decide)]
        exact rfl
      · intro a w2 hB hF hd
        rw [if_pos (wanted_none rfl)]
        exact flow_val (fun h => by cases h) (run_pick rfl (hd 10 _ rfl (waits_spec rfl))) (rfl)
    · intro a w3 hB hF hS
      have ha := puts_each rfl rfl hF [_, _, _, _, _, _, _, _, _, _, _, _, _, _] rfl ⟨hS 0 _ rfl, hS 1 _ rfl, hS 2 _ rfl, hS 3 _ rfl, hS 4 _ rfl, hS 5 _ rfl, hS 6 _ rfl, hS 7 _ rfl, hS 8 _ rfl, hS 9 _ rfl, hS 10 _ rfl, hS 11 _ rfl, hS 12 _ rfl, hS 13 _ rfl, trivial⟩
      simp only [puts, Act.put, List.setIfInBounds_toArray, List.set_cons_succ, List.set_cons_zero] at ha
      subst ha
      clear hS hF
      have hb3 := hb.trans (hB.mono hb.size)
      clear hB hb
      go_upto_region 5 with (fail)
      refine region_flow (n := 44) (by kernel_rfl) (by kernel_rfl) (by kernel_rfl) rfl
        (fun ii vv _ => (match ii with | 0 => vv = .int .i64 (2) | 1 | 2 | 4 | 5 | 6 => vv = .bool true | 3 => vv = .int .u64 (0) | _ => True))
        (fun w w' => Below w.heap.size w w') (fun _ _ h => h) (fun _ _ _ _ h _ => h) ?_ ?_
      · refine Each.all ?_
        refine ⟨?_, ?_, ?_, ?_, ?_, ?_, ?_, trivial⟩
        · intro a w2 hB hF hd
          rw [if_pos (wanted_none rfl)]
          exact flow_move _ (.inl rfl) (by simp) (hF.same 6 rfl)
        · intro a w2 hB hF hd
          rw [if_pos (wanted_none rfl)]
          refine flow_val (fun h => by cases h) (Go.Bas.run_eql_int rfl (hd 0 _ rfl (waits_spec rfl)) rfl) ?_
          exact rfl
        · intro a w2 hB hF hd
          rw [if_pos (wanted_none rfl)]
          exact flow_move _ (.inl rfl) (by simp) (hd 1 _ rfl (waits_spec rfl))
        · intro a w2 hB hF hd
          refine flow_wanted (wanted_yes rfl rfl (hd 2 _ rfl (waits_spec rfl)) rfl) ?_
          exact flow_move _ (.inl rfl) (by simp) (hF.same 5 rfl)
        · intro a w2 hB hF hd
          refine flow_wanted (wanted_yes rfl rfl (hd 2 _ rfl (waits_spec rfl)) rfl) ?_
          refine flow_val (fun h => by cases h) (Go.Bas.run_eql_int rfl (hd 3 _ rfl (waits_spec rfl)) rfl) ?_
          exact rfl
        · intro a w2 hB hF hd
          rw [if_pos (wanted_none rfl)]
          exact flow_val (fun h => by cases h) (run_pick rfl (hd 2 _ rfl (waits_spec rfl))) ((hd 4 _ rfl (waits_spec rfl)))
        · intro a w2 hB hF hd
          rw [if_pos (wanted_none rfl)]
          exact flow_move _ (.inr rfl) (by simp) (hd 5 _ rfl (waits_spec rfl))
      · intro a w4 hB hF hS
        have ha := puts_each rfl rfl hF [_, _, _, _, _, _, _] rfl ⟨hS 0 _ rfl, hS 1 _ rfl, hS 2 _ rfl, hS 3 _ rfl, hS 4 _ rfl, hS 5 _ rfl, hS 6 _ rfl, trivial⟩
        simp only [puts, Act.put, List.setIfInBounds_toArray, List.set_cons_succ, List.set_cons_zero] at ha
        subst ha
        clear hS hF
        have hb4 := hb3.trans (hB.mono hb3.size)
        clear hB hb3
        go_wp2
        go_ret
        exact ⟨rfl, hb4⟩
  case inr.inl =>
    clear h hno
    go_enter Try.func5, Try.ntmps5
    go_wp2_with fail
    refine (shAwake_any _).mono ?_
    rintro e w1 ⟨rfl, hb1⟩
    go_wp2_with fail
    refine (HR.out _).mono ?_
    rintro e w2 ⟨rfl, hb2⟩
    have hb := hb1.trans (hb2.mono hb1.size)
    clear hb1 hb2 HR
    go_upto_region 4 with (fail)
    refine region_flow (n := 44) (by kernel_rfl) (by kernel_rfl) (by kernel_rfl) rfl
      (fun ii vv _ => (match ii with | 0 => vv = .int .i64 (k) | 1 | 2 | 5 | 6 => vv = .bool false | 3 | 4 | 11 | 12 => vv = undef | 7 => vv = .int .i64 (p) | 8 | 9 | 10 | 13 => vv = .bool true | _ => True))
      (fun w w' => Below w.heap.size w w') (fun _ _ h => h) (fun _ _ _ _ h _ => h) ?_ ?_
    · refine Each.all ?_
      refine ⟨?_, ?_, ?_, ?_, ?_, ?_, ?_, ?_, ?_, ?_, ?_, ?_, ?_, ?_, trivial⟩
      · intro a w2 hB hF hd
        rw [if_pos (wanted_none rfl)]
        exact flow_move _ (.inl rfl) (by simp) (hF.same 1 rfl)
      · intro a w2 hB hF hd
        rw [if_pos (wanted_none rfl)]
        exact flow_val (fun h => by cases h) (Go.Bas.run_neq_int rfl (hd 0 _ rfl (waits_spec rfl)) rfl) (congrArg Value.bool (K1.out))
      · intro a w2 hB hF hd
        rw [if_pos (wanted_none rfl)]
        exact flow_move _ (.inl rfl) (by simp) (hd 1 _ rfl (waits_spec rfl))
      · intro a w2 hB hF hd
        rw [if_neg (by rw [wanted_some rfl rfl (hd 2 _ rfl (waits_spec rfl))]; decide)]
        exact rfl
      · intro a w2 hB hF hd
        rw [if_neg (by rw [wanted_some rfl rfl (hd 2 _ rfl (waits_spec rfl))]; decide)]
        exact rfl
      · intro a w2 hB hF hd
        rw [if_pos (wanted_none rfl)]
        exact flow_val (fun h => by cases h) (run_pick rfl (hd 2 _ rfl (waits_spec rfl))) (rfl)
      · intro a w2 hB hF hd
        rw [if_pos (wanted_none rfl)]
        exact flow_move _ (.inl rfl) (by simp) (hd 5 _ rfl (waits_spec rfl))
      · intro a w2 hB hF hd
        refine flow_wanted (wanted_yes rfl rfl (hd 6 _ rfl (waits_spec rfl)) rfl) ?_
        exact flow_move _ (.inl rfl) (by simp) (hF.same 0 rfl)
      · intro a w2 hB hF hd
        refine flow_wanted (wanted_yes rfl rfl (hd 6 _ rfl (waits_spec rfl)) rfl) ?_
        exact flow_val (fun h => by cases h) (Go.Bas.run_lss rfl (hd 7 _ rfl (waits_spec rfl)) rfl) (congrArg Value.bool (B1.out))
      · intro a w2 hB hF hd
        rw [if_pos (wanted_none rfl)]
        exact flow_val (fun h => by cases h) (run_pick rfl (hd 6 _ rfl (waits_spec rfl))) ((hd 8 _ rfl (waits_spec rfl)))
      · intro a w2 hB hF hd
        rw [if_pos (wanted_none rfl)]
        exact flow_move _ (.inl rfl) (by simp) (hd 9 _ rfl (waits_spec rfl))
      · intro a w2 hB hF hd
        rw [if_neg (by rw [wanted_some rfl rfl (hd 10 _ rfl (waits_spec rfl))]; decide)]
        exact rfl
      · intro a w2 hB hF hd
        rw [if_neg (by rw [wanted_some rfl rfl (hd 10 _ rfl (waits_spec rfl))]; decide)]
        exact rfl
      · intro a w2 hB hF hd
        rw [if_pos (wanted_none rfl)]
        exact flow_val (fun h => by cases h) (run_pick rfl (hd 10 _ rfl (waits_spec rfl))) (rfl)
    · intro a w3 hB hF hS
      have ha := puts_each rfl rfl hF [_, _, _, _, _, _, _, _, _, _, _, _, _, _] rfl ⟨hS 0 _ rfl, hS 1 _ rfl, hS 2 _ rfl, hS 3 _ rfl, hS 4 _ rfl, hS 5 _ rfl, hS 6 _ rfl, hS 7 _ rfl, hS 8 _ rfl, hS 9 _ rfl, hS 10 _ rfl, hS 11 _ rfl, hS 12 _ rfl, hS 13 _ rfl, trivial⟩
      simp only [puts, Act.put, List.setIfInBounds_toArray, List.set_cons_succ, List.set_cons_zero] at ha
      subst ha
      clear hS hF
      have hb3 := hb.trans (hB.mono hb.size)
      clear hB hb
      go_upto_region 5 with (fail)
      refine region_flow (n := 44) (by kernel_rfl) (by kernel_rfl) (by kernel_rfl) rfl
        (fun ii vv _ => (match ii with | 0 => vv = .int .i64 (2) | 1 | 2 | 4 | 5 | 6 => vv = .bool true | 3 => vv = .int .u64 (0) | _ => True))
        (fun w w' => Below w.heap.size w w') (fun _ _ h => h) (fun _ _ _ _ h _ => h) ?_ ?_
      · refine Each.all ?_
        refine ⟨?_, ?_, ?_, ?_, ?_, ?_, ?_, trivial⟩
        · intro a w2 hB hF hd
          rw [if_pos (wanted_none rfl)]
          exact flow_move _ (.inl rfl) (by simp) (hF.same 6 rfl)
        · intro a w2 hB hF hd
          rw [if_pos (wanted_none rfl)]
          refine flow_val (fun h => by cases h) (Go.Bas.run_eql_int rfl (hd 0 _ rfl (waits_spec rfl)) rfl) ?_
          exact rfl
        · intro a w2 hB hF hd
          rw [if_pos (wanted_none rfl)]
          exact flow_move _ (.inl rfl) (by simp) (hd 1 _ rfl (waits_spec rfl))
        · intro a w2 hB hF hd
          refine flow_wanted (wanted_yes rfl rfl (hd 2 _ rfl (waits_spec rfl)) rfl) ?_
          exact flow_move _ (.inl rfl) (by simp) (hF.same 5 rfl)
        · intro a w2 hB hF hd
          refine flow_wanted (wanted_yes rfl rfl (hd 2 _ rfl (waits_spec rfl)) rfl) ?_
          refine flow_val (fun h => by cases h) (Go.Bas.run_eql_int rfl (hd 3 _ rfl (waits_spec rfl)) rfl) ?_
          exact rfl
        · intro a w2 hB hF hd
          rw [if_pos (wanted_none rfl)]
          exact flow_val (fun h => by cases h) (run_pick rfl (hd 2 _ rfl (waits_spec rfl))) ((hd 4 _ rfl (waits_spec rfl)))
        · intro a w2 hB hF hd
          rw [if_pos (wanted_none rfl)]
          exact flow_move _ (.inr rfl) (by simp) (hd 5 _ rfl (waits_spec rfl))
      · intro a w4 hB hF hS
        have ha := puts_each rfl rfl hF [_, _, _, _, _, _, _] rfl ⟨hS 0 _ rfl, hS 1 _ rfl, hS 2 _ rfl, hS 3 _ rfl, hS 4 _ rfl, hS 5 _ rfl, hS 6 _ rfl, trivial⟩
        simp only [puts, Act.put, List.setIfInBounds_toArray, List.set_cons_succ, List.set_cons_zero] at ha
        subst ha
        clear hS hF
        have hb4 := hb3.trans (hB.mono hb3.size)
        clear hB hb3
        go_wp2
        go_ret
        exact ⟨rfl, hb4⟩
  case inr.inr.inl =>
    clear h hno
    go_enter Try.func5, Try.ntmps5
    go_wp2_with fail
    refine (shAwake_any _).mono ?_
    rintro e w1 ⟨rfl, hb1⟩
    go_wp2_with fail
    refine (HR.out _).mono ?_
    rintro e w2 ⟨rfl, hb2⟩
    have hb := hb1.trans (hb2.mono hb1.size)
    clear hb1 hb2 HR
    go_upto_region 4 with (fail)
    refine region_flow (n := 44) (by kernel_rfl) (by kernel_rfl) (by kernel_rfl) rfl
      (fun ii vv _ => (match ii with | 0 | 3 => vv = .int .i64 (k) | 1 | 2 | 8 | 9 | 10 | 13 => vv = .bool true | 4 | 5 | 6 => vv = .bool false | 7 => vv = .int .i64 (p) | 11 | 12 => vv = undef | _ => True))
      (fun w w' => Below w.heap.size w w') (fun _ _ h => h) (fun _ _ _ _ h _ => h) ?_ ?_
    · refine Each.all ?_
      refine ⟨?_, ?_, ?_, ?_, ?_, ?_, ?_, ?_, ?_, ?_, ?_, ?_, ?_, ?_, trivial⟩
      · intro a w2 hB hF hd
        rw [if_pos (wanted_none rfl)]
        exact flow_move _ (.inl rfl) (by simp) (hF.same 1 rfl)
      · intro a w2 hB hF hd
        rw [if_pos (wanted_none rfl)]
        exact flow_val (fun h => by cases h) (Go.Bas.run_neq_int rfl (hd 0 _ rfl (waits_spec rfl)) rfl) (congrArg Value.bool (K1.out))
      · intro a w2 hB hF hd
        rw [if_pos (wanted_none rfl)]
        exact flow_move _ (.inl rfl) (by simp) (hd 1 _ rfl (waits_spec rfl))
      · intro a w2 hB hF hd
        refine flow_wanted (wanted_yes rfl rfl (hd 2 _ rfl (waits_spec rfl)) rfl) ?_
        exact flow_move _ (.inl rfl) (by simp) (hF.same 1 rfl)
      · intro a w2 hB hF hd
        refine flow_wanted (wanted_yes rfl rfl (hd 2 _ rfl (waits_spec rfl)) rfl) ?_
        exact flow_val (fun h => by cases h) (Go.Bas.run_neq_int rfl (hd 3 _ rfl (waits_spec rfl)) rfl) (congrArg Value.bool (K2.out))
      · intro a w2 hB hF hd
        rw [if_pos (wanted_none rfl)]
        exact flow_val (fun h => by cases h) (run_pick rfl (hd 2 _ rfl (waits_spec rfl))) ((hd 4 _ rfl (waits_spec rfl)))
      · intro a w2 hB hF hd
        rw [if_pos (wanted_none rfl)]
        exact flow_move _ (.inl rfl) (by simp) (hd 5 _ rfl (waits_spec rfl))
      · intro a w2 hB hF hd
        refine flow_wanted (wanted_yes rfl rfl (hd 6 _ rfl (waits_spec rfl)) rfl) ?_
        exact flow_move _ (.inl rfl) (by simp) (hF.same 0 rfl)
      · intro a w2 hB hF hd
        refine flow_wanted (wanted_yes rfl rfl (hd 6 _ rfl (waits_spec rfl)) rfl) ?_
        exact flow_val (fun h => by cases h) (Go.Bas.run_lss rfl (hd 7 _ rfl (waits_spec rfl)) rfl) (congrArg Value.bool (B1.out))
      · intro a w2 hB hF hd
        rw [if_pos (wanted_none rfl)]
        exact flow_val (fun h => by cases h) (run_pick rfl (hd 6 _ rfl (waits_spec rfl))) ((hd 8 _ rfl (waits_spec rfl)))
      · intro a w2 hB hF hd
        rw [if_pos (wanted_none rfl)]
        exact flow_move _ (.inl rfl) (by simp) (hd 9 _ rfl (waits_spec rfl))
      · intro a w2 hB hF hd
        rw [if_neg (by rw [wanted_some rfl rfl (hd 10 _ rfl (waits_spec rfl))]; decide)]
        exact rfl
      · intro a w2 hB hF hd
        rw [if_neg (by rw [wanted_some rfl rfl (hd 10 _ rfl (waits_spec rfl))]; decide)]
        exact rfl
      · intro a w2 hB hF hd
        rw [if_pos (wanted_none rfl)]
        exact flow_val (fun h => by cases h) (run_pick rfl (hd 10 _ rfl (waits_spec rfl))) (rfl)
    · intro a w3 hB hF hS
      have ha := puts_each rfl rfl hF [_, _, _, _, _, _, _, _, _, _, _, _, _, _] rfl ⟨hS 0 _ rfl, hS 1 _ rfl, hS 2 _ rfl, hS 3 _ rfl, hS 4 _ rfl, hS 5 _ rfl, hS 6 _ rfl, hS 7 _ rfl, hS 8 _ rfl, hS 9 _ rfl, hS 10 _ rfl, hS 11 _ rfl, hS 12 _ rfl, hS 13 _ rfl, trivial⟩
      simp only [puts, Act.put, List.setIfInBounds_toArray, List.set_cons_succ, List.set_cons_zero] at ha
      subst ha
      clear hS hF
      have hb3 := hb.trans (hB.mono hb.size)
      clear hB hb
      go_upto_region 5 with (fail)
      refine region_flow (n := 44) (by kernel_rfl) (by kernel_rfl) (by kernel_rfl) rfl
        (fun ii vv _ => (match ii with | 0 => vv = .int .i64 (2) | 1 | 2 | 4 | 5 | 6 => vv = .bool true | 3 => vv = .int .u64 (0) | _ => True))
        (fun w w' => Below w.heap.size w w') (fun _ _ h => h) (fun _ _ _ _ h _ => h) ?_ ?_
      · refine Each.all ?_
        refine ⟨?_, ?_, ?_, ?_, ?_, ?_, ?_, trivial⟩
        · intro a w2 hB hF hd
          rw [if_pos (wanted_none rfl)]
          exact flow_move _ (.inl rfl) (by simp) (hF.same 6 rfl)
        · intro a w2 hB hF hd
          rw [if_pos (wanted_none rfl)]
          refine flow_val (fun h => by cases h) (Go.Bas.run_eql_int rfl (hd 0 _ rfl (waits_spec rfl)) rfl) ?_
          exact rfl
        · intro a w2 hB hF hd
          rw [if_pos (wanted_none rfl)]
          exact flow_move _ (.inl rfl) (by simp) (hd 1 _ rfl (waits_spec rfl))
        · intro a w2 hB hF hd
          refine flow_wanted (wanted_yes rfl rfl (hd 2 _ rfl (waits_spec rfl)) rfl) ?_
          exact flow_move _ (.inl rfl) (by simp) (hF.same 5 rfl)
        · intro a w2 hB hF hd
          refine flow_wanted (wanted_yes rfl rfl (hd 2 _ rfl (waits_spec rfl)) rfl) ?_
          refine flow_val (fun h => by cases h) (Go.Bas.run_eql_int rfl (hd 3 _ rfl (waits_spec rfl)) rfl) ?_
          exact rfl
        · intro a w2 hB hF hd
          rw [if_pos (wanted_none rfl)]
          exact flow_val (fun h => by cases h) (run_pick rfl (hd 2 _ rfl (waits_spec rfl))) ((hd 4 _ rfl (waits_spec rfl)))
        · intro a w2 hB hF hd
          rw [if_pos (wanted_none rfl)]
          exact flow_move _ (.inr rfl) (by simp) (hd 5 _ rfl (waits_spec rfl))
      · intro a w4 hB hF hS
        have ha := puts_each rfl rfl hF [_, _, _, _, _, _, _] rfl ⟨hS 0 _ rfl, hS 1 _ rfl, hS 2 _ rfl, hS 3 _ rfl, hS 4 _ rfl, hS 5 _ rfl, hS 6 _ rfl, trivial⟩
        simp only [puts, Act.put, List.setIfInBounds_toArray, List.set_cons_succ, List.set_cons_zero] at ha
        subst ha
        clear hS hF
        have hb4 := hb3.trans (hB.mono hb3.size)
        clear hB hb3
        go_wp2
        go_ret
        exact ⟨rfl, hb4⟩
  case inr.inr.inr.inl =>
    clear h hno
    go_enter Try.func5, Try.ntmps5
    go_wp2_with fail
    refine (shAwake_any _).mono ?_
    rintro e w1 ⟨rfl, hb1⟩
    go_wp2_with fail
    refine (HR.out _).mono ?_
    rintro e w2 ⟨rfl, hb2⟩
    have hb := hb1.trans (hb2.mono hb1.size)
    clear hb1 hb2 HR
    go_upto_region 4 with (fail)
    refine region_flow (n := 44) (by kernel_rfl) (by kernel_rfl) (by kernel_rfl) rfl
      (fun ii vv _ => (match ii with | 0 => vv = .int .i64 (k) | 1 | 2 | 5 | 6 | 8 | 9 | 10 => vv = .bool false | 3 | 4 => vv = undef | 7 | 11 => vv = .int .i64 (p) | 12 | 13 => vv = .bool true | _ => True))
      (fun w w' => Below w.heap.size w w') (fun _ _ h => h) (fun _ _ _ _ h _ => h) ?_ ?_
    · refine Each.all ?_
      refine ⟨?_, ?_, ?_, ?_, ?_, ?_, ?_, ?_, ?_, ?_, ?_, ?_, ?_, ?_, trivial⟩
      · intro a w2 hB hF hd
        rw [if_pos (wanted_none rfl)]
        exact flow_move _ (.inl rfl) (by simp) (hF.same 1 rfl)
      · intro a w2 hB hF hd
        rw [if_pos (wanted_none rfl)]
        exact flow_val (fun h => by cases h) (Go.Bas.run_neq_int rfl (hd 0 _ rfl (waits_spec rfl)) rfl) (congrArg Value.bool (K1.out))
      · intro a w2 hB hF hd
        rw [if_pos (wanted_none rfl)]
        exact flow_move _ (.inl rfl) (by simp) (hd 1 _ rfl (waits_spec rfl))
      · intro a w2 hB hF hd
        rw [if_neg (by rw [wanted_some rfl rfl (hd 2 _ rfl (waits_spec rfl))]; decide)]
        exact rfl
      · intro a w2 hB hF hd
        rw [if_neg (by rw [wanted_some rfl rfl (hd 2 _ rfl (waits_spec rfl))]; decide)]
        exact rfl
      · intro a w2 hB hF hd
        rw [if_pos (wanted_none rfl)]
        exact flow_val (fun h => by cases h) (run_pick rfl (hd 2 _ rfl (waits_spec rfl))) (rfl)
      · intro a w2 hB hF hd
        rw [if_pos (wanted_none rfl)]
        exact flow_move _ (.inl rfl) (by simp) (hd 5 _ rfl (waits_spec rfl))
      · intro a w2 hB hF hd
        refine flow_wanted (wanted_yes rfl rfl (hd 6 _ rfl (waits_spec rfl)) rfl) ?_
        exact flow_move _ (.inl rfl) (by simp) (hF.same 0 rfl)
      · intro a w2 hB hF hd
        refine flow_wanted (wanted_yes rfl rfl (hd 6 _ rfl (waits_spec rfl)) rfl) ?_
        exact flow_val (fun h => by cases h) (Go.Bas.run_lss rfl (hd 7 _ rfl (waits_spec rfl)) rfl) (congrArg Value.bool (B1.out))
      · intro a w2 hB hF hd
        rw [if_pos (wanted_none rfl)]
        exact flow_val (fun h => by cases h) (run_pick rfl (hd 6 _ rfl (waits_spec rfl))) ((hd 8 _ rfl (waits_spec rfl)))
      · intro a w2 hB hF hd
        rw [if_pos (wanted_none rfl)]
        exact flow_move _ (.inl rfl) (by simp) (hd 9 _ rfl (waits_spec rfl))
      · intro a w2 hB hF hd
        refine flow_wanted (wanted_yes rfl rfl (hd 10 _ rfl (waits_spec rfl)) rfl) ?_
        exact flow_move _ (.inl rfl) (by simp) (hF.same 0 rfl)
      · intro a w2 hB hF hd
        refine flow_wanted (wanted_yes rfl rfl (hd 10 _ rfl (waits_spec rfl)) rfl) ?_
        exact flow_val (fun h => by cases h) (Go.Bas.run_gtr rfl (hd 11 _ rfl (waits_spec rfl)) rfl) (congrArg Value.bool (B2.out))
      · intro a w2 hB hF hd
        rw [if_pos (wanted_none rfl)]
        exact flow_val (fun h => by cases h) (run_pick rfl (hd 10 _ rfl (waits_spec rfl))) ((hd 12 _ rfl (waits_spec rfl)))
    · intro a w3 hB hF hS
      have ha := puts_each rfl rfl hF [_, _, _, _, _, _, _, _, _, _, _, _, _, _] rfl ⟨hS 0 _ rfl, hS 1 _ rfl, hS 2 _ rfl, hS 3 _ rfl, hS 4 _ rfl, hS 5 _ rfl, hS 6 _ rfl, hS 7 _ rfl, hS 8 _ rfl, hS 9 _ rfl, hS 10 _ rfl, hS 11 _ rfl, hS 12 _ rfl, hS 13 _ rfl, trivial⟩
      simp only [puts, Act.put, List.setIfInBounds_toArray, List.set_cons_succ, List.set_cons_zero] at ha
      subst ha
      clear hS hF
      have hb3 := hb.trans (hB.mono hb.size)
      clear hB hb
      go_upto_region 5 with (fail)
      refine region_flow (n := 44) (by kernel_rfl) (by kernel_rfl) (by kernel_rfl) rfl
        (fun ii vv _ => (match ii with | 0 => vv = .int .i64 (2) | 1 | 2 | 4 | 5 | 6 => vv = .bool true | 3 => vv = .int .u64 (0) | _ => True))
        (fun w w' => Below w.heap.size w w') (fun _ _ h => h) (fun _ _ _ _ h _ => h) ?_ ?_
      · refine Each.all ?_
        refine ⟨?_, ?_, ?_, ?_, ?_, ?_, ?_, trivial⟩
        · intro a w2 hB hF hd
          rw [if_pos (wanted_none rfl)]
          exact flow_move _ (.inl rfl) (by simp) (hF.same 6 rfl)
        · intro a w2 hB hF hd
          rw [if_pos (wanted_none rfl)]
          refine flow_val (fun h => by cases h) (Go.Bas.run_eql_int rfl (hd 0 _ rfl (waits_spec rfl)) rfl) ?_
          exact rfl
        · intro a w2 hB hF hd
          rw [if_pos (wanted_none rfl)]
          exact flow_move _ (.inl rfl) (by simp) (hd 1 _ rfl (waits_spec rfl))
        · intro a w2 hB hF hd
          refine flow_wanted (wanted_yes rfl rfl (hd 2 _ rfl (waits_spec rfl)) rfl) ?_
          exact flow_move _ (.inl rfl) (by simp) (hF.same 5 rfl)
        · intro a w2 hB hF hd
          refine flow_wanted (wanted_yes rfl rfl (hd 2 _ rfl (waits_spec rfl)) rfl) ?_
          refine flow_val (fun h => by cases h) (Go.Bas.run_eql_int rfl (hd 3 _ rfl (waits_spec rfl)) rfl) ?_
          exact rfl
        · intro a w2 hB hF hd
          rw [if_pos (wanted_none rfl)]
          exact flow_val (fun h => by cases h) (run_pick rfl (hd 2 _ rfl (waits_spec rfl))) ((hd 4 _ rfl (waits_spec rfl)))
        · intro a w2 hB hF hd
          rw [if_pos (wanted_none rfl)]
          exact flow_move _ (.inr rfl) (by simp) (hd 5 _ rfl (waits_spec rfl))
      · intro a w4 hB hF hS
        have ha := puts_each rfl rfl hF [_, _, _, _, _, _, _] rfl ⟨hS 0 _ rfl, hS 1 _ rfl, hS 2 _ rfl, hS 3 _ rfl, hS 4 _ rfl, hS 5 _ rfl, hS 6 _ rfl, trivial⟩
        simp only [puts, Act.put, List.setIfInBounds_toArray, List.set_cons_succ, List.set_cons_zero] at ha
        subst ha
        clear hS hF
        have hb4 := hb3.trans (hB.mono hb3.size)
        clear hB hb3
        go_wp2
        go_ret
        exact ⟨rfl, hb4⟩
  case inr.inr.inr.inr =>
    clear h hno
    go_enter Try.func5, Try.ntmps5
    go_wp2_with fail
    refine (shAwake_any _).mono ?_
    rintro e w1 ⟨rfl, hb1⟩
    go_wp2_with fail
    refine (HR.out _).mono ?_
    rintro e w2 ⟨rfl, hb2⟩
    have hb := hb1.trans (hb2.mono hb1.size)
    clear hb1 hb2 HR
    go_upto_region 4 with (fail)
    refine region_flow (n := 44) (by kernel_rfl) (by kernel_rfl) (by kernel_rfl) rfl
      (fun ii vv _ => (match ii with | 0 | 3 => vv = .int .i64 (k) | 1 | 2 | 12 | 13 => vv = .bool true | 4 | 5 | 6 | 8 | 9 | 10 => vv = .bool false | 7 | 11 => vv = .int .i64 (p) | _ => True))
      (fun w w' => Below w.heap.size w w') (fun _ _ h => h) (fun _ _ _ _ h _ => h) ?_ ?_
    · refine Each.all ?_
      refine ⟨?_, ?_, ?_, ?_, ?_, ?_, ?_, ?_, ?_, ?_, ?_, ?_, ?_, ?_, trivial⟩
      · intro a w2 hB hF hd
        rw [if_pos (wanted_none rfl)]
        exact flow_move _ (.inl rfl) (by simp) (hF.same 1 rfl)
      · intro a w2 hB hF hd
        rw [if_pos (wanted_none rfl)]
        exact flow_val (fun h => by cases h) (Go.Bas.run_neq_int rfl (hd 0 _ rfl (waits_spec rfl)) rfl) (congrArg Value.bool (K1.out))
      · intro a w2 hB hF hd
        rw [if_pos (wanted_none rfl)]
        exact flow_move _ (.inl rfl) (by simp) (hd 1 _ rfl (waits_spec rfl))
      · intro a w2 hB hF hd
        refine flow_wanted (wanted_yes rfl rfl (hd 2 _ rfl (waits_spec rfl)) rfl) ?_
        exact flow_move _ (.inl rfl) (by simp) (hF.same 1 rfl)
      · intro a w2 hB hF hd
        refine flow_wanted (wanted_yes rfl rfl (hd 2 _ rfl (waits_spec rfl)) rfl) ?_
        exact flow_val (fun h => by cases h) (Go.Bas.run_neq_int rfl (hd 3 _ rfl (waits_spec rfl)) rfl) (congrArg Value.bool (K2.out))
      · intro a w2 hB hF hd
        rw [if_pos (wanted_none rfl)]
        exact flow_val (fun h => by cases h) (run_pick rfl (hd 2 _ rfl (waits_spec rfl))) ((hd 4 _ rfl (waits_spec rfl)))
      · intro a w2 hB hF hd
        rw [if_pos (wanted_none rfl)]
        exact flow_move _ (.inl rfl) (by simp) (hd 5 _ rfl (waits_spec rfl))
      · intro a w2 hB hF hd
        refine flow_wanted (wanted_yes rfl rfl (hd 6 _ rfl (waits_spec rfl)) rfl) ?_
        exact flow_move _ (.inl rfl) (by simp) (hF.same 0 rfl)
      · intro a w2 hB hF hd
        refine flow_wanted (wanted_yes rfl rfl (hd 6 _ rfl (waits_spec rfl)) rfl) ?_
        exact flow_val (fun h => by cases h) (Go.Bas.run_lss rfl (hd 7 _ rfl (waits_spec rfl)) rfl) (congrArg Value.bool (B1.out))
      · intro a w2 hB hF hd
        rw [if_pos (wanted_none rfl)]
        exact flow_val (fun h => by cases h) (run_pick rfl (hd 6 _ rfl (waits_spec rfl))) ((hd 8 _ rfl (waits_spec rfl)))
      · intro a w2 hB hF hd
        rw [if_pos (wanted_none rfl)]
        exact flow_move _ (.inl rfl) (by simp) (hd 9 _ rfl (waits_spec rfl))
      · intro a w2 hB hF hd
        refine flow_wanted (wanted_yes rfl rfl (hd 10 _ rfl (waits_spec rfl)) rfl) ?_
        exact flow_move _ (.inl rfl) (by simp) (hF.same 0 rfl)
      · intro a w2 hB hF hd
        refine flow_wanted (wanted_yes rfl rfl (hd 10 _ rfl (waits_spec rfl)) rfl) ?_
        exact flow_val (fun h => by cases h) (Go.Bas.run_gtr rfl (hd 11 _ rfl (waits_spec rfl)) rfl) (congrArg Value.bool (B2.out))
      · intro a w2 hB hF hd
        rw [if_pos (wanted_none rfl)]
        exact flow_val (fun h => by cases h) (run_pick rfl (hd 10 _ rfl (waits_spec rfl))) ((hd 12 _ rfl (waits_spec rfl)))
    · intro a w3 hB hF hS
      have ha := puts_each rfl rfl hF [_, _, _, _, _, _, _, _, _, _, _, _, _, _] rfl ⟨hS 0 _ rfl, hS 1 _ rfl, hS 2 _ rfl, hS 3 _ rfl, hS 4 _ rfl, hS 5 _ rfl, hS 6 _ rfl, hS 7 _ rfl, hS 8 _ rfl, hS 9 _ rfl, hS 10 _ rfl, hS 11 _ rfl, hS 12 _ rfl, hS 13 _ rfl, trivial⟩
      simp only [puts, Act.put, List.setIfInBounds_toArray, List.set_cons_succ, List.set_cons_zero] at ha
      subst ha
      clear hS hF
      have hb3 := hb.trans (hB.mono hb.size)
      clear hB hb
      go_upto_region 5 with (fail)
      refine region_flow (n := 44) (by kernel_rfl) (by kernel_rfl) (by kernel_rfl) rfl
        (fun ii vv _ => (match ii with | 0 => vv = .int .i64 (2) | 1 | 2 | 4 | 5 | 6 => vv = .bool true | 3 => vv = .int .u64 (0) | _ => True))
        (fun w w' => Below w.heap.size w w') (fun _ _ h => h) (fun _ _ _ _ h _ => h) ?_ ?_
      · refine Each.all ?_
        refine ⟨?_, ?_, ?_, ?_, ?_, ?_, ?_, trivial⟩
        · intro a w2 hB hF hd
          rw [if_pos (wanted_none rfl)]
          exact flow_move _ (.inl rfl) (by simp) (hF.same 6 rfl)
        · intro a w2 hB hF hd
          rw [if_pos (wanted_none rfl)]
          refine flow_val (fun h => by cases h) (Go.Bas.run_eql_int rfl (hd 0 _ rfl (waits_spec rfl)) rfl) ?_
          exact rfl
        · intro a w2 hB hF hd
          rw [if_pos (wanted_none rfl)]
          exact flow_move _ (.inl rfl) (by simp) (hd 1 _ rfl (waits_spec rfl))
        · intro a w2 hB hF hd
          refine flow_wanted (wanted_yes rfl rfl (hd 2 _ rfl (waits_spec rfl)) rfl) ?_
          exact flow_move _ (.inl rfl) (by simp) (hF.same 5 rfl)
        · intro a w2 hB hF hd
          refine flow_wanted (wanted_yes rfl rfl (hd 2 _ rfl (waits_spec rfl)) rfl) ?_
          refine flow_val (fun h => by cases h) (Go.Bas.run_eql_int rfl (hd 3 _ rfl (waits_spec rfl)) rfl) ?_
          exact rfl
        · intro a w2 hB hF hd
          rw [if_pos (wanted_none rfl)]
          exact flow_val (fun h => by cases h) (run_pick rfl (hd 2 _ rfl (waits_spec rfl))) ((hd 4 _ rfl (waits_spec rfl)))
        · intro a w2 hB hF hd
          rw [if_pos (wanted_none rfl)]
          exact flow_move _ (.inr rfl) (by simp) (hd 5 _ rfl (waits_spec rfl))
      · intro a w4 hB hF hS
        have ha := puts_each rfl rfl hF [_, _, _, _, _, _, _] rfl ⟨hS 0 _ rfl, hS 1 _ rfl, hS 2 _ rfl, hS 3 _ rfl, hS 4 _ rfl, hS 5 _ rfl, hS 6 _ rfl, trivial⟩
        simp only [puts, Act.put, List.setIfInBounds_toArray, List.set_cons_succ, List.set_cons_zero] at ha
        subst ha
        clear hS hF
        have hb4 := hb3.trans (hB.mono hb3.size)
        clear hB hb3
        go_wp2
        go_ret
        exact ⟨rfl, hb4⟩

set_option maxRecDepth 100000 in
set_option maxHeartbeats 6400000 in
theorem shaRoots_yes (w : World) (p : Int) (k : Int) (hk : k = 2 ∨ k = 3) (p0 : 2 ≤ p) (p1 : p ≤ 500) :
    Calls Try.prog 5 #[.int .i64 p, .int .i64 k] w fun e w' => e = .returned (.bool true) ∧ Below w.heap.size w w' := by
  obtain ⟨n, hn⟩ : ∃ n : Nat, k = (n : Int) := ⟨k.toNat, by omega⟩
  have hn2 : n = 2 ∨ n = 3 := by omega
  have HR := Lib.hid (fun w => root_any p n hn2 p0 p1 w)
  have HRR := Lib.hid (fun w => rRoot_any p n hn2 p0 p1 w)
  subst hn
  rcases hn2 with hn2 | hn2
  case' inl => have K1 : Hid (((n : Int) != 2) = false) := by rw [hn2]; rfl
  case' inr => have K1 : Hid (((n : Int) != 2) = true) := by rw [hn2]; rfl
  case' inr => have K2 : Hid (((n : Int) != 3) = false) := by rw [hn2]; rfl
  case inl =>
    clear hk hn2
    go_enter Try.func5, Try.ntmps5
    go_wp2_with fail
    refine (shAwake_any _).mono ?_
    rintro e w1 ⟨rfl, hb1⟩
    go_wp2_with fail
    refine (HR.out _).mono ?_
    rintro e w2 ⟨X, hX, rfl, hb2⟩
    have hb := hb1.trans (hb2.mono hb1.size)
    have con : ∀ w, Calls Try.prog 22 #[.int .i64 p, .int .i64 (n : Int)] w fun e w' => e = .returned (.int .u64 (X % M64)) ∧ Below w.heap.size w w' := fun w => (HRR.out w).mono fun e w' ⟨Y, hY, he, hbb⟩ => ⟨by rw [he, isRoot_unique hY hX], hbb⟩
    have CON := Lib.hid con
    obtain ⟨x, hx⟩ : ∃ x, x = X % M64 := ⟨_, rfl⟩
    rw [← hx] at CON ⊢
    clear con hX hb1 hb2 HR HRR hx
    go_upto_region 4 with (fail)
    refine region_flow (n := 44) (by kernel_rfl) (by kernel_rfl) (by kernel_rfl) rfl
      (fun ii vv _ => (match ii with | 0 => vv = .int .i64 ((n : Int)) | 1 | 2 | 5 | 6 | 8 | 9 | 10 | 12 | 13 => vv = .bool false | 3 | 4 => vv = undef | 7 | 11 => vv = .int .i64 (p) | _ => True))
      (fun w w' => Below w.heap.size w w') (fun _ _ h => h) (fun _ _ _ _ h _ => h) ?_ ?_
    · refine Each.all ?_
      refine ⟨?_, ?_, ?_, ?_, ?_, ?_, ?_, ?_, ?_, ?_, ?_, ?_, ?_, ?_, trivial⟩
      · intro a w2 hB hF hd
        rw [if_pos (wanted_none rfl)]
        exact flow_move _ (.inl rfl) (by simp) (hF.same 1 rfl)
      · intro a w2 hB hF hd
        rw [if_pos (wanted_none rfl)]
        exact flow_val (fun h => by cases h) (Go.Bas.run_neq_int rfl (hd 0 _ rfl (waits_spec rfl)) rfl) (congrArg Value.bool (K1.out))
      · intro a w2 hB hF hd
        rw [if_pos (wanted_none rfl)]
        exact flow_move _ (.inl rfl) (by simp) (hd 1 _ rfl (waits_spec rfl))
      · intro a w2 hB hF hd
        rw [if_neg (by rw [wanted_some rfl rfl (hd 2 _ rfl (waits_spec rfl))]; decide)]
        exact rfl
      · intro a w2 hB hF hd
        rw [if_neg (by rw [wanted_some rfl rfl (hd 2 _ rfl (waits_spec rfl))]; decide)]
        exact rfl
      · intro a w2 hB hF hd
        rw [if_pos (wanted_none rfl)]
        exact flow_val (fun h => by cases h) (run_pick rfl (hd 2 _ rfl (waits_spec rfl))) (rfl)
      · intro a w2 hB hF hd
        rw [if_pos (wanted_none rfl)]
        exact flow_move _ (.inl rfl) (by simp) (hd 5 _ rfl (waits_spec rfl))
      · intro a w2 hB hF hd
        refine flow_wanted (wanted_yes rfl rfl (hd 6 _ rfl (waits_spec rfl)) rfl) ?_
        exact flow_move _ (.inl rfl) (by simp) (hF.same 0 rfl)
      · intro a w2 hB hF hd
        refine flow_wanted (wanted_yes rfl rfl (hd 6 _ rfl (waits_spec rfl)) rfl) ?_
        exact flow_val (fun h => by cases h) (Go.Bas.run_lss rfl (hd 7 _ rfl (waits_spec rfl)) rfl) (congrArg Value.bool (decide_eq_false (by omega)))
      · intro a w2 hB hF hd
        rw [if_pos (wanted_none rfl)]
        exact flow_val (fun h => by cases h) (run_pick rfl (hd 6 _ rfl (waits_spec rfl))) ((hd 8 _ rfl (waits_spec rfl)))
      · intro a w2 hB hF hd
        rw [if_pos (wanted_none rfl)]
        exact flow_move _ (.inl rfl) (by simp) (hd 9 _ rfl (waits_spec rfl))
      · intro a w2 hB hF hd
        refine flow_wanted (wanted_yes rfl rfl (hd 10 _ rfl (waits_spec rfl)) rfl) ?_
        exact flow_move _ (.inl rfl) (by simp) (hF.same 0 rfl)
      · intro a w2 hB hF hd
        refine flow_wanted (wanted_yes rfl rfl (hd 10 _ rfl (waits_spec rfl)) rfl) ?_
        exact flow_val (fun h => by cases h) (Go.Bas.run_gtr rfl (hd 11 _ rfl (waits_spec rfl)) rfl) (congrArg Value.bool (decide_eq_false (by omega)))
      · intro a w2 hB hF hd
        rw [if_pos (wanted_none rfl)]
        exact flow_val (fun h => by cases h) (run_pick rfl (hd 10 _ rfl (waits_spec rfl))) ((hd 12 _ rfl (waits_spec rfl)))
    · intro a w3 hB hF hS
      have ha := puts_each rfl rfl hF [_, _, _, _, _, _, _, _, _, _, _, _, _, _] rfl ⟨hS 0 _ rfl, hS 1 _ rfl, hS 2 _ rfl, hS 3 _ rfl, hS 4 _ rfl, hS 5 _ rfl, hS 6 _ rfl, hS 7 _ rfl, hS 8 _ rfl, hS 9 _ rfl, hS 10 _ rfl, hS 11 _ rfl, hS 12 _ rfl, hS 13 _ rfl, trivial⟩
      simp only [puts, Act.put, List.setIfInBounds_toArray, List.set_cons_succ, List.set_cons_zero] at ha
      subst ha
      clear hS hF
      have hb3 := hb.trans (hB.mono hb.size)
      clear hB hb
      go_upto_region 6 with (fail)
      refine region_flow (n := 44) (by kernel_rfl) (by kernel_rfl) (by kernel_rfl) rfl
        (fun ii vv _ => (match ii with | 0 => vv = .int .i64 (0) | 1 | 2 | 7 | 8 | 9 => vv = .bool true | 3 | 6 => vv = .int .u64 (x) | 4 => vv = .int .i64 (p) | 5 => vv = .int .i64 ((n : Int)) | _ => True))
        (fun w w' => Below w.heap.size w w') (fun _ _ h => h) (fun _ _ _ _ h _ => h) ?_ ?_
      · refine Each.all ?_
        refine ⟨?_, ?_, ?_, ?_, ?_, ?_, ?_, ?_, ?_, ?_, trivial⟩
        · intro a w2 hB hF hd
          rw [if_pos (wanted_none rfl)]
          exact flow_move _ (.inl rfl) (by simp) (hF.same 6 rfl)
        · intro a w2 hB hF hd
          rw [if_pos (wanted_none rfl)]
          refine flow_val (fun h => by cases h) (Go.Bas.run_eql_int rfl (hd 0 _ rfl (waits_spec rfl)) rfl) ?_
          exact rfl
        · intro a w2 hB hF hd
          rw [if_pos (wanted_none rfl)]
          exact flow_move _ (.inl rfl) (by simp) (hd 1 _ rfl (waits_spec rfl))
        · intro a w2 hB hF hd
          refine flow_wanted (wanted_yes rfl rfl (hd 2 _ rfl (waits_spec rfl)) rfl) ?_
          exact flow_move _ (.inl rfl) (by simp) (hF.same 5 rfl)
        · intro a w2 hB hF hd
          refine flow_wanted (wanted_yes rfl rfl (hd 2 _ rfl (waits_spec rfl)) rfl) ?_
          exact flow_move _ (.inl rfl) (by simp) (hF.same 0 rfl)
        · intro a w2 hB hF hd
          refine flow_wanted (wanted_yes rfl rfl (hd 2 _ rfl (waits_spec rfl)) rfl) ?_
          exact flow_move _ (.inl rfl) (by simp) (hF.same 1 rfl)
        · intro a w2 hB hF hd
          refine flow_wanted (wanted_yes rfl rfl (hd 2 _ rfl (waits_spec rfl)) rfl) ?_
          refine flow_call _ _ _ rfl Try.call22 _ (args2 (hd 4 _ rfl (waits_spec rfl)) (hd 5 _ rfl (waits_spec rfl))) (by simp) ((CON.out _).mono ?_)
          rintro e w3 ⟨rfl, hb⟩; exact ⟨_, rfl, rfl, hb⟩
        · intro a w2 hB hF hd
          refine flow_wanted (wanted_yes rfl rfl (hd 2 _ rfl (waits_spec rfl)) rfl) ?_
          refine flow_val (fun h => by cases h) (Go.Bas.run_eql_int rfl (hd 3 _ rfl (waits_spec rfl)) (hd 6 _ rfl (waits_spec rfl))) ?_
          exact congrArg Value.bool (beq_self_eq_true _)
        · intro a w2 hB hF hd
          rw [if_pos (wanted_none rfl)]
          exact flow_val (fun h => by cases h) (run_pick rfl (hd 2 _ rfl (waits_spec rfl))) ((hd 7 _ rfl (waits_spec rfl)))
        · intro a w2 hB hF hd
          rw [if_pos (wanted_none rfl)]
          exact flow_move _ (.inr rfl) (by simp) (hd 8 _ rfl (waits_spec rfl))
      · intro a w4 hB hF hS
        have ha := puts_each rfl rfl hF [_, _, _, _, _, _, _, _, _, _] rfl ⟨hS 0 _ rfl, hS 1 _ rfl, hS 2 _ rfl, hS 3 _ rfl, hS 4 _ rfl, hS 5 _ rfl, hS 6 _ rfl, hS 7 _ rfl, hS 8 _ rfl, hS 9 _ rfl, trivial⟩
        simp only [puts, Act.put, List.setIfInBounds_toArray, List.set_cons_succ, List.set_cons_zero] at ha
        subst ha
        clear hS hF
        have hb4 := hb3.trans (hB.mono hb3.size)
        clear hB hb3
        go_wp2
        go_ret
        exact ⟨rfl, hb4⟩
  case inr =>
    clear hk hn2
    go_enter Try.func5, Try.ntmps5
    go_wp2_with fail
    refine (shAwake_any _).mono ?_
    rintro e w1 ⟨rfl, hb1⟩
    go_wp2_with fail
    refine (HR.out _).mono ?_
    rintro e w2 ⟨X, hX, rfl, hb2⟩
    have hb := hb1.trans (hb2.mono hb1.size)
    have con : ∀ w, Calls Try.prog 22 #[.int .i64 p, .int .i64 (n : Int)] w fun e w' => e = .returned (.int .u64 (X % M64)) ∧ Below w.heap.size w w' := fun w => (HRR.out w).mono fun e w' ⟨Y, hY, he, hbb⟩ => ⟨by rw [he, isRoot_unique hY hX], hbb⟩
    have CON := Lib.hid con
    obtain ⟨x, hx⟩ : ∃ x, x = X % M64 := ⟨_, rfl⟩
    rw [← hx] at CON ⊢
    clear con hX hb1 hb2 HR HRR hx
    go_upto_region 4 with (fail)
    refine region_flow (n := 44) (by kernel_rfl) (by kernel_rfl) (by kernel_rfl) rfl
      (fun ii vv _ => (match ii with | 0 | 3 => vv = .int .i64 ((n : Int)) | 1 | 2 => vv = .bool true | 4 | 5 | 6 | 8 | 9 | 10 | 12 | 13 => vv = .bool false | 7 | 11 => vv = .int .i64 (p) | _ => True))
      (fun w w' => Below w.heap.size w w') (fun _ _ h => h) (fun _ _ _ _ h _ => h) ?_ ?_
    · refine Each.all ?_
      refine ⟨?_, ?_, ?_, ?_, ?_, ?_, ?_, ?_, ?_, ?_, ?_, ?_, ?_, ?_, trivial⟩
      · intro a w2 hB hF hd
        rw [if_pos (wanted_none rfl)]
        exact flow_move _ (.inl rfl) (by simp) (hF.same 1 rfl)
      · intro a w2 hB hF hd
        rw [if_pos (wanted_none rfl)]
        exact flow_val (fun h => by cases h) (Go.Bas.run_neq_int rfl (hd 0 _ rfl (waits_spec rfl)) rfl) (congrArg Value.bool (K1.out))
      · intro a w2 hB hF hd
        rw [if_pos (wanted_none rfl)]
        exact flow_move _ (.inl rfl) (by simp) (hd 1 _ rfl (waits_spec rfl))
      · intro a w2 hB hF hd
        refine flow_wanted (wanted_yes rfl rfl (hd 2 _ rfl (waits_spec rfl)) rfl) ?_
        exact flow_move _ (.inl rfl) (by simp) (hF.same 1 rfl)
      · intro a w2 hB hF hd
        refine flow_wanted (wanted_yes rfl rfl (hd 2 _ rfl (waits_spec rfl)) rfl) ?_
        exact flow_val (fun h => by cases h) (Go.Bas.run_neq_int rfl (hd 3 _ rfl (waits_spec rfl)) rfl) (congrArg Value.bool (K2.out))
      · intro a w2 hB hF hd
        rw [if_pos (wanted_none rfl)]
        exact flow_val (fun h => by cases h) (run_pick rfl (hd 2 _ rfl (waits_spec rfl))) ((hd 4 _ rfl (waits_spec rfl)))
      · intro a w2 hB hF hd
        rw [if_pos (wanted_none rfl)]
        exact flow_move _ (.inl rfl) (by simp) (hd 5 _ rfl (waits_spec rfl))
      · intro a w2 hB hF hd
        refine flow_wanted (wanted_yes rfl rfl (hd 6 _ rfl (waits_spec rfl)) rfl) ?_
        exact flow_move _ (.inl rfl) (by simp) (hF.same 0 rfl)
      · intro a w2 hB hF hd
        refine flow_wanted (wanted_yes rfl rfl (hd 6 _ rfl (waits_spec rfl)) rfl) ?_
        exact flow_val (fun h => by cases h) (Go.Bas.run_lss rfl (hd 7 _ rfl (waits_spec rfl)) rfl) (congrArg Value.bool (decide_eq_false (by omega)))
      · intro a w2 hB hF hd
        rw [if_pos (wanted_none rfl)]
        exact flow_val (fun h => by cases h) (run_pick rfl (hd 6 _ rfl (waits_spec rfl))) ((hd 8 _ rfl (waits_spec rfl)))
      · intro a w2 hB hF hd
        rw [if_pos (wanted_none rfl)]
        exact flow_move _ (.inl rfl) (by simp) (hd 9 _ rfl (waits_spec rfl))
      · intro a w2 hB hF hd
        refine flow_wanted (wanted_yes rfl rfl (hd 10 _ rfl (waits_spec rfl)) rfl) ?_
        exact flow_move _ (.inl rfl) (by simp) (hF.same 0 rfl)
      · intro a w2 hB hF hd
        refine flow_wanted (wanted_yes rfl rfl (hd 10 _ rfl (waits_spec rfl)) rfl) ?_
        exact flow_val (fun h => by cases h) (Go.Bas.run_gtr rfl (hd 11 _ rfl (waits_spec rfl)) rfl) (congrArg Value.bool (decide_eq_false (by omega)))
      · intro a w2 hB hF hd
        rw [if_pos (wanted_none rfl)]
        exact flow_val (fun h => by cases h) (run_pick rfl (hd 10 _ rfl (waits_spec rfl))) ((hd 12 _ rfl (waits_spec rfl)))
    · intro a w3 hB hF hS
      have ha := puts_each rfl rfl hF [_, _, _, _, _, _, _, _, _, _, _, _, _, _] rfl ⟨hS 0 _ rfl, hS 1 _ rfl, hS 2 _ rfl, hS 3 _ rfl, hS 4 _ rfl, hS 5 _ rfl, hS 6 _ rfl, hS 7 _ rfl, hS 8 _ rfl, hS 9 _ rfl, hS 10 _ rfl, hS 11 _ rfl, hS 12 _ rfl, hS 13 _ rfl, trivial⟩
      simp only [puts, Act.put, List.setIfInBounds_toArray, List.set_cons_succ, List.set_cons_zero] at ha
      subst ha
      clear hS hF
      have hb3 := hb.trans (hB.mono hb.size)
      clear hB hb
      go_upto_region 6 with (fail)
      refine region_flow (n := 44) (by kernel_rfl) (by kernel_rfl) (by kernel_rfl) rfl
        (fun ii vv _ => (match ii with | 0 => vv = .int .i64 (0) | 1 | 2 | 7 | 8 | 9 => vv = .bool true | 3 | 6 => vv = .int .u64 (x) | 4 => vv = .int .i64 (p) | 5 => vv = .int .i64 ((n : Int)) | _ => True))
        (fun w w' => Below w.heap.size w w') (fun _ _ h => h) (fun _ _ _ _ h _ => h) ?_ ?_
      · refine Each.all ?_
        refine ⟨?_, ?_, ?_, ?_, ?_, ?_, ?_, ?_, ?_, ?_, trivial⟩
        · intro a w2 hB hF hd
          rw [if_pos (wanted_none rfl)]
          exact flow_move _ (.inl rfl) (by simp) (hF.same 6 rfl)
        · intro a w2 hB hF hd
          rw [if_pos (wanted_none rfl)]
          refine flow_val (fun h => by cases h) (Go.Bas.run_eql_int rfl (hd 0 _ rfl (waits_spec rfl)) rfl) ?_
          exact rfl
        · intro a w2 hB hF hd
          rw [if_pos (wanted_none rfl)]
          exact flow_move _ (.inl rfl) (by simp) (hd 1 _ rfl (waits_spec rfl))
        · intro a w2 hB hF hd
          refine flow_wanted (wanted_yes rfl rfl (hd 2 _ rfl (waits_spec rfl)) rfl) ?_
          exact flow_move _ (.inl rfl) (by simp) (hF.same 5 rfl)
        · intro a w2 hB hF hd
          refine flow_wanted (wanted_yes rfl rfl (hd 2 _ rfl (waits_spec rfl)) rfl) ?_
          exact flow_move _ (.inl rfl) (by simp) (hF.same 0 rfl)
        · intro a w2 hB hF hd
          refine flow_wanted (wanted_yes rfl rfl (hd 2 _ rfl (waits_spec rfl)) rfl) ?_
          exact flow_move _ (.inl rfl) (by simp) (hF.same 1 rfl)
        · intro a w2 hB hF hd
          refine flow_wanted (wanted_yes rfl rfl (hd 2 _ rfl (waits_spec rfl)) rfl) ?_
          refine flow_call _ _ _ rfl Try.call22 _ (args2 (hd 4 _ rfl (waits_spec rfl)) (hd 5 _ rfl (waits_spec rfl))) (by simp) ((CON.out _).mono ?_)
          rintro e w3 ⟨rfl, hb⟩; exact ⟨_, rfl, rfl, hb⟩
        · intro a w2 hB hF hd
          refine flow_wanted (wanted_yes rfl rfl (hd 2 _ rfl (waits_spec rfl)) rfl) ?_
          refine flow_val (fun h => by cases h) (Go.Bas.run_eql_int rfl (hd 3 _ rfl (waits_spec rfl)) (hd 6 _ rfl (waits_spec rfl))) ?_
          exact congrArg Value.bool (beq_self_eq_true _)
        · intro a w2 hB hF hd
          rw [if_pos (wanted_none rfl)]
          exact flow_val (fun h => by cases h) (run_pick rfl (hd 2 _ rfl (waits_spec rfl))) ((hd 7 _ rfl (waits_spec rfl)))
        · intro a w2 hB hF hd
          rw [if_pos (wanted_none rfl)]
          exact flow_move _ (.inr rfl) (by simp) (hd 8 _ rfl (waits_spec rfl))
      · intro a w4 hB hF hS
        have ha := puts_each rfl rfl hF [_, _, _, _, _, _, _, _, _, _] rfl ⟨hS 0 _ rfl, hS 1 _ rfl, hS 2 _ rfl, hS 3 _ rfl, hS 4 _ rfl, hS 5 _ rfl, hS 6 _ rfl, hS 7 _ rfl, hS 8 _ rfl, hS 9 _ rfl, trivial⟩
        simp only [puts, Act.put, List.setIfInBounds_toArray, List.set_cons_succ, List.set_cons_zero] at ha
        subst ha
        clear hS hF
        have hb4 := hb3.trans (hB.mono hb3.size)
        clear hB hb3
        go_wp2
        go_ret
        exact ⟨rfl, hb4⟩

theorem shaRoots_law (w : World) (p : Int) (_ : (Lit.int .i64 p).wf = true) (k : Int) (_ : (Lit.int .i64 k).wf = true) :
    Calls Try.prog 5 #[.int .i64 p, .int .i64 k] w fun e w' => e = .returned (.bool true) ∧ Below w.heap.size w w' := by
  by_cases hok : (k = 2 ∨ k = 3) ∧ 2 ≤ p ∧ p ≤ 500
  · exact shaRoots_yes w p k hok.1 hok.2.1 hok.2.2
  · exact shaRoots_no w p k (by omega)
end Go.Proofs.Ytgobodhcamgidaa
