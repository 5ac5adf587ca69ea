/-
  derive.Back and derive.Chain at numbers of steps that there aren't: what each answers. Conditions: named in each theorem.
-/
import Derived.Test.YtgobodhcamgidaaDrB
set_option linter.unusedVariables false
set_option linter.unusedSimpArgs false
namespace Go.Proofs.Ytgobodhcamgidaa
open Go.RowKit Go.Bas Go.ChangeShapes
attribute [local go_sem ↓] Go.wp_at_zero Go.wp_at_succ

set_option maxRecDepth 100000 in
set_option maxHeartbeats 3200000 in
theorem dBack_no (f : Nat → Int) (n : Int) (hn : n < 0 ∨ 4096 < n) (w : World) :
    Calls Try.prog 35 #[.agg (arr .u8 32 f), .int .i64 n] w fun e w' => e = .returned (.tuple #[.agg (arr .u8 32 (fun _ => 0)), .int .i64 2]) ∧ Below w.heap.size w w' := by
  have HK32 := Lib.hid (fun (a : Act) w => build_k32 (a := a) w)
  rcases (by omega : n < 0 ∨ (0 ≤ n ∧ 4096 < n)) with h | h
  case inl =>
    go_enter Try.func35, Try.ntmps35
    go_upto_region 1 with (fail)
    refine wp_world (fun w1 => Arr .u8 w1 (w.heap.size + 1) 32 (fun _ => 0) ∧ Below w.heap.size w w1) ⟨Arr.newAt (by simp) (by rfl), ((Below.refl _ _).alloc (Nat.le_refl _) _).alloc (by simp) _⟩ ?_
    rintro w1 ⟨hZ, hb1⟩
    refine region_flow (n := 20) (by kernel_rfl) (by kernel_rfl) (by kernel_rfl) rfl
      (fun ii vv _ => (match ii with | 0 => vv = .int .i64 (n) | 1 | 2 | 5 => vv = .bool true | 3 | 4 => vv = undef | _ => True))
      (fun w w' => Below w.heap.size w w') (fun _ _ h => h) (fun _ _ _ _ h _ => h) ?_ ?_
    · refine Each.all ?_
      refine ⟨?_, ?_, ?_, ?_, ?_, ?_, trivial⟩
      · intro a w2 hB hF hd
        rw [if_pos (wanted_none rfl)]
        exact flow_move _ (.inl rfl) (by simp) (hF.same 1 rfl)
      · intro a w2 hB hF hd
        rw [if_pos (wanted_none rfl)]
        exact flow_val (fun h => by cases h) (Go.Bas.run_lss rfl (hd 0 _ rfl (waits_spec rfl)) rfl) (congrArg Value.bool (decide_eq_true (by omega)))
      · intro a w2 hB hF hd
        rw [if_pos (wanted_none rfl)]
        exact flow_move _ (.inl rfl) (by simp) (hd 1 _ rfl (waits_spec rfl))
      · intro a w2 hB hF hd
        rw [if_neg (by rw [wanted_some rfl rfl (hd 2 _ rfl (waits_spec rfl))]; decide)]
        exact rfl
      · intro a w2 hB hF hd
        rw [if_neg (by rw [wanted_some rfl rfl (hd 2 _ rfl (waits_spec rfl))]; decide)]
        exact rfl
      · intro a w2 hB hF hd
        rw [if_pos (wanted_none rfl)]
        exact flow_val (fun h => by cases h) (run_pick rfl (hd 2 _ rfl (waits_spec rfl))) (rfl)
    · intro a w2 hB hF hS
      have ha := puts_each rfl rfl hF [_, _, _, _, _, _] rfl ⟨hS 0 _ rfl, hS 1 _ rfl, hS 2 _ rfl, hS 3 _ rfl, hS 4 _ rfl, hS 5 _ rfl, trivial⟩
      simp only [puts, Act.put, List.setIfInBounds_toArray, List.set_cons_succ, List.set_cons_zero] at ha
      subst ha
      clear hS hF
      have hb2 := hb1.trans (hB.mono hb1.size)
      have hZ2 := hZ.kept hB
      clear hZ hb1 hB
      go_wp2_with (first
        | (refine step_val rfl (run_built rfl (HK32.out _ _)) ?_)
        | (refine store_arr rfl 26 _ _ rfl .u8 (w.heap.size + 1) 32 (fun _ => 0) (fun _ => 0) Try.size26 rfl rfl hZ2 ?_))
      exact bodyPost_ret (results_arr2 rfl _ _ .u8 (w.heap.size + 1) 32 _ 5 rfl (hZ2.setRow 32 (fun _ => 0)) Try.underlying26 Try.size26) rfl ⟨rfl, below_setRow' hb2 (by omega) _⟩
  case inr =>
    go_enter Try.func35, Try.ntmps35
    go_upto_region 1 with (fail)
    refine wp_world (fun w1 => Arr .u8 w1 (w.heap.size + 1) 32 (fun _ => 0) ∧ Below w.heap.size w w1) ⟨Arr.newAt (by simp) (by rfl), ((Below.refl _ _).alloc (Nat.le_refl _) _).alloc (by simp) _⟩ ?_
    rintro w1 ⟨hZ, hb1⟩
    refine region_flow (n := 20) (by kernel_rfl) (by kernel_rfl) (by kernel_rfl) rfl
      (fun ii vv _ => (match ii with | 0 | 3 => vv = .int .i64 (n) | 1 | 2 => vv = .bool false | 4 | 5 => vv = .bool true | _ => True))
      (fun w w' => Below w.heap.size w w') (fun _ _ h => h) (fun _ _ _ _ h _ => h) ?_ ?_
    · refine Each.all ?_
      refine ⟨?_, ?_, ?_, ?_, ?_, ?_, trivial⟩
      · intro a w2 hB hF hd
        rw [if_pos (wanted_none rfl)]
        exact flow_move _ (.inl rfl) (by simp) (hF.same 1 rfl)
      · intro a w2 hB hF hd
        rw [if_pos (wanted_none rfl)]
        exact flow_val (fun h => by cases h) (Go.Bas.run_lss rfl (hd 0 _ rfl (waits_spec rfl)) rfl) (congrArg Value.bool (decide_eq_false (by omega)))
      · intro a w2 hB hF hd
        rw [if_pos (wanted_none rfl)]
        exact flow_move _ (.inl rfl) (by simp) (hd 1 _ rfl (waits_spec rfl))
      · intro a w2 hB hF hd
        refine flow_wanted (wanted_yes rfl rfl (hd 2 _ rfl (waits_spec rfl)) rfl) ?_
        exact flow_move _ (.inl rfl) (by simp) (hF.same 1 rfl)
      · intro a w2 hB hF hd
        refine flow_wanted (wanted_yes rfl rfl (hd 2 _ rfl (waits_spec rfl)) rfl) ?_
        exact flow_val (fun h => by cases h) (Go.Bas.run_gtr rfl (hd 3 _ rfl (waits_spec rfl)) rfl) (congrArg Value.bool (decide_eq_true (by omega)))
      · intro a w2 hB hF hd
        rw [if_pos (wanted_none rfl)]
        exact flow_val (fun h => by cases h) (run_pick rfl (hd 2 _ rfl (waits_spec rfl))) ((hd 4 _ rfl (waits_spec rfl)))
    · intro a w2 hB hF hS
      have ha := puts_each rfl rfl hF [_, _, _, _, _, _] rfl ⟨hS 0 _ rfl, hS 1 _ rfl, hS 2 _ rfl, hS 3 _ rfl, hS 4 _ rfl, hS 5 _ rfl, trivial⟩
      simp only [puts, Act.put, List.setIfInBounds_toArray, List.set_cons_succ, List.set_cons_zero] at ha
      subst ha
      clear hS hF
      have hb2 := hb1.trans (hB.mono hb1.size)
      have hZ2 := hZ.kept hB
      clear hZ hb1 hB
      go_wp2_with (first
        | (refine step_val rfl (run_built rfl (HK32.out _ _)) ?_)
        | (refine store_arr rfl 26 _ _ rfl .u8 (w.heap.size + 1) 32 (fun _ => 0) (fun _ => 0) Try.size26 rfl rfl hZ2 ?_))
      exact bodyPost_ret (results_arr2 rfl _ _ .u8 (w.heap.size + 1) 32 _ 5 rfl (hZ2.setRow 32 (fun _ => 0)) Try.underlying26 Try.size26) rfl ⟨rfl, below_setRow' hb2 (by omega) _⟩

set_option maxRecDepth 100000 in
set_option maxHeartbeats 3200000 in
theorem dChain_no (f : Nat → Int) (n : Int) (hn : n < 1 ∨ 4096 < n) (w : World) :
    Calls Try.prog 36 #[.agg (arr .u8 32 f), .int .i64 n] w fun e w' => e = .returned (.tuple #[.slice none 0 0, .int .i64 2]) ∧ Below w.heap.size w w' := by
  rcases (by omega : n < 1 ∨ (1 ≤ n ∧ 4096 < n)) with h | h
  case inl =>
    go_enter Try.func36, Try.ntmps36
    go_upto_region 1 with (fail)
    refine wp_world (fun w1 => Below w.heap.size w w1) ((Below.refl _ _).alloc (Nat.le_refl _) _) ?_
    intro w1 hb1
    refine region_flow (n := 29) (by kernel_rfl) (by kernel_rfl) (by kernel_rfl) rfl
      (fun ii vv _ => (match ii with | 0 => vv = .int .i64 (n) | 1 | 2 | 5 => vv = .bool true | 3 | 4 => vv = undef | _ => True))
      (fun w w' => Below w.heap.size w w') (fun _ _ h => h) (fun _ _ _ _ h _ => h) ?_ ?_
    · refine Each.all ?_
      refine ⟨?_, ?_, ?_, ?_, ?_, ?_, trivial⟩
      · intro a w2 hB hF hd
        rw [if_pos (wanted_none rfl)]
        exact flow_move _ (.inl rfl) (by simp) (hF.same 1 rfl)
      · intro a w2 hB hF hd
        rw [if_pos (wanted_none rfl)]
        exact flow_val (fun h => by cases h) (Go.Bas.run_lss rfl (hd 0 _ rfl (waits_spec rfl)) rfl) (congrArg Value.bool (decide_eq_true (by omega)))
      · intro a w2 hB hF hd
        rw [if_pos (wanted_none rfl)]
        exact flow_move _ (.inl rfl) (by simp) (hd 1 _ rfl (waits_spec rfl))
      · intro a w2 hB hF hd
        rw [if_neg (by rw [wanted_some rfl rfl (hd 2 _ rfl (waits_spec rfl))]; decide)]
        exact rfl
      · intro a w2 hB hF hd
        rw [if_neg (by rw [wanted_some rfl rfl (hd 2 _ rfl (waits_spec rfl))]; decide)]
        exact rfl
      · intro a w2 hB hF hd
        rw [if_pos (wanted_none rfl)]
        exact flow_val (fun h => by cases h) (run_pick rfl (hd 2 _ rfl (waits_spec rfl))) (rfl)
    · intro a w2 hB hF hS
      have ha := puts_each rfl rfl hF [_, _, _, _, _, _] rfl ⟨hS 0 _ rfl, hS 1 _ rfl, hS 2 _ rfl, hS 3 _ rfl, hS 4 _ rfl, hS 5 _ rfl, trivial⟩
      simp only [puts, Act.put, List.setIfInBounds_toArray, List.set_cons_succ, List.set_cons_zero] at ha
      subst ha
      clear hS hF
      have hb2 := hb1.trans (hB.mono hb1.size)
      clear hb1 hB
      go_wp2
      go_ret2
      exact ⟨rfl, hb2⟩
  case inr =>
    go_enter Try.func36, Try.ntmps36
    go_upto_region 1 with (fail)
    refine wp_world (fun w1 => Below w.heap.size w w1) ((Below.refl _ _).alloc (Nat.le_refl _) _) ?_
    intro w1 hb1
    refine region_flow (n := 29) (by kernel_rfl) (by kernel_rfl) (by kernel_rfl) rfl
      (fun ii vv _ => (match ii with | 0 | 3 => vv = .int .i64 (n) | 1 | 2 => vv = .bool false | 4 | 5 => vv = .bool true | _ => True))
      (fun w w' => Below w.heap.size w w') (fun _ _ h => h) (fun _ _ _ _ h _ => h) ?_ ?_
    · refine Each.all ?_
      refine ⟨?_, ?_, ?_, ?_, ?_, ?_, trivial⟩
      · intro a w2 hB hF hd
        rw [if_pos (wanted_none rfl)]
        exact flow_move _ (.inl rfl) (by simp) (hF.same 1 rfl)
      · intro a w2 hB hF hd
        rw [if_pos (wanted_none rfl)]
        exact flow_val (fun h => by cases h) (Go.Bas.run_lss rfl (hd 0 _ rfl (waits_spec rfl)) rfl) (congrArg Value.bool (decide_eq_false (by omega)))
      · intro a w2 hB hF hd
        rw [if_pos (wanted_none rfl)]
        exact flow_move _ (.inl rfl) (by simp) (hd 1 _ rfl (waits_spec rfl))
      · intro a w2 hB hF hd
        refine flow_wanted (wanted_yes rfl rfl (hd 2 _ rfl (waits_spec rfl)) rfl) ?_
        exact flow_move _ (.inl rfl) (by simp) (hF.same 1 rfl)
      · intro a w2 hB hF hd
        refine flow_wanted (wanted_yes rfl rfl (hd 2 _ rfl (waits_spec rfl)) rfl) ?_
        exact flow_val (fun h => by cases h) (Go.Bas.run_gtr rfl (hd 3 _ rfl (waits_spec rfl)) rfl) (congrArg Value.bool (decide_eq_true (by omega)))
      · intro a w2 hB hF hd
        rw [if_pos (wanted_none rfl)]
        exact flow_val (fun h => by cases h) (run_pick rfl (hd 2 _ rfl (waits_spec rfl))) ((hd 4 _ rfl (waits_spec rfl)))
    · intro a w2 hB hF hS
      have ha := puts_each rfl rfl hF [_, _, _, _, _, _] rfl ⟨hS 0 _ rfl, hS 1 _ rfl, hS 2 _ rfl, hS 3 _ rfl, hS 4 _ rfl, hS 5 _ rfl, trivial⟩
      simp only [puts, Act.put, List.setIfInBounds_toArray, List.set_cons_succ, List.set_cons_zero] at ha
      subst ha
      clear hS hF
      have hb2 := hb1.trans (hB.mono hb1.size)
      clear hb1 hB
      go_wp2
      go_ret2
      exact ⟨rfl, hb2⟩
end Go.Proofs.Ytgobodhcamgidaa
