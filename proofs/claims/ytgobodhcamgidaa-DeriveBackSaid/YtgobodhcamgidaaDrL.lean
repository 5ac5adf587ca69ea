/-
  The law DeriveBack answers true: its walk. Conditions: named in each theorem.
-/
import Derived.Test.YtgobodhcamgidaaDrE
import Derived.OpenShut
set_option linter.unusedVariables false
set_option linter.unusedSimpArgs false
namespace Go.Bas
open Go.RowKit
theorem chn_part {w : World} {G n : Nat} {S : Nat → Nat → Int} (h : Arr .u8 w G (n * 32) (chnF n S n)) {i r : Nat} (hi : i + r + 1 = n) : ∀ c, c < 32 → w.cell? ⟨G, i * 32 + c, none⟩ = some (.int .u8 (S r c)) := by
  intro c hc
  rw [h.cell _ (by omega)]
  unfold chnF
  rw [if_pos (by omega), show n - 1 - (i * 32 + c) / 32 = r by omega, show (i * 32 + c) % 32 = c by omega]
end Go.Bas
namespace Go.Proofs.Ytgobodhcamgidaa
open Go.RowKit Go.Bas Go.ChangeShapes
attribute [local go_sem ↓] Go.wp_at_zero Go.wp_at_succ

set_option maxRecDepth 100000 in
set_option maxHeartbeats 6400000 in
theorem drBack_big (f : Nat → Int) (n k : Int) (h : 40 < n ∧ n ≤ 4096 ∨ 40 < k ∧ k ≤ 4096) (w : World) :
    Calls Try.prog 9 #[.agg (arr .u8 32 f), .int .i64 n, .int .i64 k] w fun e w' => e = .returned (.bool true) ∧ Below w.heap.size w w' := by
  go_enter Try.func9, Try.ntmps9
  go_upto_region 1 with (fail)
  refine wp_world (fun w1 => Below w.heap.size w w1) ((Below.refl _ _).alloc (Nat.le_refl _) _) ?_
  intro w1 hb1
  go_wp2_with fail
  refine (drAwake_any _).mono ?_
  rintro e w2 ⟨rfl, hb2⟩
  have hb3 := hb1.trans (hb2.mono hb1.size)
  clear hb1 hb2
  rcases (by omega : (40 < n ∧ n ≤ 4096) ∨ (n ≤ 40 ∧ 40 < k ∧ k ≤ 4096) ∨ (40 < n ∧ 4096 < n ∧ 40 < k ∧ k ≤ 4096)) with h | h | h
  case inl =>
    go_upto_region 3 with (fail)
    refine region_flow (n := 172) (by kernel_rfl) (by kernel_rfl) (by kernel_rfl) rfl
      (fun ii vv _ => (match ii with | 0 | 3 => vv = .int .i64 (n) | 1 | 2 | 4 | 5 | 6 | 13 => vv = .bool true | 7 | 8 | 9 | 10 | 11 | 12 => vv = undef | _ => True))
      (fun w w' => Below w.heap.size w w') (fun _ _ h => h) (fun _ _ _ _ h _ => h) ?_ ?_
    · refine Each.all ?_
      refine ⟨?_, ?_, ?_, ?_, ?_, ?_, ?_, ?_, ?_, ?_, ?_, ?_, ?_, ?_, trivial⟩
      · intro a w2 hB hF hd
        rw [if_pos (wanted_none rfl)]
        exact flow_move _ (.inl rfl) (by simp) (hF.same 1 rfl)
      · intro a w2 hB hF hd
        rw [if_pos (wanted_none rfl)]
        exact flow_val (fun h => by cases h) (Go.Bas.run_gtr rfl (hd 0 _ rfl (waits_spec rfl)) rfl) (congrArg Value.bool (decide_eq_true (by omega)))
      · intro a w2 hB hF hd
        rw [if_pos (wanted_none rfl)]
        exact flow_move _ (.inl rfl) (by simp) (hd 1 _ rfl (waits_spec rfl))
      · intro a w2 hB hF hd
        refine flow_wanted (wanted_yes rfl rfl (hd 2 _ rfl (waits_spec rfl)) rfl) ?_
        exact flow_move _ (.inl rfl) (by simp) (hF.same 1 rfl)
      · intro a w2 hB hF hd
        refine flow_wanted (wanted_yes rfl rfl (hd 2 _ rfl (waits_spec rfl)) rfl) ?_
        exact flow_val (fun h => by cases h) (Go.Bas.run_leq rfl (hd 3 _ rfl (waits_spec rfl)) rfl) (congrArg Value.bool (decide_eq_true (by omega)))
      · intro a w2 hB hF hd
        rw [if_pos (wanted_none rfl)]
        exact flow_val (fun h => by cases h) (run_pick rfl (hd 2 _ rfl (waits_spec rfl))) ((hd 4 _ rfl (waits_spec rfl)))
      · intro a w2 hB hF hd
        rw [if_pos (wanted_none rfl)]
        exact flow_move _ (.inl rfl) (by simp) (hd 5 _ rfl (waits_spec rfl))
      · intro a w2 hB hF hd
        rw [if_neg (by rw [wanted_some rfl rfl (hd 6 _ rfl (waits_spec rfl))]; decide)]
        exact rfl
      · intro a w2 hB hF hd
        rw [if_neg (by rw [wanted_some rfl rfl (hd 6 _ rfl (waits_spec rfl))]; decide)]
        exact rfl
      · intro a w2 hB hF hd
        rw [if_neg (by rw [wanted_some rfl rfl (hd 6 _ rfl (waits_spec rfl))]; decide)]
        exact rfl
      · intro a w2 hB hF hd
        rw [if_neg (by rw [wanted_undef rfl rfl (hd 9 _ rfl (waits_spec rfl))]; decide)]
        exact rfl
      · intro a w2 hB hF hd
        rw [if_neg (by rw [wanted_undef rfl rfl (hd 9 _ rfl (waits_spec rfl))]; decide)]
        exact rfl
      · intro a w2 hB hF hd
        rw [if_neg (by rw [wanted_some rfl rfl (hd 6 _ rfl (waits_spec rfl))]; decide)]
        exact rfl
      · intro a w2 hB hF hd
        rw [if_pos (wanted_none rfl)]
        exact flow_val (fun h => by cases h) (run_pick rfl (hd 6 _ rfl (waits_spec rfl))) (rfl)
    · intro a w3 hB hF hS
      have ha := puts_each rfl rfl hF [_, _, _, _, _, _, _, _, _, _, _, _, _, _] rfl ⟨hS 0 _ rfl, hS 1 _ rfl, hS 2 _ rfl, hS 3 _ rfl, hS 4 _ rfl, hS 5 _ rfl, hS 6 _ rfl, hS 7 _ rfl, hS 8 _ rfl, hS 9 _ rfl, hS 10 _ rfl, hS 11 _ rfl, hS 12 _ rfl, hS 13 _ rfl, trivial⟩
      simp only [puts, Act.put, List.setIfInBounds_toArray, List.set_cons_succ, List.set_cons_zero] at ha
      subst ha
      clear hS hF
      have hb4 := hb3.trans (hB.mono hb3.size)
      clear hB
      go_wp2
      go_ret
      exact ⟨rfl, hb4⟩
  case inr.inl =>
    go_upto_region 3 with (fail)
    refine region_flow (n := 172) (by kernel_rfl) (by kernel_rfl) (by kernel_rfl) rfl
      (fun ii vv _ => (match ii with | 0 => vv = .int .i64 (n) | 1 | 2 | 5 | 6 => vv = .bool false | 3 | 4 => vv = undef | 7 | 10 => vv = .int .i64 (k) | 8 | 9 | 11 | 12 | 13 => vv = .bool true | _ => True))
      (fun w w' => Below w.heap.size w w') (fun _ _ h => h) (fun _ _ _ _ h _ => h) ?_ ?_
    · refine Each.all ?_
      refine ⟨?_, ?_, ?_, ?_, ?_, ?_, ?_, ?_, ?_, ?_, ?_, ?_, ?_, ?_, trivial⟩
      · intro a w2 hB hF hd
        rw [if_pos (wanted_none rfl)]
        exact flow_move _ (.inl rfl) (by simp) (hF.same 1 rfl)
      · intro a w2 hB hF hd
        rw [if_pos (wanted_none rfl)]
        exact flow_val (fun h => by cases h) (Go.Bas.run_gtr rfl (hd 0 _ rfl (waits_spec rfl)) rfl) (congrArg Value.bool (decide_eq_false (by omega)))
      · intro a w2 hB hF hd
        rw [if_pos (wanted_none rfl)]
        exact flow_move _ (.inl rfl) (by simp) (hd 1 _ rfl (waits_spec rfl))
      · intro a w2 hB hF hd
        rw [if_neg (by rw [wanted_some rfl rfl (hd 2 _ rfl (waits_spec rfl))]; decide)]
        exact rfl
      · intro a w2 hB hF hd
        rw [if_neg (by rw [wanted_some rfl rfl (hd 2 _ rfl (waits_spec rfl))]; decide)]
        exact rfl
      · intro a w2 hB hF hd
        rw [if_pos (wanted_none rfl)]
        exact flow_val (fun h => by cases h) (run_pick rfl (hd 2 _ rfl (waits_spec rfl))) (rfl)
      · intro a w2 hB hF hd
        rw [if_pos (wanted_none rfl)]
        exact flow_move _ (.inl rfl) (by simp) (hd 5 _ rfl (waits_spec rfl))
      · intro a w2 hB hF hd
        refine flow_wanted (wanted_yes rfl rfl (hd 6 _ rfl (waits_spec rfl)) rfl) ?_
        exact flow_move _ (.inl rfl) (by simp) (hF.same 2 rfl)
      · intro a w2 hB hF hd
        refine flow_wanted (wanted_yes rfl rfl (hd 6 _ rfl (waits_spec rfl)) rfl) ?_
        exact flow_val (fun h => by cases h) (Go.Bas.run_gtr rfl (hd 7 _ rfl (waits_spec rfl)) rfl) (congrArg Value.bool (decide_eq_true (by omega)))
      · intro a w2 hB hF hd
        refine flow_wanted (wanted_yes rfl rfl (hd 6 _ rfl (waits_spec rfl)) rfl) ?_
        exact flow_move _ (.inl rfl) (by simp) (hd 8 _ rfl (waits_spec rfl))
      · intro a w2 hB hF hd
        refine flow_wanted (wanted_yes rfl rfl (hd 9 _ rfl (waits_spec rfl)) rfl) ?_
        exact flow_move _ (.inl rfl) (by simp) (hF.same 2 rfl)
      · intro a w2 hB hF hd
        refine flow_wanted (wanted_yes rfl rfl (hd 9 _ rfl (waits_spec rfl)) rfl) ?_
        exact flow_val (fun h => by cases h) (Go.Bas.run_leq rfl (hd 10 _ rfl (waits_spec rfl)) rfl) (congrArg Value.bool (decide_eq_true (by omega)))
      · intro a w2 hB hF hd
        refine flow_wanted (wanted_yes rfl rfl (hd 6 _ rfl (waits_spec rfl)) rfl) ?_
        exact flow_val (fun h => by cases h) (run_pick rfl (hd 9 _ rfl (waits_spec rfl))) ((hd 11 _ rfl (waits_spec rfl)))
      · intro a w2 hB hF hd
        rw [if_pos (wanted_none rfl)]
        exact flow_val (fun h => by cases h) (run_pick rfl (hd 6 _ rfl (waits_spec rfl))) ((hd 12 _ rfl (waits_spec rfl)))
    · intro a w3 hB hF hS
      have ha := puts_each rfl rfl hF [_, _, _, _, _, _, _, _, _, _, _, _, _, _] rfl ⟨hS 0 _ rfl, hS 1 _ rfl, hS 2 _ rfl, hS 3 _ rfl, hS 4 _ rfl, hS 5 _ rfl, hS 6 _ rfl, hS 7 _ rfl, hS 8 _ rfl, hS 9 _ rfl, hS 10 _ rfl, hS 11 _ rfl, hS 12 _ rfl, hS 13 _ rfl, trivial⟩
      simp only [puts, Act.put, List.setIfInBounds_toArray, List.set_cons_succ, List.set_cons_zero] at ha
      subst ha
      clear hS hF
      have hb4 := hb3.trans (hB.mono hb3.size)
      clear hB
      go_wp2
      go_ret
      exact ⟨rfl, hb4⟩
  case inr.inr =>
    go_upto_region 3 with (fail)
    refine region_flow (n := 172) (by kernel_rfl) (by kernel_rfl) (by kernel_rfl) rfl
      (fun ii vv _ => (match ii with | 0 | 3 => vv = .int .i64 (n) | 1 | 2 | 8 | 9 | 11 | 12 | 13 => vv = .bool true | 4 | 5 | 6 => vv = .bool false | 7 | 10 => vv = .int .i64 (k) | _ => True))
      (fun w w' => Below w.heap.size w w') (fun _ _ h => h) (fun _ _ _ _ h _ => h) ?_ ?_
    · refine Each.all ?_
      refine ⟨?_, ?_, ?_, ?_, ?_, ?_, ?_, ?_, ?_, ?_, ?_, ?_, ?_, ?_, trivial⟩
      · intro a w2 hB hF hd
        rw [if_pos (wanted_none rfl)]
        exact flow_move _ (.inl rfl) (by simp) (hF.same 1 rfl)
      · intro a w2 hB hF hd
        rw [if_pos (wanted_none rfl)]
        exact flow_val (fun h => by cases h) (Go.Bas.run_gtr rfl (hd 0 _ rfl (waits_spec rfl)) rfl) (congrArg Value.bool (decide_eq_true (by omega)))
      · intro a w2 hB hF hd
        rw [if_pos (wanted_none rfl)]
        exact flow_move _ (.inl rfl) (by simp) (hd 1 _ rfl (waits_spec rfl))
      · intro a w2 hB hF hd
        refine flow_wanted (wanted_yes rfl rfl (hd 2 _ rfl (waits_spec rfl)) rfl) ?_
        exact flow_move _ (.inl rfl) (by simp) (hF.same 1 rfl)
      · intro a w2 hB hF hd
        refine flow_wanted (wanted_yes rfl rfl (hd 2 _ rfl (waits_spec rfl)) rfl) ?_
        exact flow_val (fun h => by cases h) (Go.Bas.run_leq rfl (hd 3 _ rfl (waits_spec rfl)) rfl) (congrArg Value.bool (decide_eq_false (by omega)))
      · intro a w2 hB hF hd
        rw [if_pos (wanted_none rfl)]
        exact flow_val (fun h => by cases h) (run_pick rfl (hd 2 _ rfl (waits_spec rfl))) ((hd 4 _ rfl (waits_spec rfl)))
      · intro a w2 hB hF hd
        rw [if_pos (wanted_none rfl)]
        exact flow_move _ (.inl rfl) (by simp) (hd 5 _ rfl (waits_spec rfl))
      · intro a w2 hB hF hd
        refine flow_wanted (wanted_yes rfl rfl (hd 6 _ rfl (waits_spec rfl)) rfl) ?_
        exact flow_move _ (.inl rfl) (by simp) (hF.same 2 rfl)
      · intro a w2 hB hF hd
        refine flow_wanted (wanted_yes rfl rfl (hd 6 _ rfl (waits_spec rfl)) rfl) ?_
        exact flow_val (fun h => by cases h) (Go.Bas.run_gtr rfl (hd 7 _ rfl (waits_spec rfl)) rfl) (congrArg Value.bool (decide_eq_true (by omega)))
      · intro a w2 hB hF hd
        refine flow_wanted (wanted_yes rfl rfl (hd 6 _ rfl (waits_spec rfl)) rfl) ?_
        exact flow_move _ (.inl rfl) (by simp) (hd 8 _ rfl (waits_spec rfl))
      · intro a w2 hB hF hd
        refine flow_wanted (wanted_yes rfl rfl (hd 9 _ rfl (waits_spec rfl)) rfl) ?_
        exact flow_move _ (.inl rfl) (by simp) (hF.same 2 rfl)
      · intro a w2 hB hF hd
        refine flow_wanted (wanted_yes rfl rfl (hd 9 _ rfl (waits_spec rfl)) rfl) ?_
        exact flow_val (fun h => by cases h) (Go.Bas.run_leq rfl (hd 10 _ rfl (waits_spec rfl)) rfl) (congrArg Value.bool (decide_eq_true (by omega)))
      · intro a w2 hB hF hd
        refine flow_wanted (wanted_yes rfl rfl (hd 6 _ rfl (waits_spec rfl)) rfl) ?_
        exact flow_val (fun h => by cases h) (run_pick rfl (hd 9 _ rfl (waits_spec rfl))) ((hd 11 _ rfl (waits_spec rfl)))
      · intro a w2 hB hF hd
        rw [if_pos (wanted_none rfl)]
        exact flow_val (fun h => by cases h) (run_pick rfl (hd 6 _ rfl (waits_spec rfl))) ((hd 12 _ rfl (waits_spec rfl)))
    · intro a w3 hB hF hS
      have ha := puts_each rfl rfl hF [_, _, _, _, _, _, _, _, _, _, _, _, _, _] rfl ⟨hS 0 _ rfl, hS 1 _ rfl, hS 2 _ rfl, hS 3 _ rfl, hS 4 _ rfl, hS 5 _ rfl, hS 6 _ rfl, hS 7 _ rfl, hS 8 _ rfl, hS 9 _ rfl, hS 10 _ rfl, hS 11 _ rfl, hS 12 _ rfl, hS 13 _ rfl, trivial⟩
      simp only [puts, Act.put, List.setIfInBounds_toArray, List.set_cons_succ, List.set_cons_zero] at ha
      subst ha
      clear hS hF
      have hb4 := hb3.trans (hB.mono hb3.size)
      clear hB
      go_wp2
      go_ret
      exact ⟨rfl, hb4⟩

set_option maxRecDepth 100000 in
set_option maxHeartbeats 6400000 in
theorem drBack_no (f : Nat → Int) (n k : Int) (hn : n < 0 ∨ 4096 < n) (hk : k ≤ 40 ∨ 4096 < k) (w : World) :
    Calls Try.prog 9 #[.agg (arr .u8 32 f), .int .i64 n, .int .i64 k] w fun e w' => e = .returned (.bool true) ∧ Below w.heap.size w w' := by
  have HK32 := Lib.hid (fun (a : Act) w => build_k32 (a := a) w)
  have HBK := Lib.hid (fun w => dBack_no f n hn w)
  have HCH := Lib.hid (fun w => dChain_no f n (by omega) w)
  go_enter Try.func9, Try.ntmps9
  go_upto_region 1 with (fail)
  refine wp_world (fun w1 => Arr .u8 w1 w.heap.size 32 f ∧ Below w.heap.size w w1) ⟨Arr.newAt rfl rfl, (Below.refl _ _).alloc (Nat.le_refl _) _⟩ ?_
  rintro w1 ⟨hA, hb1⟩
  go_wp2_with fail
  refine (drAwake_any _).mono ?_
  rintro e w2 ⟨rfl, hb2⟩
  have hA2 := hA.kept hb2
  have hb3 := hb1.trans (hb2.mono hb1.size)
  clear hb1 hb2 hA
  rcases (by omega : (n < 0 ∧ k ≤ 40) ∨ (n < 0 ∧ 4096 < k) ∨ (4096 < n ∧ k ≤ 40) ∨ (4096 < n ∧ 4096 < k)) with h | h | h | h
  case inl =>
    go_upto_region 3 with (fail)
    refine region_flow (n := 172) (by kernel_rfl) (by kernel_rfl) (by kernel_rfl) rfl
      (fun ii vv _ => (match ii with | 0 => vv = .int .i64 (n) | 1 | 2 | 5 | 6 | 8 | 9 | 12 | 13 => vv = .bool false | 3 | 4 | 10 | 11 => vv = undef | 7 => vv = .int .i64 (k) | _ => True))
      (fun w w' => Below w.heap.size w w') (fun _ _ h => h) (fun _ _ _ _ h _ => h) ?_ ?_
    · refine Each.all ?_
      refine ⟨?_, ?_, ?_, ?_, ?_, ?_, ?_, ?_, ?_, ?_, ?_, ?_, ?_, ?_, trivial⟩
      · intro a w2 hB hF hd
        rw [if_pos (wanted_none rfl)]
        exact flow_move _ (.inl rfl) (by simp) (hF.same 1 rfl)
      · intro a w2 hB hF hd
        rw [if_pos (wanted_none rfl)]
        exact flow_val (fun h => by cases h) (Go.Bas.run_gtr rfl (hd 0 _ rfl (waits_spec rfl)) rfl) (congrArg Value.bool (decide_eq_false (by omega)))
      · intro a w2 hB hF hd
        rw [if_pos (wanted_none rfl)]
        exact flow_move _ (.inl rfl) (by simp) (hd 1 _ rfl (waits_spec rfl))
      · intro a w2 hB hF hd
        rw [if_neg (by rw [wanted_some rfl rfl (hd 2 _ rfl (waits_spec rfl))]; decide)]
        exact rfl
      · intro a w2 hB hF hd
        rw [if_neg (by rw [wanted_some rfl rfl (hd 2 _ rfl (waits_spec rfl))]; decide)]
        exact rfl
      · intro a w2 hB hF hd
        rw [if_pos (wanted_none rfl)]
        exact flow_val (fun h => by cases h) (run_pick rfl (hd 2 _ rfl (waits_spec rfl))) (rfl)
      · intro a w2 hB hF hd
        rw [if_pos (wanted_none rfl)]
        exact flow_move _ (.inl rfl) (by simp) (hd 5 _ rfl (waits_spec rfl))
      · intro a w2 hB hF hd
        refine flow_wanted (wanted_yes rfl rfl (hd 6 _ rfl (waits_spec rfl)) rfl) ?_
        exact flow_move _ (.inl rfl) (by simp) (hF.same 2 rfl)
      · intro a w2 hB hF hd
        refine flow_wanted (wanted_yes rfl rfl (hd 6 _ rfl (waits_spec rfl)) rfl) ?_
        exact flow_val (fun h => by cases h) (Go.Bas.run_gtr rfl (hd 7 _ rfl (waits_spec rfl)) rfl) (congrArg Value.bool (decide_eq_false (by omega)))
      · intro a w2 hB hF hd
        refine flow_wanted (wanted_yes rfl rfl (hd 6 _ rfl (waits_spec rfl)) rfl) ?_
        exact flow_move _ (.inl rfl) (by simp) (hd 8 _ rfl (waits_spec rfl))
      · intro a w2 hB hF hd
        rw [if_neg (by rw [wanted_some rfl rfl (hd 9 _ rfl (waits_spec rfl))]; decide)]
        exact rfl
      · intro a w2 hB hF hd
        rw [if_neg (by rw [wanted_some rfl rfl (hd 9 _ rfl (waits_spec rfl))]; decide)]
        exact rfl
      · intro a w2 hB hF hd
        refine flow_wanted (wanted_yes rfl rfl (hd 6 _ rfl (waits_spec rfl)) rfl) ?_
        exact flow_val (fun h => by cases h) (run_pick rfl (hd 9 _ rfl (waits_spec rfl))) (rfl)
      · intro a w2 hB hF hd
        rw [if_pos (wanted_none rfl)]
        exact flow_val (fun h => by cases h) (run_pick rfl (hd 6 _ rfl (waits_spec rfl))) ((hd 12 _ rfl (waits_spec rfl)))
    · intro a w3 hB hF hS
      have ha := puts_each rfl rfl hF [_, _, _, _, _, _, _, _, _, _, _, _, _, _] rfl ⟨hS 0 _ rfl, hS 1 _ rfl, hS 2 _ rfl, hS 3 _ rfl, hS 4 _ rfl, hS 5 _ rfl, hS 6 _ rfl, hS 7 _ rfl, hS 8 _ rfl, hS 9 _ rfl, hS 10 _ rfl, hS 11 _ rfl, hS 12 _ rfl, hS 13 _ rfl, trivial⟩
      simp only [puts, Act.put, List.setIfInBounds_toArray, List.set_cons_succ, List.set_cons_zero] at ha
      subst ha
      clear hS hF
      have hb4 := hb3.trans (hB.mono hb3.size)
      have hA3 := hA2.kept hB
      clear hB hb3 hA2
      go_wp2_with (refine load_arr rfl 26 _ rfl .u8 w.heap.size 32 f 5 Try.underlying26 Try.size26 rfl hA3 ?_)
      refine (HBK.out _).mono ?_
      rintro e w4 ⟨rfl, hb5⟩
      have hA4 := hA3.kept hb5
      have hb6 := hb4.trans (hb5.mono hb4.size)
      have hql := hA4.lt
      clear hA3 hb4 hb5
      go_upto_region 6 with (refine store_arr rfl 26 _ _ rfl .u8 w4.heap.size 32 (fun _ => 0) (fun _ => 0) Try.size26 rfl rfl (Arr.newAt rfl (by rfl)) ?_)
      refine wp_world (fun w5 => Arr .u8 w5 w4.heap.size 32 (fun _ => 0) ∧ Arr .u8 w5 w.heap.size 32 f ∧ Below w.heap.size w w5) ⟨(Arr.newAt rfl (by rfl) : Arr .u8 _ _ 32 (fun _ => 0)).setRow _ _, Arr.setRowOther (Arr.alloc hA4 _) _ (by omega) _, below_setRow' (hb6.alloc hb6.size _) hb6.size _⟩ ?_
      rintro w5 ⟨hZ5, hA5, hb7⟩
      obtain ⟨q, hq⟩ : ∃ q, q = w4.heap.size := ⟨_, rfl⟩
      rw [← hq] at hZ5 ⊢
      clear hq hA4 hb6 hql
      try simp only [Act.put, List.setIfInBounds_toArray, List.set_cons_succ, List.set_cons_zero]
      go_wp2_with (refine load_arr rfl 26 _ rfl .u8 w.heap.size 32 f 5 Try.underlying26 Try.size26 rfl hA5 ?_)
      refine (HCH.out _).mono ?_
      rintro e w6 ⟨rfl, hb8⟩
      have hZ6 := hZ5.kept hb8
      have hb9 := hb7.trans (hb8.mono hb7.size)
      clear hZ5 hA5 hb7 hb8
      go_upto_region 7 with (fail)
      refine region_flow (n := 172) (by kernel_rfl) (by kernel_rfl) (by kernel_rfl) rfl
        (fun ii vv _ => (match ii with | 0 => vv = .int .i64 (n) | 1 | 2 | 5 => vv = .bool true | 3 | 4 => vv = undef | _ => True))
        (fun w w' => Below w.heap.size w w') (fun _ _ h => h) (fun _ _ _ _ h _ => h) ?_ ?_
      · refine Each.all ?_
        refine ⟨?_, ?_, ?_, ?_, ?_, ?_, trivial⟩
        · intro a w2 hB hF hd
          rw [if_pos (wanted_none rfl)]
          exact flow_move _ (.inl rfl) (by simp) (hF.same 1 rfl)
        · intro a w2 hB hF hd
          rw [if_pos (wanted_none rfl)]
          exact flow_val (fun h => by cases h) (Go.Bas.run_lss rfl (hd 0 _ rfl (waits_spec rfl)) rfl) (congrArg Value.bool (decide_eq_true (by omega)))
        · intro a w2 hB hF hd
          rw [if_pos (wanted_none rfl)]
          exact flow_move _ (.inl rfl) (by simp) (hd 1 _ rfl (waits_spec rfl))
        · intro a w2 hB hF hd
          rw [if_neg (by rw [wanted_some rfl rfl (hd 2 _ rfl (waits_spec rfl))]; decide)]
          exact rfl
        · intro a w2 hB hF hd
          rw [if_neg (by rw [wanted_some rfl rfl (hd 2 _ rfl (waits_spec rfl))]; decide)]
          exact rfl
        · intro a w2 hB hF hd
          rw [if_pos (wanted_none rfl)]
          exact flow_val (fun h => by cases h) (run_pick rfl (hd 2 _ rfl (waits_spec rfl))) (rfl)
      · intro a w7 hB hF hS
        have ha := puts_each rfl rfl hF [_, _, _, _, _, _] rfl ⟨hS 0 _ rfl, hS 1 _ rfl, hS 2 _ rfl, hS 3 _ rfl, hS 4 _ rfl, hS 5 _ rfl, trivial⟩
        simp only [puts, Act.put, List.setIfInBounds_toArray, List.set_cons_succ, List.set_cons_zero] at ha
        subst ha
        clear hS hF
        have hba := hb9.trans (hB.mono hb9.size)
        have hZ7 := hZ6.kept hB
        clear hB hb9 hZ6
        go_upto_region 8 with (fail)
        refine region_flow (n := 172) (by kernel_rfl) (by kernel_rfl) (by kernel_rfl) rfl
          (fun ii vv _ => (match ii with | 0 | 3 => vv = .int .i64 (2) | 1 | 2 | 4 | 5 | 6 | 9 | 10 | 11 | 14 | 15 | 16 => vv = .bool true | 7 | 8 => vv = .agg (arr .u8 32 (fun _ => 0)) | 12 => vv = .slice none 0 0 | 13 => vv = .int .i64 (((0 : Nat) : Int)) | _ => True))
          (fun w w' => Below w.heap.size w w') (fun _ _ h => h) (fun _ _ _ _ h _ => h) ?_ ?_
        · refine Each.all ?_
          refine ⟨?_, ?_, ?_, ?_, ?_, ?_, ?_, ?_, ?_, ?_, ?_, ?_, ?_, ?_, ?_, ?_, ?_, trivial⟩
          · intro a w2 hB hF hd
            rw [if_pos (wanted_none rfl)]
            exact flow_move _ (.inl rfl) (by simp) (hF.same 8 rfl)
          · intro a w2 hB hF hd
            rw [if_pos (wanted_none rfl)]
            refine flow_val (fun h => by cases h) (Go.Bas.run_eql_int rfl (hd 0 _ rfl (waits_spec rfl)) rfl) ?_
            exact rfl
          · intro a w2 hB hF hd
            rw [if_pos (wanted_none rfl)]
            exact flow_move _ (.inl rfl) (by simp) (hd 1 _ rfl (waits_spec rfl))
          · intro a w2 hB hF hd
            refine flow_wanted (wanted_yes rfl rfl (hd 2 _ rfl (waits_spec rfl)) rfl) ?_
            exact flow_move _ (.inl rfl) (by simp) (hF.same 10 rfl)
          · intro a w2 hB hF hd
            refine flow_wanted (wanted_yes rfl rfl (hd 2 _ rfl (waits_spec rfl)) rfl) ?_
            refine flow_val (fun h => by cases h) (Go.Bas.run_eql_int rfl (hd 3 _ rfl (waits_spec rfl)) rfl) ?_
            exact rfl
          · intro a w2 hB hF hd
            rw [if_pos (wanted_none rfl)]
            exact flow_val (fun h => by cases h) (run_pick rfl (hd 2 _ rfl (waits_spec rfl))) ((hd 4 _ rfl (waits_spec rfl)))
          · intro a w2 hB hF hd
            rw [if_pos (wanted_none rfl)]
            exact flow_move _ (.inl rfl) (by simp) (hd 5 _ rfl (waits_spec rfl))
          · intro a w2 hB hF hd
            refine flow_wanted (wanted_yes rfl rfl (hd 6 _ rfl (waits_spec rfl)) rfl) ?_
            exact flow_val (fun h => by cases h) (run_load_str rfl Try.underlying26 rfl Try.size26 (hF.same 7 rfl) (hZ7.below hB hZ7.lt)) rfl
          · intro a w2 hB hF hd
            refine flow_wanted (wanted_yes rfl rfl (hd 6 _ rfl (waits_spec rfl)) rfl) ?_
            exact flow_val (fun h => by cases h) (run_built rfl (HK32.out _ _)) rfl
          · intro a w2 hB hF hd
            refine flow_wanted (wanted_yes rfl rfl (hd 6 _ rfl (waits_spec rfl)) rfl) ?_
            exact flow_val (fun h => by cases h) (run_eql_arr true rfl (hd 7 _ rfl (waits_spec rfl)) (hd 8 _ rfl (waits_spec rfl)) Try.underlying26 (by kernel_rfl) (by kernel_rfl) (by kernel_rfl) (by kernel_rfl) (by kernel_rfl) sameB_self) rfl
          · intro a w2 hB hF hd
            rw [if_pos (wanted_none rfl)]
            exact flow_val (fun h => by cases h) (run_pick rfl (hd 6 _ rfl (waits_spec rfl))) ((hd 9 _ rfl (waits_spec rfl)))
          · intro a w2 hB hF hd
            rw [if_pos (wanted_none rfl)]
            exact flow_move _ (.inl rfl) (by simp) (hd 10 _ rfl (waits_spec rfl))
          · intro a w2 hB hF hd
            refine flow_wanted (wanted_yes rfl rfl (hd 11 _ rfl (waits_spec rfl)) rfl) ?_
            exact flow_move _ (.inl rfl) (by simp) (hF.same 9 rfl)
          · intro a w2 hB hF hd
            refine flow_wanted (wanted_yes rfl rfl (hd 11 _ rfl (waits_spec rfl)) rfl) ?_
            exact flow_val (fun h => by cases h) (run_len_sl rfl (hd 12 _ rfl (waits_spec rfl)) Try.underlying60) rfl
          · intro a w2 hB hF hd
            refine flow_wanted (wanted_yes rfl rfl (hd 11 _ rfl (waits_spec rfl)) rfl) ?_
            refine flow_val (fun h => by cases h) (Go.Bas.run_eql_int rfl (hd 13 _ rfl (waits_spec rfl)) rfl) ?_
            exact rfl
          · intro a w2 hB hF hd
            rw [if_pos (wanted_none rfl)]
            exact flow_val (fun h => by cases h) (run_pick rfl (hd 11 _ rfl (waits_spec rfl))) ((hd 14 _ rfl (waits_spec rfl)))
          · intro a w2 hB hF hd
            rw [if_pos (wanted_none rfl)]
            exact flow_move _ (.inr rfl) (by simp) (hd 15 _ rfl (waits_spec rfl))
        · intro a w8 hB hF hS
          have ha := puts_each rfl rfl hF [_, _, _, _, _, _, _, _, _, _, _, _, _, _, _, _, _] rfl ⟨hS 0 _ rfl, hS 1 _ rfl, hS 2 _ rfl, hS 3 _ rfl, hS 4 _ rfl, hS 5 _ rfl, hS 6 _ rfl, hS 7 _ rfl, hS 8 _ rfl, hS 9 _ rfl, hS 10 _ rfl, hS 11 _ rfl, hS 12 _ rfl, hS 13 _ rfl, hS 14 _ rfl, hS 15 _ rfl, hS 16 _ rfl, trivial⟩
          simp only [puts, Act.put, List.setIfInBounds_toArray, List.set_cons_succ, List.set_cons_zero] at ha
          subst ha
          clear hS hF
          have hbb := hba.trans (hB.mono hba.size)
          clear hB
          go_wp2
          go_ret
          exact ⟨rfl, hbb⟩
  case inr.inl =>
    go_upto_region 3 with (fail)
    refine region_flow (n := 172) (by kernel_rfl) (by kernel_rfl) (by kernel_rfl) rfl
      (fun ii vv _ => (match ii with | 0 => vv = .int .i64 (n) | 1 | 2 | 5 | 6 | 11 | 12 | 13 => vv = .bool false | 3 | 4 => vv = undef | 7 | 10 => vv = .int .i64 (k) | 8 | 9 => vv = .bool true | _ => True))
      (fun w w' => Below w.heap.size w w') (fun _ _ h => h) (fun _ _ _ _ h _ => h) ?_ ?_
    · refine Each.all ?_
      refine ⟨?_, ?_, ?_, ?_, ?_, ?_, ?_, ?_, ?_, ?_, ?_, ?_, ?_, ?_, trivial⟩
      · intro a w2 hB hF hd
        rw [if_pos (wanted_none rfl)]
        exact flow_move _ (.inl rfl) (by simp) (hF.same 1 rfl)
      · intro a w2 hB hF hd
        rw [if_pos (wanted_none rfl)]
        exact flow_val (fun h => by cases h) (Go.Bas.run_gtr rfl (hd 0 _ rfl (waits_spec rfl)) rfl) (congrArg Value.bool (decide_eq_false (by omega)))
      · intro a w2 hB hF hd
        rw [if_pos (wanted_none rfl)]
        exact flow_move _ (.inl rfl) (by simp) (hd 1 _ rfl (waits_spec rfl))
      · intro a w2 hB hF hd
        rw [if_neg (by rw [wanted_some rfl rfl (hd 2 _ rfl (waits_spec rfl))]; decide)]
        exact rfl
      · intro a w2 hB hF hd
        rw [if_neg (by rw [wanted_some rfl rfl (hd 2 _ rfl (waits_spec rfl))]; decide)]
        exact rfl
      · intro a w2 hB hF hd
        rw [if_pos (wanted_none rfl)]
        exact flow_val (fun h => by cases h) (run_pick rfl (hd 2 _ rfl (waits_spec rfl))) (rfl)
      · intro a w2 hB hF hd
        rw [if_pos (wanted_none rfl)]
        exact flow_move _ (.inl rfl) (by simp) (hd 5 _ rfl (waits_spec rfl))
      · intro a w2 hB hF hd
        refine flow_wanted (wanted_yes rfl rfl (hd 6 _ rfl (waits_spec rfl)) rfl) ?_
        exact flow_move _ (.inl rfl) (by simp) (hF.same 2 rfl)
      · intro a w2 hB hF hd
        refine flow_wanted (wanted_yes rfl rfl (hd 6 _ rfl (waits_spec rfl)) rfl) ?_
        exact flow_val (fun h => by cases h) (Go.Bas.run_gtr rfl (hd 7 _ rfl (waits_spec rfl)) rfl) (congrArg Value.bool (decide_eq_true (by omega)))
      · intro a w2 hB hF hd
        refine flow_wanted (wanted_yes rfl rfl (hd 6 _ rfl (waits_spec rfl)) rfl) ?_
        exact flow_move _ (.inl rfl) (by simp) (hd 8 _ rfl (waits_spec rfl))
      · intro a w2 hB hF hd
        refine flow_wanted (wanted_yes rfl rfl (hd 9 _ rfl (waits_spec rfl)) rfl) ?_
        exact flow_move _ (.inl rfl) (by simp) (hF.same 2 rfl)
      · intro a w2 hB hF hd
        refine flow_wanted (wanted_yes rfl rfl (hd 9 _ rfl (waits_spec rfl)) rfl) ?_
        exact flow_val (fun h => by cases h) (Go.Bas.run_leq rfl (hd 10 _ rfl (waits_spec rfl)) rfl) (congrArg Value.bool (decide_eq_false (by omega)))
      · intro a w2 hB hF hd
        refine flow_wanted (wanted_yes rfl rfl (hd 6 _ rfl (waits_spec rfl)) rfl) ?_
        exact flow_val (fun h => by cases h) (run_pick rfl (hd 9 _ rfl (waits_spec rfl))) ((hd 11 _ rfl (waits_spec rfl)))
      · intro a w2 hB hF hd
        rw [if_pos (wanted_none rfl)]
        exact flow_val (fun h => by cases h) (run_pick rfl (hd 6 _ rfl (waits_spec rfl))) ((hd 12 _ rfl (waits_spec rfl)))
    · intro a w3 hB hF hS
      have ha := puts_each rfl rfl hF [_, _, _, _, _, _, _, _, _, _, _, _, _, _] rfl ⟨hS 0 _ rfl, hS 1 _ rfl, hS 2 _ rfl, hS 3 _ rfl, hS 4 _ rfl, hS 5 _ rfl, hS 6 _ rfl, hS 7 _ rfl, hS 8 _ rfl, hS 9 _ rfl, hS 10 _ rfl, hS 11 _ rfl, hS 12 _ rfl, hS 13 _ rfl, trivial⟩
      simp only [puts, Act.put, List.setIfInBounds_toArray, List.set_cons_succ, List.set_cons_zero] at ha
      subst ha
      clear hS hF
      have hb4 := hb3.trans (hB.mono hb3.size)
      have hA3 := hA2.kept hB
      clear hB hb3 hA2
      go_wp2_with (refine load_arr rfl 26 _ rfl .u8 w.heap.size 32 f 5 Try.underlying26 Try.size26 rfl hA3 ?_)
      refine (HBK.out _).mono ?_
      rintro e w4 ⟨rfl, hb5⟩
      have hA4 := hA3.kept hb5
      have hb6 := hb4.trans (hb5.mono hb4.size)
      have hql := hA4.lt
      clear hA3 hb4 hb5
      go_upto_region 6 with (refine store_arr rfl 26 _ _ rfl .u8 w4.heap.size 32 (fun _ => 0) (fun _ => 0) Try.size26 rfl rfl (Arr.newAt rfl (by rfl)) ?_)
      refine wp_world (fun w5 => Arr .u8 w5 w4.heap.size 32 (fun _ => 0) ∧ Arr .u8 w5 w.heap.size 32 f ∧ Below w.heap.size w w5) ⟨(Arr.newAt rfl (by rfl) : Arr .u8 _ _ 32 (fun _ => 0)).setRow _ _, Arr.setRowOther (Arr.alloc hA4 _) _ (by omega) _, below_setRow' (hb6.alloc hb6.size _) hb6.size _⟩ ?_
      rintro w5 ⟨hZ5, hA5, hb7⟩
      obtain ⟨q, hq⟩ : ∃ q, q = w4.heap.size := ⟨_, rfl⟩
      rw [← hq] at hZ5 ⊢
      clear hq hA4 hb6 hql
      try simp only [Act.put, List.setIfInBounds_toArray, List.set_cons_succ, List.set_cons_zero]
      go_wp2_with (refine load_arr rfl 26 _ rfl .u8 w.heap.size 32 f 5 Try.underlying26 Try.size26 rfl hA5 ?_)
      refine (HCH.out _).mono ?_
      rintro e w6 ⟨rfl, hb8⟩
      have hZ6 := hZ5.kept hb8
      have hb9 := hb7.trans (hb8.mono hb7.size)
      clear hZ5 hA5 hb7 hb8
      go_upto_region 7 with (fail)
      refine region_flow (n := 172) (by kernel_rfl) (by kernel_rfl) (by kernel_rfl) rfl
        (fun ii vv _ => (match ii with | 0 => vv = .int .i64 (n) | 1 | 2 | 5 => vv = .bool true | 3 | 4 => vv = undef | _ => True))
        (fun w w' => Below w.heap.size w w') (fun _ _ h => h) (fun _ _ _ _ h _ => h) ?_ ?_
      · refine Each.all ?_
        refine ⟨?_, ?_, ?_, ?_, ?_, ?_, trivial⟩
        · intro a w2 hB hF hd
          rw [if_pos (wanted_none rfl)]
          exact flow_move _ (.inl rfl) (by simp) (hF.same 1 rfl)
        · intro a w2 hB hF hd
          rw [if_pos (wanted_none rfl)]
          exact flow_val (fun h => by cases h) (Go.Bas.run_lss rfl (hd 0 _ rfl (waits_spec rfl)) rfl) (congrArg Value.bool (decide_eq_true (by omega)))
        · intro a w2 hB hF hd
          rw [if_pos (wanted_none rfl)]
          exact flow_move _ (.inl rfl) (by simp) (hd 1 _ rfl (waits_spec rfl))
        · intro a w2 hB hF hd
          rw [if_neg (by rw [wanted_some rfl rfl (hd 2 _ rfl (waits_spec rfl))]; decide)]
          exact rfl
        · intro a w2 hB hF hd
          rw [if_neg (by rw [wanted_some rfl rfl (hd 2 _ rfl (waits_spec rfl))]; decide)]
          exact rfl
        · intro a w2 hB hF hd
          rw [if_pos (wanted_none rfl)]
          exact flow_val (fun h => by cases h) (run_pick rfl (hd 2 _ rfl (waits_spec rfl))) (rfl)
      · intro a w7 hB hF hS
        have ha := puts_each rfl rfl hF [_, _, _, _, _, _] rfl ⟨hS 0 _ rfl, hS 1 _ rfl, hS 2 _ rfl, hS 3 _ rfl, hS 4 _ rfl, hS 5 _ rfl, trivial⟩
        simp only [puts, Act.put, List.setIfInBounds_toArray, List.set_cons_succ, List.set_cons_zero] at ha
        subst ha
        clear hS hF
        have hba := hb9.trans (hB.mono hb9.size)
        have hZ7 := hZ6.kept hB
        clear hB hb9 hZ6
        go_upto_region 8 with (fail)
        refine region_flow (n := 172) (by kernel_rfl) (by kernel_rfl) (by kernel_rfl) rfl
          (fun ii vv _ => (match ii with | 0 | 3 => vv = .int .i64 (2) | 1 | 2 | 4 | 5 | 6 | 9 | 10 | 11 | 14 | 15 | 16 => vv = .bool true | 7 | 8 => vv = .agg (arr .u8 32 (fun _ => 0)) | 12 => vv = .slice none 0 0 | 13 => vv = .int .i64 (((0 : Nat) : Int)) | _ => True))
          (fun w w' => Below w.heap.size w w') (fun _ _ h => h) (fun _ _ _ _ h _ => h) ?_ ?_
        · refine Each.all ?_
          refine ⟨?_, ?_, ?_, ?_, ?_, ?_, ?_, ?_, ?_, ?_, ?_, ?_, ?_, ?_, ?_, ?_, ?_, trivial⟩
          · intro a w2 hB hF hd
            rw [if_pos (wanted_none rfl)]
            exact flow_move _ (.inl rfl) (by simp) (hF.same 8 rfl)
          · intro a w2 hB hF hd
            rw [if_pos (wanted_none rfl)]
            refine flow_val (fun h => by cases h) (Go.Bas.run_eql_int rfl (hd 0 _ rfl (waits_spec rfl)) rfl) ?_
            exact rfl
          · intro a w2 hB hF hd
            rw [if_pos (wanted_none rfl)]
            exact flow_move _ (.inl rfl) (by simp) (hd 1 _ rfl (waits_spec rfl))
          · intro a w2 hB hF hd
            refine flow_wanted (wanted_yes rfl rfl (hd 2 _ rfl (waits_spec rfl)) rfl) ?_
            exact flow_move _ (.inl rfl) (by simp) (hF.same 10 rfl)
          · intro a w2 hB hF hd
            refine flow_wanted (wanted_yes rfl rfl (hd 2 _ rfl (waits_spec rfl)) rfl) ?_
            refine flow_val (fun h => by cases h) (Go.Bas.run_eql_int rfl (hd 3 _ rfl (waits_spec rfl)) rfl) ?_
            exact rfl
          · intro a w2 hB hF hd
            rw [if_pos (wanted_none rfl)]
            exact flow_val (fun h => by cases h) (run_pick rfl (hd 2 _ rfl (waits_spec rfl))) ((hd 4 _ rfl (waits_spec rfl)))
          · intro a w2 hB hF hd
            rw [if_pos (wanted_none rfl)]
            exact flow_move _ (.inl rfl) (by simp) (hd 5 _ rfl (waits_spec rfl))
          · intro a w2 hB hF hd
            refine flow_wanted (wanted_yes rfl rfl (hd 6 _ rfl (waits_spec rfl)) rfl) ?_
            exact flow_val (fun h => by cases h) (run_load_str rfl Try.underlying26 rfl Try.size26 (hF.same 7 rfl) (hZ7.below hB hZ7.lt)) rfl
          · intro a w2 hB hF hd
            refine flow_wanted (wanted_yes rfl rfl (hd 6 _ rfl (waits_spec rfl)) rfl) ?_
            exact flow_val (fun h => by cases h) (run_built rfl (HK32.out _ _)) rfl
          · intro a w2 hB hF hd
            refine flow_wanted (wanted_yes rfl rfl (hd 6 _ rfl (waits_spec rfl)) rfl) ?_
            exact flow_val (fun h => by cases h) (run_eql_arr true rfl (hd 7 _ rfl (waits_spec rfl)) (hd 8 _ rfl (waits_spec rfl)) Try.underlying26 (by kernel_rfl) (by kernel_rfl) (by kernel_rfl) (by kernel_rfl) (by kernel_rfl) sameB_self) rfl
          · intro a w2 hB hF hd
            rw [if_pos (wanted_none rfl)]
            exact flow_val (fun h => by cases h) (run_pick rfl (hd 6 _ rfl (waits_spec rfl))) ((hd 9 _ rfl (waits_spec rfl)))
          · intro a w2 hB hF hd
            rw [if_pos (wanted_none rfl)]
            exact flow_move _ (.inl rfl) (by simp) (hd 10 _ rfl (waits_spec rfl))
          · intro a w2 hB hF hd
            refine flow_wanted (wanted_yes rfl rfl (hd 11 _ rfl (waits_spec rfl)) rfl) ?_
            exact flow_move _ (.inl rfl) (by simp) (hF.same 9 rfl)
          · intro a w2 hB hF hd
            refine flow_wanted (wanted_yes rfl rfl (hd 11 _ rfl (waits_spec rfl)) rfl) ?_
            exact flow_val (fun h => by cases h) (run_len_sl rfl (hd 12 _ rfl (waits_spec rfl)) Try.underlying60) rfl
          · intro a w2 hB hF hd
            refine flow_wanted (wanted_yes rfl rfl (hd 11 _ rfl (waits_spec rfl)) rfl) ?_
            refine flow_val (fun h => by cases h) (Go.Bas.run_eql_int rfl (hd 13 _ rfl (waits_spec rfl)) rfl) ?_
            exact rfl
          · intro a w2 hB hF hd
            rw [if_pos (wanted_none rfl)]
            exact flow_val (fun h => by cases h) (run_pick rfl (hd 11 _ rfl (waits_spec rfl))) ((hd 14 _ rfl (waits_spec rfl)))
          · intro a w2 hB hF hd
            rw [if_pos (wanted_none rfl)]
            exact flow_move _ (.inr rfl) (by simp) (hd 15 _ rfl (waits_spec rfl))
        · intro a w8 hB hF hS
          have ha := puts_each rfl rfl hF [_, _, _, _, _, _, _, _, _, _, _, _, _, _, _, _, _] rfl ⟨hS 0 _ rfl, hS 1 _ rfl, hS 2 _ rfl, hS 3 _ rfl, hS 4 _ rfl, hS 5 _ rfl, hS 6 _ rfl, hS 7 _ rfl, hS 8 _ rfl, hS 9 _ rfl, hS 10 _ rfl, hS 11 _ rfl, hS 12 _ rfl, hS 13 _ rfl, hS 14 _ rfl, hS 15 _ rfl, hS 16 _ rfl, trivial⟩
          simp only [puts, Act.put, List.setIfInBounds_toArray, List.set_cons_succ, List.set_cons_zero] at ha
          subst ha
          clear hS hF
          have hbb := hba.trans (hB.mono hba.size)
          clear hB
          go_wp2
          go_ret
          exact ⟨rfl, hbb⟩
  case inr.inr.inl =>
    go_upto_region 3 with (fail)
    refine region_flow (n := 172) (by kernel_rfl) (by kernel_rfl) (by kernel_rfl) rfl
      (fun ii vv _ => (match ii with | 0 | 3 => vv = .int .i64 (n) | 1 | 2 => vv = .bool true | 4 | 5 | 6 | 8 | 9 | 12 | 13 => vv = .bool false | 7 => vv = .int .i64 (k) | 10 | 11 => vv = undef | _ => True))
      (fun w w' => Below w.heap.size w w') (fun _ _ h => h) (fun _ _ _ _ h _ => h) ?_ ?_
    · refine Each.all ?_
      refine ⟨?_, ?_, ?_, ?_, ?_, ?_, ?_, ?_, ?_, ?_, ?_, ?_, ?_, ?_, trivial⟩
      · intro a w2 hB hF hd
        rw [if_pos (wanted_none rfl)]
        exact flow_move _ (.inl rfl) (by simp) (hF.same 1 rfl)
      · intro a w2 hB hF hd
        rw [if_pos (wanted_none rfl)]
        exact flow_val (fun h => by cases h) (Go.Bas.run_gtr rfl (hd 0 _ rfl (waits_spec rfl)) rfl) (congrArg Value.bool (decide_eq_true (by omega)))
      · intro a w2 hB hF hd
        rw [if_pos (wanted_none rfl)]
        exact flow_move _ (.inl rfl) (by simp) (hd 1 _ rfl (waits_spec rfl))
      · intro a w2 hB hF hd
        refine flow_wanted (wanted_yes rfl rfl (hd 2 _ rfl (waits_spec rfl)) rfl) ?_
        exact flow_move _ (.inl rfl) (by simp) (hF.same 1 rfl)
      · intro a w2 hB hF hd
        refine flow_wanted (wanted_yes rfl rfl (hd 2 _ rfl (waits_spec rfl)) rfl) ?_
        exact flow_val (fun h => by cases h) (Go.Bas.run_leq rfl (hd 3 _ rfl (waits_spec rfl)) rfl) (congrArg Value.bool (decide_eq_false (by omega)))
      · intro a w2 hB hF hd
        rw [if_pos (wanted_none rfl)]
        exact flow_val (fun h => by cases h) (run_pick rfl (hd 2 _ rfl (waits_spec rfl))) ((hd 4 _ rfl (waits_spec rfl)))
      · intro a w2 hB hF hd
        rw [if_pos (wanted_none rfl)]
        exact flow_move _ (.inl rfl) (by simp) (hd 5 _ rfl (waits_spec rfl))
      · intro a w2 hB hF hd
        refine flow_wanted (wanted_yes rfl rfl (hd 6 _ rfl (waits_spec rfl)) rfl) ?_
        exact flow_move _ (.inl rfl) (by simp) (hF.same 2 rfl)
      · intro a w2 hB hF hd
        refine flow_wanted (wanted_yes rfl rfl (hd 6 _ rfl (waits_spec rfl)) rfl) ?_
        exact flow_val (fun h => by cases h) (Go.Bas.run_gtr rfl (hd 7 _ rfl (waits_spec rfl)) rfl) (congrArg Value.bool (decide_eq_false (by omega)))
      · intro a w2 hB hF hd
        refine flow_wanted (wanted_yes rfl rfl (hd 6 _ rfl (waits_spec rfl)) rfl) ?_
        exact flow_move _ (.inl rfl) (by simp) (hd 8 _ rfl (waits_spec rfl))
      · intro a w2 hB hF hd
        rw [if_neg (by rw [wanted_some rfl rfl (hd 9 _ rfl (waits_spec rfl))]; decide)]
        exact rfl
      · intro a w2 hB hF hd
        rw [if_neg (by rw [wanted_some rfl rfl (hd 9 _ rfl (waits_spec rfl))]; decide)]
        exact rfl
      · intro a w2 hB hF hd
        refine flow_wanted (wanted_yes rfl rfl (hd 6 _ rfl (waits_spec rfl)) rfl) ?_
        exact flow_val (fun h => by cases h) (run_pick rfl (hd 9 _ rfl (waits_spec rfl))) (rfl)
      · intro a w2 hB hF hd
        rw [if_pos (wanted_none rfl)]
        exact flow_val (fun h => by cases h) (run_pick rfl (hd 6 _ rfl (waits_spec rfl))) ((hd 12 _ rfl (waits_spec rfl)))
    · intro a w3 hB hF hS
      have ha := puts_each rfl rfl hF [_, _, _, _, _, _, _, _, _, _, _, _, _, _] rfl ⟨hS 0 _ rfl, hS 1 _ rfl, hS 2 _ rfl, hS 3 _ rfl, hS 4 _ rfl, hS 5 _ rfl, hS 6 _ rfl, hS 7 _ rfl, hS 8 _ rfl, hS 9 _ rfl, hS 10 _ rfl, hS 11 _ rfl, hS 12 _ rfl, hS 13 _ rfl, trivial⟩
      simp only [puts, Act.put, List.setIfInBounds_toArray, List.set_cons_succ, List.set_cons_zero] at ha
      subst ha
      clear hS hF
      have hb4 := hb3.trans (hB.mono hb3.size)
      have hA3 := hA2.kept hB
      clear hB hb3 hA2
      go_wp2_with (refine load_arr rfl 26 _ rfl .u8 w.heap.size 32 f 5 Try.underlying26 Try.size26 rfl hA3 ?_)
      refine (HBK.out _).mono ?_
      rintro e w4 ⟨rfl, hb5⟩
      have hA4 := hA3.kept hb5
      have hb6 := hb4.trans (hb5.mono hb4.size)
      have hql := hA4.lt
      clear hA3 hb4 hb5
      go_upto_region 6 with (refine store_arr rfl 26 _ _ rfl .u8 w4.heap.size 32 (fun _ => 0) (fun _ => 0) Try.size26 rfl rfl (Arr.newAt rfl (by rfl)) ?_)
      refine wp_world (fun w5 => Arr .u8 w5 w4.heap.size 32 (fun _ => 0) ∧ Arr .u8 w5 w.heap.size 32 f ∧ Below w.heap.size w w5) ⟨(Arr.newAt rfl (by rfl) : Arr .u8 _ _ 32 (fun _ => 0)).setRow _ _, Arr.setRowOther (Arr.alloc hA4 _) _ (by omega) _, below_setRow' (hb6.alloc hb6.size _) hb6.size _⟩ ?_
      rintro w5 ⟨hZ5, hA5, hb7⟩
      obtain ⟨q, hq⟩ : ∃ q, q = w4.heap.size := ⟨_, rfl⟩
      rw [← hq] at hZ5 ⊢
      clear hq hA4 hb6 hql
      try simp only [Act.put, List.setIfInBounds_toArray, List.set_cons_succ, List.set_cons_zero]
      go_wp2_with (refine load_arr rfl 26 _ rfl .u8 w.heap.size 32 f 5 Try.underlying26 Try.size26 rfl hA5 ?_)
      refine (HCH.out _).mono ?_
      rintro e w6 ⟨rfl, hb8⟩
      have hZ6 := hZ5.kept hb8
      have hb9 := hb7.trans (hb8.mono hb7.size)
      clear hZ5 hA5 hb7 hb8
      go_upto_region 7 with (fail)
      refine region_flow (n := 172) (by kernel_rfl) (by kernel_rfl) (by kernel_rfl) rfl
        (fun ii vv _ => (match ii with | 0 | 3 => vv = .int .i64 (n) | 1 | 2 => vv = .bool false | 4 | 5 => vv = .bool true | _ => True))
        (fun w w' => Below w.heap.size w w') (fun _ _ h => h) (fun _ _ _ _ h _ => h) ?_ ?_
      · refine Each.all ?_
        refine ⟨?_, ?_, ?_, ?_, ?_, ?_, trivial⟩
        · intro a w2 hB hF hd
          rw [if_pos (wanted_none rfl)]
          exact flow_move _ (.inl rfl) (by simp) (hF.same 1 rfl)
        · intro a w2 hB hF hd
          rw [if_pos (wanted_none rfl)]
          exact flow_val (fun h => by cases h) (Go.Bas.run_lss rfl (hd 0 _ rfl (waits_spec rfl)) rfl) (congrArg Value.bool (decide_eq_false (by omega)))
        · intro a w2 hB hF hd
          rw [if_pos (wanted_none rfl)]
          exact flow_move _ (.inl rfl) (by simp) (hd 1 _ rfl (waits_spec rfl))
        · intro a w2 hB hF hd
          refine flow_wanted (wanted_yes rfl rfl (hd 2 _ rfl (waits_spec rfl)) rfl) ?_
          exact flow_move _ (.inl rfl) (by simp) (hF.same 1 rfl)
        · intro a w2 hB hF hd
          refine flow_wanted (wanted_yes rfl rfl (hd 2 _ rfl (waits_spec rfl)) rfl) ?_
          exact flow_val (fun h => by cases h) (Go.Bas.run_gtr rfl (hd 3 _ rfl (waits_spec rfl)) rfl) (congrArg Value.bool (decide_eq_true (by omega)))
        · intro a w2 hB hF hd
          rw [if_pos (wanted_none rfl)]
          exact flow_val (fun h => by cases h) (run_pick rfl (hd 2 _ rfl (waits_spec rfl))) ((hd 4 _ rfl (waits_spec rfl)))
      · intro a w7 hB hF hS
        have ha := puts_each rfl rfl hF [_, _, _, _, _, _] rfl ⟨hS 0 _ rfl, hS 1 _ rfl, hS 2 _ rfl, hS 3 _ rfl, hS 4 _ rfl, hS 5 _ rfl, trivial⟩
        simp only [puts, Act.put, List.setIfInBounds_toArray, List.set_cons_succ, List.set_cons_zero] at ha
        subst ha
        clear hS hF
        have hba := hb9.trans (hB.mono hb9.size)
        have hZ7 := hZ6.kept hB
        clear hB hb9 hZ6
        go_upto_region 8 with (fail)
        refine region_flow (n := 172) (by kernel_rfl) (by kernel_rfl) (by kernel_rfl) rfl
          (fun ii vv _ => (match ii with | 0 | 3 => vv = .int .i64 (2) | 1 | 2 | 4 | 5 | 6 | 9 | 10 | 11 | 14 | 15 | 16 => vv = .bool true | 7 | 8 => vv = .agg (arr .u8 32 (fun _ => 0)) | 12 => vv = .slice none 0 0 | 13 => vv = .int .i64 (((0 : Nat) : Int)) | _ => True))
          (fun w w' => Below w.heap.size w w') (fun _ _ h => h) (fun _ _ _ _ h _ => h) ?_ ?_
        · refine Each.all ?_
          refine ⟨?_, ?_, ?_, ?_, ?_, ?_, ?_, ?_, ?_, ?_, ?_, ?_, ?_, ?_, ?_, ?_, ?_, trivial⟩
          · intro a w2 hB hF hd
            rw [if_pos (wanted_none rfl)]
            exact flow_move _ (.inl rfl) (by simp) (hF.same 8 rfl)
          · intro a w2 hB hF hd
            rw [if_pos (wanted_none rfl)]
            refine flow_val (fun h => by cases h) (Go.Bas.run_eql_int rfl (hd 0 _ rfl (waits_spec rfl)) rfl) ?_
            exact rfl
          · intro a w2 hB hF hd
            rw [if_pos (wanted_none rfl)]
            exact flow_move _ (.inl rfl) (by simp) (hd 1 _ rfl (waits_spec rfl))
          · intro a w2 hB hF hd
            refine flow_wanted (wanted_yes rfl rfl (hd 2 _ rfl (waits_spec rfl)) rfl) ?_
            exact flow_move _ (.inl rfl) (by simp) (hF.same 10 rfl)
          · intro a w2 hB hF hd
            refine flow_wanted (wanted_yes rfl rfl (hd 2 _ rfl (waits_spec rfl)) rfl) ?_
            refine flow_val (fun h => by cases h) (Go.Bas.run_eql_int rfl (hd 3 _ rfl (waits_spec rfl)) rfl) ?_
            exact rfl
          · intro a w2 hB hF hd
            rw [if_pos (wanted_none rfl)]
            exact flow_val (fun h => by cases h) (run_pick rfl (hd 2 _ rfl (waits_spec rfl))) ((hd 4 _ rfl (waits_spec rfl)))
          · intro a w2 hB hF hd
            rw [if_pos (wanted_none rfl)]
            exact flow_move _ (.inl rfl) (by simp) (hd 5 _ rfl (waits_spec rfl))
          · intro a w2 hB hF hd
            refine flow_wanted (wanted_yes rfl rfl (hd 6 _ rfl (waits_spec rfl)) rfl) ?_
            exact flow_val (fun h => by cases h) (run_load_str rfl Try.underlying26 rfl Try.size26 (hF.same 7 rfl) (hZ7.below hB hZ7.lt)) rfl
          · intro a w2 hB hF hd
            refine flow_wanted (wanted_yes rfl rfl (hd 6 _ rfl (waits_spec rfl)) rfl) ?_
            exact flow_val (fun h => by cases h) (run_built rfl (HK32.out _ _)) rfl
          · intro a w2 hB hF hd
            refine flow_wanted (wanted_yes rfl rfl (hd 6 _ rfl (waits_spec rfl)) rfl) ?_
            exact flow_val (fun h => by cases h) (run_eql_arr true rfl (hd 7 _ rfl (waits_spec rfl)) (hd 8 _ rfl (waits_spec rfl)) Try.underlying26 (by kernel_rfl) (by kernel_rfl) (by kernel_rfl) (by kernel_rfl) (by kernel_rfl) sameB_self) rfl
          · intro a w2 hB hF hd
            rw [if_pos (wanted_none rfl)]
            exact flow_val (fun h => by cases h) (run_pick rfl (hd 6 _ rfl (waits_spec rfl))) ((hd 9 _ rfl (waits_spec rfl)))
          · intro a w2 hB hF hd
            rw [if_pos (wanted_none rfl)]
            exact flow_move _ (.inl rfl) (by simp) (hd 10 _ rfl (waits_spec rfl))
          · intro a w2 hB hF hd
            refine flow_wanted (wanted_yes rfl rfl (hd 11 _ rfl (waits_spec rfl)) rfl) ?_
            exact flow_move _ (.inl rfl) (by simp) (hF.same 9 rfl)
          · intro a w2 hB hF hd
            refine flow_wanted (wanted_yes rfl rfl (hd 11 _ rfl (waits_spec rfl)) rfl) ?_
            exact flow_val (fun h => by cases h) (run_len_sl rfl (hd 12 _ rfl (waits_spec rfl)) Try.underlying60) rfl
          · intro a w2 hB hF hd
            refine flow_wanted (wanted_yes rfl rfl (hd 11 _ rfl (waits_spec rfl)) rfl) ?_
            refine flow_val (fun h => by cases h) (Go.Bas.run_eql_int rfl (hd 13 _ rfl (waits_spec rfl)) rfl) ?_
            exact rfl
          · intro a w2 hB hF hd
            rw [if_pos (wanted_none rfl)]
            exact flow_val (fun h => by cases h) (run_pick rfl (hd 11 _ rfl (waits_spec rfl))) ((hd 14 _ rfl (waits_spec rfl)))
          · intro a w2 hB hF hd
            rw [if_pos (wanted_none rfl)]
            exact flow_move _ (.inr rfl) (by simp) (hd 15 _ rfl (waits_spec rfl))
        · intro a w8 hB hF hS
          have ha := puts_each rfl rfl hF [_, _, _, _, _, _, _, _, _, _, _, _, _, _, _, _, _] rfl ⟨hS 0 _ rfl, hS 1 _ rfl, hS 2 _ rfl, hS 3 _ rfl, hS 4 _ rfl, hS 5 _ rfl, hS 6 _ rfl, hS 7 _ rfl, hS 8 _ rfl, hS 9 _ rfl, hS 10 _ rfl, hS 11 _ rfl, hS 12 _ rfl, hS 13 _ rfl, hS 14 _ rfl, hS 15 _ rfl, hS 16 _ rfl, trivial⟩
          simp only [puts, Act.put, List.setIfInBounds_toArray, List.set_cons_succ, List.set_cons_zero] at ha
          subst ha
          clear hS hF
          have hbb := hba.trans (hB.mono hba.size)
          clear hB
          go_wp2
          go_ret
          exact ⟨rfl, hbb⟩
  case inr.inr.inr =>
    go_upto_region 3 with (fail)
    refine region_flow (n := 172) (by kernel_rfl) (by kernel_rfl) (by kernel_rfl) rfl
      (fun ii vv _ => (match ii with | 0 | 3 => vv = .int .i64 (n) | 1 | 2 | 8 | 9 => vv = .bool true | 4 | 5 | 6 | 11 | 12 | 13 => vv = .bool false | 7 | 10 => vv = .int .i64 (k) | _ => True))
      (fun w w' => Below w.heap.size w w') (fun _ _ h => h) (fun _ _ _ _ h _ => h) ?_ ?_
    · refine Each.all ?_
      refine ⟨?_, ?_, ?_, ?_, ?_, ?_, ?_, ?_, ?_, ?_, ?_, ?_, ?_, ?_, trivial⟩
      · intro a w2 hB hF hd
        rw [if_pos (wanted_none rfl)]
        exact flow_move _ (.inl rfl) (by simp) (hF.same 1 rfl)
      · intro a w2 hB hF hd
        rw [if_pos (wanted_none rfl)]
        exact flow_val (fun h => by cases h) (Go.Bas.run_gtr rfl (hd 0 _ rfl (waits_spec rfl)) rfl) (congrArg Value.bool (decide_eq_true (by omega)))
      · intro a w2 hB hF hd
        rw [if_pos (wanted_none rfl)]
        exact flow_move _ (.inl rfl) (by simp) (hd 1 _ rfl (waits_spec rfl))
      · intro a w2 hB hF hd
        refine flow_wanted (wanted_yes rfl rfl (hd 2 _ rfl (waits_spec rfl)) rfl) ?_
        exact flow_move _ (.inl rfl) (by simp) (hF.same 1 rfl)
      · intro a w2 hB hF hd
        refine flow_wanted (wanted_yes rfl rfl (hd 2 _ rfl (waits_spec rfl)) rfl) ?_
        exact flow_val (fun h => by cases h) (Go.Bas.run_leq rfl (hd 3 _ rfl (waits_spec rfl)) rfl) (congrArg Value.bool (decide_eq_false (by omega)))
      · intro a w2 hB hF hd
        rw [if_pos (wanted_none rfl)]
        exact flow_val (fun h => by cases h) (run_pick rfl (hd 2 _ rfl (waits_spec rfl))) ((hd 4 _ rfl (waits_spec rfl)))
      · intro a w2 hB hF hd
        rw [if_pos (wanted_none rfl)]
        exact flow_move _ (.inl rfl) (by simp) (hd 5 _ rfl (waits_spec rfl))
      · intro a w2 hB hF hd
        refine flow_wanted (wanted_yes rfl rfl (hd 6 _ rfl (waits_spec rfl)) rfl) ?_
        exact flow_move _ (.inl rfl) (by simp) (hF.same 2 rfl)
      · intro a w2 hB hF hd
        refine flow_wanted (wanted_yes rfl rfl (hd 6 _ rfl (waits_spec rfl)) rfl) ?_
        exact flow_val (fun h => by cases h) (Go.Bas.run_gtr rfl (hd 7 _ rfl (waits_spec rfl)) rfl) (congrArg Value.bool (decide_eq_true (by omega)))
      · intro a w2 hB hF hd
        refine flow_wanted (wanted_yes rfl rfl (hd 6 _ rfl (waits_spec rfl)) rfl) ?_
        exact flow_move _ (.inl rfl) (by simp) (hd 8 _ rfl (waits_spec rfl))
      · intro a w2 hB hF hd
        refine flow_wanted (wanted_yes rfl rfl (hd 9 _ rfl (waits_spec rfl)) rfl) ?_
        exact flow_move _ (.inl rfl) (by simp) (hF.same 2 rfl)
      · intro a w2 hB hF hd
        refine flow_wanted (wanted_yes rfl rfl (hd 9 _ rfl (waits_spec rfl)) rfl) ?_
        exact flow_val (fun h => by cases h) (Go.Bas.run_leq rfl (hd 10 _ rfl (waits_spec rfl)) rfl) (congrArg Value.bool (decide_eq_false (by omega)))
      · intro a w2 hB hF hd
        refine flow_wanted (wanted_yes rfl rfl (hd 6 _ rfl (waits_spec rfl)) rfl) ?_
        exact flow_val (fun h => by cases h) (run_pick rfl (hd 9 _ rfl (waits_spec rfl))) ((hd 11 _ rfl (waits_spec rfl)))
      · intro a w2 hB hF hd
        rw [if_pos (wanted_none rfl)]
        exact flow_val (fun h => by cases h) (run_pick rfl (hd 6 _ rfl (waits_spec rfl))) ((hd 12 _ rfl (waits_spec rfl)))
    · intro a w3 hB hF hS
      have ha := puts_each rfl rfl hF [_, _, _, _, _, _, _, _, _, _, _, _, _, _] rfl ⟨hS 0 _ rfl, hS 1 _ rfl, hS 2 _ rfl, hS 3 _ rfl, hS 4 _ rfl, hS 5 _ rfl, hS 6 _ rfl, hS 7 _ rfl, hS 8 _ rfl, hS 9 _ rfl, hS 10 _ rfl, hS 11 _ rfl, hS 12 _ rfl, hS 13 _ rfl, trivial⟩
      simp only [puts, Act.put, List.setIfInBounds_toArray, List.set_cons_succ, List.set_cons_zero] at ha
      subst ha
      clear hS hF
      have hb4 := hb3.trans (hB.mono hb3.size)
      have hA3 := hA2.kept hB
      clear hB hb3 hA2
      go_wp2_with (refine load_arr rfl 26 _ rfl .u8 w.heap.size 32 f 5 Try.underlying26 Try.size26 rfl hA3 ?_)
      refine (HBK.out _).mono ?_
      rintro e w4 ⟨rfl, hb5⟩
      have hA4 := hA3.kept hb5
      have hb6 := hb4.trans (hb5.mono hb4.size)
      have hql := hA4.lt
      clear hA3 hb4 hb5
      go_upto_region 6 with (refine store_arr rfl 26 _ _ rfl .u8 w4.heap.size 32 (fun _ => 0) (fun _ => 0) Try.size26 rfl rfl (Arr.newAt rfl (by rfl)) ?_)
      refine wp_world (fun w5 => Arr .u8 w5 w4.heap.size 32 (fun _ => 0) ∧ Arr .u8 w5 w.heap.size 32 f ∧ Below w.heap.size w w5) ⟨(Arr.newAt rfl (by rfl) : Arr .u8 _ _ 32 (fun _ => 0)).setRow _ _, Arr.setRowOther (Arr.alloc hA4 _) _ (by omega) _, below_setRow' (hb6.alloc hb6.size _) hb6.size _⟩ ?_
      rintro w5 ⟨hZ5, hA5, hb7⟩
      obtain ⟨q, hq⟩ : ∃ q, q = w4.heap.size := ⟨_, rfl⟩
      rw [← hq] at hZ5 ⊢
      clear hq hA4 hb6 hql
      try simp only [Act.put, List.setIfInBounds_toArray, List.set_cons_succ, List.set_cons_zero]
      go_wp2_with (refine load_arr rfl 26 _ rfl .u8 w.heap.size 32 f 5 Try.underlying26 Try.size26 rfl hA5 ?_)
      refine (HCH.out _).mono ?_
      rintro e w6 ⟨rfl, hb8⟩
      have hZ6 := hZ5.kept hb8
      have hb9 := hb7.trans (hb8.mono hb7.size)
      clear hZ5 hA5 hb7 hb8
      go_upto_region 7 with (fail)
      refine region_flow (n := 172) (by kernel_rfl) (by kernel_rfl) (by kernel_rfl) rfl
        (fun ii vv _ => (match ii with | 0 | 3 => vv = .int .i64 (n) | 1 | 2 => vv = .bool false | 4 | 5 => vv = .bool true | _ => True))
        (fun w w' => Below w.heap.size w w') (fun _ _ h => h) (fun _ _ _ _ h _ => h) ?_ ?_
      · refine Each.all ?_
        refine ⟨?_, ?_, ?_, ?_, ?_, ?_, trivial⟩
        · intro a w2 hB hF hd
          rw [if_pos (wanted_none rfl)]
          exact flow_move _ (.inl rfl) (by simp) (hF.same 1 rfl)
        · intro a w2 hB hF hd
          rw [if_pos (wanted_none rfl)]
          exact flow_val (fun h => by cases h) (Go.Bas.run_lss rfl (hd 0 _ rfl (waits_spec rfl)) rfl) (congrArg Value.bool (decide_eq_false (by omega)))
        · intro a w2 hB hF hd
          rw [if_pos (wanted_none rfl)]
          exact flow_move _ (.inl rfl) (by simp) (hd 1 _ rfl (waits_spec rfl))
        · intro a w2 hB hF hd
          refine flow_wanted (wanted_yes rfl rfl (hd 2 _ rfl (waits_spec rfl)) rfl) ?_
          exact flow_move _ (.inl rfl) (by simp) (hF.same 1 rfl)
        · intro a w2 hB hF hd
          refine flow_wanted (wanted_yes rfl rfl (hd 2 _ rfl (waits_spec rfl)) rfl) ?_
          exact flow_val (fun h => by cases h) (Go.Bas.run_gtr rfl (hd 3 _ rfl (waits_spec rfl)) rfl) (congrArg Value.bool (decide_eq_true (by omega)))
        · intro a w2 hB hF hd
          rw [if_pos (wanted_none rfl)]
          exact flow_val (fun h => by cases h) (run_pick rfl (hd 2 _ rfl (waits_spec rfl))) ((hd 4 _ rfl (waits_spec rfl)))
      · intro a w7 hB hF hS
        have ha := puts_each rfl rfl hF [_, _, _, _, _, _] rfl ⟨hS 0 _ rfl, hS 1 _ rfl, hS 2 _ rfl, hS 3 _ rfl, hS 4 _ rfl, hS 5 _ rfl, trivial⟩
        simp only [puts, Act.put, List.setIfInBounds_toArray, List.set_cons_succ, List.set_cons_zero] at ha
        subst ha
        clear hS hF
        have hba := hb9.trans (hB.mono hb9.size)
        have hZ7 := hZ6.kept hB
        clear hB hb9 hZ6
        go_upto_region 8 with (fail)
        refine region_flow (n := 172) (by kernel_rfl) (by kernel_rfl) (by kernel_rfl) rfl
          (fun ii vv _ => (match ii with | 0 | 3 => vv = .int .i64 (2) | 1 | 2 | 4 | 5 | 6 | 9 | 10 | 11 | 14 | 15 | 16 => vv = .bool true | 7 | 8 => vv = .agg (arr .u8 32 (fun _ => 0)) | 12 => vv = .slice none 0 0 | 13 => vv = .int .i64 (((0 : Nat) : Int)) | _ => True))
          (fun w w' => Below w.heap.size w w') (fun _ _ h => h) (fun _ _ _ _ h _ => h) ?_ ?_
        · refine Each.all ?_
          refine ⟨?_, ?_, ?_, ?_, ?_, ?_, ?_, ?_, ?_, ?_, ?_, ?_, ?_, ?_, ?_, ?_, ?_, trivial⟩
          · intro a w2 hB hF hd
            rw [if_pos (wanted_none rfl)]
            exact flow_move _ (.inl rfl) (by simp) (hF.same 8 rfl)
          · intro a w2 hB hF hd
            rw [if_pos (wanted_none rfl)]
            refine flow_val (fun h => by cases h) (Go.Bas.run_eql_int rfl (hd 0 _ rfl (waits_spec rfl)) rfl) ?_
            exact rfl
          · intro a w2 hB hF hd
            rw [if_pos (wanted_none rfl)]
            exact flow_move _ (.inl rfl) (by simp) (hd 1 _ rfl (waits_spec rfl))
          · intro a w2 hB hF hd
            refine flow_wanted (wanted_yes rfl rfl (hd 2 _ rfl (waits_spec rfl)) rfl) ?_
            exact flow_move _ (.inl rfl) (by simp) (hF.same 10 rfl)
          · intro a w2 hB hF hd
            refine flow_wanted (wanted_yes rfl rfl (hd 2 _ rfl (waits_spec rfl)) rfl) ?_
            refine flow_val (fun h => by cases h) (Go.Bas.run_eql_int rfl (hd 3 _ rfl (waits_spec rfl)) rfl) ?_
            exact rfl
          · intro a w2 hB hF hd
            rw [if_pos (wanted_none rfl)]
            exact flow_val (fun h => by cases h) (run_pick rfl (hd 2 _ rfl (waits_spec rfl))) ((hd 4 _ rfl (waits_spec rfl)))
          · intro a w2 hB hF hd
            rw [if_pos (wanted_none rfl)]
            exact flow_move _ (.inl rfl) (by simp) (hd 5 _ rfl (waits_spec rfl))
          · intro a w2 hB hF hd
            refine flow_wanted (wanted_yes rfl rfl (hd 6 _ rfl (waits_spec rfl)) rfl) ?_
            exact flow_val (fun h => by cases h) (run_load_str rfl Try.underlying26 rfl Try.size26 (hF.same 7 rfl) (hZ7.below hB hZ7.lt)) rfl
          · intro a w2 hB hF hd
            refine flow_wanted (wanted_yes rfl rfl (hd 6 _ rfl (waits_spec rfl)) rfl) ?_
            exact flow_val (fun h => by cases h) (run_built rfl (HK32.out _ _)) rfl
          · intro a w2 hB hF hd
            refine flow_wanted (wanted_yes rfl rfl (hd 6 _ rfl (waits_spec rfl)) rfl) ?_
            exact flow_val (fun h => by cases h) (run_eql_arr true rfl (hd 7 _ rfl (waits_spec rfl)) (hd 8 _ rfl (waits_spec rfl)) Try.underlying26 (by kernel_rfl) (by kernel_rfl) (by kernel_rfl) (by kernel_rfl) (by kernel_rfl) sameB_self) rfl
          · intro a w2 hB hF hd
            rw [if_pos (wanted_none rfl)]
            exact flow_val (fun h => by cases h) (run_pick rfl (hd 6 _ rfl (waits_spec rfl))) ((hd 9 _ rfl (waits_spec rfl)))
          · intro a w2 hB hF hd
            rw [if_pos (wanted_none rfl)]
            exact flow_move _ (.inl rfl) (by simp) (hd 10 _ rfl (waits_spec rfl))
          · intro a w2 hB hF hd
            refine flow_wanted (wanted_yes rfl rfl (hd 11 _ rfl (waits_spec rfl)) rfl) ?_
            exact flow_move _ (.inl rfl) (by simp) (hF.same 9 rfl)
          · intro a w2 hB hF hd
            refine flow_wanted (wanted_yes rfl rfl (hd 11 _ rfl (waits_spec rfl)) rfl) ?_
            exact flow_val (fun h => by cases h) (run_len_sl rfl (hd 12 _ rfl (waits_spec rfl)) Try.underlying60) rfl
          · intro a w2 hB hF hd
            refine flow_wanted (wanted_yes rfl rfl (hd 11 _ rfl (waits_spec rfl)) rfl) ?_
            refine flow_val (fun h => by cases h) (Go.Bas.run_eql_int rfl (hd 13 _ rfl (waits_spec rfl)) rfl) ?_
            exact rfl
          · intro a w2 hB hF hd
            rw [if_pos (wanted_none rfl)]
            exact flow_val (fun h => by cases h) (run_pick rfl (hd 11 _ rfl (waits_spec rfl))) ((hd 14 _ rfl (waits_spec rfl)))
          · intro a w2 hB hF hd
            rw [if_pos (wanted_none rfl)]
            exact flow_move _ (.inr rfl) (by simp) (hd 15 _ rfl (waits_spec rfl))
        · intro a w8 hB hF hS
          have ha := puts_each rfl rfl hF [_, _, _, _, _, _, _, _, _, _, _, _, _, _, _, _, _] rfl ⟨hS 0 _ rfl, hS 1 _ rfl, hS 2 _ rfl, hS 3 _ rfl, hS 4 _ rfl, hS 5 _ rfl, hS 6 _ rfl, hS 7 _ rfl, hS 8 _ rfl, hS 9 _ rfl, hS 10 _ rfl, hS 11 _ rfl, hS 12 _ rfl, hS 13 _ rfl, hS 14 _ rfl, hS 15 _ rfl, hS 16 _ rfl, trivial⟩
          simp only [puts, Act.put, List.setIfInBounds_toArray, List.set_cons_succ, List.set_cons_zero] at ha
          subst ha
          clear hS hF
          have hbb := hba.trans (hB.mono hba.size)
          clear hB
          go_wp2
          go_ret
          exact ⟨rfl, hbb⟩
end Go.Proofs.Ytgobodhcamgidaa
