/-
  bastillelaw10.awake; what is built in the laws of poly. Conditions: named in each theorem.
-/
import Derived.Test.YtjmagojmfiabfaaPo6
import Derived.OpenShut
namespace Go.Proofs.Ytjmagojmfiabfaa
open Go.RowKit Go.Bas Go.ChangeShapes
attribute [local go_sem ↓] Go.wp_at_zero Go.wp_at_succ

theorem lit17 (n : Nat) (h : n = 0 ∨ n = 1 ∨ n = 2 ∨ n = 3 ∨ n = 6) : (#[.int .u8 (n : Int), .int .u8 0, .int .u8 0, .int .u8 0, .int .u8 0, .int .u8 0, .int .u8 0, .int .u8 0, .int .u8 0, .int .u8 0, .int .u8 0, .int .u8 0, .int .u8 0, .int .u8 0, .int .u8 0, .int .u8 0, .int .u8 0] : Array Value) = arr .u8 17 (dg 256 (n : Int)) := by
  rcases h with rfl | rfl | rfl | rfl | rfl <;> kernel_rfl
theorem build_num0 {a : Act} (w : World) : (Instr.build 87 ((#[] : Array (Nat × Operand)).map fun (i, x) => (i, a.eval x))).run Try.prog w = .ok (.agg (arr .u8 17 (dg 256 0))) w := by
  simp only [List.map_toArray, List.map_nil]
  rw [Go.run_build w _ _ (arr .u8 17 (dg 256 0)) (by kernel_rfl)]
theorem build_num1 {a : Act} (w : World) : (Instr.build 87 ((#[(0, Operand.const (.int .u8 1))] : Array (Nat × Operand)).map fun (i, x) => (i, a.eval x))).run Try.prog w = .ok (.agg (arr .u8 17 (dg 256 1))) w := by
  simp only [List.map_toArray, List.map_nil, List.map_cons, Act.eval]
  rw [Go.run_build w _ _ (arr .u8 17 (dg 256 1)) (by kernel_rfl)]
theorem build_num2 {a : Act} (w : World) : (Instr.build 87 ((#[(0, Operand.const (.int .u8 2))] : Array (Nat × Operand)).map fun (i, x) => (i, a.eval x))).run Try.prog w = .ok (.agg (arr .u8 17 (dg 256 2))) w := by
  simp only [List.map_toArray, List.map_nil, List.map_cons, Act.eval]
  rw [Go.run_build w _ _ (arr .u8 17 (dg 256 2)) (by kernel_rfl)]
theorem build_num3 {a : Act} (w : World) : (Instr.build 87 ((#[(0, Operand.const (.int .u8 3))] : Array (Nat × Operand)).map fun (i, x) => (i, a.eval x))).run Try.prog w = .ok (.agg (arr .u8 17 (dg 256 3))) w := by
  simp only [List.map_toArray, List.map_nil, List.map_cons, Act.eval]
  rw [Go.run_build w _ _ (arr .u8 17 (dg 256 3)) (by kernel_rfl)]
theorem build_six17 {a : Act} (w : World) : (Instr.build 86 ((#[(0, Operand.const (.int .u8 6))] : Array (Nat × Operand)).map fun (i, x) => (i, a.eval x))).run Try.prog w = .ok (.agg (arr .u8 17 (dg 256 6))) w := by
  simp only [List.map_toArray, List.map_nil, List.map_cons, Act.eval]
  rw [Go.run_build w _ _ (arr .u8 17 (dg 256 6)) (by kernel_rfl)]
theorem build_seven {a : Act} (w : World) : (Instr.build 82 ((#[(0, Operand.const (.int .u8 7))] : Array (Nat × Operand)).map fun (i, x) => (i, a.eval x))).run Try.prog w = .ok (.agg (arr .u8 16 (dg 256 7))) w := by
  simp only [List.map_toArray, List.map_nil, List.map_cons, Act.eval]
  rw [Go.run_build w _ _ (arr .u8 16 (dg 256 7)) (by kernel_rfl)]
/-- the chapter's key. -/
def keyN : Int := 1 + 7 * 256 ^ 16
theorem build_key {a : Act} (w : World) : (Instr.build 22 ((#[(0, Operand.const (.int .u8 1)), (16, Operand.const (.int .u8 7))] : Array (Nat × Operand)).map fun (i, x) => (i, a.eval x))).run Try.prog w = .ok (.agg (arr .u8 32 (dg 256 keyN))) w := by
  simp only [List.map_toArray, List.map_nil, List.map_cons, Act.eval]
  rw [Go.run_build w _ _ (arr .u8 32 (dg 256 keyN)) (by kernel_rfl)]
theorem tag_key (w : World) : Calls Try.prog 59 #[.agg (arr .u8 32 (dg 256 keyN)), .slice none 0 0] w fun e w' => e = .returned (.agg (arr .u8 16 (dg 256 7))) ∧ Below w.heap.size w w' := by
  have h := tag_none keyN (by decide) w
  rwa [show keyN / 256 ^ 16 = 7 by decide] at h
theorem mul_23 (w : World) : Calls Try.prog 66 #[.agg (arr .u8 17 (dg 256 2)), .agg (arr .u8 17 (dg 256 3))] w fun e w' => e = .returned (.agg (arr .u8 17 (dg 256 6))) ∧ Below w.heap.size w w' := by
  have h := poMul_any 2 3 (by decide) (by decide) w
  rwa [show (2 : Int) * 3 % PP = 6 by decide] at h
theorem bytes_6 (w : World) : Calls Try.prog 62 #[.agg (arr .u8 17 (dg 256 6))] w fun e w' => e = .returned (.agg (arr .u8 17 (dg 256 6))) ∧ Below w.heap.size w w' := by
  have h := poBytes_any 6 (by decide) w
  rwa [show (6 : Int) % PP = 6 by decide] at h

set_option maxRecDepth 100000 in
set_option maxHeartbeats 3200000 in
theorem awake_any (w : World) :
    Calls Try.prog 57 #[] w fun e w' => e = .returned (.bool true) ∧ Below w.heap.size w w' := by
  go_enter Try.func57, Try.ntmps57
  go_wp2_with (refine step_val rfl (run_built rfl (build_key _)) ?_)
  refine (tag_key _).mono ?_
  rintro e w1 ⟨rfl, hb1⟩
  have s1 := hb1.size
  go_upto_region 2 with (refine store_arr rfl 82 _ _ rfl .u8 w1.heap.size 16 (fun _ => 0) _ Try.size82 rfl rfl (Arr.newAt rfl rfl) ?_)
  refine wp_world (fun w2 => Arr .u8 w2 w1.heap.size 16 (dg 256 7) ∧ Below w.heap.size w w2)
    ⟨Arr.setRow (Arr.newAt (n := 16) (f := fun _ => 0) rfl rfl) _ _, below_setRow' (hb1.alloc s1 _) s1 _⟩ ?_
  rintro w2 ⟨hT, hb2⟩
  obtain ⟨t, ht⟩ : ∃ t, t = w1.heap.size := ⟨_, rfl⟩
  rw [← ht] at hT ⊢
  clear hb1 ht s1
  go_wp2_with (first
    | (refine step_val rfl (run_built rfl (build_num2 _)) ?_)
    | (refine step_val rfl (run_built rfl (build_num3 _)) ?_))
  refine (mul_23 _).mono ?_
  rintro e w3 ⟨rfl, hb3⟩
  go_wp2_with fail
  refine (bytes_6 _).mono ?_
  rintro e w4 ⟨rfl, hb4⟩
  have hT4 := (hT.kept hb3).kept hb4
  have s2 := hb2.size
  have s3 := hb3.size
  have hbel := (hb2.trans (hb3.mono s2)).trans (hb4.mono (by omega))
  have s4 := hbel.size
  have l4 := hT4.lt
  clear hT hb2 hb3 hb4
  go_upto_region 3 with (refine store_arr rfl 86 _ _ rfl .u8 w4.heap.size 17 (fun _ => 0) _ Try.size86 rfl rfl (Arr.newAt rfl rfl) ?_)
  refine wp_world (fun w5 => Arr .u8 w5 w4.heap.size 17 (dg 256 6) ∧ Arr .u8 w5 t 16 (dg 256 7) ∧ Below w.heap.size w w5)
    ⟨Arr.setRow (Arr.newAt (n := 17) (f := fun _ => 0) rfl rfl) _ _, Arr.setRowOther (Arr.alloc hT4 _) _ (by omega) _, below_setRow' (hbel.alloc s4 _) s4 _⟩ ?_
  rintro w5 ⟨hB5, hT5, hb5⟩
  clear hT4 hbel
  refine region_flow (n := 17) (by kernel_rfl) (by kernel_rfl) (by kernel_rfl) rfl
    (fun ii vv _ => (match ii with | 0 | 1 => vv = .agg (arr .u8 16 (dg 256 7)) | 2 | 3 | 6 | 7 | 8 => vv = .bool true | 4 | 5 => vv = .agg (arr .u8 17 (dg 256 6)) | _ => True))
    (fun w w' => Below w.heap.size w w') (fun _ _ h => h) (fun _ _ _ _ h _ => h) ?_ ?_
  · refine Each.all ?_
    refine ⟨?_, ?_, ?_, ?_, ?_, ?_, ?_, ?_, ?_, trivial⟩
    · intro a w2 hB hF hd
      rw [if_pos (wanted_none rfl)]
      exact flow_val (fun h => by cases h) (run_load_str rfl Try.underlying82 rfl Try.size82 (hF.same 1 rfl) (hT5.below hB hT5.lt)) rfl
    · intro a w2 hB hF hd
      rw [if_pos (wanted_none rfl)]
      exact flow_val (fun h => by cases h) (run_built rfl (build_seven _)) rfl
    · intro a w2 hB hF hd
      rw [if_pos (wanted_none rfl)]
      exact flow_val (fun h => by cases h) (run_eql_arr true rfl (hd 0 _ rfl (waits_spec rfl)) (hd 1 _ rfl (waits_spec rfl)) Try.underlying82 (by kernel_rfl) (by kernel_rfl) (by kernel_rfl) (by kernel_rfl) (by kernel_rfl) sameB_self) rfl
    · intro a w2 hB hF hd
      rw [if_pos (wanted_none rfl)]
      exact flow_move _ (.inl rfl) (by simp) (hd 2 _ rfl (waits_spec rfl))
    · intro a w2 hB hF hd
      refine flow_wanted (wanted_yes rfl rfl (hd 3 _ rfl (waits_spec rfl)) rfl) ?_
      exact flow_val (fun h => by cases h) (run_load_str rfl Try.underlying86 rfl Try.size86 (hF.same 2 rfl) (hB5.below hB hB5.lt)) rfl
    · intro a w2 hB hF hd
      refine flow_wanted (wanted_yes rfl rfl (hd 3 _ rfl (waits_spec rfl)) rfl) ?_
      exact flow_val (fun h => by cases h) (run_built rfl (build_six17 _)) rfl
    · intro a w2 hB hF hd
      refine flow_wanted (wanted_yes rfl rfl (hd 3 _ rfl (waits_spec rfl)) rfl) ?_
      exact flow_val (fun h => by cases h) (run_eql_arr true rfl (hd 4 _ rfl (waits_spec rfl)) (hd 5 _ rfl (waits_spec rfl)) Try.underlying86 (by kernel_rfl) (by kernel_rfl) (by kernel_rfl) (by kernel_rfl) (by kernel_rfl) sameB_self) rfl
    · intro a w2 hB hF hd
      rw [if_pos (wanted_none rfl)]
      exact flow_val (fun h => by cases h) (run_pick rfl (hd 3 _ rfl (waits_spec rfl))) ((hd 6 _ rfl (waits_spec rfl)))
    · intro a w2 hB hF hd
      rw [if_pos (wanted_none rfl)]
      exact flow_move _ (.inr rfl) (by simp) (hd 7 _ rfl (waits_spec rfl))
  · intro a w6 hB hF hS
    have ha := puts_each rfl rfl hF [_, _, _, _, _, _, _, _, _] rfl ⟨hS 0 _ rfl, hS 1 _ rfl, hS 2 _ rfl, hS 3 _ rfl, hS 4 _ rfl, hS 5 _ rfl, hS 6 _ rfl, hS 7 _ rfl, hS 8 _ rfl, trivial⟩
    simp only [puts, Act.put, List.setIfInBounds_toArray, List.set_cons_succ, List.set_cons_zero] at ha
    subst ha
    clear hS hF
    have hbf := hb5.trans (hB.mono hb5.size)
    clear hB5 hT5 hb5 hB
    go_wp2
    go_ret
    exact ⟨rfl, hbf⟩
end Go.Proofs.Ytjmagojmfiabfaa
