/-
  The law ScalarSums answers true.
-/
import Derived.Test.YtiiafgbdmejcpaaTakes
namespace Go.Proofs.Ytiiafgbdmejcpaa
open Go.RowKit Go.Bas Go.ChangeShapes
attribute [local go_sem ↓] Go.wp_at_zero Go.wp_at_succ

set_option maxRecDepth 100000 in
set_option maxHeartbeats 6400000 in
theorem scalarSums_law (w : World) (fa : Nat → Int) (ha : ∀ i, i < 32 → (Lit.int .u8 (fa i)).wf = true) (fb : Nat → Int) (hb : ∀ i, i < 32 → (Lit.int .u8 (fb i)).wf = true) (fc : Nat → Int) (hc : ∀ i, i < 32 → (Lit.int .u8 (fc i)).wf = true) :
    Calls Try.prog 9 #[.agg (arr .u8 32 fa), .agg (arr .u8 32 fb), .agg (arr .u8 32 fc)] w fun e w' => e = .returned (.bool true) ∧ Below w.heap.size w w' := by
  obtain ⟨A, eA, hA⟩ := num32 fa ha
  obtain ⟨B, eB, hB⟩ := num32 fb hb
  obtain ⟨C, eC, hC⟩ := num32 fc hc
  rw [eA, eB, eC]
  have HA := Lib.hid hA
  have HB := Lib.hid hB
  have HC := Lib.hid hC
  clear hA hB hC ha hb hc eA eB eC
  go_enter Try.func9, Try.ntmps9
  have hA1 : Arr .u8 (((w.alloc (.cells (arr .u8 32 (dg 256 A)) 38)).alloc (.cells (arr .u8 32 (dg 256 B)) 38)).alloc (.cells (arr .u8 32 (dg 256 C)) 38)) w.heap.size 32 (dg 256 A) := Arr.alloc (Arr.alloc (Arr.newAt rfl rfl) _) _
  have hB1 : Arr .u8 (((w.alloc (.cells (arr .u8 32 (dg 256 A)) 38)).alloc (.cells (arr .u8 32 (dg 256 B)) 38)).alloc (.cells (arr .u8 32 (dg 256 C)) 38)) (w.heap.size + 1) 32 (dg 256 B) := Arr.alloc (Arr.newAt (by first | omega | (simp <;> omega)) rfl) _
  have hC1 : Arr .u8 (((w.alloc (.cells (arr .u8 32 (dg 256 A)) 38)).alloc (.cells (arr .u8 32 (dg 256 B)) 38)).alloc (.cells (arr .u8 32 (dg 256 C)) 38)) (w.heap.size + 2) 32 (dg 256 C) := Arr.newAt (by first | omega | (simp <;> omega)) rfl
  have hb1 : Below w.heap.size w (((w.alloc (.cells (arr .u8 32 (dg 256 A)) 38)).alloc (.cells (arr .u8 32 (dg 256 B)) 38)).alloc (.cells (arr .u8 32 (dg 256 C)) 38)) := (((Below.refl _ _).alloc (Nat.le_refl _) _).alloc (by simp) _).alloc (by simp; omega) _
  go_wp2_with fail
  refine (awake_any _).mono ?_
  rintro e w2 ⟨rfl, hb2⟩
  have hA := hA1.kept hb2
  have hB' := hB1.kept hb2
  have hC := hC1.kept hb2
  have hbel := hb1.trans (hb2.mono hb1.size)
  clear hA1 hB1 hC1 hb1 hb2
  go_wp2_with (refine load_arr rfl 38 _ rfl .u8 w.heap.size 32 _ 5 Try.underlying38 Try.size38 rfl hA ?_)
  refine (Neg_any A _ HA.out).mono ?_
  rintro e w4 ⟨rfl, hb4⟩
  have hA4 := hA.kept hb4
  have hB4 := hB'.kept hb4
  have hC4 := hC.kept hb4
  have hbel4 := hbel.trans (hb4.mono hbel.size)
  have hA4l := hA4.lt
  have hB4l := hB4.lt
  have hC4l := hC4.lt
  clear hA hB' hC hb4 hbel
  go_wp2_with (refine store_arr rfl 38 _ _ rfl .u8 w4.heap.size 32 (fun _ => 0) _ Try.size38 rfl rfl (Arr.newAt rfl rfl) ?_)
  refine wp_world (fun w5 => Arr .u8 w5 w4.heap.size 32 (dg 256 (-A % Q)) ∧ Arr .u8 w5 w.heap.size 32 (dg 256 A) ∧ Arr .u8 w5 (w.heap.size + 1) 32 (dg 256 B) ∧ Arr .u8 w5 (w.heap.size + 2) 32 (dg 256 C) ∧ Below w.heap.size w w5)
    ⟨Arr.setRow (Arr.newAt (n := 32) (f := fun _ => 0) rfl rfl) _ _, Arr.setRowOther (Arr.alloc hA4 _) _ (by omega) _, Arr.setRowOther (Arr.alloc hB4 _) _ (by omega) _, Arr.setRowOther (Arr.alloc hC4 _) _ (by omega) _, below_setRow' (hbel4.alloc hbel4.size _) hbel4.size _⟩ ?_
  rintro w5 ⟨hX, hA, hB', hC, hbel⟩
  clear hA4 hB4 hC4 hA4l hB4l hC4l hbel4
  refine region_flow (n := 51) (by kernel_rfl) (by kernel_rfl) (by kernel_rfl) rfl
    (fun i v _ => (match i with | 0 | 3 | 8 | 11 | 17 | 21 | 34 => v = .agg (arr .u8 32 (dg 256 (A))) | 1 | 4 | 9 | 12 | 18 | 22 => v = .agg (arr .u8 32 (dg 256 (B))) | 2 | 5 => v = .agg (arr .u8 32 (dg 256 (((A + B) % Q)))) | 6 | 7 | 14 | 15 | 16 | 26 | 27 | 28 | 30 | 31 | 32 | 37 | 38 | 39 => v = .bool true | 10 | 13 | 23 => v = .agg (arr .u8 32 (dg 256 ((A * B % Q)))) | 19 | 24 => v = .agg (arr .u8 32 (dg 256 (C))) | 20 => v = .agg (arr .u8 32 (dg 256 (((A * B % Q + C) % Q)))) | 25 => v = .agg (arr .u8 32 (dg 256 ((((A * B % Q) + C) % Q)))) | 29 | 33 => v = .agg (arr .u8 32 (dg 256 ((-A % Q)))) | 35 => v = .agg (arr .u8 32 (dg 256 ((((-A % Q) + A) % Q)))) | 36 => v = .agg (arr .u8 32 (dg 256 (0))) | _ => True))
    (fun w w' => Below w.heap.size w w') (fun _ _ h => h) (fun _ _ _ _ h _ => h) ?_ ?_
  · refine Each.all ?_
    refine ⟨?_, ?_, ?_, ?_, ?_, ?_, ?_, ?_, ?_, ?_, ?_, ?_, ?_, ?_, ?_, ?_, ?_, ?_, ?_, ?_, ?_, ?_, ?_, ?_, ?_, ?_, ?_, ?_, ?_, ?_, ?_, ?_, ?_, ?_, ?_, ?_, ?_, ?_, ?_, ?_, trivial⟩
    · intro a w2 hB hF hd
      rw [if_pos (wanted_none rfl)]
      exact flow_val (fun h => by cases h) (run_load_arr rfl Try.underlying38 Try.size38 (hF.same 3 rfl) (hA.below hB hA.lt)) rfl
    · intro a w2 hB hF hd
      rw [if_pos (wanted_none rfl)]
      exact flow_val (fun h => by cases h) (run_load_arr rfl Try.underlying38 Try.size38 (hF.same 4 rfl) (hB'.below hB hB'.lt)) rfl
    · intro a w2 hB hF hd
      rw [if_pos (wanted_none rfl)]
      refine flow_call _ _ _ rfl Try.call44 _ (args2 (hd 0 _ rfl (waits_spec rfl)) (hd 1 _ rfl (waits_spec rfl))) (by simp) ((Add_any A B w2 HA.out HB.out).mono ?_)
      rintro e w3 ⟨rfl, hb⟩; exact ⟨_, rfl, rfl, hb⟩
    · intro a w2 hB hF hd
      rw [if_pos (wanted_none rfl)]
      exact flow_val (fun h => by cases h) (run_load_arr rfl Try.underlying38 Try.size38 (hF.same 3 rfl) (hA.below hB hA.lt)) rfl
    · intro a w2 hB hF hd
      rw [if_pos (wanted_none rfl)]
      exact flow_val (fun h => by cases h) (run_load_arr rfl Try.underlying38 Try.size38 (hF.same 4 rfl) (hB'.below hB hB'.lt)) rfl
    · intro a w2 hB hF hd
      rw [if_pos (wanted_none rfl)]
      refine flow_call _ _ _ rfl Try.call45 _ (args2 (hd 3 _ rfl (waits_spec rfl)) (hd 4 _ rfl (waits_spec rfl))) (by simp) ((rAdd_any A B w2 HA.out HB.out).mono ?_)
      rintro e w3 ⟨rfl, hb⟩; exact ⟨_, rfl, rfl, hb⟩
    · intro a w2 hB hF hd
      rw [if_pos (wanted_none rfl)]
      exact flow_val (fun h => by cases h) (run_eql_arr true rfl (hd 2 _ rfl (waits_spec rfl)) (hd 5 _ rfl (waits_spec rfl)) Try.underlying38 (by kernel_rfl) (by kernel_rfl) (by kernel_rfl) (by kernel_rfl) (by kernel_rfl) sameB_self) rfl
    · intro a w2 hB hF hd
      rw [if_pos (wanted_none rfl)]
      exact flow_move _ (.inl rfl) (by simp) (hd 6 _ rfl (waits_spec rfl))
    · intro a w2 hB hF hd
      refine flow_wanted (wanted_yes rfl rfl (hd 7 _ rfl (waits_spec rfl)) rfl) ?_
      exact flow_val (fun h => by cases h) (run_load_arr rfl Try.underlying38 Try.size38 (hF.same 3 rfl) (hA.below hB hA.lt)) rfl
    · intro a w2 hB hF hd
      refine flow_wanted (wanted_yes rfl rfl (hd 7 _ rfl (waits_spec rfl)) rfl) ?_
      exact flow_val (fun h => by cases h) (run_load_arr rfl Try.underlying38 Try.size38 (hF.same 4 rfl) (hB'.below hB hB'.lt)) rfl
    · intro a w2 hB hF hd
      refine flow_wanted (wanted_yes rfl rfl (hd 7 _ rfl (waits_spec rfl)) rfl) ?_
      refine flow_call _ _ _ rfl Try.call46 _ (args2 (hd 8 _ rfl (waits_spec rfl)) (hd 9 _ rfl (waits_spec rfl))) (by simp) ((Mul_any A B w2 HA.out HB.out).mono ?_)
      rintro e w3 ⟨rfl, hb⟩; exact ⟨_, rfl, rfl, hb⟩
    · intro a w2 hB hF hd
      refine flow_wanted (wanted_yes rfl rfl (hd 7 _ rfl (waits_spec rfl)) rfl) ?_
      exact flow_val (fun h => by cases h) (run_load_arr rfl Try.underlying38 Try.size38 (hF.same 3 rfl) (hA.below hB hA.lt)) rfl
    · intro a w2 hB hF hd
      refine flow_wanted (wanted_yes rfl rfl (hd 7 _ rfl (waits_spec rfl)) rfl) ?_
      exact flow_val (fun h => by cases h) (run_load_arr rfl Try.underlying38 Try.size38 (hF.same 4 rfl) (hB'.below hB hB'.lt)) rfl
    · intro a w2 hB hF hd
      refine flow_wanted (wanted_yes rfl rfl (hd 7 _ rfl (waits_spec rfl)) rfl) ?_
      refine flow_call _ _ _ rfl Try.call47 _ (args2 (hd 11 _ rfl (waits_spec rfl)) (hd 12 _ rfl (waits_spec rfl))) (by simp) ((rMul_any A B w2 HA.out HB.out).mono ?_)
      rintro e w3 ⟨rfl, hb⟩; exact ⟨_, rfl, rfl, hb⟩
    · intro a w2 hB hF hd
      refine flow_wanted (wanted_yes rfl rfl (hd 7 _ rfl (waits_spec rfl)) rfl) ?_
      exact flow_val (fun h => by cases h) (run_eql_arr true rfl (hd 10 _ rfl (waits_spec rfl)) (hd 13 _ rfl (waits_spec rfl)) Try.underlying38 (by kernel_rfl) (by kernel_rfl) (by kernel_rfl) (by kernel_rfl) (by kernel_rfl) sameB_self) rfl
    · intro a w2 hB hF hd
      rw [if_pos (wanted_none rfl)]
      exact flow_val (fun h => by cases h) (run_pick rfl (hd 7 _ rfl (waits_spec rfl))) ((hd 14 _ rfl (waits_spec rfl)))
    · intro a w2 hB hF hd
      rw [if_pos (wanted_none rfl)]
      exact flow_move _ (.inl rfl) (by simp) (hd 15 _ rfl (waits_spec rfl))
    · intro a w2 hB hF hd
      refine flow_wanted (wanted_yes rfl rfl (hd 16 _ rfl (waits_spec rfl)) rfl) ?_
      exact flow_val (fun h => by cases h) (run_load_arr rfl Try.underlying38 Try.size38 (hF.same 3 rfl) (hA.below hB hA.lt)) rfl
    · intro a w2 hB hF hd
      refine flow_wanted (wanted_yes rfl rfl (hd 16 _ rfl (waits_spec rfl)) rfl) ?_
      exact flow_val (fun h => by cases h) (run_load_arr rfl Try.underlying38 Try.size38 (hF.same 4 rfl) (hB'.below hB hB'.lt)) rfl
    · intro a w2 hB hF hd
      refine flow_wanted (wanted_yes rfl rfl (hd 16 _ rfl (waits_spec rfl)) rfl) ?_
      exact flow_val (fun h => by cases h) (run_load_arr rfl Try.underlying38 Try.size38 (hF.same 5 rfl) (hC.below hB hC.lt)) rfl
    · intro a w2 hB hF hd
      refine flow_wanted (wanted_yes rfl rfl (hd 16 _ rfl (waits_spec rfl)) rfl) ?_
      refine flow_call _ _ _ rfl Try.call48 _ (args3 (hd 17 _ rfl (waits_spec rfl)) (hd 18 _ rfl (waits_spec rfl)) (hd 19 _ rfl (waits_spec rfl))) (by simp) ((MulAdd_any A B C w2 HA.out HB.out HC.out).mono ?_)
      rintro e w3 ⟨rfl, hb⟩; exact ⟨_, rfl, rfl, hb⟩
    · intro a w2 hB hF hd
      refine flow_wanted (wanted_yes rfl rfl (hd 16 _ rfl (waits_spec rfl)) rfl) ?_
      exact flow_val (fun h => by cases h) (run_load_arr rfl Try.underlying38 Try.size38 (hF.same 3 rfl) (hA.below hB hA.lt)) rfl
    · intro a w2 hB hF hd
      refine flow_wanted (wanted_yes rfl rfl (hd 16 _ rfl (waits_spec rfl)) rfl) ?_
      exact flow_val (fun h => by cases h) (run_load_arr rfl Try.underlying38 Try.size38 (hF.same 4 rfl) (hB'.below hB hB'.lt)) rfl
    · intro a w2 hB hF hd
      refine flow_wanted (wanted_yes rfl rfl (hd 16 _ rfl (waits_spec rfl)) rfl) ?_
      refine flow_call _ _ _ rfl Try.call47 _ (args2 (hd 21 _ rfl (waits_spec rfl)) (hd 22 _ rfl (waits_spec rfl))) (by simp) ((rMul_any A B w2 HA.out HB.out).mono ?_)
      rintro e w3 ⟨rfl, hb⟩; exact ⟨_, rfl, rfl, hb⟩
    · intro a w2 hB hF hd
      refine flow_wanted (wanted_yes rfl rfl (hd 16 _ rfl (waits_spec rfl)) rfl) ?_
      exact flow_val (fun h => by cases h) (run_load_arr rfl Try.underlying38 Try.size38 (hF.same 5 rfl) (hC.below hB hC.lt)) rfl
    · intro a w2 hB hF hd
      refine flow_wanted (wanted_yes rfl rfl (hd 16 _ rfl (waits_spec rfl)) rfl) ?_
      refine flow_call _ _ _ rfl Try.call45 _ (args2 (hd 23 _ rfl (waits_spec rfl)) (hd 24 _ rfl (waits_spec rfl))) (by simp) ((rAdd_any (A * B % Q) C w2 (modQ_byte _) HC.out).mono ?_)
      rintro e w3 ⟨rfl, hb⟩; exact ⟨_, rfl, rfl, hb⟩
    · intro a w2 hB hF hd
      refine flow_wanted (wanted_yes rfl rfl (hd 16 _ rfl (waits_spec rfl)) rfl) ?_
      exact flow_val (fun h => by cases h) (run_eql_arr true rfl (hd 20 _ rfl (waits_spec rfl)) (hd 25 _ rfl (waits_spec rfl)) Try.underlying38 (by kernel_rfl) (by kernel_rfl) (by kernel_rfl) (by kernel_rfl) (by kernel_rfl) sameB_self) rfl
    · intro a w2 hB hF hd
      rw [if_pos (wanted_none rfl)]
      exact flow_val (fun h => by cases h) (run_pick rfl (hd 16 _ rfl (waits_spec rfl))) ((hd 26 _ rfl (waits_spec rfl)))
    · intro a w2 hB hF hd
      rw [if_pos (wanted_none rfl)]
      exact flow_move _ (.inl rfl) (by simp) (hd 27 _ rfl (waits_spec rfl))
    · intro a w2 hB hF hd
      refine flow_wanted (wanted_yes rfl rfl (hd 28 _ rfl (waits_spec rfl)) rfl) ?_
      exact flow_val (fun h => by cases h) (run_load_arr rfl Try.underlying38 Try.size38 (hF.same 7 rfl) (hX.below hB hX.lt)) rfl
    · intro a w2 hB hF hd
      refine flow_wanted (wanted_yes rfl rfl (hd 28 _ rfl (waits_spec rfl)) rfl) ?_
      refine flow_call _ _ _ rfl Try.call34 _ (args1 (hd 29 _ rfl (waits_spec rfl))) (by simp) ((Right_yes (-A) w2).mono ?_)
      rintro e w3 ⟨rfl, hb⟩; exact ⟨_, rfl, rfl, hb⟩
    · intro a w2 hB hF hd
      rw [if_pos (wanted_none rfl)]
      exact flow_val (fun h => by cases h) (run_pick rfl (hd 28 _ rfl (waits_spec rfl))) ((hd 30 _ rfl (waits_spec rfl)))
    · intro a w2 hB hF hd
      rw [if_pos (wanted_none rfl)]
      exact flow_move _ (.inl rfl) (by simp) (hd 31 _ rfl (waits_spec rfl))
    · intro a w2 hB hF hd
      refine flow_wanted (wanted_yes rfl rfl (hd 32 _ rfl (waits_spec rfl)) rfl) ?_
      exact flow_val (fun h => by cases h) (run_load_arr rfl Try.underlying38 Try.size38 (hF.same 7 rfl) (hX.below hB hX.lt)) rfl
    · intro a w2 hB hF hd
      refine flow_wanted (wanted_yes rfl rfl (hd 32 _ rfl (waits_spec rfl)) rfl) ?_
      exact flow_val (fun h => by cases h) (run_load_arr rfl Try.underlying38 Try.size38 (hF.same 3 rfl) (hA.below hB hA.lt)) rfl
    · intro a w2 hB hF hd
      refine flow_wanted (wanted_yes rfl rfl (hd 32 _ rfl (waits_spec rfl)) rfl) ?_
      refine flow_call _ _ _ rfl Try.call45 _ (args2 (hd 33 _ rfl (waits_spec rfl)) (hd 34 _ rfl (waits_spec rfl))) (by simp) ((rAdd_any (-A % Q) A w2 (modQ_byte _) HA.out).mono ?_)
      rintro e w3 ⟨rfl, hb⟩; exact ⟨_, rfl, rfl, hb⟩
    · intro a w2 hB hF hd
      refine flow_wanted (wanted_yes rfl rfl (hd 32 _ rfl (waits_spec rfl)) rfl) ?_
      exact flow_val (fun h => by cases h) (run_built rfl (build_nil _)) rfl
    · intro a w2 hB hF hd
      refine flow_wanted (wanted_yes rfl rfl (hd 32 _ rfl (waits_spec rfl)) rfl) ?_
      exact flow_val (fun h => by cases h) (run_eql_arr true rfl (hd 35 _ rfl (waits_spec rfl)) (hd 36 _ rfl (waits_spec rfl)) Try.underlying38 (by kernel_rfl) (by kernel_rfl) (by kernel_rfl) (by kernel_rfl) (by kernel_rfl) (sameB_num (by rw [Int.add_comm]; exact num_neg A))) rfl
    · intro a w2 hB hF hd
      rw [if_pos (wanted_none rfl)]
      exact flow_val (fun h => by cases h) (run_pick rfl (hd 32 _ rfl (waits_spec rfl))) ((hd 37 _ rfl (waits_spec rfl)))
    · intro a w2 hB hF hd
      rw [if_pos (wanted_none rfl)]
      exact flow_move _ (.inr rfl) (by simp) (hd 38 _ rfl (waits_spec rfl))
  · intro a w6 hB hF hS
    have ha := puts_each rfl rfl hF [_, _, _, _, _, _, _, _, _, _, _, _, _, _, _, _, _, _, _, _, _, _, _, _, _, _, _, _, _, _, _, _, _, _, _, _, _, _, _, _] rfl ⟨hS 0 _ rfl, hS 1 _ rfl, hS 2 _ rfl, hS 3 _ rfl, hS 4 _ rfl, hS 5 _ rfl, hS 6 _ rfl, hS 7 _ rfl, hS 8 _ rfl, hS 9 _ rfl, hS 10 _ rfl, hS 11 _ rfl, hS 12 _ rfl, hS 13 _ rfl, hS 14 _ rfl, hS 15 _ rfl, hS 16 _ rfl, hS 17 _ rfl, hS 18 _ rfl, hS 19 _ rfl, hS 20 _ rfl, hS 21 _ rfl, hS 22 _ rfl, hS 23 _ rfl, hS 24 _ rfl, hS 25 _ rfl, hS 26 _ rfl, hS 27 _ rfl, hS 28 _ rfl, hS 29 _ rfl, hS 30 _ rfl, hS 31 _ rfl, hS 32 _ rfl, hS 33 _ rfl, hS 34 _ rfl, hS 35 _ rfl, hS 36 _ rfl, hS 37 _ rfl, hS 38 _ rfl, hS 39 _ rfl, trivial⟩
    simp only [puts, Act.put, List.setIfInBounds_toArray, List.set_cons_succ, List.set_cons_zero] at ha
    subst ha
    clear hS hF
    have hb := hbel.trans (hB.mono hbel.size)
    clear hX hA hB' hC hbel hB
    go_wp2
    go_ret
    exact ⟨rfl, hb⟩
end Go.Proofs.Ytiiafgbdmejcpaa
