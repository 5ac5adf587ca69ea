/-
  scalar.MulAdd; the law's awake. Conditions: named in each theorem.
-/
import Derived.Test.YtiiafgbdmejcpaaSc7
namespace Go.Proofs.Ytiiafgbdmejcpaa
open Go.RowKit Go.Bas
attribute [local go_sem ↓] Go.wp_at_zero Go.wp_at_succ

set_option maxRecDepth 100000 in
set_option maxHeartbeats 1600000 in
theorem MulAdd_any (A B C : Int) (w : World) (hA : 0 ≤ A ∧ A < 256 ^ 32) (hB : 0 ≤ B ∧ B < 256 ^ 32) (hC : 0 ≤ C ∧ C < 256 ^ 32) :
    Calls Try.prog 48 #[.agg (arr .u8 32 (dg 256 A)), .agg (arr .u8 32 (dg 256 B)), .agg (arr .u8 32 (dg 256 C))] w fun e w' =>
      e = .returned (.agg (arr .u8 32 (dg 256 ((A * B % Q + C) % Q)))) ∧ Below w.heap.size w w' := by
  have HA := Lib.hid hA
  have HB := Lib.hid hB
  have HC := Lib.hid hC
  clear hA hB hC
  go_enter Try.func48, Try.ntmps48
  go_wp2
  refine wp_world (fun w1 => Arr .u8 w1 w.heap.size 32 (dg 256 A) ∧ Arr .u8 w1 (w.heap.size + 1) 32 (dg 256 B) ∧ Arr .u8 w1 (w.heap.size + 2) 32 (dg 256 C) ∧ Arr .u8 w1 (w.heap.size + 3) 32 (fun _ => 0) ∧ Below w.heap.size w w1)
    ⟨Arr.alloc (Arr.alloc (Arr.alloc (Arr.newAt (by first | omega | (simp <;> omega)) (by rfl)) _) _) _, Arr.alloc (Arr.alloc (Arr.newAt (by first | omega | (simp <;> omega)) (by rfl)) _) _, Arr.alloc (Arr.newAt (by first | omega | (simp <;> omega)) (by rfl)) _, Arr.newAt (by first | omega | (simp <;> omega)) (by rfl), ((((Below.refl _ _).alloc (Nat.le_refl _) _).alloc (by simp) _).alloc (by simp; omega) _).alloc (by simp; omega) _⟩ ?_
  rintro w1 ⟨hA, hB', hC, hZ, hbel⟩
  refine region_last' (n := 12) 5 rfl (by decide) (by kernel_rfl) (by kernel_rfl) (by kernel_rfl) (by kernel_rfl) rfl
    (fun i v _ => (match i with | 0 => v = .agg (arr .u8 32 (dg 256 A)) | 1 => v = .agg (arr .u8 32 (dg 256 B)) | 2 => v = .agg (arr .u8 32 (dg 256 (A * B % Q))) | 3 => v = .agg (arr .u8 32 (dg 256 C)) | 4 => v = .agg (arr .u8 32 (dg 256 ((A * B % Q + C) % Q))) | _ => True))
    (fun w w' => Below w.heap.size w w') (fun _ _ h => h) (fun _ _ _ _ h _ => h) rfl ?_ ?_
  · refine Each.all ?_
    refine ⟨?_, ?_, ?_, ?_, ?_, (fun h => absurd rfl h), trivial⟩
    · intro _ a w2 hB hF hd
      rw [if_pos (wanted_none rfl)]
      exact flow_val (fun h => by cases h) (run_load_arr rfl Try.underlying38 Try.size38 (hF.same 3 rfl) (hA.below hB hA.lt)) rfl
    · intro _ a w2 hB hF hd
      rw [if_pos (wanted_none rfl)]
      exact flow_val (fun h => by cases h) (run_load_arr rfl Try.underlying38 Try.size38 (hF.same 4 rfl) (hB'.below hB hB'.lt)) rfl
    · intro _ a w2 hB hF hd
      rw [if_pos (wanted_none rfl)]
      refine flow_call _ _ _ rfl Try.call46 _ (args2 (hd 0 _ rfl (waits_spec rfl)) (hd 1 _ rfl (waits_spec rfl))) (by simp) ((Mul_any A B w2 HA.out HB.out).mono ?_)
      rintro e w3 ⟨rfl, hb⟩; exact ⟨_, rfl, rfl, hb⟩
    · intro _ a w2 hB hF hd
      rw [if_pos (wanted_none rfl)]
      exact flow_val (fun h => by cases h) (run_load_arr rfl Try.underlying38 Try.size38 (hF.same 5 rfl) (hC.below hB hC.lt)) rfl
    · intro _ a w2 hB hF hd
      rw [if_pos (wanted_none rfl)]
      refine flow_call _ _ _ rfl Try.call44 _ (args2 (hd 2 _ rfl (waits_spec rfl)) (hd 3 _ rfl (waits_spec rfl))) (by simp) ((Add_any (A * B % Q) C w2 (modQ_byte _) HC.out).mono ?_)
      rintro e w3 ⟨rfl, hb⟩; exact ⟨_, rfl, rfl, hb⟩
  · intro a w2 hB hF hS
    have ha := puts_each rfl rfl hF [_, _, _, _, _, undef] rfl ⟨hS 0 _ rfl (by decide), hS 1 _ rfl (by decide), hS 2 _ rfl (by decide), hS 3 _ rfl (by decide), hS 4 _ rfl (by decide), trivial, trivial⟩
    simp only [puts, Act.put, List.setIfInBounds_toArray, List.set_cons_succ, List.set_cons_zero] at ha
    subst ha
    clear hS hF
    have hZ2 := hZ.below hB hZ.lt
    have hb2 := hbel.trans (hB.mono hbel.size)
    refine wp_store_arr 38 _ _ rfl .u8 (w.heap.size + 3) 32 (fun _ => 0) _ Try.size38 rfl rfl hZ2 ?_
    clear hA hB' hC hZ hbel hB
    go_wp2
    refine bodyPost_ret (results_arr rfl _ _ .u8 (w.heap.size + 3) 32 _ 5 rfl (hZ2.setRow _ _) Try.underlying38 Try.size38) rfl ⟨rfl, below_setRow' hb2 (by omega) _⟩

theorem lit_one : (#[.int .u8 1, .int .u8 0, .int .u8 0, .int .u8 0, .int .u8 0, .int .u8 0, .int .u8 0, .int .u8 0, .int .u8 0, .int .u8 0, .int .u8 0, .int .u8 0, .int .u8 0, .int .u8 0, .int .u8 0, .int .u8 0, .int .u8 0, .int .u8 0, .int .u8 0, .int .u8 0, .int .u8 0, .int .u8 0, .int .u8 0, .int .u8 0, .int .u8 0, .int .u8 0, .int .u8 0, .int .u8 0, .int .u8 0, .int .u8 0, .int .u8 0, .int .u8 0] : Array Value) = arr .u8 32 (dg 256 1) := by kernel_rfl
theorem lit_two : (#[.int .u8 2, .int .u8 0, .int .u8 0, .int .u8 0, .int .u8 0, .int .u8 0, .int .u8 0, .int .u8 0, .int .u8 0, .int .u8 0, .int .u8 0, .int .u8 0, .int .u8 0, .int .u8 0, .int .u8 0, .int .u8 0, .int .u8 0, .int .u8 0, .int .u8 0, .int .u8 0, .int .u8 0, .int .u8 0, .int .u8 0, .int .u8 0, .int .u8 0, .int .u8 0, .int .u8 0, .int .u8 0, .int .u8 0, .int .u8 0, .int .u8 0, .int .u8 0] : Array Value) = arr .u8 32 (dg 256 2) := by kernel_rfl
theorem lit_three : (#[.int .u8 3, .int .u8 0, .int .u8 0, .int .u8 0, .int .u8 0, .int .u8 0, .int .u8 0, .int .u8 0, .int .u8 0, .int .u8 0, .int .u8 0, .int .u8 0, .int .u8 0, .int .u8 0, .int .u8 0, .int .u8 0, .int .u8 0, .int .u8 0, .int .u8 0, .int .u8 0, .int .u8 0, .int .u8 0, .int .u8 0, .int .u8 0, .int .u8 0, .int .u8 0, .int .u8 0, .int .u8 0, .int .u8 0, .int .u8 0, .int .u8 0, .int .u8 0] : Array Value) = arr .u8 32 (dg 256 3) := by kernel_rfl
theorem lit_six : (#[.int .u8 6, .int .u8 0, .int .u8 0, .int .u8 0, .int .u8 0, .int .u8 0, .int .u8 0, .int .u8 0, .int .u8 0, .int .u8 0, .int .u8 0, .int .u8 0, .int .u8 0, .int .u8 0, .int .u8 0, .int .u8 0, .int .u8 0, .int .u8 0, .int .u8 0, .int .u8 0, .int .u8 0, .int .u8 0, .int .u8 0, .int .u8 0, .int .u8 0, .int .u8 0, .int .u8 0, .int .u8 0, .int .u8 0, .int .u8 0, .int .u8 0, .int .u8 0] : Array Value) = arr .u8 32 (dg 256 6) := by kernel_rfl
theorem lit_nil : (#[.int .u8 0, .int .u8 0, .int .u8 0, .int .u8 0, .int .u8 0, .int .u8 0, .int .u8 0, .int .u8 0, .int .u8 0, .int .u8 0, .int .u8 0, .int .u8 0, .int .u8 0, .int .u8 0, .int .u8 0, .int .u8 0, .int .u8 0, .int .u8 0, .int .u8 0, .int .u8 0, .int .u8 0, .int .u8 0, .int .u8 0, .int .u8 0, .int .u8 0, .int .u8 0, .int .u8 0, .int .u8 0, .int .u8 0, .int .u8 0, .int .u8 0, .int .u8 0] : Array Value) = arr .u8 32 (dg 256 0) := by kernel_rfl

theorem six_mod : sameB 32 (dg 256 (6 % Q)) (dg 256 6) = true := by rw [show (6 : Int) % Q = 6 by decide]; exact sameB_self

set_option maxRecDepth 100000 in
set_option maxHeartbeats 1600000 in
theorem awake_any (w : World) :
    Calls Try.prog 29 #[] w fun e w' => e = .returned (.bool true) ∧ Below w.heap.size w w' := by
  go_enter Try.func29, Try.ntmps29
  go_wp2_with fail
  rw [lit_two, lit_three]
  refine (Mul_any 2 3 w (by decide) (by decide)).mono ?_
  rintro e w2 ⟨rfl, hb⟩
  go_wp2_with (refine step_val rfl (run_eql_arr true rfl rfl (congrArg Value.agg lit_six) Try.underlying38 (by kernel_rfl) (by kernel_rfl) (by kernel_rfl) (by kernel_rfl) (by kernel_rfl) six_mod) ?_)
  go_ret
  exact ⟨rfl, hb⟩
end Go.Proofs.Ytiiafgbdmejcpaa
