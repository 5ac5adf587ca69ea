/-
  The law ScalarLaws answers true.
-/
import Derived.Test.YtiiafgbdmejcpaaSc8
import Derived.OpenShut
namespace Go.Proofs.Ytiiafgbdmejcpaa
open Go.RowKit Go.Bas Go.ChangeShapes
attribute [local go_sem ↓] Go.wp_at_zero Go.wp_at_succ

theorem sameB_num {n : Nat} {B X Y : Int} (h : X = Y) : sameB n (dg B X) (dg B Y) = true := by rw [h]; exact sameB_self
theorem build_nil {a : Act} (w : World) : (Instr.build 38 ((#[] : Array (Nat × Operand)).map fun (i, x) => (i, a.eval x))).run Try.prog w = .ok (.agg (arr .u8 32 (dg 256 0))) w := by
  simp only [List.map_toArray, List.map_nil]
  rw [Go.run_build w _ _ #[.int .u8 0, .int .u8 0, .int .u8 0, .int .u8 0, .int .u8 0, .int .u8 0, .int .u8 0, .int .u8 0, .int .u8 0, .int .u8 0, .int .u8 0, .int .u8 0, .int .u8 0, .int .u8 0, .int .u8 0, .int .u8 0, .int .u8 0, .int .u8 0, .int .u8 0, .int .u8 0, .int .u8 0, .int .u8 0, .int .u8 0, .int .u8 0, .int .u8 0, .int .u8 0, .int .u8 0, .int .u8 0, .int .u8 0, .int .u8 0, .int .u8 0, .int .u8 0] (by kernel_rfl), lit_nil]
theorem build_one {a : Act} (w : World) : (Instr.build 38 ((#[(0, Operand.const (.int .u8 1))] : Array (Nat × Operand)).map fun (i, x) => (i, a.eval x))).run Try.prog w = .ok (.agg (arr .u8 32 (dg 256 1))) w := by
  simp only [List.map_toArray, List.map_nil, List.map_cons, Act.eval]
  rw [Go.run_build w _ _ #[.int .u8 1, .int .u8 0, .int .u8 0, .int .u8 0, .int .u8 0, .int .u8 0, .int .u8 0, .int .u8 0, .int .u8 0, .int .u8 0, .int .u8 0, .int .u8 0, .int .u8 0, .int .u8 0, .int .u8 0, .int .u8 0, .int .u8 0, .int .u8 0, .int .u8 0, .int .u8 0, .int .u8 0, .int .u8 0, .int .u8 0, .int .u8 0, .int .u8 0, .int .u8 0, .int .u8 0, .int .u8 0, .int .u8 0, .int .u8 0, .int .u8 0, .int .u8 0] (by kernel_rfl), lit_one]
theorem Of_num (v : Value) (A : Int) (n : Nat) (w : World) (hv : Rd .u8 w v n (dg 256 A)) (hn : n ≤ 128) (hA : 0 ≤ A ∧ A < 256 ^ n) :
    Calls Try.prog 30 #[v] w fun e w' =>
      e = .returned (.tuple #[.agg (arr .u8 32 (dg 256 (A % Q))), .int .i64 0]) ∧ Below w.heap.size w w' := by
  have h := Of_ok v n (dg 256 A) w hv (fun i _ => dg_bound (by decide) A i) hn
  rw [sm_dg (by decide), Int.emod_eq_of_lt hA.1 hA.2] at h
  exact h
theorem byteNil : (0 : Int) ≤ 0 ∧ (0 : Int) < 256 ^ 32 := by decide
theorem byteOne : (0 : Int) ≤ 1 ∧ (1 : Int) < 256 ^ 32 := by decide
theorem byteQ : (0 : Int) ≤ Q ∧ Q < 256 ^ 32 := by decide
theorem num_comm (A B : Int) : (A + B) % Q = (B + A) % Q := by rw [Int.add_comm]
theorem num_mcomm (A B : Int) : A * B % Q = B * A % Q := by rw [Int.mul_comm]
theorem num_assoc (A B C : Int) : ((A + B) % Q + C) % Q = (A + (B + C) % Q) % Q := by rw [Int.emod_add_emod, Int.add_emod_emod, Int.add_assoc]
theorem num_massoc (A B C : Int) : (A * B % Q) * C % Q = A * (B * C % Q) % Q := by
  have h1 : (A * B % Q) * C % Q = A * B * C % Q := by conv => rhs; rw [Int.mul_emod]
                                                      conv => lhs; rw [Int.mul_emod, Int.emod_emod_of_dvd _ (Int.dvd_refl Q)]
  have h2 : A * (B * C % Q) % Q = A * (B * C) % Q := by conv => rhs; rw [Int.mul_emod]
                                                        conv => lhs; rw [Int.mul_emod, Int.emod_emod_of_dvd _ (Int.dvd_refl Q)]
  rw [h1, h2, Int.mul_assoc]
theorem num_dist (A B C : Int) : A * ((B + C) % Q) % Q = (A * B % Q + A * C % Q) % Q := by
  have h2 : A * ((B + C) % Q) % Q = A * (B + C) % Q := by conv => rhs; rw [Int.mul_emod]
                                                          conv => lhs; rw [Int.mul_emod, Int.emod_emod_of_dvd _ (Int.dvd_refl Q)]
  rw [h2, Int.mul_add, ← Int.add_emod]
theorem num_neg (A : Int) : (A + -A % Q) % Q = 0 := by rw [Int.add_emod_emod, Int.add_right_neg]; rfl
theorem num_order (A : Int) : Q * A % Q = 0 := Int.mul_emod_right Q A

set_option maxRecDepth 100000 in
set_option maxHeartbeats 6400000 in
theorem scalarLaws_law (w : World) (fa : Nat → Int) (ha : ∀ i, i < 32 → (Lit.int .u8 (fa i)).wf = true) (fb : Nat → Int) (hb : ∀ i, i < 32 → (Lit.int .u8 (fb i)).wf = true) (fc : Nat → Int) (hc : ∀ i, i < 32 → (Lit.int .u8 (fc i)).wf = true) :
    Calls Try.prog 10 #[.agg (arr .u8 32 fa), .agg (arr .u8 32 fb), .agg (arr .u8 32 fc)] w fun e w' => e = .returned (.bool true) ∧ Below w.heap.size w w' := by
  have num : ∀ f : Nat → Int, (∀ i, i < 32 → (Lit.int .u8 (f i)).wf = true) → ∃ X : Int, arr .u8 32 f = arr .u8 32 (dg 256 X) ∧ 0 ≤ X ∧ X < 256 ^ 32 := by
    intro f h
    have h' : ∀ i, i < 32 → 0 ≤ f i ∧ f i < 256 := fun i hi => by have := bounds_u8 (h i hi); omega
    exact ⟨sm 256 f 32, arr_congr fun i hi => (dg_sm (by decide) h' i hi).symm, sm_bound (by decide) h'⟩
  obtain ⟨A, eA, hA⟩ := num fa ha
  obtain ⟨B, eB, hB⟩ := num fb hb
  obtain ⟨C, eC, hC⟩ := num fc hc
  rw [eA, eB, eC]
  have HA := Lib.hid hA
  have HB := Lib.hid hB
  have HC := Lib.hid hC
  clear hA hB hC num ha hb hc eA eB eC
  go_enter Try.func10, Try.ntmps10
  have hA1 : Arr .u8 (((w.alloc (.cells (arr .u8 32 (dg 256 A)) 38)).alloc (.cells (arr .u8 32 (dg 256 B)) 38)).alloc (.cells (arr .u8 32 (dg 256 C)) 38)) w.heap.size 32 (dg 256 A) := Arr.alloc (Arr.alloc (Arr.newAt rfl rfl) _) _
  have hB1 : Arr .u8 (((w.alloc (.cells (arr .u8 32 (dg 256 A)) 38)).alloc (.cells (arr .u8 32 (dg 256 B)) 38)).alloc (.cells (arr .u8 32 (dg 256 C)) 38)) (w.heap.size + 1) 32 (dg 256 B) := Arr.alloc (Arr.newAt (by first | omega | (simp <;> omega)) rfl) _
  have hC1 : Arr .u8 (((w.alloc (.cells (arr .u8 32 (dg 256 A)) 38)).alloc (.cells (arr .u8 32 (dg 256 B)) 38)).alloc (.cells (arr .u8 32 (dg 256 C)) 38)) (w.heap.size + 2) 32 (dg 256 C) := Arr.newAt (by first | omega | (simp <;> omega)) rfl
  have hb1 : Below w.heap.size w (((w.alloc (.cells (arr .u8 32 (dg 256 A)) 38)).alloc (.cells (arr .u8 32 (dg 256 B)) 38)).alloc (.cells (arr .u8 32 (dg 256 C)) 38)) := (((Below.refl _ _).alloc (Nat.le_refl _) _).alloc (by simp) _).alloc (by simp; omega) _
  go_wp2_with fail
  refine (awake_any _).mono ?_
  rintro e w2 ⟨rfl, hb2⟩
  have hA := hA1.kept hb2
  have hB' := hB1.kept hb2
  have hC := hC1.kept hb2
  have hbel := hb1.trans (hb2.mono hb1.size)
  clear hA1 hB1 hC1 hb1 hb2
  go_wp2
  refine region_flow (n := 127) (by kernel_rfl) (by kernel_rfl) (by kernel_rfl) rfl
    (fun i v _ => (match i with | 0 | 4 | 21 | 22 | 28 | 30 => v = .func (.func 44) #[] #[] | 1 | 6 | 11 | 16 | 23 | 29 | 40 | 46 => v = .agg (arr .u8 32 (dg 256 (A))) | 2 | 5 | 12 | 15 | 24 | 31 | 41 | 48 => v = .agg (arr .u8 32 (dg 256 (B))) | 3 | 25 => v = .agg (arr .u8 32 (dg 256 (((A + B) % Q)))) | 7 => v = .agg (arr .u8 32 (dg 256 (((B + A) % Q)))) | 8 | 9 | 18 | 19 | 20 | 35 | 36 | 37 | 52 | 53 => v = .bool false | 10 | 14 | 38 | 39 | 45 | 47 => v = .func (.func 46) #[] #[] | 13 | 42 => v = .agg (arr .u8 32 (dg 256 ((A * B % Q)))) | 17 => v = .agg (arr .u8 32 (dg 256 ((B * A % Q)))) | 26 | 32 | 43 | 49 => v = .agg (arr .u8 32 (dg 256 (C))) | 27 => v = .agg (arr .u8 32 (dg 256 (((((A + B) % Q) + C) % Q)))) | 33 => v = .agg (arr .u8 32 (dg 256 (((B + C) % Q)))) | 34 => v = .agg (arr .u8 32 (dg 256 (((A + ((B + C) % Q)) % Q)))) | 44 => v = .agg (arr .u8 32 (dg 256 (((A * B % Q) * C % Q)))) | 50 => v = .agg (arr .u8 32 (dg 256 ((B * C % Q)))) | 51 => v = .agg (arr .u8 32 (dg 256 ((A * (B * C % Q) % Q)))) | _ => True))
    (fun w w' => Below w.heap.size w w') (fun _ _ h => h) (fun _ _ _ _ h _ => h) ?_ ?_
  · refine Each.all ?_
    refine ⟨?_, ?_, ?_, ?_, ?_, ?_, ?_, ?_, ?_, ?_, ?_, ?_, ?_, ?_, ?_, ?_, ?_, ?_, ?_, ?_, ?_, ?_, ?_, ?_, ?_, ?_, ?_, ?_, ?_, ?_, ?_, ?_, ?_, ?_, ?_, ?_, ?_, ?_, ?_, ?_, ?_, ?_, ?_, ?_, ?_, ?_, ?_, ?_, ?_, ?_, ?_, ?_, ?_, ?_, trivial⟩
    · intro a w2 hB hF hd
      rw [if_pos (wanted_none rfl)]
      exact flow_move _ (.inl rfl) (by simp) (hF.same 7 rfl)
    · intro a w2 hB hF hd
      rw [if_pos (wanted_none rfl)]
      exact flow_val (fun h => by cases h) (run_load_arr rfl Try.underlying38 Try.size38 (hF.same 3 rfl) (hA.below hB hA.lt)) rfl
    · intro a w2 hB hF hd
      rw [if_pos (wanted_none rfl)]
      exact flow_val (fun h => by cases h) (run_load_arr rfl Try.underlying38 Try.size38 (hF.same 4 rfl) (hB'.below hB hB'.lt)) rfl
    · intro a w2 hB hF hd
      rw [if_pos (wanted_none rfl)]
      refine flow_callv 44 _ _ _ rfl (hd 0 _ rfl (waits_spec rfl)) Try.call44 _ (args2 (hd 1 _ rfl (waits_spec rfl)) (hd 2 _ rfl (waits_spec rfl))) (by simp) ((Add_any A B w2 HA.out HB.out).mono ?_)
      rintro e w3 ⟨rfl, hb⟩; exact ⟨_, rfl, rfl, hb⟩
    · intro a w2 hB hF hd
      rw [if_pos (wanted_none rfl)]
      exact flow_move _ (.inl rfl) (by simp) (hF.same 7 rfl)
    · intro a w2 hB hF hd
      rw [if_pos (wanted_none rfl)]
      exact flow_val (fun h => by cases h) (run_load_arr rfl Try.underlying38 Try.size38 (hF.same 4 rfl) (hB'.below hB hB'.lt)) rfl
    · intro a w2 hB hF hd
      rw [if_pos (wanted_none rfl)]
      exact flow_val (fun h => by cases h) (run_load_arr rfl Try.underlying38 Try.size38 (hF.same 3 rfl) (hA.below hB hA.lt)) rfl
    · intro a w2 hB hF hd
      rw [if_pos (wanted_none rfl)]
      refine flow_callv 44 _ _ _ rfl (hd 4 _ rfl (waits_spec rfl)) Try.call44 _ (args2 (hd 5 _ rfl (waits_spec rfl)) (hd 6 _ rfl (waits_spec rfl))) (by simp) ((Add_any B A w2 HB.out HA.out).mono ?_)
      rintro e w3 ⟨rfl, hb⟩; exact ⟨_, rfl, rfl, hb⟩
    · intro a w2 hB hF hd
      rw [if_pos (wanted_none rfl)]
      exact flow_val (fun h => by cases h) (run_neq_arr true rfl (hd 3 _ rfl (waits_spec rfl)) (hd 7 _ rfl (waits_spec rfl)) Try.underlying38 (by kernel_rfl) (by kernel_rfl) (by kernel_rfl) (by kernel_rfl) (by kernel_rfl) (sameB_num (num_comm A B))) rfl
    · intro a w2 hB hF hd
      rw [if_pos (wanted_none rfl)]
      exact flow_move _ (.inl rfl) (by simp) (hd 8 _ rfl (waits_spec rfl))
    · intro a w2 hB hF hd
      refine flow_wanted (wanted_yes rfl rfl (hd 9 _ rfl (waits_spec rfl)) rfl) ?_
      exact flow_move _ (.inl rfl) (by simp) (hF.same 8 rfl)
    · intro a w2 hB hF hd
      refine flow_wanted (wanted_yes rfl rfl (hd 9 _ rfl (waits_spec rfl)) rfl) ?_
      exact flow_val (fun h => by cases h) (run_load_arr rfl Try.underlying38 Try.size38 (hF.same 3 rfl) (hA.below hB hA.lt)) rfl
    · intro a w2 hB hF hd
      refine flow_wanted (wanted_yes rfl rfl (hd 9 _ rfl (waits_spec rfl)) rfl) ?_
      exact flow_val (fun h => by cases h) (run_load_arr rfl Try.underlying38 Try.size38 (hF.same 4 rfl) (hB'.below hB hB'.lt)) rfl
    · intro a w2 hB hF hd
      refine flow_wanted (wanted_yes rfl rfl (hd 9 _ rfl (waits_spec rfl)) rfl) ?_
      refine flow_callv 46 _ _ _ rfl (hd 10 _ rfl (waits_spec rfl)) Try.call46 _ (args2 (hd 11 _ rfl (waits_spec rfl)) (hd 12 _ rfl (waits_spec rfl))) (by simp) ((Mul_any A B w2 HA.out HB.out).mono ?_)
      rintro e w3 ⟨rfl, hb⟩; exact ⟨_, rfl, rfl, hb⟩
    · intro a w2 hB hF hd
      refine flow_wanted (wanted_yes rfl rfl (hd 9 _ rfl (waits_spec rfl)) rfl) ?_
      exact flow_move _ (.inl rfl) (by simp) (hF.same 8 rfl)
    · intro a w2 hB hF hd
      refine flow_wanted (wanted_yes rfl rfl (hd 9 _ rfl (waits_spec rfl)) rfl) ?_
      exact flow_val (fun h => by cases h) (run_load_arr rfl Try.underlying38 Try.size38 (hF.same 4 rfl) (hB'.below hB hB'.lt)) rfl
    · intro a w2 hB hF hd
      refine flow_wanted (wanted_yes rfl rfl (hd 9 _ rfl (waits_spec rfl)) rfl) ?_
      exact flow_val (fun h => by cases h) (run_load_arr rfl Try.underlying38 Try.size38 (hF.same 3 rfl) (hA.below hB hA.lt)) rfl
    · intro a w2 hB hF hd
      refine flow_wanted (wanted_yes rfl rfl (hd 9 _ rfl (waits_spec rfl)) rfl) ?_
      refine flow_callv 46 _ _ _ rfl (hd 14 _ rfl (waits_spec rfl)) Try.call46 _ (args2 (hd 15 _ rfl (waits_spec rfl)) (hd 16 _ rfl (waits_spec rfl))) (by simp) ((Mul_any B A w2 HB.out HA.out).mono ?_)
      rintro e w3 ⟨rfl, hb⟩; exact ⟨_, rfl, rfl, hb⟩
    · intro a w2 hB hF hd
      refine flow_wanted (wanted_yes rfl rfl (hd 9 _ rfl (waits_spec rfl)) rfl) ?_
      exact flow_val (fun h => by cases h) (run_neq_arr true rfl (hd 13 _ rfl (waits_spec rfl)) (hd 17 _ rfl (waits_spec rfl)) Try.underlying38 (by kernel_rfl) (by kernel_rfl) (by kernel_rfl) (by kernel_rfl) (by kernel_rfl) (sameB_num (num_mcomm A B))) rfl
    · intro a w2 hB hF hd
      rw [if_pos (wanted_none rfl)]
      exact flow_val (fun h => by cases h) (run_pick rfl (hd 9 _ rfl (waits_spec rfl))) ((hd 18 _ rfl (waits_spec rfl)))
    · intro a w2 hB hF hd
      rw [if_pos (wanted_none rfl)]
      exact flow_move _ (.inl rfl) (by simp) (hd 19 _ rfl (waits_spec rfl))
    · intro a w2 hB hF hd
      refine flow_wanted (wanted_yes rfl rfl (hd 20 _ rfl (waits_spec rfl)) rfl) ?_
      exact flow_move _ (.inl rfl) (by simp) (hF.same 7 rfl)
    · intro a w2 hB hF hd
      refine flow_wanted (wanted_yes rfl rfl (hd 20 _ rfl (waits_spec rfl)) rfl) ?_
      exact flow_move _ (.inl rfl) (by simp) (hF.same 7 rfl)
    · intro a w2 hB hF hd
      refine flow_wanted (wanted_yes rfl rfl (hd 20 _ rfl (waits_spec rfl)) rfl) ?_
      exact flow_val (fun h => by cases h) (run_load_arr rfl Try.underlying38 Try.size38 (hF.same 3 rfl) (hA.below hB hA.lt)) rfl
    · intro a w2 hB hF hd
      refine flow_wanted (wanted_yes rfl rfl (hd 20 _ rfl (waits_spec rfl)) rfl) ?_
      exact flow_val (fun h => by cases h) (run_load_arr rfl Try.underlying38 Try.size38 (hF.same 4 rfl) (hB'.below hB hB'.lt)) rfl
    · intro a w2 hB hF hd
      refine flow_wanted (wanted_yes rfl rfl (hd 20 _ rfl (waits_spec rfl)) rfl) ?_
      refine flow_callv 44 _ _ _ rfl (hd 22 _ rfl (waits_spec rfl)) Try.call44 _ (args2 (hd 23 _ rfl (waits_spec rfl)) (hd 24 _ rfl (waits_spec rfl))) (by simp) ((Add_any A B w2 HA.out HB.out).mono ?_)
      rintro e w3 ⟨rfl, hb⟩; exact ⟨_, rfl, rfl, hb⟩
    · intro a w2 hB hF hd
      refine flow_wanted (wanted_yes rfl rfl (hd 20 _ rfl (waits_spec rfl)) rfl) ?_
      exact flow_val (fun h => by cases h) (run_load_arr rfl Try.underlying38 Try.size38 (hF.same 5 rfl) (hC.below hB hC.lt)) rfl
    · intro a w2 hB hF hd
      refine flow_wanted (wanted_yes rfl rfl (hd 20 _ rfl (waits_spec rfl)) rfl) ?_
      refine flow_callv 44 _ _ _ rfl (hd 21 _ rfl (waits_spec rfl)) Try.call44 _ (args2 (hd 25 _ rfl (waits_spec rfl)) (hd 26 _ rfl (waits_spec rfl))) (by simp) ((Add_any ((A + B) % Q) C w2 (modQ_byte _) HC.out).mono ?_)
      rintro e w3 ⟨rfl, hb⟩; exact ⟨_, rfl, rfl, hb⟩
    · intro a w2 hB hF hd
      refine flow_wanted (wanted_yes rfl rfl (hd 20 _ rfl (waits_spec rfl)) rfl) ?_
      exact flow_move _ (.inl rfl) (by simp) (hF.same 7 rfl)
    · intro a w2 hB hF hd
      refine flow_wanted (wanted_yes rfl rfl (hd 20 _ rfl (waits_spec rfl)) rfl) ?_
      exact flow_val (fun h => by cases h) (run_load_arr rfl Try.underlying38 Try.size38 (hF.same 3 rfl) (hA.below hB hA.lt)) rfl
    · intro a w2 hB hF hd
      refine flow_wanted (wanted_yes rfl rfl (hd 20 _ rfl (waits_spec rfl)) rfl) ?_
      exact flow_move _ (.inl rfl) (by simp) (hF.same 7 rfl)
    · intro a w2 hB hF hd
      refine flow_wanted (wanted_yes rfl rfl (hd 20 _ rfl (waits_spec rfl)) rfl) ?_
      exact flow_val (fun h => by cases h) (run_load_arr rfl Try.underlying38 Try.size38 (hF.same 4 rfl) (hB'.below hB hB'.lt)) rfl
    · intro a w2 hB hF hd
      refine flow_wanted (wanted_yes rfl rfl (hd 20 _ rfl (waits_spec rfl)) rfl) ?_
      exact flow_val (fun h => by cases h) (run_load_arr rfl Try.underlying38 Try.size38 (hF.same 5 rfl) (hC.below hB hC.lt)) rfl
    · intro a w2 hB hF hd
      refine flow_wanted (wanted_yes rfl rfl (hd 20 _ rfl (waits_spec rfl)) rfl) ?_
      refine flow_callv 44 _ _ _ rfl (hd 30 _ rfl (waits_spec rfl)) Try.call44 _ (args2 (hd 31 _ rfl (waits_spec rfl)) (hd 32 _ rfl (waits_spec rfl))) (by simp) ((Add_any B C w2 HB.out HC.out).mono ?_)
      rintro e w3 ⟨rfl, hb⟩; exact ⟨_, rfl, rfl, hb⟩
    · intro a w2 hB hF hd
      refine flow_wanted (wanted_yes rfl rfl (hd 20 _ rfl (waits_spec rfl)) rfl) ?_
      refine flow_callv 44 _ _ _ rfl (hd 28 _ rfl (waits_spec rfl)) Try.call44 _ (args2 (hd 29 _ rfl (waits_spec rfl)) (hd 33 _ rfl (waits_spec rfl))) (by simp) ((Add_any A ((B + C) % Q) w2 HA.out (modQ_byte _)).mono ?_)
      rintro e w3 ⟨rfl, hb⟩; exact ⟨_, rfl, rfl, hb⟩
    · intro a w2 hB hF hd
      refine flow_wanted (wanted_yes rfl rfl (hd 20 _ rfl (waits_spec rfl)) rfl) ?_
      exact flow_val (fun h => by cases h) (run_neq_arr true rfl (hd 27 _ rfl (waits_spec rfl)) (hd 34 _ rfl (waits_spec rfl)) Try.underlying38 (by kernel_rfl) (by kernel_rfl) (by kernel_rfl) (by kernel_rfl) (by kernel_rfl) (sameB_num (num_assoc A B C))) rfl
    · intro a w2 hB hF hd
      rw [if_pos (wanted_none rfl)]
      exact flow_val (fun h => by cases h) (run_pick rfl (hd 20 _ rfl (waits_spec rfl))) ((hd 35 _ rfl (waits_spec rfl)))
    · intro a w2 hB hF hd
      rw [if_pos (wanted_none rfl)]
      exact flow_move _ (.inl rfl) (by simp) (hd 36 _ rfl (waits_spec rfl))
    · intro a w2 hB hF hd
      refine flow_wanted (wanted_yes rfl rfl (hd 37 _ rfl (waits_spec rfl)) rfl) ?_
      exact flow_move _ (.inl rfl) (by simp) (hF.same 8 rfl)
    · intro a w2 hB hF hd
      refine flow_wanted (wanted_yes rfl rfl (hd 37 _ rfl (waits_spec rfl)) rfl) ?_
      exact flow_move _ (.inl rfl) (by simp) (hF.same 8 rfl)
    · intro a w2 hB hF hd
      refine flow_wanted (wanted_yes rfl rfl (hd 37 _ rfl (waits_spec rfl)) rfl) ?_
      exact flow_val (fun h => by cases h) (run_load_arr rfl Try.underlying38 Try.size38 (hF.same 3 rfl) (hA.below hB hA.lt)) rfl
    · intro a w2 hB hF hd
      refine flow_wanted (wanted_yes rfl rfl (hd 37 _ rfl (waits_spec rfl)) rfl) ?_
      exact flow_val (fun h => by cases h) (run_load_arr rfl Try.underlying38 Try.size38 (hF.same 4 rfl) (hB'.below hB hB'.lt)) rfl
    · intro a w2 hB hF hd
      refine flow_wanted (wanted_yes rfl rfl (hd 37 _ rfl (waits_spec rfl)) rfl) ?_
      refine flow_callv 46 _ _ _ rfl (hd 39 _ rfl (waits_spec rfl)) Try.call46 _ (args2 (hd 40 _ rfl (waits_spec rfl)) (hd 41 _ rfl (waits_spec rfl))) (by simp) ((Mul_any A B w2 HA.out HB.out).mono ?_)
      rintro e w3 ⟨rfl, hb⟩; exact ⟨_, rfl, rfl, hb⟩
    · intro a w2 hB hF hd
      refine flow_wanted (wanted_yes rfl rfl (hd 37 _ rfl (waits_spec rfl)) rfl) ?_
      exact flow_val (fun h => by cases h) (run_load_arr rfl Try.underlying38 Try.size38 (hF.same 5 rfl) (hC.below hB hC.lt)) rfl
    · intro a w2 hB hF hd
      refine flow_wanted (wanted_yes rfl rfl (hd 37 _ rfl (waits_spec rfl)) rfl) ?_
      refine flow_callv 46 _ _ _ rfl (hd 38 _ rfl (waits_spec rfl)) Try.call46 _ (args2 (hd 42 _ rfl (waits_spec rfl)) (hd 43 _ rfl (waits_spec rfl))) (by simp) ((Mul_any (A * B % Q) C w2 (modQ_byte _) HC.out).mono ?_)
      rintro e w3 ⟨rfl, hb⟩; exact ⟨_, rfl, rfl, hb⟩
    · intro a w2 hB hF hd
      refine flow_wanted (wanted_yes rfl rfl (hd 37 _ rfl (waits_spec rfl)) rfl) ?_
      exact flow_move _ (.inl rfl) (by simp) (hF.same 8 rfl)
    · intro a w2 hB hF hd
      refine flow_wanted (wanted_yes rfl rfl (hd 37 _ rfl (waits_spec rfl)) rfl) ?_
      exact flow_val (fun h => by cases h) (run_load_arr rfl Try.underlying38 Try.size38 (hF.same 3 rfl) (hA.below hB hA.lt)) rfl
    · intro a w2 hB hF hd
      refine flow_wanted (wanted_yes rfl rfl (hd 37 _ rfl (waits_spec rfl)) rfl) ?_
      exact flow_move _ (.inl rfl) (by simp) (hF.same 8 rfl)
    · intro a w2 hB hF hd
      refine flow_wanted (wanted_yes rfl rfl (hd 37 _ rfl (waits_spec rfl)) rfl) ?_
      exact flow_val (fun h => by cases h) (run_load_arr rfl Try.underlying38 Try.size38 (hF.same 4 rfl) (hB'.below hB hB'.lt)) rfl
    · intro a w2 hB hF hd
      refine flow_wanted (wanted_yes rfl rfl (hd 37 _ rfl (waits_spec rfl)) rfl) ?_
      exact flow_val (fun h => by cases h) (run_load_arr rfl Try.underlying38 Try.size38 (hF.same 5 rfl) (hC.below hB hC.lt)) rfl
    · intro a w2 hB hF hd
      refine flow_wanted (wanted_yes rfl rfl (hd 37 _ rfl (waits_spec rfl)) rfl) ?_
      refine flow_callv 46 _ _ _ rfl (hd 47 _ rfl (waits_spec rfl)) Try.call46 _ (args2 (hd 48 _ rfl (waits_spec rfl)) (hd 49 _ rfl (waits_spec rfl))) (by simp) ((Mul_any B C w2 HB.out HC.out).mono ?_)
      rintro e w3 ⟨rfl, hb⟩; exact ⟨_, rfl, rfl, hb⟩
    · intro a w2 hB hF hd
      refine flow_wanted (wanted_yes rfl rfl (hd 37 _ rfl (waits_spec rfl)) rfl) ?_
      refine flow_callv 46 _ _ _ rfl (hd 45 _ rfl (waits_spec rfl)) Try.call46 _ (args2 (hd 46 _ rfl (waits_spec rfl)) (hd 50 _ rfl (waits_spec rfl))) (by simp) ((Mul_any A (B * C % Q) w2 HA.out (modQ_byte _)).mono ?_)
      rintro e w3 ⟨rfl, hb⟩; exact ⟨_, rfl, rfl, hb⟩
    · intro a w2 hB hF hd
      refine flow_wanted (wanted_yes rfl rfl (hd 37 _ rfl (waits_spec rfl)) rfl) ?_
      exact flow_val (fun h => by cases h) (run_neq_arr true rfl (hd 44 _ rfl (waits_spec rfl)) (hd 51 _ rfl (waits_spec rfl)) Try.underlying38 (by kernel_rfl) (by kernel_rfl) (by kernel_rfl) (by kernel_rfl) (by kernel_rfl) (sameB_num (num_massoc A B C))) rfl
    · intro a w2 hB hF hd
      rw [if_pos (wanted_none rfl)]
      exact flow_val (fun h => by cases h) (run_pick rfl (hd 37 _ rfl (waits_spec rfl))) ((hd 52 _ rfl (waits_spec rfl)))
  · intro a w3 hB hF hS
    have ha := puts_each rfl rfl hF [_, _, _, _, _, _, _, _, _, _, _, _, _, _, _, _, _, _, _, _, _, _, _, _, _, _, _, _, _, _, _, _, _, _, _, _, _, _, _, _, _, _, _, _, _, _, _, _, _, _, _, _, _, _] rfl ⟨hS 0 _ rfl, hS 1 _ rfl, hS 2 _ rfl, hS 3 _ rfl, hS 4 _ rfl, hS 5 _ rfl, hS 6 _ rfl, hS 7 _ rfl, hS 8 _ rfl, hS 9 _ rfl, hS 10 _ rfl, hS 11 _ rfl, hS 12 _ rfl, hS 13 _ rfl, hS 14 _ rfl, hS 15 _ rfl, hS 16 _ rfl, hS 17 _ rfl, hS 18 _ rfl, hS 19 _ rfl, hS 20 _ rfl, hS 21 _ rfl, hS 22 _ rfl, hS 23 _ rfl, hS 24 _ rfl, hS 25 _ rfl, hS 26 _ rfl, hS 27 _ rfl, hS 28 _ rfl, hS 29 _ rfl, hS 30 _ rfl, hS 31 _ rfl, hS 32 _ rfl, hS 33 _ rfl, hS 34 _ rfl, hS 35 _ rfl, hS 36 _ rfl, hS 37 _ rfl, hS 38 _ rfl, hS 39 _ rfl, hS 40 _ rfl, hS 41 _ rfl, hS 42 _ rfl, hS 43 _ rfl, hS 44 _ rfl, hS 45 _ rfl, hS 46 _ rfl, hS 47 _ rfl, hS 48 _ rfl, hS 49 _ rfl, hS 50 _ rfl, hS 51 _ rfl, hS 52 _ rfl, hS 53 _ rfl, trivial⟩
    simp only [puts, Act.put, List.setIfInBounds_toArray, List.set_cons_succ, List.set_cons_zero] at ha
    subst ha
    clear hS hF
    have hA3 := hA.below hB hA.lt
    have hB3 := hB'.below hB hB'.lt
    have hC3 := hC.below hB hC.lt
    have hbel3 := hbel.trans (hB.mono hbel.size)
    have l1 := hA.lt
    clear hA hB' hC hbel hB
    go_wp2_with fail
    refine (Of_num _ A 32 _ (hA3.rd (by decide)) (by decide) HA.out).mono ?_
    rintro e w4 ⟨rfl, hb4⟩
    have hA4 := hA3.kept hb4
    have hB4 := hB3.kept hb4
    have hC4 := hC3.kept hb4
    have hbel4 := hbel3.trans (hb4.mono hbel3.size)
    have hA4l := hA4.lt
    have hB4l := hB4.lt
    have hC4l := hC4.lt
    clear hA3 hB3 hC3 hb4 hbel3 l1
    go_wp2_with (refine store_arr rfl 38 _ _ rfl .u8 w4.heap.size 32 (fun _ => 0) _ Try.size38 rfl rfl (Arr.newAt rfl rfl) ?_)
    refine wp_world (fun w5 => Arr .u8 w5 w4.heap.size 32 (dg 256 (A % Q)) ∧ Arr .u8 w5 w.heap.size 32 (dg 256 A) ∧ Arr .u8 w5 (w.heap.size + 1) 32 (dg 256 B) ∧ Arr .u8 w5 (w.heap.size + 2) 32 (dg 256 C) ∧ Below w.heap.size w w5)
      ⟨Arr.setRow (Arr.newAt (n := 32) (f := fun _ => 0) rfl rfl) _ _, Arr.setRowOther (Arr.alloc hA4 _) _ (by omega) _, Arr.setRowOther (Arr.alloc hB4 _) _ (by omega) _, Arr.setRowOther (Arr.alloc hC4 _) _ (by omega) _, below_setRow' (hbel4.alloc hbel4.size _) hbel4.size _⟩ ?_
    rintro w5 ⟨hX, hA, hB', hC, hbel⟩
    clear hA4 hB4 hC4 hA4l hB4l hC4l hbel4
    refine region_flow (n := 127) (by kernel_rfl) (by kernel_rfl) (by kernel_rfl) rfl
      (fun i v _ => (match i with | 0 | 8 | 12 | 40 | 48 => v = .func (.func 46) #[] #[] | 1 | 9 | 13 | 20 | 21 | 33 | 41 | 50 => v = .agg (arr .u8 32 (dg 256 (A))) | 2 | 7 | 19 | 32 => v = .func (.func 44) #[] #[] | 3 | 10 => v = .agg (arr .u8 32 (dg 256 (B))) | 4 | 14 => v = .agg (arr .u8 32 (dg 256 (C))) | 5 => v = .agg (arr .u8 32 (dg 256 (((B + C) % Q)))) | 6 => v = .agg (arr .u8 32 (dg 256 ((A * ((B + C) % Q) % Q)))) | 11 => v = .agg (arr .u8 32 (dg 256 ((A * B % Q)))) | 15 => v = .agg (arr .u8 32 (dg 256 ((A * C % Q)))) | 16 => v = .agg (arr .u8 32 (dg 256 ((((A * B % Q) + (A * C % Q)) % Q)))) | 17 | 18 | 25 | 26 | 27 | 29 | 30 | 31 | 37 | 38 | 39 | 45 | 46 | 47 | 53 | 54 | 55 => v = .bool true | 22 => v = .agg (arr .u8 32 (dg 256 ((-A % Q)))) | 23 => v = .agg (arr .u8 32 (dg 256 (((A + (-A % Q)) % Q)))) | 24 | 34 | 52 => v = .agg (arr .u8 32 (dg 256 (0))) | 28 => v = .int .i64 (0) | 35 => v = .agg (arr .u8 32 (dg 256 (((A + 0) % Q)))) | 36 | 44 => v = .agg (arr .u8 32 (dg 256 ((A % Q)))) | 42 => v = .agg (arr .u8 32 (dg 256 (1))) | 43 => v = .agg (arr .u8 32 (dg 256 ((A * 1 % Q)))) | 49 => v = .agg (arr .u8 32 (dg 256 (Q))) | 51 => v = .agg (arr .u8 32 (dg 256 ((Q * A % Q)))) | _ => True))
      (fun w w' => Below w.heap.size w w') (fun _ _ h => h) (fun _ _ _ _ h _ => h) ?_ ?_
    · refine Each.all ?_
      refine ⟨?_, ?_, ?_, ?_, ?_, ?_, ?_, ?_, ?_, ?_, ?_, ?_, ?_, ?_, ?_, ?_, ?_, ?_, ?_, ?_, ?_, ?_, ?_, ?_, ?_, ?_, ?_, ?_, ?_, ?_, ?_, ?_, ?_, ?_, ?_, ?_, ?_, ?_, ?_, ?_, ?_, ?_, ?_, ?_, ?_, ?_, ?_, ?_, ?_, ?_, ?_, ?_, ?_, ?_, ?_, ?_, trivial⟩
      · intro a w2 hB hF hd
        rw [if_pos (wanted_none rfl)]
        exact flow_move _ (.inl rfl) (by simp) (hF.same 8 rfl)
      · intro a w2 hB hF hd
        rw [if_pos (wanted_none rfl)]
        exact flow_val (fun h => by cases h) (run_load_arr rfl Try.underlying38 Try.size38 (hF.same 3 rfl) (hA.below hB hA.lt)) rfl
      · intro a w2 hB hF hd
        rw [if_pos (wanted_none rfl)]
        exact flow_move _ (.inl rfl) (by simp) (hF.same 7 rfl)
      · intro a w2 hB hF hd
        rw [if_pos (wanted_none rfl)]
        exact flow_val (fun h => by cases h) (run_load_arr rfl Try.underlying38 Try.size38 (hF.same 4 rfl) (hB'.below hB hB'.lt)) rfl
      · intro a w2 hB hF hd
        rw [if_pos (wanted_none rfl)]
        exact flow_val (fun h => by cases h) (run_load_arr rfl Try.underlying38 Try.size38 (hF.same 5 rfl) (hC.below hB hC.lt)) rfl
      · intro a w2 hB hF hd
        rw [if_pos (wanted_none rfl)]
        refine flow_callv 44 _ _ _ rfl (hd 2 _ rfl (waits_spec rfl)) Try.call44 _ (args2 (hd 3 _ rfl (waits_spec rfl)) (hd 4 _ rfl (waits_spec rfl))) (by simp) ((Add_any B C w2 HB.out HC.out).mono ?_)
        rintro e w3 ⟨rfl, hb⟩; exact ⟨_, rfl, rfl, hb⟩
      · intro a w2 hB hF hd
        rw [if_pos (wanted_none rfl)]
        refine flow_callv 46 _ _ _ rfl (hd 0 _ rfl (waits_spec rfl)) Try.call46 _ (args2 (hd 1 _ rfl (waits_spec rfl)) (hd 5 _ rfl (waits_spec rfl))) (by simp) ((Mul_any A ((B + C) % Q) w2 HA.out (modQ_byte _)).mono ?_)
        rintro e w3 ⟨rfl, hb⟩; exact ⟨_, rfl, rfl, hb⟩
      · intro a w2 hB hF hd
        rw [if_pos (wanted_none rfl)]
        exact flow_move _ (.inl rfl) (by simp) (hF.same 7 rfl)
      · intro a w2 hB hF hd
        rw [if_pos (wanted_none rfl)]
        exact flow_move _ (.inl rfl) (by simp) (hF.same 8 rfl)
      · intro a w2 hB hF hd
        rw [if_pos (wanted_none rfl)]
        exact flow_val (fun h => by cases h) (run_load_arr rfl Try.underlying38 Try.size38 (hF.same 3 rfl) (hA.below hB hA.lt)) rfl
      · intro a w2 hB hF hd
        rw [if_pos (wanted_none rfl)]
        exact flow_val (fun h => by cases h) (run_load_arr rfl Try.underlying38 Try.size38 (hF.same 4 rfl) (hB'.below hB hB'.lt)) rfl
      · intro a w2 hB hF hd
        rw [if_pos (wanted_none rfl)]
        refine flow_callv 46 _ _ _ rfl (hd 8 _ rfl (waits_spec rfl)) Try.call46 _ (args2 (hd 9 _ rfl (waits_spec rfl)) (hd 10 _ rfl (waits_spec rfl))) (by simp) ((Mul_any A B w2 HA.out HB.out).mono ?_)
        rintro e w3 ⟨rfl, hb⟩; exact ⟨_, rfl, rfl, hb⟩
      · intro a w2 hB hF hd
        rw [if_pos (wanted_none rfl)]
        exact flow_move _ (.inl rfl) (by simp) (hF.same 8 rfl)
      · intro a w2 hB hF hd
        rw [if_pos (wanted_none rfl)]
        exact flow_val (fun h => by cases h) (run_load_arr rfl Try.underlying38 Try.size38 (hF.same 3 rfl) (hA.below hB hA.lt)) rfl
      · intro a w2 hB hF hd
        rw [if_pos (wanted_none rfl)]
        exact flow_val (fun h => by cases h) (run_load_arr rfl Try.underlying38 Try.size38 (hF.same 5 rfl) (hC.below hB hC.lt)) rfl
      · intro a w2 hB hF hd
        rw [if_pos (wanted_none rfl)]
        refine flow_callv 46 _ _ _ rfl (hd 12 _ rfl (waits_spec rfl)) Try.call46 _ (args2 (hd 13 _ rfl (waits_spec rfl)) (hd 14 _ rfl (waits_spec rfl))) (by simp) ((Mul_any A C w2 HA.out HC.out).mono ?_)
        rintro e w3 ⟨rfl, hb⟩; exact ⟨_, rfl, rfl, hb⟩
      · intro a w2 hB hF hd
        rw [if_pos (wanted_none rfl)]
        refine flow_callv 44 _ _ _ rfl (hd 7 _ rfl (waits_spec rfl)) Try.call44 _ (args2 (hd 11 _ rfl (waits_spec rfl)) (hd 15 _ rfl (waits_spec rfl))) (by simp) ((Add_any (A * B % Q) (A * C % Q) w2 (modQ_byte _) (modQ_byte _)).mono ?_)
        rintro e w3 ⟨rfl, hb⟩; exact ⟨_, rfl, rfl, hb⟩
      · intro a w2 hB hF hd
        rw [if_pos (wanted_none rfl)]
        exact flow_val (fun h => by cases h) (run_eql_arr true rfl (hd 6 _ rfl (waits_spec rfl)) (hd 16 _ rfl (waits_spec rfl)) Try.underlying38 (by kernel_rfl) (by kernel_rfl) (by kernel_rfl) (by kernel_rfl) (by kernel_rfl) (sameB_num (num_dist A B C))) rfl
      · intro a w2 hB hF hd
        rw [if_pos (wanted_none rfl)]
        exact flow_move _ (.inl rfl) (by simp) (hd 17 _ rfl (waits_spec rfl))
      · intro a w2 hB hF hd
        refine flow_wanted (wanted_yes rfl rfl (hd 18 _ rfl (waits_spec rfl)) rfl) ?_
        exact flow_move _ (.inl rfl) (by simp) (hF.same 7 rfl)
      · intro a w2 hB hF hd
        refine flow_wanted (wanted_yes rfl rfl (hd 18 _ rfl (waits_spec rfl)) rfl) ?_
        exact flow_val (fun h => by cases h) (run_load_arr rfl Try.underlying38 Try.size38 (hF.same 3 rfl) (hA.below hB hA.lt)) rfl
      · intro a w2 hB hF hd
        refine flow_wanted (wanted_yes rfl rfl (hd 18 _ rfl (waits_spec rfl)) rfl) ?_
        exact flow_val (fun h => by cases h) (run_load_arr rfl Try.underlying38 Try.size38 (hF.same 3 rfl) (hA.below hB hA.lt)) rfl
      · intro a w2 hB hF hd
        refine flow_wanted (wanted_yes rfl rfl (hd 18 _ rfl (waits_spec rfl)) rfl) ?_
        refine flow_call _ _ _ rfl Try.call43 _ (args1 (hd 21 _ rfl (waits_spec rfl))) (by simp) ((Neg_any A w2 HA.out).mono ?_)
        rintro e w3 ⟨rfl, hb⟩; exact ⟨_, rfl, rfl, hb⟩
      · intro a w2 hB hF hd
        refine flow_wanted (wanted_yes rfl rfl (hd 18 _ rfl (waits_spec rfl)) rfl) ?_
        refine flow_callv 44 _ _ _ rfl (hd 19 _ rfl (waits_spec rfl)) Try.call44 _ (args2 (hd 20 _ rfl (waits_spec rfl)) (hd 22 _ rfl (waits_spec rfl))) (by simp) ((Add_any A (-A % Q) w2 HA.out (modQ_byte _)).mono ?_)
        rintro e w3 ⟨rfl, hb⟩; exact ⟨_, rfl, rfl, hb⟩
      · intro a w2 hB hF hd
        refine flow_wanted (wanted_yes rfl rfl (hd 18 _ rfl (waits_spec rfl)) rfl) ?_
        exact flow_val (fun h => by cases h) (run_built rfl (build_nil _)) rfl
      · intro a w2 hB hF hd
        refine flow_wanted (wanted_yes rfl rfl (hd 18 _ rfl (waits_spec rfl)) rfl) ?_
        exact flow_val (fun h => by cases h) (run_eql_arr true rfl (hd 23 _ rfl (waits_spec rfl)) (hd 24 _ rfl (waits_spec rfl)) Try.underlying38 (by kernel_rfl) (by kernel_rfl) (by kernel_rfl) (by kernel_rfl) (by kernel_rfl) (sameB_num (num_neg A))) rfl
      · intro a w2 hB hF hd
        rw [if_pos (wanted_none rfl)]
        exact flow_val (fun h => by cases h) (run_pick rfl (hd 18 _ rfl (waits_spec rfl))) ((hd 25 _ rfl (waits_spec rfl)))
      · intro a w2 hB hF hd
        rw [if_pos (wanted_none rfl)]
        exact flow_move _ (.inl rfl) (by simp) (hd 26 _ rfl (waits_spec rfl))
      · intro a w2 hB hF hd
        refine flow_wanted (wanted_yes rfl rfl (hd 27 _ rfl (waits_spec rfl)) rfl) ?_
        exact flow_move _ (.inl rfl) (by simp) (hF.same 10 rfl)
      · intro a w2 hB hF hd
        refine flow_wanted (wanted_yes rfl rfl (hd 27 _ rfl (waits_spec rfl)) rfl) ?_
        refine flow_val (fun h => by cases h) (Go.Bas.run_eql_int rfl (hd 28 _ rfl (waits_spec rfl)) rfl) ?_
        exact rfl
      · intro a w2 hB hF hd
        rw [if_pos (wanted_none rfl)]
        exact flow_val (fun h => by cases h) (run_pick rfl (hd 27 _ rfl (waits_spec rfl))) ((hd 29 _ rfl (waits_spec rfl)))
      · intro a w2 hB hF hd
        rw [if_pos (wanted_none rfl)]
        exact flow_move _ (.inl rfl) (by simp) (hd 30 _ rfl (waits_spec rfl))
      · intro a w2 hB hF hd
        refine flow_wanted (wanted_yes rfl rfl (hd 31 _ rfl (waits_spec rfl)) rfl) ?_
        exact flow_move _ (.inl rfl) (by simp) (hF.same 7 rfl)
      · intro a w2 hB hF hd
        refine flow_wanted (wanted_yes rfl rfl (hd 31 _ rfl (waits_spec rfl)) rfl) ?_
        exact flow_val (fun h => by cases h) (run_load_arr rfl Try.underlying38 Try.size38 (hF.same 3 rfl) (hA.below hB hA.lt)) rfl
      · intro a w2 hB hF hd
        refine flow_wanted (wanted_yes rfl rfl (hd 31 _ rfl (waits_spec rfl)) rfl) ?_
        exact flow_val (fun h => by cases h) (run_built rfl (build_nil _)) rfl
      · intro a w2 hB hF hd
        refine flow_wanted (wanted_yes rfl rfl (hd 31 _ rfl (waits_spec rfl)) rfl) ?_
        refine flow_callv 44 _ _ _ rfl (hd 32 _ rfl (waits_spec rfl)) Try.call44 _ (args2 (hd 33 _ rfl (waits_spec rfl)) (hd 34 _ rfl (waits_spec rfl))) (by simp) ((Add_any A 0 w2 HA.out byteNil).mono ?_)
        rintro e w3 ⟨rfl, hb⟩; exact ⟨_, rfl, rfl, hb⟩
      · intro a w2 hB hF hd
        refine flow_wanted (wanted_yes rfl rfl (hd 31 _ rfl (waits_spec rfl)) rfl) ?_
        exact flow_val (fun h => by cases h) (run_load_arr rfl Try.underlying38 Try.size38 (hF.same 9 rfl) (hX.below hB hX.lt)) rfl
      · intro a w2 hB hF hd
        refine flow_wanted (wanted_yes rfl rfl (hd 31 _ rfl (waits_spec rfl)) rfl) ?_
        exact flow_val (fun h => by cases h) (run_eql_arr true rfl (hd 35 _ rfl (waits_spec rfl)) (hd 36 _ rfl (waits_spec rfl)) Try.underlying38 (by kernel_rfl) (by kernel_rfl) (by kernel_rfl) (by kernel_rfl) (by kernel_rfl) (sameB_num (by rw [Int.add_zero]))) rfl
      · intro a w2 hB hF hd
        rw [if_pos (wanted_none rfl)]
        exact flow_val (fun h => by cases h) (run_pick rfl (hd 31 _ rfl (waits_spec rfl))) ((hd 37 _ rfl (waits_spec rfl)))
      · intro a w2 hB hF hd
        rw [if_pos (wanted_none rfl)]
        exact flow_move _ (.inl rfl) (by simp) (hd 38 _ rfl (waits_spec rfl))
      · intro a w2 hB hF hd
        refine flow_wanted (wanted_yes rfl rfl (hd 39 _ rfl (waits_spec rfl)) rfl) ?_
        exact flow_move _ (.inl rfl) (by simp) (hF.same 8 rfl)
      · intro a w2 hB hF hd
        refine flow_wanted (wanted_yes rfl rfl (hd 39 _ rfl (waits_spec rfl)) rfl) ?_
        exact flow_val (fun h => by cases h) (run_load_arr rfl Try.underlying38 Try.size38 (hF.same 3 rfl) (hA.below hB hA.lt)) rfl
      · intro a w2 hB hF hd
        refine flow_wanted (wanted_yes rfl rfl (hd 39 _ rfl (waits_spec rfl)) rfl) ?_
        exact flow_val (fun h => by cases h) (run_built rfl (build_one _)) rfl
      · intro a w2 hB hF hd
        refine flow_wanted (wanted_yes rfl rfl (hd 39 _ rfl (waits_spec rfl)) rfl) ?_
        refine flow_callv 46 _ _ _ rfl (hd 40 _ rfl (waits_spec rfl)) Try.call46 _ (args2 (hd 41 _ rfl (waits_spec rfl)) (hd 42 _ rfl (waits_spec rfl))) (by simp) ((Mul_any A 1 w2 HA.out byteOne).mono ?_)
        rintro e w3 ⟨rfl, hb⟩; exact ⟨_, rfl, rfl, hb⟩
      · intro a w2 hB hF hd
        refine flow_wanted (wanted_yes rfl rfl (hd 39 _ rfl (waits_spec rfl)) rfl) ?_
        exact flow_val (fun h => by cases h) (run_load_arr rfl Try.underlying38 Try.size38 (hF.same 9 rfl) (hX.below hB hX.lt)) rfl
      · intro a w2 hB hF hd
        refine flow_wanted (wanted_yes rfl rfl (hd 39 _ rfl (waits_spec rfl)) rfl) ?_
        exact flow_val (fun h => by cases h) (run_eql_arr true rfl (hd 43 _ rfl (waits_spec rfl)) (hd 44 _ rfl (waits_spec rfl)) Try.underlying38 (by kernel_rfl) (by kernel_rfl) (by kernel_rfl) (by kernel_rfl) (by kernel_rfl) (sameB_num (by rw [Int.mul_one]))) rfl
      · intro a w2 hB hF hd
        rw [if_pos (wanted_none rfl)]
        exact flow_val (fun h => by cases h) (run_pick rfl (hd 39 _ rfl (waits_spec rfl))) ((hd 45 _ rfl (waits_spec rfl)))
      · intro a w2 hB hF hd
        rw [if_pos (wanted_none rfl)]
        exact flow_move _ (.inl rfl) (by simp) (hd 46 _ rfl (waits_spec rfl))
      · intro a w2 hB hF hd
        refine flow_wanted (wanted_yes rfl rfl (hd 47 _ rfl (waits_spec rfl)) rfl) ?_
        exact flow_move _ (.inl rfl) (by simp) (hF.same 8 rfl)
      · intro a w2 hB hF hd
        refine flow_wanted (wanted_yes rfl rfl (hd 47 _ rfl (waits_spec rfl)) rfl) ?_
        refine flow_call _ _ _ rfl Try.call31 _ args0 (by simp) ((order_any w2).mono ?_)
        rintro e w3 ⟨rfl, hb⟩; exact ⟨_, rfl, rfl, hb⟩
      · intro a w2 hB hF hd
        refine flow_wanted (wanted_yes rfl rfl (hd 47 _ rfl (waits_spec rfl)) rfl) ?_
        exact flow_val (fun h => by cases h) (run_load_arr rfl Try.underlying38 Try.size38 (hF.same 3 rfl) (hA.below hB hA.lt)) rfl
      · intro a w2 hB hF hd
        refine flow_wanted (wanted_yes rfl rfl (hd 47 _ rfl (waits_spec rfl)) rfl) ?_
        refine flow_callv 46 _ _ _ rfl (hd 48 _ rfl (waits_spec rfl)) Try.call46 _ (args2 (hd 49 _ rfl (waits_spec rfl)) (hd 50 _ rfl (waits_spec rfl))) (by simp) ((Mul_any Q A w2 byteQ HA.out).mono ?_)
        rintro e w3 ⟨rfl, hb⟩; exact ⟨_, rfl, rfl, hb⟩
      · intro a w2 hB hF hd
        refine flow_wanted (wanted_yes rfl rfl (hd 47 _ rfl (waits_spec rfl)) rfl) ?_
        exact flow_val (fun h => by cases h) (run_built rfl (build_nil _)) rfl
      · intro a w2 hB hF hd
        refine flow_wanted (wanted_yes rfl rfl (hd 47 _ rfl (waits_spec rfl)) rfl) ?_
        exact flow_val (fun h => by cases h) (run_eql_arr true rfl (hd 51 _ rfl (waits_spec rfl)) (hd 52 _ rfl (waits_spec rfl)) Try.underlying38 (by kernel_rfl) (by kernel_rfl) (by kernel_rfl) (by kernel_rfl) (by kernel_rfl) (sameB_num (num_order A))) rfl
      · intro a w2 hB hF hd
        rw [if_pos (wanted_none rfl)]
        exact flow_val (fun h => by cases h) (run_pick rfl (hd 47 _ rfl (waits_spec rfl))) ((hd 53 _ rfl (waits_spec rfl)))
      · intro a w2 hB hF hd
        rw [if_pos (wanted_none rfl)]
        exact flow_move _ (.inr rfl) (by simp) (hd 54 _ rfl (waits_spec rfl))
    · intro a w6 hB hF hS
      have ha := puts_each rfl rfl hF [_, _, _, _, _, _, _, _, _, _, _, _, _, _, _, _, _, _, _, _, _, _, _, _, _, _, _, _, _, _, _, _, _, _, _, _, _, _, _, _, _, _, _, _, _, _, _, _, _, _, _, _, _, _, _, _] rfl ⟨hS 0 _ rfl, hS 1 _ rfl, hS 2 _ rfl, hS 3 _ rfl, hS 4 _ rfl, hS 5 _ rfl, hS 6 _ rfl, hS 7 _ rfl, hS 8 _ rfl, hS 9 _ rfl, hS 10 _ rfl, hS 11 _ rfl, hS 12 _ rfl, hS 13 _ rfl, hS 14 _ rfl, hS 15 _ rfl, hS 16 _ rfl, hS 17 _ rfl, hS 18 _ rfl, hS 19 _ rfl, hS 20 _ rfl, hS 21 _ rfl, hS 22 _ rfl, hS 23 _ rfl, hS 24 _ rfl, hS 25 _ rfl, hS 26 _ rfl, hS 27 _ rfl, hS 28 _ rfl, hS 29 _ rfl, hS 30 _ rfl, hS 31 _ rfl, hS 32 _ rfl, hS 33 _ rfl, hS 34 _ rfl, hS 35 _ rfl, hS 36 _ rfl, hS 37 _ rfl, hS 38 _ rfl, hS 39 _ rfl, hS 40 _ rfl, hS 41 _ rfl, hS 42 _ rfl, hS 43 _ rfl, hS 44 _ rfl, hS 45 _ rfl, hS 46 _ rfl, hS 47 _ rfl, hS 48 _ rfl, hS 49 _ rfl, hS 50 _ rfl, hS 51 _ rfl, hS 52 _ rfl, hS 53 _ rfl, hS 54 _ rfl, hS 55 _ rfl, trivial⟩
      simp only [puts, Act.put, List.setIfInBounds_toArray, List.set_cons_succ, List.set_cons_zero] at ha
      subst ha
      clear hS hF
      have hb := hbel.trans (hB.mono hbel.size)
      clear hX hA hB' hC hbel hB
      go_wp2
      go_ret
      exact ⟨rfl, hb⟩
end Go.Proofs.Ytiiafgbdmejcpaa
