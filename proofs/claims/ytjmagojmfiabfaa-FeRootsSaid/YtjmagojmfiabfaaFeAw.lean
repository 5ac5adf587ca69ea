/-
  The laws' awake; what is built in the laws of fe. Conditions: named in each theorem.
-/
import Derived.Test.YtjmagojmfiabfaaFe4
import Derived.Test.YtjmagojmfiabfaaFr2
import Derived.OpenShut
namespace Go.Proofs.Ytjmagojmfiabfaa
open Go.RowKit Go.Bas Go.ChangeShapes
attribute [local go_sem ↓] Go.wp_at_zero Go.wp_at_succ

theorem lit_six : (#[.int .u8 6, .int .u8 0, .int .u8 0, .int .u8 0, .int .u8 0, .int .u8 0, .int .u8 0, .int .u8 0, .int .u8 0, .int .u8 0, .int .u8 0, .int .u8 0, .int .u8 0, .int .u8 0, .int .u8 0, .int .u8 0, .int .u8 0, .int .u8 0, .int .u8 0, .int .u8 0, .int .u8 0, .int .u8 0, .int .u8 0, .int .u8 0, .int .u8 0, .int .u8 0, .int .u8 0, .int .u8 0, .int .u8 0, .int .u8 0, .int .u8 0, .int .u8 0] : Array Value) = arr .u8 32 (dg 256 6) := by kernel_rfl
theorem lit_nil : (#[.int .u8 0, .int .u8 0, .int .u8 0, .int .u8 0, .int .u8 0, .int .u8 0, .int .u8 0, .int .u8 0, .int .u8 0, .int .u8 0, .int .u8 0, .int .u8 0, .int .u8 0, .int .u8 0, .int .u8 0, .int .u8 0, .int .u8 0, .int .u8 0, .int .u8 0, .int .u8 0, .int .u8 0, .int .u8 0, .int .u8 0, .int .u8 0, .int .u8 0, .int .u8 0, .int .u8 0, .int .u8 0, .int .u8 0, .int .u8 0, .int .u8 0, .int .u8 0] : Array Value) = arr .u8 32 (dg 256 0) := by kernel_rfl
theorem build_nil {a : Act} (w : World) : (Instr.build 22 ((#[] : Array (Nat × Operand)).map fun (i, x) => (i, a.eval x))).run Try.prog w = .ok (.agg (arr .u8 32 (dg 256 0))) w := by
  simp only [List.map_toArray, List.map_nil]
  rw [Go.run_build w _ _ #[.int .u8 0, .int .u8 0, .int .u8 0, .int .u8 0, .int .u8 0, .int .u8 0, .int .u8 0, .int .u8 0, .int .u8 0, .int .u8 0, .int .u8 0, .int .u8 0, .int .u8 0, .int .u8 0, .int .u8 0, .int .u8 0, .int .u8 0, .int .u8 0, .int .u8 0, .int .u8 0, .int .u8 0, .int .u8 0, .int .u8 0, .int .u8 0, .int .u8 0, .int .u8 0, .int .u8 0, .int .u8 0, .int .u8 0, .int .u8 0, .int .u8 0, .int .u8 0] (by kernel_rfl), lit_nil]
theorem build_six {a : Act} (w : World) : (Instr.build 22 ((#[(0, Operand.const (.int .u8 6))] : Array (Nat × Operand)).map fun (i, x) => (i, a.eval x))).run Try.prog w = .ok (.agg (arr .u8 32 (dg 256 6))) w := by
  simp only [List.map_toArray, List.map_nil, List.map_cons, Act.eval]
  rw [Go.run_build w _ _ #[.int .u8 6, .int .u8 0, .int .u8 0, .int .u8 0, .int .u8 0, .int .u8 0, .int .u8 0, .int .u8 0, .int .u8 0, .int .u8 0, .int .u8 0, .int .u8 0, .int .u8 0, .int .u8 0, .int .u8 0, .int .u8 0, .int .u8 0, .int .u8 0, .int .u8 0, .int .u8 0, .int .u8 0, .int .u8 0, .int .u8 0, .int .u8 0, .int .u8 0, .int .u8 0, .int .u8 0, .int .u8 0, .int .u8 0, .int .u8 0, .int .u8 0, .int .u8 0] (by kernel_rfl), lit_six]
theorem num32 (f : Nat → Int) (h : ∀ i, i < 32 → (Lit.int .u8 (f i)).wf = true) : ∃ X : Int, arr .u8 32 f = arr .u8 32 (dg 256 X) ∧ 0 ≤ X ∧ X < 256 ^ 32 := by
  have h' : ∀ i, i < 32 → 0 ≤ f i ∧ f i < 256 := fun i hi => by have := bounds_u8 (h i hi); omega
  exact ⟨sm 256 f 32, arr_congr fun i hi => (dg_sm (by decide) h' i hi).symm, sm_bound (by decide) h'⟩
theorem sameB_num {n : Nat} {B X Y : Int} (h : X = Y) : sameB n (dg B X) (dg B Y) = true := by rw [h]; exact sameB_self
theorem rd_of {w w' : World} {e : Ending} {X : Int} {b : Nat} (h : ∃ v, e = .returned v ∧ Own .i64 3 b w' v 16 (dg 65536 X) ∧ Below w.heap.size w w') : ∃ v, e = .returned v ∧ Rd .i64 w' v 16 (dg 65536 X) ∧ Below w.heap.size w w' := by
  obtain ⟨v, h1, h2, h3⟩ := h
  exact ⟨v, h1, h2.rd, h3⟩
theorem fOf_rd (X : Int) (w : World) : Calls Try.prog 17 #[.agg (arr .u8 32 (dg 256 X))] w fun e w' => ∃ v, e = .returned v ∧ Rd .i64 w' v 16 (dg 65536 (X % 2 ^ 255 % Pr)) ∧ Below w.heap.size w w' := (fOf_any X w).mono fun _ _ h => rd_of h
theorem rSmall_rd (n : Int) (h0 : 0 ≤ n) (h1 : n < 65536) (w : World) : Calls Try.prog 24 #[.int .i64 n] w fun e w' => ∃ v, e = .returned v ∧ Rd .i64 w' v 16 (dg 65536 n) ∧ Below w.heap.size w w' := (rSmall_any n h0 h1 w).mono fun _ _ h => rd_of h
theorem fAdd_rd (A B : Int) (va vb : Value) (w : World) (ha : Rd .i64 w va 16 (dg 65536 (A % Pr))) (hb : Rd .i64 w vb 16 (dg 65536 (B % Pr))) : Calls Try.prog 26 #[va, vb] w fun e w' => ∃ v, e = .returned v ∧ Rd .i64 w' v 16 (dg 65536 ((A + B) % Pr)) ∧ Below w.heap.size w w' := by
  have h := (fAdd_any va vb (A % Pr) (B % Pr) (modP16 A) (modP16 B) w ha hb).mono fun _ _ h => rd_of h
  rwa [← Int.add_emod] at h
theorem fSub_rd (A B : Int) (va vb : Value) (w : World) (ha : Rd .i64 w va 16 (dg 65536 (A % Pr))) (hb : Rd .i64 w vb 16 (dg 65536 (B % Pr))) : Calls Try.prog 28 #[va, vb] w fun e w' => ∃ v, e = .returned v ∧ Rd .i64 w' v 16 (dg 65536 ((A - B) % Pr)) ∧ Below w.heap.size w w' := by
  have h := (fSub_any va vb (A % Pr) (B % Pr) (modP A) (modP B) w ha hb).mono fun _ _ h => rd_of h
  rwa [← Int.sub_emod] at h
theorem fMul_rd (A B : Int) (va vb : Value) (w : World) (ha : Rd .i64 w va 16 (dg 65536 (A % Pr))) (hb : Rd .i64 w vb 16 (dg 65536 (B % Pr))) : Calls Try.prog 30 #[va, vb] w fun e w' => ∃ v, e = .returned v ∧ Rd .i64 w' v 16 (dg 65536 (A * B % Pr)) ∧ Below w.heap.size w w' := by
  have h := (fMul_any va vb (A % Pr) (B % Pr) (modP16 A) (modP16 B) w ha hb).mono fun _ _ h => rd_of h
  rwa [← Int.mul_emod] at h
theorem feOf_fe (X : Int) : Fe (dg 65536 (X % 2 ^ 255)) (X % 2 ^ 255) := Fe.dg (mod255 X).1 (mod255 X).2 rfl

set_option maxRecDepth 100000 in
set_option maxHeartbeats 1600000 in
theorem awake_any (w : World) :
    Calls Try.prog 15 #[] w fun e w' => e = .returned (.bool true) ∧ Below w.heap.size w w' := by
  go_enter Try.func15, Try.ntmps15
  go_wp2_with fail
  refine (feSmall_any 2 w).mono ?_
  rintro e w1 ⟨rfl, hb1⟩
  go_wp2_with fail
  refine (feSmall_any 3 w1).mono ?_
  rintro e w2 ⟨rfl, hb2⟩
  go_wp2_with fail
  refine (feMul_any (smallF 2) (smallF 3) 2 3 (fe_smallF 2) (fe_smallF 3) w2).mono ?_
  rintro e w3 ⟨rfl, hb3⟩
  go_wp2_with fail
  refine (feBytes_any (mulF (smallF 2) (smallF 3)) 6 ((fe_smallF 2).mulF (fe_smallF 3)) w3).mono ?_
  rintro e w4 ⟨rfl, hb4⟩
  have hb := (((hb1.trans (hb2.mono hb1.size)).trans (hb3.mono (by have := hb1.size; have := hb2.size; omega))).trans (hb4.mono (by have := hb1.size; have := hb2.size; have := hb3.size; omega)))
  have hs := hb.size
  clear hb1 hb2 hb3 hb4
  go_upto_region 2 with (refine store_arr rfl 22 _ _ rfl .u8 w4.heap.size 32 (fun _ => 0) _ Try.size22 rfl rfl (Arr.newAt rfl rfl) ?_)
  refine wp_world (fun w5 => Arr .u8 w5 w4.heap.size 32 (dg 256 (6 % Pr)) ∧ Below w.heap.size w w5) ⟨Arr.setRow (Arr.newAt (n := 32) (f := fun _ => 0) rfl rfl) _ _, below_setRow' (hb.alloc hs _) hs _⟩ ?_
  rintro w5 ⟨hA, hbel⟩
  clear hb hs
  go_wp2_with (first
    | (refine load_arr rfl 22 _ rfl .u8 w4.heap.size 32 _ 5 Try.underlying22 Try.size22 rfl hA ?_)
    | (refine step_val rfl (run_built rfl (build_six _)) ?_)
    | (refine step_val rfl (run_eql_arr true rfl rfl rfl Try.underlying22 (by kernel_rfl) (by kernel_rfl) (by kernel_rfl) (by kernel_rfl) (by kernel_rfl) (sameB_num (show (6 : Int) % Pr = 6 by decide))) ?_))
  go_ret
  exact ⟨rfl, hbel⟩
end Go.Proofs.Ytjmagojmfiabfaa
