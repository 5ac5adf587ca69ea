/-
  The laws' awake; what is built in the laws of fe. Conditions: named in each theorem.
-/
import Derived.Test.YtllkfkbioloaoaaFe4
import Derived.Test.YtllkfkbioloaoaaFr2
import Derived.OpenShut
set_option linter.unusedVariables false
set_option linter.unusedSimpArgs false
namespace Go.Proofs.Ytllkfkbioloaoaa
open Go.RowKit Go.Bas Go.ChangeShapes
attribute [local go_sem ↓] Go.wp_at_zero Go.wp_at_succ

theorem lit_six : (#[.int .u8 6, .int .u8 0, .int .u8 0, .int .u8 0, .int .u8 0, .int .u8 0, .int .u8 0, .int .u8 0, .int .u8 0, .int .u8 0, .int .u8 0, .int .u8 0, .int .u8 0, .int .u8 0, .int .u8 0, .int .u8 0, .int .u8 0, .int .u8 0, .int .u8 0, .int .u8 0, .int .u8 0, .int .u8 0, .int .u8 0, .int .u8 0, .int .u8 0, .int .u8 0, .int .u8 0, .int .u8 0, .int .u8 0, .int .u8 0, .int .u8 0, .int .u8 0] : Array Value) = arr .u8 32 (dg 256 6) := by kernel_rfl
theorem lit_nil : (#[.int .u8 0, .int .u8 0, .int .u8 0, .int .u8 0, .int .u8 0, .int .u8 0, .int .u8 0, .int .u8 0, .int .u8 0, .int .u8 0, .int .u8 0, .int .u8 0, .int .u8 0, .int .u8 0, .int .u8 0, .int .u8 0, .int .u8 0, .int .u8 0, .int .u8 0, .int .u8 0, .int .u8 0, .int .u8 0, .int .u8 0, .int .u8 0, .int .u8 0, .int .u8 0, .int .u8 0, .int .u8 0, .int .u8 0, .int .u8 0, .int .u8 0, .int .u8 0] : Array Value) = arr .u8 32 (dg 256 0) := by kernel_rfl
theorem build_nil {a : Act} (w : World) : (Instr.build 88 ((#[] : Array (Nat × Operand)).map fun (i, x) => (i, a.eval x))).run Try.prog w = .ok (.agg (arr .u8 32 (dg 256 0))) w := by
  simp only [List.map_toArray, List.map_nil]
  rw [Go.run_build w _ _ #[.int .u8 0, .int .u8 0, .int .u8 0, .int .u8 0, .int .u8 0, .int .u8 0, .int .u8 0, .int .u8 0, .int .u8 0, .int .u8 0, .int .u8 0, .int .u8 0, .int .u8 0, .int .u8 0, .int .u8 0, .int .u8 0, .int .u8 0, .int .u8 0, .int .u8 0, .int .u8 0, .int .u8 0, .int .u8 0, .int .u8 0, .int .u8 0, .int .u8 0, .int .u8 0, .int .u8 0, .int .u8 0, .int .u8 0, .int .u8 0, .int .u8 0, .int .u8 0] (by kernel_rfl), lit_nil]
theorem build_six {a : Act} (w : World) : (Instr.build 88 ((#[(0, Operand.const (.int .u8 6))] : Array (Nat × Operand)).map fun (i, x) => (i, a.eval x))).run Try.prog w = .ok (.agg (arr .u8 32 (dg 256 6))) w := by
  simp only [List.map_toArray, List.map_nil, List.map_cons, Act.eval]
  rw [Go.run_build w _ _ #[.int .u8 6, .int .u8 0, .int .u8 0, .int .u8 0, .int .u8 0, .int .u8 0, .int .u8 0, .int .u8 0, .int .u8 0, .int .u8 0, .int .u8 0, .int .u8 0, .int .u8 0, .int .u8 0, .int .u8 0, .int .u8 0, .int .u8 0, .int .u8 0, .int .u8 0, .int .u8 0, .int .u8 0, .int .u8 0, .int .u8 0, .int .u8 0, .int .u8 0, .int .u8 0, .int .u8 0, .int .u8 0, .int .u8 0, .int .u8 0, .int .u8 0, .int .u8 0] (by kernel_rfl), lit_six]
theorem num32 (f : Nat → Int) (h : ∀ i, i < 32 → (Lit.int .u8 (f i)).wf = true) : ∃ X : Int, arr .u8 32 f = arr .u8 32 (dg 256 X) ∧ 0 ≤ X ∧ X < 256 ^ 32 := by
  have h' : ∀ i, i < 32 → 0 ≤ f i ∧ f i < 256 := fun i hi => by have := bounds_u8 (h i hi); omega
  exact ⟨sm 256 f 32, arr_congr fun i hi => (dg_sm (by decide) h' i hi).symm, sm_bound (by decide) h'⟩
theorem sameB_num {n : Nat} {B X Y : Int} (h : X = Y) : sameB n (dg B X) (dg B Y) = true := by rw [h]; exact sameB_self
theorem rd_of {w w' : World} {e : Ending} {X : Int} {b : Nat} (h : ∃ v, e = .returned v ∧ Own .i64 3 b w' v 16 (dg 65536 X) ∧ Below w.heap.size w w') : ∃ v, e = .returned v ∧ Rd .i64 w' v 16 (dg 65536 X) ∧ Below w.heap.size w w' := by
  obtain ⟨v, h1, h2, h3⟩ := h
  exact ⟨v, h1, h2.rd, h3⟩
theorem fOf_rd (X : Int) (w : World) : Calls Try.prog 83 #[.agg (arr .u8 32 (dg 256 X))] w fun e w' => ∃ v, e = .returned v ∧ Rd .i64 w' v 16 (dg 65536 (X % 2 ^ 255 % Pr)) ∧ Below w.heap.size w w' := (fOf_any X w).mono fun _ _ h => rd_of h
theorem rSmall_rd (n : Int) (h0 : 0 ≤ n) (h1 : n < 65536) (w : World) : Calls Try.prog 84 #[.int .i64 n] w fun e w' => ∃ v, e = .returned v ∧ Rd .i64 w' v 16 (dg 65536 n) ∧ Below w.heap.size w w' := (rSmall_any n h0 h1 w).mono fun _ _ h => rd_of h
theorem fAdd_rd (A B : Int) (va vb : Value) (w : World) (ha : Rd .i64 w va 16 (dg 65536 (A % Pr))) (hb : Rd .i64 w vb 16 (dg 65536 (B % Pr))) : Calls Try.prog 85 #[va, vb] w fun e w' => ∃ v, e = .returned v ∧ Rd .i64 w' v 16 (dg 65536 ((A + B) % Pr)) ∧ Below w.heap.size w w' := by
  have h := (fAdd_any va vb (A % Pr) (B % Pr) (modP16 A) (modP16 B) w ha hb).mono fun _ _ h => rd_of h
  rwa [← Int.add_emod] at h
theorem fSub_rd (A B : Int) (va vb : Value) (w : World) (ha : Rd .i64 w va 16 (dg 65536 (A % Pr))) (hb : Rd .i64 w vb 16 (dg 65536 (B % Pr))) : Calls Try.prog 86 #[va, vb] w fun e w' => ∃ v, e = .returned v ∧ Rd .i64 w' v 16 (dg 65536 ((A - B) % Pr)) ∧ Below w.heap.size w w' := by
  have h := (fSub_any va vb (A % Pr) (B % Pr) (modP A) (modP B) w ha hb).mono fun _ _ h => rd_of h
  rwa [← Int.sub_emod] at h
theorem fMul_rd (A B : Int) (va vb : Value) (w : World) (ha : Rd .i64 w va 16 (dg 65536 (A % Pr))) (hb : Rd .i64 w vb 16 (dg 65536 (B % Pr))) : Calls Try.prog 87 #[va, vb] w fun e w' => ∃ v, e = .returned v ∧ Rd .i64 w' v 16 (dg 65536 (A * B % Pr)) ∧ Below w.heap.size w w' := by
  have h := (fMul_any va vb (A % Pr) (B % Pr) (modP16 A) (modP16 B) w ha hb).mono fun _ _ h => rd_of h
  rwa [← Int.mul_emod] at h
theorem feOf_fe (X : Int) : Fe (dg 65536 (X % 2 ^ 255)) (X % 2 ^ 255) := Fe.dg (mod255 X).1 (mod255 X).2 rfl

end Go.Proofs.Ytllkfkbioloaoaa
