/-
  ladder.Clamp, Base, factor, rung: what each answers. Conditions: named in each theorem.
-/
import Derived.Test.YtllkfkbioloaoaaLdN
import Derived.Test.YtllkfkbioloaoaaFeAw
import Derived.Test.YtllkfkbioloaoaaFe5
import Derived.OpenShut
set_option linter.unusedVariables false
set_option linter.unusedSimpArgs false
namespace Go.Bas
open Go.RowKit
theorem clamp_digits (S : Int) : ∀ i, i < 32 → upd (upd (dg 256 S) 0 (dg 256 S 0 / 8 * 8)) 31 (dg 256 S 31 % 64 + 64) i = dg 256 (clampN S) i := by
  have key : ∀ i : Fin 32, upd (upd (dg 256 S) 0 (dg 256 S 0 / 8 * 8)) 31 (dg 256 S 31 % 64 + 64) i.val = dg 256 (clampN S) i.val := by
    intro ⟨i, hi⟩
    have e : ∀ j, dg 256 (clampN S) j = (S % 2 ^ 254 / 8 * 8 + 2 ^ 254) / 256 ^ j % 256 := fun _ => rfl
    have e' : ∀ j, dg 256 S j = S / 256 ^ j % 256 := fun _ => rfl
    rcases i with _ | _ | _ | _ | _ | _ | _ | _ | _ | _ | _ | _ | _ | _ | _ | _ | _ | _ | _ | _ | _ | _ | _ | _ | _ | _ | _ | _ | _ | _ | _ | _ | i
    all_goals first
      | omega
      | (simp only [upd, e, e']; simp; omega)
  exact fun i h => key ⟨i, h⟩
theorem results_str4 {P : Program} {fn : Func} {p q p2 q2 : Tmp} {T : TypeId} (h : fn.results = #[.cell p T, .cell q T, .cell p2 T, .cell q2 T]) (tmps : Array Value) (w : World) (k : IntKind) (n : Nat) {d : TypeDesc} (hu : P.underlying T = some d) (hd : aggB d = true) (hi : (P.info? T).map (·.size) = some n)
    (b1 b2 b3 b4 : Nat) (f1 f2 f3 f4 : Nat → Int) (hp : tmps.getD p undef = .pointer (some ⟨b1, 0, none⟩)) (ha : Arr k w b1 n f1) (hp2 : tmps.getD q undef = .pointer (some ⟨b2, 0, none⟩)) (ha2 : Arr k w b2 n f2)
    (hp3 : tmps.getD p2 undef = .pointer (some ⟨b3, 0, none⟩)) (ha3 : Arr k w b3 n f3) (hp4 : tmps.getD q2 undef = .pointer (some ⟨b4, 0, none⟩)) (ha4 : Arr k w b4 n f4) :
    (results fn tmps).run P w = .ok (.tuple #[.agg (arr k n f1), .agg (arr k n f2), .agg (arr k n f3), .agg (arr k n f4)]) w := by
  obtain ⟨t, ht⟩ := ha
  obtain ⟨t2, ht2⟩ := ha2
  obtain ⟨t3, ht3⟩ := ha3
  obtain ⟨t4, ht4⟩ := ha4
  have e1 : tmps[p]?.getD undef = .pointer (some ⟨b1, 0, none⟩) := by simpa using hp
  have e2 : tmps[q]?.getD undef = .pointer (some ⟨b2, 0, none⟩) := by simpa using hp2
  have e3 : tmps[p2]?.getD undef = .pointer (some ⟨b3, 0, none⟩) := by simpa using hp3
  have e4 : tmps[q2]?.getD undef = .pointer (some ⟨b4, 0, none⟩) := by simpa using hp4
  have key : ∀ (b t : Nat) (f : Nat → Int), w.heap[b]? = some (.cells (arr k n f) t (0, 0)) → (loadVar T ⟨b, 0, none⟩).run P w = .ok (.agg (arr k n f)) w := fun b t f hb => run_loadVar_row w b t T (arr k n f) (0, 0) _ hb hu (by cases d <;> first | rfl | cases hd) (by rw [hi, arr_size])
  simp [results, h, e1, e2, e3, e4, asAddr, key _ _ _ ht, key _ _ _ ht2, key _ _ _ ht3, key _ _ _ ht4]
theorem and_248 (x : Int) (h0 : 0 ≤ x) (h1 : x < 256) : bits .and .u8 x 248 = x / 8 * 8 := by
  obtain ⟨n, rfl⟩ := Int.eq_ofNat_of_zero_le h0
  have key : ∀ n : Fin 256, bits .and .u8 ((n.val : Nat) : Int) 248 = (n.val : Int) / 8 * 8 := by decide +kernel
  exact key ⟨n, by omega⟩
theorem and_127 (x : Int) (h0 : 0 ≤ x) (h1 : x < 256) : bits .and .u8 x 127 = x % 128 := by
  obtain ⟨n, rfl⟩ := Int.eq_ofNat_of_zero_le h0
  have key : ∀ n : Fin 256, bits .and .u8 ((n.val : Nat) : Int) 127 = (n.val : Int) % 128 := by decide +kernel
  exact key ⟨n, by omega⟩
theorem or_64 (x : Int) (h0 : 0 ≤ x) (h1 : x < 128) : bits .or .u8 x 64 = x % 64 + 64 := by
  obtain ⟨n, rfl⟩ := Int.eq_ofNat_of_zero_le h0
  have key : ∀ n : Fin 128, bits .or .u8 ((n.val : Nat) : Int) 64 = (n.val : Int) % 64 + 64 := by decide +kernel
  exact key ⟨n, by omega⟩
end Go.Bas
namespace Go.Proofs.Ytllkfkbioloaoaa
open Go.RowKit Go.Bas Go.ChangeShapes
attribute [local go_sem ↓] Go.wp_at_zero Go.wp_at_succ

set_option maxRecDepth 100000 in
set_option maxHeartbeats 1600000 in
theorem ldClamp_any (S : Int) (w : World) :
    Calls Try.prog 53 #[.agg (arr .u8 32 (dg 256 S))] w fun e w' => e = .returned (.agg (arr .u8 32 (dg 256 (clampN S)))) ∧ Below w.heap.size w w' := by
  have HQ := Lib.hid (clamp_digits S)
  have HB : Hid (∀ i, 0 ≤ dg 256 S i ∧ dg 256 S i < 256) := fun i => dg_bound (by decide) S i
  obtain ⟨F, hF⟩ : ∃ F, F = dg 256 S := ⟨_, rfl⟩
  rw [← hF] at HQ HB ⊢
  clear hF
  go_enter Try.func53, Try.ntmps53
  go_upto_region 1 with (fail)
  refine wp_world (fun w1 => Arr .u8 w1 w.heap.size 32 F ∧ Arr .u8 w1 (w.heap.size + 1) 32 (fun _ => 0) ∧ Below w.heap.size w w1) ⟨Arr.alloc (Arr.newAt rfl rfl) _, Arr.newAt (by simp) (by rfl), ((Below.refl _ _).alloc (Nat.le_refl _) _).alloc (by simp) _⟩ ?_
  rintro w1 ⟨hA, hZ, hb⟩
  have e0 := hA.cell 0 (by decide)
  have f0 := hA.free 0
  obtain ⟨x0, x1⟩ := HB.out 0
  obtain ⟨x, hx⟩ : ∃ x, x = F 0 := ⟨_, rfl⟩
  rw [← hx] at e0 x0 x1
  have a1 := and_248 x x0 x1
  have HX := Lib.hid hx
  have HA := Lib.hid hA
  clear hx hA
  go_upto_region 2 with (fail)
  refine wp_world (fun w2 => Arr .u8 w2 w.heap.size 32 (upd F 0 (x / 8 * 8)) ∧ Arr .u8 w2 (w.heap.size + 1) 32 (fun _ => 0) ∧ Below w.heap.size w w2) ⟨HA.out.set 0 _, hZ.other (by first | omega | (simp <;> omega)) _, hb.setCell (by first | omega | (simp <;> omega)) _⟩ ?_
  rintro w2 ⟨hA2, hZ2, hb2⟩
  have e1 := hA2.cell 31 (by decide)
  have f1 := hA2.free 31
  obtain ⟨y0, y1⟩ := HB.out 31
  obtain ⟨y, hy⟩ : ∃ y, y = F 31 := ⟨_, rfl⟩
  rw [upd_ne _ _ (by decide), ← hy] at e1
  rw [← hy] at y0 y1
  have a2 := and_127 y y0 y1
  have a3 := or_64 (y % 128) (by omega) (by omega)
  have a4 : y % 128 % 64 + 64 = y % 64 + 64 := by omega
  rw [a4] at a3
  have HY := Lib.hid hy
  have HA2 := Lib.hid hA2
  clear hy hA2 e0 f0 hZ hb a4 a1
  go_upto_region 3 with (fail)
  refine wp_world (fun w3 => Arr .u8 w3 w.heap.size 32 (dg 256 (clampN S)) ∧ Arr .u8 w3 (w.heap.size + 1) 32 (fun _ => 0) ∧ Below w.heap.size w w3) ⟨((HA2.out.set 31 (y % 64 + 64)).congr (fun i hi => by rw [HX.out, HY.out]; exact HQ.out i hi)), hZ2.other (by first | omega | (simp <;> omega)) _, hb2.setCell (by first | omega | (simp <;> omega)) _⟩ ?_
  rintro w3 ⟨hA3, hZ3, hb3⟩
  clear e1 f1 hZ2 hb2
  go_wp2_with (first
    | (refine load_arr rfl 88 _ rfl .u8 w.heap.size 32 (dg 256 (clampN S)) 5 Try.underlying88 Try.size88 rfl hA3 ?_)
    | (refine store_arr rfl 88 _ _ rfl .u8 (w.heap.size + 1) 32 (fun _ => 0) (dg 256 (clampN S)) Try.size88 rfl rfl hZ3 ?_))
  exact bodyPost_ret (results_arr rfl _ _ .u8 (w.heap.size + 1) 32 _ 5 rfl (hZ3.setRow _ _) Try.underlying88 Try.size88) rfl ⟨rfl, below_setRow' hb3 (by omega) _⟩

set_option maxRecDepth 100000 in
set_option maxHeartbeats 1600000 in
theorem rdClamp_any (S : Int) (w : World) :
    Calls Try.prog 54 #[.agg (arr .u8 32 (dg 256 S))] w fun e w' => e = .returned (.agg (arr .u8 32 (dg 256 (clampN S)))) ∧ Below w.heap.size w w' := by
  have HQ := Lib.hid (clamp_digits S)
  have HB : Hid (∀ i, 0 ≤ dg 256 S i ∧ dg 256 S i < 256) := fun i => dg_bound (by decide) S i
  obtain ⟨F, hF⟩ : ∃ F, F = dg 256 S := ⟨_, rfl⟩
  rw [← hF] at HQ HB ⊢
  clear hF
  go_enter Try.func54, Try.ntmps54
  go_upto_region 1 with (fail)
  refine wp_world (fun w1 => Arr .u8 w1 w.heap.size 32 F ∧ Arr .u8 w1 (w.heap.size + 1) 32 (fun _ => 0) ∧ Below w.heap.size w w1) ⟨Arr.alloc (Arr.newAt rfl rfl) _, Arr.newAt (by simp) (by rfl), ((Below.refl _ _).alloc (Nat.le_refl _) _).alloc (by simp) _⟩ ?_
  rintro w1 ⟨hA, hZ, hb⟩
  have e0 := hA.cell 0 (by decide)
  have f0 := hA.free 0
  obtain ⟨x0, x1⟩ := HB.out 0
  obtain ⟨x, hx⟩ : ∃ x, x = F 0 := ⟨_, rfl⟩
  rw [← hx] at e0 x0 x1
  have a1 := and_248 x x0 x1
  have HX := Lib.hid hx
  have HA := Lib.hid hA
  clear hx hA
  go_upto_region 2 with (fail)
  refine wp_world (fun w2 => Arr .u8 w2 w.heap.size 32 (upd F 0 (x / 8 * 8)) ∧ Arr .u8 w2 (w.heap.size + 1) 32 (fun _ => 0) ∧ Below w.heap.size w w2) ⟨HA.out.set 0 _, hZ.other (by first | omega | (simp <;> omega)) _, hb.setCell (by first | omega | (simp <;> omega)) _⟩ ?_
  rintro w2 ⟨hA2, hZ2, hb2⟩
  have e1 := hA2.cell 31 (by decide)
  have f1 := hA2.free 31
  obtain ⟨y0, y1⟩ := HB.out 31
  obtain ⟨y, hy⟩ : ∃ y, y = F 31 := ⟨_, rfl⟩
  rw [upd_ne _ _ (by decide), ← hy] at e1
  rw [← hy] at y0 y1
  have a2 := and_127 y y0 y1
  have a3 := or_64 (y % 128) (by omega) (by omega)
  have a4 : y % 128 % 64 + 64 = y % 64 + 64 := by omega
  rw [a4] at a3
  have HY := Lib.hid hy
  have HA2 := Lib.hid hA2
  clear hy hA2 e0 f0 hZ hb a4 a1
  go_upto_region 3 with (fail)
  refine wp_world (fun w3 => Arr .u8 w3 w.heap.size 32 (dg 256 (clampN S)) ∧ Arr .u8 w3 (w.heap.size + 1) 32 (fun _ => 0) ∧ Below w.heap.size w w3) ⟨((HA2.out.set 31 (y % 64 + 64)).congr (fun i hi => by rw [HX.out, HY.out]; exact HQ.out i hi)), hZ2.other (by first | omega | (simp <;> omega)) _, hb2.setCell (by first | omega | (simp <;> omega)) _⟩ ?_
  rintro w3 ⟨hA3, hZ3, hb3⟩
  clear e1 f1 hZ2 hb2
  go_wp2_with (first
    | (refine load_arr rfl 88 _ rfl .u8 w.heap.size 32 (dg 256 (clampN S)) 5 Try.underlying88 Try.size88 rfl hA3 ?_)
    | (refine store_arr rfl 88 _ _ rfl .u8 (w.heap.size + 1) 32 (fun _ => 0) (dg 256 (clampN S)) Try.size88 rfl rfl hZ3 ?_))
  exact bodyPost_ret (results_arr rfl _ _ .u8 (w.heap.size + 1) 32 _ 5 rfl (hZ3.setRow _ _) Try.underlying88 Try.size88) rfl ⟨rfl, below_setRow' hb3 (by omega) _⟩

theorem lit_nine : (#[.int .u8 9, .int .u8 0, .int .u8 0, .int .u8 0, .int .u8 0, .int .u8 0, .int .u8 0, .int .u8 0, .int .u8 0, .int .u8 0, .int .u8 0, .int .u8 0, .int .u8 0, .int .u8 0, .int .u8 0, .int .u8 0, .int .u8 0, .int .u8 0, .int .u8 0, .int .u8 0, .int .u8 0, .int .u8 0, .int .u8 0, .int .u8 0, .int .u8 0, .int .u8 0, .int .u8 0, .int .u8 0, .int .u8 0, .int .u8 0, .int .u8 0, .int .u8 0] : Array Value) = arr .u8 32 (dg 256 9) := by kernel_rfl
theorem build_nine {a : Act} (w : World) : (Instr.build 88 ((#[(0, Operand.const (.int .u8 9))] : Array (Nat × Operand)).map fun (i, x) => (i, a.eval x))).run Try.prog w = .ok (.agg (arr .u8 32 (dg 256 9))) w := by
  simp only [List.map_toArray, List.map_cons, List.map_nil, Act.eval]
  rw [Go.run_build w _ _ (arr .u8 32 (dg 256 9)) (by kernel_rfl)]
theorem lit_eight : (#[.int .u8 8, .int .u8 0, .int .u8 0, .int .u8 0, .int .u8 0, .int .u8 0, .int .u8 0, .int .u8 0, .int .u8 0, .int .u8 0, .int .u8 0, .int .u8 0, .int .u8 0, .int .u8 0, .int .u8 0, .int .u8 0, .int .u8 0, .int .u8 0, .int .u8 0, .int .u8 0, .int .u8 0, .int .u8 0, .int .u8 0, .int .u8 0, .int .u8 0, .int .u8 0, .int .u8 0, .int .u8 0, .int .u8 0, .int .u8 0, .int .u8 0, .int .u8 0] : Array Value) = arr .u8 32 (dg 256 8) := by kernel_rfl
theorem build_eight {a : Act} (w : World) : (Instr.build 88 ((#[(0, Operand.const (.int .u8 8))] : Array (Nat × Operand)).map fun (i, x) => (i, a.eval x))).run Try.prog w = .ok (.agg (arr .u8 32 (dg 256 8))) w := by
  simp only [List.map_toArray, List.map_cons, List.map_nil, Act.eval]
  rw [Go.run_build w _ _ (arr .u8 32 (dg 256 8)) (by kernel_rfl)]

set_option maxRecDepth 100000 in
set_option maxHeartbeats 800000 in
theorem ldBase_any (w : World) : Calls Try.prog 56 #[] w fun e w' => e = .returned (.agg (arr .u8 32 (dg 256 9))) ∧ Below w.heap.size w w' := by
  go_enter Try.func56, Try.ntmps56
  go_upto_region 1 with (fail)
  refine wp_world (fun w1 => Arr .u8 w1 w.heap.size 32 (fun _ => 0) ∧ Below w.heap.size w w1) ⟨Arr.newAt rfl (by rfl), (Below.refl _ _).alloc (Nat.le_refl _) _⟩ ?_
  rintro w1 ⟨hZ, hb⟩
  go_wp2_with (first
    | (refine step_val rfl (run_built rfl (build_nine _)) ?_)
    | (refine store_arr rfl 88 _ _ rfl .u8 w.heap.size 32 (fun _ => 0) (dg 256 9) Try.size88 rfl rfl hZ ?_))
  exact bodyPost_ret (results_arr rfl _ _ .u8 w.heap.size 32 _ 5 rfl (hZ.setRow _ _) Try.underlying88 Try.size88) rfl ⟨rfl, below_setRow' hb (Nat.le_refl _) _⟩

theorem fac_digits : ∀ i, i < 32 → upto 3 (dg 256 121665) (fun _ => 0) i = dg 256 121665 i := by
  have key : ∀ i : Fin 32, upto 3 (dg 256 121665) (fun _ => 0) i.val = dg 256 121665 i.val := by decide +kernel
  exact fun i h => key ⟨i, h⟩
/-- the limbs of 121665. -/
def facF : Nat → Int := dg 65536 (121665 % 2 ^ 255)
theorem fe_fac : Fe facF 121665 := by have h := feOf_fe 121665; rwa [show (121665 : Int) % 2 ^ 255 = 121665 by decide] at h

set_option maxRecDepth 100000 in
set_option maxHeartbeats 1600000 in
theorem ldFactor_any (w : World) : Calls Try.prog 107 #[] w fun e w' => e = .returned (El facF) ∧ Below w.heap.size w w' := by
  have HC := Lib.hid (fun w => feOf_any 121665 w)
  unfold El
  unfold El at HC
  change Hid (∀ w, Calls _ _ _ w fun e w' => e = .returned (.agg (arr .i64 16 facF)) ∧ _) at HC
  go_enter Try.func107, Try.ntmps107
  go_upto_region 2 with (fail)
  refine wp_world (fun w1 => Arr .i64 w1 w.heap.size 16 (fun _ => 0) ∧ Arr .u8 w1 (w.heap.size + 1) 32 (upto 0 (dg 256 121665) (fun _ => 0)) ∧ Below w.heap.size w w1) ⟨Arr.alloc (Arr.newAt rfl (by rfl)) _, by rw [upto_zero]; exact Arr.newAt (by simp) (by rfl), ((Below.refl _ _).alloc (Nat.le_refl _) _).alloc (by simp) _⟩ ?_
  rintro w1 ⟨hZ, hA, hb⟩
  go_wp2
  go_loopw [4] (fun i wr => ∃ k : Nat, k ≤ 3 ∧ i = .int .i64 k ∧ Arr .i64 wr w.heap.size 16 (fun _ => 0) ∧ Arr .u8 wr (w.heap.size + 1) 32 (upto k (dg 256 121665) (fun _ => 0)) ∧ Below w.heap.size w wr) (fun i _ => 3 - (intOf i).toNat)
  case atStart => exact ⟨0, Nat.zero_le _, rfl, hZ, hA, hb⟩
  case round =>
    clear hZ hA hb
    obtain ⟨k, hk, rfl, hZ, hA, hb⟩ := hrel
    rcases (by omega : k = 0 ∨ k = 1 ∨ k = 2 ∨ k = 3) with rfl | rfl | rfl | rfl
    case inl =>
      have f1 := hA.free 0
      have e1 := hA.cell 0 (by decide)
      have HA := Lib.hid hA
      clear hA
      go_wp2
      go_roundw
      case rel => exact ⟨1, by omega, by rfl, hZ.other (by first | omega | (simp <;> omega)) _, by rw [← upto_step (show dg 256 121665 0 = _ from rfl)]; exact HA.out.set _ _, hb.setCell (by first | omega | (simp <;> omega)) _⟩
      case measure => simp [intOf] <;> omega
    case inr.inl =>
      have f1 := hA.free 1
      have e1 := hA.cell 1 (by decide)
      have HA := Lib.hid hA
      clear hA
      go_wp2
      go_roundw
      case rel => exact ⟨2, by omega, by rfl, hZ.other (by first | omega | (simp <;> omega)) _, by rw [← upto_step (show dg 256 121665 1 = _ from rfl)]; exact HA.out.set _ _, hb.setCell (by first | omega | (simp <;> omega)) _⟩
      case measure => simp [intOf] <;> omega
    case inr.inr.inl =>
      have f1 := hA.free 2
      have e1 := hA.cell 2 (by decide)
      have HA := Lib.hid hA
      clear hA
      go_wp2
      go_roundw
      case rel => exact ⟨3, by omega, by rfl, hZ.other (by first | omega | (simp <;> omega)) _, by rw [← upto_step (show dg 256 121665 2 = _ from rfl)]; exact HA.out.set _ _, hb.setCell (by first | omega | (simp <;> omega)) _⟩
      case measure => simp [intOf] <;> omega
    case inr.inr.inr =>
      have hA2 := hA.congr fac_digits
      go_wp2_with (refine load_arr rfl 88 _ rfl .u8 (w.heap.size + 1) 32 (dg 256 121665) 5 Try.underlying88 Try.size88 rfl hA2 ?_)
      refine (HC.out _).mono ?_
      rintro e w3 ⟨rfl, hb3⟩
      have hZ3 := hZ.kept hb3
      have hb4 := hb.trans (hb3.mono hb.size)
      clear hZ hA hA2 hb hb3
      go_wp2_with (refine store_arr rfl 141 _ _ rfl .i64 w.heap.size 16 (fun _ => 0) facF Try.size141 rfl rfl hZ3 ?_)
      exact bodyPost_ret (results_str rfl _ _ .i64 w.heap.size 16 _ rfl (hZ3.setRow _ _) Try.underlying141 rfl Try.size141) rfl ⟨rfl, below_setRow' hb4 (Nat.le_refl _) _⟩


set_option maxRecDepth 100000 in
set_option maxHeartbeats 6400000 in
theorem ldRung_any (f2 k2 f3 k3 fu : Nat → Int) (A B C D U : Int) (h2 : Fe f2 A) (i2 : Fe k2 B) (h3 : Fe f3 C) (i3 : Fe k3 D) (hu : Fe fu U) (w : World) :
    Calls Try.prog 95 #[El f2, El k2, El f3, El k3, El fu] w fun e w' => ∃ a b c d, e = .returned (.tuple #[El a, El b, El c, El d]) ∧ (Fe a (dX A B) ∧ Fe b (dZ A B) ∧ Fe c (sX A B C D) ∧ Fe d (sZ U A B C D)) ∧ Below w.heap.size w w' := by
  have H2 := Lib.hid h2
  have I2 := Lib.hid i2
  have H3 := Lib.hid h3
  have I3 := Lib.hid i3
  have HU := Lib.hid hu
  clear h2 i2 h3 i3 hu
  unfold El
  go_enter Try.func95, Try.ntmps95
  go_upto_region 1 with (fail)
  refine wp_world (fun w1 => (Arr .i64 w1 w.heap.size 16 f2 ∧ Arr .i64 w1 (w.heap.size + 1) 16 k2 ∧ Arr .i64 w1 (w.heap.size + 2) 16 f3 ∧ Arr .i64 w1 (w.heap.size + 3) 16 k3 ∧ Arr .i64 w1 (w.heap.size + 4) 16 fu) ∧ (Arr .i64 w1 (w.heap.size + 5) 16 (fun _ => 0) ∧ Arr .i64 w1 (w.heap.size + 6) 16 (fun _ => 0) ∧ Arr .i64 w1 (w.heap.size + 7) 16 (fun _ => 0) ∧ Arr .i64 w1 (w.heap.size + 8) 16 (fun _ => 0)) ∧ Below w.heap.size w w1)
    ⟨⟨.alloc (.alloc (.alloc (.alloc (.alloc (.alloc (.alloc (.alloc (Arr.newAt (by first | omega | (simp <;> omega)) (by rfl)) _) _) _) _) _) _) _) _, .alloc (.alloc (.alloc (.alloc (.alloc (.alloc (.alloc (Arr.newAt (by first | omega | (simp <;> omega)) (by rfl)) _) _) _) _) _) _) _, .alloc (.alloc (.alloc (.alloc (.alloc (.alloc (Arr.newAt (by first | omega | (simp <;> omega)) (by rfl)) _) _) _) _) _) _, .alloc (.alloc (.alloc (.alloc (.alloc (Arr.newAt (by first | omega | (simp <;> omega)) (by rfl)) _) _) _) _) _, .alloc (.alloc (.alloc (.alloc (Arr.newAt (by first | omega | (simp <;> omega)) (by rfl)) _) _) _) _⟩,
     ⟨.alloc (.alloc (.alloc (Arr.newAt (by first | omega | (simp <;> omega)) (by rfl)) _) _) _, .alloc (.alloc (Arr.newAt (by first | omega | (simp <;> omega)) (by rfl)) _) _, .alloc (Arr.newAt (by first | omega | (simp <;> omega)) (by rfl)) _, Arr.newAt (by first | omega | (simp <;> omega)) (by rfl)⟩,
     ((((((((((Below.refl _ _).alloc (Nat.le_refl _) _).alloc (by first | omega | (simp <;> omega)) _).alloc (by first | omega | (simp <;> omega)) _).alloc (by first | omega | (simp <;> omega)) _).alloc (by first | omega | (simp <;> omega)) _).alloc (by first | omega | (simp <;> omega)) _).alloc (by first | omega | (simp <;> omega)) _).alloc (by first | omega | (simp <;> omega)) _).alloc (by first | omega | (simp <;> omega)) _)⟩ ?_
  rintro w1 ⟨⟨hA, hB', hC, hD, hE⟩, ⟨hR1, hR2, hR3, hR4⟩, hbel⟩
  have hsz : w.heap.size + 9 ≤ w1.heap.size := by have := hR4.lt; omega
  refine region_vars (n := 72) (by kernel_rfl) (by kernel_rfl) (by kernel_rfl) rfl
    (isAl [(8, 6), (9, 7)]) (putOf [(8, 6), (9, 7)]) (fun _ => arr .i64 16 (fun _ => 0)) (fun i => match i with | 6 => (arr .i64 16 (addF (f2) (k2))) | 7 => (arr .i64 16 (subF (f2) (k2))) | _ => #[]) (fun _ => 141) (fun i => match i with | 6 => 14 | 7 => 15 | _ => 0)
    (fun ii vv _ => (match ii with | 0 | 3 => vv = .agg (arr .i64 16 (f2)) | 1 | 4 => vv = .agg (arr .i64 16 (k2)) | 2 => vv = .agg (arr .i64 16 (addF (f2) (k2))) | 5 => vv = .agg (arr .i64 16 (subF (f2) (k2))) | _ => True)) (fun _ _ => True) (fun _ _ _ => trivial) (fun _ _ _ _ _ _ _ => trivial) (fun _ _ _ _ h _ => h)
    (vs_al rfl) (vs_inj rfl) ?_ ?_ ?_ ?_
  · refine Each.all ?_
    refine ⟨?_, ?_, ?_, ?_, ?_, ?_, (fun h => by cases h), (fun h => by cases h), (fun _ h => by cases h), (fun _ h => by cases h), trivial⟩
    · intro _ _ a w2 hB hF hd
      rw [if_pos (wanted_none rfl)]
      exact flow_val (fun h => by cases h) (run_load_str rfl Try.underlying141 rfl Try.size141 (hF.same 5 rfl) (hA.below hB hA.lt)) rfl
    · intro _ _ a w2 hB hF hd
      rw [if_pos (wanted_none rfl)]
      exact flow_val (fun h => by cases h) (run_load_str rfl Try.underlying141 rfl Try.size141 (hF.same 6 rfl) (hB'.below hB hB'.lt)) rfl
    · intro _ _ a w2 hB hF hd
      rw [if_pos (wanted_none rfl)]
      refine flow_call _ _ _ rfl Try.call105 _ (args2 (hd 0 _ rfl rfl rfl (waits_spec rfl)) (hd 1 _ rfl rfl rfl (waits_spec rfl))) (by simp) ((feAdd_any _ _ _ _ H2.out I2.out w2).mono ?_)
      rintro e w3 ⟨rfl, hb⟩; exact ⟨_, rfl, rfl, hb⟩
    · intro _ _ a w2 hB hF hd
      rw [if_pos (wanted_none rfl)]
      exact flow_val (fun h => by cases h) (run_load_str rfl Try.underlying141 rfl Try.size141 (hF.same 5 rfl) (hA.below hB hA.lt)) rfl
    · intro _ _ a w2 hB hF hd
      rw [if_pos (wanted_none rfl)]
      exact flow_val (fun h => by cases h) (run_load_str rfl Try.underlying141 rfl Try.size141 (hF.same 6 rfl) (hB'.below hB hB'.lt)) rfl
    · intro _ _ a w2 hB hF hd
      rw [if_pos (wanted_none rfl)]
      refine flow_call _ _ _ rfl Try.call106 _ (args2 (hd 3 _ rfl rfl rfl (waits_spec rfl)) (hd 4 _ rfl rfl rfl (waits_spec rfl))) (by simp) ((feSub_any _ _ _ _ H2.out I2.out w2).mono ?_)
      rintro e w3 ⟨rfl, hb⟩; exact ⟨_, rfl, rfl, hb⟩
  · refine Each.all ?_
    refine ⟨(fun h => by cases h), (fun h => by cases h), (fun h => by cases h), (fun h => by cases h), (fun h => by cases h), (fun h => by cases h), ?_, ?_, (fun h => by cases h), (fun h => by cases h), trivial⟩
    · exact fun _ => ⟨rfl, rfl, fun a w2 K h => flow_alloc rfl rfl Try.zeroValue141 (by simp) h⟩
    · exact fun _ => ⟨rfl, rfl, fun a w2 K h => flow_alloc rfl rfl Try.zeroValue141 (by simp) h⟩
  · refine Each.all ?_
    refine ⟨(fun _ h => by cases h), (fun _ h => by cases h), (fun _ h => by cases h), (fun _ h => by cases h), (fun _ h => by cases h), (fun _ h => by cases h), (fun _ h => by cases h), (fun _ h => by cases h), ?_, ?_, trivial⟩
    · intro p hp
      obtain rfl : 6 = p := Option.some.inj hp
      exact ⟨rfl, rfl, ⟨_, rfl⟩, waits_spec rfl, fun a w2 b K hB hF hd hx hb h => flow_put rfl rfl Try.size141 hx (hd 2 _ rfl rfl rfl (waits_spec rfl)) hb h⟩
    · intro p hp
      obtain rfl : 7 = p := Option.some.inj hp
      exact ⟨rfl, rfl, ⟨_, rfl⟩, waits_spec rfl, fun a w2 b K hB hF hd hx hb h => flow_put rfl rfl Try.size141 hx (hd 5 _ rfl rfl rfl (waits_spec rfl)) hb h⟩
  · intro a w2 blk hB hF hS hv hfin hdis
    obtain ⟨v6, v6l, v6u⟩ := hv 6 _ rfl rfl
    obtain ⟨v7, v7l, v7u⟩ := hv 7 _ rfl rfl
    have ha := puts_each rfl rfl hF [_, _, _, _, _, _, _, _, undef, undef] rfl ⟨hS 0 _ rfl rfl rfl, hS 1 _ rfl rfl rfl, hS 2 _ rfl rfl rfl, hS 3 _ rfl rfl rfl, hS 4 _ rfl rfl rfl, hS 5 _ rfl rfl rfl, v6, v7, trivial, trivial, trivial⟩
    have f6 := hfin 8 _ 6 rfl rfl
    have f7 := hfin 9 _ 7 rfl rfl
    have d6_7 := hdis 6 7 _ _ rfl rfl rfl rfl (by decide)
    simp only [puts, Act.put, List.setIfInBounds_toArray, List.set_cons_succ, List.set_cons_zero] at ha
    subst ha
    have V6 : Arr .i64 w2 (blk 6) 16 (addF (f2) (k2)) := ⟨_, f6⟩
    have V7 : Arr .i64 w2 (blk 7) 16 (subF (f2) (k2)) := ⟨_, f7⟩
    clear hS hv hfin hdis hF v6 v7 f6 f7
    replace hA := hA.kept hB
    replace hB' := hB'.kept hB
    replace hC := hC.kept hB
    replace hD := hD.kept hB
    replace hE := hE.kept hB
    replace hR1 := hR1.kept hB
    replace hR2 := hR2.kept hB
    replace hR3 := hR3.kept hB
    replace hR4 := hR4.kept hB
    obtain ⟨bpl, hbpl⟩ : ∃ x, x = blk 6 := ⟨_, rfl⟩
    obtain ⟨pl, hpl, Hpl⟩ : ∃ x, x = addF f2 k2 ∧ Hid (Fe x (A + B)) := ⟨_, rfl, H2.out.addF I2.out⟩
    rw [← hpl, ← hbpl] at V6
    rw [← hbpl] at v6l ⊢
    have lpl : w.heap.size + 9 ≤ bpl := Nat.le_trans hsz v6l
    obtain ⟨bmi, hbmi⟩ : ∃ x, x = blk 7 := ⟨_, rfl⟩
    obtain ⟨mi, hmi, Hmi⟩ : ∃ x, x = subF f2 k2 ∧ Hid (Fe x (A - B)) := ⟨_, rfl, H2.out.subF I2.out⟩
    rw [← hmi, ← hbmi] at V7
    rw [← hbmi] at v7l ⊢
    have lmi : w.heap.size + 9 ≤ bmi := Nat.le_trans hsz v7l
    replace hbel := hbel.trans (hB.mono hbel.size)
    replace hsz := Nat.le_trans hsz hB.size
    clear hB hpl hbpl hmi hbmi
    have hvpl := V6
    clear V6 v6l v6u
    have hvmi := V7
    clear V7 v7l v7u
    go_upto_region 2 with (fail)
    refine region_vars (n := 72) (by kernel_rfl) (by kernel_rfl) (by kernel_rfl) rfl
      (isAl [(8, 6), (9, 7)]) (putOf [(8, 6), (9, 7)]) (fun _ => arr .i64 16 (fun _ => 0)) (fun i => match i with | 6 => (arr .i64 16 (mulF (pl) (pl))) | 7 => (arr .i64 16 (mulF (mi) (mi))) | _ => #[]) (fun _ => 141) (fun i => match i with | 6 => 16 | 7 => 17 | _ => 0)
      (fun ii vv _ => (match ii with | 0 | 1 => vv = .agg (arr .i64 16 (pl)) | 2 => vv = .agg (arr .i64 16 (mulF (pl) (pl))) | 3 | 4 => vv = .agg (arr .i64 16 (mi)) | 5 => vv = .agg (arr .i64 16 (mulF (mi) (mi))) | _ => True)) (fun _ _ => True) (fun _ _ _ => trivial) (fun _ _ _ _ _ _ _ => trivial) (fun _ _ _ _ h _ => h)
      (vs_al rfl) (vs_inj rfl) ?_ ?_ ?_ ?_
    · refine Each.all ?_
      refine ⟨?_, ?_, ?_, ?_, ?_, ?_, (fun h => by cases h), (fun h => by cases h), (fun _ h => by cases h), (fun _ h => by cases h), trivial⟩
      · intro _ _ a w2 hB hF hd
        rw [if_pos (wanted_none rfl)]
        exact flow_val (fun h => by cases h) (run_load_str rfl Try.underlying141 rfl Try.size141 (hF.same 14 rfl) (hvpl.below hB hvpl.lt)) rfl
      · intro _ _ a w2 hB hF hd
        rw [if_pos (wanted_none rfl)]
        exact flow_val (fun h => by cases h) (run_load_str rfl Try.underlying141 rfl Try.size141 (hF.same 14 rfl) (hvpl.below hB hvpl.lt)) rfl
      · intro _ _ a w2 hB hF hd
        rw [if_pos (wanted_none rfl)]
        refine flow_call _ _ _ rfl Try.call96 _ (args2 (hd 0 _ rfl rfl rfl (waits_spec rfl)) (hd 1 _ rfl rfl rfl (waits_spec rfl))) (by simp) ((feMul_any _ _ _ _ Hpl.out Hpl.out w2).mono ?_)
        rintro e w3 ⟨rfl, hb⟩; exact ⟨_, rfl, rfl, hb⟩
      · intro _ _ a w2 hB hF hd
        rw [if_pos (wanted_none rfl)]
        exact flow_val (fun h => by cases h) (run_load_str rfl Try.underlying141 rfl Try.size141 (hF.same 15 rfl) (hvmi.below hB hvmi.lt)) rfl
      · intro _ _ a w2 hB hF hd
        rw [if_pos (wanted_none rfl)]
        exact flow_val (fun h => by cases h) (run_load_str rfl Try.underlying141 rfl Try.size141 (hF.same 15 rfl) (hvmi.below hB hvmi.lt)) rfl
      · intro _ _ a w2 hB hF hd
        rw [if_pos (wanted_none rfl)]
        refine flow_call _ _ _ rfl Try.call96 _ (args2 (hd 3 _ rfl rfl rfl (waits_spec rfl)) (hd 4 _ rfl rfl rfl (waits_spec rfl))) (by simp) ((feMul_any _ _ _ _ Hmi.out Hmi.out w2).mono ?_)
        rintro e w3 ⟨rfl, hb⟩; exact ⟨_, rfl, rfl, hb⟩
    · refine Each.all ?_
      refine ⟨(fun h => by cases h), (fun h => by cases h), (fun h => by cases h), (fun h => by cases h), (fun h => by cases h), (fun h => by cases h), ?_, ?_, (fun h => by cases h), (fun h => by cases h), trivial⟩
      · exact fun _ => ⟨rfl, rfl, fun a w2 K h => flow_alloc rfl rfl Try.zeroValue141 (by simp) h⟩
      · exact fun _ => ⟨rfl, rfl, fun a w2 K h => flow_alloc rfl rfl Try.zeroValue141 (by simp) h⟩
    · refine Each.all ?_
      refine ⟨(fun _ h => by cases h), (fun _ h => by cases h), (fun _ h => by cases h), (fun _ h => by cases h), (fun _ h => by cases h), (fun _ h => by cases h), (fun _ h => by cases h), (fun _ h => by cases h), ?_, ?_, trivial⟩
      · intro p hp
        obtain rfl : 6 = p := Option.some.inj hp
        exact ⟨rfl, rfl, ⟨_, rfl⟩, waits_spec rfl, fun a w2 b K hB hF hd hx hb h => flow_put rfl rfl Try.size141 hx (hd 2 _ rfl rfl rfl (waits_spec rfl)) hb h⟩
      · intro p hp
        obtain rfl : 7 = p := Option.some.inj hp
        exact ⟨rfl, rfl, ⟨_, rfl⟩, waits_spec rfl, fun a w2 b K hB hF hd hx hb h => flow_put rfl rfl Try.size141 hx (hd 5 _ rfl rfl rfl (waits_spec rfl)) hb h⟩
    · intro a w3 blk hB hF hS hv hfin hdis
      obtain ⟨v6, v6l, v6u⟩ := hv 6 _ rfl rfl
      obtain ⟨v7, v7l, v7u⟩ := hv 7 _ rfl rfl
      have ha := puts_each rfl rfl hF [_, _, _, _, _, _, _, _, undef, undef] rfl ⟨hS 0 _ rfl rfl rfl, hS 1 _ rfl rfl rfl, hS 2 _ rfl rfl rfl, hS 3 _ rfl rfl rfl, hS 4 _ rfl rfl rfl, hS 5 _ rfl rfl rfl, v6, v7, trivial, trivial, trivial⟩
      have f6 := hfin 8 _ 6 rfl rfl
      have f7 := hfin 9 _ 7 rfl rfl
      have d6_7 := hdis 6 7 _ _ rfl rfl rfl rfl (by decide)
      simp only [puts, Act.put, List.setIfInBounds_toArray, List.set_cons_succ, List.set_cons_zero] at ha
      subst ha
      have V6 : Arr .i64 w3 (blk 6) 16 (mulF (pl) (pl)) := ⟨_, f6⟩
      have V7 : Arr .i64 w3 (blk 7) 16 (mulF (mi) (mi)) := ⟨_, f7⟩
      clear hS hv hfin hdis hF v6 v7 f6 f7
      replace hA := hA.kept hB
      replace hB' := hB'.kept hB
      replace hC := hC.kept hB
      replace hD := hD.kept hB
      replace hE := hE.kept hB
      replace hR1 := hR1.kept hB
      replace hR2 := hR2.kept hB
      replace hR3 := hR3.kept hB
      replace hR4 := hR4.kept hB
      replace hvpl := hvpl.kept hB
      replace hvmi := hvmi.kept hB
      obtain ⟨baa, hbaa⟩ : ∃ x, x = blk 6 := ⟨_, rfl⟩
      obtain ⟨aa, haa, Haa⟩ : ∃ x, x = mulF pl pl ∧ Hid (Fe x ((A + B) * (A + B))) := ⟨_, rfl, Hpl.out.mulF Hpl.out⟩
      rw [← haa, ← hbaa] at V6
      rw [← hbaa] at v6l ⊢
      have laa : w.heap.size + 9 ≤ baa := Nat.le_trans hsz v6l
      obtain ⟨bbb, hbbb⟩ : ∃ x, x = blk 7 := ⟨_, rfl⟩
      obtain ⟨bb, hbb, Hbb⟩ : ∃ x, x = mulF mi mi ∧ Hid (Fe x ((A - B) * (A - B))) := ⟨_, rfl, Hmi.out.mulF Hmi.out⟩
      rw [← hbb, ← hbbb] at V7
      rw [← hbbb] at v7l ⊢
      have lbb : w.heap.size + 9 ≤ bbb := Nat.le_trans hsz v7l
      replace hbel := hbel.trans (hB.mono hbel.size)
      replace hsz := Nat.le_trans hsz hB.size
      clear hB haa hbaa hbb hbbb
      have hvaa := V6
      clear V6 v6l v6u
      have hvbb := V7
      clear V7 v7l v7u
      go_upto_region 3 with (fail)
      refine region_vars (n := 72) (by kernel_rfl) (by kernel_rfl) (by kernel_rfl) rfl
        (isAl [(4, 3)]) (putOf [(4, 3)]) (fun _ => arr .i64 16 (fun _ => 0)) (fun _ => (arr .i64 16 (subF (aa) (bb)))) (fun _ => 141) (fun _ => 18)
        (fun ii vv _ => (match ii with | 0 => vv = .agg (arr .i64 16 (aa)) | 1 => vv = .agg (arr .i64 16 (bb)) | 2 => vv = .agg (arr .i64 16 (subF (aa) (bb))) | _ => True)) (fun _ _ => True) (fun _ _ _ => trivial) (fun _ _ _ _ _ _ _ => trivial) (fun _ _ _ _ h _ => h)
        (vs_al rfl) (vs_inj rfl) ?_ ?_ ?_ ?_
      · refine Each.all ?_
        refine ⟨?_, ?_, ?_, (fun h => by cases h), (fun _ h => by cases h), trivial⟩
        · intro _ _ a w2 hB hF hd
          rw [if_pos (wanted_none rfl)]
          exact flow_val (fun h => by cases h) (run_load_str rfl Try.underlying141 rfl Try.size141 (hF.same 16 rfl) (hvaa.below hB hvaa.lt)) rfl
        · intro _ _ a w2 hB hF hd
          rw [if_pos (wanted_none rfl)]
          exact flow_val (fun h => by cases h) (run_load_str rfl Try.underlying141 rfl Try.size141 (hF.same 17 rfl) (hvbb.below hB hvbb.lt)) rfl
        · intro _ _ a w2 hB hF hd
          rw [if_pos (wanted_none rfl)]
          refine flow_call _ _ _ rfl Try.call106 _ (args2 (hd 0 _ rfl rfl rfl (waits_spec rfl)) (hd 1 _ rfl rfl rfl (waits_spec rfl))) (by simp) ((feSub_any _ _ _ _ Haa.out Hbb.out w2).mono ?_)
          rintro e w3 ⟨rfl, hb⟩; exact ⟨_, rfl, rfl, hb⟩
      · refine Each.all ?_
        refine ⟨(fun h => by cases h), (fun h => by cases h), (fun h => by cases h), ?_, (fun h => by cases h), trivial⟩
        · exact fun _ => ⟨rfl, rfl, fun a w2 K h => flow_alloc rfl rfl Try.zeroValue141 (by simp) h⟩
      · refine Each.all ?_
        refine ⟨(fun _ h => by cases h), (fun _ h => by cases h), (fun _ h => by cases h), (fun _ h => by cases h), ?_, trivial⟩
        · intro p hp
          obtain rfl : 3 = p := Option.some.inj hp
          exact ⟨rfl, rfl, ⟨_, rfl⟩, waits_spec rfl, fun a w2 b K hB hF hd hx hb h => flow_put rfl rfl Try.size141 hx (hd 2 _ rfl rfl rfl (waits_spec rfl)) hb h⟩
      · intro a w4 blk hB hF hS hv hfin hdis
        obtain ⟨v3, v3l, v3u⟩ := hv 3 _ rfl rfl
        have ha := puts_each rfl rfl hF [_, _, _, _, undef] rfl ⟨hS 0 _ rfl rfl rfl, hS 1 _ rfl rfl rfl, hS 2 _ rfl rfl rfl, v3, trivial, trivial⟩
        have f3 := hfin 4 _ 3 rfl rfl
        simp only [puts, Act.put, List.setIfInBounds_toArray, List.set_cons_succ, List.set_cons_zero] at ha
        subst ha
        have V3 : Arr .i64 w4 (blk 3) 16 (subF (aa) (bb)) := ⟨_, f3⟩
        clear hS hv hfin hdis hF v3 f3
        replace hA := hA.kept hB
        replace hB' := hB'.kept hB
        replace hC := hC.kept hB
        replace hD := hD.kept hB
        replace hE := hE.kept hB
        replace hR1 := hR1.kept hB
        replace hR2 := hR2.kept hB
        replace hR3 := hR3.kept hB
        replace hR4 := hR4.kept hB
        replace hvpl := hvpl.kept hB
        replace hvmi := hvmi.kept hB
        replace hvaa := hvaa.kept hB
        replace hvbb := hvbb.kept hB
        obtain ⟨bee, hbee⟩ : ∃ x, x = blk 3 := ⟨_, rfl⟩
        obtain ⟨ee, hee, Hee⟩ : ∃ x, x = subF aa bb ∧ Hid (Fe x ((A + B) * (A + B) - (A - B) * (A - B))) := ⟨_, rfl, Haa.out.subF Hbb.out⟩
        rw [← hee, ← hbee] at V3
        rw [← hbee] at v3l ⊢
        have lee : w.heap.size + 9 ≤ bee := Nat.le_trans hsz v3l
        replace hbel := hbel.trans (hB.mono hbel.size)
        replace hsz := Nat.le_trans hsz hB.size
        clear hB hee hbee
        have hvee := V3
        clear V3 v3l v3u
        go_upto_region 4 with (fail)
        refine region_vars (n := 72) (by kernel_rfl) (by kernel_rfl) (by kernel_rfl) rfl
          (isAl [(12, 10), (13, 11)]) (putOf [(12, 10), (13, 11)]) (fun _ => arr .i64 16 (fun _ => 0)) (fun i => match i with | 10 => (arr .i64 16 (mulF (subF (f3) (k3)) (pl))) | 11 => (arr .i64 16 (mulF (addF (f3) (k3)) (mi))) | _ => #[]) (fun _ => 141) (fun i => match i with | 10 => 19 | 11 => 20 | _ => 0)
          (fun ii vv _ => (match ii with | 0 | 5 => vv = .agg (arr .i64 16 (f3)) | 1 | 6 => vv = .agg (arr .i64 16 (k3)) | 2 => vv = .agg (arr .i64 16 (subF (f3) (k3))) | 3 => vv = .agg (arr .i64 16 (pl)) | 4 => vv = .agg (arr .i64 16 (mulF (subF (f3) (k3)) (pl))) | 7 => vv = .agg (arr .i64 16 (addF (f3) (k3))) | 8 => vv = .agg (arr .i64 16 (mi)) | 9 => vv = .agg (arr .i64 16 (mulF (addF (f3) (k3)) (mi))) | _ => True)) (fun _ _ => True) (fun _ _ _ => trivial) (fun _ _ _ _ _ _ _ => trivial) (fun _ _ _ _ h _ => h)
          (vs_al rfl) (vs_inj rfl) ?_ ?_ ?_ ?_
        · refine Each.all ?_
          refine ⟨?_, ?_, ?_, ?_, ?_, ?_, ?_, ?_, ?_, ?_, (fun h => by cases h), (fun h => by cases h), (fun _ h => by cases h), (fun _ h => by cases h), trivial⟩
          · intro _ _ a w2 hB hF hd
            rw [if_pos (wanted_none rfl)]
            exact flow_val (fun h => by cases h) (run_load_str rfl Try.underlying141 rfl Try.size141 (hF.same 7 rfl) (hC.below hB hC.lt)) rfl
          · intro _ _ a w2 hB hF hd
            rw [if_pos (wanted_none rfl)]
            exact flow_val (fun h => by cases h) (run_load_str rfl Try.underlying141 rfl Try.size141 (hF.same 8 rfl) (hD.below hB hD.lt)) rfl
          · intro _ _ a w2 hB hF hd
            rw [if_pos (wanted_none rfl)]
            refine flow_call _ _ _ rfl Try.call106 _ (args2 (hd 0 _ rfl rfl rfl (waits_spec rfl)) (hd 1 _ rfl rfl rfl (waits_spec rfl))) (by simp) ((feSub_any _ _ _ _ H3.out I3.out w2).mono ?_)
            rintro e w3 ⟨rfl, hb⟩; exact ⟨_, rfl, rfl, hb⟩
          · intro _ _ a w2 hB hF hd
            rw [if_pos (wanted_none rfl)]
            exact flow_val (fun h => by cases h) (run_load_str rfl Try.underlying141 rfl Try.size141 (hF.same 14 rfl) (hvpl.below hB hvpl.lt)) rfl
          · intro _ _ a w2 hB hF hd
            rw [if_pos (wanted_none rfl)]
            refine flow_call _ _ _ rfl Try.call96 _ (args2 (hd 2 _ rfl rfl rfl (waits_spec rfl)) (hd 3 _ rfl rfl rfl (waits_spec rfl))) (by simp) ((feMul_any _ _ _ _ ((H3.out).subF I3.out) Hpl.out w2).mono ?_)
            rintro e w3 ⟨rfl, hb⟩; exact ⟨_, rfl, rfl, hb⟩
          · intro _ _ a w2 hB hF hd
            rw [if_pos (wanted_none rfl)]
            exact flow_val (fun h => by cases h) (run_load_str rfl Try.underlying141 rfl Try.size141 (hF.same 7 rfl) (hC.below hB hC.lt)) rfl
          · intro _ _ a w2 hB hF hd
            rw [if_pos (wanted_none rfl)]
            exact flow_val (fun h => by cases h) (run_load_str rfl Try.underlying141 rfl Try.size141 (hF.same 8 rfl) (hD.below hB hD.lt)) rfl
          · intro _ _ a w2 hB hF hd
            rw [if_pos (wanted_none rfl)]
            refine flow_call _ _ _ rfl Try.call105 _ (args2 (hd 5 _ rfl rfl rfl (waits_spec rfl)) (hd 6 _ rfl rfl rfl (waits_spec rfl))) (by simp) ((feAdd_any _ _ _ _ H3.out I3.out w2).mono ?_)
            rintro e w3 ⟨rfl, hb⟩; exact ⟨_, rfl, rfl, hb⟩
          · intro _ _ a w2 hB hF hd
            rw [if_pos (wanted_none rfl)]
            exact flow_val (fun h => by cases h) (run_load_str rfl Try.underlying141 rfl Try.size141 (hF.same 15 rfl) (hvmi.below hB hvmi.lt)) rfl
          · intro _ _ a w2 hB hF hd
            rw [if_pos (wanted_none rfl)]
            refine flow_call _ _ _ rfl Try.call96 _ (args2 (hd 7 _ rfl rfl rfl (waits_spec rfl)) (hd 8 _ rfl rfl rfl (waits_spec rfl))) (by simp) ((feMul_any _ _ _ _ ((H3.out).addF I3.out) Hmi.out w2).mono ?_)
            rintro e w3 ⟨rfl, hb⟩; exact ⟨_, rfl, rfl, hb⟩
        · refine Each.all ?_
          refine ⟨(fun h => by cases h), (fun h => by cases h), (fun h => by cases h), (fun h => by cases h), (fun h => by cases h), (fun h => by cases h), (fun h => by cases h), (fun h => by cases h), (fun h => by cases h), (fun h => by cases h), ?_, ?_, (fun h => by cases h), (fun h => by cases h), trivial⟩
          · exact fun _ => ⟨rfl, rfl, fun a w2 K h => flow_alloc rfl rfl Try.zeroValue141 (by simp) h⟩
          · exact fun _ => ⟨rfl, rfl, fun a w2 K h => flow_alloc rfl rfl Try.zeroValue141 (by simp) h⟩
        · refine Each.all ?_
          refine ⟨(fun _ h => by cases h), (fun _ h => by cases h), (fun _ h => by cases h), (fun _ h => by cases h), (fun _ h => by cases h), (fun _ h => by cases h), (fun _ h => by cases h), (fun _ h => by cases h), (fun _ h => by cases h), (fun _ h => by cases h), (fun _ h => by cases h), (fun _ h => by cases h), ?_, ?_, trivial⟩
          · intro p hp
            obtain rfl : 10 = p := Option.some.inj hp
            exact ⟨rfl, rfl, ⟨_, rfl⟩, waits_spec rfl, fun a w2 b K hB hF hd hx hb h => flow_put rfl rfl Try.size141 hx (hd 4 _ rfl rfl rfl (waits_spec rfl)) hb h⟩
          · intro p hp
            obtain rfl : 11 = p := Option.some.inj hp
            exact ⟨rfl, rfl, ⟨_, rfl⟩, waits_spec rfl, fun a w2 b K hB hF hd hx hb h => flow_put rfl rfl Try.size141 hx (hd 9 _ rfl rfl rfl (waits_spec rfl)) hb h⟩
        · intro a w5 blk hB hF hS hv hfin hdis
          obtain ⟨v10, v10l, v10u⟩ := hv 10 _ rfl rfl
          obtain ⟨v11, v11l, v11u⟩ := hv 11 _ rfl rfl
          have ha := puts_each rfl rfl hF [_, _, _, _, _, _, _, _, _, _, _, _, undef, undef] rfl ⟨hS 0 _ rfl rfl rfl, hS 1 _ rfl rfl rfl, hS 2 _ rfl rfl rfl, hS 3 _ rfl rfl rfl, hS 4 _ rfl rfl rfl, hS 5 _ rfl rfl rfl, hS 6 _ rfl rfl rfl, hS 7 _ rfl rfl rfl, hS 8 _ rfl rfl rfl, hS 9 _ rfl rfl rfl, v10, v11, trivial, trivial, trivial⟩
          have f10 := hfin 12 _ 10 rfl rfl
          have f11 := hfin 13 _ 11 rfl rfl
          have d10_11 := hdis 10 11 _ _ rfl rfl rfl rfl (by decide)
          simp only [puts, Act.put, List.setIfInBounds_toArray, List.set_cons_succ, List.set_cons_zero] at ha
          subst ha
          have V10 : Arr .i64 w5 (blk 10) 16 (mulF (subF (f3) (k3)) (pl)) := ⟨_, f10⟩
          have V11 : Arr .i64 w5 (blk 11) 16 (mulF (addF (f3) (k3)) (mi)) := ⟨_, f11⟩
          clear hS hv hfin hdis hF v10 v11 f10 f11
          replace hA := hA.kept hB
          replace hB' := hB'.kept hB
          replace hC := hC.kept hB
          replace hD := hD.kept hB
          replace hE := hE.kept hB
          replace hR1 := hR1.kept hB
          replace hR2 := hR2.kept hB
          replace hR3 := hR3.kept hB
          replace hR4 := hR4.kept hB
          replace hvpl := hvpl.kept hB
          replace hvmi := hvmi.kept hB
          replace hvaa := hvaa.kept hB
          replace hvbb := hvbb.kept hB
          replace hvee := hvee.kept hB
          obtain ⟨bda, hbda⟩ : ∃ x, x = blk 10 := ⟨_, rfl⟩
          obtain ⟨da, hda, Hda⟩ : ∃ x, x = mulF (subF f3 k3) pl ∧ Hid (Fe x ((C - D) * (A + B))) := ⟨_, rfl, (H3.out.subF I3.out).mulF Hpl.out⟩
          rw [← hda, ← hbda] at V10
          rw [← hbda] at v10l ⊢
          have lda : w.heap.size + 9 ≤ bda := Nat.le_trans hsz v10l
          obtain ⟨bcb, hbcb⟩ : ∃ x, x = blk 11 := ⟨_, rfl⟩
          obtain ⟨cb, hcb, Hcb⟩ : ∃ x, x = mulF (addF f3 k3) mi ∧ Hid (Fe x ((C + D) * (A - B))) := ⟨_, rfl, (H3.out.addF I3.out).mulF Hmi.out⟩
          rw [← hcb, ← hbcb] at V11
          rw [← hbcb] at v11l ⊢
          have lcb : w.heap.size + 9 ≤ bcb := Nat.le_trans hsz v11l
          replace hbel := hbel.trans (hB.mono hbel.size)
          replace hsz := Nat.le_trans hsz hB.size
          clear hB hda hbda hcb hbcb
          have hvda := V10
          clear V10 v10l v10u
          have hvcb := V11
          clear V11 v11l v11u
          go_upto_region 5 with (fail)
          refine region_vars (n := 72) (by kernel_rfl) (by kernel_rfl) (by kernel_rfl) rfl
            (isAl [(8, 6), (9, 7)]) (putOf [(8, 6), (9, 7)]) (fun _ => arr .i64 16 (fun _ => 0)) (fun i => match i with | 6 => (arr .i64 16 (addF (da) (cb))) | 7 => (arr .i64 16 (subF (da) (cb))) | _ => #[]) (fun _ => 141) (fun i => match i with | 6 => 21 | 7 => 22 | _ => 0)
            (fun ii vv _ => (match ii with | 0 | 3 => vv = .agg (arr .i64 16 (da)) | 1 | 4 => vv = .agg (arr .i64 16 (cb)) | 2 => vv = .agg (arr .i64 16 (addF (da) (cb))) | 5 => vv = .agg (arr .i64 16 (subF (da) (cb))) | _ => True)) (fun _ _ => True) (fun _ _ _ => trivial) (fun _ _ _ _ _ _ _ => trivial) (fun _ _ _ _ h _ => h)
            (vs_al rfl) (vs_inj rfl) ?_ ?_ ?_ ?_
          · refine Each.all ?_
            refine ⟨?_, ?_, ?_, ?_, ?_, ?_, (fun h => by cases h), (fun h => by cases h), (fun _ h => by cases h), (fun _ h => by cases h), trivial⟩
            · intro _ _ a w2 hB hF hd
              rw [if_pos (wanted_none rfl)]
              exact flow_val (fun h => by cases h) (run_load_str rfl Try.underlying141 rfl Try.size141 (hF.same 19 rfl) (hvda.below hB hvda.lt)) rfl
            · intro _ _ a w2 hB hF hd
              rw [if_pos (wanted_none rfl)]
              exact flow_val (fun h => by cases h) (run_load_str rfl Try.underlying141 rfl Try.size141 (hF.same 20 rfl) (hvcb.below hB hvcb.lt)) rfl
            · intro _ _ a w2 hB hF hd
              rw [if_pos (wanted_none rfl)]
              refine flow_call _ _ _ rfl Try.call105 _ (args2 (hd 0 _ rfl rfl rfl (waits_spec rfl)) (hd 1 _ rfl rfl rfl (waits_spec rfl))) (by simp) ((feAdd_any _ _ _ _ Hda.out Hcb.out w2).mono ?_)
              rintro e w3 ⟨rfl, hb⟩; exact ⟨_, rfl, rfl, hb⟩
            · intro _ _ a w2 hB hF hd
              rw [if_pos (wanted_none rfl)]
              exact flow_val (fun h => by cases h) (run_load_str rfl Try.underlying141 rfl Try.size141 (hF.same 19 rfl) (hvda.below hB hvda.lt)) rfl
            · intro _ _ a w2 hB hF hd
              rw [if_pos (wanted_none rfl)]
              exact flow_val (fun h => by cases h) (run_load_str rfl Try.underlying141 rfl Try.size141 (hF.same 20 rfl) (hvcb.below hB hvcb.lt)) rfl
            · intro _ _ a w2 hB hF hd
              rw [if_pos (wanted_none rfl)]
              refine flow_call _ _ _ rfl Try.call106 _ (args2 (hd 3 _ rfl rfl rfl (waits_spec rfl)) (hd 4 _ rfl rfl rfl (waits_spec rfl))) (by simp) ((feSub_any _ _ _ _ Hda.out Hcb.out w2).mono ?_)
              rintro e w3 ⟨rfl, hb⟩; exact ⟨_, rfl, rfl, hb⟩
          · refine Each.all ?_
            refine ⟨(fun h => by cases h), (fun h => by cases h), (fun h => by cases h), (fun h => by cases h), (fun h => by cases h), (fun h => by cases h), ?_, ?_, (fun h => by cases h), (fun h => by cases h), trivial⟩
            · exact fun _ => ⟨rfl, rfl, fun a w2 K h => flow_alloc rfl rfl Try.zeroValue141 (by simp) h⟩
            · exact fun _ => ⟨rfl, rfl, fun a w2 K h => flow_alloc rfl rfl Try.zeroValue141 (by simp) h⟩
          · refine Each.all ?_
            refine ⟨(fun _ h => by cases h), (fun _ h => by cases h), (fun _ h => by cases h), (fun _ h => by cases h), (fun _ h => by cases h), (fun _ h => by cases h), (fun _ h => by cases h), (fun _ h => by cases h), ?_, ?_, trivial⟩
            · intro p hp
              obtain rfl : 6 = p := Option.some.inj hp
              exact ⟨rfl, rfl, ⟨_, rfl⟩, waits_spec rfl, fun a w2 b K hB hF hd hx hb h => flow_put rfl rfl Try.size141 hx (hd 2 _ rfl rfl rfl (waits_spec rfl)) hb h⟩
            · intro p hp
              obtain rfl : 7 = p := Option.some.inj hp
              exact ⟨rfl, rfl, ⟨_, rfl⟩, waits_spec rfl, fun a w2 b K hB hF hd hx hb h => flow_put rfl rfl Try.size141 hx (hd 5 _ rfl rfl rfl (waits_spec rfl)) hb h⟩
          · intro a w6 blk hB hF hS hv hfin hdis
            obtain ⟨v6, v6l, v6u⟩ := hv 6 _ rfl rfl
            obtain ⟨v7, v7l, v7u⟩ := hv 7 _ rfl rfl
            have ha := puts_each rfl rfl hF [_, _, _, _, _, _, _, _, undef, undef] rfl ⟨hS 0 _ rfl rfl rfl, hS 1 _ rfl rfl rfl, hS 2 _ rfl rfl rfl, hS 3 _ rfl rfl rfl, hS 4 _ rfl rfl rfl, hS 5 _ rfl rfl rfl, v6, v7, trivial, trivial, trivial⟩
            have f6 := hfin 8 _ 6 rfl rfl
            have f7 := hfin 9 _ 7 rfl rfl
            have d6_7 := hdis 6 7 _ _ rfl rfl rfl rfl (by decide)
            simp only [puts, Act.put, List.setIfInBounds_toArray, List.set_cons_succ, List.set_cons_zero] at ha
            subst ha
            have V6 : Arr .i64 w6 (blk 6) 16 (addF (da) (cb)) := ⟨_, f6⟩
            have V7 : Arr .i64 w6 (blk 7) 16 (subF (da) (cb)) := ⟨_, f7⟩
            clear hS hv hfin hdis hF v6 v7 f6 f7
            replace hA := hA.kept hB
            replace hB' := hB'.kept hB
            replace hC := hC.kept hB
            replace hD := hD.kept hB
            replace hE := hE.kept hB
            replace hR1 := hR1.kept hB
            replace hR2 := hR2.kept hB
            replace hR3 := hR3.kept hB
            replace hR4 := hR4.kept hB
            replace hvpl := hvpl.kept hB
            replace hvmi := hvmi.kept hB
            replace hvaa := hvaa.kept hB
            replace hvbb := hvbb.kept hB
            replace hvee := hvee.kept hB
            replace hvda := hvda.kept hB
            replace hvcb := hvcb.kept hB
            obtain ⟨bsu, hbsu⟩ : ∃ x, x = blk 6 := ⟨_, rfl⟩
            obtain ⟨su, hsu, Hsu⟩ : ∃ x, x = addF da cb ∧ Hid (Fe x ((C - D) * (A + B) + (C + D) * (A - B))) := ⟨_, rfl, Hda.out.addF Hcb.out⟩
            rw [← hsu, ← hbsu] at V6
            rw [← hbsu] at v6l ⊢
            have lsu : w.heap.size + 9 ≤ bsu := Nat.le_trans hsz v6l
            obtain ⟨bdi, hbdi⟩ : ∃ x, x = blk 7 := ⟨_, rfl⟩
            obtain ⟨di, hdi, Hdi⟩ : ∃ x, x = subF da cb ∧ Hid (Fe x ((C - D) * (A + B) - (C + D) * (A - B))) := ⟨_, rfl, Hda.out.subF Hcb.out⟩
            rw [← hdi, ← hbdi] at V7
            rw [← hbdi] at v7l ⊢
            have ldi : w.heap.size + 9 ≤ bdi := Nat.le_trans hsz v7l
            replace hbel := hbel.trans (hB.mono hbel.size)
            replace hsz := Nat.le_trans hsz hB.size
            clear hB hsu hbsu hdi hbdi
            have hvsu := V6
            clear V6 v6l v6u
            have hvdi := V7
            clear V7 v7l v7u
            go_upto_region 6 with (fail)
            refine region_lasts (n := 72) (fun i => i == 18 || i == 19 || i == 20 || i == 21) (by kernel_rfl) (by kernel_rfl) (by kernel_rfl) (by kernel_rfl) rfl
              (fun ii vv _ => (match ii with | 0 | 4 => vv = .agg (arr .i64 16 (aa)) | 1 => vv = .agg (arr .i64 16 (bb)) | 2 => vv = .agg (arr .i64 16 (mulF (aa) (bb))) | 3 | 6 => vv = .agg (arr .i64 16 (ee)) | 5 => vv = .agg (arr .i64 16 (facF)) | 7 => vv = .agg (arr .i64 16 (mulF (facF) (ee))) | 8 => vv = .agg (arr .i64 16 (addF (aa) (mulF (facF) (ee)))) | 9 => vv = .agg (arr .i64 16 (mulF (ee) (addF (aa) (mulF (facF) (ee))))) | 10 | 11 => vv = .agg (arr .i64 16 (su)) | 12 => vv = .agg (arr .i64 16 (mulF (su) (su))) | 13 => vv = .agg (arr .i64 16 (fu)) | 14 | 15 => vv = .agg (arr .i64 16 (di)) | 16 => vv = .agg (arr .i64 16 (mulF (di) (di))) | 17 => vv = .agg (arr .i64 16 (mulF (fu) (mulF (di) (di)))) | _ => True))
              (fun w w' => Below w.heap.size w w') (fun _ _ h => h) (fun _ _ _ _ h _ => h)
              (fun i => match i with | 18 => (w.heap.size + 5) | 19 => (w.heap.size + 6) | 20 => (w.heap.size + 7) | _ => (w.heap.size + 8)) (fun i => match i with | 18 => (arr .i64 16 (fun _ => 0)) | 19 => (arr .i64 16 (fun _ => 0)) | 20 => (arr .i64 16 (fun _ => 0)) | _ => (arr .i64 16 (fun _ => 0))) (fun i => match i with | 18 => (arr .i64 16 (mulF (aa) (bb))) | 19 => (arr .i64 16 (mulF (ee) (addF (aa) (mulF (facF) (ee))))) | 20 => (arr .i64 16 (mulF (su) (su))) | _ => (arr .i64 16 (mulF (fu) (mulF (di) (di)))))
              (by intro i j _ _ hpi hpj hne; simp only [Bool.or_eq_true, beq_iff_eq] at hpi hpj; rcases hpi with ((rfl | rfl) | rfl) | rfl <;> rcases hpj with ((rfl | rfl) | rfl) | rfl <;> first | exact absurd rfl hne | (simp only []; omega))
              (by intro i _ hpi; simp only [Bool.or_eq_true, beq_iff_eq] at hpi; rcases hpi with ((rfl | rfl) | rfl) | rfl <;> first | exact (hR1).row | exact (hR2).row | exact (hR3).row | exact (hR4).row)
              ?_ ?_ ?_
            · refine Each.all ?_
              refine ⟨?_, ?_, ?_, ?_, ?_, ?_, ?_, ?_, ?_, ?_, ?_, ?_, ?_, ?_, ?_, ?_, ?_, ?_, (fun h => absurd h (by decide)), (fun h => absurd h (by decide)), (fun h => absurd h (by decide)), (fun h => absurd h (by decide)), trivial⟩
              · intro _ a w2 hB hF hd
                rw [if_pos (wanted_none rfl)]
                exact flow_val (fun h => by cases h) (run_load_str rfl Try.underlying141 rfl Try.size141 (hF.same 16 rfl) (hvaa.below hB hvaa.lt)) rfl
              · intro _ a w2 hB hF hd
                rw [if_pos (wanted_none rfl)]
                exact flow_val (fun h => by cases h) (run_load_str rfl Try.underlying141 rfl Try.size141 (hF.same 17 rfl) (hvbb.below hB hvbb.lt)) rfl
              · intro _ a w2 hB hF hd
                rw [if_pos (wanted_none rfl)]
                refine flow_call _ _ _ rfl Try.call96 _ (args2 (hd 0 _ rfl rfl (waits_spec rfl)) (hd 1 _ rfl rfl (waits_spec rfl))) (by simp) ((feMul_any _ _ _ _ Haa.out Hbb.out w2).mono ?_)
                rintro e w3 ⟨rfl, hb⟩; exact ⟨_, rfl, rfl, hb⟩
              · intro _ a w2 hB hF hd
                rw [if_pos (wanted_none rfl)]
                exact flow_val (fun h => by cases h) (run_load_str rfl Try.underlying141 rfl Try.size141 (hF.same 18 rfl) (hvee.below hB hvee.lt)) rfl
              · intro _ a w2 hB hF hd
                rw [if_pos (wanted_none rfl)]
                exact flow_val (fun h => by cases h) (run_load_str rfl Try.underlying141 rfl Try.size141 (hF.same 16 rfl) (hvaa.below hB hvaa.lt)) rfl
              · intro _ a w2 hB hF hd
                rw [if_pos (wanted_none rfl)]
                refine flow_call _ _ _ rfl Try.call107 _ args0 (by simp) ((ldFactor_any w2).mono ?_)
                rintro e w3 ⟨rfl, hb⟩; exact ⟨_, rfl, rfl, hb⟩
              · intro _ a w2 hB hF hd
                rw [if_pos (wanted_none rfl)]
                exact flow_val (fun h => by cases h) (run_load_str rfl Try.underlying141 rfl Try.size141 (hF.same 18 rfl) (hvee.below hB hvee.lt)) rfl
              · intro _ a w2 hB hF hd
                rw [if_pos (wanted_none rfl)]
                refine flow_call _ _ _ rfl Try.call96 _ (args2 (hd 5 _ rfl rfl (waits_spec rfl)) (hd 6 _ rfl rfl (waits_spec rfl))) (by simp) ((feMul_any _ _ _ _ fe_fac Hee.out w2).mono ?_)
                rintro e w3 ⟨rfl, hb⟩; exact ⟨_, rfl, rfl, hb⟩
              · intro _ a w2 hB hF hd
                rw [if_pos (wanted_none rfl)]
                refine flow_call _ _ _ rfl Try.call105 _ (args2 (hd 4 _ rfl rfl (waits_spec rfl)) (hd 7 _ rfl rfl (waits_spec rfl))) (by simp) ((feAdd_any _ _ _ _ Haa.out ((fe_fac).mulF Hee.out) w2).mono ?_)
                rintro e w3 ⟨rfl, hb⟩; exact ⟨_, rfl, rfl, hb⟩
              · intro _ a w2 hB hF hd
                rw [if_pos (wanted_none rfl)]
                refine flow_call _ _ _ rfl Try.call96 _ (args2 (hd 3 _ rfl rfl (waits_spec rfl)) (hd 8 _ rfl rfl (waits_spec rfl))) (by simp) ((feMul_any _ _ _ _ Hee.out ((Haa.out).addF ((fe_fac).mulF Hee.out)) w2).mono ?_)
                rintro e w3 ⟨rfl, hb⟩; exact ⟨_, rfl, rfl, hb⟩
              · intro _ a w2 hB hF hd
                rw [if_pos (wanted_none rfl)]
                exact flow_val (fun h => by cases h) (run_load_str rfl Try.underlying141 rfl Try.size141 (hF.same 21 rfl) (hvsu.below hB hvsu.lt)) rfl
              · intro _ a w2 hB hF hd
                rw [if_pos (wanted_none rfl)]
                exact flow_val (fun h => by cases h) (run_load_str rfl Try.underlying141 rfl Try.size141 (hF.same 21 rfl) (hvsu.below hB hvsu.lt)) rfl
              · intro _ a w2 hB hF hd
                rw [if_pos (wanted_none rfl)]
                refine flow_call _ _ _ rfl Try.call96 _ (args2 (hd 10 _ rfl rfl (waits_spec rfl)) (hd 11 _ rfl rfl (waits_spec rfl))) (by simp) ((feMul_any _ _ _ _ Hsu.out Hsu.out w2).mono ?_)
                rintro e w3 ⟨rfl, hb⟩; exact ⟨_, rfl, rfl, hb⟩
              · intro _ a w2 hB hF hd
                rw [if_pos (wanted_none rfl)]
                exact flow_val (fun h => by cases h) (run_load_str rfl Try.underlying141 rfl Try.size141 (hF.same 9 rfl) (hE.below hB hE.lt)) rfl
              · intro _ a w2 hB hF hd
                rw [if_pos (wanted_none rfl)]
                exact flow_val (fun h => by cases h) (run_load_str rfl Try.underlying141 rfl Try.size141 (hF.same 22 rfl) (hvdi.below hB hvdi.lt)) rfl
              · intro _ a w2 hB hF hd
                rw [if_pos (wanted_none rfl)]
                exact flow_val (fun h => by cases h) (run_load_str rfl Try.underlying141 rfl Try.size141 (hF.same 22 rfl) (hvdi.below hB hvdi.lt)) rfl
              · intro _ a w2 hB hF hd
                rw [if_pos (wanted_none rfl)]
                refine flow_call _ _ _ rfl Try.call96 _ (args2 (hd 14 _ rfl rfl (waits_spec rfl)) (hd 15 _ rfl rfl (waits_spec rfl))) (by simp) ((feMul_any _ _ _ _ Hdi.out Hdi.out w2).mono ?_)
                rintro e w3 ⟨rfl, hb⟩; exact ⟨_, rfl, rfl, hb⟩
              · intro _ a w2 hB hF hd
                rw [if_pos (wanted_none rfl)]
                refine flow_call _ _ _ rfl Try.call96 _ (args2 (hd 13 _ rfl rfl (waits_spec rfl)) (hd 16 _ rfl rfl (waits_spec rfl))) (by simp) ((feMul_any _ _ _ _ HU.out ((Hdi.out).mulF Hdi.out) w2).mono ?_)
                rintro e w3 ⟨rfl, hb⟩; exact ⟨_, rfl, rfl, hb⟩
            · refine Each.all ?_
              refine ⟨(fun h => absurd h (by decide)), (fun h => absurd h (by decide)), (fun h => absurd h (by decide)), (fun h => absurd h (by decide)), (fun h => absurd h (by decide)), (fun h => absurd h (by decide)), (fun h => absurd h (by decide)), (fun h => absurd h (by decide)), (fun h => absurd h (by decide)), (fun h => absurd h (by decide)), (fun h => absurd h (by decide)), (fun h => absurd h (by decide)), (fun h => absurd h (by decide)), (fun h => absurd h (by decide)), (fun h => absurd h (by decide)), (fun h => absurd h (by decide)), (fun h => absurd h (by decide)), (fun h => absurd h (by decide)), ?_, ?_, ?_, ?_, trivial⟩
              · intro _ a w1 w2 K hB hF hS hr hK
                exact wp_store_arr 141 _ _ rfl .i64 ((w.heap.size + 5)) 16 (fun _ => 0) (mulF (aa) (bb)) Try.size141 (hF.same 10 rfl) (hS 2 _ rfl rfl ) hr hK
              · intro _ a w1 w2 K hB hF hS hr hK
                exact wp_store_arr 141 _ _ rfl .i64 ((w.heap.size + 6)) 16 (fun _ => 0) (mulF (ee) (addF (aa) (mulF (facF) (ee)))) Try.size141 (hF.same 11 rfl) (hS 9 _ rfl rfl ) hr hK
              · intro _ a w1 w2 K hB hF hS hr hK
                exact wp_store_arr 141 _ _ rfl .i64 ((w.heap.size + 7)) 16 (fun _ => 0) (mulF (su) (su)) Try.size141 (hF.same 12 rfl) (hS 12 _ rfl rfl ) hr hK
              · intro _ a w1 w2 K hB hF hS hr hK
                exact wp_store_arr 141 _ _ rfl .i64 ((w.heap.size + 8)) 16 (fun _ => 0) (mulF (fu) (mulF (di) (di))) Try.size141 (hF.same 13 rfl) (hS 17 _ rfl rfl ) hr hK
            · intro a wf w7 hB hF hS hfil
              have other : ∀ {k : IntKind} {qb n : Nat} {f : Nat → Int}, qb ≠ (w.heap.size + 5) → qb ≠ (w.heap.size + 6) → qb ≠ (w.heap.size + 7) → qb ≠ (w.heap.size + 8) → Arr k wf qb n f → Arr k w7 qb n f := fun {k qb n f} e0 e1 e2 e3 hA => hfil.arr (by intro i _ hpi; simp only [Bool.or_eq_true, beq_iff_eq] at hpi; rcases hpi with ((rfl | rfl) | rfl) | rfl <;> ((try simp only []); (try dsimp only); omega)) hA
              have belowT : ∀ {B : Nat} {w0 : World}, B ≤ (w.heap.size + 5) → B ≤ (w.heap.size + 6) → B ≤ (w.heap.size + 7) → B ≤ (w.heap.size + 8) → Below B w0 wf → Below B w0 w7 := fun {B w0} e0 e1 e2 e3 hA => hfil.below (by intro i _ hpi; simp only [Bool.or_eq_true, beq_iff_eq] at hpi; rcases hpi with ((rfl | rfl) | rfl) | rfl <;> ((try simp only []); (try dsimp only); omega)) hA
              have V18 : Arr .i64 w7 ((w.heap.size + 5)) 16 (mulF (aa) (bb)) := hfil.at 18 (by decide) rfl
              have V19 : Arr .i64 w7 ((w.heap.size + 6)) 16 (mulF (ee) (addF (aa) (mulF (facF) (ee)))) := hfil.at 19 (by decide) rfl
              have V20 : Arr .i64 w7 ((w.heap.size + 7)) 16 (mulF (su) (su)) := hfil.at 20 (by decide) rfl
              have V21 : Arr .i64 w7 ((w.heap.size + 8)) 16 (mulF (fu) (mulF (di) (di))) := hfil.at 21 (by decide) rfl
              have hszf := hfil.size
              clear hfil
              have ha := puts_each rfl rfl hF [_, _, _, _, _, _, _, _, _, _, _, _, _, _, _, _, _, _, undef, undef, undef, undef] rfl ⟨hS 0 _ rfl rfl, hS 1 _ rfl rfl, hS 2 _ rfl rfl, hS 3 _ rfl rfl, hS 4 _ rfl rfl, hS 5 _ rfl rfl, hS 6 _ rfl rfl, hS 7 _ rfl rfl, hS 8 _ rfl rfl, hS 9 _ rfl rfl, hS 10 _ rfl rfl, hS 11 _ rfl rfl, hS 12 _ rfl rfl, hS 13 _ rfl rfl, hS 14 _ rfl rfl, hS 15 _ rfl rfl, hS 16 _ rfl rfl, hS 17 _ rfl rfl, trivial, trivial, trivial, trivial, trivial⟩
              simp only [puts, Act.put, List.setIfInBounds_toArray, List.set_cons_succ, List.set_cons_zero] at ha
              subst ha
              clear hS hF
              have hb := belowT (by omega) (by omega) (by omega) (by omega) (hbel.trans (hB.mono hbel.size))
              go_wp2
              exact bodyPost_ret (results_str4 rfl _ _ .i64 16 Try.underlying141 rfl Try.size141 (w.heap.size + 5) (w.heap.size + 6) (w.heap.size + 7) (w.heap.size + 8) _ _ _ _ rfl V18 rfl V19 rfl V20 rfl V21) rfl ⟨_, _, _, _, rfl, ⟨Haa.out.mulF Hbb.out, Hee.out.mulF (Haa.out.addF (fe_fac.mulF Hee.out)), Hsu.out.mulF Hsu.out, HU.out.mulF (Hdi.out.mulF Hdi.out)⟩, hb⟩
end Go.Proofs.Ytllkfkbioloaoaa
