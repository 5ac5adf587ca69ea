/-
  A new disk; disks that are none. Conditions: named in each theorem.
-/
import Derived.Test.YtlmdgmgbijfaoaaDkH
import Derived.Laws.MakeOwn
import Derived.RegionTactic
set_option linter.unusedVariables false
set_option linter.unusedSimpArgs false
namespace Go.Bas
open Go.RowKit
/-- make of n rows: all rows alike. -/
theorem run_make_rows {P : Program} {t e : TypeId} {c bytes : Nat} {z : Value} (ht : P.underlying t = some (.slice e)) (hinfo : (P.info? e).map (fun i => (i.zero, i.size, i.bytes)) = some (some z, c, bytes)) (n : Nat) (hb : bytes * n ≤ 281474976710656) (h63 : n ≤ 9223372036854775807) :
    ∃ CS : Array Value, CS = madeCells z.cells (n * c) ∧ ∀ w, (Instr.makeSlice t (.int .i64 (n : Int)) (.int .i64 (n : Int))).run P w = .ok (.slice (some ⟨w.heap.size, 0, none⟩) n n) (w.alloc (.cells CS e)) := by
  obtain ⟨i0, hi, hz0, hz1, hz2⟩ := info_parts hinfo
  refine ⟨_, rfl, fun w => ?_⟩
  have hb' : (i0.bytes : Int) * (n : Int) ≤ 281474976710656 := by
    have h : ((i0.bytes * n : Nat) : Int) ≤ 281474976710656 := by rw [hz2]; omega
    rwa [Int.natCast_mul] at h
  have hr := run_make (P := P) w t e i0 z ht hi hz0 .i64 .i64 n n (by omega) (Int.le_refl _) hb' (by omega)
  simpa [hz1] using hr
theorem madeCells_get {z : Array Value} {n i : Nat} (h : i < n) (hz : 0 < z.size) : (madeCells z n)[i]? = z[i % z.size]? := by
  unfold madeCells
  have h2 : i % z.size < z.size := Nat.mod_lt _ hz
  simp [h, h2]
end Go.Bas
namespace Go.Proofs.Ytlmdgmgbijfaoaa
open Go.RowKit Go.Bas Go.ChangeShapes
attribute [local go_sem ↓] Go.wp_at_zero Go.wp_at_succ
set_option maxRecDepth 100000 in
theorem dkNew_no (n : Int) (hn : n < 1 ∨ 16384 < n) (w : World) : Calls Try.prog 18 #[.int .i64 n] w fun e w' => e = .returned (.tuple #[.pointer none, .int .i64 2]) ∧ w' = w := by
  go_enter Try.func18, Try.ntmps18
  by_cases h1 : n < 1
  · clear hn
    go_wp2
    go_ret2
    exact ⟨rfl, rfl⟩
  · have h2 : 16384 < n := by omega
    clear hn
    go_wp2
    go_ret2
    exact ⟨rfl, rfl⟩
theorem DkAt.made {w : World} {n : Nat} {x y : Value} (h0 : 0 < n) (h1 : n ≤ 16384) (hx : OwM 137 64 w x n (fun _ _ => .int .u8 0)) (hy : OwM 137 64 w y n (fun _ _ => .int .u8 0)) (hxy : x.ownBlock ≠ y.ownBlock) :
    DkAt (w.alloc (.cells #[x, y, .slice none 0 0, .int .i64 (-1), .bool false, .int .i64 0] 134)) w.heap.size x y (.slice none 0 0) (dskNew n) := by
  have hb := heap_alloc_new w (.cells #[x, y, .slice none 0 0, .int .i64 (-1), .bool false, .int .i64 0] 134)
  have hc : ∀ i, (w.alloc (.cells #[x, y, .slice none 0 0, .int .i64 (-1), .bool false, .int .i64 0] 134)).cell? ⟨w.heap.size, i, none⟩ = (#[x, y, .slice none 0 0, .int .i64 (-1), .bool false, .int .i64 0] : Array Value)[i]? := fun i => cell_of_row _ _ i _ _ (0, 0) hb
  exact ⟨⟨_, hb, rfl⟩, hc 0, hc 1, hc 2, hc 3, hc 4, hc 5, hx.alloc _, hy.alloc _, OwM.nil _ _ _ _, hxy, h0, h1, fun j hj => absurd hj (Nat.not_lt_zero _), Nat.zero_le _, by show (-1 : Int) ≤ -1; decide, by show (-1 : Int) ≤ _; decide, by show _ ≤ (0 : Int); decide, by show (0 : Int) ≤ _; decide⟩
set_option maxRecDepth 100000 in
set_option maxHeartbeats 3200000 in
theorem dkNew_yes (n : Nat) (h1 : 1 ≤ n) (h2 : n ≤ 16384) (w : World) : Calls Try.prog 18 #[.int .i64 n] w fun e w' => ∃ p, e = .returned (.tuple #[ptrTo p, .int .i64 0]) ∧ ∃ vk vn, DkAt w' p vk vn (.slice none 0 0) (dskNew n) ∧ Below w.heap.size w w' ∧ w.heap.size ≤ p ∧ (∀ b, vk.ownBlock = some b → w.heap.size ≤ b) ∧ (∀ b, vn.ownBlock = some b → w.heap.size ≤ b) := by
  obtain ⟨CS, hCS, HM⟩ := run_make_rows (P := Try.prog) Try.underlying131 Try.info137 n (by omega) (by omega)
  have HS : Hid (CS.size = n * 64 ∧ ∀ i, i < n * 64 → CS[i]? = some (.int .u8 0)) := by
    subst hCS
    refine ⟨size_madeCells _ _, fun i hi => ?_⟩
    have hz : (Value.agg (arr .u8 64 fun _ => 0)).cells = arr .u8 64 fun _ => 0 := rfl
    rw [hz, madeCells_get hi (by rw [arr_size]; decide), arr_size]
    exact arr_get (Nat.mod_lt _ (by decide))
  have HN := Lib.hid h1
  have HN2 := Lib.hid h2
  have g1 : ¬ (n : Int) < 1 := by omega
  have g2 : ¬ 16384 < (n : Int) := by omega
  clear hCS h1 h2
  go_enter Try.func18, Try.ntmps18
  go_upto_region 3 with (fail)
  go_region
  all_goals
    have hr : ∀ w : World, OwM 137 64 (w.alloc (.cells CS 137)) (.slice (some ⟨w.heap.size, 0, none⟩) n n) n (fun _ _ => .int .u8 0) := fun w => OwM.new w _ 64 (by have := HN2.out; unfold maxLen; omega) HS.out.1 fun j hj i hi => HS.out.2 _ (by have : (j + 1) * 64 ≤ n * 64 := Nat.mul_le_mul_right 64 hj; omega)
    have hx : OwM 137 64 ((w.alloc (.cells CS 137)).alloc (.cells CS 137)) (.slice (some ⟨w.heap.size, 0, none⟩) n n) n (fun _ _ => .int .u8 0) := (hr w).alloc _
    have hy : OwM 137 64 ((w.alloc (.cells CS 137)).alloc (.cells CS 137)) (.slice (some ⟨w.heap.size + 1, 0, none⟩) n n) n (fun _ _ => .int .u8 0) := by
      have := hr (w.alloc (.cells CS 137))
      rwa [show (w.alloc (.cells CS 137)).heap.size = w.heap.size + 1 from World.size_alloc _ _] at this
    have hs2 : ((w.alloc (.cells CS 137)).alloc (.cells CS 137)).heap.size = w.heap.size + 1 + 1 := by rw [World.size_alloc, World.size_alloc]
    have hbel : ∀ o, Below w.heap.size w (((w.alloc (.cells CS 137)).alloc (.cells CS 137)).alloc o).drew := fun o => ((((Below.refl _ _).alloc (Nat.le_refl _) _).alloc (by rw [World.size_alloc]; omega) _).alloc (by rw [hs2]; omega) _).drew
  · have hA := Lib.hid (DkAt.made HN.out HN2.out hx hy (by simp [Value.ownBlock]))
    rw [hs2] at hA
    have hB := Lib.hid (hbel (.cells #[.slice (some ⟨w.heap.size, 0, none⟩) n n, .slice (some ⟨w.heap.size + 1, 0, none⟩) n n, .slice none 0 0, .int .i64 (-1), .bool false, .int .i64 0] 134))
    clear hr hx hy hbel hs2
    go_wp2
    go_ret2
    exact ⟨_, rfl, _, _, hA.out.below ((Below.refl _ _).drew), hB.out, by omega, fun b hb => by cases hb; exact Nat.le_refl _, fun b hb => by cases hb; exact Nat.le_succ _⟩
  · have hA := Lib.hid (DkAt.made HN.out HN2.out hy hx (by simp [Value.ownBlock]))
    rw [hs2] at hA
    have hB := Lib.hid (hbel (.cells #[.slice (some ⟨w.heap.size + 1, 0, none⟩) n n, .slice (some ⟨w.heap.size, 0, none⟩) n n, .slice none 0 0, .int .i64 (-1), .bool false, .int .i64 0] 134))
    clear hr hx hy hbel hs2
    go_wp2
    go_ret2
    exact ⟨_, rfl, _, _, hA.out.below ((Below.refl _ _).drew), hB.out, by omega, fun b hb => by cases hb; exact Nat.le_succ _, fun b hb => by cases hb; exact Nat.le_refl _⟩
end Go.Proofs.Ytlmdgmgbijfaoaa
