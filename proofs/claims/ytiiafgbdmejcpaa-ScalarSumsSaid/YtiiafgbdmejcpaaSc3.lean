/-
  scalar.taken: the scalar of bytes. Conditions: named in each theorem.
-/
import Derived.Test.YtiiafgbdmejcpaaSc2
import Derived.Test.YtiiafgbdmejcpaaOps
namespace Go.Proofs.Ytiiafgbdmejcpaa
open Go.RowKit Go.Bas
attribute [local go_sem ↓] Go.wp_at_zero Go.wp_at_succ

theorem bit_small (Y : Int) (r : Nat) (h : r < 8) : Y / 2 ^ r % 2 = Y % 256 / 2 ^ r % 2 := by
  rcases (by omega : r = 0 ∨ r = 1 ∨ r = 2 ∨ r = 3 ∨ r = 4 ∨ r = 5 ∨ r = 6 ∨ r = 7) with rfl | rfl | rfl | rfl | rfl | rfl | rfl | rfl <;> simp <;> omega
theorem pow_256 (m : Nat) : (2 : Int) ^ m = 256 ^ (m / 8) * 2 ^ (m % 8) := by
  rw [show (256 : Int) = 2 ^ 8 from rfl, ← Int.pow_mul, ← Int.pow_add]; congr 1; omega
/-- a bit of a number is one of its byte's. -/
theorem bit_of (X : Int) (m : Nat) : X / 2 ^ m % 2 = dg 256 X (m / 8) / 2 ^ (m % 8) % 2 := by
  rw [pow_256, ← Int.ediv_ediv_of_nonneg (Int.le_of_lt (pow_pos' (by decide) _)), bit_small _ _ (Nat.mod_lt _ (by decide))]
  rfl
theorem half (X : Int) (m : Nat) : X / 2 ^ m = 2 * (X / 2 ^ (m + 1)) + X / 2 ^ m % 2 := by
  rw [div_succ (by decide)]; omega
theorem once_half (X : Int) (m : Nat) : once (2 * (X / 2 ^ (m + 1) % Q) + X / 2 ^ m % 2) = X / 2 ^ m % Q := by
  have h := half X m
  generalize X / 2 ^ (m + 1) = Y at h
  generalize X / 2 ^ m = Z at h
  unfold once Q
  split <;> omega
theorem once_bound (Y b : Int) (hb : 0 ≤ b ∧ b ≤ 1) : 0 ≤ 2 * (Y % Q) + b ∧ 2 * (Y % Q) + b < 65536 ^ 17 := by
  have h1 := Int.emod_nonneg Y (by decide : Q ≠ 0)
  have h2 := Int.emod_lt_of_pos Y (by decide : 0 < Q)
  have h3 : (2 : Int) * Q < 65536 ^ 17 := by decide
  omega
theorem byte_shr {x : Int} (r : Nat) (h : r < 8) : Int.fdiv x (2 ^ (min (Int.toNat ((r : Nat) : Int)) IntKind.u8.bits)) = x / 2 ^ r := by
  rw [Int.toNat_natCast, show IntKind.u8.bits = 8 from rfl, Nat.min_eq_left (by omega), Int.fdiv_eq_ediv_of_nonneg _ (Int.le_of_lt (pow_pos' (by decide) _))]
set_option maxRecDepth 100000 in
theorem and1_u8 {x : Int} (h0 : 0 ≤ x) (h1 : x < 256) : bits .and .u8 x 1 = x % 2 := by
  obtain ⟨n, rfl⟩ := Int.eq_ofNat_of_zero_le h0
  have hn : n < 256 := by omega
  have key : ∀ n : Fin 256, bits .and .u8 ((n.val : Nat) : Int) 1 = ((n.val : Nat) : Int) % 2 := by decide
  exact key ⟨n, hn⟩

set_option maxRecDepth 100000 in
set_option maxHeartbeats 800000 in
theorem taken_any (v : Value) (n : Nat) (f : Nat → Int) (w : World) (hv : Rd .u8 w v n f) (hf : ∀ i, i < n → 0 ≤ f i ∧ f i < 256) (hn : n ≤ 1000) :
    Calls Try.prog 57 #[v] w fun e w' =>
      e = .returned (.agg (arr .u32 17 (dg 65536 (sm 256 f n % Q)))) ∧ Below w.heap.size w w' := by
  obtain ⟨a1, c1, rfl, l1, m1, z1, h1⟩ := hv
  have HF := Lib.hid hf
  have H1 := Lib.hid h1
  have hw8 : IntKind.i64.wrap (8 * (n : Int)) = 8 * n := wrap_i64_id (by omega) (by omega)
  have hw9 : IntKind.i64.wrap (8 * (n : Int) - 1) = 8 * n - 1 := wrap_i64_id (by omega) (by omega)
  have hs := sm_bound (B := 256) (by decide) HF.out
  obtain ⟨X, hX⟩ : ∃ X, X = sm 256 f n := ⟨_, rfl⟩
  have hX0 : Hid (∀ i, i < n → dg 256 X i = f i) := by unfold Hid; rw [hX]; exact dg_sm (by decide) HF.out
  have hXb : Hid (X / 2 ^ (8 * n) = 0) := by
    unfold Hid
    rw [hX, Int.pow_mul]
    exact Int.ediv_eq_zero_of_lt hs.1 hs.2
  have hX1 : Hid (X = X / 2 ^ 0) := by unfold Hid; simp
  rw [← hX]
  have HX := Lib.hid hX
  clear h1 z1 hf hs hX
  go_enter Try.func57, Try.ntmps57
  go_wp2
  go_loopw [4] (fun i wr => ∃ k : Nat, k ≤ 8 * n ∧ i = .int .i64 ((k : Int) - 1) ∧ Arr .u32 wr w.heap.size 17 (fun _ => 0) ∧ Arr .u32 wr (w.heap.size + 1) 17 (dg 65536 (X / 2 ^ k % Q)) ∧ Below w.heap.size w wr) (fun i _ => (intOf i + 1).toNat)
  case atStart => exact ⟨8 * n, Nat.le_refl _, by go_num, Arr.alloc (Arr.newAt (by first | omega | (simp <;> omega)) (by rfl)) _, by rw [hXb.out]; exact Arr.newAt (by first | omega | (simp <;> omega)) (by rfl), ((Below.refl _ _).alloc (Nat.le_refl _) _).alloc (by simp) _⟩
  case round =>
    obtain ⟨k, hk, rfl, hZ, hA, hbel⟩ := hrel
    obtain _ | m := k
    · go_wp2_with (first
        | (refine load_arr rfl 91 _ rfl .u32 (w.heap.size + 1) 17 _ 40 Try.underlying91 Try.size91 rfl hA ?_)
        | (refine store_arr rfl 91 _ _ rfl .u32 w.heap.size 17 (fun _ => 0) _ Try.size91 rfl rfl hZ ?_))
      refine bodyPost_ret (results_arr rfl _ _ .u32 w.heap.size 17 _ 40 rfl (hZ.setRow _ _) Try.underlying91 Try.size91) rfl ⟨?_, below_setRow' hbel (Nat.le_refl _) _⟩
      rw [← hX1.out]
    · have hm8 : m / 8 < n := by omega
      obtain ⟨b, off, rfl, s1, hcell⟩ := H1.out (by omega)
      have hm9 : m % 8 < 8 := Nat.mod_lt _ (by decide)
      have hfm := HF.out (m / 8) hm8
      have hkm : ((m + 1 : Nat) : Int) - 1 = (m : Int) := by omega
      rw [hkm]
      have hq : IntKind.i64.wrap (Int.tdiv (m : Int) 8) = ((m / 8 : Nat) : Int) := by rw [Int.tdiv_eq_ediv_of_nonneg (by omega), wrap_i64_id] <;> omega
      have hr : Int.tmod (m : Int) 8 = ((m % 8 : Nat) : Int) := by rw [Int.tmod_eq_emod_of_nonneg (by omega)]; omega
      have hc : IntKind.u64.wrap ((m % 8 : Nat) : Int) = ((m % 8 : Nat) : Int) := wrap_u64_id (by omega) (by omega)
      have hsh := byte_shr (x := f (m / 8)) (m % 8) hm9
      have hand : bits .and .u8 (f (m / 8) / 2 ^ (m % 8)) 1 = X / 2 ^ m % 2 := by
        rw [and1_u8 (Int.ediv_nonneg hfm.1 (Int.le_of_lt (pow_pos' (by decide) _))) (Int.lt_of_le_of_lt (Int.ediv_le_self _ hfm.1) hfm.2), bit_of X m, hX0.out _ hm8]
      have hbit : 0 ≤ X / 2 ^ m % 2 ∧ X / 2 ^ m % 2 ≤ 1 := by omega
      have hcv : IntKind.u32.wrap (X / 2 ^ m % 2) = X / 2 ^ m % 2 := wrap_u32_id (by omega) (by omega)
      have hpl : off + ((m / 8 : Nat) : Int).toNat = off + m / 8 := by rw [Int.toNat_natCast]
      have hce := hcell (m / 8) hm8
      have hce2 := (hbel.cell (p := ⟨b, off + m / 8, none⟩) s1).trans hce
      have hbw := Nat.lt_of_lt_of_le s1 hbel.size
      have hcond : (0 : Int) ≤ (m : Int) := by omega
      have HX0 := Lib.hid hq
      go_wp2_with fail
      refine region_last' (n := 28) 14 rfl (by decide) (by kernel_rfl) (by kernel_rfl) (by kernel_rfl) (by kernel_rfl) rfl
        (fun i v _ => (match i with | 0 => v = .agg (arr .u32 17 (dg 65536 (X / 2 ^ (m + 1) % Q))) | 1 => v = .slice (some ⟨b, off, none⟩) n c1 | 2 | 6 => v = .int .i64 ((m : Int)) | 3 => v = .int .i64 ((m / 8 : Nat)) | 4 => v = .pointer (some ⟨b, off + m / 8, none⟩) | 5 => v = .int .u8 (f (m / 8)) | 7 => v = .int .i64 ((m % 8 : Nat)) | 8 => v = .int .u64 ((m % 8 : Nat)) | 9 => v = .int .u8 (f (m / 8) / 2 ^ (m % 8)) | 10 => v = .int .u8 (X / 2 ^ m % 2) | 11 => v = .int .u32 (X / 2 ^ m % 2) | 12 => v = .agg (arr .u32 17 (dg 65536 (2 * (X / 2 ^ (m + 1) % Q) + X / 2 ^ m % 2))) | 13 => v = .agg (arr .u32 17 (dg 65536 (once (2 * (X / 2 ^ (m + 1) % Q) + X / 2 ^ m % 2)))) | _ => True))
        (fun w w' => Below w.heap.size w w') (fun _ _ h => h) (fun _ _ _ _ h _ => h) rfl ?_ ?_
      · refine Each.all ?_
        refine ⟨?_, ?_, ?_, ?_, ?_, ?_, ?_, ?_, ?_, ?_, ?_, ?_, ?_, ?_, (fun h => absurd rfl h), trivial⟩
        · intro _ a w2 hB hF hd
          rw [if_pos (wanted_none rfl)]
          exact flow_val (fun h => by cases h) (run_load_arr rfl Try.underlying91 Try.size91 (hF.same 3 rfl) (hA.below hB hA.lt)) rfl
        · intro _ a w2 hB hF hd
          rw [if_pos (wanted_none rfl)]
          exact flow_move _ (.inl rfl) (by simp) (hF.same 0 rfl)
        · intro _ a w2 hB hF hd
          rw [if_pos (wanted_none rfl)]
          exact flow_move _ (.inl rfl) (by simp) (hF.same 4 rfl)
        · intro _ a w2 hB hF hd
          rw [if_pos (wanted_none rfl)]
          exact flow_val (fun h => by cases h) (Go.Bas.run_quo rfl (hd 2 _ rfl (waits_spec rfl)) rfl (by decide)) (congrArg (Value.int .i64) (hq))
        · intro _ a w2 hB hF hd
          rw [if_pos (wanted_none rfl)]
          exact flow_val (fun h => by cases h) (run_index_slice rfl (hd 1 _ rfl (waits_spec rfl)) (hd 3 _ rfl (waits_spec rfl)) Try.underlying23 (by kernel_rfl) (by omega) (by omega)) (congrArg (fun z => Value.pointer (some ⟨b, z, none⟩)) hpl)
        · intro _ a w2 hB hF hd
          rw [if_pos (wanted_none rfl)]
          exact flow_val (fun h => by cases h) (run_load_cell rfl (hd 4 _ rfl (waits_spec rfl)) Try.underlying5 ((hB.cell (p := ⟨b, off + m / 8, none⟩) hbw).trans hce2)) rfl
        · intro _ a w2 hB hF hd
          rw [if_pos (wanted_none rfl)]
          exact flow_move _ (.inl rfl) (by simp) (hF.same 4 rfl)
        · intro _ a w2 hB hF hd
          rw [if_pos (wanted_none rfl)]
          exact flow_val (fun h => by cases h) (Go.Bas.run_rem rfl (hd 6 _ rfl (waits_spec rfl)) rfl (by decide)) (congrArg (Value.int .i64) (hr))
        · intro _ a w2 hB hF hd
          rw [if_pos (wanted_none rfl)]
          exact flow_val (fun h => by cases h) (run_conv rfl (hd 7 _ rfl (waits_spec rfl)) Try.underlying3 Try.underlying84) (congrArg (Value.int .u64) (hc))
        · intro _ a w2 hB hF hd
          rw [if_pos (wanted_none rfl)]
          exact flow_val (fun h => by cases h) (Go.Bas.run_shr rfl (hd 5 _ rfl (waits_spec rfl)) (hd 8 _ rfl (waits_spec rfl)) (by omega)) (congrArg (Value.int .u8) (hsh))
        · intro _ a w2 hB hF hd
          rw [if_pos (wanted_none rfl)]
          exact flow_val (fun h => by cases h) (Go.Bas.run_and rfl (hd 9 _ rfl (waits_spec rfl)) rfl) (congrArg (Value.int .u8) (hand))
        · intro _ a w2 hB hF hd
          rw [if_pos (wanted_none rfl)]
          exact flow_val (fun h => by cases h) (run_conv rfl (hd 10 _ rfl (waits_spec rfl)) Try.underlying5 Try.underlying40) (congrArg (Value.int .u32) (hcv))
        · intro _ a w2 hB hF hd
          rw [if_pos (wanted_none rfl)]
          refine flow_call _ _ _ rfl Try.call65 _ (args2 (hd 0 _ rfl (waits_spec rfl)) (hd 11 _ rfl (waits_spec rfl))) (by simp) ((twice_any _ _ w2 hbit).mono ?_)
          rintro e w3 ⟨rfl, hb⟩; exact ⟨_, rfl, rfl, hb⟩
        · intro _ a w2 hB hF hd
          rw [if_pos (wanted_none rfl)]
          refine flow_call _ _ _ rfl Try.call62 _ (args1 (hd 12 _ rfl (waits_spec rfl))) (by simp) ((once_any _ w2 (once_bound _ _ hbit)).mono ?_)
          rintro e w3 ⟨rfl, hb⟩; exact ⟨_, rfl, rfl, hb⟩
      · intro a w2 hB hF hS
        have ha := puts_each rfl rfl hF [_, _, _, _, _, _, _, _, _, _, _, _, _, _, undef] rfl ⟨hS 0 _ rfl (by decide), hS 1 _ rfl (by decide), hS 2 _ rfl (by decide), hS 3 _ rfl (by decide), hS 4 _ rfl (by decide), hS 5 _ rfl (by decide), hS 6 _ rfl (by decide), hS 7 _ rfl (by decide), hS 8 _ rfl (by decide), hS 9 _ rfl (by decide), hS 10 _ rfl (by decide), hS 11 _ rfl (by decide), hS 12 _ rfl (by decide), hS 13 _ rfl (by decide), trivial, trivial⟩
        simp only [puts, Act.put, List.setIfInBounds_toArray, List.set_cons_succ, List.set_cons_zero] at ha
        subst ha
        clear hS hF
        have hA2 := hA.below hB hA.lt
        have hZ2 := hZ.below hB hZ.lt
        have hb2 := hbel.trans (hB.mono hbel.size)
        refine wp_store_arr 91 _ _ rfl .u32 (w.heap.size + 1) 17 _ _ Try.size91 rfl rfl hA2 ?_
        have hon := once_half X m
        have HON := Lib.hid hon
        clear hon
        go_wp2
        go_roundw
        case rel => exact ⟨m, by omega, by go_num, (hZ2.setRowOther _ (by omega) _), by rw [← HON.out]; exact hA2.setRow _ _, below_setRow' hb2 (by omega) _⟩
        case measure => simp [intOf] <;> omega
end Go.Proofs.Ytiiafgbdmejcpaa
