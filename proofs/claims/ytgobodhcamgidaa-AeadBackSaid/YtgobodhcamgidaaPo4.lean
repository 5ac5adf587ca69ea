/-
  poly: Clamp, clamped, Of: what each makes. Conditions: named in each theorem.
-/
import Derived.Test.YtgobodhcamgidaaPo3
import Derived.Test.YtgobodhcamgidaaPart
import Derived.Test.YtgobodhcamgidaaElem
set_option linter.unusedVariables false
set_option linter.unusedSimpArgs false
namespace Go.Bas
theorem and15_all : ∀ x : Nat, x < 256 → bits .and .u8 (x : Int) 15 = ((x % 16 : Nat) : Int) := by decide +kernel
theorem and252_all : ∀ x : Nat, x < 256 → bits .and .u8 (x : Int) 252 = ((x / 4 * 4 : Nat) : Int) := by decide +kernel
theorem and15_u8 {x : Int} (h0 : 0 ≤ x) (h1 : x < 256) : bits .and .u8 x 15 = x % 16 := by
  obtain ⟨n, rfl⟩ := Int.eq_ofNat_of_zero_le h0
  rw [and15_all n (by omega)]; omega
theorem and252_u8 {x : Int} (h0 : 0 ≤ x) (h1 : x < 256) : bits .and .u8 x 252 = x / 4 * 4 := by
  obtain ⟨n, rfl⟩ := Int.eq_ofNat_of_zero_le h0
  rw [and252_all n (by omega)]; omega
theorem upto_same {k : Nat} {g f : Nat → Int} (h : g k = f k) (i : Nat) : upto k g f i = upto (k + 1) g f i := by
  unfold upto
  by_cases e : i < k
  · rw [if_pos e, if_pos (by omega)]
  · rw [if_neg e]
    by_cases e2 : i = k
    · subst e2; rw [if_pos (by omega), h]
    · rw [if_neg (by omega)]
/-- bytes with bits as they should be. -/
def clampF (f : Nat → Int) : Nat → Int := fun i => if i % 4 = 3 then f i % 16 else if i % 4 = 0 ∧ 0 < i then f i / 4 * 4 else f i
theorem sm_short {f : Nat → Int} {n m : Nat} (h : n ≤ m) : sm 256 (fun i => if i < n then f i else 0) m = sm 256 f n := by
  induction m with
  | zero => obtain rfl : n = 0 := by omega
            rfl
  | succ m ih =>
    by_cases e : n = m + 1
    · subst e; exact sm_congr fun i hi => if_pos hi
    · rw [sm, ih (by omega), if_neg (by omega)]; omega
end Go.Bas
namespace Go.Proofs.Ytgobodhcamgidaa
open Go.RowKit Go.Bas
attribute [local go_sem ↓] Go.wp_at_zero Go.wp_at_succ

theorem Try.size70 : (Try.prog.info? 70).map (·.size) = some 16 := by kernel_rfl

set_option maxRecDepth 100000 in
set_option maxHeartbeats 3200000 in
theorem clamp_any (f : Nat → Int) (hf : ∀ i, i < 16 → 0 ≤ f i ∧ f i < 256) (w : World) :
    Calls Try.prog 109 #[.agg (arr .u8 16 f)] w fun e w' => e = .returned (.agg (arr .u8 16 (clampF f))) ∧ Below w.heap.size w w' := by
  have HF := Lib.hid hf
  clear hf
  go_enter Try.func109, Try.ntmps109
  go_wp2
  go_loopw [4] (fun i wr => ∃ k : Nat, k ≤ 16 ∧ i = .int .i64 k ∧ Arr .u8 wr w.heap.size 16 (upto k (clampF f) f) ∧ Arr .u8 wr (w.heap.size + 1) 16 (fun _ => 0) ∧ Below w.heap.size w wr) (fun i _ => 16 - (intOf i).toNat)
  case atStart => exact ⟨0, Nat.zero_le _, rfl, by rw [upto_zero]; exact Arr.alloc (Arr.newAt rfl rfl) _, Arr.newAt (by simp) (by rfl), ((Below.refl _ _).alloc (Nat.le_refl _) _).alloc (by simp) _⟩
  case round =>
    obtain ⟨k, hk, rfl, hA, hZ, hbel⟩ := hrel
    by_cases hlt : k < 16
    · have e1 := hA.cell k hlt
      rw [upto_at] at e1
      have f1 := hA.free k
      obtain ⟨x0, x1⟩ := HF.out k hlt
      have HC : Hid (clampF f k = if k % 4 = 3 then f k % 16 else if k % 4 = 0 ∧ 0 < k then f k / 4 * 4 else f k) := rfl
      obtain ⟨x, hx⟩ : ∃ x, x = f k := ⟨_, rfl⟩
      rw [← hx] at e1 x0 x1 HC
      have HA := Lib.hid hA
      have HZ := Lib.hid hZ
      have HX := Lib.hid hx
      clear hA hZ hx
      have hr : Int.tmod (k : Int) 4 = ((k % 4 : Nat) : Int) := by rw [Int.tmod_eq_emod_of_nonneg (by omega)]; omega
      have hr2 : (k : Int) % 4 = ((k % 4 : Nat) : Int) := by omega
      rcases (by omega : k % 4 = 0 ∨ k % 4 = 1 ∨ k % 4 = 2 ∨ k % 4 = 3) with h | h | h | h <;> rw [h] at hr hr2 HC
      · by_cases hp : 0 < k
        · have hand := and252_u8 x0 x1
          rw [if_neg (by decide), if_pos ⟨rfl, hp⟩] at HC
          go_wp2
          go_roundw
          case rel => exact ⟨k + 1, by omega, by go_num, by rw [← upto_step HC.out.symm]; exact HA.out.set k _, HZ.out.other (by simp) _, hbel.setCell (Nat.le_refl _) _⟩
          case measure => simp [intOf] <;> omega
        · obtain rfl : k = 0 := by omega
          rw [if_neg (by decide), if_neg (by omega)] at HC
          go_wp2
          go_roundw
          case rel => exact ⟨0 + 1, by omega, by go_num, HA.out.congr (fun i _ => upto_same (HC.out.trans HX.out) i), HZ.out, hbel⟩
          case measure => simp [intOf] <;> omega
      · rw [if_neg (by decide), if_neg (by omega)] at HC
        go_wp2
        go_roundw
        case rel => exact ⟨k + 1, by omega, by go_num, HA.out.congr (fun i _ => upto_same (HC.out.trans HX.out) i), HZ.out, hbel⟩
        case measure => simp [intOf] <;> omega
      · rw [if_neg (by decide), if_neg (by omega)] at HC
        go_wp2
        go_roundw
        case rel => exact ⟨k + 1, by omega, by go_num, HA.out.congr (fun i _ => upto_same (HC.out.trans HX.out) i), HZ.out, hbel⟩
        case measure => simp [intOf] <;> omega
      · have hand := and15_u8 x0 x1
        rw [if_pos rfl] at HC
        go_wp2
        go_roundw
        case rel => exact ⟨k + 1, by omega, by go_num, by rw [← upto_step HC.out.symm]; exact HA.out.set k _, HZ.out.other (by simp) _, hbel.setCell (Nat.le_refl _) _⟩
        case measure => simp [intOf] <;> omega
    · obtain rfl : k = 16 := by omega
      go_wp2_with (first
        | (refine load_arr rfl 70 _ rfl .u8 w.heap.size 16 _ 5 Try.underlying70 Try.size70 rfl hA ?_)
        | (refine store_arr rfl 70 _ _ rfl .u8 (w.heap.size + 1) 16 (fun _ => 0) _ Try.size70 rfl rfl hZ ?_))
      refine bodyPost_ret (results_arr rfl _ _ .u8 (w.heap.size + 1) 16 _ 5 rfl (hZ.setRow _ _) Try.underlying70 Try.size70) rfl ⟨?_, below_setRow' hbel (by omega) _⟩
      rw [arr_congr (upto_full _ _ (Nat.le_refl _))]

set_option maxRecDepth 100000 in
set_option maxHeartbeats 3200000 in
theorem clamped_any (f : Nat → Int) (hf : ∀ i, i < 32 → 0 ≤ f i ∧ f i < 256) (w : World) :
    Calls Try.prog 86 #[.agg (arr .u8 32 f)] w fun e w' => ∃ v, e = .returned v ∧ Rd .u8 w' v 16 (clampF f) ∧ Below w.heap.size w w' := by
  have HF := Lib.hid hf
  clear hf
  go_enter Try.func86, Try.ntmps86
  have hA : Arr .u8 (w.alloc (.cells (arr .u8 32 f) 26)) w.heap.size 32 f := Arr.newAt rfl rfl
  have hat := arrayAt_part (a := some ⟨w.heap.size, 0, none⟩) (len := 16) (cap := 32) Try.underlying70 (by decide)
  go_wp2_with (refine load_part rfl 70 _ rfl .u8 w.heap.size 0 16 f 5 Try.underlying70 Try.size70 rfl (fun i hi => by rw [Nat.zero_add]; exact hA.cell i (by omega)) ?_)
  refine (clamp_any f (fun i hi => HF.out i (by omega)) _).mono ?_
  rintro e w1 ⟨rfl, hb1⟩
  have hbel : Below w.heap.size w w1 := ((Below.refl _ _).alloc (Nat.le_refl _) _).trans (hb1.mono (by simp))
  have hs := hbel.size
  clear hA hb1
  go_upto_region 2 with (refine store_arr rfl 70 _ _ rfl .u8 w1.heap.size 16 (fun _ => 0) _ Try.size70 rfl rfl (Arr.newAt rfl rfl) ?_)
  refine wp_world (fun w2 => Arr .u8 w2 w1.heap.size 16 (clampF f) ∧ Below w.heap.size w w2)
    ⟨Arr.setRow (Arr.newAt (n := 16) (f := fun _ => 0) rfl rfl) _ _, below_setRow' (hbel.alloc hs _) hs _⟩ ?_
  rintro w2 ⟨hA, hb2⟩
  clear hbel
  go_wp2
  go_ret
  exact ⟨_, rfl, hA.rd (by decide), hb2⟩

set_option maxRecDepth 100000 in
set_option maxHeartbeats 3200000 in
theorem poOf_any (v : Value) (n : Nat) (f : Nat → Int) (w : World) (hv : Rd .u8 w v n f) (hf : ∀ i, i < n → 0 ≤ f i ∧ f i < 256) (hn : n ≤ 17) :
    Calls Try.prog 85 #[v] w fun e w' => e = .returned (.tuple #[.agg (arr .u8 17 (dg 256 (sm 256 f n % PP))), .int .i64 0]) ∧ Below w.heap.size w w' := by
  obtain ⟨a1, c1, rfl, l1, m1, z1, h1⟩ := id hv
  have HV := Lib.hid hv
  have hb := sm_bound (B := 256) (by decide) hf
  have hX : 0 ≤ sm 256 f n ∧ sm 256 f n < 256 ^ 17 := ⟨hb.1, Int.lt_of_lt_of_le hb.2 (pow_mono 256 (by decide) _ _ hn)⟩
  have hD : ∀ i, i < 17 → laid (fun _ => 0) 0 n f i = dg 256 (sm 256 f n) i := by
    intro i hi
    rw [← sm_short hn, dg_sm (B := 256) (by decide) (n := 17) (fun i _ => by
      by_cases e : i < n
      · rw [if_pos e]; have := hf i e; omega
      · rw [if_neg e]; decide) i hi]
    unfold laid
    by_cases e : i < n
    · rw [if_pos e, if_pos (by omega)]; rfl
    · rw [if_neg e, if_neg (by omega)]
  have HD := Lib.hid hD
  have HX := Lib.hid hX
  obtain ⟨X, hXe⟩ : ∃ X, X = sm 256 f n := ⟨_, rfl⟩
  rw [← hXe] at HD HX ⊢
  clear hv h1 z1 hb hX hD hf hXe
  go_enter Try.func85, Try.ntmps85
  go_upto_region 4 with (fail)
  refine wp_world (fun w1 => Arr .u8 w1 w.heap.size 17 (fun _ => 0) ∧ Arr .u8 w1 (w.heap.size + 1) 17 (fun _ => 0) ∧ Rd .u8 w1 (.slice a1 n c1) n f ∧ Below w.heap.size w w1)
    ⟨Arr.alloc (Arr.newAt (by simp) (by rfl)) _, Arr.newAt (by simp) (by rfl), HV.out.below (((Below.refl _ _).alloc (Nat.le_refl _) _).alloc (by simp) _), ((Below.refl _ _).alloc (Nat.le_refl _) _).alloc (by simp) _⟩ ?_
  rintro w1 ⟨hZ, hA, hR, hbel⟩
  go_upto_region 5 with (refine list_copy_arr rfl _ _ 22 22 rfl (w.heap.size + 1) 0 17 17 17 (fun _ => 0) Try.underlying22 Try.size5 rfl hA _ n f hR rfl hn (by omega) ?_)
  refine wp_world (fun w2 => Arr .u8 w2 w.heap.size 17 (fun _ => 0) ∧ Arr .u8 w2 (w.heap.size + 1) 17 (dg 256 X) ∧ Below w.heap.size w w2)
    ⟨hZ.setRowOther _ (by omega) _, (hA.setRow _ _).congr HD.out, below_setRow' hbel (by omega) _⟩ ?_
  rintro w2 ⟨hZ2, hA2, hb2⟩
  clear hZ hA hR hbel
  go_wp2_with (refine load_arr rfl 120 _ rfl .u8 (w.heap.size + 1) 17 _ 5 Try.underlying120 Try.size120 rfl hA2 ?_)
  refine (wide_any X _).mono ?_
  rintro e w3 ⟨rfl, hb3⟩
  go_wp2_with fail
  refine (reduced_dg X HX.out _).mono ?_
  rintro e w4 ⟨rfl, hb4⟩
  go_wp2_with fail
  refine (plain_any (X % PP) _).mono ?_
  rintro e w5 ⟨rfl, hb5⟩
  have hZ5 := ((hZ2.kept hb3).kept hb4).kept hb5
  have s2 := hb2.size
  have s3 := hb3.size
  have s4 := hb4.size
  have hbf := ((hb2.trans (hb3.mono s2)).trans (hb4.mono (by omega))).trans (hb5.mono (by omega))
  clear hb2 hb3 hb4 hb5 hZ2 hA2
  go_wp2_with (refine store_arr rfl 120 _ _ rfl .u8 w.heap.size 17 (fun _ => 0) _ Try.size120 rfl rfl hZ5 ?_)
  exact bodyPost_ret (results_arr2 rfl _ _ .u8 w.heap.size 17 _ 5 rfl (hZ5.setRow _ _) Try.underlying120 Try.size120) rfl ⟨rfl, below_setRow' hbf (Nat.le_refl _) _⟩
end Go.Proofs.Ytgobodhcamgidaa
