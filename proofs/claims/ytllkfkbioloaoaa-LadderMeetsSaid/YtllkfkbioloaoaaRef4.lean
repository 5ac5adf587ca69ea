/-
  bastilleref04: Bytes, Digits, AtLeast, Less: what each makes. Conditions: named in each theorem.
-/
import Derived.Test.YtllkfkbioloaoaaTypes
import Derived.Test.YtllkfkbioloaoaaNum
import Derived.Test.YtllkfkbioloaoaaArr
set_option linter.unusedVariables false
set_option linter.unusedSimpArgs false
namespace Go.Proofs.Ytllkfkbioloaoaa
open Go.RowKit Go.Bas
attribute [local go_sem ↓] Go.wp_at_zero Go.wp_at_succ

set_option maxRecDepth 100000 in
set_option maxHeartbeats 800000 in
theorem rBytes_any (v : Value) (X : Int) (n : Nat) (hn : 16 ≤ n) (w : World) (hv : Rd .i64 w v n (dg 65536 X)) :
    Calls Try.prog 89 #[v] w fun e w' =>
      e = .returned (.agg (arr .u8 32 (dg 256 X))) ∧ Below w.heap.size w w' := by
  obtain ⟨a1, c1, rfl, l1, m1, z1, h1⟩ := hv
  obtain ⟨b, off, rfl, s1, hcell⟩ := h1 (by omega)
  clear z1 h1
  have HC := Lib.hid hcell
  clear hcell
  go_enter Try.func89, Try.ntmps89
  go_wp2
  go_loopw [4] (fun i wr => ∃ k : Nat, k ≤ 16 ∧ i = .int .i64 k ∧ Arr .u8 wr w.heap.size 32 (fun _ => 0) ∧ Arr .u8 wr (w.heap.size + 1) 32 (upto (2 * k) (dg 256 X) (fun _ => 0)) ∧ Below w.heap.size w wr) (fun i _ => 16 - (intOf i).toNat)
  case atStart => exact ⟨0, Nat.zero_le _, rfl, Arr.alloc (Arr.newAt (by first | omega | (simp <;> omega)) (by rfl)) _, by rw [Nat.mul_zero, upto_zero]; exact Arr.newAt (by first | omega | (simp <;> omega)) (by rfl), ((Below.refl _ _).alloc (Nat.le_refl _) _).alloc (by simp) _⟩
  case round =>
    obtain ⟨k, hk, rfl, hZ, hR, hbel⟩ := hrel
    by_cases hlt : k < 16
    · have e1 := (hbel.cell (p := ⟨b, off + k, none⟩) s1).trans (HC.out k (by omega))
      have e2 := hR.cell (2 * k) (by omega)
      have e3 := hR.cell (2 * k + 1) (by omega)
      have f2 := hR.free (2 * k)
      have f3 := hR.free (2 * k + 1)
      obtain ⟨b0, b1⟩ := dg_bound (by decide : (0 : Int) < 65536) X k
      have HZ := Lib.hid hZ
      have HR := Lib.hid hR
      clear hZ hR
      go_wp2
      go_roundw
      case rel => exact ⟨k + 1, by omega, by go_num, (HZ.out.other (by first | omega | (simp <;> omega)) _).other (by first | omega | (simp <;> omega)) _, by rw [show 2 * (k + 1) = 2 * k + 1 + 1 by omega, ← upto_step (byte1 X k), ← upto_step (byte0 X k)]; exact (HR.out.set (2 * k) _).set (2 * k + 1) _, (hbel.setCell (by first | omega | (simp <;> omega)) _).setCell (by first | omega | (simp <;> omega)) _⟩
      case measure => simp [intOf] <;> omega
    · obtain rfl : k = 16 := by omega
      go_wp2_with (first
        | (refine load_arr rfl 88 _ rfl .u8 (w.heap.size + 1) 32 _ 5 Try.underlying88 Try.size88 rfl hR ?_)
        | (refine store_arr rfl 88 _ _ rfl .u8 w.heap.size 32 (fun _ => 0) _ Try.size88 rfl rfl hZ ?_))
      refine bodyPost_ret (results_arr rfl _ _ .u8 w.heap.size 32 _ 5 rfl (hZ.setRow _ _) Try.underlying88 Try.size88) rfl ⟨?_, below_setRow' hbel (Nat.le_refl _) _⟩
      rw [arr_congr (upto_full _ _ (Nat.le_refl _))]

set_option maxRecDepth 100000 in
set_option maxHeartbeats 800000 in
theorem rAtLeast_any (va vb : Value) (X Y : Int) (n m : Nat) (hnm : n ≤ m) (w : World) (ha : Rd .i64 w va n (dg 65536 X)) (hb : Rd .i64 w vb m (dg 65536 Y)) (hX : 0 ≤ X ∧ X < 65536 ^ n) (hY : 0 ≤ Y ∧ Y < 65536 ^ n) :
    Calls Try.prog 103 #[va, vb] w fun e w' =>
      e = .returned (.bool (decide (Y ≤ X))) ∧ Below w.heap.size w w' := by
  obtain ⟨a1, c1, rfl, l1, m1, z1, h1⟩ := ha
  obtain ⟨a2, c2, rfl, l2, m2, z2, h2⟩ := hb
  have H1 := Lib.hid h1
  have H2 := Lib.hid h2
  have HX := Lib.hid hX
  have HY := Lib.hid hY
  clear z1 h1 z2 h2 hX hY
  have hw9 : IntKind.i64.wrap ((n : Int) - 1) = n - 1 := wrap_i64_id (by omega) (by omega)
  go_enter Try.func103, Try.ntmps103
  go_wp2
  go_loopw [5] (fun i wr => ∃ k : Nat, k ≤ n ∧ i = .int .i64 ((k : Int) - 1) ∧ X / 65536 ^ k = Y / 65536 ^ k ∧ Below w.heap.size w wr) (fun i _ => (intOf i + 1).toNat)
  case atStart => exact ⟨n, Nat.le_refl _, rfl, by rw [Int.ediv_eq_zero_of_lt HX.out.1 HX.out.2, Int.ediv_eq_zero_of_lt HY.out.1 HY.out.2], Below.refl _ _⟩
  case round =>
    obtain ⟨k, hk, rfl, heq, hbel⟩ := hrel
    have HE := Lib.hid heq
    clear heq
    obtain _ | m' := k
    · go_wp2
      go_ret
      have := HE.out
      simp at this
      exact ⟨by rw [this]; simp, hbel⟩
    · obtain ⟨b1, o1, rfl, s1, e1⟩ := H1.out (by omega)
      obtain ⟨b2, o2, rfl, s2, e2⟩ := H2.out (by omega)
      have c1 := (hbel.cell (p := ⟨b1, o1 + m', none⟩) s1).trans (e1 m' (by omega))
      have c2 := (hbel.cell (p := ⟨b2, o2 + m', none⟩) s2).trans (e2 m' (by omega))
      have hkm : ((m' + 1 : Nat) : Int) - 1 = (m' : Int) := by omega
      rw [hkm]
      obtain ⟨x0, x1⟩ := dg_bound (by decide : (0 : Int) < 65536) X m'
      obtain ⟨y0, y1⟩ := dg_bound (by decide : (0 : Int) < 65536) Y m'
      clear e1 e2
      have hdx : X / 65536 ^ m' = X / 65536 ^ (m' + 1) * 65536 + dg 65536 X m' := by rw [div_succ (by decide), dg]; omega
      have hdy : Y / 65536 ^ m' = Y / 65536 ^ (m' + 1) * 65536 + dg 65536 Y m' := by rw [div_succ (by decide), dg]; omega
      have HDX := Lib.hid hdx
      have HDY := Lib.hid hdy
      clear hdx hdy
      by_cases hfg : dg 65536 X m' = dg 65536 Y m'
      · have hbb : (dg 65536 X m' != dg 65536 Y m') = false := by simpa using hfg
        have HFG := Lib.hid hfg
        clear hfg
        go_wp2
        go_quiet (fail)
        go_wp2
        go_roundw
        case rel => exact ⟨m', by omega, by go_num, by have := HDX.out; have := HDY.out; have := HE.out; have := HFG.out; omega, below_drewN hbel _⟩
        case measure => simp [intOf] <;> omega
      · have hbb : (dg 65536 X m' != dg 65536 Y m') = true := by simpa using hfg
        have HFG := Lib.hid hfg
        clear hfg
        go_wp2
        go_quiet (fail)
        go_wp2
        go_quiet (fail)
        go_wp2
        go_ret
        refine ⟨congrArg Ending.returned (congrArg Value.bool (decide_eq_decide.2 ?_)), below_drewN (below_drewN hbel _) _⟩
        have h1 := HDX.out; have h2 := HDY.out; have h3 := HE.out; have h4 := HFG.out
        have hp := pow_pos' (by decide : (0 : Int) < 65536) m'
        constructor
        · intro h
          have : Y / 65536 ^ m' ≤ X / 65536 ^ m' := by omega
          by_cases hxy : X < Y
          · have := Int.ediv_le_ediv hp (Int.le_of_lt hxy); omega
          · omega
        · intro h
          have := Int.ediv_le_ediv hp h
          omega
end Go.Proofs.Ytllkfkbioloaoaa
