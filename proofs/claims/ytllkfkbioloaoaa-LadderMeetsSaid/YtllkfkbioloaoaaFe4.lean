/-
  (fe.Element).Odd, Mul: what each makes. Conditions: named in each theorem.
-/
import Derived.Test.YtllkfkbioloaoaaFe3
import Derived.Test.YtllkfkbioloaoaaElem
set_option linter.unusedVariables false
set_option linter.unusedSimpArgs false
namespace Go.Proofs.Ytllkfkbioloaoaa
open Go.RowKit Go.Bas
attribute [local go_sem ↓] Go.wp_at_zero Go.wp_at_succ

set_option maxRecDepth 100000 in
set_option maxHeartbeats 6400000 in
theorem feMul_any (f g : Nat → Int) (X Y : Int) (hf : Fe f X) (hg : Fe g Y) (w : World) :
    Calls Try.prog 96 #[El f, El g] w fun e w' => e = .returned (El (mulF f g)) ∧ Below w.heap.size w w' := by
  have HF := Lib.hid hf
  have HG := Lib.hid hg
  clear hf hg
  unfold El
  go_enter Try.func96, Try.ntmps96
  go_upto_region 2 with (fail)
  refine wp_world (fun w1 => Arr .i64 w1 w.heap.size 16 f ∧ Arr .i64 w1 (w.heap.size + 1) 16 g ∧ Arr .i64 w1 (w.heap.size + 2) 16 (fun _ => 0) ∧ Arr .i64 w1 (w.heap.size + 3) 31 (fun _ => 0) ∧ Below w.heap.size w w1 ∧ w1.heap.size = w.heap.size + 4)
    ⟨Arr.alloc (Arr.alloc (Arr.alloc (Arr.newAt (by first | omega | (simp <;> omega)) (by rfl)) _) _) _, Arr.alloc (Arr.alloc (Arr.newAt (by first | omega | (simp <;> omega)) (by rfl)) _) _, Arr.alloc (Arr.newAt (by first | omega | (simp <;> omega)) (by rfl)) _, Arr.newAt (by first | omega | (simp <;> omega)) (by rfl), ((((Below.refl _ _).alloc (Nat.le_refl _) _).alloc (by simp) _).alloc (by simp; omega) _).alloc (by simp; omega) _, by simp⟩ ?_
  rintro w1 ⟨hA, hB, hZ, hT, hbel, hsz⟩
  have HSZ := Lib.hid hsz
  clear hsz
  go_wp2_with (refine load_arr rfl 139 _ rfl .i64 w.heap.size 16 _ 2 Try.underlying139 Try.size139 rfl hA ?_)
  go_loopw [15] (fun i wr => ∃ (k : Nat) (t : Nat → Int), k ≤ 16 ∧ i = .int .i64 k ∧ t = colF f g k ∧ Arr .i64 wr (w.heap.size + 1) 16 g ∧ Arr .i64 wr (w.heap.size + 2) 16 (fun _ => 0) ∧ Arr .i64 wr (w.heap.size + 3) 31 t ∧ Below w.heap.size w wr ∧ wr.heap.size = w.heap.size + 4) (fun i _ => 16 - (intOf i).toNat)
  case atStart => exact ⟨0, _, Nat.zero_le _, rfl, rfl, hB, hZ, hT, hbel, HSZ.out⟩
  case round =>
    clear hA hB hZ hT hbel HSZ
    obtain ⟨i, t, hi, rfl, hte, hB, hZ, hT, hbel, hsz⟩ := hrel
    have hC : FeCols t f g i 0 := by rw [hte]; exact colF_cols HF.out.1 HG.out.1 i hi
    have HTE := Lib.hid hte
    clear hte
    have HSZ := Lib.hid hsz
    have HC := Lib.hid hC
    have HZ := Lib.hid hZ
    have HT := Lib.hid hT
    have HBel := Lib.hid hbel
    clear hsz hC hZ hT hbel
    by_cases hlt : i < 16
    · have hix := run_index_arr (f := f) Try.underlying139 Try.underlying2 Try.size2 i hlt
      obtain ⟨x0, x1⟩ := HF.out.1.bound i hlt
      go_wp2_with (refine load_arr rfl 139 _ rfl .i64 (w.heap.size + 1) 16 _ 2 Try.underlying139 Try.size139 rfl hB ?_)
      have HBB := Lib.hid hB
      clear hB hix
      go_loopw [21] (fun j wr => ∃ (k : Nat) (t : Nat → Int), k ≤ 16 ∧ j = .int .i64 k ∧ t = rowF f g (colF f g i) i k ∧ Arr .i64 wr (w.heap.size + 1) 16 g ∧ Arr .i64 wr (w.heap.size + 2) 16 (fun _ => 0) ∧ Arr .i64 wr (w.heap.size + 3) 31 t ∧ Below w.heap.size w wr ∧ wr.heap.size = w.heap.size + 4) (fun j _ => 16 - (intOf j).toNat)
      case atStart => exact ⟨0, t, Nat.zero_le _, rfl, HTE.out, HBB.out, HZ.out, HT.out, HBel.out, HSZ.out⟩
      case round =>
        clear HSZ HC HZ HT HBel HBB HTE
        obtain ⟨k, t, hk, rfl, hte, hB, hZ, hT, hbel, hsz⟩ := hrel
        have hC : FeCols t f g i k := by rw [hte]; exact rowF_cols HF.out.1 HG.out.1 hlt (colF_cols HF.out.1 HG.out.1 i hi) k hk
        have HTE := Lib.hid hte
        clear hte
        have HSZ := Lib.hid hsz
        have HC := Lib.hid hC
        have HB := Lib.hid hB
        have HZ := Lib.hid hZ
        have HT := Lib.hid hT
        have HBel := Lib.hid hbel
        clear hsz hC hZ hT hbel hB
        by_cases hkt : k < 16
        · have hix := run_index_arr (f := g) Try.underlying139 Try.underlying2 Try.size2 k hkt
          obtain ⟨y0, y1⟩ := HG.out.1.bound k hkt
          have e1 := HT.out.cell (i + k) (by omega)
          have f1 := HT.out.free (i + k)
          obtain ⟨t0, t1⟩ := HC.out.bound (by omega) (i + k)
          obtain ⟨m0, m1⟩ := near_mul x0 x1 y0 y1
          have HST : Hid (upd t (i + k) (t (i + k) + f i * g k) = rowF f g (colF f g i) i (k + 1)) := by show _ = _; rw [HTE.out]; rfl
          go_wp2
          go_roundw
          case rel => exact ⟨k + 1, _, by omega, by go_num, HST.out, HB.out.other (by simp) _, HZ.out.other (by simp) _, HT.out.set (i + k) _, HBel.out.setCell (by simp; omega) _, by rw [size_setCell]; exact HSZ.out⟩
          case measure => simp [intOf] <;> omega
        · obtain rfl : k = 16 := by omega
          go_wp2
          go_roundw
          case rel => exact ⟨i + 1, t, by omega, by go_num, HTE.out, HB.out, HZ.out, HT.out, HBel.out, HSZ.out⟩
          case measure => simp [intOf] <;> omega
    · obtain rfl : i = 16 := by omega
      clear hB
      go_wp2
      refine wp_world (fun w2 => Arr .i64 w2 (w.heap.size + 2) 16 (fun _ => 0) ∧ Arr .i64 w2 (w.heap.size + 3) 31 t ∧ Arr .i64 w2 wr.heap.size 16 (fun _ => 0) ∧ Below w.heap.size w w2)
        ⟨Arr.alloc HZ.out _, Arr.alloc HT.out _, Arr.newAt rfl (by rfl), HBel.out.alloc HBel.out.size _⟩ ?_
      rintro w2 ⟨hZ2, hT2, hO2, hbel2⟩
      obtain ⟨b, hb⟩ : ∃ b, b = wr.heap.size := ⟨_, rfl⟩
      have hbs : b = w.heap.size + 4 := by have := HSZ.out; omega
      rw [← hb] at hO2 ⊢
      subst hbs
      clear hb HZ HT HBel HSZ
      have hR : Rd .i64 w2.drew (.slice (some ⟨w.heap.size + 3, 0, none⟩) 16 31) 16 t := ⟨_, _, rfl, by decide, by decide, (fun h => by cases h), fun _ => ⟨_, 0, rfl, hT2.lt, fun i hi => by rw [Nat.zero_add]; exact hT2.cell i (by omega)⟩⟩
      go_region_law (refine step_copy_arr rfl _ _ 157 157 rfl (w.heap.size + 4) 0 16 16 16 (fun _ => 0) Try.underlying157 Try.size2 rfl hO2.drew _ 16 t hR rfl (by decide) (by decide) ?_)
      all_goals
        go_wp2
        refine wp_world (fun w3 => Arr .i64 w3 (w.heap.size + 2) 16 (fun _ => 0) ∧ Arr .i64 w3 (w.heap.size + 3) 31 t ∧ Arr .i64 w3 (w.heap.size + 4) 16 t ∧ Below w.heap.size w w3)
          ⟨Arr.setRowOther hZ2.drew _ (by omega) _, Arr.setRowOther hT2.drew _ (by omega) _, (Arr.setRow hO2.drew _ _).congr (fun i hi => if_pos ⟨Nat.zero_le _, by omega⟩), below_setRow' hbel2.drew (by omega) _⟩ ?_
        rintro w3 ⟨hZ3, hT3, hO3, hbel3⟩
        clear hZ2 hT2 hO2 hbel2 hR
        go_wp2
        go_loopw [43] (fun i wr => ∃ k : Nat, k ≤ 15 ∧ i = .int .i64 k ∧ Arr .i64 wr (w.heap.size + 2) 16 (fun _ => 0) ∧ Arr .i64 wr (w.heap.size + 3) 31 t ∧ Arr .i64 wr (w.heap.size + 4) 16 (upto k (fun i => t i + 38 * t (16 + i)) t) ∧ Below w.heap.size w wr) (fun i _ => 15 - (intOf i).toNat)
        case atStart => exact ⟨0, Nat.zero_le _, rfl, hZ3, hT3, by rw [upto_zero]; exact hO3, hbel3⟩
        case round =>
          clear hZ3 hT3 hO3 hbel3
          obtain ⟨k, hk, rfl, hZ, hT, hO, hbel⟩ := hrel
          by_cases hkt : k < 15
          · have e1 := hT.cell (16 + k) (by omega)
            have e2 := hO.cell k (by omega)
            have f2 := hO.free k
            rw [upto_at] at e2
            obtain ⟨t0, t1⟩ := HC.out.bound (by omega) k
            obtain ⟨t2, t3⟩ := HC.out.bound (by omega) (16 + k)
            have HZ := Lib.hid hZ
            have HT := Lib.hid hT
            have HO := Lib.hid hO
            have HBel := Lib.hid hbel
            clear hZ hT hO hbel
            go_wp2
            go_roundw
            case rel => exact ⟨k + 1, by omega, by go_num, HZ.out.other (by first | omega | (simp <;> omega)) _, HT.out.other (by first | omega | (simp <;> omega)) _, by rw [← upto_step rfl]; exact HO.out.set k _, HBel.out.setCell (by first | omega | (simp <;> omega)) _⟩
            case measure => simp [intOf] <;> omega
          · obtain rfl : k = 15 := by omega
            have HFE : Hid (crr (crr (upto 15 (fun i => t i + 38 * t (16 + i)) t)) = mulF f g) := by show _ = _; rw [HTE.out]; rfl
            have hlim : ∀ i, i < 16 → -4000000000000000 ≤ upto 15 (fun i => t i + 38 * t (16 + i)) t i ∧ upto 15 (fun i => t i + 38 * t (16 + i)) t i ≤ 4000000000000000 := by
              intro i hi
              have h1 := HC.out.bound (by omega) i
              have h2 := HC.out.bound (by omega) (16 + i)
              unfold upto
              split
              · show _ ≤ t i + 38 * t (16 + i) ∧ t i + 38 * t (16 + i) ≤ _; omega
              · omega
            have hlim2 : ∀ i, i < 16 → -4000000000000000 ≤ crr (upto 15 (fun i => t i + 38 * t (16 + i)) t) i ∧ crr (upto 15 (fun i => t i + 38 * t (16 + i)) t) i ≤ 4000000000000000 := by
              intro i hi
              have h1 := crr_bound hlim 16 (Nat.le_refl _)
              have h2 := crr_bound hlim i (by omega)
              unfold crr
              split <;> omega
            have L1 := Lib.hid hlim
            have L2 := Lib.hid hlim2
            have hl := hO.lt
            clear hlim hlim2 hT
            go_wp2_with fail
            refine (carry_any _ (w.heap.size + 4) _ hO L1.out).mono ?_
            rintro e w5 ⟨⟨v, rfl⟩, hO5, hg5⟩
            have hZ5 := hZ.grown hg5 (by simp)
            have hb5 := hbel.trans (Gr.below hg5 (by omega) hbel.size)
            clear hZ hO hbel hg5
            go_wp2_with fail
            refine (carry_any _ (w.heap.size + 4) _ hO5 L2.out).mono ?_
            rintro e w6 ⟨⟨v, rfl⟩, hO6, hg6⟩
            have hZ6 := hZ5.grown hg6 (by simp)
            have hb6 := hb5.trans (Gr.below hg6 (by omega) hb5.size)
            clear hZ5 hO5 hb5 hg6
            go_wp2_with (first
              | (refine load_str rfl 141 _ rfl .i64 (w.heap.size + 4) 16 _ Try.underlying141 rfl Try.size141 rfl hO6 ?_)
              | (refine store_arr rfl 141 _ _ rfl .i64 (w.heap.size + 2) 16 (fun _ => 0) _ Try.size141 rfl rfl hZ6 ?_))
            exact bodyPost_ret (results_str rfl _ _ .i64 (w.heap.size + 2) 16 _ rfl (hZ6.setRow _ _) Try.underlying141 rfl Try.size141) rfl ⟨by rw [HFE.out], below_setRow' hb6 (by omega) _⟩
end Go.Proofs.Ytllkfkbioloaoaa
