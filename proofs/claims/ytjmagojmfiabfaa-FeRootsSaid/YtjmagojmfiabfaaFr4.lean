/-
  bastilleref04.Square; the law FeRoots answers true.
-/
import Derived.Test.YtjmagojmfiabfaaFeRt
namespace Go.Proofs.Ytjmagojmfiabfaa
open Go.RowKit Go.Bas Go.ChangeShapes
attribute [local go_sem ↓] Go.wp_at_zero Go.wp_at_succ

theorem half16 (X : Int) (i : Nat) : dg 65536 X i / 2 + dg 65536 X (i + 1) % 2 * 32768 = dg 65536 (X / 2) i := by
  have e : ∀ a b c : Int, 0 ≤ b → a / b / c = a / (b * c) := fun _ _ _ h => Int.ediv_ediv_of_nonneg h
  have h : X / 2 / 65536 ^ i = X / 65536 ^ i / 2 := by rw [e X 2 _ (by decide), e X _ 2 (Int.le_of_lt (pow_pos' (by decide) _)), Int.mul_comm]
  unfold dg
  rw [h, div_succ (by decide) X i]
  omega
theorem halfP_nat : ((Pr - 1) / 2).toNat = (PN - 1) / 2 := by decide
theorem halfP_b : 0 ≤ (Pr - 1) / 2 ∧ (Pr - 1) / 2 < 2 ^ 256 := by decide
theorem Pr1_16 : 0 ≤ Pr - 1 ∧ Pr - 1 < 65536 ^ 16 := by decide
theorem fPower_half (va : Value) (X : Int) (w : World) (ha : Rd .i64 w va 16 (dg 65536 (X % Pr))) :
    Calls Try.prog 33 #[va, .agg (arr .u8 32 (dg 256 ((Pr - 1) / 2)))] w fun e w' => ∃ v, e = .returned v ∧ Rd .i64 w' v 16 (dg 65536 (sqN X % Pr)) ∧ Below w.heap.size w w' := by
  have h := fPower_any va X ((Pr - 1) / 2) halfP_b.1 halfP_b.2 w ha
  rw [halfP_nat] at h
  exact h
theorem sqN_bool {X : Int} (h : ¬ X % Pr = 0) : eqN (sqN X % Pr) 1 = isSq X := by
  unfold eqN isSq
  rw [decide_eq_false h, Bool.false_or]

theorem fSame_q (va vb : Value) (X : Int) (q : Bool) (h : eqN (sqN X % Pr) 1 = q) (w : World) (ha : Rd .i64 w va 16 (dg 65536 (sqN X % Pr))) (hb : Rd .i64 w vb 16 (dg 65536 1)) : Calls Try.prog 22 #[va, vb] w fun e w' => e = .returned (.bool q) ∧ Below w.heap.size w w' := by
  rw [← h]; exact fSame_any va vb (sqN X % Pr) 1 (modP16 _) (by decide) w ha hb

set_option maxRecDepth 100000 in
set_option maxHeartbeats 6400000 in
theorem fSquare_any (va : Value) (X : Int) (w : World) (ha : Rd .i64 w va 16 (dg 65536 (X % Pr))) :
    Calls Try.prog 38 #[va] w fun e w' => e = .returned (.bool (isSq X)) ∧ Below w.heap.size w w' := by
  have HA := Lib.hid ha
  clear ha
  obtain ⟨q, hq⟩ : ∃ q, q = isSq X := ⟨_, rfl⟩
  rw [← hq]
  have HQ := Lib.hid hq
  clear hq
  go_enter Try.func38, Try.ntmps38
  go_wp2_with fail
  refine (rP_any _).mono ?_
  rintro e w1 ⟨p, rfl, hp, hb1⟩
  have HP := Lib.hid hp.rd
  have HB1 := Lib.hid hb1
  clear hp hb1
  go_wp2_with fail
  refine (rSmall_any 1 (by decide) (by decide) _).mono ?_
  rintro e w2 ⟨o, rfl, ho, hb2⟩
  have HO := Lib.hid ho.rd
  have HB2 := Lib.hid hb2
  clear ho hb2
  go_wp2_with fail
  refine (rLess_any p o Pr 1 16 16 (Nat.le_refl _) (by decide) w2 (HP.out.below HB2.out) HO.out).mono ?_
  rintro e w3 ⟨n, rfl, hn, hb3⟩
  have s1 := HB1.out.size
  have s2 := HB2.out.size
  have hbel := ((HB1.out.trans (HB2.out.mono s1)).trans (hb3.mono (Nat.le_trans s1 s2)))
  have HA3 := Lib.hid (HA.out.below hbel)
  have hn2 := hn.rd
  obtain ⟨a, c, rfl, l, mx, z, hh⟩ := hn2
  obtain ⟨b, of, rfl, lb, hc⟩ := hh (by decide)
  have HC := Lib.hid hc
  have HBel := Lib.hid hbel
  have s3 := hbel.size
  clear hn z hh hc hb3 hbel s1 s2
  go_wp2
  go_loopw [4, 5] (fun v i wr => ∃ j : Nat, j ≤ 16 ∧ i = .int .i64 j ∧ Own .i64 3 w3.heap.size wr v j (dg 65536 ((Pr - 1) / 2)) ∧ Below w3.heap.size w3 wr) (fun _ i _ => 16 - (intOf i).toNat)
  case atStart => exact ⟨0, Nat.zero_le _, rfl, Own.nil _ _ _ _ _, Below.refl _ _⟩
  case round =>
    obtain ⟨j, hj, rfl, ho, hb⟩ := hrel
    have HO2 := Lib.hid ho
    have hsz := hb.size
    clear ho
    by_cases hlt : j < 16
    · have c1 := (hb.cell (p := ⟨b, of + j, none⟩) lb).trans (HC.out j hlt)
      obtain ⟨x0, x1⟩ := dg_bound (by decide : (0 : Int) < 65536) (Pr - 1) j
      obtain ⟨y0, y1⟩ := dg_bound (by decide : (0 : Int) < 65536) (Pr - 1) (j + 1)
      have HD := Lib.hid (half16 (Pr - 1) j)
      obtain ⟨u, hu⟩ : ∃ u, u = dg 65536 (Pr - 1) j := ⟨_, rfl⟩
      obtain ⟨u2, hu2⟩ : ∃ u2, u2 = dg 65536 (Pr - 1) (j + 1) := ⟨_, rfl⟩
      rw [← hu] at c1 x0 x1 HD
      rw [← hu2] at y0 y1 HD
      have HU2 := Lib.hid hu2
      clear hu hu2
      by_cases hlt2 : j < 15
      · have c2 : wr.cell? ⟨b, of + (j + 1), none⟩ = some (.int .i64 u2) := by rw [HU2.out]; exact (hb.cell (p := ⟨b, of + (j + 1), none⟩) lb).trans (HC.out (j + 1) (by omega))
        go_wp2_with (at_builtin; refine append_new rfl _ _ 28 rfl w3.heap.size 3 .i64 8 Try.underlying28 Try.info3 _ j (dg 65536 ((Pr - 1) / 2)) _ _ rfl HO2.out rfl 1 rfl rfl ?_ (by omega) (by omega) hsz ?_; rotate_right; intro v' w1 hown hgrow)
        · go_roundw
          case rel => exact ⟨j + 1, by omega, by go_num, hown, below_grown (hb.alloc hsz _) hgrow HO2.out (by simp; omega) (Nat.le_refl _)⟩
          case measure => simp [intOf] <;> omega
        · intro i hi
          exact one0 hi (by rw [show j + i = j by omega]; exact HD.out)
      · have hz : Hid (u2 = 0) := by show u2 = 0; rw [HU2.out]; exact dg_small ⟨Pr1_16.1, Int.lt_of_lt_of_le Pr1_16.2 (pow_mono 65536 (by decide) _ _ (by omega))⟩
        go_wp2_with (at_builtin; refine append_new rfl _ _ 28 rfl w3.heap.size 3 .i64 8 Try.underlying28 Try.info3 _ j (dg 65536 ((Pr - 1) / 2)) _ _ rfl HO2.out rfl 1 rfl rfl ?_ (by omega) (by omega) hsz ?_; rotate_right; intro v' w1 hown hgrow)
        · go_roundw
          case rel => exact ⟨j + 1, by omega, by go_num, hown, below_grown (hb.alloc hsz _) hgrow HO2.out (by simp; omega) (Nat.le_refl _)⟩
          case measure => simp [intOf] <;> omega
        · intro i hi
          exact one0 hi (by rw [show j + i = j by omega]; have := HD.out; have := hz.out; omega)
    · obtain rfl : j = 16 := by omega
      have HW := Lib.hid HO2.out.rd
      have hbw := HBel.out.trans (hb.mono s3)
      have HA4 := Lib.hid (HA3.out.below (hb.mono (Nat.le_refl _)))
      clear hb HO2
      by_cases h0 : X % Pr = 0
      · have HX0 := Lib.hid h0
        have hqq : q = true := by rw [HQ.out]; unfold isSq; rw [decide_eq_true h0]; rfl
        subst hqq
        clear h0
        go_upto_region 10 with (fail)
        refine region_flow (n := 44) (by kernel_rfl) (by kernel_rfl) (by kernel_rfl) rfl
          (fun i v _ => (match i with | 0 => v = va | 1 | 2 | 9 | 10 => v = .bool true | 3 | 4 | 5 | 6 | 7 | 8 => v = undef | _ => True))
          (fun w w' => Below w.heap.size w w') (fun _ _ h => h) (fun _ _ _ _ h _ => h) ?_ ?_
        · refine Each.all ?_
          refine ⟨?_, ?_, ?_, ?_, ?_, ?_, ?_, ?_, ?_, ?_, ?_, trivial⟩
          · intro a w2 hB hF hd
            rw [if_pos (wanted_none rfl)]
            exact flow_move _ (.inl rfl) (by simp) (hF.same 0 rfl)
          · intro a w2 hB hF hd
            rw [if_pos (wanted_none rfl)]
            refine flow_call _ _ _ rfl Try.call35 _ (args1 (hd 0 _ rfl (waits_spec rfl))) (by simp) ((fZero_yes _ X HX0.out w2 (HA4.out.below hB)).mono ?_)
            rintro e w3 ⟨rfl, hb⟩; exact ⟨_, rfl, rfl, hb⟩
          · intro a w2 hB hF hd
            rw [if_pos (wanted_none rfl)]
            exact flow_move _ (.inl rfl) (by simp) (hd 1 _ rfl (waits_spec rfl))
          · intro a w2 hB hF hd
            rw [if_neg (by rw [wanted_some rfl rfl (hd 2 _ rfl (waits_spec rfl))]; decide)]
            exact rfl
          · intro a w2 hB hF hd
            rw [if_neg (by rw [wanted_some rfl rfl (hd 2 _ rfl (waits_spec rfl))]; decide)]
            exact rfl
          · intro a w2 hB hF hd
            rw [if_neg (by rw [wanted_some rfl rfl (hd 2 _ rfl (waits_spec rfl))]; decide)]
            exact rfl
          · intro a w2 hB hF hd
            rw [if_neg (by rw [wanted_some rfl rfl (hd 2 _ rfl (waits_spec rfl))]; decide)]
            exact rfl
          · intro a w2 hB hF hd
            rw [if_neg (by rw [wanted_some rfl rfl (hd 2 _ rfl (waits_spec rfl))]; decide)]
            exact rfl
          · intro a w2 hB hF hd
            rw [if_neg (by rw [wanted_some rfl rfl (hd 2 _ rfl (waits_spec rfl))]; decide)]
            exact rfl
          · intro a w2 hB hF hd
            rw [if_pos (wanted_none rfl)]
            exact flow_val (fun h => by cases h) (run_pick rfl (hd 2 _ rfl (waits_spec rfl))) (rfl)
          · intro a w2 hB hF hd
            rw [if_pos (wanted_none rfl)]
            exact flow_move _ (.inr rfl) (by simp) (hd 9 _ rfl (waits_spec rfl))
        · intro a w5 hB hF hS
          have ha := puts_each rfl rfl hF [_, _, _, _, _, _, _, _, _, _, _] rfl ⟨hS 0 _ rfl, hS 1 _ rfl, hS 2 _ rfl, hS 3 _ rfl, hS 4 _ rfl, hS 5 _ rfl, hS 6 _ rfl, hS 7 _ rfl, hS 8 _ rfl, hS 9 _ rfl, hS 10 _ rfl, trivial⟩
          simp only [puts, Act.put, List.setIfInBounds_toArray, List.set_cons_succ, List.set_cons_zero] at ha
          subst ha
          clear hS hF
          have hbf := hbw.trans (hB.mono hbw.size)
          clear hbw hB
          go_wp2
          go_ret
          exact ⟨rfl, hbf⟩
      · have HX0 := Lib.hid h0
        have hqq : Hid (eqN (sqN X % Pr) 1 = q) := by show _ = _; rw [HQ.out]; exact sqN_bool h0
        clear h0
        go_upto_region 10 with (fail)
        refine region_flow (n := 44) (by kernel_rfl) (by kernel_rfl) (by kernel_rfl) rfl
          (fun i v w => (match i with | 0 | 3 => v = va | 1 | 2 => v = .bool false | 4 => v = u4 | 5 => v = .agg (arr .u8 32 (dg 256 ((Pr - 1) / 2))) | 8 | 9 | 10 => v = .bool q | _ => True) ∧ (i = 6 → Rd .i64 w v 16 (dg 65536 (sqN X % Pr))) ∧ (i = 7 → Rd .i64 w v 16 (dg 65536 1)))
          (fun w w' => Below w.heap.size w w') (fun _ _ h => h) (fun i v w w' h hE => ⟨h.1, fun e => Rd.below (h.2.1 e) hE, fun e => Rd.below (h.2.2 e) hE⟩) ?_ ?_
        · refine Each.all ?_
          refine ⟨?_, ?_, ?_, ?_, ?_, ?_, ?_, ?_, ?_, ?_, ?_, trivial⟩
          · intro a w2 hB hF hd
            rw [if_pos (wanted_none rfl)]
            exact flow_move _ (.inl rfl) (by simp) ⟨(hF.same 0 rfl), fun h => absurd h (by decide), fun h => absurd h (by decide)⟩
          · intro a w2 hB hF hd
            rw [if_pos (wanted_none rfl)]
            refine flow_call _ _ _ rfl Try.call35 _ (args1 ((hd 0 _ rfl (waits_spec rfl)).1)) (by simp) ((fZero_no _ X HX0.out w2 (HA4.out.below hB)).mono ?_)
            rintro e w3 ⟨rfl, hb⟩; exact ⟨_, rfl, ⟨rfl, fun h => absurd h (by decide), fun h => absurd h (by decide)⟩, hb⟩
          · intro a w2 hB hF hd
            rw [if_pos (wanted_none rfl)]
            exact flow_move _ (.inl rfl) (by simp) ⟨((hd 1 _ rfl (waits_spec rfl)).1), fun h => absurd h (by decide), fun h => absurd h (by decide)⟩
          · intro a w2 hB hF hd
            refine flow_wanted (wanted_yes rfl rfl ((hd 2 _ rfl (waits_spec rfl)).1) rfl) ?_
            exact flow_move _ (.inl rfl) (by simp) ⟨(hF.same 0 rfl), fun h => absurd h (by decide), fun h => absurd h (by decide)⟩
          · intro a w2 hB hF hd
            refine flow_wanted (wanted_yes rfl rfl ((hd 2 _ rfl (waits_spec rfl)).1) rfl) ?_
            exact flow_move _ (.inl rfl) (by simp) ⟨(hF.same 4 rfl), fun h => absurd h (by decide), fun h => absurd h (by decide)⟩
          · intro a w2 hB hF hd
            refine flow_wanted (wanted_yes rfl rfl ((hd 2 _ rfl (waits_spec rfl)).1) rfl) ?_
            refine flow_call _ _ _ rfl Try.call19 _ (args1 ((hd 4 _ rfl (waits_spec rfl)).1)) (by simp) ((rBytes_any _ ((Pr - 1) / 2) 16 (by decide) w2 (HW.out.below hB)).mono ?_)
            rintro e w3 ⟨rfl, hb⟩; exact ⟨_, rfl, ⟨rfl, fun h => absurd h (by decide), fun h => absurd h (by decide)⟩, hb⟩
          · intro a w2 hB hF hd
            refine flow_wanted (wanted_yes rfl rfl ((hd 2 _ rfl (waits_spec rfl)).1) rfl) ?_
            refine flow_call _ _ _ rfl Try.call33 _ (args2 ((hd 3 _ rfl (waits_spec rfl)).1) ((hd 5 _ rfl (waits_spec rfl)).1)) (by simp) ((fPower_half _ X w2 (HA4.out.below hB)).mono ?_)
            rintro e w3 ⟨u, rfl, hr, hb⟩; exact ⟨u, rfl, ⟨trivial, fun _ => hr, fun h => absurd h (by decide)⟩, hb⟩
          · intro a w2 hB hF hd
            refine flow_wanted (wanted_yes rfl rfl ((hd 2 _ rfl (waits_spec rfl)).1) rfl) ?_
            refine flow_call _ _ _ rfl Try.call24 _ (args1 rfl) (by simp) ((rSmall_rd 1 (by decide) (by decide) w2).mono ?_)
            rintro e w3 ⟨u, rfl, hr, hb⟩; exact ⟨u, rfl, ⟨trivial, fun h => absurd h (by decide), fun _ => hr⟩, hb⟩
          · intro a w2 hB hF hd
            refine flow_wanted (wanted_yes rfl rfl ((hd 2 _ rfl (waits_spec rfl)).1) rfl) ?_
            refine flow_call _ _ _ rfl Try.call22 _ (args2 rfl rfl) (by simp) ((fSame_q _ _ X q hqq.out w2 ((hd 6 _ rfl (waits_spec rfl)).2.1 rfl) ((hd 7 _ rfl (waits_spec rfl)).2.2 rfl)).mono ?_)
            rintro e w3 ⟨rfl, hb⟩; exact ⟨_, rfl, ⟨rfl, fun h => absurd h (by decide), fun h => absurd h (by decide)⟩, hb⟩
          · intro a w2 hB hF hd
            rw [if_pos (wanted_none rfl)]
            exact flow_val (fun h => by cases h) (run_pick rfl ((hd 2 _ rfl (waits_spec rfl)).1)) ⟨(((hd 8 _ rfl (waits_spec rfl)).1)), fun h => absurd h (by decide), fun h => absurd h (by decide)⟩
          · intro a w2 hB hF hd
            rw [if_pos (wanted_none rfl)]
            exact flow_move _ (.inr rfl) (by simp) ⟨((hd 9 _ rfl (waits_spec rfl)).1), fun h => absurd h (by decide), fun h => absurd h (by decide)⟩
        · intro a w5 hB hF hS
          obtain ⟨x40, hx40⟩ : ∃ x, x = a.tmps.getD 40 undef := ⟨_, rfl⟩
          obtain ⟨x41, hx41⟩ : ∃ x, x = a.tmps.getD 41 undef := ⟨_, rfl⟩
          have ha := puts_each rfl rfl hF [_, _, _, _, _, _, x40, x41, _, _, _] rfl ⟨(hS 0 _ rfl).1, (hS 1 _ rfl).1, (hS 2 _ rfl).1, (hS 3 _ rfl).1, (hS 4 _ rfl).1, (hS 5 _ rfl).1, hx40.symm, hx41.symm, (hS 8 _ rfl).1, (hS 9 _ rfl).1, (hS 10 _ rfl).1, trivial⟩
          simp only [puts, Act.put, List.setIfInBounds_toArray, List.set_cons_succ, List.set_cons_zero] at ha
          subst ha
          clear hx40 hx41
          clear hS hF
          have hbf := hbw.trans (hB.mono hbw.size)
          clear hbw hB
          go_wp2
          go_ret
          exact ⟨rfl, hbf⟩
end Go.Proofs.Ytjmagojmfiabfaa
