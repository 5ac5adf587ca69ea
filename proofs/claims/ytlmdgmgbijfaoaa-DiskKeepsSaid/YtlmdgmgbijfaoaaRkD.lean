/-
  The document's disk: the power goes. Conditions: named in each theorem.
-/
import Derived.Test.YtlmdgmgbijfaoaaRkC
set_option linter.unusedVariables false
set_option linter.unusedSimpArgs false
namespace Go.Proofs.Ytlmdgmgbijfaoaa
open Go.RowKit Go.Bas Go.ChangeShapes
attribute [local go_sem ↓] Go.wp_at_zero Go.wp_at_succ
section
variable {w w' : World} {p : Nat} {vk vw : Value} {uk ub : Nat → Value} {d : Dsk}
/-- one byte is laid. -/
theorem Byt.set {g cap n : Nat} {f : Nat → Int} (h : Byt w (.slice (some ⟨g, 0, none⟩) n cap) f) (k : Nat) (hk : k < 64) (x : Int) : Byt (w.setCell ⟨g, k, none⟩ (.int .u8 x)) (.slice (some ⟨g, 0, none⟩) n cap) (upd f k x) := by
  obtain rfl := OwM.len h
  have hs := OwM.set h k 0 hk (by decide) (.int .u8 x)
  rw [show k * 1 + 0 = k by omega] at hs
  refine hs.congr fun i hi c hc => ?_
  obtain rfl : c = 0 := by omega
  unfold upd
  by_cases he : i = k
  · rw [if_pos ⟨he, rfl⟩, if_pos he]
  · rw [if_neg (fun h => he h.1), if_neg he]
set_option maxRecDepth 100000 in
set_option maxHeartbeats 3200000 in
theorem rkCrash_any (h : RkAt w p vk vw uk ub d) (hn0 : 0 < d.n) (v : Value) (l : Nat) (ch : Nat → Int) (hv : Rd .u8 w v l ch) (hch : ∀ i, i < l → 0 ≤ ch i ∧ ch i < 256) (hfar : 0 < l → ∀ b, v.ownBlock = some b → b ≠ p ∧ vk.ownBlock ≠ some b) : Calls Try.prog 85 #[ptrTo p, v] w fun e w' => e = .returned (.tuple #[]) ∧ (∃ uk', RkAt w' p vk (.slice none 0 0) uk' ub (d.crash l ch)) ∧ Chg (fun b => b = p ∨ vk.ownBlock = some b) w w' := by
  have HD := Lib.hid h
  have HV := Lib.hid hv
  have HCH := Lib.hid hch
  have HF := Lib.hid hfar
  obtain ⟨aw, cw, rfl, hcw, hcw2⟩ := h.wait.slice
  obtain ⟨gk, ck, rfl, hrk0, hck, hck2, hck3⟩ := h.kept.form hn0
  obtain ⟨av, cv, rfl, hcv, hcv2, _⟩ := hv
  have HMM := Lib.hid h.m1
  obtain ⟨CS, hCS, HM0⟩ := run_make_rows (P := Try.prog) Try.underlying23 Try.info5 64 (by decide) (by decide)
  have HM : ∀ w, (Instr.makeSlice 23 (.int .i64 64) (.int .i64 64)).run Try.prog w = .ok (.slice (some ⟨w.heap.size, 0, none⟩) 64 64) (w.alloc (.cells CS 5)) := HM0
  have HS : Hid (∀ w : World, Byt (w.alloc (.cells CS 5)) (.slice (some ⟨w.heap.size, 0, none⟩) 64 64) (fun _ => 0)) := by
    subst hCS
    intro w
    refine OwM.new w _ 1 (by unfold maxLen; omega) (size_madeCells _ _) fun j hj i hi => ?_
    rw [madeCells_get (by omega) (by decide)]
    have : (j * 1 + i) % (Value.int IntKind.u8 0).cells.size = 0 := Nat.mod_one _
    rw [this]
    rfl
  clear hCS HM0
  clear h hrk0 hch hfar hck3
  go_enter Try.func85, Try.ntmps85
  go_wp2
  go_loopw [4] (fun i wr => ∃ j : Nat, j ≤ d.m ∧ i = .int .i64 j ∧ ∃ uk, RkAt wr p (.slice (some ⟨gk, 0, none⟩) d.n ck) (.slice aw d.m cw) uk ub { d with K := crR l ch d.K d.ps d.bs j } ∧ Chg (fun b => b = p ∨ (Value.slice (some ⟨gk, 0, none⟩) d.n ck).ownBlock = some b) w wr) (fun i _ => d.m - (intOf i).toNat)
  case atStart => exact ⟨0, Nat.zero_le _, rfl, _, HD.out, .refl _ _⟩
  case round =>
    obtain ⟨j, hj, rfl, uk', hI, hC⟩ := hrel
    have HI := Lib.hid hI
    have HC := Lib.hid hC
    clear hI hC
    have c1 := HI.out.cw
    by_cases hlt : j < d.m
    · obtain ⟨gw, cw', ew, hrw, hw1, hw2, hcells⟩ := HI.out.wait.form (by show 0 < d.m; omega)
      obtain ⟨rfl, rfl⟩ : aw = some ⟨gw, 0, none⟩ ∧ cw = cw' := by simp only [Value.slice.injEq] at ew; exact ⟨ew.1, ew.2.2⟩
      obtain ⟨ab, cb, eub, _⟩ := (HI.out.wb j hlt).slice
      have hpn : d.ps j < d.n := HI.out.ps j hlt
      obtain ⟨aq, cq, euk, _⟩ := (HI.out.kb (d.ps j) hpn).slice
      have HCL := Lib.hid (hcells j hlt)
      clear hcells ew hrw
      have hj9 : (j : Int) < 1000000 := by have : d.m ≤ 1000000 := HMM.out; omega
      go_upto_region 3 with (fail)
      apply region_early' (n := 100) [.e, .e, .e, .e, .e, .e, .e, .e, .e, .e, .e, .e, .e, .e, .e] 0 (by kernel_rfl) (by kernel_rfl) (by kernel_rfl) rfl
      · intro w5 hB5
        have k0 := (HI.out.below hB5).ck
        have k1 := (HI.out.below hB5).cw
        have hlw : gw < wr.heap.size := HI.out.wait.lt gw rfl
        have hlk : gk < wr.heap.size := HI.out.kept.lt gk rfl
        have q0 : w5.cell? ⟨gw, j * 2, none⟩ = some (.int .i64 (d.ps j)) := by rw [hB5.cell (p := ⟨gw, j * 2, none⟩) hlw]; exact HCL.out 0 (by decide)
        have q2 : w5.cell? ⟨gk, d.ps j, none⟩ = some (.slice aq 64 cq) := by
          rw [hB5.cell (p := ⟨gk, d.ps j, none⟩) hlk, ← euk]
          obtain ⟨g9, c9, e9, _, _, _, hc9⟩ := HI.out.kept.form hn0
          simp only [Value.slice.injEq, Option.some.injEq, Addr.mk.injEq, and_true, true_and] at e9
          obtain ⟨rfl, rfl⟩ := e9
          have := hc9 (d.ps j) hpn 0 (by decide)
          rwa [show d.ps j * 1 + 0 = d.ps j by omega] at this
        simp only [selBy, Cl.isE, cond_true, cond_false]
        repeat still_step
        exact wpStill_nil rfl
      · intro w5
        simp only [selBy, Cl.isF, cond_true, cond_false]
        repeat still_step
        exact wpStill_nil rfl
      · simp only [selBy, Cl.isC, cond_true, cond_false]
        refine chW_nil ?_
        obtain ⟨KJ, hKJ⟩ : ∃ x, x = crR l ch d.K d.ps d.bs j (d.ps j) := ⟨_, rfl⟩
        have HWAS : Hid (∀ w5, Below wr.heap.size wr w5 → Byt w5 (.slice aq 64 cq) KJ) := fun w5 hB5 => by rw [hKJ, ← euk]; exact (HI.out.below hB5).kb (d.ps j) hpn
        have HBB : Hid (∀ w5, Below wr.heap.size wr w5 → Byt w5 (.slice ab 64 cb) (d.bs j)) := fun w5 hB5 => by rw [← eub]; exact (HI.out.below hB5).wb j hlt
        have HW1 : Hid (∀ w5, Below wr.heap.size wr w5 → w5.cell? ⟨p, 1, none⟩ = some (.slice (some ⟨gw, 0, none⟩) d.m cw) ∧ w5.cell? ⟨gw, j * 2 + 1, none⟩ = some (.slice ab 64 cb)) := fun w5 hB5 => ⟨(HI.out.below hB5).cw, by
          have hlw : gw < wr.heap.size := HI.out.wait.lt gw rfl
          rw [hB5.cell (p := ⟨gw, j * 2 + 1, none⟩) hlw, ← eub]; exact HCL.out 1 (by decide)⟩
        have HLT := Lib.hid hlt
        have HPN := Lib.hid hpn
        have HEUB := Lib.hid eub
        have HKJ := Lib.hid hKJ
        clear eub euk hpn c1 hKJ hlt
        obtain ⟨MX, hMX⟩ : ∃ x, x = mixB KJ (d.bs j) (choR l ch j) := ⟨_, rfl⟩
        have HMX := Lib.hid hMX
        clear hMX
        have HSW := Lib.hid (OwM.below (HS.out wr.drew) (Below.refl _ _))
        obtain ⟨gq, cq', eq1, _⟩ := (HWAS.out wr (Below.refl _ _)).form (by decide)
        obtain ⟨rfl, rfl⟩ : aq = some ⟨gq, 0, none⟩ ∧ cq = cq' := by simp only [Value.slice.injEq] at eq1; exact ⟨eq1.1, eq1.2.2⟩
        obtain ⟨gb, cb', eq2, hgb0, _⟩ := (HBB.out wr (Below.refl _ _)).form (by decide)
        have hgb : gb ≠ wr.heap.size := by have := hgb0.lt; omega
        have hgp : p ≠ wr.heap.size := by have := HI.out.row.lt; omega
        have hgw : gw ≠ wr.heap.size := by have := HI.out.wait.lt gw rfl; omega
        clear hgb0
        obtain ⟨rfl, rfl⟩ : ab = some ⟨gb, 0, none⟩ ∧ cb = cb' := by simp only [Value.slice.injEq] at eq2; exact ⟨eq2.1, eq2.2.2⟩
        clear eq1 eq2
        have HCHV : Hid (j < l → ∀ w5, Below wr.heap.size wr w5 → ∃ bv ov, av = some ⟨bv, ov, none⟩ ∧ bv ≠ wr.heap.size ∧ w5.cell? ⟨bv, ov + j, none⟩ = some (.int .u8 (ch j))) := fun hjl w5 hB5 => by
          obtain ⟨a5, c5, e5, _, _, _, h5⟩ := HV.out.chg HC.out (fun b hb => fun hF => by
            rcases hF with h | h
            · exact (HF.out (by omega) b hb).1 h
            · exact (HF.out (by omega) b hb).2 h)
          obtain ⟨bv, ov, ea, hbv, hcv5⟩ := h5 (by omega)
          simp only [Value.slice.injEq] at e5
          exact ⟨bv, ov, e5.1.trans ea, by omega, by rw [hB5.cell (p := ⟨bv, ov + j, none⟩) hbv]; exact hcv5 j hjl⟩
        go_wp2
        go_loopw [7] (fun i wi => ∃ k : Nat, k ≤ 64 ∧ i = .int .i64 k ∧ Byt wi (.slice (some ⟨wr.heap.size, 0, none⟩) 64 64) (upto k MX (fun _ => 0)) ∧ Below wr.heap.size wr wi) (fun i _ => 64 - (intOf i).toNat)
        case atStart => exact ⟨0, by decide, rfl, by rw [upto_zero]; exact OwM.below (HS.out wr) ((Below.refl _ _).drew), ((Below.refl _ _).alloc (Nat.le_refl _) _).drew⟩
        case round =>
          obtain ⟨k, hk, rfl, hN, hBw⟩ := hrel
          have HN := Lib.hid hN
          have HBw := Lib.hid hBw
          by_cases hk64 : k < 64
          · obtain ⟨g1, c1', e1, hr1, _, _, hc1⟩ := hN.form (by decide)
            simp only [Value.slice.injEq, Option.some.injEq, Addr.mk.injEq, and_true, true_and] at e1
            obtain ⟨rfl, rfl⟩ := e1
            have z0 := hc1 k hk64 0 (by decide)
            rw [show k * 1 + 0 = k by omega] at z0
            have z1 := hr1.free k
            have q0 : wr.cell? ⟨gq, k, none⟩ = some (.int .u8 (KJ k)) := by
              obtain ⟨g2, c2, e2, _, _, _, h2⟩ := (HWAS.out _ HBw.out).form (by decide)
              simp only [Value.slice.injEq, Option.some.injEq, Addr.mk.injEq, and_true, true_and] at e2
              obtain ⟨rfl, rfl⟩ := e2
              have := h2 k hk64 0 (by decide)
              rwa [show k * 1 + 0 = k by omega] at this
            have q1 : wr.cell? ⟨gb, k, none⟩ = some (.int .u8 (d.bs j k)) := by
              obtain ⟨g2, c2, e2, _, _, _, h2⟩ := (HBB.out _ HBw.out).form (by decide)
              simp only [Value.slice.injEq, Option.some.injEq, Addr.mk.injEq, and_true, true_and] at e2
              obtain ⟨rfl, rfl⟩ := e2
              have := h2 k hk64 0 (by decide)
              rwa [show k * 1 + 0 = k by omega] at this
            obtain ⟨q2, q3⟩ := HW1.out _ HBw.out
            have hk9 : (k : Int) < 64 := by omega
            clear hc1 hr1 hN hBw
            by_cases hjl : j < l
            · obtain ⟨bv, ov, rfl, hgv, q4⟩ := HCHV.out hjl _ HBw.out
              have hjl' : (j : Int) < l := by omega
              have HJL := Lib.hid hjl
              have HCB := Lib.hid (HCH.out j hjl)
              clear hjl
              obtain ⟨C, hC⟩ : ∃ x, x = ch j := ⟨_, rfl⟩
              rw [← hC] at q4
              have HCJ := Lib.hid hC
              have hC0 : 0 ≤ C := by rw [hC]; exact HCB.out.1
              have hC1 : C < 256 := by rw [hC]; exact HCB.out.2
              clear hC
              have hwr : IntKind.i64.wrap C = C := wrap_i64_id (by omega) (by omega)
              by_cases hkc : (k : Int) < C
              · have hupd : Hid (upd (upd (upto k MX (fun _ => 0)) k (KJ k)) k (d.bs j k) = upto (k + 1) MX (fun _ => 0)) := by
                  have e1 : upd (upd (upto k MX (fun _ => 0)) k (KJ k)) k (d.bs j k) = upd (upto k MX (fun _ => 0)) k (d.bs j k) := by
                    funext i; unfold upd; split <;> rfl
                  rw [e1]
                  refine upto_step ?_
                  rw [HMX.out]
                  unfold mixB choR
                  rw [if_pos HJL.out, ← HCJ.out, if_pos hkc]
                have hjm : (j : Int) < d.m := by have := HLT.out; omega
                go_upto_region 9 with (fail)
                refine wp_world (fun w9 => (Below _ _ w9 ∧ w9.cell? ⟨bv, ov + j, none⟩ = some (.int .u8 C)) ∧ (w9.cell? ⟨p, 1, none⟩ = some (.slice (some ⟨gw, 0, none⟩) d.m cw) ∧ w9.cell? ⟨gw, j * 2 + 1, none⟩ = some (.slice (some ⟨gb, 0, none⟩) 64 cb) ∧ w9.cell? ⟨gb, k, none⟩ = some (.int .u8 (d.bs j k))) ∧ Byt w9 (.slice (some ⟨_, 0, none⟩) 64 64) (upd (upto k MX (fun _ => 0)) k (KJ k))) ⟨⟨HBw.out.setCell (p := ⟨_, k, none⟩) (Nat.le_refl _) _, by rw [World.cell?_setCell_far _ _ _ _ (fun e => hgv e.symm)]; exact q4⟩, ⟨by rw [World.cell?_setCell_far _ _ _ _ (fun e => hgp e.symm)]; exact q2, by rw [World.cell?_setCell_far _ _ _ _ (fun e => hgw e.symm)]; exact q3, by rw [World.cell?_setCell_far _ _ _ _ (fun e => hgb e.symm)]; exact q1⟩, HN.out.set k hk64 (KJ k)⟩ ?_
                rintro w9 ⟨⟨b9, t4⟩, ⟨t1, t2, t3⟩, n9⟩
                have HF1 := Lib.hid (n9.set k hk64 (d.bs j k))
                rw [hupd.out] at HF1
                have HB9 := Lib.hid (b9.setCell (p := ⟨_, k, none⟩) (Nat.le_refl _) (.int .u8 (d.bs j k)))
                obtain ⟨g1, c1', e1, hr1, _, _, hc1⟩ := n9.form (by decide)
                simp only [Value.slice.injEq, Option.some.injEq, Addr.mk.injEq, and_true, true_and] at e1
                obtain ⟨rfl, rfl⟩ := e1
                have y0 := hc1 k hk64 0 (by decide)
                rw [show k * 1 + 0 = k by omega] at y0
                have y1 := hr1.free k
                clear hupd hc1 hr1 n9 b9 z0 z1 q0 q1 q2 q3 q4
                go_wp2
                go_roundw
                case rel => exact ⟨k + 1, by omega, by go_num, HF1.out, HB9.out⟩
                case measure => simp [intOf]; omega
              · have HF1 := Lib.hid (HN.out.set k hk64 (KJ k))
                have hupd : upd (upto k MX (fun _ => 0)) k (KJ k) = upto (k + 1) MX (fun _ => 0) := by
                  refine upto_step ?_
                  rw [HMX.out]
                  unfold mixB choR
                  rw [if_pos HJL.out, ← HCJ.out, if_neg hkc]
                rw [hupd] at HF1
                have HB9 := Lib.hid (HBw.out.setCell (p := ⟨_, k, none⟩) (Nat.le_refl _) (.int .u8 (KJ k)))
                clear hupd
                go_wp2
                go_roundw
                case rel => exact ⟨k + 1, by omega, by go_num, HF1.out, HB9.out⟩
                case measure => simp [intOf]; omega
            · have HF1 := Lib.hid (HN.out.set k hk64 (KJ k))
              have hjl' : ¬ (j : Int) < l := by omega
              have hupd : upd (upto k MX (fun _ => 0)) k (KJ k) = upto (k + 1) MX (fun _ => 0) := by
                refine upto_step ?_
                rw [HMX.out]
                unfold mixB choR
                rw [if_neg hjl, if_neg (by omega)]
              rw [hupd] at HF1
              have HB9 := Lib.hid (HBw.out.setCell (p := ⟨_, k, none⟩) (Nat.le_refl _) (.int .u8 (KJ k)))
              clear hupd
              go_wp2
              go_roundw
              case rel => exact ⟨k + 1, by omega, by go_num, HF1.out, HB9.out⟩
              case measure => simp [intOf]; omega
          · obtain rfl : k = 64 := by omega
            have HFB := Lib.hid (HN.out.congr fun i hi c _ => by rw [upto_full MX (fun _ => 0) (Nat.le_refl 64) i hi])
            have HI2 := Lib.hid (HI.out.below HBw.out)
            have HC2 := Lib.hid (HC.out.trans (.of_below HBw.out _) (fun _ _ h => h))
            have HCL2 := Lib.hid (HW1.out _ HBw.out)
            have q5 : wr.cell? ⟨gw, j * 2, none⟩ = some (.int .i64 (d.ps j)) := by
              obtain ⟨g2, c2, e2, _, _, _, h2⟩ := HI2.out.wait.form (by show 0 < d.m; have := HLT.out; omega)
              simp only [Value.slice.injEq, Option.some.injEq, Addr.mk.injEq, and_true, true_and] at e2
              obtain ⟨rfl, rfl⟩ := e2
              exact h2 j HLT.out 0 (by decide)
            have Q5 := Lib.hid q5
            clear hk64 hN hBw hk q5
            go_upto_region 11 with (fail)
            apply region_early' (n := 100) [.e, .e, .e, .e, .e, .e, .e, .e, .e, .e, .e, .e, .e, .e, .c] 0 (by kernel_rfl) (by kernel_rfl) (by kernel_rfl) rfl
            · intro w5 hB5
              have k0 := (HI2.out.below hB5).ck
              have k1 := (HI2.out.below hB5).cw
              have hlw := HI2.out.wait.lt gw rfl
              have q0 : w5.cell? ⟨gw, j * 2, none⟩ = some (.int .i64 (d.ps j)) := by rw [hB5.cell (p := ⟨gw, j * 2, none⟩) hlw]; exact Q5.out
              have hjm : (j : Int) < d.m := by have := HLT.out; omega
              have hpn : (d.ps j : Int) < d.n := by have := HPN.out; omega
              simp only [selBy, Cl.isE, cond_true, cond_false]
              repeat still_step
              exact wpStill_nil rfl
            · intro w5
              simp only [selBy, Cl.isF, cond_true, cond_false]
              repeat still_step
              exact wpStill_nil rfl
            · simp only [selBy, Cl.isC, cond_true, cond_false]
              refine chW_zero ?_
              have HB7 := HI2.out.below ((Below.refl _ _).drew)
              obtain ⟨g9, c9, e9, hrow9, _, _, hc9⟩ := HB7.kept.form hn0
              simp only [Value.slice.injEq, Option.some.injEq, Addr.mk.injEq, and_true, true_and] at e9
              obtain ⟨rfl, rfl⟩ := e9
              have z0 := hc9 (d.ps j) HPN.out 0 (by decide)
              rw [show d.ps j * 1 + 0 = d.ps j by omega] at z0
              have z1 := hrow9.free (d.ps j)
              have HP := Lib.hid (HB7.keptSet (d.ps j) HPN.out _ MX (OwM.below HFB.out ((Below.refl _ _).drew)))
              have HCC : Hid (∀ v, Chg (fun b => b = p ∨ (Value.slice (some ⟨gk, 0, none⟩) d.n ck).ownBlock = some b) w (wr.drew.setCell ⟨gk, d.ps j, none⟩ v)) := fun v => HC2.out.trans ((Chg.of_below ((Below.refl _ _).drew) _).trans (Chg.set (fun b => b = p ∨ (Value.slice (some ⟨gk, 0, none⟩) d.n ck).ownBlock = some b) wr.drew ⟨gk, d.ps j, none⟩ v (.inr rfl)) (fun _ _ h => h)) (fun _ _ h => h)
              have hcr : Hid (putS (crR l ch d.K d.ps d.bs j) (d.ps j) MX = crR l ch d.K d.ps d.bs (j + 1)) := by
                refine Lib.hid ?_
                rw [crR, HMX.out, HKJ.out]
              rw [hcr.out] at HP
              have HJ9 := Lib.hid hj9
              clear HB7 hrow9 hc9 HFB HI2 HCL2
              go_wp2
              refine onlyN ?_
              go_wp2
              go_roundw
              case rel => exact ⟨j + 1, by have := HLT.out; omega, by go_num, _, HP.out, HCC.out _⟩
              case measure => have := HLT.out; simp [intOf]; omega
    · obtain rfl : j = d.m := by omega
      have HE := Lib.hid ((((HI.out.setNil).setF (-1) (by decide) (by decide)).setO false).setL (wrap64 (d.lives + 1)) (wrap64_bound _).1 (wrap64_bound _).2)
      have HCE := Lib.hid (HC.out.trans ((((Chg.set (fun b => b = p ∨ (Value.slice (some ⟨gk, 0, none⟩) d.n ck).ownBlock = some b) _ ⟨p, 1, none⟩ (.slice none 0 0) (.inl rfl)).trans (.set _ _ ⟨p, 2, none⟩ (.int .i64 (-1)) (.inl rfl)) (fun _ _ h => h)).trans (.set _ _ ⟨p, 3, none⟩ (.bool false) (.inl rfl)) (fun _ _ h => h)).trans (.set _ _ ⟨p, 4, none⟩ (.int .i64 (wrap64 (d.lives + 1))) (.inl rfl)) (fun _ _ h => h)) (fun _ _ h => h))
      have k2 := HI.out.cf
      have k3 := HI.out.co
      have k4 := HI.out.cl
      have r1 := HI.out.row.free 1
      have r2 := HI.out.row.free 2
      have r3 := HI.out.row.free 3
      have r4 := HI.out.row.free 4
      go_wp2
      go_end0
      exact ⟨rfl, ⟨_, HE.out⟩, HCE.out⟩
end
end Go.Proofs.Ytlmdgmgbijfaoaa
