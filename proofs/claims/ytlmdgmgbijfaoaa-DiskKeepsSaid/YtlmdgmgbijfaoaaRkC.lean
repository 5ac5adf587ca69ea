/-
  The document's disk: a new one; it is flushed. Conditions: named in each theorem.
-/
import Derived.Test.YtlmdgmgbijfaoaaRkB
set_option linter.unusedVariables false
set_option linter.unusedSimpArgs false
namespace Go.Proofs.Ytlmdgmgbijfaoaa
open Go.RowKit Go.Bas Go.ChangeShapes
attribute [local go_sem ↓] Go.wp_at_zero Go.wp_at_succ
section
variable {w w' : World} {p : Nat} {vk vw : Value} {uk ub : Nat → Value} {d : Dsk}
theorem RkAt.made {w : World} : RkAt (w.alloc (.cells #[.slice none 0 0, .slice none 0 0, .int .i64 (-1), .bool false, .int .i64 0] 53)) w.heap.size (.slice none 0 0) (.slice none 0 0) (fun _ => undef) (fun _ => undef) (dskNew 0) := by
  have hb := heap_alloc_new w (.cells #[.slice none 0 0, .slice none 0 0, .int .i64 (-1), .bool false, .int .i64 0] 53)
  have hc : ∀ i, (w.alloc (.cells #[.slice none 0 0, .slice none 0 0, .int .i64 (-1), .bool false, .int .i64 0] 53)).cell? ⟨w.heap.size, i, none⟩ = (#[.slice none 0 0, .slice none 0 0, .int .i64 (-1), .bool false, .int .i64 0] : Array Value)[i]? := fun i => cell_of_row _ _ i _ _ (0, 0) hb
  exact ⟨⟨_, hb, rfl⟩, hc 0, hc 1, hc 2, hc 3, hc 4, OwM.nil _ _ _ _, OwM.nil _ _ _ _, fun j hj => absurd hj (Nat.not_lt_zero _), fun j hj => absurd hj (Nat.not_lt_zero _), Nat.zero_le _, fun j hj => absurd hj (Nat.not_lt_zero _), Nat.zero_le _, by show _ ≤ (-1 : Int); decide, by show (-1 : Int) ≤ _; decide, by show _ ≤ (0 : Int); decide, by show (0 : Int) ≤ _; decide⟩
/-- one more sector is kept. -/
theorem RkAt.wider {n : Nat} (h : RkAt w p vk (.slice none 0 0) uk ub (dskNew n)) (u : Value) (hn : n < 16384) (hu : Byt w u (fun _ => 0)) (hg : w.grownBy w' vk.ownBlock) {v' : Value} (hown : OwM 23 1 w' v' (n + 1) (catM n (fun j _ => uk j) fun _ _ => u)) :
    RkAt (w'.setCell ⟨p, 0, none⟩ v') p v' (.slice none 0 0) (fun i => if i = n then u else uk i) ub (dskNew (n + 1)) := by
  have hb : w'.heap[p]? = w.heap[p]? := hg.block p h.row.lt fun e => h.kept.ne h.row (by decide) p e.symm rfl
  have hc0 : ∀ i v, w.cell? ⟨p, i, none⟩ = some v → w'.cell? ⟨p, i, none⟩ = some v := fun i v hv => by rw [World.cell?_of_block hb]; exact hv
  have hrow := h.row.heap hb
  have hc : Chg (fun b => b = p) w' (w'.setCell ⟨p, 0, none⟩ v') := .set _ _ _ _ rfl
  have o : ∀ i v, 0 ≠ i → w.cell? ⟨p, i, none⟩ = some v → (w'.setCell ⟨p, 0, none⟩ v').cell? ⟨p, i, none⟩ = some v := fun i v hi hv => by rw [World.cell?_setCell_other (h := addr_ne hi)]; exact hc0 i v hv
  have hbb : ∀ {u : Value} {f : Nat → Int}, Byt w u f → Byt (w'.setCell ⟨p, 0, none⟩ v') u f := fun {u f} hy => by
    have h1 : Byt w' u f := OwM.grown hy hg (OwM.neO hy h.kept (by decide))
    exact Byt.self h1 hrow hc
  refine ⟨hrow.setCell _ rfl _, World.cell?_setCell_same _ _ _ (hc0 0 _ h.ck), o 1 _ (by decide) h.cw, o 2 _ (by decide) h.cf, o 3 _ (by decide) h.co, o 4 _ (by decide) h.cl, (hown.congr fun i hi c hc' => ?_).chg hc (hown.ne hrow (by decide)), OwM.nil _ _ _ _, fun i hi => ?_, fun j hj => absurd hj (Nat.not_lt_zero _), hn, fun j hj => absurd hj (Nat.not_lt_zero _), Nat.zero_le _, h.f0, h.f1, h.l0, h.l1⟩
  · by_cases hlt : i < n
    · rw [catM_lo hlt, if_neg (by omega)]
    · have hi' : i < n + 1 := hi
      obtain rfl : i = n := by omega
      rw [catM_at, if_pos rfl]
  · show Byt _ (if i = n then u else uk i) (fun _ => 0)
    by_cases he : i = n
    · rw [if_pos he]; exact hbb hu
    · rw [if_neg he]
      have hi' : i < n + 1 := hi
      exact hbb (h.kb i (show i < n by omega))
set_option maxRecDepth 100000 in
set_option maxHeartbeats 3200000 in
theorem rkNew_any (n : Nat) (hn : n ≤ 16384) (w : World) : Calls Try.prog 26 #[.int .i64 n] w fun e w' => ∃ p, e = .returned (ptrTo p) ∧ ∃ vk uk ub, RkAt w' p vk (.slice none 0 0) uk ub (dskNew n) ∧ Below w.heap.size w w' ∧ w.heap.size ≤ p ∧ ∀ b, vk.ownBlock = some b → w.heap.size ≤ b := by
  have HN := Lib.hid hn
  obtain ⟨CS, hCS, HM0⟩ := run_make_rows (P := Try.prog) Try.underlying23 Try.info5 64 (by decide) (by decide)
  have HM : ∀ w, (Instr.makeSlice 23 (.int .i64 64) (.int .i64 64)).run Try.prog w = .ok (.slice (some ⟨w.heap.size, 0, none⟩) 64 64) (w.alloc (.cells CS 5)) := HM0
  have HS : Hid (∀ w : World, Byt (w.alloc (.cells CS 5)) (.slice (some ⟨w.heap.size, 0, none⟩) 64 64) (fun _ => 0)) := by
    subst hCS
    intro w
    refine OwM.new w _ 1 (by unfold maxLen; omega) (size_madeCells _ _) fun j hj i hi => ?_
    rw [madeCells_get (by omega) (by decide)]
    have : (j * 1 + i) % (Value.int IntKind.u8 0).cells.size = 0 := Nat.mod_one _
    rw [this]
    rfl
  clear hn hCS HM0
  go_enter Try.func26, Try.ntmps26
  go_wp2
  go_loopw [4] (fun i wr => ∃ j : Nat, j ≤ n ∧ i = .int .i64 j ∧ ∃ vk uk, RkAt wr w.heap.size vk (.slice none 0 0) uk (fun _ => undef) (dskNew j) ∧ Below w.heap.size w wr ∧ ∀ b, vk.ownBlock = some b → w.heap.size ≤ b) (fun i _ => n - (intOf i).toNat)
  case atStart => exact ⟨0, Nat.zero_le _, rfl, _, _, RkAt.made, (Below.refl _ _).alloc (Nat.le_refl _) _, fun b hb => by cases hb⟩
  case round =>
    obtain ⟨j, hj, rfl, vk, uk, hI, hB, hV⟩ := hrel
    have HI := Lib.hid hI
    have HB := Lib.hid hB
    have HV := Lib.hid hV
    obtain ⟨ak, ck, rfl, _⟩ := hI.kept.slice
    clear hI hB hV
    by_cases hlt : j < n
    · have hj9 : (j : Int) < 16384 := by have := HN.out; omega
      go_upto_region 5 with (fail)
      apply region_early' (n := 23) [.f, .e, .e, .e, .e, .c, .c, .c, .f, .f, .c] 2 (by kernel_rfl) (by kernel_rfl) (by kernel_rfl) rfl
      · intro w5 hB5
        have c0 := (HI.out.below hB5).ck
        simp only [selBy, Cl.isE, cond_true, cond_false]
        repeat still_step
        exact wpStill_nil rfl
      · intro w5
        simp only [selBy, Cl.isF, cond_true, cond_false]
        repeat still_step
        exact wpStill_nil rfl
      · simp only [selBy, Cl.isC, cond_true, cond_false]
        refine chW_step ((Below.refl _ _).drew) (fun K hK => ?_)
        go_simp
        obtain ⟨W1, hW1⟩ : ∃ x, x = (wr.alloc (.cells CS 5)).drew := ⟨_, rfl⟩
        have B1 : Below wr.heap.size wr W1 := by rw [hW1]; exact ((Below.refl _ _).alloc (Nat.le_refl _) _).drew
        have hU : Byt W1 (.slice (some ⟨wr.heap.size, 0, none⟩) 64 64) (fun _ => 0) := by rw [hW1]; exact OwM.below (HS.out wr) ((Below.refl _ _).drew)
        rw [← hW1]
        clear hW1
        refine hK _ _ B1 ?_
        clear hK K
        refine chW_step B1 (fun K hK => ?_)
        rw [if_pos (wanted_none rfl)]
        refine wp_buildS 35 23 1 _ rfl Try.underlying35 #[.slice (some ⟨wr.heap.size, 0, none⟩) 64 64] (by kernel_rfl) (hK _ _ (B1.alloc B1.size _) (chW_zero ?_))
        clear hK K
        obtain ⟨W3, hW3⟩ : ∃ x, x = W1.alloc (.cells #[.slice (some ⟨wr.heap.size, 0, none⟩) 64 64] 23) := ⟨_, rfl⟩
        have B3 : Below wr.heap.size wr W3 := by rw [hW3]; exact B1.alloc B1.size _
        have HD3 := Lib.hid (HI.out.below B3)
        have hU3 : Byt W3 (.slice (some ⟨wr.heap.size, 0, none⟩) 64 64) (fun _ => 0) := by rw [hW3]; exact OwM.alloc hU _
        have hrow3 : W3.cell? ⟨W1.heap.size, 0, none⟩ = some (.slice (some ⟨wr.heap.size, 0, none⟩) 64 64) := by rw [hW3, cell_of_row _ _ 0 _ _ (0, 0) (heap_alloc_new W1 _)]; rfl
        rw [← hW3]
        clear hW3
        refine wpList_append_m rfl _ _ rfl rfl HD3.out.kept (by decide) Try.underlying35 Try.info23 rfl W1.heap.size 0 1 1 rfl (fun _ _ => .slice (some ⟨wr.heap.size, 0, none⟩) 64 64) (fun j' hj' i hi => ⟨?_, rfl⟩) (by have := HN.out; show j + 1 ≤ _; unfold maxLen; omega) (by have := HN.out; show (j + 1) * 24 ≤ _; omega) ?_
        · obtain rfl : j' = 0 := by omega
          obtain rfl : i = 0 := by omega
          exact hrow3
        · intro v' w4 hown hgrow hplaced
          change W3.grownBy w4 (Value.slice ak (dskNew j).n ck).ownBlock at hgrow
          change Placed W3 (Value.slice ak (dskNew j).n ck) v' at hplaced
          have hp4 : w4.heap[w.heap.size]? = W3.heap[w.heap.size]? := hgrow.block _ HD3.out.row.lt fun e => HD3.out.kept.ne HD3.out.row (by decide) _ e.symm rfl
          have c1 : w4.cell? ⟨w.heap.size, 0, none⟩ = some (.slice ak (dskNew j).n ck) := (World.cell?_of_block hp4).trans HD3.out.ck
          have r1 := (HD3.out.row.heap hp4).free 0
          have HP := Lib.hid (HD3.out.wider (.slice (some ⟨wr.heap.size, 0, none⟩) 64 64) (by have := HN.out; omega) hU3 hgrow hown)
          have HBB : Hid (Below w.heap.size w (w4.setCell ⟨w.heap.size, 0, none⟩ v')) := by
            have b0 := HB.out.trans (B3.mono HB.out.size)
            have b1 := b0.grown hgrow b0.size (fun b hb => HV.out b hb)
            exact b1.setCell (Nat.le_refl _) _
          have HVV : Hid (∀ b, v'.ownBlock = some b → w.heap.size ≤ b) := fun b hb => by
            rcases hplaced with h | h
            · exact HV.out b (by rw [← h]; exact hb)
            · have h1 := h b hb
              have h2 := B3.size
              have h3 := HB.out.size
              omega
          obtain ⟨a', c', rfl, _⟩ := hown.slice
          clear hp4 hown hgrow hplaced hrow3 hU3 hU B1 B3 HD3
          go_wp2
          refine onlyN ?_
          go_wp2
          go_roundw
          case rel => exact ⟨j + 1, by omega, by go_num, _, _, HP.out, HBB.out, HVV.out⟩
          case measure => simp [intOf]; omega
    · obtain rfl : j = n := by omega
      go_wp2
      go_ret
      exact ⟨_, rfl, _, _, _, HI.out, HB.out, Nat.le_refl _, HV.out⟩
/-- a kept sector is another. -/
theorem RkAt.keptSet {gk cap n : Nat} (h : RkAt w p (.slice (some ⟨gk, 0, none⟩) n cap) vw uk ub d) (j : Nat) (hj : j < d.n) (u : Value) (f : Nat → Int) (hu : Byt w u f) :
    RkAt (w.setCell ⟨gk, j, none⟩ u) p (.slice (some ⟨gk, 0, none⟩) n cap) vw (fun i => if i = j then u else uk i) ub { d with K := putS d.K j f } := by
  obtain rfl := OwM.len h.kept
  have hc : Chg (fun b => b = gk) w (w.setCell ⟨gk, j, none⟩ u) := Chg.set (fun b => b = gk) w ⟨gk, j, none⟩ u rfl
  have hp : ¬ p = gk := fun e => h.kept.ne h.row (by decide) gk rfl e.symm
  have o : ∀ i v, w.cell? ⟨p, i, none⟩ = some v → (w.setCell ⟨gk, j, none⟩ u).cell? ⟨p, i, none⟩ = some v := fun i v hv => by rw [hc.cell (p := ⟨p, i, none⟩) h.row.lt hp]; exact hv
  have hb : ∀ {u' : Value} {f' : Nat → Int}, Byt w u' f' → Byt (w.setCell ⟨gk, j, none⟩ u) u' f' := fun {u' f'} hy => OwM.chg hy hc fun b hb e => OwM.neO hy h.kept (by decide) b hb (by rw [e]; rfl)
  have hs := h.kept.set j 0 hj (by decide) u
  rw [show j * 1 + 0 = j by omega] at hs
  refine ⟨h.row.heap (hc.block p h.row.lt hp), o 0 _ h.ck, o 1 _ h.cw, o 2 _ h.cf, o 3 _ h.co, o 4 _ h.cl, hs.congr fun i hi c hc' => ?_, h.wait.chg hc (fun b hb e => h.wait.neO h.kept (by decide) b hb (by rw [e]; rfl)), fun i hi => ?_, fun i hi => hb (h.wb i hi), h.n1, h.ps, h.m1, h.f0, h.f1, h.l0, h.l1⟩
  · obtain rfl : c = 0 := by omega
    by_cases he : i = j
    · rw [if_pos ⟨he, rfl⟩, if_pos he]
    · rw [if_neg (fun h => he h.1), if_neg he]
  · show Byt _ (if i = j then u else uk i) (putS d.K j f i)
    unfold putS
    by_cases he : i = j
    · rw [if_pos he, if_pos he]; exact hb hu
    · rw [if_neg he, if_neg he]; exact hb (h.kb i hi)
set_option maxRecDepth 100000 in
set_option maxHeartbeats 3200000 in
theorem rkFlush_any (h : RkAt w p vk vw uk ub d) (hn0 : 0 < d.n) : Calls Try.prog 83 #[ptrTo p] w fun e w' => e = .returned (.int .i64 d.flush.2) ∧ ∃ vw', (∃ uk' ub', RkAt w' p vk vw' uk' ub' d.flush.1) ∧ Chg (fun b => b = p ∨ vk.ownBlock = some b) w w' ∧ (vw' = vw ∨ vw' = .slice none 0 0) := by
  have HD := Lib.hid h
  have c3 := h.co
  by_cases hoff : d.off = true
  · have hr : d.flush = (d, 30) := by unfold Dsk.flush; rw [if_pos hoff]
    have HR := Lib.hid hr
    rw [hoff] at c3
    clear h hr
    go_enter Try.func83, Try.ntmps83
    go_wp2
    go_ret
    rw [HR.out]
    exact ⟨rfl, _, ⟨_, _, HD.out⟩, .refl _ _, .inl rfl⟩
  · have ho : d.off = false := by simpa using hoff
    have HO := Lib.hid ho
    rw [ho] at c3
    have hr : d.flush = if d.burn.off = true then (d.burn, 30) else ({ d.burn with K := d.now, m := 0 }, 0) := by unfold Dsk.flush; rw [if_neg hoff]
    have HR := Lib.hid hr
    obtain ⟨gk, ck, rfl, hrk0, hck, hck2, hck3⟩ := h.kept.form hn0
    clear h hr hoff ho hrk0 hck3
    go_enter Try.func83, Try.ntmps83
    go_wp2_with fail
    refine (rkBurn_any HD.out HO.out).mono ?_
    rintro e w1 ⟨rfl, hb1, hb2⟩
    have HB1 := Lib.hid hb1
    have HB2 := Lib.hid hb2
    clear hb1 hb2
    cases hbo : d.burn.off with
    | true =>
      have HR2 := HR.out
      rw [if_pos hbo] at HR2
      have HR3 := Lib.hid HR2
      clear HR2 HR
      go_wp2
      go_ret
      rw [HR3.out]
      exact ⟨rfl, _, ⟨_, _, HB1.out⟩, HB2.out.mono (fun _ _ h => .inl h), .inl rfl⟩
    | false =>
      have HR2 := HR.out
      rw [if_neg (by rw [hbo]; decide)] at HR2
      have HR3 := Lib.hid HR2
      clear HR2 HR
      obtain ⟨D, hD⟩ : ∃ x, x = d.burn := ⟨_, rfl⟩
      have hDN : Hid (nowR D.K D.ps D.bs D.m = d.now) := by rw [hD]; exact burn_now
      rw [← hD] at HB1 HR3 hbo
      have hDn : D.n = d.n := OwM.len HB1.out.kept |>.symm
      clear hD
      obtain ⟨aw, cw, rfl, hcw, hcw2⟩ := HB1.out.wait.slice
      have HMM := Lib.hid HB1.out.m1
      go_wp2
      go_loopw [3] (fun i wr => ∃ j : Nat, j ≤ D.m ∧ i = .int .i64 j ∧ ∃ uk, RkAt wr p (.slice (some ⟨gk, 0, none⟩) d.n ck) (.slice aw D.m cw) uk ub { D with K := nowR D.K D.ps D.bs j } ∧ Chg (fun b => b = p ∨ (Value.slice (some ⟨gk, 0, none⟩) d.n ck).ownBlock = some b) w wr) (fun i _ => D.m - (intOf i).toNat)
      case atStart => exact ⟨0, Nat.zero_le _, rfl, _, HB1.out, HB2.out.mono fun _ _ h => .inl h⟩
      case round =>
        obtain ⟨j, hj, rfl, uk', hI, hC⟩ := hrel
        have HI := Lib.hid hI
        have HC := Lib.hid hC
        clear hI hC
        have c1 := HI.out.cw
        by_cases hlt : j < D.m
        · obtain ⟨gw, cw', ew, hrw, hw1, hw2, hcells⟩ := HI.out.wait.form (by show 0 < D.m; omega)
          obtain ⟨rfl, rfl⟩ : aw = some ⟨gw, 0, none⟩ ∧ cw = cw' := by simp only [Value.slice.injEq] at ew; exact ⟨ew.1, ew.2.2⟩
          obtain ⟨ab, cb, eub, _⟩ := (HI.out.wb j hlt).slice
          have hpn : D.ps j < d.n := by have : D.ps j < D.n := HI.out.ps j hlt; omega
          have HCL := Lib.hid (hcells j hlt)
          have HUB := Lib.hid (HI.out.wb j hlt)
          clear hcells ew hrw
          have hj9 : (j : Int) < 1000000 := by have : D.m ≤ 1000000 := HMM.out; omega
          go_upto_region 6 with (fail)
          apply region_early' (n := 45) [.e, .e, .e, .e, .e, .e, .e, .e, .e, .e, .e, .e, .e, .e, .e, .e, .e, .e, .e, .e, .e, .c] 0 (by kernel_rfl) (by kernel_rfl) (by kernel_rfl) rfl
          · intro w5 hB5
            have k0 := (HI.out.below hB5).ck
            have k1 := (HI.out.below hB5).cw
            have hlw : gw < wr.heap.size := HI.out.wait.lt gw rfl
            have q0 : w5.cell? ⟨gw, j * 2, none⟩ = some (.int .i64 (D.ps j)) := by rw [hB5.cell (p := ⟨gw, j * 2, none⟩) hlw]; exact HCL.out 0 (by decide)
            have q1 : w5.cell? ⟨gw, j * 2 + 1, none⟩ = some (.slice ab 64 cb) := by rw [hB5.cell (p := ⟨gw, j * 2 + 1, none⟩) hlw, ← eub]; exact HCL.out 1 (by decide)
            simp only [selBy, Cl.isE, cond_true, cond_false]
            repeat still_step
            exact wpStill_nil rfl
          · intro w5
            simp only [selBy, Cl.isF, cond_true, cond_false]
            repeat still_step
            exact wpStill_nil rfl
          · simp only [selBy, Cl.isC, cond_true, cond_false]
            refine chW_zero ?_
            have HB7 := HI.out.below ((Below.refl _ _).drew)
            obtain ⟨g9, c9, e9, hrow9, _, _, hc9⟩ := HB7.kept.form (by show 0 < D.n; omega)
            simp only [Value.slice.injEq, Option.some.injEq, Addr.mk.injEq, and_true, true_and] at e9
            obtain ⟨rfl, _, rfl⟩ := e9
            have z0 : wr.drew.cell? ⟨gk, D.ps j, none⟩ = some (uk' (D.ps j)) := by have := hc9 (D.ps j) (by show _ < D.n; omega) 0 (by decide); rwa [show D.ps j * 1 + 0 = D.ps j by omega] at this
            have z1 := hrow9.free (D.ps j)
            have HP := Lib.hid (HB7.keptSet (D.ps j) (by show _ < D.n; omega) (ub j) (D.bs j) (HB7.wb j hlt))
            have HCC := Lib.hid (HC.out.trans ((Chg.of_below ((Below.refl _ _).drew) _).trans (Chg.set (fun b => b = p ∨ (Value.slice (some ⟨gk, 0, none⟩) d.n ck).ownBlock = some b) wr.drew ⟨gk, D.ps j, none⟩ (ub j) (.inr rfl)) (fun _ _ h => h)) (fun _ _ h => h))
            rw [eub] at HP HCC
            have HLT := Lib.hid hlt
            clear HB7 hrow9 hc9 eub c1 hDn hlt hpn
            go_wp2
            refine onlyN ?_
            go_wp2
            go_roundw
            case rel => exact ⟨j + 1, by have := HLT.out; omega, by go_num, _, HP.out, HCC.out⟩
            case measure => have := HLT.out; simp [intOf]; omega
        · obtain rfl : j = D.m := by omega
          have hK := hDN.out
          have HE := Lib.hid HI.out.setNil
          have HCE := Lib.hid (HC.out.trans (Chg.set (fun b => b = p ∨ (Value.slice (some ⟨gk, 0, none⟩) d.n ck).ownBlock = some b) _ ⟨p, 1, none⟩ (.slice none 0 0) (.inl rfl)) (fun _ _ h => h))
          have r1 := HI.out.row.free 1
          rw [hK] at HE
          clear hK
          go_wp2
          go_ret
          rw [HR3.out]
          exact ⟨rfl, _, ⟨_, _, HE.out⟩, HCE.out, .inr rfl⟩
end
end Go.Proofs.Ytlmdgmgbijfaoaa
