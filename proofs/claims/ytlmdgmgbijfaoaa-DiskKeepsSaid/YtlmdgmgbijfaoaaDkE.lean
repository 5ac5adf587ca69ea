/-
  The disk is flushed. Conditions: named in each theorem.
-/
import Derived.Test.YtlmdgmgbijfaoaaDkD
set_option linter.unusedVariables false
set_option linter.unusedSimpArgs false
namespace Go.Proofs.Ytlmdgmgbijfaoaa
open Go.RowKit Go.Bas Go.ChangeShapes
attribute [local go_sem ↓] Go.wp_at_zero Go.wp_at_succ
section
variable {w w' : World} {p : Nat} {vk vn vw : Value} {d : Dsk} {N : Nat → Nat → Int}
theorem OwM.len {e : TypeId} {c n n' : Nat} {a : Option Addr} {cap : Nat} {q : Nat → Nat → Value} (h : OwM e c w (.slice a n' cap) n q) : n' = n := by
  rcases h with ⟨h, rfl⟩ | ⟨g, cp, h, _⟩
  · simp only [Value.slice.injEq] at h; exact h.2.1
  · simp only [Value.slice.injEq] at h; exact h.2.1
/-- a sector of the kept ones is laid in. -/
theorem DkR.keptSet {gk cap n : Nat} (h : DkR w p (.slice (some ⟨gk, 0, none⟩) n cap) vn vw d N) (j : Nat) (hj : j < d.n) (f : Nat → Int) :
    DkR (w.setCells gk (j * 64) (arr .u8 64 f).toList) p (.slice (some ⟨gk, 0, none⟩) n cap) vn vw { d with K := putS d.K j f } N := by
  obtain rfl := OwM.len h.kept
  have hc : Chg (fun b => b = gk) w (w.setCells gk (j * 64) (arr .u8 64 f).toList) := Chg.setCells (fun b => b = gk) gk rfl _ _ _
  have hp : ¬ p = gk := fun e => h.kept.ne h.row (by decide) gk rfl e.symm
  have o : ∀ i v, w.cell? ⟨p, i, none⟩ = some v → (w.setCells gk (j * 64) (arr .u8 64 f).toList).cell? ⟨p, i, none⟩ = some v := fun i v hv => by rw [hc.cell (p := ⟨p, i, none⟩) h.row.lt hp]; exact hv
  refine ⟨h.row.heap (hc.block p h.row.lt hp), o 0 _ h.ck, o 1 _ h.cn, o 2 _ h.cw, o 3 _ h.cf, o 4 _ h.co, o 5 _ h.cl, ?_, h.now.chg hc (fun b hb e => h.apart (by rw [hb, e]; rfl)),
    h.wait.chg hc (fun b hb e => h.wait.neO h.kept (by decide) b hb (by rw [e]; rfl)), h.apart, h.n0, h.n1, h.ps, h.m1, h.f0, h.f1, h.l0, h.l1⟩
  refine (h.kept.setRow j hj (arr .u8 64 f).toList (by simp [arr]) (fun i => .int .u8 (f i)) (fun i hi => by simpa using arr_get (k := .u8) (f := f) hi)).congr fun i hi k hk => ?_
  dsimp only
  unfold putS
  split <;> rfl
/-- the first m bytes of a kept sector are laid anew. -/
theorem DkR.keptMix {gk cap n : Nat} (h : DkR w p (.slice (some ⟨gk, 0, none⟩) n cap) vn vw d N) (j : Nat) (hj : j < d.n) (f : Nat → Int) (m : Nat) (hm : m ≤ 64) (c : Int) (hc64 : (m : Int) = min c 64) :
    DkR (w.setCells gk (j * 64) (vals .u8 m f)) p (.slice (some ⟨gk, 0, none⟩) n cap) vn vw { d with K := putS d.K j (mixB (d.K j) f c) } N := by
  obtain rfl := OwM.len h.kept
  have hc : Chg (fun b => b = gk) w (w.setCells gk (j * 64) (vals .u8 m f)) := Chg.setCells (fun b => b = gk) gk rfl _ _ _
  have hp : ¬ p = gk := fun e => h.kept.ne h.row (by decide) gk rfl e.symm
  have o : ∀ i v, w.cell? ⟨p, i, none⟩ = some v → (w.setCells gk (j * 64) (vals .u8 m f)).cell? ⟨p, i, none⟩ = some v := fun i v hv => by rw [hc.cell (p := ⟨p, i, none⟩) h.row.lt hp]; exact hv
  refine ⟨h.row.heap (hc.block p h.row.lt hp), o 0 _ h.ck, o 1 _ h.cn, o 2 _ h.cw, o 3 _ h.cf, o 4 _ h.co, o 5 _ h.cl, ?_, h.now.chg hc (fun b hb e => h.apart (by rw [hb, e]; rfl)),
    h.wait.chg hc (fun b hb e => h.wait.neO h.kept (by decide) b hb (by rw [e]; rfl)), h.apart, h.n0, h.n1, h.ps, h.m1, h.f0, h.f1, h.l0, h.l1⟩
  obtain ⟨g', cap', he, h1, h2, h3, h4⟩ := h.kept.form h.n0
  simp only [Value.slice.injEq, Option.some.injEq, Addr.mk.injEq, and_true, true_and] at he
  obtain ⟨rfl, rfl⟩ := he
  refine .inr ⟨gk, cap, rfl, h1.setCells gk _ _, h2, by unfold maxLen; omega, fun j' hj' i' hi' => ?_⟩
  dsimp only
  unfold putS
  by_cases e : j' = j
  · subst e
    rw [if_pos rfl]
    unfold mixB
    by_cases hi : i' < m
    · have := World.cell?_setCells_in gk (vals .u8 m f) (j' * 64) w (fun k hk => by rw [vals_length] at hk; rw [h4 j' hj' k (by omega)]; rfl) i' (by rw [vals_length]; exact hi)
      rw [this, if_pos (by omega)]
      have h9 := vals_get (k := .u8) (f := f) hi
      rw [List.getElem?_eq_getElem (by rw [vals_length]; exact hi)] at h9
      exact h9
    · have := World.cell?_setCells_out gk (vals .u8 m f) (j' * 64) w ⟨gk, j' * 64 + i', none⟩ (fun _ _ => by show j' * 64 + i' < j' * 64 ∨ j' * 64 + (vals .u8 m f).length ≤ j' * 64 + i'; rw [vals_length]; omega)
      rw [this, if_neg (by omega)]
      exact h4 j' hj' i' hi'
  · rw [if_neg e]
    have := World.cell?_setCells_out gk (vals .u8 m f) (j * 64) w ⟨gk, j' * 64 + i', none⟩ (fun _ _ => by show j' * 64 + i' < j * 64 ∨ j * 64 + (vals .u8 m f).length ≤ j' * 64 + i'; rw [vals_length]; omega)
    rw [this]
    exact h4 j' hj' i' hi'
/-- nothing waits any more. -/
theorem DkR.setNil (h : DkR w p vk vn vw d N) (hK : d.K = N) : DkAt (w.setCell ⟨p, 2, none⟩ (.slice none 0 0)) p vk vn (.slice none 0 0) { d with m := 0 } := by
  have hc : Chg (fun b => b = p) w (w.setCell ⟨p, 2, none⟩ (.slice none 0 0)) := .set _ _ _ _ rfl
  have o : ∀ i v, 2 ≠ i → w.cell? ⟨p, i, none⟩ = some v → (w.setCell ⟨p, 2, none⟩ (.slice none 0 0)).cell? ⟨p, i, none⟩ = some v := fun i v hi hv => by rw [World.cell?_setCell_other (h := addr_ne hi)]; exact hv
  have e1 : Dsk.now { d with m := 0 } = N := hK
  refine ⟨h.row.setCell _ rfl _, o 0 _ (by decide) h.ck, o 1 _ (by decide) h.cn, World.cell?_setCell_same _ _ _ h.cw, o 3 _ (by decide) h.cf, o 4 _ (by decide) h.co, o 5 _ (by decide) h.cl, h.listsK hc, ?_, OwM.nil _ _ _ _, h.apart, h.n0, h.n1, fun j hj => absurd hj (Nat.not_lt_zero _), Nat.zero_le _, h.f0, h.f1, h.l0, h.l1⟩
  rw [e1]
  exact h.listsN hc
theorem DkR.setNil' (h : DkR w p vk vn vw d N) : DkR (w.setCell ⟨p, 2, none⟩ (.slice none 0 0)) p vk vn (.slice none 0 0) { d with m := 0 } N := by
  have hc : Chg (fun b => b = p) w (w.setCell ⟨p, 2, none⟩ (.slice none 0 0)) := .set _ _ _ _ rfl
  have o : ∀ i v, 2 ≠ i → w.cell? ⟨p, i, none⟩ = some v → (w.setCell ⟨p, 2, none⟩ (.slice none 0 0)).cell? ⟨p, i, none⟩ = some v := fun i v hi hv => by rw [World.cell?_setCell_other (h := addr_ne hi)]; exact hv
  exact ⟨h.row.setCell _ rfl _, o 0 _ (by decide) h.ck, o 1 _ (by decide) h.cn, World.cell?_setCell_same _ _ _ h.cw, o 3 _ (by decide) h.cf, o 4 _ (by decide) h.co, o 5 _ (by decide) h.cl, h.listsK hc, h.listsN hc, OwM.nil _ _ _ _, h.apart, h.n0, h.n1, fun j hj => absurd hj (Nat.not_lt_zero _), Nat.zero_le _, h.f0, h.f1, h.l0, h.l1⟩
/-- other sectors are read. -/
theorem DkR.setNow (h : DkR w p vk vn vw d N) {v' : Value} {N' : Nat → Nat → Int} (ho : OwM 137 64 w v' d.n (fun j i => .int .u8 (N' j i))) (hap : vk.ownBlock ≠ v'.ownBlock) : DkR (w.setCell ⟨p, 1, none⟩ v') p vk v' vw d N' := by
  have hc : Chg (fun b => b = p) w (w.setCell ⟨p, 1, none⟩ v') := .set _ _ _ _ rfl
  have o : ∀ i v, 1 ≠ i → w.cell? ⟨p, i, none⟩ = some v → (w.setCell ⟨p, 1, none⟩ v').cell? ⟨p, i, none⟩ = some v := fun i v hi hv => by rw [World.cell?_setCell_other (h := addr_ne hi)]; exact hv
  exact ⟨h.row.setCell _ rfl _, o 0 _ (by decide) h.ck, World.cell?_setCell_same _ _ _ h.cn, o 2 _ (by decide) h.cw, o 3 _ (by decide) h.cf, o 4 _ (by decide) h.co, o 5 _ (by decide) h.cl, h.listsK hc, ho.chg hc (ho.ne h.row (by decide)), h.listsW hc, hap, h.n0, h.n1, h.ps, h.m1, h.f0, h.f1, h.l0, h.l1⟩
theorem may_zero_off (h0 : 0 < d.n) : d.may 0 = if d.off = true then 30 else 0 := by
  unfold Dsk.may
  split
  · rfl
  · rw [if_neg (by omega)]
theorem burn_now : d.burn.now = d.now := by unfold Dsk.burn; split <;> rfl
set_option maxRecDepth 100000 in
set_option maxHeartbeats 3200000 in
theorem dkFlush_any (h : DkAt w p vk vn vw d) : Calls Try.prog 20 #[ptrTo p] w fun e w' => e = .returned (.int .i64 d.flush.2) ∧ ∃ vw', DkAt w' p vk vn vw' d.flush.1 ∧ Chg (fun b => b = p ∨ vk.ownBlock = some b) w w' ∧ (vw' = vw ∨ vw' = .slice none 0 0) := by
  have HI := Lib.hid (dkMay_any h 0)
  rw [may_zero_off h.n0] at HI
  have HD := Lib.hid h
  by_cases hoff : d.off = true
  · rw [if_pos hoff] at HI
    have hr : d.flush = (d, 30) := by unfold Dsk.flush; rw [if_pos hoff]
    have HR := Lib.hid hr
    clear h hr
    go_enter Try.func20, Try.ntmps20
    go_wp2_with fail
    refine HI.out.mono ?_
    rintro e w' ⟨rfl, rfl⟩
    go_wp2
    go_ret
    rw [HR.out]
    exact ⟨rfl, _, HD.out, .refl _ _, .inl rfl⟩
  · rw [if_neg hoff] at HI
    have ho : d.off = false := by simpa using hoff
    have HO := Lib.hid ho
    have hr : d.flush = if d.burn.off = true then (d.burn, 30) else ({ d.burn with K := d.now, m := 0 }, 0) := by unfold Dsk.flush; rw [if_neg hoff]
    have HR := Lib.hid hr
    clear h hr hoff ho
    go_enter Try.func20, Try.ntmps20
    go_wp2_with fail
    refine HI.out.mono ?_
    rintro e w' ⟨rfl, rfl⟩
    go_wp2_with fail
    refine (dkBurn_any HD.out HO.out).mono ?_
    rintro e w1 ⟨rfl, hb1, hb2⟩
    have HB1 : Hid (DkR w1 p vk vn vw d.burn d.now) := hb1
    have HB2 := Lib.hid hb2
    clear hb1 hb2 HI
    cases hbo : d.burn.off with
    | true =>
      have HR2 := HR.out
      rw [if_pos hbo] at HR2
      have HR3 := Lib.hid HR2
      clear HR2 HR
      go_wp2
      go_ret
      rw [HR3.out]
      refine ⟨rfl, _, ?_, HB2.out.mono (fun _ _ h => .inl h), .inl rfl⟩
      unfold DkAt
      rw [burn_now]
      exact HB1.out
    | false =>
      have HR2 := HR.out
      rw [if_neg (by rw [hbo]; decide)] at HR2
      have HR3 := Lib.hid HR2
      clear HR2 HR
      obtain ⟨D, hD⟩ : ∃ x, x = d.burn := ⟨_, rfl⟩
      have hDN : Hid (nowR D.K D.ps D.bs D.m = d.now) := by rw [hD]; exact burn_now
      rw [← hD] at HB1 HR3 hbo
      clear hD
      obtain ⟨aw, cw, rfl, hcw, hcw2⟩ := HB1.out.wait.slice
      obtain ⟨gk, ck, rfl, hrk0, hck, hck2, _⟩ := HB1.out.kept.form HB1.out.n0
      clear hrk0
      have c2 := HB1.out.cw
      go_wp2
      go_loopw [18] (fun i wr => ∃ j : Nat, j ≤ D.m ∧ i = .int .i64 j ∧ DkR wr p (.slice (some ⟨gk, 0, none⟩) D.n ck) vn (.slice aw D.m cw) { D with K := nowR D.K D.ps D.bs j } d.now ∧ Chg (fun b => b = p ∨ (Value.slice (some ⟨gk, 0, none⟩) D.n ck).ownBlock = some b) w' wr) (fun i _ => D.m - (intOf i).toNat)
      case atStart => exact ⟨0, Nat.zero_le _, rfl, HB1.out, HB2.out.mono fun _ _ h => .inl h⟩
      case round =>
        obtain ⟨j, hj, rfl, hI, hC⟩ := hrel
        have HI := Lib.hid hI
        have HC := Lib.hid hC
        clear hI hC
        by_cases hlt : j < D.m
        · obtain ⟨gw, cw', ew, hrw, hw1, hw2, hcells⟩ := HI.out.wait.form (by show 0 < D.m; omega)
          obtain ⟨rfl, rfl⟩ : aw = some ⟨gw, 0, none⟩ ∧ cw = cw' := by simp only [Value.slice.injEq] at ew; exact ⟨ew.1, ew.2.2⟩
          have HCL := Lib.hid (hcells j hlt)
          clear hcells ew hrw
          go_upto_region 9 with (first | (refine load_row rfl rfl rfl Try.underlying139 rfl Try.size139 HCL.out ?_) | (refine store_rowV rfl 139 _ _ rfl wr.heap.size 65 (wtC D.ps D.bs j) _ 139 (heap_alloc_new _ _) rfl Try.size139 rfl rfl (fun i _ => by unfold wtC; split <;> rfl) ?_))
          have hb8 : Below wr.heap.size wr ((wr.alloc (.cells (rowV 65 (wtC (fun _ => 0) (fun _ _ => 0) 0)) 139)).setRow wr.heap.size (rowV 65 (wtC D.ps D.bs j))) := below_setRow' ((Below.refl _ _).alloc (Nat.le_refl _) _) (Nat.le_refl _) _
          refine wp_world (fun w4 => RowN w4 wr.heap.size 65 139 (wtC D.ps D.bs j) ∧ Below wr.heap.size wr w4) ⟨RowN.setRow (heap_alloc_new _ _), hb8⟩ ?_
          rintro w4 ⟨k2, hb4⟩
          have HK1 := Lib.hid (HI.out.below hb4)
          have HK2 := Lib.hid k2
          have HC4 := Lib.hid (HC.out.trans (.of_below hb4 _) (fun _ _ h => h))
          have hpn : D.ps j < D.n := HI.out.ps j hlt
          clear k2 hb4 hb8 HCL
          apply region_early' (n := 35) [.e, .e, .e, .e, .e, .e, .e, .e, .e, .c] 0 (by kernel_rfl) (by kernel_rfl) (by kernel_rfl) rfl
          · intro w5 hB
            have c0 : w5.cell? ⟨p, 0, none⟩ = some (.slice (some ⟨gk, 0, none⟩) D.n ck) := (HK1.out.below hB).ck
            have e0 : w5.cell? ⟨wr.heap.size, 0, none⟩ = some (.int .i64 (D.ps j)) := (HK2.out.below hB).2 0 (by decide)
            simp only [selBy, Cl.isE, cond_true, cond_false]
            still_step
            still_step
            still_step
            still_step
            still_step
            still_step
            still_step
            refine still_load rfl rfl rfl Try.underlying137 rfl Try.size137 (f := D.bs j) (fun i hi => by rw [(HK2.out.below hB).2 (1 + i) (by omega)]; unfold wtC; rw [if_neg (by omega), Nat.add_sub_cancel_left]) ?_
            still_step
            exact wpStill_nil rfl
          · intro w5
            simp only [selBy, Cl.isF, cond_true, cond_false]
            exact wpStill_nil rfl
          · simp only [selBy, Cl.isC, cond_true, cond_false]
            refine chW_zero ?_
            have hth : w4.drew.there gk (D.ps j * 64) 64 := by
              obtain ⟨g2, c2', e2, hr2, hc2', _⟩ := HK1.out.kept.form HK1.out.n0
              simp only [Value.slice.injEq, Option.some.injEq, Addr.mk.injEq, and_true, true_and] at e2
              obtain ⟨rfl, rfl⟩ := e2
              exact hr2.there (by have : (D.ps j + 1) * 64 ≤ ck * 64 := Nat.mul_le_mul_right 64 (by omega); omega)
            refine wpList_store_mid rfl 137 _ _ rfl gk (D.ps j * 64) (arr .u8 64 (D.bs j)) rfl rfl (by rw [arr_size]; exact hth) (by rw [arr_size]; exact Try.size137) (vals_oneCell _ _ _) ?_
            refine onlyN ?_
            have h5 := (HK1.out.below ((Below.refl _ _).drew)).keptSet (D.ps j) hpn (D.bs j)
            have HD5 := Lib.hid h5
            have HC5 := Lib.hid (HC4.out.trans ((Chg.of_below ((Below.refl _ _).drew) _).trans (Chg.setCells (fun b => b = p ∨ (Value.slice (some ⟨gk, 0, none⟩) D.n ck).ownBlock = some b) gk (.inr rfl) (arr .u8 64 (D.bs j)).toList (D.ps j * 64) w4.drew) (fun _ _ h => h)) (fun _ _ h => h))
            clear h5 hth
            go_wp2
            go_roundw
            case rel => exact ⟨j + 1, by omega, by go_num, HD5.out, HC5.out⟩
            case measure => simp [intOf]; omega
        · obtain rfl : j = D.m := by omega
          have hK := hDN.out
          have HE := Lib.hid (HI.out.setNil (by exact hK))
          have HCE := Lib.hid (HC.out.trans (Chg.set (fun b => b = p ∨ (Value.slice (some ⟨gk, 0, none⟩) D.n ck).ownBlock = some b) _ ⟨p, 2, none⟩ (.slice none 0 0) (.inl rfl)) (fun _ _ h => h))
          have c2' := HI.out.cw
          have r2 := HI.out.row.free 2
          rw [hK] at HE
          clear hK
          go_wp2
          go_ret
          rw [HR3.out]
          exact ⟨rfl, _, HE.out, HCE.out, .inr rfl⟩
end
end Go.Proofs.Ytlmdgmgbijfaoaa
