/-
  A sector is written. Conditions: named in each theorem.
-/
import Derived.Test.YtlmdgmgbijfaoaaDkC
import Derived.Deep.Cut
import Derived.Test.YtlmdgmgbijfaoaaPart
set_option linter.unusedVariables false
set_option linter.unusedSimpArgs false
namespace Go.Proofs.Ytlmdgmgbijfaoaa
open Go.RowKit Go.Bas Go.ChangeShapes
attribute [local go_sem ↓] Go.wp_at_zero Go.wp_at_succ
theorem Try.info139 : (Try.prog.info? 139).map (fun i => (i.zero, i.size, i.bytes)) = some (some (.agg (rowV 65 (wtC (fun _ => 0) (fun _ _ => 0) 0))), 65, 72) := by kernel_rfl
/-- one write's cells. -/
def wrY (k : Nat) (b : Nat → Int) (i : Nat) : Value := if i = 0 then .int .i64 k else .int .u8 (b (i - 1))
theorem wrY_one (k : Nat) (b : Nat → Int) (i : Nat) (_ : i < 65) : (wrY k b i).oneCell' = true := by unfold wrY; split <;> rfl
section
variable {w w' : World} {p : Nat} {vk vn vw : Value} {d : Dsk} {N : Nat → Nat → Int}
set_option maxRecDepth 100000 in
theorem dkWrite_no (h : DkAt w p vk vn vw d) (k : Int) (v : Value) (hm : d.may k ≠ 0) : Calls Try.prog 19 #[ptrTo p, .int .i64 k, v] w fun e w' => e = .returned (.int .i64 (d.may k)) ∧ w' = w := by
  have HI := Lib.hid (dkMay_any h k)
  clear h
  obtain ⟨E, hE⟩ : ∃ x, x = d.may k := ⟨_, rfl⟩
  rw [← hE] at HI hm ⊢
  clear hE
  go_enter Try.func19, Try.ntmps19
  go_wp2_with fail
  refine HI.out.mono ?_
  rintro e w' ⟨rfl, rfl⟩
  go_wp2
  go_ret
  exact ⟨rfl, rfl⟩
set_option maxRecDepth 100000 in
theorem dkWrite_len (h : DkAt w p vk vn vw d) (k : Int) (v : Value) (l : Nat) (f : Nat → Int) (hv : Rd .u8 w v l f) (hl : l ≠ 64) (hm : d.may k = 0) : Calls Try.prog 19 #[ptrTo p, .int .i64 k, v] w fun e w' => e = .returned (.int .i64 2) ∧ w' = w := by
  have HI := Lib.hid (dkMay_any h k)
  rw [hm] at HI
  clear h hm
  obtain ⟨a, c, rfl, _⟩ := hv
  have hl' : ¬ (l : Int) = 64 := by omega
  clear hl
  go_enter Try.func19, Try.ntmps19
  go_wp2_with fail
  refine HI.out.mono ?_
  rintro e w' ⟨rfl, rfl⟩
  go_wp2
  go_ret
  exact ⟨rfl, rfl⟩
theorem catM_add (d : Dsk) (j : Nat) (f : Nat → Int) (i k : Nat) : catM d.m (wtC d.ps d.bs) (fun _ => wrY j f) i k = wtC (d.add j f).ps (d.add j f).bs i k ∨ d.m < i := by
  by_cases h : i < d.m
  · left
    rw [catM_lo h]
    unfold wtC Dsk.add
    dsimp only
    rw [if_neg (show i ≠ d.m by omega), if_neg (show i ≠ d.m by omega)]
  · by_cases h2 : i = d.m
    · left
      subst h2
      rw [catM_at]
      unfold wtC wrY Dsk.add
      dsimp only
      rw [if_pos rfl, if_pos rfl]
    · right; omega
theorem DkR.grownCell (h : DkR w p vk vn vw d N) (hg : w.grownBy w' vw.ownBlock) : (∀ i v, w.cell? ⟨p, i, none⟩ = some v → w'.cell? ⟨p, i, none⟩ = some v) ∧ RowB w' p 134 6 := by
  have hb : w'.heap[p]? = w.heap[p]? := hg.block p h.row.lt fun e => h.wait.ne h.row (by decide) p e.symm rfl
  exact ⟨fun i v hv => by rw [World.cell?_of_block hb]; exact hv, h.row.heap hb⟩
/-- a write has been laid behind the others. -/
theorem DkR.pushed (h : DkR w p vk vn vw d N) (j : Nat) (f : Nat → Int) (hj : j < d.n) (hm : d.m < 1000000) (hg : w.grownBy w' vw.ownBlock) {v' : Value} (hown : OwM 139 65 w' v' (d.m + 1) (catM d.m (wtC d.ps d.bs) fun _ => wrY j f)) :
    DkR (w'.setCell ⟨p, 2, none⟩ v') p vk vn v' (d.add j f) N := by
  obtain ⟨hc0, hrow⟩ := h.grownCell hg
  have hc : Chg (fun b => b = p) w' (w'.setCell ⟨p, 2, none⟩ v') := .set _ _ _ _ rfl
  have o : ∀ i v, 2 ≠ i → w.cell? ⟨p, i, none⟩ = some v → (w'.setCell ⟨p, 2, none⟩ v').cell? ⟨p, i, none⟩ = some v := fun i v hi hv => by rw [World.cell?_setCell_other (h := addr_ne hi)]; exact hc0 i v hv
  have hk := h.kept.grown hg (h.kept.neO h.wait (by decide))
  have hn := h.now.grown hg (h.now.neO h.wait (by decide))
  refine ⟨hrow.setCell _ rfl _, o 0 _ (by decide) h.ck, o 1 _ (by decide) h.cn, World.cell?_setCell_same _ _ _ (hc0 2 _ h.cw), o 3 _ (by decide) h.cf, o 4 _ (by decide) h.co, o 5 _ (by decide) h.cl, hk.chg hc (hk.ne hrow (by decide)), hn.chg hc (hn.ne hrow (by decide)),
    (hown.congr fun i hi k _ => (catM_add d j f i k).resolve_right (by omega)).chg hc (hown.ne hrow (by decide)), h.apart, h.n0, h.n1, fun i hi => ?_, hm, h.f0, h.f1, h.l0, h.l1⟩
  show (if i = d.m then j else d.ps i) < d.n
  split
  · exact hj
  · exact h.ps i (by have : i < d.m + 1 := hi; omega)
/-- a sector is laid in. -/
theorem DkR.sector {gn cap n : Nat} (h : DkR w p vk (.slice (some ⟨gn, 0, none⟩) n cap) vw d N) (j : Nat) (hj : j < d.n) (f : Nat → Int) :
    DkR (w.setCells gn (j * 64) (arr .u8 64 f).toList) p vk (.slice (some ⟨gn, 0, none⟩) n cap) vw d (putS N j f) := by
  have hnn : n = d.n := by
    rcases h.now with ⟨h1, _⟩ | ⟨g, c, h1, _⟩
    · cases h1
    · simp only [Value.slice.injEq] at h1; exact h1.2.1
  subst hnn
  have hc : Chg (fun b => b = gn) w (w.setCells gn (j * 64) (arr .u8 64 f).toList) := Chg.setCells (fun b => b = gn) gn rfl _ _ _
  have hp : ¬ p = gn := fun e => h.now.ne h.row (by decide) gn rfl e.symm
  have o : ∀ i v, w.cell? ⟨p, i, none⟩ = some v → (w.setCells gn (j * 64) (arr .u8 64 f).toList).cell? ⟨p, i, none⟩ = some v := fun i v hv => by rw [hc.cell (p := ⟨p, i, none⟩) h.row.lt hp]; exact hv
  refine ⟨h.row.heap (hc.block p h.row.lt hp), o 0 _ h.ck, o 1 _ h.cn, o 2 _ h.cw, o 3 _ h.cf, o 4 _ h.co, o 5 _ h.cl, h.kept.chg hc (fun b hb e => h.apart (by rw [hb, e]; rfl)), ?_,
    h.wait.chg hc (fun b hb e => h.wait.neO h.now (by decide) b hb (by rw [e]; rfl)), h.apart, h.n0, h.n1, h.ps, h.m1, h.f0, h.f1, h.l0, h.l1⟩
  refine (h.now.setRow j hj (arr .u8 64 f).toList (by simp [arr]) (fun i => .int .u8 (f i)) (fun i hi => by simpa using arr_get (k := .u8) (f := f) hi)).congr fun i hi k hk => ?_
  unfold putS
  split <;> rfl
set_option maxRecDepth 100000 in
set_option maxHeartbeats 3200000 in
theorem dkWrite_yes (h : DkAt w p vk vn vw d) (k : Int) (v : Value) (f : Nat → Int) (hv : Rd .u8 w v 64 f) (hm : d.may k = 0) (hm1 : d.m < 1000000) : Calls Try.prog 19 #[ptrTo p, .int .i64 k, v] w fun e w' => e = .returned (.int .i64 (powE (d.add k.toNat f).burn.off)) ∧
    ∃ vw', DkAt w' p vk vn vw' (d.add k.toNat f).burn ∧ Chg (fun b => b = p ∨ vn.ownBlock = some b ∨ vw.ownBlock = some b) w w' ∧ Placed w vw vw' := by
  have HI := Lib.hid (dkMay_any h k)
  rw [hm] at HI
  obtain ⟨ho, hk0, hk1⟩ := may_zero hm
  obtain ⟨j, rfl⟩ := Int.eq_ofNat_of_zero_le hk0
  rw [show ((j : Int)).toNat = j from rfl]
  have hj : j < d.n := by omega
  have HD := Lib.hid h
  have HO := Lib.hid ho
  have HM1 := Lib.hid hm1
  obtain ⟨a, cv, rfl, hcv, hcv2, _, hcell⟩ := hv
  obtain ⟨bb, ov, rfl, hbl, hcell⟩ := hcell (by decide)
  have HV := Lib.hid hcell
  have HAT := fun w => arrayAt_part (P := Try.prog) (T := 137) (a := some ⟨bb, ov, none⟩) (len := 64) (cap := cv) (n := 64) Try.underlying137 (by decide) w
  clear h hm hk0 hk1 ho hcell hm1
  go_enter Try.func19, Try.ntmps19
  go_wp2_with fail
  refine HI.out.mono ?_
  rintro e w' ⟨rfl, rfl⟩
  go_upto_region 7 with (first | (refine wpList_load_mid rfl 137 _ rfl bb ov rfl (vals .u8 64 f) (.array 64 5) (range_vals' HV.out) Try.underlying137 rfl Try.size137 ?_) | (refine wpList_buildTo rfl 139 _ rfl _ rfl (rowV 65 (wrY j f)) (by kernel_rfl) ?_) | (refine store_rowV rfl 139 _ _ rfl w'.heap.size 65 (wrY j f) _ 139 (heap_alloc_new _ _) rfl Try.size139 rfl rfl (wrY_one j f) ?_))
  refine wp_world (fun w1 => DkAt w1 p vk vn vw d ∧ RowN w1 w'.heap.size 65 139 (wrY j f) ∧ Below w'.heap.size w' w1) ⟨HD.out.below (below_setRow' ((Below.refl _ _).alloc (Nat.le_refl _) _) (Nat.le_refl _) _), RowN.setRow (heap_alloc_new _ _), below_setRow' ((Below.refl _ _).alloc (Nat.le_refl _) _) (Nat.le_refl _) _⟩ ?_
  rintro w1 ⟨g1, g2, hbel⟩
  obtain ⟨aw, capw, ew, hcw, hcw2⟩ := g1.wait.slice
  subst ew
  have HG1 := Lib.hid g1
  have HG2 := Lib.hid g2
  clear g1 g2
  apply region_early' (n := 43) [.f, .e, .e, .e, .e, .e, .c, .c, .f, .f, .c] 1 (by kernel_rfl) (by kernel_rfl) (by kernel_rfl) rfl
  · intro w2 hB
    have c2 := (HG1.out.below hB).cw
    simp only [selBy, Cl.isE, cond_true, cond_false]
    still_step
    still_step
    still_step
    still_step
    refine still_row rfl rfl rfl Try.underlying139 rfl Try.size139 (fun i hi => by rw [Nat.zero_add]; exact (HG2.out.below hB).2 i hi) ?_
    exact wpStill_nil rfl
  · intro w2
    simp only [selBy, Cl.isF, cond_true, cond_false]
    still_step
    still_step
    still_step
    exact wpStill_nil rfl
  · simp only [selBy, Cl.isC, cond_true, cond_false]
    have hW1 : OwM 139 65 (w1.drew.alloc (.cells (rowV 65 (wrY j f)) 139)) (.slice aw d.m capw) d.m (wtC d.ps d.bs) := HG1.out.wait.below (((Below.refl _ _).drew).alloc (Nat.le_refl _) _)
    refine chW_step ((Below.refl _ _).drew) (fun K hK => ?_)
    rw [if_pos (wanted_none rfl)]
    refine wp_buildS 132 139 1 _ rfl Try.underlying132 (rowV 65 (wrY j f)) (by kernel_rfl) (hK _ _ (((Below.refl _ _).drew).alloc (Nat.le_refl _) _) (chW_zero ?_))
    refine wpList_append_m rfl _ _ rfl rfl hW1 (by decide) Try.underlying132 Try.info139 rfl w1.drew.heap.size 0 1 1 rfl (fun _ => wrY j f) (fun j' hj' i hi => ⟨?_, wrY_one j f i hi⟩) (by have := HM1.out; unfold maxLen; omega) (by have := HM1.out; omega) ?_
    · obtain rfl : j' = 0 := by omega
      rw [show 0 + (0 * 65 + i) = i by omega]
      exact RowN.new.2 i hi
    · intro v' w3 hown hgrow hplaced
      have hG2 : Hid (DkAt (w1.drew.alloc (.cells (rowV 65 (wrY j f)) 139)) p vk vn (.slice aw d.m capw) d) := HG1.out.below (((Below.refl _ _).drew).alloc (Nat.le_refl _) _)
      obtain ⟨hc0, hrow⟩ := hG2.out.grownCell hgrow
      have c2 := hc0 2 _ hG2.out.cw
      have r2 := hrow.free 2
      have HP := Lib.hid (hG2.out.pushed j f hj HM1.out hgrow hown)
      obtain ⟨a', c', rfl, _⟩ := hown.slice
      clear hc0 hrow
      go_wp2
      refine onlyN ?_
      go_upto_region 8 with (fail)
      have hC2 : Chg (fun b => b = p ∨ vn.ownBlock = some b ∨ (Value.slice aw d.m capw).ownBlock = some b) w' (w3.setCell ⟨p, 2, none⟩ (.slice a' (d.m + 1) c')) :=
        (((Chg.of_below hbel _).trans (.of_below (((Below.refl _ _).drew).alloc (Nat.le_refl _) _) _) (fun _ _ h => h)).trans (.of_grown hgrow (fun b hb => .inr (.inr hb))) (fun _ _ h => h)).trans (.set _ _ _ _ (.inl rfl)) (fun _ _ h => h)
      have hR2 : RowN (w3.setCell ⟨p, 2, none⟩ (.slice a' (d.m + 1) c')) w'.heap.size 65 139 (wrY j f) := by
        have q1 := HG2.out.below (((Below.refl _ _).drew).alloc (Nat.le_refl _) (.cells (rowV 65 (wrY j f)) 139))
        have q2 := q1.keep (Chg.of_grown (F := fun b => some b = (Value.slice aw d.m capw).ownBlock) hgrow (fun b hb => hb.symm)) (fun e => by have := HD.out.wait.lt _ e.symm; omega)
        exact q2.keep (Chg.set (fun b => b = p) _ _ _ rfl) (fun e => by have := HD.out.row.lt; omega)
      refine wp_world (fun w4 => DkR w4 p vk vn (.slice a' (d.m + 1) c') (d.add j f) d.now ∧ RowN w4 w'.heap.size 65 139 (wrY j f) ∧ Chg (fun b => b = p ∨ vn.ownBlock = some b ∨ (Value.slice aw d.m capw).ownBlock = some b) w' w4) ⟨HP.out, hR2, hC2⟩ ?_
      rintro w4 ⟨k1, k2, hC4⟩
      have HPL : Hid (Placed w' (.slice aw d.m capw) (.slice a' (d.m + 1) c')) := by
        rcases hplaced with h | h
        · exact .inl h
        · refine .inr fun b hb => ?_
          have := h b hb
          have h5 := (((Below.refl w1.drew.heap.size w1).drew).alloc (Nat.le_refl _) (.cells (rowV 65 (wrY j f)) 139)).size
          have := hbel.size
          omega
      have HK1 := Lib.hid k1
      have HK2 := Lib.hid k2
      have HC4 := Lib.hid hC4
      clear k1 k2 hC4 hC2 hR2 HP hplaced hgrow hown c2 r2 hG2 hW1 HG1 HG2 hbel
      obtain ⟨gn, capn, rfl, hrn, hcn, hcn2, _⟩ := HK1.out.now.form HK1.out.n0
      apply region_early' (n := 43) [.e, .e, .e, .e, .e, .e, .e, .e, .c] 0 (by kernel_rfl) (by kernel_rfl) (by kernel_rfl) rfl
      · intro w5 hB
        have c1 : w5.cell? ⟨p, 1, none⟩ = some (.slice (some ⟨gn, 0, none⟩) d.n capn) := (HK1.out.below hB).cn
        simp only [selBy, Cl.isE, cond_true, cond_false]
        still_step
        still_step
        still_step
        still_step
        still_step
        still_step
        refine still_load rfl rfl rfl Try.underlying137 rfl Try.size137 (f := f) (fun i hi => by rw [(HK2.out.below hB).2 (1 + i) (by omega)]; unfold wrY; rw [if_neg (by omega), Nat.add_sub_cancel_left]) ?_
        still_step
        exact wpStill_nil rfl
      · intro w5
        simp only [selBy, Cl.isF, cond_true, cond_false]
        exact wpStill_nil rfl
      · simp only [selBy, Cl.isC, cond_true, cond_false]
        refine chW_zero ?_
        have hth : w4.drew.there gn (j * 64) 64 := hrn.there (by have : (j + 1) * 64 ≤ capn * 64 := Nat.mul_le_mul_right 64 (by have : (d.add j f).n = d.n := rfl; omega); omega)
        refine wpList_store_mid rfl 137 _ _ rfl gn (j * 64) (arr .u8 64 f) rfl rfl (by rw [arr_size]; exact hth) (by rw [arr_size]; exact Try.size137) (vals_oneCell _ _ _) ?_
        refine onlyN ?_
        have hD5 : DkAt (w4.drew.setCells gn (j * 64) (arr .u8 64 f).toList) p vk (.slice (some ⟨gn, 0, none⟩) (d.add j f).n capn) (.slice a' (d.m + 1) c') (d.add j f) := by
          have h5 := (HK1.out.below ((Below.refl _ _).drew)).sector j hj f
          unfold DkAt
          rw [Dsk.add_now]
          exact h5
        have hC5 := HC4.out.trans ((Chg.of_below ((Below.refl _ _).drew) _).trans (Chg.setCells (fun b => b = p ∨ (Value.slice (some ⟨gn, 0, none⟩) (d.add j f).n capn).ownBlock = some b ∨ (Value.slice aw d.m capw).ownBlock = some b) gn (.inr (.inl rfl)) (arr .u8 64 f).toList (j * 64) w4.drew) (fun _ _ h => h)) (fun _ _ h => h)
        have HD5 := Lib.hid hD5
        have HC5 := Lib.hid hC5
        clear hD5 hC5 hth
        go_wp2_with fail
        refine (dkBurn_any HD5.out HO.out).mono ?_
        rintro e w6 ⟨rfl, hb1, hb2⟩
        have hC6 := HC5.out.trans hb2 (fun b _ h => .inl h)
        have hres : Hid (DkAt w6 p vk (.slice (some ⟨gn, 0, none⟩) (d.add j f).n capn) (.slice a' (d.m + 1) c') (d.add j f).burn ∧ Chg (fun b => b = p ∨ (Value.slice (some ⟨gn, 0, none⟩) (d.add j f).n capn).ownBlock = some b ∨ (Value.slice aw d.m capw).ownBlock = some b) w' w6) := by
          refine ⟨?_, hC6⟩
          have e1 : (d.add j f).burn.now = (d.add j f).now := by unfold Dsk.burn; split <;> rfl
          unfold DkAt
          rw [e1]
          exact hb1
        clear hb1 hb2 hC6
        cases hoff : (d.add j f).burn.off with
        | true =>
          go_wp2
          go_ret
          exact ⟨by first | rfl | (rw [hoff]; rfl), _, hres.out.1, hres.out.2, HPL.out⟩
        | false =>
          go_wp2
          go_ret
          exact ⟨by first | rfl | (rw [hoff]; rfl), _, hres.out.1, hres.out.2, HPL.out⟩
end
end Go.Proofs.Ytlmdgmgbijfaoaa
