/-
  A disk like another. Conditions: named in each theorem.
-/
import Derived.Test.YtlmdgmgbijfaoaaDkG
set_option linter.unusedVariables false
set_option linter.unusedSimpArgs false
namespace Go.Bas
open Go.RowKit
theorem OwM.one {e : TypeId} {c n : Nat} {w : World} {v : Value} {q : Nat → Nat → Value} (h : OwM e c w v n q) : v.oneCell' = true := by
  obtain ⟨_, _, rfl, _⟩ := h.slice
  rfl
end Go.Bas
namespace Go.Proofs.Ytlmdgmgbijfaoaa
open Go.RowKit Go.Bas Go.ChangeShapes
attribute [local go_sem ↓] Go.wp_at_zero Go.wp_at_succ
theorem Try.size134 : (Try.prog.info? 134).map (·.size) = some 6 := by kernel_rfl
/-- the struct's cells. -/
def dkY (vk vn vw : Value) (d : Dsk) : Nat → Value
  | 0 => vk
  | 1 => vn
  | 2 => vw
  | 3 => .int .i64 d.fuse
  | 4 => .bool d.off
  | _ => .int .i64 d.lives
section
variable {w w' : World} {p : Nat} {vk vn vw : Value} {d : Dsk} {N : Nat → Nat → Int}
theorem DkR.rowY (h : DkR w p vk vn vw d N) : ∀ i, i < 6 → w.cell? ⟨p, 0 + i, none⟩ = some (dkY vk vn vw d i) ∧ (dkY vk vn vw d i).oneCell' = true := by
  intro i hi
  rcases (by omega : i = 0 ∨ i = 1 ∨ i = 2 ∨ i = 3 ∨ i = 4 ∨ i = 5) with rfl | rfl | rfl | rfl | rfl | rfl
  · exact ⟨h.ck, h.kept.one⟩
  · exact ⟨h.cn, h.now.one⟩
  · exact ⟨h.cw, h.wait.one⟩
  · exact ⟨h.cf, rfl⟩
  · exact ⟨h.co, rfl⟩
  · exact ⟨h.cl, rfl⟩
set_option maxRecDepth 100000 in
set_option maxHeartbeats 3200000 in
theorem dkClone_any (h : DkAt w p vk vn vw d) : Calls Try.prog 30 #[ptrTo p] w fun e w' => ∃ c uk un uw, e = .returned (ptrTo c) ∧ DkAt w' c uk un uw d ∧ Below w.heap.size w w' ∧ w.heap.size ≤ c ∧ (∀ b, uk.ownBlock = some b → w.heap.size ≤ b) ∧ (∀ b, un.ownBlock = some b → w.heap.size ≤ b) ∧ (∀ b, uw.ownBlock = some b → w.heap.size ≤ b) := by
  have HI := Lib.hid (dkIs_any h)
  have HD := Lib.hid h
  clear h
  go_enter Try.func30, Try.ntmps30
  go_wp2_with fail
  refine HI.out.mono ?_
  rintro e w' ⟨rfl, rfl⟩
  go_upto_region 4 with (first | (refine load_row rfl rfl rfl Try.underlying134 rfl Try.size134 (fun i hi => (HD.out.rowY i hi).1) ?_) | (refine store_rowV rfl 134 _ _ rfl w'.heap.size 6 (dkY vk vn vw d) _ 134 (heap_alloc_new _ _) rfl Try.size134 rfl rfl (fun i hi => (HD.out.rowY i hi).2) ?_))
  have hb8 : Below w'.heap.size w' ((w'.alloc (.cells #[.slice none 0 0, .slice none 0 0, .slice none 0 0, .int .i64 0, .bool false, .int .i64 0] 134)).setRow w'.heap.size (rowV 6 (dkY vk vn vw d))) := below_setRow' ((Below.refl _ _).alloc (Nat.le_refl _) _) (Nat.le_refl _) _
  refine wp_world (fun w4 => RowN w4 w'.heap.size 6 134 (dkY vk vn vw d) ∧ Below w'.heap.size w' w4) ⟨RowN.setRow (heap_alloc_new _ _), hb8⟩ ?_
  rintro w4 ⟨k2, hb4⟩
  have HK1 := Lib.hid (HD.out.below hb4)
  have HK2 := Lib.hid k2
  have HB4 := Lib.hid hb4
  clear k2 hb4 hb8
  obtain ⟨ak, ck, rfl, _⟩ := HD.out.kept.slice
  obtain ⟨an, cn, rfl, _⟩ := HD.out.now.slice
  obtain ⟨aw, cw, rfl, _⟩ := HD.out.wait.slice
  apply region_early' (n := 28) [.e, .e, .e, .e, .c, .e, .e, .e, .e, .c, .e, .e, .e, .e, .c, .e, .c, .f, .c, .f, .c] 3 (by kernel_rfl) (by kernel_rfl) (by kernel_rfl) rfl
  · intro w5 hB
    have c0 := (HK1.out.below hB).ck
    have c1 := (HK1.out.below hB).cn
    have c2 := (HK1.out.below hB).cw
    simp only [selBy, Cl.isE, cond_true, cond_false]
    repeat still_step
    exact wpStill_nil rfl
  · intro w5
    simp only [selBy, Cl.isF, cond_true, cond_false]
    repeat still_step
    exact wpStill_nil rfl
  · simp only [selBy, Cl.isC, cond_true, cond_false]
    refine chW_step ((Below.refl _ _).drew) (fun K hK => ?_)
    go_simp
    refine (clonesector_any (HK1.out.kept.below ((Below.refl _ _).drew)) (fun _ _ _ _ => rfl) (Nat.le_trans HK1.out.n1 (by decide))).mono ?_
    rintro e w6 ⟨uk, rfl, hk6, hb6, hk6n⟩
    have B6 : Below w4.heap.size w4 w6 := ((Below.refl _ _).drew).trans hb6
    refine hK _ _ B6 ?_
    clear hK K
    refine chW_step B6 (fun K hK => ?_)
    go_simp
    refine (clonesector_any (HK1.out.now.below B6) (fun _ _ _ _ => rfl) (Nat.le_trans HK1.out.n1 (by decide))).mono ?_
    rintro e w7 ⟨un, rfl, hn7, hb7, hn7n⟩
    have B7 : Below w4.heap.size w4 w7 := B6.trans (hb7.mono B6.size)
    refine hK _ _ B7 ?_
    clear hK K
    refine chW_step B7 (fun K hK => ?_)
    go_simp
    refine (clonewrite_any (HK1.out.wait.below B7) (fun j _ i _ => by unfold wtC; split <;> rfl) HK1.out.m1).mono ?_
    rintro e w8 ⟨uw, rfl, hw8, hb8, hw8n⟩
    have B8 : Below w4.heap.size w4 w8 := B7.trans (hb8.mono B7.size)
    refine hK _ _ B8 (chW_zero ?_)
    clear hK K
    have hk8 := (hk6.below hb7).below hb8
    have hn8 := hn7.below hb8
    have hap : uk.ownBlock ≠ un.ownBlock := fun e => by
      obtain ⟨g1, c1, rfl, _⟩ := hk6.form HK1.out.n0
      have h1 := hk6.lt g1 rfl
      have h2 := hn7n g1 e.symm
      omega
    have s4 := HB4.out.size
    have s6 := B6.size
    have s7 := B7.size
    have k6 : Hid (∀ b, uk.ownBlock = some b → w'.heap.size ≤ b) := fun b hb => by have h1 := hk6n b hb; have h2 : w4.drew.heap.size = w4.heap.size := rfl; omega
    have n7 : Hid (∀ b, un.ownBlock = some b → w'.heap.size ≤ b) := fun b hb => by have := hn7n b hb; omega
    have q8 : Hid (∀ b, uw.ownBlock = some b → w'.heap.size ≤ b) := fun b hb => by have := hw8n b hb; omega
    have R8 := HK2.out.below B8
    have d0 := R8.2 0 (by decide)
    have d1 := R8.2 1 (by decide)
    have d2 := R8.2 2 (by decide)
    have d3 := R8.2 3 (by decide)
    have d4 := R8.2 4 (by decide)
    have d5 := R8.2 5 (by decide)
    have f0 := R8.1.free 0
    have f1 := R8.1.free 1
    have f2 := R8.1.free 2
    have hck : Chg (fun b => b = w'.heap.size) w8 (((w8.setCell ⟨w'.heap.size, 0, none⟩ uk).setCell ⟨w'.heap.size, 1, none⟩ un).setCell ⟨w'.heap.size, 2, none⟩ uw) := ((Chg.set (fun b => b = w'.heap.size) w8 ⟨w'.heap.size, 0, none⟩ uk rfl).trans (Chg.set (fun b => b = w'.heap.size) _ ⟨w'.heap.size, 1, none⟩ un rfl) (fun _ _ h => h)).trans (Chg.set (fun b => b = w'.heap.size) _ ⟨w'.heap.size, 2, none⟩ uw rfl) (fun _ _ h => h)
    have oc : ∀ i v, 2 < i → w8.cell? ⟨w'.heap.size, i, none⟩ = some v → (((w8.setCell ⟨w'.heap.size, 0, none⟩ uk).setCell ⟨w'.heap.size, 1, none⟩ un).setCell ⟨w'.heap.size, 2, none⟩ uw).cell? ⟨w'.heap.size, i, none⟩ = some v := fun i v hi hv => by
      rw [World.cell?_setCell_other (h := addr_ne (by omega)), World.cell?_setCell_other (h := addr_ne (by omega)), World.cell?_setCell_other (h := addr_ne (by omega))]
      exact hv
    have FIN : Hid (DkAt (((w8.setCell ⟨w'.heap.size, 0, none⟩ uk).setCell ⟨w'.heap.size, 1, none⟩ un).setCell ⟨w'.heap.size, 2, none⟩ uw) w'.heap.size uk un uw d) := by
      refine ⟨((R8.1.setCell _ rfl _).setCell _ rfl _).setCell _ rfl _, ?_, ?_, ?_, oc 3 _ (by decide) d3, oc 4 _ (by decide) d4, oc 5 _ (by decide) d5, hk8.chg hck (hk8.ne R8.1 (by decide)), hn8.chg hck (hn8.ne R8.1 (by decide)), hw8.chg hck (hw8.ne R8.1 (by decide)), hap, HD.out.n0, HD.out.n1, HD.out.ps, HD.out.m1, HD.out.f0, HD.out.f1, HD.out.l0, HD.out.l1⟩
      · rw [World.cell?_setCell_other (h := addr_ne (by decide)), World.cell?_setCell_other (h := addr_ne (by decide))]
        exact World.cell?_setCell_same _ _ _ d0
      · rw [World.cell?_setCell_other (h := addr_ne (by decide))]
        refine World.cell?_setCell_same _ _ _ (u := .slice an d.n cn) ?_
        rw [World.cell?_setCell_other (h := addr_ne (by decide))]
        exact d1
      · refine World.cell?_setCell_same _ _ _ (u := .slice aw d.m cw) ?_
        rw [World.cell?_setCell_other (h := addr_ne (by decide)), World.cell?_setCell_other (h := addr_ne (by decide))]
        exact d2
    have BEL : Hid (Below w'.heap.size w' (((w8.setCell ⟨w'.heap.size, 0, none⟩ uk).setCell ⟨w'.heap.size, 1, none⟩ un).setCell ⟨w'.heap.size, 2, none⟩ uw)) := by
      have h1 := HB4.out.trans (B8.mono s4)
      exact h1.trans (hck.below h1.size (fun b hb => by omega))
    obtain ⟨a0, c0, rfl, _⟩ := hk8.slice
    obtain ⟨a1, c1, rfl, _⟩ := hn8.slice
    obtain ⟨a2, c2, rfl, _⟩ := hw8.slice
    clear hck oc R8 hap hk8 hn8 hw8 hk6 hn7 hk6n hn7n hw8n hb6 hb7 hb8 s4 s6 s7 B6 B7 B8
    go_wp2
    refine onlyN ?_
    go_wp2
    go_ret
    exact ⟨_, _, _, _, rfl, FIN.out, BEL.out, Nat.le_refl _, k6.out, n7.out, q8.out⟩
end
end Go.Proofs.Ytlmdgmgbijfaoaa
