/-
  The law of disks: a deed, done to both disks: both say the same, and are one again. Conditions: named in each theorem.
-/
import Derived.Test.YtlmdgmgbijfaoaaLwA
set_option linter.unusedVariables false
set_option linter.unusedSimpArgs false
namespace Go.Bas
open Go.RowKit
theorem Rd.chg0 {F : Nat → Prop} {w w' : World} {k : IntKind} {v : Value} {n : Nat} {f : Nat → Int} (h : Rd k w v n f) (hg : Chg F w w') (hne : 0 < n → ∀ b, v.ownBlock = some b → ¬ F b) : Rd k w' v n f := by
  obtain ⟨a, c, rfl, h1, h2, h3, h4⟩ := h
  refine ⟨a, c, rfl, h1, h2, h3, fun hn => ?_⟩
  obtain ⟨b, o, rfl, hlt, hc⟩ := h4 hn
  have := hg.size
  exact ⟨b, o, rfl, by omega, fun i hi => (hg.cell (p := ⟨b, o + i, none⟩) hlt (hne hn b rfl)).trans (hc i hi)⟩
end Go.Bas
namespace Go.Proofs.Ytlmdgmgbijfaoaa
open Go.RowKit Go.Bas Go.ChangeShapes
attribute [local go_sem ↓] Go.wp_at_zero Go.wp_at_succ
section
variable {w w' : World} {p q : Nat} {vk vn vw rk rw : Value} {uk ub : Nat → Value} {d d' : Dsk}
/-- the struct of a deed, in a block. -/
def DoAt (w : World) (b : Nat) (k n : Int) (v : Value) : Prop := w.cell? ⟨b, 0, none⟩ = some (.int .i64 k) ∧ w.cell? ⟨b, 1, none⟩ = some (.int .i64 n) ∧ w.cell? ⟨b, 2, none⟩ = some v ∧ b < w.heap.size
theorem DoAt.chg {F : Nat → Prop} {b : Nat} {k n : Int} {v : Value} (h : DoAt w b k n v) (hc : Chg F w w') (hn : ¬ F b) : DoAt w' b k n v := by
  obtain ⟨h1, h2, h3, h4⟩ := h
  have := hc.size
  exact ⟨(hc.cell (p := ⟨b, 0, none⟩) h4 hn).trans h1, (hc.cell (p := ⟨b, 1, none⟩) h4 hn).trans h2, (hc.cell (p := ⟨b, 2, none⟩) h4 hn).trans h3, by omega⟩
/-- both disks after a deed. -/
def After (w w' : World) (p q : Nat) (F : Nat → Prop) (d : Dsk) : Prop := ∃ F', Two w' p q F' d ∧ Chg F w w' ∧ ∀ b, F' b → F b ∨ w.heap.size ≤ b
theorem placed_feet {v v' : Value} {b : Nat} (h : Placed w v v') (hb : v'.ownBlock = some b) : v.ownBlock = some b ∨ w.heap.size ≤ b := by
  rcases h with h | h
  · exact .inl (h ▸ hb)
  · exact .inr (h b hb)
/-- first the program's disk changes, then the document's. -/
theorem Two.step {F : Nat → Prop} {w0 w1 w2 : World} {vk' vn' vw' rw' rk' : Value} {uk' ub' : Nat → Value} (h0 : w.heap.size ≤ w0.heap.size) (hc0 : Chg (fun _ => False) w w0)
    (hf : ∀ b, F b ↔ (FD p vk vn vw b ∨ FR q rk rw b)) (h2 : RkAt w0 q rk rw uk ub d) (h1 : DkAt w0 p vk vn vw d)
    (h1' : DkAt w1 p vk' vn' vw' d') (hc1 : Chg (FD p vk vn vw) w0 w1) (hp1 : ∀ b, FD p vk' vn' vw' b → FD p vk vn vw b ∨ w0.heap.size ≤ b)
    (h2' : RkAt w2 q rk' rw' uk' ub' d') (hc2 : Chg (FR q rk rw) w1 w2) (hp2 : ∀ b, FR q rk' rw' b → FR q rk rw b ∨ w1.heap.size ≤ b) : After w w2 p q F d' := by
  have hR : RkAt w1 q rk rw uk ub d := h2.stay hc1 (fun b hb hb' => feet_apart h1 h2 hb' hb) (fun b hb => h1.noBytes hb)
  have hs1 := hc1.size
  refine ⟨_, ⟨vk', vn', vw', rk', rw', uk', ub', h1'.stay hc2 fun b hb hb' => feet_apart h1' hR hb hb', h2', fun b => Iff.rfl⟩, ?_, fun b hb => ?_⟩
  · exact (hc0.mono fun _ _ h => h.elim).trans ((hc1.mono fun b _ hb => (hf b).2 (.inl hb)).trans (hc2.mono fun b _ hb => (hf b).2 (.inr hb)) fun _ _ h => h) fun _ _ h => h
  · rcases hb with hb | hb
    · rcases hp1 b hb with h | h
      · exact .inl ((hf b).2 (.inl h))
      · exact .inr (by omega)
    · rcases hp2 b hb with h | h
      · exact .inl ((hf b).2 (.inr h))
      · exact .inr (by omega)
theorem does1 (n : Int) (l : Nat) (f : Nat → Int) : d.does 1 n l f = (d.write n l f).1 := rfl
set_option maxRecDepth 100000 in
set_option maxHeartbeats 1600000 in
theorem one_1 {F : Nat → Prop} (h : Two w p q F d) (n : Int) (v : Value) (l : Nat) (f : Nat → Int) (hv : Rd .u8 w v l f) (hfar : 0 < l → ∀ b, v.ownBlock = some b → ¬ F b) (hm : d.m < 1000000) : Calls Try.prog 27 #[ptrTo p, ptrTo q, .agg #[.int .i64 1, .int .i64 n, v]] w fun e w' => e = .returned (.bool true) ∧ After w w' p q F (d.does 1 n l f) := by
  have HT := Lib.hid h
  have HV := Lib.hid hv
  obtain ⟨av, cv, rfl, _⟩ := hv
  clear h
  have HF := Lib.hid hfar
  have HM := Lib.hid hm
  clear hfar hm
  rw [does1]
  go_enter Try.func27, Try.ntmps27
  go_upto_region 1 with (fail)
  refine wp_world (fun w1 => DoAt w1 w.heap.size 1 n (.slice av l cv) ∧ Below w.heap.size w w1) ⟨⟨cell_of_row _ _ 0 _ _ (0, 0) (heap_alloc_new w _), cell_of_row _ _ 1 _ _ (0, 0) (heap_alloc_new w _), cell_of_row _ _ 2 _ _ (0, 0) (heap_alloc_new w _), by rw [World.size_alloc]; exact Nat.lt_succ_self _⟩, (Below.refl _ _).alloc (Nat.le_refl _) _⟩ ?_
  rintro w1 ⟨hD, hB⟩
  have HC0 : Hid (Chg (fun _ => False) w w1) := Chg.of_below hB _
  obtain ⟨vk, vn, vw, rk, rw, uk, ub, h1, h2, hfeet⟩ := HT.out.below hB
  have hs1 := hB.size
  have HV1 := Lib.hid (HV.out.below hB)
  have HB := Lib.hid hB
  have H1 := Lib.hid h1
  have H2 := Lib.hid h2
  have HFE := Lib.hid hfeet
  have hfd : Hid (∀ b, FD p vk vn vw b → b < w.heap.size) := fun b hb => HT.out.lt ((hfeet b).2 (.inl hb))
  have HD := Lib.hid hD
  have HNF : Hid (¬ FD p vk vn vw w.heap.size) := fun hb => by have := hfd.out _ hb; omega
  have d0 := hD.1
  clear h1 h2 hfeet hB
  clear hD
  go_upto_region 3 with (fail)
  apply region_earlyJ' (n := 82) (fun w5 => DoAt w5 w.heap.size 1 n (.slice av l cv)) [.e, .e, .e, .e, .e, .c, .e, .e, .e, .e, .e, .c, .c, .c] 1 (by kernel_rfl) (by kernel_rfl) (by kernel_rfl) rfl
  · exact HD.out.chg (Chg.of_below ((Below.refl _ _).drew) fun _ => False) id
  · rintro w5 ⟨_, e1, e2, _⟩
    simp only [selBy, Cl.isE, cond_true, cond_false]
    repeat still_step
    exact wpStill_nil rfl
  · intro w5
    simp only [selBy, Cl.isF, cond_true, cond_false]
    exact wpStill_nil rfl
  · simp only [selBy, Cl.isC, cond_true, cond_false]
    have hdr : Below w1.heap.size w1 w1.drew := (Below.refl _ _).drew
    refine chJ_step (HD.out.chg (Chg.of_below hdr fun _ => False) id) (fun K hK => ?_)
    go_simp
    refine (dkWrite_any (H1.out.below hdr) n _ l f (HV1.out.below hdr) HM.out).mono ?_
    rintro e w2 ⟨rfl, vw', g1, g2, g3⟩
    refine hK _ _ ((HD.out.chg (Chg.of_below hdr fun _ => False) id).chg g2 HNF.out) (chJ_zero ?_)
    clear hK K
    have G1 := Lib.hid g1
    have G2 := Lib.hid g2
    have G3 := Lib.hid g3
    have R2 : Hid (RkAt w2 q rk rw uk ub d) := (H2.out.below hdr).stay g2 (fun b hb hb' => feet_apart (H1.out.below hdr) (H2.out.below hdr) hb' hb) (fun b hb => DkAt.noBytes (H1.out.below hdr) hb)
    have V2 : Hid (Rd .u8 w2 (.slice av l cv) l f) := (HV1.out.below hdr).chg0 g2 (fun h0 b hb hb' => HF.out h0 b hb ((HFE.out b).2 (.inl hb')))
    clear g1 g2 g3
    go_wp2_with fail
    refine (rkWrite_any R2.out n _ l f V2.out HM.out).mono ?_
    rintro e w3 ⟨rfl, rw', ub', k1, k2, k3⟩
    have K1 := Lib.hid k1
    have K2 := Lib.hid k2
    have K3 := Lib.hid k3
    clear k1 k2 k3
    go_wp2
    refine onlyN ?_
    go_wp2
    go_ret
    refine ⟨by first | rfl | simp, Two.step (w0 := w1.drew) (w1 := w2) (w2 := w3) hs1 (HC0.out.trans (Chg.of_below hdr _) (fun _ _ h => h)) HFE.out (H2.out.below hdr) (H1.out.below hdr) G1.out G2.out ?_ K1.out K2.out ?_⟩
    · rintro b (hb | hb | hb | hb)
      · exact .inl (.inl hb)
      · exact .inl (.inr (.inl hb))
      · exact .inl (.inr (.inr (.inl hb)))
      · exact (placed_feet G3.out hb).imp (fun h => .inr (.inr (.inr h))) id
    · rintro b (hb | hb | hb)
      · exact .inl (.inl hb)
      · exact .inl (.inr (.inl hb))
      · exact (placed_feet K3.out hb).imp (fun h => .inr (.inr h)) id
set_option maxRecDepth 100000 in
set_option maxHeartbeats 1600000 in
theorem one_2 {F : Nat → Prop} (h : Two w p q F d) (n : Int) (v : Value) (l : Nat) (f : Nat → Int) (hv : Rd .u8 w v l f) : Calls Try.prog 27 #[ptrTo p, ptrTo q, .agg #[.int .i64 2, .int .i64 n, v]] w fun e w' => e = .returned (.bool true) ∧ After w w' p q F (d.does 2 n l f) := by
  have HT := Lib.hid h
  have HV := Lib.hid hv
  obtain ⟨av, cv, rfl, _⟩ := hv
  clear h
  rw [show d.does 2 n l f = d from rfl]
  go_enter Try.func27, Try.ntmps27
  go_upto_region 1 with (fail)
  refine wp_world (fun w1 => DoAt w1 w.heap.size 2 n (.slice av l cv) ∧ Below w.heap.size w w1) ⟨⟨cell_of_row _ _ 0 _ _ (0, 0) (heap_alloc_new w _), cell_of_row _ _ 1 _ _ (0, 0) (heap_alloc_new w _), cell_of_row _ _ 2 _ _ (0, 0) (heap_alloc_new w _), by rw [World.size_alloc]; exact Nat.lt_succ_self _⟩, (Below.refl _ _).alloc (Nat.le_refl _) _⟩ ?_
  rintro w1 ⟨hD, hB⟩
  have HC0 : Hid (Chg (fun _ => False) w w1) := Chg.of_below hB _
  obtain ⟨vk, vn, vw, rk, rw, uk, ub, h1, h2, hfeet⟩ := HT.out.below hB
  have hs1 := hB.size
  have HV1 := Lib.hid (HV.out.below hB)
  have HB := Lib.hid hB
  have H1 := Lib.hid h1
  have H2 := Lib.hid h2
  have HFE := Lib.hid hfeet
  have hfd : Hid (∀ b, FD p vk vn vw b → b < w.heap.size) := fun b hb => HT.out.lt ((hfeet b).2 (.inl hb))
  have HD := Lib.hid hD
  have HNF : Hid (¬ FD p vk vn vw w.heap.size) := fun hb => by have := hfd.out _ hb; omega
  have d0 := hD.1
  have d1 := hD.2.1
  have d2 := hD.2.2.1
  clear h1 h2 hfeet hB hD
  go_wp2_with fail
  refine (dkRead_any H1.out n).mono ?_
  rintro e w2 ⟨u, lu, rfl, hlu, hu, hb2⟩
  have HB2 := Lib.hid hb2
  have HU := Lib.hid hu
  have HLU := Lib.hid hlu
  have R2 := Lib.hid (H2.out.below hb2)
  have e1 := (HD.out.chg (Chg.of_below hb2 fun _ => False) id).2.1
  obtain ⟨au, cu, rfl, _⟩ := hu
  clear hb2 hlu
  go_wp2_with fail
  refine (rkRead_any R2.out n).mono ?_
  rintro e w3 ⟨u', lu', rfl, hlu', hu', rfl⟩
  have hll : lu' = lu := hlu'.trans HLU.out.symm
  subst hll
  have HU' := Lib.hid hu'
  obtain ⟨au', cu', rfl, _⟩ := hu'
  clear hlu'
  go_wp2_with fail
  refine (same_yes _ _ lu' _ _ _ HU.out HU'.out (fun _ _ => rfl)).mono ?_
  rintro e w4 ⟨rfl, hb4⟩
  have HB4 := Lib.hid hb4
  clear hb4
  go_wp2
  go_ret
  have B := HB.out.trans ((HB2.out.trans (HB4.out.mono HB2.out.size)).mono HB.out.size)
  exact ⟨rfl, F, HT.out.below B, .of_below B _, fun _ h => .inl h⟩
set_option maxRecDepth 100000 in
set_option maxHeartbeats 1600000 in
theorem one_3 {F : Nat → Prop} (h : Two w p q F d) (n : Int) (v : Value) (l : Nat) (f : Nat → Int) (hv : Rd .u8 w v l f) : Calls Try.prog 27 #[ptrTo p, ptrTo q, .agg #[.int .i64 3, .int .i64 n, v]] w fun e w' => e = .returned (.bool true) ∧ After w w' p q F (d.does 3 n l f) := by
  have HT := Lib.hid h
  have HV := Lib.hid hv
  obtain ⟨av, cv, rfl, _⟩ := hv
  clear h
  rw [show d.does 3 n l f = d.flush.1 from rfl]
  go_enter Try.func27, Try.ntmps27
  go_upto_region 1 with (fail)
  refine wp_world (fun w1 => DoAt w1 w.heap.size 3 n (.slice av l cv) ∧ Below w.heap.size w w1) ⟨⟨cell_of_row _ _ 0 _ _ (0, 0) (heap_alloc_new w _), cell_of_row _ _ 1 _ _ (0, 0) (heap_alloc_new w _), cell_of_row _ _ 2 _ _ (0, 0) (heap_alloc_new w _), by rw [World.size_alloc]; exact Nat.lt_succ_self _⟩, (Below.refl _ _).alloc (Nat.le_refl _) _⟩ ?_
  rintro w1 ⟨hD, hB⟩
  have HC0 : Hid (Chg (fun _ => False) w w1) := Chg.of_below hB _
  obtain ⟨vk, vn, vw, rk, rw, uk, ub, h1, h2, hfeet⟩ := HT.out.below hB
  have hs1 := hB.size
  have HV1 := Lib.hid (HV.out.below hB)
  have HB := Lib.hid hB
  have H1 := Lib.hid h1
  have H2 := Lib.hid h2
  have HFE := Lib.hid hfeet
  have hfd : Hid (∀ b, FD p vk vn vw b → b < w.heap.size) := fun b hb => HT.out.lt ((hfeet b).2 (.inl hb))
  have HD := Lib.hid hD
  have HNF : Hid (¬ FD p vk vn vw w.heap.size) := fun hb => by have := hfd.out _ hb; omega
  have d0 := hD.1
  have d1 := hD.2.1
  have d2 := hD.2.2.1
  clear h1 h2 hfeet hB hD
  go_wp2_with fail
  refine (dkFlush_any H1.out).mono ?_
  rintro e w2 ⟨rfl, vw', g1, g2, g3⟩
  have hn0 := Lib.hid H1.out.n0
  have g2' : Chg (FD p vk vn vw) w1 w2 := g2.mono fun b _ hb => hb.elim .inl fun h => .inr (.inl h)
  have R2 : Hid (RkAt w2 q rk rw uk ub d) := H2.out.stay g2' (fun b hb hb' => feet_apart H1.out H2.out hb' hb) (fun b hb => DkAt.noBytes H1.out hb)
  have G1 := Lib.hid g1
  have G2 := Lib.hid g2'
  have G3 := Lib.hid g3
  clear g1 g2 g2' g3
  go_wp2_with fail
  refine (rkFlush_any R2.out hn0.out).mono ?_
  rintro e w3 ⟨rfl, rw', ⟨uk', ub', k1⟩, k2, k3⟩
  have K1 := Lib.hid k1
  have K2 : Hid (Chg (FR q rk rw) w2 w3) := k2.mono fun b _ hb => hb.elim .inl fun h => .inr (.inl h)
  have K3 := Lib.hid k3
  clear k1 k2 k3
  go_wp2
  go_ret
  refine ⟨by first | rfl | simp, Two.step (w0 := w1) (w1 := w2) (w2 := w3) hs1 HC0.out HFE.out H2.out H1.out G1.out G2.out ?_ K1.out K2.out ?_⟩
  · rintro b (hb | hb | hb | hb)
    · exact .inl (.inl hb)
    · exact .inl (.inr (.inl hb))
    · exact .inl (.inr (.inr (.inl hb)))
    · rcases G3.out with rfl | rfl
      · exact .inl (.inr (.inr (.inr hb)))
      · cases hb
  · rintro b (hb | hb | hb)
    · exact .inl (.inl hb)
    · exact .inl (.inr (.inl hb))
    · rcases K3.out with rfl | rfl
      · exact .inl (.inr (.inr hb))
      · cases hb
set_option maxRecDepth 100000 in
set_option maxHeartbeats 1600000 in
theorem one_4 {F : Nat → Prop} (h : Two w p q F d) (n : Int) (v : Value) (l : Nat) (f : Nat → Int) (hv : Rd .u8 w v l f) (hn0 : -9223372036854775808 ≤ n) (hn1 : n ≤ 9223372036854775807) : Calls Try.prog 27 #[ptrTo p, ptrTo q, .agg #[.int .i64 4, .int .i64 n, v]] w fun e w' => e = .returned (.bool true) ∧ After w w' p q F (d.does 4 n l f) := by
  have HT := Lib.hid h
  have HV := Lib.hid hv
  obtain ⟨av, cv, rfl, _⟩ := hv
  clear h
  rw [show d.does 4 n l f = d.fused n from rfl]
  have HN0 := Lib.hid hn0
  have HN1 := Lib.hid hn1
  clear hn0 hn1
  go_enter Try.func27, Try.ntmps27
  go_upto_region 1 with (fail)
  refine wp_world (fun w1 => DoAt w1 w.heap.size 4 n (.slice av l cv) ∧ Below w.heap.size w w1) ⟨⟨cell_of_row _ _ 0 _ _ (0, 0) (heap_alloc_new w _), cell_of_row _ _ 1 _ _ (0, 0) (heap_alloc_new w _), cell_of_row _ _ 2 _ _ (0, 0) (heap_alloc_new w _), by rw [World.size_alloc]; exact Nat.lt_succ_self _⟩, (Below.refl _ _).alloc (Nat.le_refl _) _⟩ ?_
  rintro w1 ⟨hD, hB⟩
  have HC0 : Hid (Chg (fun _ => False) w w1) := Chg.of_below hB _
  obtain ⟨vk, vn, vw, rk, rw, uk, ub, h1, h2, hfeet⟩ := HT.out.below hB
  have hs1 := hB.size
  have HV1 := Lib.hid (HV.out.below hB)
  have HB := Lib.hid hB
  have H1 := Lib.hid h1
  have H2 := Lib.hid h2
  have HFE := Lib.hid hfeet
  have hfd : Hid (∀ b, FD p vk vn vw b → b < w.heap.size) := fun b hb => HT.out.lt ((hfeet b).2 (.inl hb))
  have HD := Lib.hid hD
  have HNF : Hid (¬ FD p vk vn vw w.heap.size) := fun hb => by have := hfd.out _ hb; omega
  have d0 := hD.1
  have d1 := hD.2.1
  have d2 := hD.2.2.1
  clear h1 h2 hfeet hB hD
  go_wp2_with fail
  refine (dkFuse_any H1.out n HN1.out).mono ?_
  rintro e w2 ⟨rfl, g1, g2⟩
  have g2' : Chg (FD p vk vn vw) w1 w2 := g2.mono fun b _ hb => .inl hb
  have R2 : Hid (RkAt w2 q rk rw uk ub d) := H2.out.stay g2' (fun b hb hb' => feet_apart H1.out H2.out hb' hb) (fun b hb => DkAt.noBytes H1.out hb)
  have e1 := (HD.out.chg g2' HNF.out).2.1
  have G1 := Lib.hid g1
  have G2 := Lib.hid g2'
  clear g1 g2 g2'
  go_wp2_with fail
  refine (rkFused_any R2.out n HN0.out HN1.out).mono ?_
  rintro e w3 ⟨rfl, k1, k2⟩
  have K1 := Lib.hid k1
  have K2 : Hid (Chg (FR q rk rw) w2 w3) := k2.mono fun b _ hb => .inl hb
  clear k1 k2
  go_wp2
  go_ret
  exact ⟨rfl, Two.step (w0 := w1) (w1 := w2) (w2 := w3) hs1 HC0.out HFE.out H2.out H1.out G1.out G2.out (fun b hb => .inl hb) K1.out K2.out (fun b hb => .inl hb)⟩
set_option maxRecDepth 100000 in
set_option maxHeartbeats 1600000 in
theorem one_5 {F : Nat → Prop} (h : Two w p q F d) (n : Int) (v : Value) (l : Nat) (f : Nat → Int) (hv : Rd .u8 w v l f) (hfar : 0 < l → ∀ b, v.ownBlock = some b → ¬ F b) (hch : ∀ i, i < l → 0 ≤ f i ∧ f i < 256) : Calls Try.prog 27 #[ptrTo p, ptrTo q, .agg #[.int .i64 5, .int .i64 n, v]] w fun e w' => e = .returned (.bool true) ∧ After w w' p q F (d.does 5 n l f) := by
  have HT := Lib.hid h
  have HV := Lib.hid hv
  obtain ⟨av, cv, rfl, _⟩ := hv
  clear h
  rw [show d.does 5 n l f = d.crash l f from rfl]
  have HF := Lib.hid hfar
  have HCH := Lib.hid hch
  clear hfar hch
  go_enter Try.func27, Try.ntmps27
  go_upto_region 1 with (fail)
  refine wp_world (fun w1 => DoAt w1 w.heap.size 5 n (.slice av l cv) ∧ Below w.heap.size w w1) ⟨⟨cell_of_row _ _ 0 _ _ (0, 0) (heap_alloc_new w _), cell_of_row _ _ 1 _ _ (0, 0) (heap_alloc_new w _), cell_of_row _ _ 2 _ _ (0, 0) (heap_alloc_new w _), by rw [World.size_alloc]; exact Nat.lt_succ_self _⟩, (Below.refl _ _).alloc (Nat.le_refl _) _⟩ ?_
  rintro w1 ⟨hD, hB⟩
  have HC0 : Hid (Chg (fun _ => False) w w1) := Chg.of_below hB _
  obtain ⟨vk, vn, vw, rk, rw, uk, ub, h1, h2, hfeet⟩ := HT.out.below hB
  have hs1 := hB.size
  have HV1 := Lib.hid (HV.out.below hB)
  have HB := Lib.hid hB
  have H1 := Lib.hid h1
  have H2 := Lib.hid h2
  have HFE := Lib.hid hfeet
  have hfd : Hid (∀ b, FD p vk vn vw b → b < w.heap.size) := fun b hb => HT.out.lt ((hfeet b).2 (.inl hb))
  have HD := Lib.hid hD
  have HNF : Hid (¬ FD p vk vn vw w.heap.size) := fun hb => by have := hfd.out _ hb; omega
  have d0 := hD.1
  have d1 := hD.2.1
  have d2 := hD.2.2.1
  clear h1 h2 hfeet hB hD
  have hq : Hid (0 < l → ∀ b, (Value.slice av l cv).ownBlock = some b → (b ≠ p ∧ vk.ownBlock ≠ some b) ∧ (b ≠ q ∧ rk.ownBlock ≠ some b)) := fun h0 b hb =>
    have hx := fun h => HF.out h0 b hb ((HFE.out b).2 h)
    ⟨⟨fun e => hx (.inl (.inl e)), fun e => hx (.inl (.inr (.inl e)))⟩, ⟨fun e => hx (.inr (.inl e)), fun e => hx (.inr (.inr (.inl e)))⟩⟩
  go_wp2_with fail
  refine (dkCrash_any H1.out _ l f HV1.out HCH.out (fun h0 b hb => (hq.out h0 b hb).1)).mono ?_
  rintro e w2 ⟨rfl, vn', g1, g2, g3⟩
  have hn0 := Lib.hid H1.out.n0
  have g2' : Chg (FD p vk vn vw) w1 w2 := g2.mono fun b _ hb => hb.elim .inl fun h => .inr (.inl h)
  have R2 : Hid (RkAt w2 q rk rw uk ub d) := H2.out.stay g2' (fun b hb hb' => feet_apart H1.out H2.out hb' hb) (fun b hb => DkAt.noBytes H1.out hb)
  have V2 : Hid (Rd .u8 w2 (.slice av l cv) l f) := HV1.out.chg0 g2' (fun h0 b hb hb' => HF.out h0 b hb ((HFE.out b).2 (.inl hb')))
  have e2 := (HD.out.chg g2' HNF.out).2.2.1
  have G1 := Lib.hid g1
  have G2 := Lib.hid g2'
  have G3 := Lib.hid g3
  clear g1 g2 g2' g3
  go_wp2_with fail
  refine (rkCrash_any R2.out hn0.out _ l f V2.out HCH.out (fun h0 b hb => (hq.out h0 b hb).2)).mono ?_
  rintro e w3 ⟨rfl, ⟨uk', k1⟩, k2⟩
  have K1 := Lib.hid k1
  have K2 : Hid (Chg (FR q rk rw) w2 w3) := k2.mono fun b _ hb => hb.elim .inl fun h => .inr (.inl h)
  clear k1 k2
  go_wp2
  go_ret
  refine ⟨rfl, Two.step (w0 := w1) (w1 := w2) (w2 := w3) hs1 HC0.out HFE.out H2.out H1.out G1.out G2.out ?_ K1.out K2.out ?_⟩
  · rintro b (hb | hb | hb | hb)
    · exact .inl (.inl hb)
    · exact .inl (.inr (.inl hb))
    · exact .inr (G3.out b hb)
    · cases hb
  · rintro b (hb | hb | hb)
    · exact .inl (.inl hb)
    · exact .inl (.inr (.inl hb))
    · cases hb
set_option maxRecDepth 100000 in
set_option maxHeartbeats 1600000 in
theorem one_0 {F : Nat → Prop} (h : Two w p q F d) (k n : Int) (v : Value) (l : Nat) (f : Nat → Int) (hv : Rd .u8 w v l f) (z1 : k ≠ 1) (z2 : k ≠ 2) (z3 : k ≠ 3) (z4 : k ≠ 4) (z5 : k ≠ 5) : Calls Try.prog 27 #[ptrTo p, ptrTo q, .agg #[.int .i64 k, .int .i64 n, v]] w fun e w' => e = .returned (.bool true) ∧ After w w' p q F (d.does k n l f) := by
  have HT := Lib.hid h
  have HV := Lib.hid hv
  obtain ⟨av, cv, rfl, _⟩ := hv
  clear h
  rw [show d.does k n l f = d by unfold Dsk.does; rw [if_neg z1, if_neg z3, if_neg z4, if_neg z5]]
  go_enter Try.func27, Try.ntmps27
  go_upto_region 1 with (fail)
  refine wp_world (fun w1 => DoAt w1 w.heap.size k n (.slice av l cv) ∧ Below w.heap.size w w1) ⟨⟨cell_of_row _ _ 0 _ _ (0, 0) (heap_alloc_new w _), cell_of_row _ _ 1 _ _ (0, 0) (heap_alloc_new w _), cell_of_row _ _ 2 _ _ (0, 0) (heap_alloc_new w _), by rw [World.size_alloc]; exact Nat.lt_succ_self _⟩, (Below.refl _ _).alloc (Nat.le_refl _) _⟩ ?_
  rintro w1 ⟨hD, hB⟩
  have HC0 : Hid (Chg (fun _ => False) w w1) := Chg.of_below hB _
  obtain ⟨vk, vn, vw, rk, rw, uk, ub, h1, h2, hfeet⟩ := HT.out.below hB
  have hs1 := hB.size
  have HV1 := Lib.hid (HV.out.below hB)
  have HB := Lib.hid hB
  have H1 := Lib.hid h1
  have H2 := Lib.hid h2
  have HFE := Lib.hid hfeet
  have hfd : Hid (∀ b, FD p vk vn vw b → b < w.heap.size) := fun b hb => HT.out.lt ((hfeet b).2 (.inl hb))
  have HD := Lib.hid hD
  have HNF : Hid (¬ FD p vk vn vw w.heap.size) := fun hb => by have := hfd.out _ hb; omega
  have d0 := hD.1
  have d1 := hD.2.1
  have d2 := hD.2.2.1
  clear h1 h2 hfeet hB hD
  go_wp2
  go_ret
  exact ⟨rfl, F, HT.out.below HB.out, .of_below HB.out _, fun _ h => .inl h⟩
theorem one_any {F : Nat → Prop} (h : Two w p q F d) (k n : Int) (v : Value) (l : Nat) (f : Nat → Int) (hv : Rd .u8 w v l f) (hfar : 0 < l → ∀ b, v.ownBlock = some b → ¬ F b) (hch : ∀ i, i < l → 0 ≤ f i ∧ f i < 256) (hn0 : -9223372036854775808 ≤ n) (hn1 : n ≤ 9223372036854775807) (hm : d.m < 1000000) : Calls Try.prog 27 #[ptrTo p, ptrTo q, .agg #[.int .i64 k, .int .i64 n, v]] w fun e w' => e = .returned (.bool true) ∧ After w w' p q F (d.does k n l f) := by
  by_cases z1 : k = 1
  · subst z1; exact one_1 h n v l f hv hfar hm
  · by_cases z2 : k = 2
    · subst z2; exact one_2 h n v l f hv
    · by_cases z3 : k = 3
      · subst z3; exact one_3 h n v l f hv
      · by_cases z4 : k = 4
        · subst z4; exact one_4 h n v l f hv hn0 hn1
        · by_cases z5 : k = 5
          · subst z5; exact one_5 h n v l f hv hfar hch
          · exact one_0 h k n v l f hv z1 z2 z3 z4 z5
end
end Go.Proofs.Ytlmdgmgbijfaoaa
