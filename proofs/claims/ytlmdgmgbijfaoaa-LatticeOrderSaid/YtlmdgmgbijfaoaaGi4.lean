/-
  Graphs of ints: an edge. Conditions: named in each theorem.
-/
import Derived.Test.YtlmdgmgbijfaoaaGi3
set_option linter.unusedVariables false
set_option linter.unusedSimpArgs false
namespace Go.Proofs.Ytlmdgmgbijfaoaa
open Go.RowKit Go.Bas Go.ChangeShapes Go.Maps
attribute [local go_sem ↓] Go.wp_at_zero Go.wp_at_succ
/-- the graph of the edges E. -/
def GEI (B : Nat) (w : World) (p : Nat) (F : Nat → Prop) (E : List (Int × Int)) : Prop :=
  (∃ mb vn vo ov, GI B w p mb vn vo ov (nodesL E) (osL E) E.length ∧ ∀ b, F b ↔ GF p mb vn vo (osL E) ov b) ∧ ∀ x, x ∈ nodesL E → okI x
section
variable {B : Nat} {w w' : World} {p : Nat} {F : Nat → Prop} {E : List (Int × Int)}
theorem GEI.below (h : GEI B w p F E) (hb : Below w.heap.size w w') : GEI B w' p F E := by
  obtain ⟨⟨mb, vn, vo, ov, h1, h2⟩, h3⟩ := h
  exact ⟨⟨mb, vn, vo, ov, h1.below hb, h2⟩, h3⟩
theorem GEI.hi (h : GEI B w p F E) {b : Nat} (hb : F b) : B ≤ b := by
  obtain ⟨⟨mb, vn, vo, ov, h1, h2⟩, h3⟩ := h
  exact h1.hi b ((h2 b).1 hb)
theorem newGEI_any (w : World) : Calls Try.prog 88 #[] w fun e w' => ∃ p F, e = .returned (.pointer (some ⟨p, 0, none⟩)) ∧ GEI w.heap.size w' p F [] ∧ Below w.heap.size w w' := by
  refine (newI_any w).mono ?_
  rintro e w' ⟨p, mb, rfl, h1, h2⟩
  exact ⟨p, _, rfl, ⟨⟨mb, _, _, _, h1, fun b => Iff.rfl⟩, fun x hx => by simp [nodesL] at hx⟩, h2⟩
set_option maxRecDepth 100000 in
theorem lenI_any (h : GEI B w p F E) : Calls Try.prog 42 #[.pointer (some ⟨p, 0, none⟩)] w fun e w' => e = .returned (.tuple #[natV (nodesL E).length, natV E.length]) ∧ Below w.heap.size w w' := by
  obtain ⟨⟨mb, vn, vo, ov, h1, _⟩, _⟩ := h
  have HI := Lib.hid (isI_any h1)
  have c1 := h1.row.c1
  have c3 := h1.row.c3
  obtain ⟨an, cn, rfl, _⟩ := h1.nodes.slice
  clear h1
  go_enter Try.func42, Try.ntmps42
  go_wp2_with fail
  refine HI.out.mono ?_
  rintro e w' ⟨rfl, rfl⟩
  go_wp2
  go_quiet (fail)
  go_wp2
  go_ret2
  exact ⟨rfl, Go.Bas.below_drewN (Below.refl _ _) _⟩
set_option maxRecDepth 100000 in
set_option maxHeartbeats 1600000 in
theorem edgeI_any (h : GEI B w p F E) (hB : B ≤ w.heap.size) (x y : Int) (hx : okI x) (hy : okI y) (hE : E.length ≤ 1000) : Calls Try.prog 40 #[.pointer (some ⟨p, 0, none⟩), kvI x, kvI y] w fun e w' => e = .returned (.int .i64 0) ∧ ∃ F', GEI B w' p F' (addE E (x, y)) ∧ Chg F w w' ∧ ∀ b, F' b → F b ∨ w.heap.size ≤ b := by
  obtain ⟨⟨mb, vn, vo, ov, h1, hF⟩, hok⟩ := h
  have HG := Lib.hid h1
  have HFF := Lib.hid hF
  have HOK := Lib.hid hok
  have HX := Lib.hid hx
  have HY := Lib.hid hy
  have HE := Lib.hid hE
  have HBB := Lib.hid hB
  have HI := Lib.hid (isI_any h1)
  clear h1 hF hok hx hy hE hB
  by_cases hin : (x, y) ∈ E
  · rw [show addE E (x, y) = E from if_pos hin]
    have HIN := Lib.hid hin
    clear hin
    go_enter Try.func40, Try.ntmps40
    go_wp2_with fail
    refine HI.out.mono ?_
    rintro e w' ⟨rfl, rfl⟩
    go_wp2_with fail
    refine (hasI_any HG.out x y HX.out HY.out).mono ?_
    rintro e w' ⟨b, rfl, hb, rfl⟩
    rw [hasG_iff] at hb
    obtain rfl : b = true := hb.2 HIN.out
    clear hb
    go_wp2
    go_ret
    exact ⟨rfl, F, ⟨⟨mb, vn, vo, ov, HG.out, HFF.out⟩, HOK.out⟩, .refl _ _, fun b hb => .inl hb⟩
  · rw [show addE E (x, y) = E ++ [(x, y)] from if_neg hin]
    have HIN := Lib.hid hin
    clear hin
    go_enter Try.func40, Try.ntmps40
    go_wp2_with fail
    refine HI.out.mono ?_
    rintro e w' ⟨rfl, rfl⟩
    go_wp2_with fail
    refine (hasI_any HG.out x y HX.out HY.out).mono ?_
    rintro e w' ⟨b, rfl, hb, rfl⟩
    rw [hasG_iff] at hb
    obtain rfl : b = false := by
      cases b with
      | false => rfl
      | true => exact absurd (hb.1 rfl) HIN.out
    have c1 := HG.out.row.c1
    have c3 := HG.out.row.c3
    obtain ⟨an, cn, en, _⟩ := HG.out.nodes.slice
    have HEN := Lib.hid en
    rw [en] at c1
    have dn : Hid (∀ n, GI B (w'.drewN n) p mb vn vo ov (nodesL E) (osL E) E.length) := fun n => HG.out.below (Go.Bas.below_drewN (Below.refl _ _) n)
    have hnl := nodesL_len E
    have hnw := newG_le (nodesL E) x y
    have hfr : ∀ n, Calls Try.prog 94 #[.pointer (some ⟨p, 0, none⟩), kvI x, kvI y] (w'.drewN n) fun e w'' => e = .returned (.int .i64 (newG (nodesL E) x y)) ∧ w'' = w'.drewN n := fun n => freshI_any (dn.out n) x y HX.out HY.out
    have HNL := Lib.hid hnl
    obtain ⟨nw, hNW⟩ : ∃ nw, nw = newG (nodesL E) x y := ⟨_, rfl⟩
    obtain ⟨n0, hN0⟩ : ∃ n0, n0 = (nodesL E).length := ⟨_, rfl⟩
    obtain ⟨e0, hE0⟩ : ∃ e0, e0 = E.length := ⟨_, rfl⟩
    rw [← hNW] at hfr hnw
    rw [← hN0] at c1 hnl
    have hE1 := HE.out
    rw [← hE0] at c3 hnl hE1
    have HFR := Lib.hid hfr
    have hlim : ¬ (65536 : Int) < (n0 : Int) + nw := by omega
    have hlim2 : ¬ (65536 : Int) ≤ (e0 : Int) := by omega
    have hwr : IntKind.i64.wrap ((n0 : Int) + nw) = (n0 : Int) + nw := wrap_i64_id (by omega) (by omega)
    clear en hnl hnw hb hfr hE1 hNW hN0 hE0
    go_wp2
    go_quiet (first | exact Calls.quiet_of_same (HFR.out _))
    rw [decide_eq_false (show ¬ (65536 : Int) < (n0 : Int) + nw by omega), decide_eq_false (show ¬ (65536 : Int) ≤ (e0 : Int) by omega)]
    clear hwr hlim hlim2
    go_wp2_with fail
    refine (nodeI_any (dn.out _) HBB.out x HX.out (by have := HNL.out; have := HE.out; omega)).mono ?_
    rintro e w1 ⟨rfl, vn1, vo1, ov1, os1, g1, ch1, ft1, hos1⟩
    have hb1 : B ≤ w1.heap.size := Nat.le_trans HBB.out ch1.size
    obtain ⟨ho1, hn1, hp1⟩ := osW_addN (nodesL_nodup E) (List.prefix_refl _) x os1 hos1
    have HL1 := addN_len (nodesL E) x
    have G1 := Lib.hid g1
    have CH1 := Lib.hid ch1
    have FT1 := Lib.hid ft1
    have HO1 := Lib.hid ho1
    have HN1 := Lib.hid hn1
    have HP1 := Lib.hid hp1
    have HB1 := Lib.hid hb1
    have HLL := Lib.hid (show (addN (nodesL E) x).length < 1000000 by have := HNL.out; have := HE.out; omega)
    clear g1 ch1 ft1 ho1 hn1 hp1 hb1 hos1 HL1
    go_wp2_with fail
    refine (nodeI_any G1.out HB1.out y HY.out HLL.out).mono ?_
    rintro e w2 ⟨rfl, vn2, vo2, ov2, os2, g2, ch2, ft2, hos2⟩
    rw [HO1.out] at hos2
    obtain ⟨ho2, hn2, hp2⟩ := osW_addN HN1.out HP1.out y os2 hos2
    rw [ho2] at g2
    have hx2 : x ∈ addN (addN (nodesL E) x) y := mem_addN.2 (.inl (mem_addN.2 (.inr rfl)))
    have hy2 : y ∈ addN (addN (nodesL E) x) y := mem_addN.2 (.inr rfl)
    have hA : plc (addN (nodesL E) x) x = plc (addN (addN (nodesL E) x) y) x := (plc_prefix hn2 (addN_prefix _ _) (mem_addN.2 (.inr rfl))).symm
    have ND : Hid (addN (addN (nodesL E) x) y = nodesL (E ++ [(x, y)])) := Lib.hid (nodesL_snoc E (x, y)).symm
    rw [hA]
    rw [ND.out] at g2 hx2 hy2 hn2 ⊢
    obtain ⟨nd2, hnd2⟩ : ∃ nd2, nd2 = nodesL (E ++ [(x, y)]) := ⟨_, rfl⟩
    rw [← hnd2] at g2 hx2 hy2 hn2 ⊢
    have HND := Lib.hid hnd2
    obtain ⟨A, hAA⟩ : ∃ A, A = plc nd2 x := ⟨_, rfl⟩
    obtain ⟨M, hMM⟩ : ∃ M, M = plc nd2 y := ⟨_, rfl⟩
    have hml : (osW nd2 E)[A]? = some ((tgt E x).map (plc nd2)) := by rw [hAA]; exact osW_at (plc_get hx2)
    have HLINK : Hid ((osW nd2 E).set A ((tgt E x).map (plc nd2) ++ [M]) = osL (E ++ [(x, y)])) := by
      rw [hAA, hMM]
      unfold osL
      rw [← hnd2]
      exact osW_link hn2 hx2
    have hM : M < nd2.length := by rw [hMM]; exact plc_lt hy2
    rw [← hAA, ← hMM]
    have hlx : ((tgt E x).map (plc nd2)).length ≤ 1000 := by rw [List.length_map]; exact Nat.le_trans (tgt_len E x) HE.out
    obtain ⟨l, hl⟩ : ∃ l, l = (tgt E x).map (plc nd2) := ⟨_, rfl⟩
    rw [← hl] at hml HLINK hlx
    have HOS2 : Hid (os2 = osW nd2 E) := by rw [hnd2, ← ND.out]; exact ho2
    have G2 := Lib.hid g2
    have CH2 := Lib.hid ch2
    have FT2 := Lib.hid ft2
    have HML := Lib.hid hml
    have HM := Lib.hid hM
    have HLX := Lib.hid hlx
    have hAl : A < (osW nd2 E).length := (List.getElem?_eq_some_iff.1 hml).1
    have HAL := Lib.hid hAl
    obtain ⟨gg, cg, eg, hrg, hcg, hcg2, hcell⟩ := g2.out.form (by omega)
    have hz := hcell A hAl 0 (by decide)
    rw [show A * 1 + 0 = A by omega] at hz
    have HZ := Lib.hid hz
    have HRG := Lib.hid hrg
    have c2 := g2.row.c2
    have LI := Lib.hid (g2.lists A l hml)
    obtain ⟨al, cl, el, _⟩ := LI.out.slice
    have HEL := Lib.hid el
    rw [eg] at c2
    have HC2 := Lib.hid c2
    have HEG := Lib.hid eg
    clear g2 ch2 ft2 hos2 ho2 hn2 hp2 hx2 hy2 hA hnd2 hAA hMM hml hM hlx hl hAl hcell hz hrg c2 el eg c1 c3
    go_upto_region 9 with (fail)
    apply region_earlyJ' (n := 66) (fun w5 => w5.cell? ⟨p, 2, none⟩ = some (.slice (some ⟨gg, 0, none⟩) (osW nd2 E).length cg) ∧ w5.cell? ⟨gg, A, none⟩ = some (ov2 A)) [.e, .e, .e, .e, .e, .e, .e, .e, .e, .e, .e, .e, .e, .c, .c, .e, .c] 2 (by kernel_rfl) (by kernel_rfl) (by kernel_rfl) rfl
    · exact ⟨HC2.out, HZ.out⟩
    · rintro w5 ⟨e2, e3⟩
      rw [HEL.out] at e3
      have h9 : (A : Int) < (osW nd2 E).length := by have := HAL.out; omega
      simp only [selBy, Cl.isE, cond_true, cond_false]
      repeat still_step
      exact wpStill_nil rfl
    · intro w5
      simp only [selBy, Cl.isF, cond_true, cond_false]
      repeat still_step
      exact wpStill_nil rfl
    · simp only [selBy, Cl.isC, cond_true, cond_false]
      refine chJ_step ⟨HC2.out, HZ.out⟩ (fun K hK => ?_)
      rw [if_pos (wanted_none rfl)]
      have b7 : Below w2.heap.size w2 (w2.drew.alloc (.cells #[.int .i64 (M : Int)] 3)) := ((Below.refl _ _).drew).alloc (Nat.le_refl _) _
      refine wp_buildS 56 3 1 _ rfl Try.underlying56 #[.int .i64 (M : Int)] (by kernel_rfl) (hK _ _ ⟨(b7.cell (p := ⟨p, 2, none⟩) G2.out.row.row.lt).trans HC2.out, (b7.cell (p := ⟨gg, A, none⟩) HRG.out.lt).trans HZ.out⟩ ?_)
      clear hK K
      have hl7 : OwM 3 1 w2.drew (.slice al l.length cl) l.length (lv natV l) := HEL.out ▸ LI.out.below ((Below.refl _ _).drew)
      refine chJ_step ⟨(b7.cell (p := ⟨p, 2, none⟩) G2.out.row.row.lt).trans HC2.out, (b7.cell (p := ⟨gg, A, none⟩) HRG.out.lt).trans HZ.out⟩ (fun K hK => ?_)
      rw [if_pos (wanted_none rfl)]
      refine wp_append_m _ _ rfl rfl (hl7.alloc _) (by decide) Try.underlying56 Try.info3 rfl w2.drew.heap.size 0 1 1 rfl (fun _ _ => .int .i64 (M : Int)) (fun j' hj' i hi => ⟨?_, rfl⟩) (by have := HLX.out; unfold maxLen; omega) (by have := HLX.out; omega) ?_
      · obtain rfl : j' = 0 := by omega
        obtain rfl : i = 0 := by omega
        rw [cell_of_row _ _ _ _ _ (0, 0) (heap_alloc_new w2.drew _)]
        rfl
      · intro v4 w4 hown hgrow hpl
        have C4 : Chg (fun b => (ov2 A).ownBlock = some b) w2 w4 := (Chg.of_below b7 _).trans (Chg.of_grown hgrow fun b hb => by rw [HEL.out]; exact hb) fun _ _ h => h
        have R4 := G2.out.row.chg C4 (fun e => LI.out.heap_ne G2.out.row.row (by decide) e)
        have hG4 := HRG.out.heap (C4.block gg HRG.out.lt fun e => LI.out.heap_ne HRG.out (by decide) e)
        have e3 : w4.cell? ⟨gg, A, none⟩ = some (ov2 A) := (C4.cell (p := ⟨gg, A, none⟩) HRG.out.lt fun e => LI.out.heap_ne HRG.out (by decide) e).trans HZ.out
        refine hK _ _ ⟨by have := R4.c2; rw [HEG.out] at this; exact this, e3⟩ (chJ_zero ?_)
        clear hK K
        rw [HEL.out] at e3
        have f3 := hG4.free A
        have O4 := G2.out.out.chg C4 (fun b hb e => LI.out.apartT G2.out.out (by decide) e hb)
        rw [HEG.out] at O4
        have O5 := O4.set A 0 HAL.out (by decide) v4
        rw [show A * 1 + 0 = A by omega] at O5
        have c5 : Chg (fun b => b = gg) w4 (w4.setCell ⟨gg, A, none⟩ v4) := .set _ _ _ _ rfl
        have hpg : ¬ p = gg := fun e => absurd (R4.row.type (e ▸ hG4)) (by decide)
        have R5 := Lib.hid (R4.chg c5 hpg)
        have LV5 := Lib.hid ((hown.snoc rfl : OwM 3 1 w4 v4 (l ++ [M]).length (lv natV (l ++ [M]))).chg c5 (fun b hb e => by
          obtain ⟨m9, hr9⟩ := hown.rowOf hb
          exact absurd ((e ▸ hr9).type hG4) (by decide)))
        have PV : Hid (∀ b, v4.ownBlock = some b → (ov2 A).ownBlock = some b ∨ w2.heap.size ≤ b) := fun b hb => by
          rw [HEL.out]
          rcases hpl with h | h
          · exact .inl (h ▸ hb)
          · have h1 := h b hb
            rw [World.size_alloc] at h1
            exact .inr (by have h2 : w2.drew.heap.size = w2.heap.size := rfl; omega)
        have O5 := Lib.hid (O5.congr (q' := fun j _ => if j = A then v4 else ov2 j) fun j hj i hi => by
          obtain rfl : i = 0 := by omega
          by_cases e : j = A
          · rw [if_pos ⟨e, rfl⟩, if_pos e]
          · rw [if_neg (fun h => e h.1), if_neg e])
        have C45 := Lib.hid ((C4.mono fun _ _ h => .inr (.inr h)).trans (c5.mono (G := fun b => b = p ∨ vo2.ownBlock = some b ∨ (ov2 A).ownBlock = some b) fun b _ h => .inr (.inl (by rw [HEG.out, h]; rfl))) fun _ _ h => h)
        obtain ⟨a4, q4, rfl, _⟩ := hown.slice
        have h9 : (A : Int) < (osW nd2 E).length := by have := HAL.out; omega
        clear C4 R4 hG4 O4 c5 hpg hown hgrow hpl b7 hl7
        go_wp2
        refine onlyN ?_
        have k3 := R5.out.c3
        have f4 := R5.out.row.free 3
        have hwr : IntKind.i64.wrap ((E.length : Int) + 1) = (E.length : Int) + 1 := wrap_i64_id (by omega) (by have := HE.out; omega)
        have HWR : ((E.length : Int) + 1) = ((E.length + 1 : Nat) : Int) := by omega
        have R6 := Lib.hid (R5.out.set3 (E.length + 1))
        have c6 : Chg (fun b => b = p) (w4.setCell ⟨gg, A, none⟩ (.slice a4 (l.length + 1) q4)) ((w4.setCell ⟨gg, A, none⟩ (.slice a4 (l.length + 1) q4)).setCell ⟨p, 3, none⟩ (natV (E.length + 1))) := .set _ _ _ _ rfl
        have LV6 := Lib.hid (LV5.out.chg c6 fun b hb e => by
          obtain ⟨m9, hr9⟩ := LV5.out.rowOf hb
          exact absurd ((e ▸ hr9).type R5.out.row) (by decide))
        have O6 := Lib.hid (O5.out.chg c6 fun b hb e => by
          obtain ⟨m9, hr9⟩ := O5.out.rowOf hb
          exact absurd ((e ▸ hr9).type R5.out.row) (by decide))
        have CH6 := Lib.hid (C45.out.trans (c6.mono fun _ _ h => .inl h) fun _ _ h => h)
        have FIN := Lib.hid (G2.out.link (Nat.le_trans HB1.out CH2.out.size) HML.out HM.out (by have := HLX.out; omega) (by have := HE.out; omega) R6.out (by rw [HEG.out]; exact O6.out) LV6.out CH6.out PV.out (by decide) (by decide) (by decide) (by decide))
        rw [HLINK.out, HND.out] at FIN
        have CH7 := Lib.hid (((CH1.out.mono fun b _ h => (HFF.out b).2 h).trans (CH2.out.mono (G := fun b => F b ∨ w'.heap.size ≤ b) fun b _ h => (FT1.out b h).imp (HFF.out b).2 id) fun b hb h => h.resolve_right (by have h2 : (w'.drewN nq).heap.size = w'.heap.size := rfl; omega)).trans (CH6.out.mono (G := fun b => F b ∨ w'.heap.size ≤ b) fun b _ h => by
          have h3 : GF p mb vn2 vo2 os2 ov2 b := by
            rcases h with h | h | h
            · exact .inl h
            · exact .inr (.inr (.inr (.inl h)))
            · exact .inr (.inr (.inr (.inr ⟨A, by rw [HOS2.out]; exact HAL.out, h⟩)))
          rcases FT2.out b h3 with h4 | h4
          · exact (FT1.out b h4).imp (HFF.out b).2 id
          · exact .inr (Nat.le_trans CH1.out.size h4)) fun b hb h => h.resolve_right (by have h2 : (w'.drewN nq).heap.size = w'.heap.size := rfl; omega))
        have FEET : Hid (∀ b, GF p mb vn2 vo2 (osL (E ++ [(x, y)])) (fun j => if j = A then .slice a4 (l.length + 1) q4 else ov2 j) b → F b ∨ w'.heap.size ≤ b) := fun b hb => by
          have h3 : GF p mb vn2 vo2 os2 ov2 b ∨ w2.heap.size ≤ b := by
            rcases hb with h | h | h | h | ⟨j, hj, h⟩
            · exact .inl (.inl h)
            · exact .inl (.inr (.inl h))
            · exact .inl (.inr (.inr (.inl h)))
            · exact .inl (.inr (.inr (.inr (.inl h))))
            · rw [← HLINK.out, List.length_set] at hj
              dsimp only at h
              by_cases hja : j = A
              · rw [if_pos hja] at h
                exact (PV.out b h).imp (fun h => .inr (.inr (.inr (.inr ⟨A, by rw [HOS2.out]; exact HAL.out, h⟩)))) id
              · rw [if_neg hja] at h
                exact .inl (.inr (.inr (.inr (.inr ⟨j, by rw [HOS2.out]; exact hj, h⟩))))
          rcases h3 with h3 | h3
          · rcases FT2.out b h3 with h4 | h4
            · exact (FT1.out b h4).imp (HFF.out b).2 id
            · exact .inr (Nat.le_trans CH1.out.size h4)
          · exact .inr (Nat.le_trans CH1.out.size (Nat.le_trans CH2.out.size h3))
        have OKS : Hid (∀ z, z ∈ nodesL (E ++ [(x, y)]) → okI z) := fun z hz => by
          rw [nodesL_snoc, mem_addN, mem_addN] at hz
          rcases hz with (h | h) | h
          · exact HOK.out z h
          · exact h ▸ HX.out
          · exact h ▸ HY.out
        have e9 : natV (E.length + 1) = .int .i64 ((E.length : Int) + 1) := congrArg (Value.int .i64) (by omega)
        have FIN2 : Hid (GI B ((w4.setCell ⟨gg, A, none⟩ (.slice a4 (l.length + 1) q4)).setCell ⟨p, 3, none⟩ (.int .i64 ((E.length : Int) + 1))) p mb vn2 vo2 (fun j => if j = A then .slice a4 (l.length + 1) q4 else ov2 j) (nodesL (E ++ [(x, y)])) (osL (E ++ [(x, y)])) (E ++ [(x, y)]).length) := by
          rw [← e9, List.length_append, List.length_singleton]
          exact FIN.out
        have CH8 : Hid (Chg F w' ((w4.setCell ⟨gg, A, none⟩ (.slice a4 (l.length + 1) q4)).setCell ⟨p, 3, none⟩ (.int .i64 ((E.length : Int) + 1)))) := by
          rw [← e9]
          exact ⟨CH7.out.os, CH7.out.tape, CH7.out.output, CH7.out.size, fun b hb hn => CH7.out.block b hb hn⟩
        clear e9 HWR c6
        go_wp2
        go_ret
        exact ⟨rfl, _, ⟨⟨mb, _, _, _, FIN2.out, fun b => Iff.rfl⟩, OKS.out⟩, CH8.out, FEET.out⟩
end
end Go.Proofs.Ytlmdgmgbijfaoaa
