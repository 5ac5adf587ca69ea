/-
  The document's disk: reading and writing. Conditions: named in each theorem.
-/
import Derived.Test.YtlmdgmgbijfaoaaRkA
set_option linter.unusedVariables false
set_option linter.unusedSimpArgs false
namespace Go.Proofs.Ytlmdgmgbijfaoaa
open Go.RowKit Go.Bas Go.ChangeShapes
attribute [local go_sem ↓] Go.wp_at_zero Go.wp_at_succ
section
variable {w w' : World} {p : Nat} {vk vw : Value} {uk ub : Nat → Value} {d : Dsk}
theorem may_cases (d : Dsk) (k : Int) : (d.off = true ∧ d.may k = 30) ∨ (d.off = false ∧ k < 0 ∧ d.may k = 31) ∨ (d.off = false ∧ 0 ≤ k ∧ (d.n : Int) ≤ k ∧ d.may k = 31) ∨ (d.off = false ∧ 0 ≤ k ∧ k < d.n ∧ d.may k = 0) := by
  unfold Dsk.may
  by_cases h : d.off = true
  · exact .inl ⟨h, by rw [if_pos h]⟩
  · have h' : d.off = false := by simpa using h
    by_cases h1 : k < 0
    · exact .inr (.inl ⟨h', h1, by rw [if_neg h, if_pos (.inl h1)]⟩)
    · by_cases h2 : (d.n : Int) ≤ k
      · exact .inr (.inr (.inl ⟨h', by omega, h2, by rw [if_neg h, if_pos (.inr h2)]⟩))
      · exact .inr (.inr (.inr ⟨h', by omega, by omega, by rw [if_neg h, if_neg (by omega)]⟩))
set_option maxRecDepth 100000 in
theorem rkRead_no (h : RkAt w p vk vw uk ub d) (k : Int) (hm : d.may k ≠ 0) : Calls Try.prog 82 #[ptrTo p, .int .i64 k] w fun e w' => e = .returned (.tuple #[.slice none 0 0, .int .i64 (d.may k)]) ∧ w' = w := by
  have c0 := h.ck
  have c3 := h.co
  obtain ⟨ak, ck, rfl, _⟩ := h.kept.slice
  clear h
  rcases may_cases d k with ⟨h1, h2⟩ | ⟨h1, h3, h2⟩ | ⟨h1, h3, h4, h2⟩ | ⟨_, _, _, h2⟩
  · rw [h1] at c3
    rw [h2]
    clear hm h2
    go_enter Try.func82, Try.ntmps82
    go_wp2
    go_ret2
    exact ⟨rfl, rfl⟩
  · rw [h1] at c3
    rw [h2]
    clear hm h2
    go_enter Try.func82, Try.ntmps82
    go_wp2
    go_ret2
    exact ⟨rfl, rfl⟩
  · rw [h1] at c3
    rw [h2]
    have h5 : ¬ k < 0 := by omega
    clear hm h2
    go_enter Try.func82, Try.ntmps82
    go_wp2
    go_ret2
    exact ⟨rfl, rfl⟩
  · exact absurd h2 hm
set_option maxRecDepth 100000 in
theorem rkRead_yes (h : RkAt w p vk vw uk ub d) (k : Int) (hm : d.may k = 0) : Calls Try.prog 82 #[ptrTo p, .int .i64 k] w fun e w' => ∃ u, e = .returned (.tuple #[u, .int .i64 0]) ∧ Byt w u (d.now k.toNat) ∧ w' = w := by
  obtain ⟨ho, hk0, hk1⟩ := may_zero hm
  obtain ⟨j, rfl⟩ := Int.eq_ofNat_of_zero_le hk0
  have HA := Lib.hid (rkAt_any h j (by omega))
  have c0 := h.ck
  have c3 := h.co
  rw [ho] at c3
  obtain ⟨ak, ck, rfl, _⟩ := h.kept.slice
  have h4 : ¬ (d.n : Int) ≤ (j : Int) := by omega
  rw [show ((j : Int)).toNat = j from rfl]
  clear h hm hk0 ho
  go_enter Try.func82, Try.ntmps82
  go_wp2_with fail
  refine HA.out.mono ?_
  rintro e w' ⟨u, rfl, hu, rfl⟩
  have HU := Lib.hid hu
  clear hu
  go_wp2
  go_ret2
  exact ⟨_, rfl, HU.out, rfl⟩
theorem RkAt.grownRow (h : RkAt w p vk vw uk ub d) (hg : w.grownBy w' vw.ownBlock) : (∀ i v, w.cell? ⟨p, i, none⟩ = some v → w'.cell? ⟨p, i, none⟩ = some v) ∧ RowB w' p 53 5 := by
  have hb : w'.heap[p]? = w.heap[p]? := hg.block p h.row.lt fun e => h.wait.ne h.row (by decide) p e.symm rfl
  exact ⟨fun i v hv => by rw [World.cell?_of_block hb]; exact hv, h.row.heap hb⟩
theorem RkAt.pushed (h : RkAt w p vk vw uk ub d) (j : Nat) (f : Nat → Int) (u : Value) (hj : j < d.n) (hm : d.m < 1000000) (hu : Byt w u f) (hg : w.grownBy w' vw.ownBlock) {v' : Value} (hown : OwM 181 2 w' v' (d.m + 1) (catM d.m (rwC d.ps ub) fun _ i => if i = 0 then .int .i64 j else u)) :
    RkAt (w'.setCell ⟨p, 1, none⟩ v') p vk v' uk (fun i => if i = d.m then u else ub i) (d.add j f) := by
  obtain ⟨hc0, hrow⟩ := h.grownRow hg
  have hc : Chg (fun b => b = p) w' (w'.setCell ⟨p, 1, none⟩ v') := .set _ _ _ _ rfl
  have o : ∀ i v, 1 ≠ i → w.cell? ⟨p, i, none⟩ = some v → (w'.setCell ⟨p, 1, none⟩ v').cell? ⟨p, i, none⟩ = some v := fun i v hi hv => by rw [World.cell?_setCell_other (h := addr_ne hi)]; exact hc0 i v hv
  have hk := h.kept.grown hg (h.kept.neO h.wait (by decide))
  have hb : ∀ {u : Value} {f : Nat → Int}, Byt w u f → Byt (w'.setCell ⟨p, 1, none⟩ v') u f := fun {u f} hy => by
    have h1 : Byt w' u f := OwM.grown hy hg (OwM.neO hy h.wait (by decide))
    exact Byt.self h1 hrow hc
  refine ⟨hrow.setCell _ rfl _, o 0 _ (by decide) h.ck, World.cell?_setCell_same _ _ _ (hc0 1 _ h.cw), o 2 _ (by decide) h.cf, o 3 _ (by decide) h.co, o 4 _ (by decide) h.cl, hk.chg hc (hk.ne hrow (by decide)), (hown.congr fun i hi c hc' => ?_).chg hc (hown.ne hrow (by decide)), fun i hi => hb (h.kb i hi), fun i hi => ?_, h.n1, fun i hi => ?_, hm, h.f0, h.f1, h.l0, h.l1⟩
  · unfold rwC Dsk.add
    dsimp only
    by_cases hlt : i < d.m
    · rw [catM_lo hlt, if_neg (show i ≠ d.m by omega), if_neg (show i ≠ d.m by omega)]
    · obtain rfl : i = d.m := by omega
      rw [catM_at, if_pos rfl, if_pos rfl]
  · show Byt _ (if i = d.m then u else ub i) (if i = d.m then f else d.bs i)
    by_cases he : i = d.m
    · rw [if_pos he, if_pos he]; exact hb hu
    · rw [if_neg he, if_neg he]; exact hb (h.wb i (by have : i < d.m + 1 := hi; omega))
  · show (if i = d.m then j else d.ps i) < d.n
    split
    · exact hj
    · exact h.ps i (by have : i < d.m + 1 := hi; omega)
set_option maxRecDepth 100000 in
theorem rkWrite_no (h : RkAt w p vk vw uk ub d) (k : Int) (v : Value) (hm : d.may k ≠ 0) : Calls Try.prog 81 #[ptrTo p, .int .i64 k, v] w fun e w' => e = .returned (.int .i64 (d.may k)) ∧ w' = w := by
  have c0 := h.ck
  have c3 := h.co
  obtain ⟨ak, ck, rfl, _⟩ := h.kept.slice
  clear h
  rcases may_cases d k with ⟨h1, h2⟩ | ⟨h1, h3, h2⟩ | ⟨h1, h3, h4, h2⟩ | ⟨_, _, _, h2⟩
  · rw [h1] at c3
    rw [h2]
    clear hm h2
    go_enter Try.func81, Try.ntmps81
    go_wp2
    go_ret
    exact ⟨rfl, rfl⟩
  · rw [h1] at c3
    rw [h2]
    clear hm h2
    go_enter Try.func81, Try.ntmps81
    go_wp2
    go_ret
    exact ⟨rfl, rfl⟩
  · rw [h1] at c3
    rw [h2]
    have h5 : ¬ k < 0 := by omega
    clear hm h2
    go_enter Try.func81, Try.ntmps81
    go_wp2
    go_ret
    exact ⟨rfl, rfl⟩
  · exact absurd h2 hm
set_option maxRecDepth 100000 in
theorem rkWrite_len (h : RkAt w p vk vw uk ub d) (k : Int) (v : Value) (l : Nat) (f : Nat → Int) (hv : Rd .u8 w v l f) (hl : l ≠ 64) (hm : d.may k = 0) : Calls Try.prog 81 #[ptrTo p, .int .i64 k, v] w fun e w' => e = .returned (.int .i64 2) ∧ w' = w := by
  obtain ⟨ho, hk0, hk1⟩ := may_zero hm
  have c0 := h.ck
  have c3 := h.co
  rw [ho] at c3
  obtain ⟨ak, ck, rfl, _⟩ := h.kept.slice
  obtain ⟨a, c, rfl, _⟩ := hv
  have h4 : ¬ (d.n : Int) ≤ k := by omega
  have h5 : ¬ k < 0 := by omega
  have hl' : ¬ (l : Int) = 64 := by omega
  clear h hm hk0 ho hl
  go_enter Try.func81, Try.ntmps81
  go_wp2
  go_ret
  exact ⟨rfl, rfl⟩
set_option maxRecDepth 100000 in
set_option maxHeartbeats 3200000 in
theorem rkWrite_yes (h : RkAt w p vk vw uk ub d) (k : Int) (v : Value) (f : Nat → Int) (hv : Rd .u8 w v 64 f) (hm : d.may k = 0) (hm1 : d.m < 1000000) : Calls Try.prog 81 #[ptrTo p, .int .i64 k, v] w fun e w' => e = .returned (.int .i64 (powE (d.add k.toNat f).burn.off)) ∧
    ∃ vw' ub', RkAt w' p vk vw' uk ub' (d.add k.toNat f).burn ∧ Chg (fun b => b = p ∨ vw.ownBlock = some b) w w' ∧ Placed w vw vw' := by
  obtain ⟨ho, hk0, hk1⟩ := may_zero hm
  obtain ⟨j, rfl⟩ := Int.eq_ofNat_of_zero_le hk0
  rw [show ((j : Int)).toNat = j from rfl]
  have hj : j < d.n := by omega
  have HD := Lib.hid h
  have HO := Lib.hid ho
  have HM1 := Lib.hid hm1
  have c0 := h.ck
  have c3 := h.co
  rw [ho] at c3
  obtain ⟨ak, ck, rfl, _⟩ := h.kept.slice
  obtain ⟨aw, capw, rfl, hcw, hcw2⟩ := h.wait.slice
  have h4 : ¬ (d.n : Int) ≤ (j : Int) := by omega
  obtain ⟨a, cv, rfl, hcv, hcv2, _, hcell⟩ := hv
  obtain ⟨bb, ov, rfl, hbl, hcell⟩ := hcell (by decide)
  have HV := Lib.hid hcell
  have HBL := Lib.hid hbl
  clear h hm hk0 hk1 ho hcell hm1 hbl
  go_enter Try.func81, Try.ntmps81
  go_upto_region 7 with (fail)
  apply region_early' (n := 41) [.f, .e, .e, .e, .e, .e, .c, .e, .c, .c, .c, .c, .f, .f, .c] 4 (by kernel_rfl) (by kernel_rfl) (by kernel_rfl) rfl
  · intro w5 hB
    have c1 := (HD.out.below hB).cw
    simp only [selBy, Cl.isE, cond_true, cond_false]
    repeat still_step
    exact wpStill_nil rfl
  · intro w5
    simp only [selBy, Cl.isF, cond_true, cond_false]
    repeat still_step
    exact wpStill_nil rfl
  · simp only [selBy, Cl.isC, cond_true, cond_false]
    refine chW_step ((Below.refl _ _).drew) (fun K hK => ?_)
    go_simp
    obtain ⟨W1, hW1⟩ : ∃ x, x = (w.alloc (.cells #[] 5)).drew := ⟨_, rfl⟩
    have B1 : Below w.heap.size w W1 := by rw [hW1]; exact ((Below.refl _ _).alloc (Nat.le_refl _) _).drew
    have hE : OwM 5 1 W1 (.slice (some ⟨w.heap.size, 0, none⟩) 0 0) 0 (fun _ _ => undef) := by rw [hW1]; exact (OwM.empty w _ _ _).below ((Below.refl _ _).drew)
    rw [← hW1]
    clear hW1
    refine hK _ _ B1 ?_
    clear hK K
    refine chW_step B1 (fun K hK => ?_)
    rw [if_pos (wanted_none rfl)]
    refine wp_append_m _ _ rfl rfl hE (by decide) Try.underlying23 Try.info5 rfl bb ov cv 64 rfl (fun i _ => .int .u8 (f i)) (fun i hi c hc => ⟨?_, rfl⟩) (by unfold maxLen; omega) (by decide) ?_
    · obtain rfl : c = 0 := by omega
      rw [B1.cell (p := ⟨bb, ov + (i * 1 + 0), none⟩) HBL.out, Nat.mul_one, Nat.add_zero]
      exact HV.out i hi
    · intro u w2 hu hgu hpu
      have B2 : Below w.heap.size w w2 := B1.grown hgu B1.size fun b hb => by cases hb; exact Nat.le_refl _
      have hU : Byt w2 u f := hu.congr fun i hi c hc => by unfold catM; rw [if_neg (by omega)]; rfl
      refine hK _ _ B2 ?_
      clear hK K hu hgu hpu hE
      obtain ⟨au, cu, eu, _⟩ := hU.slice
      subst eu
      refine chW_step B2 (fun K hK => ?_)
      go_simp
      refine hK _ _ B2 ?_
      clear hK K
      refine chW_step B2 (fun K hK => ?_)
      rw [if_pos (wanted_none rfl)]
      refine wp_buildS 51 181 1 _ rfl Try.underlying51 (rowV 2 (fun i => if i = 0 then .int .i64 j else .slice au 64 cu)) (by kernel_rfl) (hK _ _ (B2.alloc B2.size _) (chW_zero ?_))
      clear hK K
      obtain ⟨W3, hW3⟩ : ∃ x, x = w2.alloc (.cells (rowV 2 (fun i => if i = 0 then .int .i64 j else .slice au 64 cu)) 181) := ⟨_, rfl⟩
      have B3 : Below w.heap.size w W3 := by rw [hW3]; exact B2.alloc B2.size _
      have HD3 := Lib.hid (HD.out.below B3)
      have hU3 : Byt W3 (.slice au 64 cu) f := by rw [hW3]; exact OwM.alloc hU _
      have hrow3 : ∀ i, i < 2 → W3.cell? ⟨w2.heap.size, i, none⟩ = some (if i = 0 then .int .i64 j else .slice au 64 cu) := by rw [hW3]; exact RowN.new.2
      rw [← hW3]
      clear hW3
      refine wpList_append_m rfl _ _ rfl rfl HD3.out.wait (by decide) Try.underlying51 Try.info181 rfl w2.heap.size 0 1 1 rfl (fun _ i => if i = 0 then .int .i64 j else .slice au 64 cu) (fun j' hj' i hi => ⟨?_, by split <;> rfl⟩) (by have := HM1.out; unfold maxLen; omega) (by have := HM1.out; omega) ?_
      · obtain rfl : j' = 0 := by omega
        rw [show 0 + (0 * 2 + i) = i by omega]
        exact hrow3 i hi
      · intro v' w4 hown hgrow hplaced
        obtain ⟨hc0, hrow⟩ := HD3.out.grownRow hgrow
        have c1 := hc0 1 _ HD3.out.cw
        have r1 := hrow.free 1
        have HP := Lib.hid (HD3.out.pushed j f (.slice au 64 cu) hj HM1.out hU3 hgrow hown)
        have hC := ((Chg.of_below B3 (fun b => b = p ∨ (Value.slice aw d.m capw).ownBlock = some b)).trans (.of_grown hgrow (fun b hb => .inr hb)) (fun _ _ h => h)).trans (.set (fun b => b = p ∨ (Value.slice aw d.m capw).ownBlock = some b) _ ⟨p, 1, none⟩ v' (.inl rfl)) (fun _ _ h => h)
        have HC := Lib.hid hC
        have HPL : Hid (Placed w (.slice aw d.m capw) v') := by
          rcases hplaced with h | h
          · exact .inl h
          · exact .inr fun b hb => by have h1 := h b hb; have h2 := B3.size; omega
        obtain ⟨a', c', rfl, _⟩ := hown.slice
        clear hc0 hrow hC hown hgrow hplaced hrow3 hU3 hU B1 B2 B3 HD3
        go_wp2
        refine onlyN ?_
        go_wp2_with fail
        refine (rkBurn_any HP.out HO.out).mono ?_
        rintro e w6 ⟨rfl, hb1, hb2⟩
        have HB1 := Lib.hid hb1
        have HC6 := Lib.hid (HC.out.trans hb2 (fun b _ h => .inl h))
        clear hb1 hb2
        cases hoff : (d.add j f).burn.off with
        | true =>
          go_wp2
          go_ret
          exact ⟨by first | rfl | (rw [hoff]; rfl), _, _, HB1.out, HC6.out, HPL.out⟩
        | false =>
          go_wp2
          go_ret
          exact ⟨by first | rfl | (rw [hoff]; rfl), _, _, HB1.out, HC6.out, HPL.out⟩
end
end Go.Proofs.Ytlmdgmgbijfaoaa
