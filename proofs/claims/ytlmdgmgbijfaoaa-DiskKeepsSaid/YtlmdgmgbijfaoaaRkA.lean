/-
  The document's disk in memory: what it is, and the methods that are small. Conditions: named in each theorem.
-/
import Derived.Test.YtlmdgmgbijfaoaaDkI
set_option linter.unusedVariables false
set_option linter.unusedSimpArgs false
namespace Go.Proofs.Ytlmdgmgbijfaoaa
open Go.RowKit Go.Bas Go.ChangeShapes
attribute [local go_sem ↓] Go.wp_at_zero Go.wp_at_succ
theorem Try.info23 : (Try.prog.info? 23).map (fun i => (i.zero, i.size, i.bytes)) = some (some (.slice none 0 0), 1, 24) := by kernel_rfl
theorem Try.info181 : (Try.prog.info? 181).map (fun i => (i.zero, i.size, i.bytes)) = some (some (.agg #[.int .i64 0, .slice none 0 0]), 2, 32) := by kernel_rfl
/-- u is 64 bytes, in a block of bytes. -/
abbrev Byt (w : World) (u : Value) (f : Nat → Int) : Prop := OwM 5 1 w u 64 (fun j _ => .int .u8 (f j))
/-- a write's two cells. -/
def rwC (ps : Nat → Nat) (ub : Nat → Value) (j i : Nat) : Value := if i = 0 then .int .i64 (ps j) else ub j
/-- the document's disk d lies at block p. -/
structure RkAt (w : World) (p : Nat) (vk vw : Value) (uk ub : Nat → Value) (d : Dsk) : Prop where
  row : RowB w p 53 5
  ck : w.cell? ⟨p, 0, none⟩ = some vk
  cw : w.cell? ⟨p, 1, none⟩ = some vw
  cf : w.cell? ⟨p, 2, none⟩ = some (.int .i64 d.fuse)
  co : w.cell? ⟨p, 3, none⟩ = some (.bool d.off)
  cl : w.cell? ⟨p, 4, none⟩ = some (.int .i64 d.lives)
  kept : OwM 23 1 w vk d.n (fun j _ => uk j)
  wait : OwM 181 2 w vw d.m (rwC d.ps ub)
  kb : ∀ j, j < d.n → Byt w (uk j) (d.K j)
  wb : ∀ j, j < d.m → Byt w (ub j) (d.bs j)
  n1 : d.n ≤ 16384
  ps : ∀ j, j < d.m → d.ps j < d.n
  m1 : d.m ≤ 1000000
  f0 : -9223372036854775808 ≤ d.fuse
  f1 : d.fuse ≤ 9223372036854775807
  l0 : -9223372036854775808 ≤ d.lives
  l1 : d.lives ≤ 9223372036854775807
section
variable {w w' : World} {p : Nat} {vk vw : Value} {uk ub : Nat → Value} {d : Dsk}
theorem RkAt.keep {F : Nat → Prop} (h : RkAt w p vk vw uk ub d) (hc : Chg F w w') (hp : ¬ F p) (hk : ∀ b, vk.ownBlock = some b → ¬ F b) (hw : ∀ b, vw.ownBlock = some b → ¬ F b) (hu : ∀ b, RowB w b 5 0 ∨ True → (∃ m, RowB w b 5 m) → ¬ F b) : RkAt w' p vk vw uk ub d := by
  have o : ∀ i v, w.cell? ⟨p, i, none⟩ = some v → w'.cell? ⟨p, i, none⟩ = some v := fun i v hv => by rw [hc.cell (p := ⟨p, i, none⟩) h.row.lt hp]; exact hv
  have ob : ∀ {u : Value} {f : Nat → Int}, Byt w u f → Byt w' u f := fun {u f} hb => hb.chg hc fun b hb' => by
    obtain ⟨g, c, rfl, h1, _⟩ := hb.form (by decide)
    cases hb'
    exact hu g (.inr trivial) ⟨_, h1⟩
  exact ⟨h.row.heap (hc.block p h.row.lt hp), o 0 _ h.ck, o 1 _ h.cw, o 2 _ h.cf, o 3 _ h.co, o 4 _ h.cl, h.kept.chg hc hk, h.wait.chg hc hw, fun j hj => ob (h.kb j hj), fun j hj => ob (h.wb j hj), h.n1, h.ps, h.m1, h.f0, h.f1, h.l0, h.l1⟩
theorem RkAt.below (h : RkAt w p vk vw uk ub d) (hb : Below w.heap.size w w') : RkAt w' p vk vw uk ub d := h.keep (.of_below hb fun _ => False) id (fun _ _ => id) (fun _ _ => id) (fun _ _ _ => id)
theorem Byt.self {u : Value} {f : Nat → Int} (h : Byt w u f) (hrow : RowB w p 53 5) (hc : Chg (fun b => b = p) w w') : Byt w' u f := OwM.chg h hc (OwM.ne h hrow (by decide))
theorem RkAt.setF (h : RkAt w p vk vw uk ub d) (x : Int) (h0 : -9223372036854775808 ≤ x) (h1 : x ≤ 9223372036854775807) : RkAt (w.setCell ⟨p, 2, none⟩ (.int .i64 x)) p vk vw uk ub { d with fuse := x } := by
  have hc : Chg (fun b => b = p) w (w.setCell ⟨p, 2, none⟩ (.int .i64 x)) := .set _ _ _ _ rfl
  have o : ∀ i v, 2 ≠ i → w.cell? ⟨p, i, none⟩ = some v → (w.setCell ⟨p, 2, none⟩ (.int .i64 x)).cell? ⟨p, i, none⟩ = some v := fun i v hi hv => by rw [World.cell?_setCell_other (h := addr_ne hi)]; exact hv
  exact ⟨h.row.setCell _ rfl _, o 0 _ (by decide) h.ck, o 1 _ (by decide) h.cw, World.cell?_setCell_same _ _ _ h.cf, o 3 _ (by decide) h.co, o 4 _ (by decide) h.cl, h.kept.chg hc (h.kept.ne h.row (by decide)), h.wait.chg hc (h.wait.ne h.row (by decide)), fun j hj => Byt.self (h.kb j hj) h.row hc, fun j hj => Byt.self (h.wb j hj) h.row hc, h.n1, h.ps, h.m1, h0, h1, h.l0, h.l1⟩
theorem RkAt.setO (h : RkAt w p vk vw uk ub d) (x : Bool) : RkAt (w.setCell ⟨p, 3, none⟩ (.bool x)) p vk vw uk ub { d with off := x } := by
  have hc : Chg (fun b => b = p) w (w.setCell ⟨p, 3, none⟩ (.bool x)) := .set _ _ _ _ rfl
  have o : ∀ i v, 3 ≠ i → w.cell? ⟨p, i, none⟩ = some v → (w.setCell ⟨p, 3, none⟩ (.bool x)).cell? ⟨p, i, none⟩ = some v := fun i v hi hv => by rw [World.cell?_setCell_other (h := addr_ne hi)]; exact hv
  exact ⟨h.row.setCell _ rfl _, o 0 _ (by decide) h.ck, o 1 _ (by decide) h.cw, o 2 _ (by decide) h.cf, World.cell?_setCell_same _ _ _ h.co, o 4 _ (by decide) h.cl, h.kept.chg hc (h.kept.ne h.row (by decide)), h.wait.chg hc (h.wait.ne h.row (by decide)), fun j hj => Byt.self (h.kb j hj) h.row hc, fun j hj => Byt.self (h.wb j hj) h.row hc, h.n1, h.ps, h.m1, h.f0, h.f1, h.l0, h.l1⟩
theorem RkAt.setL (h : RkAt w p vk vw uk ub d) (x : Int) (h0 : -9223372036854775808 ≤ x) (h1 : x ≤ 9223372036854775807) : RkAt (w.setCell ⟨p, 4, none⟩ (.int .i64 x)) p vk vw uk ub { d with lives := x } := by
  have hc : Chg (fun b => b = p) w (w.setCell ⟨p, 4, none⟩ (.int .i64 x)) := .set _ _ _ _ rfl
  have o : ∀ i v, 4 ≠ i → w.cell? ⟨p, i, none⟩ = some v → (w.setCell ⟨p, 4, none⟩ (.int .i64 x)).cell? ⟨p, i, none⟩ = some v := fun i v hi hv => by rw [World.cell?_setCell_other (h := addr_ne hi)]; exact hv
  exact ⟨h.row.setCell _ rfl _, o 0 _ (by decide) h.ck, o 1 _ (by decide) h.cw, o 2 _ (by decide) h.cf, o 3 _ (by decide) h.co, World.cell?_setCell_same _ _ _ h.cl, h.kept.chg hc (h.kept.ne h.row (by decide)), h.wait.chg hc (h.wait.ne h.row (by decide)), fun j hj => Byt.self (h.kb j hj) h.row hc, fun j hj => Byt.self (h.wb j hj) h.row hc, h.n1, h.ps, h.m1, h.f0, h.f1, h0, h1⟩
theorem RkAt.setNil (h : RkAt w p vk vw uk ub d) : RkAt (w.setCell ⟨p, 1, none⟩ (.slice none 0 0)) p vk (.slice none 0 0) uk ub { d with m := 0 } := by
  have hc : Chg (fun b => b = p) w (w.setCell ⟨p, 1, none⟩ (.slice none 0 0)) := .set _ _ _ _ rfl
  have o : ∀ i v, 1 ≠ i → w.cell? ⟨p, i, none⟩ = some v → (w.setCell ⟨p, 1, none⟩ (.slice none 0 0)).cell? ⟨p, i, none⟩ = some v := fun i v hi hv => by rw [World.cell?_setCell_other (h := addr_ne hi)]; exact hv
  exact ⟨h.row.setCell _ rfl _, o 0 _ (by decide) h.ck, World.cell?_setCell_same _ _ _ h.cw, o 2 _ (by decide) h.cf, o 3 _ (by decide) h.co, o 4 _ (by decide) h.cl, h.kept.chg hc (h.kept.ne h.row (by decide)), OwM.nil _ _ _ _, fun j hj => Byt.self (h.kb j hj) h.row hc, fun j hj => absurd hj (Nat.not_lt_zero _), h.n1, fun j hj => absurd hj (Nat.not_lt_zero _), Nat.zero_le _, h.f0, h.f1, h.l0, h.l1⟩
set_option maxRecDepth 100000 in
theorem rkFused_any (h : RkAt w p vk vw uk ub d) (k : Int) (hk0 : -9223372036854775808 ≤ k) (hk : k ≤ 9223372036854775807) : Calls Try.prog 84 #[ptrTo p, .int .i64 k] w fun e w' => e = .returned (.tuple #[]) ∧ RkAt w' p vk vw uk ub (d.fused k) ∧ Chg (fun b => b = p) w w' := by
  have h1 := h.cf
  have r3 := h.row.free 2
  have HD := Lib.hid h
  have HK := Lib.hid hk
  have HK0 := Lib.hid hk0
  clear h hk hk0
  by_cases hlt : k < 0
  · have e1 : Hid (d.fused k = { d with fuse := -1 }) := Lib.hid (by unfold Dsk.fused; rw [if_pos hlt])
    go_enter Try.func84, Try.ntmps84
    go_wp2
    go_end0
    rw [e1.out]
    refine ⟨rfl, (HD.out.setF k HK0.out HK.out).setF (-1) (by decide) (by decide), (Chg.set (fun b => b = p) _ ⟨p, 2, none⟩ _ rfl).trans (Chg.set (fun b => b = p) _ ⟨p, 2, none⟩ _ rfl) (fun _ _ h => h)⟩
  · have e1 : Hid (d.fused k = { d with fuse := k }) := Lib.hid (by unfold Dsk.fused; rw [if_neg hlt])
    go_enter Try.func84, Try.ntmps84
    go_wp2
    go_end0
    rw [e1.out]
    exact ⟨rfl, HD.out.setF k HK0.out HK.out, Chg.set (fun b => b = p) _ ⟨p, 2, none⟩ _ rfl⟩
set_option maxRecDepth 100000 in
theorem rkBurn_any (h : RkAt w p vk vw uk ub d) (ho : d.off = false) : Calls Try.prog 115 #[ptrTo p] w fun e w' => e = .returned (.bool d.burn.off) ∧ RkAt w' p vk vw uk ub d.burn ∧ Chg (fun b => b = p) w w' := by
  have h1 := h.cf
  have h2 := h.co
  have r3 := h.row.free 2
  have r4 := h.row.free 3
  have HD := Lib.hid h
  have HO := Lib.hid ho
  by_cases hf : d.fuse < 0
  · have e1 : Hid (d.burn = d) := Dsk.burn_neg hf ho
    have hz : ¬ d.fuse = 0 := by omega
    have hz2 : ¬ (0 : Int) ≤ d.fuse := by omega
    clear h ho
    go_enter Try.func115, Try.ntmps115
    go_wp2
    go_ret
    rw [e1.out]
    exact ⟨rfl, HD.out, .refl _ _⟩
  · have hf0 := h.f0
    have hf1 := h.f1
    have hw : IntKind.i64.wrap (d.fuse - 1) = d.fuse - 1 := wrap_i64_id (by omega) (by omega)
    have HF0 := Lib.hid (show -1 ≤ d.fuse - 1 ∧ d.fuse - 1 ≤ 9223372036854775807 by omega)
    have hge : (0 : Int) ≤ d.fuse := by omega
    by_cases hz : d.fuse = 0
    · have e1 : Hid (d.burn = { d with off := true, fuse := -1 }) := Lib.hid (by unfold Dsk.burn; rw [if_neg hf, hz]; rfl)
      rw [hz] at h1 hw
      clear h ho hf0 hf1 hge HF0 hf
      go_enter Try.func115, Try.ntmps115
      go_wp2
      go_ret
      rw [e1.out]
      exact ⟨rfl, (HD.out.setO true).setF (-1) (by decide) (by decide), (Chg.set (fun b => b = p) _ ⟨p, 3, none⟩ _ rfl).trans (Chg.set (fun b => b = p) _ ⟨p, 2, none⟩ _ rfl) (fun _ _ h => h)⟩
    · have e1 : Hid (d.burn = { d with fuse := d.fuse - 1 }) := Lib.hid (by
        unfold Dsk.burn
        rw [if_neg hf, show (d.fuse == 0) = false by simpa using hz, ← ho])
      clear h hf0 hf1
      go_enter Try.func115, Try.ntmps115
      go_wp2
      go_ret
      rw [e1.out]
      exact ⟨by show _ = Ending.returned (.bool d.off); rw [HO.out]; rfl, HD.out.setF (d.fuse - 1) (by have := HF0.out; omega) HF0.out.2, Chg.set (fun b => b = p) _ ⟨p, 2, none⟩ _ rfl⟩
/-- what a sector reads as, from the last write back. -/
theorem nowR_step (K : Nat → Nat → Int) (ps : Nat → Nat) (bs : Nat → Nat → Int) (k j : Nat) : nowR K ps bs (j + 1) k = if ps j = k then bs j else nowR K ps bs j k := by
  rw [nowR]
  unfold putS
  by_cases h : k = ps j
  · rw [if_pos h, if_pos h.symm]
  · rw [if_neg h, if_neg (fun e => h e.symm)]
set_option maxRecDepth 100000 in
set_option maxHeartbeats 1600000 in
theorem rkAt_any (h : RkAt w p vk vw uk ub d) (k : Nat) (hk : k < d.n) : Calls Try.prog 86 #[ptrTo p, .int .i64 k] w fun e w' => ∃ u, e = .returned u ∧ Byt w u (d.now k) ∧ w' = w := by
  have HD := Lib.hid h
  have HKN := Lib.hid hk
  have c0 := h.ck
  have c1 := h.cw
  obtain ⟨aw, cw, rfl, hcw, hcw2⟩ := h.wait.slice
  obtain ⟨gk, ck, rfl, hrk0, hck, hck2, hck3⟩ := h.kept.form (by omega)
  have e0 : w.cell? ⟨gk, k, none⟩ = some (uk k) := by have := hck3 k hk 0 (by decide); simpa using this
  obtain ⟨ak, ckk, euk, _⟩ := (h.kb k hk).slice
  have HM1 := Lib.hid h.m1
  clear h hrk0 hck3
  go_enter Try.func86, Try.ntmps86
  go_wp2
  go_loop [5] (fun i => ∃ j : Nat, j ≤ d.m ∧ i = .int .i64 ((j : Int) - 1) ∧ d.now k = nowR d.K d.ps d.bs j k) (fun i => (intOf i + 1).toNat)
  case atStart => exact ⟨d.m, Nat.le_refl _, by first | rfl | (congr 1; have := HM1.out; omega), rfl⟩
  case round =>
    obtain ⟨j, hj, rfl, hnow⟩ := hrel
    cases j with
    | zero =>
      have hB := Lib.hid (HD.out.kb k HKN.out)
      have hN : Hid (d.now k = d.K k) := hnow
      have e9 : ((0 : Nat) : Int) - 1 = -1 := rfl
      rw [e9]
      have hkn : (k : Int) < d.n := by have := HKN.out; omega
      rw [euk] at e0 hB
      clear hnow hj e9
      go_wp2
      go_ret
      refine ⟨_, rfl, ?_, rfl⟩
      rw [hN.out]
      exact hB.out
    | succ j1 =>
      have e9 : ((j1 + 1 : Nat) : Int) - 1 = (j1 : Int) := by omega
      rw [e9]
      clear e9
      obtain ⟨gw, cw', ew, hrw, hw1, hw2, hcells⟩ := HD.out.wait.form (by omega)
      obtain ⟨rfl, rfl⟩ : aw = some ⟨gw, 0, none⟩ ∧ cw = cw' := by simp only [Value.slice.injEq] at ew; exact ⟨ew.1, ew.2.2⟩
      have d0 : w.cell? ⟨gw, j1 * 2, none⟩ = some (.int .i64 (d.ps j1)) := hcells j1 (by omega) 0 (by decide)
      have d1 : w.cell? ⟨gw, j1 * 2 + 1, none⟩ = some (ub j1) := hcells j1 (by omega) 1 (by decide)
      obtain ⟨ab, cb, eub, _⟩ := (HD.out.wb j1 (by omega)).slice
      have hB := Lib.hid (HD.out.wb j1 (by omega))
      rw [eub] at d1 hB
      rw [nowR_step] at hnow
      have hjm : (j1 : Int) < d.m := by omega
      clear hcells ew hrw
      by_cases hp : d.ps j1 = k
      · rw [if_pos hp] at hnow
        have hN := Lib.hid hnow
        rw [hp] at d0
        clear hnow
        go_wp2
        go_ret
        refine ⟨_, rfl, ?_, rfl⟩
        rw [hN.out]
        exact hB.out
      · rw [if_neg hp] at hnow
        have hN := Lib.hid hnow
        have hp' : ¬ ((d.ps j1 : Nat) : Int) = (k : Int) := by omega
        have hwr : IntKind.i64.wrap ((j1 : Int) - 1) = (j1 : Int) - 1 := wrap_i64_id (by omega) (by have := HM1.out; omega)
        clear hnow
        go_wp2
        go_round
        case rel => exact ⟨j1, by omega, by first | rfl | go_num, hN.out⟩
        case measure => first | (simp [intOf]; done) | (simp [intOf]; omega)
end
end Go.Proofs.Ytlmdgmgbijfaoaa
