/-
  The disk's fuse, sizes, reading. Conditions: named in each theorem.
-/
import Derived.Test.YtlmdgmgbijfaoaaDkA
import Derived.Great.Walk
set_option linter.unusedVariables false
set_option linter.unusedSimpArgs false
namespace Go.Bas
open Go.RowKit
theorem OwM.ne {w : World} {e e' : TypeId} {c n p m : Nat} {v : Value} {q : Nat → Nat → Value} (h : OwM e c w v n q) (hp : RowB w p e' m) (hne : e ≠ e') : ∀ b, v.ownBlock = some b → b ≠ p := by
  intro b hb
  rcases h with ⟨rfl, _⟩ | ⟨g, cap, rfl, h1, _⟩
  · cases hb
  · cases hb; exact h1.ne hp hne
theorem OwM.neO {w : World} {e e' : TypeId} {c c' n n' : Nat} {v u : Value} {q q' : Nat → Nat → Value} (h : OwM e c w v n q) (h' : OwM e' c' w u n' q') (hne : e ≠ e') : ∀ b, v.ownBlock = some b → some b ≠ u.ownBlock := by
  intro b hb he
  rcases h' with ⟨rfl, _⟩ | ⟨g, cap, rfl, h1, _⟩
  · cases he
  · exact h.ne h1 hne b hb (by simpa [Value.ownBlock] using he)
theorem addr_ne {p i j : Nat} (h : i ≠ j) : (⟨p, i, none⟩ : Addr) ≠ ⟨p, j, none⟩ := fun e => h (by cases e; rfl)
end Go.Bas
namespace Go.Proofs.Ytlmdgmgbijfaoaa
open Go.RowKit Go.Bas Go.ChangeShapes
attribute [local go_sem ↓] Go.wp_at_zero Go.wp_at_succ
section
variable {w w' : World} {p : Nat} {vk vn vw : Value} {d : Dsk} {N : Nat → Nat → Int}
theorem DkR.listsK (h : DkR w p vk vn vw d N) (hc : Chg (fun b => b = p) w w') : OwM 137 64 w' vk d.n (fun j i => .int .u8 (d.K j i)) := h.kept.chg hc (h.kept.ne h.row (by decide))
theorem DkR.listsN (h : DkR w p vk vn vw d N) (hc : Chg (fun b => b = p) w w') : OwM 137 64 w' vn d.n (fun j i => .int .u8 (N j i)) := h.now.chg hc (h.now.ne h.row (by decide))
theorem DkR.listsW (h : DkR w p vk vn vw d N) (hc : Chg (fun b => b = p) w w') : OwM 139 65 w' vw d.m (wtC d.ps d.bs) := h.wait.chg hc (h.wait.ne h.row (by decide))
theorem DkR.setF (h : DkR w p vk vn vw d N) (x : Int) (h0 : -1 ≤ x) (h1 : x ≤ 9223372036854775807) : DkR (w.setCell ⟨p, 3, none⟩ (.int .i64 x)) p vk vn vw { d with fuse := x } N := by
  have hc : Chg (fun b => b = p) w (w.setCell ⟨p, 3, none⟩ (.int .i64 x)) := .set _ _ _ _ rfl
  have o : ∀ i v, 3 ≠ i → w.cell? ⟨p, i, none⟩ = some v → (w.setCell ⟨p, 3, none⟩ (.int .i64 x)).cell? ⟨p, i, none⟩ = some v := fun i v hi hv => by rw [World.cell?_setCell_other (h := addr_ne hi)]; exact hv
  exact ⟨h.row.setCell _ rfl _, o 0 _ (by decide) h.ck, o 1 _ (by decide) h.cn, o 2 _ (by decide) h.cw, World.cell?_setCell_same _ _ _ h.cf, o 4 _ (by decide) h.co, o 5 _ (by decide) h.cl, h.listsK hc, h.listsN hc, h.listsW hc, h.apart, h.n0, h.n1, h.ps, h.m1, h0, h1, h.l0, h.l1⟩
theorem DkR.setO (h : DkR w p vk vn vw d N) (x : Bool) : DkR (w.setCell ⟨p, 4, none⟩ (.bool x)) p vk vn vw { d with off := x } N := by
  have hc : Chg (fun b => b = p) w (w.setCell ⟨p, 4, none⟩ (.bool x)) := .set _ _ _ _ rfl
  have o : ∀ i v, 4 ≠ i → w.cell? ⟨p, i, none⟩ = some v → (w.setCell ⟨p, 4, none⟩ (.bool x)).cell? ⟨p, i, none⟩ = some v := fun i v hi hv => by rw [World.cell?_setCell_other (h := addr_ne hi)]; exact hv
  exact ⟨h.row.setCell _ rfl _, o 0 _ (by decide) h.ck, o 1 _ (by decide) h.cn, o 2 _ (by decide) h.cw, o 3 _ (by decide) h.cf, World.cell?_setCell_same _ _ _ h.co, o 5 _ (by decide) h.cl, h.listsK hc, h.listsN hc, h.listsW hc, h.apart, h.n0, h.n1, h.ps, h.m1, h.f0, h.f1, h.l0, h.l1⟩
theorem DkR.setL (h : DkR w p vk vn vw d N) (x : Int) (h0 : -9223372036854775808 ≤ x) (h1 : x ≤ 9223372036854775807) : DkR (w.setCell ⟨p, 5, none⟩ (.int .i64 x)) p vk vn vw { d with lives := x } N := by
  have hc : Chg (fun b => b = p) w (w.setCell ⟨p, 5, none⟩ (.int .i64 x)) := .set _ _ _ _ rfl
  have o : ∀ i v, 5 ≠ i → w.cell? ⟨p, i, none⟩ = some v → (w.setCell ⟨p, 5, none⟩ (.int .i64 x)).cell? ⟨p, i, none⟩ = some v := fun i v hi hv => by rw [World.cell?_setCell_other (h := addr_ne hi)]; exact hv
  exact ⟨h.row.setCell _ rfl _, o 0 _ (by decide) h.ck, o 1 _ (by decide) h.cn, o 2 _ (by decide) h.cw, o 3 _ (by decide) h.cf, o 4 _ (by decide) h.co, World.cell?_setCell_same _ _ _ h.cl, h.listsK hc, h.listsN hc, h.listsW hc, h.apart, h.n0, h.n1, h.ps, h.m1, h.f0, h.f1, h0, h1⟩
/-- what lies elsewhere, and is only read, stands. -/
theorem DkR.keep {F : Nat → Prop} (h : DkR w p vk vn vw d N) (hc : Chg F w w') (hp : ¬ F p) (hk : ∀ b, vk.ownBlock = some b → ¬ F b) (hn : ∀ b, vn.ownBlock = some b → ¬ F b) (hw : ∀ b, vw.ownBlock = some b → ¬ F b) : DkR w' p vk vn vw d N := by
  have o : ∀ i v, w.cell? ⟨p, i, none⟩ = some v → w'.cell? ⟨p, i, none⟩ = some v := fun i v hv => by rw [hc.cell (p := ⟨p, i, none⟩) h.row.lt hp]; exact hv
  exact ⟨h.row.heap (hc.block p h.row.lt hp), o 0 _ h.ck, o 1 _ h.cn, o 2 _ h.cw, o 3 _ h.cf, o 4 _ h.co, o 5 _ h.cl, h.kept.chg hc hk, h.now.chg hc hn, h.wait.chg hc hw, h.apart, h.n0, h.n1, h.ps, h.m1, h.f0, h.f1, h.l0, h.l1⟩
theorem DkR.below (h : DkR w p vk vn vw d N) (hb : Below w.heap.size w w') : DkR w' p vk vn vw d N := h.keep (.of_below hb fun _ => False) id (fun _ _ => id) (fun _ _ => id) (fun _ _ => id)
set_option maxRecDepth 100000 in
theorem dkSize_any (h : DkR w p vk vn vw d N) : Calls Try.prog 25 #[ptrTo p] w fun e w' => e = .returned (.int .i64 d.n) ∧ w' = w := by
  have HI := Lib.hid (dkIs_any h)
  have h1 := h.cn
  obtain ⟨g, cap, rfl, _⟩ := h.now.form h.n0
  clear h
  go_enter Try.func25, Try.ntmps25
  go_wp2_with fail
  refine HI.out.mono ?_
  rintro e w' ⟨rfl, rfl⟩
  go_wp2
  go_ret
  exact ⟨rfl, rfl⟩
set_option maxRecDepth 100000 in
theorem dkWaiting_any (h : DkR w p vk vn vw d N) : Calls Try.prog 21 #[ptrTo p] w fun e w' => e = .returned (.int .i64 d.m) ∧ w' = w := by
  have HI := Lib.hid (dkIs_any h)
  have h1 := h.cw
  obtain ⟨a, cap, rfl, _⟩ := h.wait.slice
  clear h
  go_enter Try.func21, Try.ntmps21
  go_wp2_with fail
  refine HI.out.mono ?_
  rintro e w' ⟨rfl, rfl⟩
  go_wp2
  go_ret
  exact ⟨rfl, rfl⟩
set_option maxRecDepth 100000 in
theorem dkLives_any (h : DkR w p vk vn vw d N) : Calls Try.prog 31 #[ptrTo p] w fun e w' => e = .returned (.int .i64 d.lives) ∧ w' = w := by
  have HI := Lib.hid (dkIs_any h)
  have h1 := h.cl
  clear h
  go_enter Try.func31, Try.ntmps31
  go_wp2_with fail
  refine HI.out.mono ?_
  rintro e w' ⟨rfl, rfl⟩
  go_wp2
  go_ret
  exact ⟨rfl, rfl⟩
set_option maxRecDepth 100000 in
theorem dkOff_any (h : DkR w p vk vn vw d N) : Calls Try.prog 32 #[ptrTo p] w fun e w' => e = .returned (.bool d.off) ∧ w' = w := by
  have HI := Lib.hid (dkIs_any h)
  have h1 := h.co
  clear h
  go_enter Try.func32, Try.ntmps32
  go_wp2_with fail
  refine HI.out.mono ?_
  rintro e w' ⟨rfl, rfl⟩
  go_wp2
  go_ret
  exact ⟨rfl, rfl⟩
theorem Dsk.burn_neg {d : Dsk} (h : d.fuse < 0) (ho : d.off = false) : d.burn = d := by
  unfold Dsk.burn
  rw [if_pos h]
  cases d
  simp only at ho
  rw [ho]
set_option maxRecDepth 100000 in
theorem dkBurn_any (h : DkR w p vk vn vw d N) (ho : d.off = false) : Calls Try.prog 78 #[ptrTo p] w fun e w' => e = .returned (.bool d.burn.off) ∧ DkR w' p vk vn vw d.burn N ∧ Chg (fun b => b = p) w w' := by
  have h1 := h.cf
  have h2 := h.co
  have r3 := h.row.free 3
  have r4 := h.row.free 4
  have HD := Lib.hid h
  have HO := Lib.hid ho
  by_cases hf : d.fuse < 0
  · have e1 : Hid (d.burn = d) := Dsk.burn_neg hf ho
    clear h ho
    go_enter Try.func78, Try.ntmps78
    go_wp2
    go_ret
    rw [e1.out]
    exact ⟨by rw [HO.out]; rfl, HD.out, .refl _ _⟩
  · have hf0 := h.f0
    have hf1 := h.f1
    have hw : IntKind.i64.wrap (d.fuse - 1) = d.fuse - 1 := wrap_i64_id (by omega) (by omega)
    have e1 : Hid (d.burn = { d with off := d.fuse == 0, fuse := d.fuse - 1 }) := by unfold Dsk.burn; exact if_neg hf
    have HF0 := Lib.hid (show -1 ≤ d.fuse - 1 ∧ d.fuse - 1 ≤ 9223372036854775807 by omega)
    clear h ho hf0 hf1
    go_enter Try.func78, Try.ntmps78
    go_wp2
    go_ret
    rw [e1.out]
    refine ⟨rfl, ?_, ?_⟩
    · have := (HD.out.setO (d.fuse == 0)).setF (d.fuse - 1) HF0.out.1 HF0.out.2
      exact this
    · exact (Chg.set (fun b => b = p) _ _ _ rfl).trans (Chg.set (fun b => b = p) _ _ _ rfl) (fun _ _ h => h)
set_option maxRecDepth 100000 in
theorem dkFuse_any (h : DkR w p vk vn vw d N) (k : Int) (hk : k ≤ 9223372036854775807) : Calls Try.prog 33 #[ptrTo p, .int .i64 k] w fun e w' => e = .returned (.tuple #[]) ∧ DkR w' p vk vn vw (d.fused k) N ∧ Chg (fun b => b = p) w w' := by
  have HI := Lib.hid (dkIs_any h)
  have h1 := h.cf
  have r3 := h.row.free 3
  have HD := Lib.hid h
  have HK := Lib.hid hk
  clear h hk
  go_enter Try.func33, Try.ntmps33
  go_wp2_with fail
  refine HI.out.mono ?_
  rintro e w' ⟨rfl, rfl⟩
  go_wp2
  go_end0
  refine ⟨rfl, ?_, .set _ _ _ _ rfl⟩
  have e1 : (if k < 0 then -1 else k) = max k (-1) := by omega
  unfold Dsk.fused
  rw [e1]
  have := HD.out.setF (max k (-1)) (by omega) (by have := HK.out; omega)
  exact this
end
end Go.Proofs.Ytlmdgmgbijfaoaa
