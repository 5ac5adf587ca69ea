/-
  The law of disks: both disks in memory, the program's and the document's; each deed does the same to both. Conditions: named in each theorem.
-/
import Derived.Test.YtlmdgmgbijfaoaaRkD
import Derived.Test.YtlmdgmgbijfaoaaSame
set_option linter.unusedVariables false
set_option linter.unusedSimpArgs false
namespace Go.Bas
open Go.RowKit
variable {d : Dsk}
/-- what a deed makes of a disk. -/
def Dsk.does (d : Dsk) (k n : Int) (l : Nat) (f : Nat → Int) : Dsk :=
  if k = 1 then (d.write n l f).1 else if k = 3 then d.flush.1 else if k = 4 then d.fused n else if k = 5 then d.crash l f else d
theorem Dsk.burn_n : d.burn.n = d.n := by unfold Dsk.burn; split <;> rfl
theorem Dsk.burn_m : d.burn.m = d.m := by unfold Dsk.burn; split <;> rfl
theorem Dsk.write_n (n : Int) (l : Nat) (f : Nat → Int) : (d.write n l f).1.n = d.n ∧ (d.write n l f).1.m ≤ d.m + 1 := by
  unfold Dsk.write
  split
  · exact ⟨rfl, Nat.le_succ _⟩
  · split
    · exact ⟨rfl, Nat.le_succ _⟩
    · refine ⟨Dsk.burn_n, ?_⟩
      show (Dsk.burn _).m ≤ _
      rw [Dsk.burn_m]
      exact Nat.le_refl _
theorem Dsk.flush_n : d.flush.1.n = d.n ∧ d.flush.1.m ≤ d.m := by
  unfold Dsk.flush
  split
  · exact ⟨rfl, Nat.le_refl _⟩
  · split
    · exact ⟨Dsk.burn_n, Nat.le_of_eq Dsk.burn_m⟩
    · exact ⟨Dsk.burn_n, Nat.zero_le _⟩
theorem Dsk.does_n (k n : Int) (l : Nat) (f : Nat → Int) : (d.does k n l f).n = d.n ∧ (d.does k n l f).m ≤ d.m + 1 := by
  unfold Dsk.does
  split
  · exact Dsk.write_n _ _ _
  · split
    · exact ⟨Dsk.flush_n.1, Nat.le_succ_of_le Dsk.flush_n.2⟩
    · split
      · exact ⟨rfl, Nat.le_succ _⟩
      · split
        · exact ⟨rfl, Nat.zero_le _⟩
        · exact ⟨rfl, Nat.le_succ _⟩
end Go.Bas
namespace Go.Proofs.Ytlmdgmgbijfaoaa
open Go.RowKit Go.Bas Go.ChangeShapes
attribute [local go_sem ↓] Go.wp_at_zero Go.wp_at_succ
section
variable {w w' : World} {p q : Nat} {vk vn vw rk rw : Value} {uk ub : Nat → Value} {d : Dsk}
/-- what the program's disk writes in. -/
def FD (p : Nat) (vk vn vw : Value) (b : Nat) : Prop := b = p ∨ vk.ownBlock = some b ∨ vn.ownBlock = some b ∨ vw.ownBlock = some b
/-- what the document's disk writes in. -/
def FR (q : Nat) (rk rw : Value) (b : Nat) : Prop := b = q ∨ rk.ownBlock = some b ∨ rw.ownBlock = some b
theorem RowB.same {g m m' : Nat} {e e' : TypeId} (h : RowB w g e m) (h' : RowB w g e' m') : e = e' := by
  by_cases he : e = e'
  · exact he
  · exact absurd rfl (h.ne h' he)
theorem OwM.row {e : TypeId} {c n b : Nat} {v : Value} {f : Nat → Nat → Value} (h : OwM e c w v n f) (hb : v.ownBlock = some b) : ∃ m, RowB w b e m := by
  rcases h with ⟨rfl, _⟩ | ⟨g, cap, rfl, h1, _⟩
  · cases hb
  · cases hb; exact ⟨_, h1⟩
theorem DkAt.feet (h : DkAt w p vk vn vw d) {b : Nat} (hb : FD p vk vn vw b) : (∃ m, RowB w b 134 m) ∨ (∃ m, RowB w b 137 m) ∨ ∃ m, RowB w b 139 m := by
  rcases hb with rfl | hb | hb | hb
  · exact .inl ⟨_, h.row⟩
  · exact .inr (.inl (OwM.row h.kept hb))
  · exact .inr (.inl (OwM.row h.now hb))
  · exact .inr (.inr (OwM.row h.wait hb))
theorem RkAt.feet (h : RkAt w q rk rw uk ub d) {b : Nat} (hb : FR q rk rw b) : (∃ m, RowB w b 53 m) ∨ (∃ m, RowB w b 23 m) ∨ ∃ m, RowB w b 181 m := by
  rcases hb with rfl | hb | hb
  · exact .inl ⟨_, h.row⟩
  · exact .inr (.inl (OwM.row h.kept hb))
  · exact .inr (.inr (OwM.row h.wait hb))
theorem DkAt.noBytes (h : DkAt w p vk vn vw d) {b : Nat} (hb : FD p vk vn vw b) : ¬ ∃ m, RowB w b 5 m := by
  rintro ⟨m, hm⟩
  rcases h.feet hb with ⟨_, h⟩ | ⟨_, h⟩ | ⟨_, h⟩ <;> exact absurd (RowB.same h hm) (by decide)
theorem RkAt.noBytes (h : RkAt w q rk rw uk ub d) {b : Nat} (hb : FR q rk rw b) : ¬ ∃ m, RowB w b 5 m := by
  rintro ⟨m, hm⟩
  rcases h.feet hb with ⟨_, h⟩ | ⟨_, h⟩ | ⟨_, h⟩ <;> exact absurd (RowB.same h hm) (by decide)
theorem feet_apart {d' : Dsk} (h : DkAt w p vk vn vw d) (h' : RkAt w q rk rw uk ub d') {b : Nat} (hb : FD p vk vn vw b) (hb' : FR q rk rw b) : False := by
  rcases h.feet hb with ⟨_, h⟩ | ⟨_, h⟩ | ⟨_, h⟩ <;> rcases h'.feet hb' with ⟨_, h'⟩ | ⟨_, h'⟩ | ⟨_, h'⟩ <;> exact absurd (RowB.same h h') (by decide)
theorem DkAt.stay {F : Nat → Prop} (h : DkAt w p vk vn vw d) (hc : Chg F w w') (hf : ∀ b, FD p vk vn vw b → ¬ F b) : DkAt w' p vk vn vw d :=
  h.keep hc (hf p (.inl rfl)) (fun b hb => hf b (.inr (.inl hb))) (fun b hb => hf b (.inr (.inr (.inl hb)))) (fun b hb => hf b (.inr (.inr (.inr hb))))
theorem RkAt.stay {F : Nat → Prop} (h : RkAt w q rk rw uk ub d) (hc : Chg F w w') (hf : ∀ b, FR q rk rw b → ¬ F b) (hu : ∀ b, F b → ¬ ∃ m, RowB w b 5 m) : RkAt w' q rk rw uk ub d :=
  h.keep hc (hf q (.inl rfl)) (fun b hb => hf b (.inr (.inl hb))) (fun b hb => hf b (.inr (.inr hb))) (fun b _ hb hF => hu b hF hb)
/-- both disks. -/
def Two (w : World) (p q : Nat) (F : Nat → Prop) (d : Dsk) : Prop :=
  ∃ vk vn vw rk rw uk ub, DkAt w p vk vn vw d ∧ RkAt w q rk rw uk ub d ∧ ∀ b, F b ↔ (FD p vk vn vw b ∨ FR q rk rw b)
theorem Two.noBytes {F : Nat → Prop} (h : Two w p q F d) : ∀ b, F b → ¬ ∃ m, RowB w b 5 m := by
  obtain ⟨vk, vn, vw, rk, rw, uk, ub, h1, h2, h3⟩ := h
  intro b hb
  rcases (h3 b).1 hb with h | h
  · exact h1.noBytes h
  · exact h2.noBytes h
theorem Two.stay {F G : Nat → Prop} (h : Two w p q F d) (hc : Chg G w w') (hf : ∀ b, F b → ¬ G b) (hu : ∀ b, G b → ¬ ∃ m, RowB w b 5 m) : Two w' p q F d := by
  obtain ⟨vk, vn, vw, rk, rw, uk, ub, h1, h2, h3⟩ := h
  exact ⟨vk, vn, vw, rk, rw, uk, ub, h1.stay hc fun b hb => hf b ((h3 b).2 (.inl hb)), h2.stay hc (fun b hb => hf b ((h3 b).2 (.inr hb))) hu, h3⟩
theorem Two.below {F : Nat → Prop} (h : Two w p q F d) (hb : Below w.heap.size w w') : Two w' p q F d := h.stay (.of_below hb fun _ => False) (fun _ _ => id) (fun _ h => h.elim)
theorem Two.lt {F : Nat → Prop} (h : Two w p q F d) {b : Nat} (hb : F b) : b < w.heap.size := by
  obtain ⟨vk, vn, vw, rk, rw, uk, ub, h1, h2, h3⟩ := h
  rcases (h3 b).1 hb with h | h
  · rcases h1.feet h with ⟨_, h⟩ | ⟨_, h⟩ | ⟨_, h⟩ <;> exact h.lt
  · rcases h2.feet h with ⟨_, h⟩ | ⟨_, h⟩ | ⟨_, h⟩ <;> exact h.lt
/-! ### the answers in one form -/
theorem Dsk.write_no {n : Int} {l : Nat} {f : Nat → Int} (h : d.may n ≠ 0) : d.write n l f = (d, d.may n) := if_pos h
theorem Dsk.write_len {n : Int} {l : Nat} {f : Nat → Int} (h : d.may n = 0) (hl : l ≠ 64) : d.write n l f = (d, 2) := by
  unfold Dsk.write
  rw [if_neg (fun e => e h), if_pos hl]
theorem Dsk.write_yes {n : Int} {f : Nat → Int} (h : d.may n = 0) : d.write n 64 f = ((d.add n.toNat f).burn, powE (d.add n.toNat f).burn.off) := by
  unfold Dsk.write
  rw [if_neg (fun e => e h), if_neg (fun e => e rfl)]
theorem Dsk.may_range (k : Int) : 0 ≤ d.may k ∧ d.may k ≤ 31 := by
  unfold Dsk.may
  split
  · decide
  · split <;> decide
theorem dkWrite_any (h : DkAt w p vk vn vw d) (k : Int) (v : Value) (l : Nat) (f : Nat → Int) (hv : Rd .u8 w v l f) (hm1 : d.m < 1000000) : Calls Try.prog 19 #[ptrTo p, .int .i64 k, v] w fun e w' => e = .returned (.int .i64 (d.write k l f).2) ∧
    ∃ vw', DkAt w' p vk vn vw' (d.write k l f).1 ∧ Chg (FD p vk vn vw) w w' ∧ Placed w vw vw' := by
  by_cases hm : d.may k = 0
  · by_cases hl : l = 64
    · subst hl
      rw [Dsk.write_yes hm]
      refine (dkWrite_yes h k v f hv hm hm1).mono ?_
      rintro e w1 ⟨rfl, vw', h1, h2, h3⟩
      exact ⟨rfl, vw', h1, h2.mono fun b _ hb => hb.elim .inl fun h => .inr (.inr h), h3⟩
    · rw [Dsk.write_len hm hl]
      refine (dkWrite_len h k v l f hv hl hm).mono ?_
      rintro e w1 ⟨rfl, rfl⟩
      exact ⟨rfl, vw, h, .refl _ _, .inl rfl⟩
  · rw [Dsk.write_no hm]
    refine (dkWrite_no h k v hm).mono ?_
    rintro e w1 ⟨rfl, rfl⟩
    exact ⟨rfl, vw, h, .refl _ _, .inl rfl⟩
theorem rkWrite_any (h : RkAt w q rk rw uk ub d) (k : Int) (v : Value) (l : Nat) (f : Nat → Int) (hv : Rd .u8 w v l f) (hm1 : d.m < 1000000) : Calls Try.prog 81 #[ptrTo q, .int .i64 k, v] w fun e w' => e = .returned (.int .i64 (d.write k l f).2) ∧
    ∃ rw' ub', RkAt w' q rk rw' uk ub' (d.write k l f).1 ∧ Chg (FR q rk rw) w w' ∧ Placed w rw rw' := by
  by_cases hm : d.may k = 0
  · by_cases hl : l = 64
    · subst hl
      rw [Dsk.write_yes hm]
      refine (rkWrite_yes h k v f hv hm hm1).mono ?_
      rintro e w1 ⟨rfl, vw', ub', h1, h2, h3⟩
      exact ⟨rfl, vw', ub', h1, h2.mono fun b _ hb => hb.elim .inl fun h => .inr (.inr h), h3⟩
    · rw [Dsk.write_len hm hl]
      refine (rkWrite_len h k v l f hv hl hm).mono ?_
      rintro e w1 ⟨rfl, rfl⟩
      exact ⟨rfl, rw, ub, h, .refl _ _, .inl rfl⟩
  · rw [Dsk.write_no hm]
    refine (rkWrite_no h k v hm).mono ?_
    rintro e w1 ⟨rfl, rfl⟩
    exact ⟨rfl, rw, ub, h, .refl _ _, .inl rfl⟩
theorem dkRead_any (h : DkAt w p vk vn vw d) (k : Int) : Calls Try.prog 22 #[ptrTo p, .int .i64 k] w fun e w' => ∃ v l, e = .returned (.tuple #[v, .int .i64 (d.may k)]) ∧ (l = if d.may k = 0 then 64 else 0) ∧ Rd .u8 w' v l (d.now k.toNat) ∧ Below w.heap.size w w' := by
  by_cases hm : d.may k = 0
  · refine (dkRead_yes h k hm).mono ?_
    rintro e w1 ⟨v, rfl, h1, h2⟩
    exact ⟨v, 64, by rw [hm], by rw [if_pos hm], h1, h2⟩
  · refine (dkRead_no h k hm).mono ?_
    rintro e w1 ⟨rfl, rfl⟩
    exact ⟨_, 0, rfl, by rw [if_neg hm], Rd.nil _ _ _, .refl _ _⟩
theorem Byt.rd {u : Value} {f : Nat → Int} (h : Byt w u f) : Rd .u8 w u 64 f := by
  obtain ⟨g, cap, rfl, h1, h2, h3, h4⟩ := OwM.form h (by decide)
  refine ⟨_, cap, rfl, h2, h3, (fun e => by cases e), fun _ => ⟨g, 0, rfl, h1.lt, fun i hi => ?_⟩⟩
  have := h4 i hi 0 (by decide)
  rwa [show i * 1 + 0 = 0 + i by omega] at this
theorem rkRead_any (h : RkAt w q rk rw uk ub d) (k : Int) : Calls Try.prog 82 #[ptrTo q, .int .i64 k] w fun e w' => ∃ v l, e = .returned (.tuple #[v, .int .i64 (d.may k)]) ∧ (l = if d.may k = 0 then 64 else 0) ∧ Rd .u8 w v l (d.now k.toNat) ∧ w' = w := by
  by_cases hm : d.may k = 0
  · refine (rkRead_yes h k hm).mono ?_
    rintro e w1 ⟨v, rfl, h1, rfl⟩
    exact ⟨v, 64, by rw [hm], by rw [if_pos hm], Byt.rd h1, rfl⟩
  · refine (rkRead_no h k hm).mono ?_
    rintro e w1 ⟨rfl, rfl⟩
    exact ⟨_, 0, rfl, by rw [if_neg hm], Rd.nil _ _ _, rfl⟩
end
end Go.Proofs.Ytlmdgmgbijfaoaa
