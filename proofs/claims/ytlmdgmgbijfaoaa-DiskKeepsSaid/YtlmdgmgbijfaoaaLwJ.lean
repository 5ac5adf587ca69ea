/-
  DiskKeeps: what each sector may read as, in memory; what a crash leaves of it. Conditions: named in each theorem.
-/
import Derived.Test.YtlmdgmgbijfaoaaLwI
set_option linter.unusedVariables false
set_option linter.unusedSimpArgs false
namespace Go.Bas
open Go.RowKit
/-- behind a crash a byte is one that was kept, or one of those written. -/
theorem crR_from (l : Nat) (ch : Nat → Int) (K : Nat → Nat → Int) (ps : Nat → Nat) (bs : Nat → Nat → Int) (n i : Nat) : ∀ m, crR l ch K ps bs m n i = K n i ∨ ∃ j, j < m ∧ ps j = n ∧ crR l ch K ps bs m n i = bs j i := by
  intro m
  induction m with
  | zero => exact .inl rfl
  | succ m ih =>
    rw [crR]
    by_cases hp : n = ps m
    · subst hp
      rw [putS_same]
      by_cases hc : (i : Int) < choR l ch m
      · exact .inr ⟨m, by omega, rfl, by unfold mixB; rw [if_pos hc]⟩
      · have e : mixB (crR l ch K ps bs m (ps m)) (bs m) (choR l ch m) i = crR l ch K ps bs m (ps m) i := by unfold mixB; rw [if_neg hc]
        rw [e]
        rcases ih with h | ⟨j, h1, h2, h3⟩
        · exact .inl h
        · exact .inr ⟨j, by omega, h2, h3⟩
    · rw [putS_other hp]
      rcases ih with h | ⟨j, h1, h2, h3⟩
      · exact .inl h
      · exact .inr ⟨j, by omega, h2, h3⟩
/-- a[i] of an array of slices by value. -/
theorem run_index_slices {P : Program} {t e s : TypeId} {n i : Nat} {cs : Array Value} {k : IntKind} {v : Value} (ht : P.underlying t = some (.array n e)) (he : P.underlying e = some (.slice s)) (hs : (P.info? e).map (·.size) = some 1) (hi : i < n) (hv : cs[i]? = some v) (w : World) :
    (Instr.index t (.agg cs) (.int k (i : Int))).run P w = .ok v w := by
  obtain ⟨x, h1, h2⟩ := Option.map_eq_some_iff.1 hs
  have hn : 0 ≤ (i : Int) ∧ (i : Int) < n := by omega
  simp [Instr.index, run_underlying ht, asIntOf, hn, hi, part, isAgg, run_underlying he, sizeOf, typeInfo, h1, h2, hv, go_sem]
/-- no fuse, and the power is on. -/
def Quiet (d : Dsk) : Prop := d.fuse = -1 ∧ d.off = false ∧ d.n = 8
theorem Quiet.burn {d : Dsk} (h : Quiet d) : d.burn = d := by
  unfold Dsk.burn
  rw [if_pos (by rw [h.1]; decide)]
  have := h.2.1
  cases d
  simp only at this
  rw [this]
theorem Quiet.add {d : Dsk} (h : Quiet d) (n : Nat) (f : Nat → Int) : Quiet (d.add n f) := h
theorem Quiet.write {d : Dsk} (h : Quiet d) (n : Int) (l : Nat) (f : Nat → Int) : (d.write n l f = (d.add n.toNat f, 0) ∧ 0 ≤ n ∧ n < 8 ∧ l = 64) ∨ ∃ e, e ≠ 0 ∧ d.write n l f = (d, e) := by
  by_cases hm : d.may n = 0
  · by_cases hl : l = 64
    · left
      unfold Dsk.write
      rw [if_neg (fun e => e hm), if_neg (fun e => e hl), (h.add n.toNat f).burn]
      have h3 : (d.add n.toNat f).off = false := h.2.1
      rw [h3]
      unfold Dsk.may at hm
      rw [if_neg (by rw [h.2.1]; decide), h.2.2] at hm
      refine ⟨rfl, ?_⟩
      by_cases hn : n < 0 ∨ ((8 : Nat) : Int) ≤ n
      · rw [if_pos hn] at hm; cases hm
      · omega
    · right
      unfold Dsk.write
      rw [if_neg (fun e => e hm), if_pos hl]
      exact ⟨2, by decide, rfl⟩
  · right
    unfold Dsk.write
    rw [if_pos hm]
    exact ⟨_, hm, rfl⟩
theorem Quiet.flush {d : Dsk} (h : Quiet d) : d.flush = ({ d with K := d.now, m := 0 }, 0) := by
  unfold Dsk.flush
  rw [if_neg (by rw [h.2.1]; decide), h.burn, if_neg (by rw [h.2.1]; decide)]
theorem Quiet.may {d : Dsk} (h : Quiet d) (k : Nat) (hk : k < 8) : d.may k = 0 := by
  unfold Dsk.may
  rw [if_neg (by rw [h.2.1]; decide), h.2.2, if_neg (by omega)]
/-- what the lists tell of the disk. -/
def Tells (d : Dsk) (cnt : Nat → Nat) (eb : Nat → Nat → Nat → Int) : Prop :=
  (∀ n, n < 8 → 1 ≤ cnt n ∧ eb n 0 = d.K n) ∧ ∀ j, j < d.m → d.ps j < 8 ∧ ∃ t, 1 ≤ t ∧ t < cnt (d.ps j) ∧ eb (d.ps j) t = d.bs j
theorem Tells.crash {d : Dsk} {cnt : Nat → Nat} {eb : Nat → Nat → Nat → Int} (h : Tells d cnt eb) (l : Nat) (ch : Nat → Int) (n : Nat) (hn : n < 8) :
    (∀ i, ∃ t, t < cnt n ∧ eb n t i = (d.crash l ch).now n i) ∧ (cnt n = 1 → ∀ i, eb n 0 i = (d.crash l ch).now n i) := by
  have e : ∀ i, (d.crash l ch).now n i = crR l ch d.K d.ps d.bs d.m n i := fun i => rfl
  obtain ⟨h1, h2⟩ := h
  constructor
  · intro i
    rw [e]
    rcases crR_from l ch d.K d.ps d.bs n i d.m with h | ⟨j, hj, hp, h⟩
    · exact ⟨0, (h1 n hn).1, by rw [h, (h1 n hn).2]⟩
    · obtain ⟨_, t, _, ht, he⟩ := h2 j hj
      rw [hp] at ht he
      exact ⟨t, ht, by rw [h, he]⟩
  · intro hc i
    rw [e]
    rcases crR_from l ch d.K d.ps d.bs n i d.m with h | ⟨j, hj, hp, h⟩
    · rw [h, (h1 n hn).2]
    · obtain ⟨_, t, ht1, ht, _⟩ := h2 j hj
      rw [hp] at ht
      omega
theorem Tells.add {d : Dsk} {cnt : Nat → Nat} {eb : Nat → Nat → Nat → Int} (h : Tells d cnt eb) (k : Nat) (hk : k < 8) (f : Nat → Int) :
    Tells (d.add k f) (fun n => if n = k then cnt k + 1 else cnt n) (fun n => if n = k then (fun j => if j = cnt k then f else eb k j) else eb n) := by
  obtain ⟨h1, h2⟩ := h
  refine ⟨fun n hn => ?_, fun j hj => ?_⟩
  · have h3 := h1 n hn
    dsimp only
    by_cases he : n = k
    · subst he
      rw [if_pos rfl, if_pos rfl, if_neg (by omega)]
      exact ⟨by omega, h3.2⟩
    · rw [if_neg he, if_neg he]
      exact h3
  · show (if j = d.m then k else d.ps j) < 8 ∧ _
    by_cases hjm : j = d.m
    · have e1 : (d.add k f).ps j = k := if_pos hjm
      have e2 : (d.add k f).bs j = f := if_pos hjm
      rw [if_pos hjm, e1, e2]
      refine ⟨hk, cnt k, (h1 k hk).1, ?_, ?_⟩
      · dsimp only; rw [if_pos rfl]; omega
      · dsimp only; rw [if_pos rfl, if_pos rfl]
    · have e1 : (d.add k f).ps j = d.ps j := if_neg hjm
      have e2 : (d.add k f).bs j = d.bs j := if_neg hjm
      rw [if_neg hjm, e1, e2]
      obtain ⟨h3, t, ht1, ht, he⟩ := h2 j (by have : j < d.m + 1 := hj; omega)
      refine ⟨h3, t, ht1, ?_, ?_⟩
      · dsimp only
        by_cases hq : d.ps j = k
        · rw [if_pos hq]; rw [hq] at ht; omega
        · rw [if_neg hq]; exact ht
      · dsimp only
        by_cases hq : d.ps j = k
        · rw [if_pos hq, if_neg (by rw [hq] at ht; omega), ← hq]; exact he
        · rw [if_neg hq]; exact he
end Go.Bas
namespace Go.Proofs.Ytlmdgmgbijfaoaa
open Go.RowKit Go.Bas Go.ChangeShapes
attribute [local go_sem ↓] Go.wp_at_zero Go.wp_at_succ
theorem Try.size36 : (Try.prog.info? 36).map (·.size) = some 8 := by kernel_rfl
/-- the lists of what each sector may read as. -/
structure May (B : Nat) (w : World) (a : Nat) (cnt : Nat → Nat) (vm : Nat → Value) (em : Nat → Nat → Value) (eb : Nat → Nat → Nat → Int) (X : Nat → Prop) : Prop where
  row : RowB w a 36 8
  cell : ∀ n, n < 8 → w.cell? ⟨a, n, none⟩ = some (vm n)
  hi : B ≤ a
  ax : ¬ X a
  list : ∀ n, n < 8 → OwM 23 1 w (vm n) (cnt n) (fun j _ => em n j)
  lhi : ∀ n, n < 8 → ∀ b, (vm n).ownBlock = some b → B ≤ b ∧ ¬ X b
  apart : ∀ n m, n < 8 → m < 8 → n ≠ m → ∀ b, (vm n).ownBlock = some b → (vm m).ownBlock ≠ some b
  txt : ∀ n, n < 8 → ∀ j, j < cnt n → Rd .u8 w (em n j) 64 (eb n j) ∧ ∀ b, (em n j).ownBlock = some b → X b
  lt : ∀ b, X b → b < w.heap.size
  few : ∀ n, cnt n ≤ 1000
/-- a disk whose blocks lie behind B, and not in X. -/
def DkX (B : Nat) (X : Nat → Prop) (w : World) (p : Nat) (d : Dsk) : Prop := ∃ vk vn vw, DkAt w p vk vn vw d ∧ ∀ b, FD p vk vn vw b → B ≤ b ∧ ¬ X b
section
variable {B : Nat} {w0 w w' : World} {p a : Nat} {d : Dsk} {cnt : Nat → Nat} {vm : Nat → Value} {em : Nat → Nat → Value} {eb : Nat → Nat → Nat → Int} {X F : Nat → Prop}
theorem May.chg (h : May B w a cnt vm em eb X) (hc : Chg F w w') (ha : ¬ F a) (hl : ∀ n, n < 8 → ∀ b, (vm n).ownBlock = some b → ¬ F b) (hX : ∀ b, X b → ¬ F b) : May B w' a cnt vm em eb X :=
  ⟨h.row.heap (hc.block a h.row.lt ha), fun n hn => by rw [hc.cell (p := ⟨a, n, none⟩) h.row.lt ha]; exact h.cell n hn, h.hi, h.ax, fun n hn => (h.list n hn).chg hc (hl n hn), h.lhi, h.apart,
    fun n hn j hj => ⟨(h.txt n hn j hj).1.chg hc fun b hb => hX b ((h.txt n hn j hj).2 b hb), (h.txt n hn j hj).2⟩, fun b hb => Nat.lt_of_lt_of_le (h.lt b hb) hc.size, h.few⟩
theorem May.below (h : May B w a cnt vm em eb X) (hb : Below w.heap.size w w') : May B w' a cnt vm em eb X := h.chg (.of_below hb fun _ => False) id (fun _ _ _ _ => id) (fun _ _ => id)
theorem May.disk {vk vn vw : Value} (h : May B w a cnt vm em eb X) (hd : DkAt w p vk vn vw d) (hX : ∀ b, FD p vk vn vw b → ¬ X b) (hc : Chg (FD p vk vn vw) w w') : May B w' a cnt vm em eb X := by
  refine h.chg hc (fun hF => ?_) (fun n hn b hb hF => ?_) (fun b hb hF => hX b hF hb)
  · rcases hd.feet hF with ⟨_, h'⟩ | ⟨_, h'⟩ | ⟨_, h'⟩ <;> exact absurd (RowB.same h' h.row) (by decide)
  · obtain ⟨_, hr⟩ := OwM.row (h.list n hn) hb
    rcases hd.feet hF with ⟨_, h'⟩ | ⟨_, h'⟩ | ⟨_, h'⟩ <;> exact absurd (RowB.same h' hr) (by decide)
theorem DkX.below (h : DkX B X w p d) (hb : Below w.heap.size w w') : DkX B X w' p d := by
  obtain ⟨vk, vn, vw, h1, h2⟩ := h
  exact ⟨vk, vn, vw, h1.below hb, h2⟩
/-- what is written elsewhere leaves the disk alone. -/
theorem DkX.may (h : DkX B X w p d) (hm : May B w a cnt vm em eb X) (hc : Chg F w w') (hF : ∀ b, F b → (∃ m, RowB w b 36 m) ∨ ∃ m, RowB w b 23 m) : DkX B X w' p d := by
  obtain ⟨vk, vn, vw, h1, h2⟩ := h
  refine ⟨vk, vn, vw, h1.stay hc fun b hb hF' => ?_, h2⟩
  rcases hF b hF' with ⟨_, hr⟩ | ⟨_, hr⟩ <;> rcases h1.feet hb with ⟨_, h'⟩ | ⟨_, h'⟩ | ⟨_, h'⟩ <;> exact absurd (RowB.same h' hr) (by decide)
theorem dkX_read (h : DkX B X w p d) (hX : ∀ b, X b → b < w.heap.size) (k : Int) (hk : d.may k = 0) : Calls Try.prog 22 #[ptrTo p, .int .i64 k] w fun e w' => e = .returned (.tuple #[.slice (some ⟨w.heap.size, 0, none⟩) 64 64, .int .i64 0]) ∧ Rd .u8 w' (.slice (some ⟨w.heap.size, 0, none⟩) 64 64) 64 (d.now k.toNat) ∧ DkX B (fun b => X b ∨ b = w.heap.size) w' p d ∧ Below w.heap.size w w' := by
  obtain ⟨vk, vn, vw, h1, h2⟩ := h
  refine (dkRead_at h1 k hk).mono ?_
  rintro e w' ⟨rfl, hr, hb⟩
  refine ⟨rfl, hr, ⟨vk, vn, vw, h1.below hb, fun b hF => ⟨(h2 b hF).1, fun hx => ?_⟩⟩, hb⟩
  rcases hx with hx | rfl
  · exact (h2 b hF).2 hx
  · rcases h1.feet hF with ⟨_, h'⟩ | ⟨_, h'⟩ | ⟨_, h'⟩ <;> exact absurd h'.lt (Nat.lt_irrefl _)
theorem dkX_write (h : DkX B X w p d) (hX : ∀ b, X b → b < w.heap.size) (hm : May B w a cnt vm em eb X) (hBw : B ≤ w.heap.size) (k : Int) (v : Value) (l : Nat) (f : Nat → Int) (hv : Rd .u8 w v l f) (hm1 : d.m < 1000000) : Calls Try.prog 19 #[ptrTo p, .int .i64 k, v] w fun e w' => e = .returned (.int .i64 (d.write k l f).2) ∧ DkX B X w' p (d.write k l f).1 ∧ May B w' a cnt vm em eb X ∧ Below B w w' ∧ ∃ F, Chg F w w' ∧ ∀ b, F b → B ≤ b ∧ ((∃ m, RowB w b 134 m) ∨ (∃ m, RowB w b 137 m) ∨ ∃ m, RowB w b 139 m) := by
  obtain ⟨vk, vn, vw, h1, h2⟩ := h
  refine (dkWrite_any h1 k v l f hv hm1).mono ?_
  rintro e w' ⟨rfl, vw', h3, h4, h5⟩
  refine ⟨rfl, ⟨vk, vn, vw', h3, ?_⟩, hm.disk h1 (fun b hb => (h2 b hb).2) h4, h4.below hBw fun b hb => (h2 b hb).1, _, h4, fun b hb => ⟨(h2 b hb).1, h1.feet hb⟩⟩
  rintro b (hb | hb | hb | hb)
  · exact h2 b (.inl hb)
  · exact h2 b (.inr (.inl hb))
  · exact h2 b (.inr (.inr (.inl hb)))
  · rcases placed_feet h5 hb with h | h
    · exact h2 b (.inr (.inr (.inr h)))
    · exact ⟨by omega, fun hx => by have := hX b hx; omega⟩
theorem dkX_crash (h : DkX B X w p d) (hX : ∀ b, X b → b < w.heap.size) (hm : May B w a cnt vm em eb X) (hBw : B ≤ w.heap.size) (v : Value) (l : Nat) (ch : Nat → Int) (hv : Rd .u8 w v l ch) (hch : ∀ i, i < l → 0 ≤ ch i ∧ ch i < 256) (hfar : 0 < l → ∀ b, v.ownBlock = some b → b < B) : Calls Try.prog 23 #[ptrTo p, v] w fun e w' => e = .returned (.int .i64 0) ∧ DkX B X w' p (d.crash l ch) ∧ May B w' a cnt vm em eb X ∧ Below B w w' := by
  obtain ⟨vk, vn, vw, h1, h2⟩ := h
  refine (dkCrash_any h1 v l ch hv hch (fun h0 b hb => ⟨fun e => by have h3 := (h2 b (.inl e)).1; have h4 := hfar h0 b hb; omega, fun e => by have h3 := (h2 b (.inr (.inl e))).1; have h4 := hfar h0 b hb; omega⟩)).mono ?_
  rintro e w' ⟨rfl, vn', h3, h4, h5⟩
  have h4' : Chg (FD p vk vn vw) w w' := h4.mono fun b _ hb => hb.elim .inl fun h => .inr (.inl h)
  refine ⟨rfl, ⟨vk, vn', _, h3, ?_⟩, hm.disk h1 (fun b hb => (h2 b hb).2) h4', h4'.below hBw fun b hb => (h2 b hb).1⟩
  rintro b (hb | hb | hb | hb)
  · exact h2 b (.inl hb)
  · exact h2 b (.inr (.inl hb))
  · have := h5 b hb
    exact ⟨by omega, fun hx => by have := hX b hx; omega⟩
  · cases hb
theorem May.put {G : Nat → Prop} {w1 : World} (h : May B w a cnt vm em eb X) (hB : B ≤ w.heap.size) (k : Nat) (hk : k < 8) (hw : Chg G w w1) (hG : ∀ b, G b → (vm k).ownBlock = some b) (v' : Value) (c' : Nat) (e' : Nat → Value) (f' : Nat → Nat → Int)
    (hl : OwM 23 1 w1 v' c' (fun j _ => e' j)) (hb : ∀ b, v'.ownBlock = some b → (vm k).ownBlock = some b ∨ w.heap.size ≤ b)
    (ht : ∀ j, j < c' → Rd .u8 w (e' j) 64 (f' j) ∧ ∀ b, (e' j).ownBlock = some b → X b) (hc : c' ≤ 1000) :
    May B (w1.setCell ⟨a, k, none⟩ v') a (fun n => if n = k then c' else cnt n) (fun n => if n = k then v' else vm n) (fun n => if n = k then e' else em n) (fun n => if n = k then f' else eb n) X := by
  have hrow1 : RowB w1 a 36 8 := h.row.heap (hw.block a h.row.lt fun hg => (h.list k hk).ne h.row (by decide) a (hG a hg) rfl)
  have hs : Chg (fun b => b = a) w1 (w1.setCell ⟨a, k, none⟩ v') := .set _ _ _ _ rfl
  have hga : ¬ G a := fun hg => (h.list k hk).ne h.row (by decide) a (hG a hg) rfl
  have hsz := hw.size
  have hX : ∀ b, X b → ¬ G b := fun b hx hg => (h.lhi k hk b (hG b hg)).2 hx
  have hXa : ∀ b, X b → b ≠ a := fun b hx e => h.ax (e ▸ hx)
  refine ⟨hrow1.setCell _ rfl _, fun n hn => ?_, h.hi, h.ax, fun n hn => ?_, fun n hn b hbb => ?_, fun n m hn hm hne b hbb hbm => ?_, fun n hn j hj => ?_, fun b hb => ?_, fun n => ?_⟩
  · have e1 : w1.cell? ⟨a, n, none⟩ = some (vm n) := by rw [hw.cell (p := ⟨a, n, none⟩) h.row.lt hga]; exact h.cell n hn
    try dsimp only
    by_cases he : n = k
    · subst he
      rw [if_pos rfl]
      exact World.cell?_setCell_same _ _ _ e1
    · rw [if_neg he, World.cell?_setCell_other (h := addr_ne (Ne.symm he))]
      exact e1
  · try dsimp only
    by_cases he : n = k
    · rw [if_pos he, if_pos he, if_pos he]
      exact hl.chg hs (hl.ne hrow1 (by decide))
    · rw [if_neg he, if_neg he, if_neg he]
      have h1 := (h.list n hn).chg hw fun b hb hg => h.apart n k hn hk he b hb (hG b hg)
      exact h1.chg hs (h1.ne hrow1 (by decide))
  · try dsimp only at hbb
    by_cases he : n = k
    · rw [if_pos he] at hbb
      rcases hb b hbb with h1 | h1
      · exact h.lhi k hk b h1
      · exact ⟨by omega, fun hx => by have := h.lt b hx; omega⟩
    · rw [if_neg he] at hbb
      exact h.lhi n hn b hbb
  · try dsimp only at hbb hbm
    by_cases he : n = k
    · rw [if_pos he] at hbb
      rw [if_neg (fun e => hne (he.trans e.symm))] at hbm
      rcases hb b hbb with h1 | h1
      · exact h.apart k m hk hm (fun e => hne (he.trans e)) b h1 hbm
      · have := (h.list m hm).lt b hbm
        omega
    · rw [if_neg he] at hbb
      by_cases he2 : m = k
      · rw [if_pos he2] at hbm
        rcases hb b hbm with h1 | h1
        · exact h.apart n k hn hk he b hbb h1
        · have := (h.list n hn).lt b hbb
          omega
      · rw [if_neg he2] at hbm
        exact h.apart n m hn hm hne b hbb hbm
  · try dsimp only at hj ⊢
    have key : ∀ (u : Value) (g : Nat → Int), (Rd .u8 w u 64 g ∧ ∀ b, u.ownBlock = some b → X b) → (Rd .u8 (w1.setCell ⟨a, k, none⟩ v') u 64 g ∧ ∀ b, u.ownBlock = some b → X b) := fun u g hu =>
      ⟨(hu.1.chg hw fun b hb => hX b (hu.2 b hb)).chg hs fun b hb => hXa b (hu.2 b hb), hu.2⟩
    by_cases he : n = k
    · rw [if_pos he] at hj
      rw [if_pos he, if_pos he]
      exact key _ _ (ht j hj)
    · rw [if_neg he] at hj
      rw [if_neg he, if_neg he]
      exact key _ _ (h.txt n hn j hj)
  · have := h.lt b hb
    rw [size_setCell]
    omega
  · try dsimp only
    split
    · exact hc
    · exact h.few n
theorem May.wider {X' : Nat → Prop} (h : May B w a cnt vm em eb X) (hs : ∀ b, X b → X' b) (ha : ¬ X' a) (hl : ∀ n, n < 8 → ∀ b, (vm n).ownBlock = some b → ¬ X' b) (hlt : ∀ b, X' b → b < w.heap.size) : May B w a cnt vm em eb X' :=
  ⟨h.row, h.cell, h.hi, ha, h.list, fun n hn b hb => ⟨(h.lhi n hn b hb).1, hl n hn b hb⟩, h.apart, fun n hn j hj => ⟨(h.txt n hn j hj).1, fun b hb => hs b ((h.txt n hn j hj).2 b hb)⟩, hlt, h.few⟩
theorem DkX.less {X' : Nat → Prop} (h : DkX B X' w p d) (hs : ∀ b, X b → X' b) : DkX B X w p d := by
  obtain ⟨vk, vn, vw, h1, h2⟩ := h
  exact ⟨vk, vn, vw, h1, fun b hb => ⟨(h2 b hb).1, fun hx => (h2 b hb).2 (hs b hx)⟩⟩
theorem May.start (hB : B ≤ w.heap.size) : May B (w.alloc (.cells #[.slice none 0 0, .slice none 0 0, .slice none 0 0, .slice none 0 0, .slice none 0 0, .slice none 0 0, .slice none 0 0, .slice none 0 0] 36)) w.heap.size (fun _ => 0) (fun _ => .slice none 0 0) em eb (fun b => b < B) := by
  have hb := heap_alloc_new w (.cells #[.slice none 0 0, .slice none 0 0, .slice none 0 0, .slice none 0 0, .slice none 0 0, .slice none 0 0, .slice none 0 0, .slice none 0 0] 36)
  refine ⟨⟨_, hb, rfl⟩, fun n hn => ?_, hB, by omega, fun n hn => OwM.nil _ _ _ _, (fun n hn b hb => by cases hb), (fun n m _ _ _ b hb => by cases hb), fun n hn j hj => absurd hj (Nat.not_lt_zero _), fun b hb => ?_, fun n => by decide⟩
  · rw [cell_of_row _ _ n _ _ (0, 0) hb]
    rcases (by omega : n = 0 ∨ n = 1 ∨ n = 2 ∨ n = 3 ∨ n = 4 ∨ n = 5 ∨ n = 6 ∨ n = 7) with rfl | rfl | rfl | rfl | rfl | rfl | rfl | rfl <;> rfl
  · have h : b < B := hb
    rw [World.size_alloc]
    omega
theorem DkB.x (h : DkB B w p d) : DkX B (fun b => b < B) w p d := by
  obtain ⟨vk, vn, vw, h1, h2⟩ := h
  exact ⟨vk, vn, vw, h1, fun b hb => ⟨h2 b hb, by have := h2 b hb; show ¬ b < B; omega⟩⟩
end
end Go.Proofs.Ytlmdgmgbijfaoaa
