/-
  A disk that is none. Conditions: none.
-/
import Derived.Test.YtlmdgmgbijfaoaaLwE
set_option linter.unusedVariables false
set_option linter.unusedSimpArgs false
namespace Go.Proofs.Ytlmdgmgbijfaoaa
open Go.RowKit Go.Bas Go.ChangeShapes
attribute [local go_sem ↓] Go.wp_at_zero Go.wp_at_succ
set_option maxRecDepth 100000 in
theorem dkMay_nil (w : World) (k : Int) : Calls Try.prog 77 #[.pointer none, .int .i64 k] w fun e w' => e = .returned (.int .i64 1) ∧ w' = w := by
  have HI := Lib.hid (dkIs_nil w)
  go_enter Try.func77, Try.ntmps77
  go_wp2_with fail
  refine HI.out.mono ?_
  rintro e w' ⟨rfl, rfl⟩
  go_wp2
  go_ret
  exact ⟨rfl, rfl⟩
set_option maxRecDepth 100000 in
theorem dkWrite_nil (w : World) (k : Int) (v : Value) : Calls Try.prog 19 #[.pointer none, .int .i64 k, v] w fun e w' => e = .returned (.int .i64 1) ∧ w' = w := by
  have HI := Lib.hid (dkMay_nil w k)
  go_enter Try.func19, Try.ntmps19
  go_wp2_with fail
  refine HI.out.mono ?_
  rintro e w' ⟨rfl, rfl⟩
  go_wp2
  go_ret
  exact ⟨rfl, rfl⟩
set_option maxRecDepth 100000 in
theorem dkFlush_nil (w : World) : Calls Try.prog 20 #[.pointer none] w fun e w' => e = .returned (.int .i64 1) ∧ w' = w := by
  have HI := Lib.hid (dkMay_nil w 0)
  go_enter Try.func20, Try.ntmps20
  go_wp2_with fail
  refine HI.out.mono ?_
  rintro e w' ⟨rfl, rfl⟩
  go_wp2
  go_ret
  exact ⟨rfl, rfl⟩
set_option maxRecDepth 100000 in
theorem dkCrash_nil (w : World) (v : Value) : Calls Try.prog 23 #[.pointer none, v] w fun e w' => e = .returned (.int .i64 1) ∧ w' = w := by
  have HI := Lib.hid (dkIs_nil w)
  go_enter Try.func23, Try.ntmps23
  go_wp2_with fail
  refine HI.out.mono ?_
  rintro e w' ⟨rfl, rfl⟩
  go_wp2
  go_ret
  exact ⟨rfl, rfl⟩
set_option maxRecDepth 100000 in
theorem dkClone_nil (w : World) : Calls Try.prog 30 #[.pointer none] w fun e w' => e = .returned (.pointer none) ∧ w' = w := by
  have HI := Lib.hid (dkIs_nil w)
  go_enter Try.func30, Try.ntmps30
  go_wp2_with fail
  refine HI.out.mono ?_
  rintro e w' ⟨rfl, rfl⟩
  go_wp2
  go_ret
  exact ⟨rfl, rfl⟩
set_option maxRecDepth 100000 in
theorem dkSize_nil (w : World) : Calls Try.prog 25 #[.pointer none] w fun e w' => e = .returned (.int .i64 0) ∧ w' = w := by
  have HI := Lib.hid (dkIs_nil w)
  go_enter Try.func25, Try.ntmps25
  go_wp2_with fail
  refine HI.out.mono ?_
  rintro e w' ⟨rfl, rfl⟩
  go_wp2
  go_ret
  exact ⟨rfl, rfl⟩
set_option maxRecDepth 100000 in
theorem dkWaiting_nil (w : World) : Calls Try.prog 21 #[.pointer none] w fun e w' => e = .returned (.int .i64 0) ∧ w' = w := by
  have HI := Lib.hid (dkIs_nil w)
  go_enter Try.func21, Try.ntmps21
  go_wp2_with fail
  refine HI.out.mono ?_
  rintro e w' ⟨rfl, rfl⟩
  go_wp2
  go_ret
  exact ⟨rfl, rfl⟩
set_option maxRecDepth 100000 in
theorem dkLives_nil (w : World) : Calls Try.prog 31 #[.pointer none] w fun e w' => e = .returned (.int .i64 0) ∧ w' = w := by
  have HI := Lib.hid (dkIs_nil w)
  go_enter Try.func31, Try.ntmps31
  go_wp2_with fail
  refine HI.out.mono ?_
  rintro e w' ⟨rfl, rfl⟩
  go_wp2
  go_ret
  exact ⟨rfl, rfl⟩
set_option maxRecDepth 100000 in
theorem dkOff_nil (w : World) : Calls Try.prog 32 #[.pointer none] w fun e w' => e = .returned (.bool false) ∧ w' = w := by
  have HI := Lib.hid (dkIs_nil w)
  go_enter Try.func32, Try.ntmps32
  go_wp2_with fail
  refine HI.out.mono ?_
  rintro e w' ⟨rfl, rfl⟩
  go_wp2
  go_ret
  exact ⟨rfl, rfl⟩
/-! ### the fuse, in numbers -/
/-- byte j of all writes so far. -/
def bsF (i j : Nat) : Nat → Int := fun _ => if j < i then (j : Int) else 0
/-- i writes are done, n - i are left. -/
def dF (n i : Nat) : Dsk := ⟨1, fun _ _ => 0, i, fun _ => 0, bsF i, (n : Int) - i, false, 0⟩
theorem dF_start (n : Nat) : (dskNew 1).fused n = dF n 0 := by
  have h1 : bsF 0 = fun _ _ => 0 := by funext j k; unfold bsF; rw [if_neg (by omega)]
  have h2 : ((n : Int) - (0 : Nat)) = n := by omega
  unfold Dsk.fused dskNew dF
  rw [if_neg (by omega), h1, h2]
theorem dF_step {n i : Nat} (h : i < n) : ((dF n i).add 0 fun _ => (i : Int)).burn = dF n (i + 1) := by
  have h1 : (fun j => if j = i then (fun _ => (i : Int)) else bsF i j) = bsF (i + 1) := by
    funext j k
    unfold bsF
    by_cases e : j = i
    · subst e; rw [if_pos rfl, if_pos (by omega)]
    · rw [if_neg e]
      by_cases e2 : j < i
      · rw [if_pos e2, if_pos (by omega)]
      · rw [if_neg e2, if_neg (by omega)]
  have h2 : (fun j => if j = i then 0 else (fun _ => 0 : Nat → Nat) j) = fun _ => 0 := by funext j; split <;> rfl
  have h3 : ((n : Int) - i == 0) = false := by simp; omega
  have h4 : (n : Int) - i - 1 = n - (i + 1 : Nat) := by omega
  have h5 : ¬ (n : Int) - i < 0 := by omega
  show Dsk.burn ⟨1, fun _ _ => 0, i + 1, fun j => if j = i then 0 else (fun _ => 0 : Nat → Nat) j, fun j => if j = i then (fun _ => (i : Int)) else bsF i j, (n : Int) - i, false, 0⟩ = _
  rw [h1, h2]
  unfold Dsk.burn
  rw [if_neg h5]
  show (⟨1, fun _ _ => 0, i + 1, fun _ => 0, bsF (i + 1), (n : Int) - i - 1, (n : Int) - i == 0, 0⟩ : Dsk) = _
  rw [h3, h4]
  rfl
/-- the power is off. -/
def dOff (n : Nat) : Dsk := ⟨1, fun _ _ => 0, n, fun _ => 0, bsF n, -1, true, 0⟩
theorem dF_end (n : Nat) : (dF n n).flush = (dOff n, 30) := by
  have h2 : (n : Int) - n = 0 := by omega
  have e : (dF n n).burn = dOff n := by
    unfold Dsk.burn dF dOff
    dsimp only
    rw [h2]
    rfl
  unfold Dsk.flush
  rw [if_neg (by unfold dF; simp), e]
  rfl
theorem crF (n : Nat) (c : Int) (hc : 0 ≤ c) : ∀ j, j ≤ n → ∀ k : Nat, crR n (fun _ => c) (fun _ _ => 0) (fun _ => 0) (bsF n) j 0 k = if (k : Int) < c ∧ 0 < j then (j : Int) - 1 else 0 := by
  intro j
  induction j with
  | zero => intro _ k; rw [crR, if_neg (by omega)]
  | succ j ih =>
    intro hj k
    have hch : choR n (fun _ => c) j = c := if_pos (by omega)
    rw [crR, putS_same, hch]
    unfold mixB
    by_cases hk : (k : Int) < c
    · rw [if_pos hk, if_pos ⟨hk, by omega⟩]
      unfold bsF
      rw [if_pos (by omega)]
      omega
    · rw [if_neg hk, if_neg (by omega), ih (by omega) k, if_neg (by omega)]
theorem dOff_crash (n : Nat) (c : Int) (hc : 0 ≤ c) (k : Nat) : ((dOff n).crash n fun _ => c).now 0 k = if (k : Int) < c ∧ 0 < n then (n : Int) - 1 else 0 := crF n c hc n (Nat.le_refl n) k
/-! ### a disk whose blocks lie behind B -/
def DkB (B : Nat) (w : World) (p : Nat) (d : Dsk) : Prop := ∃ vk vn vw, DkAt w p vk vn vw d ∧ ∀ b, FD p vk vn vw b → B ≤ b
section
variable {B : Nat} {w0 w w' : World} {p : Nat} {d : Dsk}
theorem DkB.below (h : DkB B w p d) (hb : Below w.heap.size w w') : DkB B w' p d := by
  obtain ⟨vk, vn, vw, h1, h2⟩ := h
  exact ⟨vk, vn, vw, h1.below hb, h2⟩
theorem dkB_new (n : Nat) (h1 : 1 ≤ n) (h2 : n ≤ 16384) (hB : B = w0.heap.size) (hbel : Below B w0 w) : Calls Try.prog 18 #[.int .i64 n] w fun e w' => ∃ p, e = .returned (.tuple #[ptrTo p, .int .i64 0]) ∧ DkB B w' p (dskNew n) ∧ Below B w0 w' := by
  refine (dkNew_yes n h1 h2 w).mono ?_
  rintro e w' ⟨p, rfl, vk, vn, h3, h4, h5, h6, h7⟩
  have hs := hbel.size
  refine ⟨p, rfl, ⟨vk, vn, _, h3, ?_⟩, later hB hbel h4⟩
  rintro b (rfl | hb | hb | hb)
  · omega
  · have := h6 b hb; omega
  · have := h7 b hb; omega
  · cases hb
theorem dkB_read (h : DkB B w p d) (hB : B = w0.heap.size) (hbel : Below B w0 w) (k : Int) : Calls Try.prog 22 #[ptrTo p, .int .i64 k] w fun e w' => ∃ v l, e = .returned (.tuple #[v, .int .i64 (d.may k)]) ∧ (l = if d.may k = 0 then 64 else 0) ∧ Rd .u8 w' v l (d.now k.toNat) ∧ DkB B w' p d ∧ Below w.heap.size w w' ∧ Below B w0 w' := by
  obtain ⟨vk, vn, vw, h1, h2⟩ := h
  refine (dkRead_any h1 k).mono ?_
  rintro e w' ⟨v, l, rfl, hl, hr, hb⟩
  exact ⟨v, l, rfl, hl, hr, ⟨vk, vn, vw, h1.below hb, h2⟩, hb, later hB hbel hb⟩
theorem dkB_write (h : DkB B w p d) (hB : B = w0.heap.size) (hbel : Below B w0 w) (k : Int) (v : Value) (l : Nat) (f : Nat → Int) (hv : Rd .u8 w v l f) (hm1 : d.m < 1000000) : Calls Try.prog 19 #[ptrTo p, .int .i64 k, v] w fun e w' => e = .returned (.int .i64 (d.write k l f).2) ∧ DkB B w' p (d.write k l f).1 ∧ Below B w0 w' ∧
    (∀ (u : Value) (n : Nat) (g : Nat → Int), (0 < n → ∀ b, u.ownBlock = some b → (∃ m, RowB w b 5 m) ∨ b < B) → Rd .u8 w u n g → Rd .u8 w' u n g) := by
  obtain ⟨vk, vn, vw, h1, h2⟩ := h
  have hs := hbel.size
  refine (dkWrite_any h1 k v l f hv hm1).mono ?_
  rintro e w' ⟨rfl, vw', h3, h4, h5⟩
  refine ⟨rfl, ⟨vk, vn, vw', h3, ?_⟩, hbel.trans (h4.below (by omega) h2), fun u n g hu hr => hr.chg0 h4 fun h0 b hb hF => ?_⟩
  · rintro b (hb | hb | hb | hb)
    · exact h2 b (.inl hb)
    · exact h2 b (.inr (.inl hb))
    · exact h2 b (.inr (.inr (.inl hb)))
    · rcases placed_feet h5 hb with h | h
      · exact h2 b (.inr (.inr (.inr h)))
      · omega
  · rcases hu h0 b hb with h | h
    · exact h1.noBytes hF h
    · have := h2 b hF; omega
theorem dkB_flush (h : DkB B w p d) (hB : B = w0.heap.size) (hbel : Below B w0 w) : Calls Try.prog 20 #[ptrTo p] w fun e w' => e = .returned (.int .i64 d.flush.2) ∧ DkB B w' p d.flush.1 ∧ Below B w0 w' ∧
    (∀ (u : Value) (n : Nat) (g : Nat → Int), (0 < n → ∀ b, u.ownBlock = some b → (∃ m, RowB w b 5 m) ∨ b < B) → Rd .u8 w u n g → Rd .u8 w' u n g) := by
  obtain ⟨vk, vn, vw, h1, h2⟩ := h
  have hs := hbel.size
  refine (dkFlush_any h1).mono ?_
  rintro e w' ⟨rfl, vw', h3, h4, h5⟩
  have h4' : Chg (FD p vk vn vw) w w' := h4.mono fun b _ hb => hb.elim .inl fun h => .inr (.inl h)
  refine ⟨rfl, ⟨vk, vn, vw', h3, ?_⟩, hbel.trans (h4'.below (by omega) h2), fun u n g hu hr => hr.chg0 h4' fun h0 b hb hF => ?_⟩
  · rintro b (hb | hb | hb | hb)
    · exact h2 b (.inl hb)
    · exact h2 b (.inr (.inl hb))
    · exact h2 b (.inr (.inr (.inl hb)))
    · rcases h5 with rfl | rfl
      · exact h2 b (.inr (.inr (.inr hb)))
      · cases hb
  · rcases hu h0 b hb with h | h
    · exact h1.noBytes hF h
    · have := h2 b hF; omega
theorem dkB_crash (h : DkB B w p d) (hB : B = w0.heap.size) (hbel : Below B w0 w) (v : Value) (l : Nat) (ch : Nat → Int) (hv : Rd .u8 w v l ch) (hch : ∀ i, i < l → 0 ≤ ch i ∧ ch i < 256) (hfar : 0 < l → ∀ b, v.ownBlock = some b → (∃ m, RowB w b 5 m) ∨ b < B) : Calls Try.prog 23 #[ptrTo p, v] w fun e w' => e = .returned (.int .i64 0) ∧ DkB B w' p (d.crash l ch) ∧ Below B w0 w' ∧
    (∀ (u : Value) (n : Nat) (g : Nat → Int), (0 < n → ∀ b, u.ownBlock = some b → (∃ m, RowB w b 5 m) ∨ b < B) → Rd .u8 w u n g → Rd .u8 w' u n g) := by
  obtain ⟨vk, vn, vw, h1, h2⟩ := h
  have hs := hbel.size
  have key : ∀ b, FD p vk vn vw b → ((∃ m, RowB w b 5 m) ∨ b < B) → False := fun b hF h => by
    rcases h with h | h
    · exact h1.noBytes hF h
    · have := h2 b hF; omega
  refine (dkCrash_any h1 v l ch hv hch (fun h0 b hb => ⟨fun e => key b (.inl e) (hfar h0 b hb), fun e => key b (.inr (.inl e)) (hfar h0 b hb)⟩)).mono ?_
  rintro e w' ⟨rfl, vn', h3, h4, h5⟩
  have h4' : Chg (FD p vk vn vw) w w' := h4.mono fun b _ hb => hb.elim .inl fun h => .inr (.inl h)
  refine ⟨rfl, ⟨vk, vn', _, h3, ?_⟩, hbel.trans (h4'.below (by omega) h2), fun u n g hu hr => hr.chg0 h4' fun h0 b hb hF => key b hF (hu h0 b hb)⟩
  rintro b (hb | hb | hb | hb)
  · exact h2 b (.inl hb)
  · exact h2 b (.inr (.inl hb))
  · have := h5 b hb; omega
  · cases hb
theorem dkB_fuse (h : DkB B w p d) (hB : B = w0.heap.size) (hbel : Below B w0 w) (k : Int) (hk : k ≤ 9223372036854775807) : Calls Try.prog 33 #[ptrTo p, .int .i64 k] w fun e w' => e = .returned (.tuple #[]) ∧ DkB B w' p (d.fused k) ∧ Below B w0 w' := by
  obtain ⟨vk, vn, vw, h1, h2⟩ := h
  have hs := hbel.size
  refine (dkFuse_any h1 k hk).mono ?_
  rintro e w' ⟨rfl, h3, h4⟩
  exact ⟨rfl, ⟨vk, vn, vw, h3, h2⟩, hbel.trans (h4.below (by omega) fun b hb => h2 b (.inl hb))⟩
theorem dkB_off (h : DkB B w p d) : Calls Try.prog 32 #[ptrTo p] w fun e w' => e = .returned (.bool d.off) ∧ w' = w := by
  obtain ⟨vk, vn, vw, h1, _⟩ := h
  exact dkOff_any h1
theorem dkB_waiting (h : DkB B w p d) : Calls Try.prog 21 #[ptrTo p] w fun e w' => e = .returned (.int .i64 d.m) ∧ w' = w := by
  obtain ⟨vk, vn, vw, h1, _⟩ := h
  exact dkWaiting_any h1
end
end Go.Proofs.Ytlmdgmgbijfaoaa
