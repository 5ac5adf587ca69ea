/-
  The disk in memory: what it is, and the methods that only read. Conditions: named in each theorem.
-/
import Derived.Test.YtlmdgmgbijfaoaaTypes
import Derived.Test.YtlmdgmgbijfaoaaOwM
import Derived.Test.YtlmdgmgbijfaoaaEarly
import Derived.Test.YtlmdgmgbijfaoaaDkN
import Derived.Test.YtlmdgmgbijfaoaaElem
set_option linter.unusedVariables false
set_option linter.unusedSimpArgs false
namespace Go.Bas
open Go.RowKit
theorem RowB.ne {w : World} {g g' m m' : Nat} {e e' : TypeId} (h : RowB w g e m) (h' : RowB w g' e' m') (hne : e ≠ e') : g ≠ g' := by
  rintro rfl
  obtain ⟨c, h, _⟩ := h
  obtain ⟨c', h', _⟩ := h'
  rw [h] at h'
  simp at h'
  exact hne h'.2
end Go.Bas
namespace Go.Proofs.Ytlmdgmgbijfaoaa
open Go.RowKit Go.Bas Go.ChangeShapes
attribute [local go_sem ↓] Go.wp_at_zero Go.wp_at_succ
/-- a write that waits, cell by cell. -/
def wtC (ps : Nat → Nat) (bs : Nat → Nat → Int) (j i : Nat) : Value := if i = 0 then .int .i64 (ps j) else .int .u8 (bs j (i - 1))
/-- the disk d lies at block p; vk, vn, vw are its lists; its sectors read as N. -/
structure DkR (w : World) (p : Nat) (vk vn vw : Value) (d : Dsk) (N : Nat → Nat → Int) : Prop where
  row : RowB w p 134 6
  ck : w.cell? ⟨p, 0, none⟩ = some vk
  cn : w.cell? ⟨p, 1, none⟩ = some vn
  cw : w.cell? ⟨p, 2, none⟩ = some vw
  cf : w.cell? ⟨p, 3, none⟩ = some (.int .i64 d.fuse)
  co : w.cell? ⟨p, 4, none⟩ = some (.bool d.off)
  cl : w.cell? ⟨p, 5, none⟩ = some (.int .i64 d.lives)
  kept : OwM 137 64 w vk d.n (fun j i => .int .u8 (d.K j i))
  now : OwM 137 64 w vn d.n (fun j i => .int .u8 (N j i))
  wait : OwM 139 65 w vw d.m (wtC d.ps d.bs)
  apart : vk.ownBlock ≠ vn.ownBlock
  n0 : 0 < d.n
  n1 : d.n ≤ 16384
  ps : ∀ j, j < d.m → d.ps j < d.n
  m1 : d.m ≤ 1000000
  f0 : -1 ≤ d.fuse
  f1 : d.fuse ≤ 9223372036854775807
  l0 : -9223372036854775808 ≤ d.lives
  l1 : d.lives ≤ 9223372036854775807
abbrev DkAt (w : World) (p : Nat) (vk vn vw : Value) (d : Dsk) : Prop := DkR w p vk vn vw d d.now
/-- the pointer to block p. -/
abbrev ptrTo (p : Nat) : Value := .pointer (some ⟨p, 0, none⟩)
section
variable {w : World} {p : Nat} {vk vn vw : Value} {d : Dsk} {N : Nat → Nat → Int}
set_option maxRecDepth 100000 in
theorem dkIs_any (h : DkR w p vk vn vw d N) : Calls Try.prog 79 #[ptrTo p] w fun e w' => e = .returned (.bool true) ∧ w' = w := by
  have h1 := h.cn
  obtain ⟨g, cap, rfl, _⟩ := h.now.form h.n0
  have h0 := h.n0
  clear h
  have hgt : (0 : Int) < (d.n : Int) := by omega
  go_enter Try.func79, Try.ntmps79
  go_wp2
  go_ret
  exact ⟨rfl, rfl⟩
set_option maxRecDepth 100000 in
theorem dkIs_nil (w : World) : Calls Try.prog 79 #[.pointer none] w fun e w' => e = .returned (.bool false) ∧ w' = w := by
  go_enter Try.func79, Try.ntmps79
  go_wp2
  go_ret
  exact ⟨rfl, rfl⟩
set_option maxRecDepth 100000 in
theorem dkMay_any (h : DkR w p vk vn vw d N) (k : Int) : Calls Try.prog 77 #[ptrTo p, .int .i64 k] w fun e w' => e = .returned (.int .i64 (d.may k)) ∧ w' = w := by
  have HI := Lib.hid (dkIs_any h)
  have h1 := h.cn
  have h2 := h.co
  obtain ⟨g, cap, rfl, _⟩ := h.now.form h.n0
  have h0 := h.n0
  clear h
  obtain ⟨E, hE⟩ : ∃ x, x = d.may k := ⟨_, rfl⟩
  rw [← hE]
  unfold Dsk.may at hE
  go_enter Try.func77, Try.ntmps77
  go_wp2_with fail
  refine HI.out.mono ?_
  rintro e w' ⟨rfl, rfl⟩
  by_cases hoff : d.off = true
  · rw [if_pos hoff] at hE
    rw [hoff] at h2
    subst hE
    go_wp2
    go_ret
    exact ⟨rfl, rfl⟩
  · rw [if_neg hoff] at hE
    have hoff' : d.off = false := by simpa using hoff
    rw [hoff'] at h2
    by_cases hk : k < 0
    · rw [if_pos (.inl hk)] at hE
      subst hE
      go_wp2
      go_ret
      exact ⟨rfl, rfl⟩
    · have hk' : ¬ k < 0 := hk
      by_cases hn : (d.n : Int) ≤ k
      · rw [if_pos (.inr hn)] at hE
        subst hE
        go_wp2
        go_ret
        exact ⟨rfl, rfl⟩
      · rw [if_neg (by omega)] at hE
        have hn' : ¬ (d.n : Int) ≤ k := hn
        subst hE
        go_wp2
        go_ret
        exact ⟨rfl, rfl⟩
end
end Go.Proofs.Ytlmdgmgbijfaoaa
