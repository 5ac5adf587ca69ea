/-
  bastilleref06.Q: the order's digits. Conditions: named in each theorem.
-/
import Derived.Test.YtiiafgbdmejcpaaRef5
namespace Go.Proofs.Ytiiafgbdmejcpaa
open Go.RowKit Go.Bas
attribute [local go_sem ↓] Go.wp_at_zero Go.wp_at_succ

/-- the decimal digits. -/
def dec : List Nat := [50, 55, 55, 52, 50, 51, 49, 55, 55, 55, 55, 51, 55, 50, 51, 53, 51, 53, 51, 53, 56, 53, 49, 57, 51, 55, 55, 57, 48, 56, 56, 51, 54, 52, 56, 52, 57, 51]
/-- the number of the first n of them. -/
def decN : Nat → Int
  | 0 => 0
  | n + 1 => 10 * decN n + ((dec.getD n 48 : Nat) - 48)
/-- the carry into digit k when X is taken ten times and b added. -/
def car10 (X b : Int) (k : Nat) : Int := (10 * X + b) / 65536 ^ k - 10 * (X / 65536 ^ k)
theorem car10_zero (X b : Int) : car10 X b 0 = b := by simp [car10]; omega
theorem car10_step (X b : Int) (k : Nat) : (10 * dg 65536 X k + car10 X b k) % 65536 = dg 65536 (10 * X + b) k ∧ (10 * dg 65536 X k + car10 X b k) / 65536 = car10 X b (k + 1) := by
  unfold car10 dg
  rw [div_succ (by decide) X, div_succ (by decide) (10 * X + b)]
  omega
theorem decQ : decN 38 + 4096 * 65536 ^ 15 = Q := by decide
set_option maxRecDepth 100000 in
theorem dec_digit (i : Nat) (h : i < 38) : 48 ≤ dec.getD i 48 ∧ dec.getD i 48 ≤ 57 := by
  have key : ∀ i : Fin 38, 48 ≤ dec.getD i.val 48 ∧ dec.getD i.val 48 ≤ 57 := by decide
  exact key ⟨i, h⟩

set_option maxRecDepth 100000 in
theorem dec_last : ∀ i, i < 16 → upd (dg 65536 (decN 38)) 15 (dg 65536 (decN 38) 15 + 4096) i = dg 65536 Q i := by
  have key : ∀ i : Fin 16, upd (dg 65536 (decN 38)) 15 (dg 65536 (decN 38) 15 + 4096) i.val = dg 65536 Q i.val := by decide
  exact fun i h => key ⟨i, h⟩

set_option maxRecDepth 100000 in
theorem dec_byte (i : Nat) (h : i < 38) (h' : i < (⟨#[50, 55, 55, 52, 50, 51, 49, 55, 55, 55, 55, 51, 55, 50, 51, 53, 51, 53, 51, 53, 56, 53, 49, 57, 51, 55, 55, 57, 48, 56, 56, 51, 54, 52, 56, 52, 57, 51]⟩ : ByteArray).size) : (⟨#[50, 55, 55, 52, 50, 51, 49, 55, 55, 55, 55, 51, 55, 50, 51, 53, 51, 53, 51, 53, 56, 53, 49, 57, 51, 55, 55, 57, 48, 56, 56, 51, 54, 52, 56, 52, 57, 51]⟩ : ByteArray)[i].toNat = dec.getD i 48 := by
  have key : ∀ i : Fin 38, ((⟨#[50, 55, 55, 52, 50, 51, 49, 55, 55, 55, 55, 51, 55, 50, 51, 53, 51, 53, 51, 53, 56, 53, 49, 57, 51, 55, 55, 57, 48, 56, 56, 51, 54, 52, 56, 52, 57, 51]⟩ : ByteArray)[i.val]'i.isLt).toNat = dec.getD i.val 48 := by decide
  exact key ⟨i, h⟩

set_option maxRecDepth 100000 in
set_option maxHeartbeats 1600000 in
theorem rQ_any (w : World) :
    Calls Try.prog 33 #[] w fun e w' =>
      ∃ v, e = .returned v ∧ Own .i64 3 w.heap.size w' v 16 (dg 65536 Q) ∧ Below w.heap.size w w' := by
  go_enter Try.func33, Try.ntmps33
  go_wp2_with (refine make_ints rfl _ _ 59 rfl w.heap.size 3 .i64 8 Try.underlying59 Try.info3 .i64 .i64 16 rfl rfl (by decide) (by decide) (Nat.le_refl _) ?_; intro w1 hown hgrow)
  have hb1 : Below w.heap.size w w1 := below_grown0 (Below.refl _ _) hgrow (Nat.le_refl _)
  clear hgrow
  go_loopw [3] (fun i wr => ∃ n : Nat, n ≤ 38 ∧ i = .int .i64 n ∧ Own .i64 3 w.heap.size wr (.slice (some ⟨w.heap.size, 0, none⟩) 16 16) 16 (dg 65536 (decN n)) ∧ Below w.heap.size w wr) (fun i _ => 38 - (intOf i).toNat)
  case atStart => exact ⟨0, Nat.zero_le _, rfl, hown.congr (fun i _ => by simp [decN, dg_nil]), hb1⟩
  case round =>
    obtain ⟨n, hn, rfl, ho, hbel⟩ := hrel
    by_cases hlt : n < 38
    · obtain ⟨d0, d1⟩ := dec_digit n hlt
      have hby := dec_byte n hlt hlt
      have HD : Hid (decN (n + 1) = 10 * decN n + ((dec.getD n 48 : Nat) - 48)) := rfl
      obtain ⟨c, hc⟩ : ∃ c, c = dec.getD n 48 := ⟨_, rfl⟩
      rw [← hc] at d0 d1 hby HD
      clear hc
      have HO := Lib.hid ho
      clear ho
      have HB := Lib.hid hbel
      clear hbel
      go_wp2
      go_loopw [4, 5] (fun x i wr => ∃ (k : Nat) (z : Int), k ≤ 16 ∧ z = car10 (decN n) ((c : Int) - 48) k ∧ 0 ≤ z ∧ z ≤ 9 ∧ x = .int .i64 z ∧ i = .int .i64 k ∧ Own .i64 3 w.heap.size wr (.slice (some ⟨w.heap.size, 0, none⟩) 16 16) 16 (upto k (dg 65536 (10 * decN n + ((c : Int) - 48))) (dg 65536 (decN n))) ∧ Below w.heap.size w wr) (fun _ i _ => 16 - (intOf i).toNat)
      case atStart => exact ⟨0, (c : Int) - 48, Nat.zero_le _, (car10_zero _ _).symm, by omega, by omega, rfl, rfl, by rw [upto_zero]; exact HO.out, HB.out⟩
      case round =>
        obtain ⟨k, z, hk, hz, z0, z1, rfl, rfl, ho, hbel⟩ := hrel
        have HZ := Lib.hid hz
        clear hz
        by_cases hkt : k < 16
        · obtain ⟨g, cc, he, _, _, _, _, hcell, hfree⟩ := ho.form (by decide)
          simp only [Value.slice.injEq, Option.some.injEq, Addr.mk.injEq] at he
          obtain ⟨⟨rfl, _⟩, _⟩ := he
          have e1 := hcell k hkt
          have f1 := hfree k
          rw [upto_at] at e1
          obtain ⟨x0, x1⟩ := dg_bound (by decide : (0 : Int) < 65536) (decN n) k
          have hst := car10_step (decN n) ((c : Int) - 48) k
          rw [← HZ.out] at hst
          have HST := Lib.hid hst
          have HO2 := Lib.hid ho
          clear ho hst hcell hfree
          go_wp2
          go_roundw
          case rel => exact ⟨k + 1, _, by omega, HST.out.2, by omega, by omega, rfl, by go_num, by rw [← upto_step HST.out.1]; exact HO2.out.store k _, hbel.setCell (Nat.le_refl _) _⟩
          case measure => simp [intOf] <;> omega
        · obtain rfl : k = 16 := by omega
          have HO2 := Lib.hid ho
          clear ho
          go_wp2
          go_roundw
          case rel => exact ⟨n + 1, by omega, by go_num, by rw [HD.out]; exact HO2.out.congr (upto_full _ _ (Nat.le_refl _)), hbel⟩
          case measure => simp [intOf] <;> omega
    · obtain rfl : n = 38 := by omega
      obtain ⟨g, cc, he, _, _, _, _, hcell, hfree⟩ := ho.form (by decide)
      simp only [Value.slice.injEq, Option.some.injEq, Addr.mk.injEq] at he
      obtain ⟨⟨rfl, _⟩, _⟩ := he
      have e1 := hcell 15 (by decide)
      have f1 := hfree 15
      obtain ⟨x0, x1⟩ := dg_bound (by decide : (0 : Int) < 65536) (decN 38) 15
      have HO := Lib.hid ho
      clear ho hcell hfree
      obtain ⟨t, ht⟩ : ∃ t, t = dg 65536 (decN 38) 15 := ⟨_, rfl⟩
      rw [← ht] at e1 x0 x1
      have HT := Lib.hid ht
      clear ht
      go_wp2
      go_ret
      exact ⟨_, rfl, (HO.out.store 15 _).congr (by rw [HT.out]; exact dec_last), hbel.setCell (Nat.le_refl _) _⟩
end Go.Proofs.Ytiiafgbdmejcpaa
