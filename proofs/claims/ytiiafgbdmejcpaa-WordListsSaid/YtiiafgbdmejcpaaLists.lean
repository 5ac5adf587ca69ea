/-
  The law WordLists returns true for every input. Conditions: the bytes can be read.
-/
import Derived.Test.YtiiafgbdmejcpaaRows
import Derived.Test.YtiiafgbdmejcpaaKit
import Derived.Test.YtiiafgbdmejcpaaOpen
import Derived.Test.YtiiafgbdmejcpaaWords
import Derived.Test.YtiiafgbdmejcpaaTurned
import Derived.Test.YtiiafgbdmejcpaaSame
import Derived.Test.YtiiafgbdmejcpaaPuts
namespace Go.Proofs.Ytiiafgbdmejcpaa
open Go.RowKit Go.Bas

theorem le32_bound {f : Nat → Int} {n j : Nat} (hf : ∀ i, i < n → 0 ≤ f i ∧ f i < 256) (hj : 4 * j + 4 ≤ n) : 0 ≤ le32 f j ∧ le32 f j < 4294967296 := by
  have h0 := hf (4 * j) (by omega)
  have h1 := hf (4 * j + 1) (by omega)
  have h2 := hf (4 * j + 2) (by omega)
  have h3 := hf (4 * j + 3) (by omega)
  unfold le32; omega
theorem le32_big (f : Nat → Int) (j : Nat) : big (fun i => f (4 * j + (4 - 1 - i))) 4 = le32 f j := by
  show 256 * (256 * (256 * (256 * 0 + f (4 * j + 3)) + f (4 * j + 2)) + f (4 * j + 1)) + f (4 * j) = _
  unfold le32; omega
theorem le32_byte {f : Nat → Int} {n : Nat} (hf : ∀ i, i < n → 0 ≤ f i ∧ f i < 256) (p : Nat) (hp : 4 * (p / 4) + 4 ≤ n) : by32 (le32 f) p = f p := by
  obtain ⟨j, t, hp', ht⟩ : ∃ j t, p = j * 4 + t ∧ t < 4 := ⟨p / 4, p % 4, by omega, by omega⟩
  subst hp'
  rw [by32_at _ _ _ ht]
  have h0 := hf (4 * j) (by omega)
  have h1 := hf (4 * j + 1) (by omega)
  have h2 := hf (4 * j + 2) (by omega)
  have h3 := hf (4 * j + 3) (by omega)
  rw [show j * 4 = 4 * j by omega]
  unfold le32
  match t, ht with
  | 0, _ => simp; omega
  | 1, _ => simp; omega
  | 2, _ => show _ / 65536 % 256 = _; omega
  | 3, _ => show _ / 16777216 % 256 = _; omega
theorem be64_byte {f : Nat → Int} {n : Nat} (hf : ∀ i, i < n → 0 ≤ f i ∧ f i < 256) (p : Nat) (hp : 8 * (p / 8) + 8 ≤ n) : by64 (be64 f) p = f p := by
  obtain ⟨j, t, hp', ht⟩ : ∃ j t, p = j * 8 + t ∧ t < 8 := ⟨p / 8, p % 8, by omega, by omega⟩
  subst hp'
  rw [by64_at _ _ _ ht]
  have := big_byte (f := fun i => f (8 * j + i)) (n := 8) (fun i hi => hf _ (by omega)) t ht
  rw [show j * 8 = 8 * j by omega]
  exact this
theorem be64_bound {f : Nat → Int} {n j : Nat} (hf : ∀ i, i < n → 0 ≤ f i ∧ f i < 256) (hj : 8 * j + 8 ≤ n) : 0 ≤ be64 f j ∧ be64 f j < 18446744073709551616 :=
  big_bound (f := fun i => f (8 * j + i)) (n := 8) (fun i hi => hf _ (by omega)) 8 (Nat.le_refl _)

theorem wide_le (va : Value) (f : Nat → Int) (j : Nat) (w : World) (ha : Rd .u8 w va 4 (fun i => f (4 * j + (4 - 1 - i)))) (hf : ∀ i, i < 4 → 0 ≤ f (4 * j + i) ∧ f (4 * j + i) < 256) :
    Calls Try.prog 41 #[va] w fun e w' => e = .returned (.int .u64 (le32 f j)) ∧ Below w.heap.size w w' := by
  have := Wide_any va 4 _ w ha (fun i hi => hf _ (by omega)) (by decide)
  rw [le32_big] at this
  exact this
theorem wide_be (va : Value) (f : Nat → Int) (j : Nat) (w : World) (ha : Rd .u8 w va 8 (fun i => f (8 * j + i))) (hf : ∀ i, i < 8 → 0 ≤ f (8 * j + i) ∧ f (8 * j + i) < 256) :
    Calls Try.prog 41 #[va] w fun e w' => e = .returned (.int .u64 (be64 f j)) ∧ Below w.heap.size w w' :=
  Wide_any va 8 _ w ha hf (by decide)

set_option maxRecDepth 100000 in
set_option maxHeartbeats 1600000 in
theorem wordLists_core (va : Value) (n : Nat) (f : Nat → Int) (w : World) (ha : Rd .u8 w va n f) (hf : ∀ i, i < n → 0 ≤ f i ∧ f i < 256) :
    Calls Try.prog 8 #[va] w fun e w' => e = .returned (.bool true) ∧ Below w.heap.size w w' := by
  have HA := Lib.hid ha
  have HF := Lib.hid hf
  obtain ⟨a1, c1, rfl, l1, m1, z1, h1⟩ := ha
  clear h1 z1 hf
  by_cases hn : 200 < n
  · have hn' : (200 : Int) < n := by omega
    go_enter Try.func8, Try.ntmps8
    go_wp2_with fail
    refine (awake_any _).mono ?_
    rintro e w0 ⟨rfl, hbel0⟩
    go_wp2_with fail
    go_ret
    exact ⟨rfl, hbel0⟩
  have hn' : (n : Int) ≤ 200 := by omega
  by_cases h4 : n % 4 ≠ 0
  · have t4 : ((n : Int) % 4 != 0) = true := by simp; omega
    have t8 : ((n : Int) % 8 != 0) = true := by simp; omega
    have H8 : Hid (n % 8 ≠ 0) := by unfold Hid; omega
    have H4 := Lib.hid h4
    clear h4
    go_enter Try.func8, Try.ntmps8
    go_wp2_with fail
    refine (awake_any _).mono ?_
    rintro e w0 ⟨rfl, hbel0⟩
    go_wp2_with fail
    refine (words32_bad _ n f _ (HA.out.below hbel0) H4.out).mono ?_
    rintro e w1 ⟨rfl, hbel1⟩
    go_wp2_with fail
    refine (words64_bad _ n f _ ((HA.out.below hbel0).below hbel1) H8.out).mono ?_
    rintro e w2 ⟨rfl, hbel2⟩
    go_wp2_with fail
    go_loop [56] (fun i => i = .int .i64 0) (fun _ => 0)
    case atStart => rfl
    case round =>
      obtain rfl := hrel
      go_wp2_with fail
      go_ret
      have h0 := hbel0.size
      have h1 := hbel1.size
      exact ⟨rfl, (hbel0.trans (hbel1.mono (by omega))).trans (hbel2.mono (by omega))⟩
  · obtain ⟨q, hq⟩ : ∃ q, n = 4 * q := ⟨n / 4, by omega⟩
    subst hq
    have t4 : (((4 * q : Nat) : Int) % 4 != 0) = false := by simp
    have hq50 : q ≤ 50 := by omega
    clear h4
    by_cases h8 : (4 * q) % 8 ≠ 0
    · have t8 : (((4 * q : Nat) : Int) % 8 != 0) = true := by simp; omega
      have H8 := Lib.hid h8
      clear h8
      go_enter Try.func8, Try.ntmps8
      go_wp2_with fail
      refine (awake_any _).mono ?_
      rintro e w0 ⟨rfl, hbel0⟩
      go_wp2_with fail
      refine (words32_ok _ q f _ (HA.out.below hbel0) HF.out (by omega)).mono ?_
      rintro e w1 ⟨v1, rfl, hown1, hbel1⟩
      obtain ⟨a2, c2, hv1, l2, m2, _, H2⟩ := hown1.rd
      subst hv1
      have HO1 := Lib.hid hown1
      have HR1 := Lib.hid H2
      clear hown1 H2
      go_wp2_with fail
      refine (words64_bad _ (4 * q) f _ ((HA.out.below hbel0).below hbel1) H8.out).mono ?_
      rintro e w2 ⟨rfl, hbel2⟩
      go_wp2_with fail
      refine (bytes32_any _ q (le32 f) _ ((HO1.out.below hbel2).rd) (fun i hi => le32_bound HF.out (by omega)) (by omega)).mono ?_
      rintro e w3 ⟨v3, rfl, hown3, hbel3⟩
      have HO3 := Lib.hid hown3
      clear hown3
      go_wp2_with fail
      have HB3 := HA.out.below hbel0 |>.below hbel1 |>.below hbel2 |>.below hbel3
      have HB3' := Lib.hid HB3
      clear HB3
      refine (same_yes _ _ (4 * q) _ _ _ (by rw [Nat.mul_comm]; exact HO3.out.rd) HB3'.out (fun i hi => le32_byte HF.out i (by omega))).mono ?_
      rintro e w4 ⟨rfl, hbel4⟩
      go_wp2_with fail
      have hall : Below w.heap.size w w4 := by
        have h3 := hbel3.size
        have h2 := hbel2.size
        have h1 := hbel1.size
        have h0 := hbel0.size
        exact (((hbel0.trans (hbel1.mono (by omega))).trans (hbel2.mono (by omega))).trans (hbel3.mono (by omega))).trans (hbel4.mono (by omega))
      have HO4 := (HO1.out.below hbel2 |>.below hbel3 |>.below hbel4)
      have HO4' := Lib.hid HO4
      have HA4 := HB3'.out.below hbel4
      have HA4' := Lib.hid HA4
      clear HO4 HA4 hbel0 hbel1 hbel2 hbel3 hbel4 HO1 HO3 HB3' HR1
      go_loopw [56] (fun i wr => ∃ k : Nat, k ≤ q ∧ i = .int .i64 k ∧ Below w.heap.size w wr ∧ Below w4.heap.size w4 wr) (fun i _ => q - (intOf i).toNat)
      case atStart => exact ⟨0, Nat.zero_le _, rfl, hall, Below.refl _ _⟩
      case round =>
        obtain ⟨k, hk, rfl, hb1, hb2⟩ := hrel
        by_cases hlt : k < q
        · have HOr := HO4'.out.rd.below hb2
          obtain ⟨_, _, he, _, _, _, hcell⟩ := HOr
          simp only [Value.slice.injEq, true_and] at he
          obtain ⟨rfl, rfl⟩ := he
          obtain ⟨b, o, rfl, hbl, hc⟩ := hcell (by omega)
          have e1 := hc k hlt
          clear hc hcell
          have HRr := HA4'.out.below hb2
          have HRr0 := HRr
          obtain ⟨_, _, he, _, _, _, hcell⟩ := HRr0
          simp only [Value.slice.injEq, true_and] at he
          obtain ⟨rfl, rfl⟩ := he
          obtain ⟨b', o', rfl, _, _⟩ := hcell (by omega)
          clear hcell
          have HRq := Lib.hid HRr
          clear HRr
          obtain ⟨f0, f1⟩ := le32_bound (j := k) HF.out (by omega)
          go_wp2_with fail
          refine (Turned_any _ 4 (fun i => f (4 * k + i)) _ (Rd.cutSome HRq.out (4 * k) 4 (by omega)) (by decide)).mono ?_
          rintro e w5 ⟨v5, rfl, hown5, hbel5⟩
          have HO5 := Lib.hid hown5
          clear hown5
          go_wp2_with fail
          refine (wide_le _ f k _ HO5.out.rd (fun i hi => HF.out _ (by omega))).mono ?_
          rintro e w6 ⟨rfl, hbel6⟩
          go_wp2_with fail
          go_roundw
          case rel =>
            have hs5 := hbel5.size
            have hs2 := hb2.size
            have hs1 := hb1.size
            exact ⟨k + 1, by omega, by go_num, (hb1.trans (hbel5.mono hs1)).trans (hbel6.mono (by omega)), (hb2.trans (hbel5.mono hs2)).trans (hbel6.mono (by omega))⟩
          case measure => simp [intOf] <;> omega
        · go_wp2_with fail
          go_ret
          exact ⟨rfl, hb1⟩
    · obtain ⟨p, hp⟩ : ∃ p, 4 * q = 8 * p := ⟨q / 2, by omega⟩
      have t8 : (((4 * q : Nat) : Int) % 8 != 0) = false := by simp; omega
      have HP := Lib.hid hp
      have hp1 : 8 * p ≤ 4 * q := by omega
      have hp2 : 4 * q ≤ 8 * p := by omega
      clear h8 hp
      go_enter Try.func8, Try.ntmps8
      go_wp2_with fail
      refine (awake_any _).mono ?_
      rintro e w0 ⟨rfl, hbel0⟩
      go_wp2_with fail
      refine (words32_ok _ q f _ (HA.out.below hbel0) HF.out (by omega)).mono ?_
      rintro e w1 ⟨v1, rfl, hown1, hbel1⟩
      obtain ⟨a2, c2, hv1, l2, m2, _, H2⟩ := hown1.rd
      subst hv1
      have HO1 := Lib.hid hown1
      have HR1 := Lib.hid H2
      clear hown1 H2
      go_wp2_with fail
      refine (words64_ok _ p f _ (by rw [← HP.out]; exact (HA.out.below hbel0).below hbel1) (fun i hi => HF.out i (by omega)) (by omega)).mono ?_
      rintro e w2 ⟨v2, rfl, hown2, hbel2⟩
      obtain ⟨a3, c3, hv2, l3, m3, _, _⟩ := hown2.rd
      subst hv2
      have HO2 := Lib.hid hown2
      clear hown2
      go_wp2_with fail
      refine (bytes32_any _ q (le32 f) _ ((HO1.out.below hbel2).rd) (fun i hi => le32_bound HF.out (by omega)) (by omega)).mono ?_
      rintro e w3 ⟨v3, rfl, hown3, hbel3⟩
      have HO3 := Lib.hid hown3
      clear hown3
      go_wp2_with fail
      have HB3 := HA.out.below hbel0 |>.below hbel1 |>.below hbel2 |>.below hbel3
      have HB3' := Lib.hid HB3
      clear HB3
      refine (same_yes _ _ (4 * q) _ _ _ (by rw [Nat.mul_comm]; exact HO3.out.rd) HB3'.out (fun i hi => le32_byte HF.out i (by omega))).mono ?_
      rintro e w4 ⟨rfl, hbel4⟩
      go_wp2_with fail
      have hall : Below w.heap.size w w4 := by
        have h3 := hbel3.size
        have h2 := hbel2.size
        have h1 := hbel1.size
        have h0 := hbel0.size
        exact (((hbel0.trans (hbel1.mono (by omega))).trans (hbel2.mono (by omega))).trans (hbel3.mono (by omega))).trans (hbel4.mono (by omega))
      have HO4 := (HO1.out.below hbel2 |>.below hbel3 |>.below hbel4)
      have HO4' := Lib.hid HO4
      have HM4 := (HO2.out.below hbel3 |>.below hbel4)
      have HM4' := Lib.hid HM4
      have HA4 := HB3'.out.below hbel4
      have HA4' := Lib.hid HA4
      clear HO4 HA4 HM4 hbel0 hbel1 hbel2 hbel3 hbel4 HO1 HO2 HO3 HB3' HR1
      go_loopw [56] (fun i wr => ∃ k : Nat, k ≤ q ∧ i = .int .i64 k ∧ Below w.heap.size w wr ∧ Below w4.heap.size w4 wr) (fun i _ => q - (intOf i).toNat)
      case atStart => exact ⟨0, Nat.zero_le _, rfl, hall, Below.refl _ _⟩
      case round =>
        obtain ⟨k, hk, rfl, hb1, hb2⟩ := hrel
        by_cases hlt : k < q
        · have HOr := HO4'.out.rd.below hb2
          obtain ⟨_, _, he, _, _, _, hcell⟩ := HOr
          simp only [Value.slice.injEq, true_and] at he
          obtain ⟨rfl, rfl⟩ := he
          obtain ⟨b, o, rfl, hbl, hc⟩ := hcell (by omega)
          have e1 := hc k hlt
          clear hc hcell
          have HRr := HA4'.out.below hb2
          have HRr0 := HRr
          obtain ⟨_, _, he, _, _, _, hcell⟩ := HRr0
          simp only [Value.slice.injEq, true_and] at he
          obtain ⟨rfl, rfl⟩ := he
          obtain ⟨b', o', rfl, _, _⟩ := hcell (by omega)
          clear hcell
          have HRq := Lib.hid HRr
          clear HRr
          obtain ⟨f0, f1⟩ := le32_bound (j := k) HF.out (by omega)
          go_wp2_with fail
          refine (Turned_any _ 4 (fun i => f (4 * k + i)) _ (Rd.cutSome HRq.out (4 * k) 4 (by omega)) (by decide)).mono ?_
          rintro e w5 ⟨v5, rfl, hown5, hbel5⟩
          have HO5 := Lib.hid hown5
          clear hown5
          go_wp2_with fail
          refine (wide_le _ f k _ HO5.out.rd (fun i hi => HF.out _ (by omega))).mono ?_
          rintro e w6 ⟨rfl, hbel6⟩
          go_wp2_with fail
          go_roundw
          case rel =>
            have hs5 := hbel5.size
            have hs2 := hb2.size
            have hs1 := hb1.size
            exact ⟨k + 1, by omega, by go_num, (hb1.trans (hbel5.mono hs1)).trans (hbel6.mono (by omega)), (hb2.trans (hbel5.mono hs2)).trans (hbel6.mono (by omega))⟩
          case measure => simp [intOf] <;> omega
        · have HMr := HM4'.out.below hb2
          have HMq := Lib.hid HMr
          have HAr := HA4'.out.below hb2
          have HAq := Lib.hid HAr
          clear HMr HAr HM4' HA4' HO4' hb2
          have tl : (8 * (p : Int) != 4 * (q : Int)) = false := by simp; omega
          go_wp2_with fail
          refine (bytes64_any _ p (be64 f) _ HMq.out.rd (fun i hi => be64_bound HF.out (by omega)) (by omega)).mono ?_
          rintro e w5 ⟨v5, rfl, hown5, hbel5⟩
          have HO5 := Lib.hid hown5
          clear hown5
          go_wp2_with fail
          refine (same_yes _ _ (4 * q) _ _ _ (by rw [show 4 * q = p * 8 by have := HP.out; omega]; exact HO5.out.rd) (HAq.out.below hbel5) (fun i hi => be64_byte HF.out i (by omega))).mono ?_
          rintro e w6 ⟨rfl, hbel6⟩
          have hb6 : Below w.heap.size w w6 := by
            have h5 := hbel5.size
            have h1 := hb1.size
            exact (hb1.trans (hbel5.mono (by omega))).trans (hbel6.mono (by omega))
          have HM6 := (HMq.out.below hbel5).below hbel6
          have HM6' := Lib.hid HM6
          have HA6 := (HAq.out.below hbel5).below hbel6
          have HA6' := Lib.hid HA6
          clear HM6 HA6 HMq HAq hbel5 hbel6 hb1 HO5
          go_wp2_with fail
          go_loopw [104] (fun i wr => ∃ k : Nat, k ≤ p ∧ i = .int .i64 k ∧ Below w.heap.size w wr ∧ Below w6.heap.size w6 wr) (fun i _ => p - (intOf i).toNat)
          case atStart => exact ⟨0, Nat.zero_le _, rfl, hb6, Below.refl _ _⟩
          case round =>
            obtain ⟨k, hk, rfl, hb1, hb2⟩ := hrel
            by_cases hlt : k < p
            · have HOr := HM6'.out.rd.below hb2
              obtain ⟨_, _, he, _, _, _, hcell⟩ := HOr
              simp only [Value.slice.injEq, true_and] at he
              obtain ⟨rfl, rfl⟩ := he
              obtain ⟨b, o, rfl, hbl, hc⟩ := hcell (by omega)
              have e1 := hc k hlt
              clear hc hcell
              have HRr := HA6'.out.below hb2
              have HRr0 := HRr
              obtain ⟨_, _, he, _, _, _, hcell⟩ := HRr0
              simp only [Value.slice.injEq, true_and] at he
              obtain ⟨rfl, rfl⟩ := he
              obtain ⟨b', o', rfl, _, _⟩ := hcell (by omega)
              clear hcell
              have HRq := Lib.hid HRr
              clear HRr
              go_wp2_with fail
              refine (wide_be _ f k _ (Rd.cutSome HRq.out (8 * k) 8 (by omega)) (fun i hi => HF.out _ (by omega))).mono ?_
              rintro e w7 ⟨rfl, hbel7⟩
              go_wp2_with fail
              go_roundw
              case rel =>
                have hs2 := hb2.size
                have hs1 := hb1.size
                exact ⟨k + 1, by omega, by go_num, (hb1.trans (hbel7.mono hs1)), (hb2.trans (hbel7.mono hs2))⟩
              case measure => simp [intOf] <;> omega
            · go_wp2_with fail
              go_ret
              exact ⟨rfl, hb1⟩

theorem wordLists_law (w : World) (va : Value) (n : Nat) (f : Nat → Int) (ha : Rd .u8 w va n f) (hb : ∀ i, i < n → (Lit.int .u8 (f i)).wf = true) :
    Calls Try.prog 8 #[va] w fun e w' => e = .returned (.bool true) ∧ Below w.heap.size w w' :=
  wordLists_core va n f w ha (fun i hi => by have := bounds_u8 (hb i hi); omega)
end Go.Proofs.Ytiiafgbdmejcpaa
