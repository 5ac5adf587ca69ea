/-
  Part 30 of the texts that the proof of SignVerifies rests on, one after the other. Conditions: named in each theorem.
-/
import Derived.Test.YtdhejcaapdhhfaaPkSignVerifies16
import Derived.Test.YtdhejcaapdhhfaaPkSignVerifies15
import Derived.Test.YtdhejcaapdhhfaaPkSignVerifies10
import Derived.Test.YtdhejcaapdhhfaaPkSignVerifies1
import Derived.Test.YtdhejcaapdhhfaaPkSignVerifies3
import Derived.Test.YtdhejcaapdhhfaaPkSignVerifies2
import Derived.Test.YtdhejcaapdhhfaaPkSignVerifies9
import Derived.Test.YtdhejcaapdhhfaaPkSignVerifies8
import Derived.Test.YtdhejcaapdhhfaaPkSignVerifies4
import Derived.Test.YtdhejcaapdhhfaaPkSignVerifies5
import Derived.Test.YtdhejcaapdhhfaaPkSignVerifies6
import Derived.Test.YtdhejcaapdhhfaaPkSignVerifies28
import Derived.Test.YtdhejcaapdhhfaaPkSignVerifies27
import Derived.Test.YtdhejcaapdhhfaaPkSignVerifies20
import Derived.Test.YtdhejcaapdhhfaaPkSignVerifies19
import Derived.Test.YtdhejcaapdhhfaaPkSignVerifies25
import Derived.Test.YtdhejcaapdhhfaaPkSignVerifies23
import Derived.Test.YtdhejcaapdhhfaaPkSignVerifies29
import Derived.Test.YtdhejcaapdhhfaaPkSignVerifies13
import Derived.Test.YtdhejcaapdhhfaaPkSignVerifies12
import Derived.Test.YtdhejcaapdhhfaaPkSignVerifies11
import Derived.Test.YtdhejcaapdhhfaaPkSignVerifies18
import Derived.Test.YtdhejcaapdhhfaaPkSignVerifies7
import Derived.Test.YtdhejcaapdhhfaaPkSignVerifies14
import Derived.Test.YtdhejcaapdhhfaaPkSignVerifies17
import Derived.Test.YtdhejcaapdhhfaaPkSignVerifies26
import Derived.Test.YtdhejcaapdhhfaaPkSignVerifies24
import Derived.Test.YtdhejcaapdhhfaaPkSignVerifies22
import Derived.Test.YtdhejcaapdhhfaaPkSignVerifies21
import Derived.BigFrame
import Derived.BigQuiet
import Derived.ChangeKeysEq
import Derived.ChangeOld
import Derived.Deep.Cut
import Derived.Deep.DrawnRows
import Derived.Deep.LoopGhost
import Derived.Deep.MidRow
import Derived.Deep.QuietTactic
import Derived.Deep.RegionHeld3
import Derived.Deep.RegionLaw
import Derived.Deep.WholeRow
import Derived.Great.BuildSlice
import Derived.Laws.BitsAllLaws
import Derived.Laws.BytesArg
import Derived.Laws.CopyOwn
import Derived.Laws.IdiomCopy
import Derived.Laws.IdiomStrings
import Derived.Laws.Strings
import Derived.Laws.StructEq
import Derived.Lib.BufferRead
import Derived.Lib.Hide
import Derived.Maps.AppendAt
import Derived.Maps.Range
import Derived.OpenShut
import Derived.Orders
import Derived.OrdersIn
import Derived.OwnWalkIn
import Derived.ProofKit
import Derived.RangeFuncBox
import Derived.RangeFuncCalls
import Derived.ShutString
import Derived.Test.YtdhejcaapdhhfaaArr
import Derived.Test.YtdhejcaapdhhfaaFlow
import Derived.Test.YtdhejcaapdhhfaaKit
import Derived.Test.YtdhejcaapdhhfaaOpen
import Derived.Test.YtdhejcaapdhhfaaRows
import Derived.Test.YtdhejcaapdhhfaaTxt
import Derived.WalkKit
import Derived.WalkLawsBesides
import Derived.WalkSmall
import Derived.WalkSpells
set_option linter.unusedVariables false
set_option linter.unusedSimpArgs false
namespace Go.Proofs.Ytdhejcaapdhhfaa
open Go.RowKit Go.Bas
attribute [local go_sem ↓] Go.wp_at_zero Go.wp_at_succ

set_option maxRecDepth 100000 in
set_option maxHeartbeats 1600000 in
theorem rList_any (f : Nat → Int) (hf : ∀ i, i < 64 → 0 ≤ f i ∧ f i < 256) (w : World) :
    Calls Try.prog 74 #[.agg (arr .u8 64 f)] w fun e w' => ∃ v, e = .returned v ∧ Go.Bas.Own .u8 5 (w.heap.size + 1) w' v 64 f ∧ Below w.heap.size w w' := by
  have HF := Lib.hid hf
  clear hf
  go_enter Try.func74, Try.ntmps74
  have hA1 : Arr .u8 (w.alloc (.cells (arr .u8 64 f) 60)) w.heap.size 64 f := Arr.newAt rfl rfl
  have hb1 : Below w.heap.size w (w.alloc (.cells (arr .u8 64 f) 60)) := (Below.refl _ _).alloc (Nat.le_refl _) _
  go_wp2
  go_loopw [3, 4] (fun v i wr => ∃ k : Nat, k ≤ 64 ∧ i = .int .i64 (k : Int) ∧ Go.Bas.Own .u8 5 (w.heap.size + 1) wr v k f ∧ Arr .u8 wr w.heap.size 64 f ∧ Below w.heap.size w wr ∧ w.heap.size + 1 ≤ wr.heap.size) (fun _ i _ => 64 - (intOf i).toNat)
  case atStart => exact ⟨0, Nat.zero_le _, rfl, Go.Bas.Own.nil _ _ _ _ _, hA1, hb1, by simp⟩
  case round =>
    clear hA1 hb1
    obtain ⟨k, hk, rfl, ho, hA, hbel, hsz⟩ := hrel
    have HO := Lib.hid ho
    have HA := Lib.hid hA
    clear ho hA
    by_cases hlt : k < 64
    · obtain ⟨x, hx⟩ : ∃ x, x = f k := ⟨_, rfl⟩
      have x01 := HF.out k hlt
      have e1 := HA.out.cell k hlt
      rw [← hx] at x01 e1
      obtain ⟨x0, x1⟩ := x01
      have HX := Lib.hid hx
      have hne := HO.out.far (Nat.lt_succ_self w.heap.size)
      clear hx
      go_wp2_with (at_builtin; refine append_new rfl _ _ 56 rfl (w.heap.size + 1) 5 .u8 1 Try.underlying56 Try.info5 _ k f _ _ rfl HO.out rfl 1 rfl rfl ?_ (by omega) (by omega) (by omega) ?_; rotate_right; intro v' w6 hown hgrow)
      · go_roundw
        case rel => exact ⟨k + 1, by omega, by go_num, hown, (Arr.alloc HA.out _).grown hgrow hne, below_grown (hbel.alloc (by omega) _) hgrow HO.out (by simp; omega) (by omega), by have := hgrow.size; simp at this; omega⟩
        case measure => simp [intOf] <;> omega
      · first | exact HX.out | (intro i hi; exact one0 hi (by rw [show k + i = k by omega]; exact HX.out))
    · obtain rfl : k = 64 := by omega
      have HO2 := HO.out
      go_wp2
      go_ret
      exact ⟨_, rfl, HO2, hbel⟩

end Go.Proofs.Ytdhejcaapdhhfaa
namespace Go.Proofs.Ytdhejcaapdhhfaa
open Go.RowKit Go.Bas
attribute [local go_sem ↓] Go.wp_at_zero Go.wp_at_succ

end Go.Proofs.Ytdhejcaapdhhfaa
namespace Go.Proofs.Ytdhejcaapdhhfaa
open Go.RowKit Go.Bas
attribute [local go_sem ↓] Go.wp_at_zero Go.wp_at_succ

end Go.Proofs.Ytdhejcaapdhhfaa

namespace Go.Proofs.Ytdhejcaapdhhfaa
open Go.RowKit Go.Bas Go.ChangeShapes
attribute [local go_sem ↓] Go.wp_at_zero Go.wp_at_succ
set_option maxRecDepth 100000 in
set_option maxHeartbeats 1600000 in
theorem rdNumber_any (v : Value) (n : Nat) (f : Nat → Int) (w : World) (hv : Rd .u8 w v n f) (hn : n ≤ 1000000) (hf : ∀ i, i < n → 0 ≤ f i ∧ f i < 256) :
    Calls Try.prog 42 #[v] w fun e w' => e = .returned (.agg (arr .u8 32 (dg 256 ((numN n f : Nat) : Int)))) ∧ Below w.heap.size w w' := by
  have HS := Lib.hid (fun w' h => rSum_any v n f w' h hn hf)
  have HV := Lib.hid hv
  have HLI := Lib.hid (fun w => rList_any (sumB n f) (fun i _ => sumB_bound n f i) w)
  have HOF : Hid (∀ w u, Rd .u8 w u 64 (sumB n f) → Calls Try.prog 73 #[u] w fun e w' => e = .returned (.agg (arr .u8 32 (dg 256 ((numN n f : Nat) : Int)))) ∧ Below w.heap.size w w') := fun w u hu => by
    have hb : ∀ i, i < 64 → 0 ≤ sumB n f i ∧ sumB n f i < 256 := fun i _ => sumB_bound n f i
    have h := qOf_any u (sm 256 (sumB n f) 64) 64 (by decide) (sm_bound (by decide) hb) w (hu.congr fun i hi => (dg_sm (by decide) hb i hi).symm)
    rw [numN_cast]; exact h
  obtain ⟨SB, hSB⟩ : ∃ SB, SB = sumB n f := ⟨_, rfl⟩
  obtain ⟨R, hR⟩ : ∃ R, R = numN n f := ⟨_, rfl⟩
  rw [← hR] at HOF ⊢
  rw [← hSB] at HS HLI HOF
  clear hSB hR hn hf hv
  go_enter Try.func42, Try.ntmps42
  go_upto_region 1 with (fail)
  refine wp_world (fun w1 => Arr .u8 w1 w.heap.size 32 (fun _ => 0) ∧ Below w.heap.size w w1) ⟨Arr.newAt rfl (by rfl), (Below.refl _ _).alloc (Nat.le_refl _) _⟩ ?_
  rintro w1 ⟨hZ, hbel⟩
  go_wp2_with fail
  refine (HS.out _ (HV.out.below hbel)).mono ?_
  rintro e w2 ⟨rfl, hb⟩
  replace hZ := hZ.kept hb
  replace hbel := hbel.trans (hb.mono hbel.size)
  clear hb
  go_wp2_with fail
  refine (HLI.out _).mono ?_
  rintro e w3 ⟨u, rfl, hu, hb⟩
  have HU := Lib.hid hu.rd
  replace hZ := hZ.kept hb
  replace hbel := hbel.trans (hb.mono hbel.size)
  clear hb hu
  go_wp2_with fail
  refine (HOF.out _ _ HU.out).mono ?_
  rintro e w4 ⟨rfl, hb⟩
  replace hZ := hZ.kept hb
  replace hbel := hbel.trans (hb.mono hbel.size)
  clear hb
  go_wp2_with (refine store_arr rfl 22 _ _ rfl .u8 w.heap.size 32 (fun _ => 0) (dg 256 (R : Int)) Try.size22 rfl rfl hZ ?_)
  exact bodyPost_ret (results_arr rfl _ _ .u8 w.heap.size 32 _ 5 rfl (hZ.setRow _ _) Try.underlying22 Try.size22) rfl ⟨rfl, below_setRow' hbel (Nat.le_refl _) _⟩

set_option maxRecDepth 100000 in
set_option maxHeartbeats 1600000 in
theorem rdScalar_any (S : Nat) (hS : S < 2 ^ 256) (w : World) :
    Calls Try.prog 41 #[.agg (arr .u8 32 (dg 256 (S : Int)))] w fun e w' => e = .returned (.bool (decide (S < ordN))) ∧ Below w.heap.size w w' := by
  have HD : Hid (∀ w, Calls Try.prog 23 #[.agg (arr .u8 32 (dg 256 (S : Int)))] w fun e w' => ∃ v, e = .returned v ∧ Rd .i64 w' v 16 (dg 65536 (S : Int)) ∧ Below w.heap.size w w') := fun w => (rDigits_any (S : Int) w).mono fun _ _ ⟨v, h1, h2, h3⟩ => ⟨v, h1, h2.rd, h3⟩
  have HQ : Hid (∀ w, Calls Try.prog 38 #[] w fun e w' => ∃ v, e = .returned v ∧ Rd .i64 w' v 16 (dg 65536 Q) ∧ Below w.heap.size w w') := fun w => (rQ_any w).mono fun _ _ ⟨v, h1, h2, h3⟩ => ⟨v, h1, h2.rd, h3⟩
  have HAL : Hid (∀ w a b, Rd .i64 w a 16 (dg 65536 (S : Int)) → Rd .i64 w b 16 (dg 65536 Q) → Calls Try.prog 25 #[a, b] w fun e w' => e = .returned (.bool (!decide (S < ordN))) ∧ Below w.heap.size w w') := fun w a b ha hb => by
    have h := rAtLeast_any a b (S : Int) Q 16 16 (Nat.le_refl _) w ha hb ⟨by omega, by have e : (65536 : Int) ^ 16 = 2 ^ 256 := (by decide); omega⟩ (by decide)
    have e : decide (Q ≤ (S : Int)) = !decide (S < ordN) := by
      rw [Q_ordN]
      by_cases h : S < ordN
      · rw [decide_eq_true h, decide_eq_false (by omega)]; rfl
      · rw [decide_eq_false h, decide_eq_true (by omega)]; rfl
    rwa [e] at h
  obtain ⟨q, hq⟩ : ∃ q, q = decide (S < ordN) := ⟨_, rfl⟩
  rw [← hq] at HAL ⊢
  clear hq
  go_enter Try.func41, Try.ntmps41
  go_upto_region 1 with (fail)
  refine wp_world (fun w1 => Arr .u8 w1 w.heap.size 32 (dg 256 (S : Int)) ∧ Below w.heap.size w w1) ⟨Arr.newAt rfl rfl, (Below.refl _ _).alloc (Nat.le_refl _) _⟩ ?_
  rintro w1 ⟨h1, hbel⟩
  go_wp2_with (refine load_arr rfl 22 _ rfl .u8 w.heap.size 32 (dg 256 (S : Int)) 5 Try.underlying22 Try.size22 rfl h1 ?_)
  refine (HD.out _).mono ?_
  rintro e w2 ⟨v1, rfl, hv1, hb⟩
  replace hbel := hbel.trans (hb.mono hbel.size)
  have HV1 := Lib.hid hv1
  clear hb hv1 h1
  go_wp2_with fail
  refine (HQ.out _).mono ?_
  rintro e w3 ⟨v2, rfl, hv2, hb⟩
  replace hbel := hbel.trans (hb.mono hbel.size)
  have HV2 := Lib.hid hv2
  replace HV1 := Lib.hid (HV1.out.below hb)
  clear hb hv2
  go_wp2_with fail
  refine (HAL.out _ _ _ HV1.out HV2.out).mono ?_
  rintro e w4 ⟨rfl, hb⟩
  replace hbel := hbel.trans (hb.mono hbel.size)
  clear hb
  cases q
  · go_wp2
    go_ret
    exact ⟨rfl, hbel⟩
  · go_wp2
    go_ret
    exact ⟨rfl, hbel⟩
end Go.Proofs.Ytdhejcaapdhhfaa

namespace Go.Proofs.Ytdhejcaapdhhfaa
open Go.RowKit Go.Bas Go.ChangeShapes
attribute [local go_sem ↓] Go.wp_at_zero Go.wp_at_succ
theorem laid_one {f : Nat → Int} : ∀ i, i < 32 → laid (fun _ => 0) 0 32 f i = f i := by
  intro i hi
  unfold laid
  rw [if_pos (by omega), Nat.sub_zero]
/-- the left side is the right side just where the difference is the first half's point. -/
theorem ver_sides {p q : Ed C7} {S K : Nat} : bytesN (Bp.mul S) = bytesN (q.add (p.mul K)) ↔ bytesN ((Bp.mul S).add (p.mul K).neg) = bytesN q := by
  constructor
  · intro h
    have h2 := bytesN_inj h
    rw [h2, Ed.add_assoc, Ed.add_neg, Ed.add_zero]
  · intro h
    have h2 := bytesN_inj h
    rw [← h2, Ed.add_assoc, Ed.add_comm (p.mul K).neg, Ed.add_neg, Ed.add_zero]

set_option maxRecDepth 100000 in
set_option maxHeartbeats 12800000 in
theorem signVerifies_num (A : Int) (h0 : 0 ≤ A) (h1 : A < 2 ^ 256) (t s : Value) (n n2 : Nat) (f f2 : Nat → Int) (w : World) (ht : Rd .u8 w t n f) (hs : Rd .u8 w s n2 f2) (hf : ∀ i, i < n → 0 ≤ f i ∧ f i < 256) (hf2 : ∀ i, i < n2 → 0 ≤ f2 i ∧ f2 i < 256) :
    Calls Try.prog 6 #[.agg (arr .u8 32 (dg 256 A)), t, s] w fun e w' => e = .returned (.bool true) ∧ Below w.heap.size w w' := by
  have HT0 := Lib.hid ht
  have HS0 := Lib.hid hs
  have HAW := Lib.hid (fun w => sgAwake_any w)
  have HPO := Lib.hid (fun w => pOf_any A h0 h1 w)
  obtain ⟨tl, tn, tc, et⟩ := ht.isSlice
  subst et
  have hvn : tn = n := by obtain ⟨_, _, h, _⟩ := ht; cases h; rfl
  subst hvn
  obtain ⟨sl, sc, es, hc1, hc2, _, _⟩ := id hs
  subst es
  clear ht hs
  go_enter Try.func6, Try.ntmps6
  go_upto_region 1 with (fail)
  refine wp_world (fun w1 => Arr .u8 w1 w.heap.size 32 (dg 256 A) ∧ Below w.heap.size w w1) ⟨Arr.newAt rfl rfl, (Below.refl _ _).alloc (Nat.le_refl _) _⟩ ?_
  rintro w1 ⟨h3, hbel⟩
  go_wp2_with fail
  refine (HAW.out _).mono ?_
  rintro e w2 ⟨rfl, hb⟩
  replace h3 := h3.kept hb
  replace hbel := hbel.trans (hb.mono hbel.size)
  clear hb HAW
  by_cases h300 : 300 < tn
  case pos =>
    have hgt : (300 : Int) < (tn : Int) := by omega
    clear h300
    go_wp2
    go_ret
    exact ⟨rfl, hbel⟩
  case neg =>
    have hgt : ¬ (300 : Int) < (tn : Int) := by omega
    by_cases h100 : 100 < n2
    case pos =>
      have hgt2 : (100 : Int) < (n2 : Int) := by omega
      clear h300 h100
      go_wp2
      go_ret
      exact ⟨rfl, hbel⟩
    case neg =>
      have hgt2 : ¬ (100 : Int) < (n2 : Int) := by omega
      have HVE : Hid (∀ w, Rd .u8 w (.slice tl tn tc) tn f → Rd .u8 w (.slice sl n2 sc) n2 f2 → Calls Try.prog 40 #[.agg (arr .u8 32 (dg 256 A)), .slice tl tn tc, .slice sl n2 sc] w fun e w' => ∃ c, e = .returned (.int .i64 c) ∧ VerR A tn f n2 f2 c ∧ Below w.heap.size w w') := fun w ht hs => sgVerify_any A h0 h1 _ _ tn n2 f f2 w ht hs (by omega) hf hf2
      have HTN : Hid (tn ≤ 300) := by unfold Hid; omega
      have HFB := Lib.hid hf
      clear h300 h100
      go_wp2_with (refine load_arr rfl 22 _ rfl .u8 w.heap.size 32 (dg 256 A) 5 Try.underlying22 Try.size22 rfl h3 ?_)
      refine (HVE.out _ (HT0.out.below hbel) (HS0.out.below hbel)).mono ?_
      rintro e w3 ⟨c, rfl, hvr, hb⟩
      replace h3 := h3.kept hb
      replace hbel := hbel.trans (hb.mono hbel.size)
      have HVR := Lib.hid hvr
      clear hb hvr HVE hgt hgt2
      by_cases h64 : n2 = 64
      case neg =>
        have hne : ¬ ((n2 : Int) = 64) := by omega
        obtain rfl := HVR.out.1 h64
        clear h64
        go_wp2
        go_ret
        exact ⟨rfl, hbel⟩
      case pos =>
        subst h64
        go_wp2_with (refine load_arr rfl 22 _ rfl .u8 w.heap.size 32 (dg 256 A) 5 Try.underlying22 Try.size22 rfl h3 ?_)
        refine (HPO.out _).mono ?_
        rintro e w4 ⟨r, c2, rfl, hof, hb⟩
        replace h3 := h3.kept hb
        replace hbel := hbel.trans (hb.mono hbel.size)
        have HR : ∃ F8, r = .agg (arr .i64 64 F8) ∧ ((c2 = 0 ∧ ∃ p : Ed C7, PFn F8 p ∧ bytesN p = A) ∨ (c2 = 21 ∧ ¬ ofOk A)) := by
          rcases hof with ⟨rfl, ho, p, ⟨F3, h8, h9⟩, h10⟩ | ⟨rfl, h8, ho⟩
          · exact ⟨F3, h8, .inl ⟨rfl, p, h9, h10⟩⟩
          · exact ⟨_, h8, .inr ⟨rfl, ho⟩⟩
        obtain ⟨F8, rfl, hcc⟩ := HR
        have HCC := Lib.hid hcc
        have hl3 := h3.lt
        clear hof hb hcc
        go_upto_region 9 with (refine store_arr rfl 28 _ _ rfl .i64 w4.heap.size 64 (fun _ => 0) F8 Try.size28 rfl rfl (Arr.newAt rfl (by rfl)) ?_)
        refine wp_world (fun w5 => Arr .i64 w5 w4.heap.size 64 F8 ∧ Below w4.heap.size w4 w5) ⟨(Arr.newAt rfl (by rfl) : Arr .i64 _ _ 64 (fun _ => 0)).setRow _ _, below_setRow' ((Below.refl _ _).alloc (Nat.le_refl _) _) (Nat.le_refl _) _⟩ ?_
        rintro w5 ⟨h8, hb⟩
        replace h3 := h3.kept hb
        replace hbel := hbel.trans (hb.mono hbel.size)
        obtain ⟨x8, e8⟩ : ∃ x, x = w4.heap.size := ⟨_, rfl⟩
        rw [← e8] at h8 hl3 ⊢
        have hl8 := h8.lt
        clear e8 hb
        try simp only [Act.put, List.setIfInBounds_toArray, List.set_cons_succ, List.set_cons_zero]
        rcases HCC.out with ⟨rfl, p, hpf, hbp⟩ | ⟨rfl, hno⟩
        case inr =>
          obtain rfl := (HVR.out.2 rfl).1 hno
          clear hno HCC
          go_wp2
          go_ret
          exact ⟨rfl, hbel⟩
        case inl =>
          have HPF := Lib.hid hpf
          have HVP := Lib.hid ((HVR.out.2 rfl).2 p hbp)
          clear hpf hbp HCC HVR HPO
          have hF : arr .u8 32 f2 = arr .u8 32 (dg 256 (verF f2)) := arr_congr fun i hi => (dg_sm (by decide) (fun i hi => hf2 i (by omega)) i hi).symm
          have hS0 : 0 ≤ sm 256 (fun i => f2 (32 + i)) 32 ∧ sm 256 (fun i => f2 (32 + i)) 32 < 256 ^ 32 := sm_bound (by decide) (fun i hi => hf2 (32 + i) (by omega))
          have hSn : ((verS f2 : Nat) : Int) = sm 256 (fun i => f2 (32 + i)) 32 := Int.toNat_of_nonneg hS0.1
          have HFL : Hid (∀ i, i < 32 → f2 i = dg 256 (verF f2) i) := fun i hi => (dg_sm (by decide) (fun i hi => hf2 i (by omega)) i hi).symm
          have HSL : Hid (∀ i, i < 32 → f2 (32 + i) = dg 256 ((verS f2 : Nat) : Int) i) := fun i hi => by
            rw [hSn]; exact (dg_sm (f := fun i => f2 (32 + i)) (by decide) (fun i hi => hf2 (32 + i) (by omega)) i hi).symm
          have hFb : 0 ≤ verF f2 ∧ verF f2 < 256 ^ 32 := sm_bound (by decide) (fun i hi => hf2 i (by omega))
          have HF1 : Hid (0 ≤ verF f2) := hFb.1
          have HF2 : Hid (verF f2 < 2 ^ 256) := by
            have e : (256 : Int) ^ 32 = 2 ^ 256 := (by decide)
            unfold Hid
            omega
          have HSB : Hid (verS f2 < 2 ^ 256) := by
            have e : (256 : Int) ^ 32 = 2 ^ 256 := (by decide)
            unfold Hid
            omega
          have HNM : Hid (∀ w v, Rd .u8 w v (32 + 32 + tn) (catF 32 (dg 256 (verF f2)) (catF 32 (dg 256 A) f)) → Calls Try.prog 42 #[v] w fun e w' => e = .returned (.agg (arr .u8 32 (dg 256 ((verK A tn f f2 : Nat) : Int)))) ∧ Below w.heap.size w w') := fun w v h => by
            have h2 := rdNumber_any v (32 + 32 + tn) _ w h (by have := HTN.out; omega) (by rw [Nat.add_assoc]; exact catF_bound (fun i _ => dg_bound (by decide) _ _) (catF_bound (fun i _ => dg_bound (by decide) _ _) HFB.out))
            rw [Nat.add_assoc] at h2
            exact h2
          have HKL : Hid (verK A tn f f2 < 2 ^ 256) := Nat.lt_trans (numN_lt _ _) (by decide)
          have HDD : Hid (verD A p tn f f2 = (Bp.mul (verS f2)).add (p.mul (verK A tn f f2)).neg) := rfl
          obtain ⟨K, hK⟩ : ∃ K, K = verK A tn f f2 := ⟨_, rfl⟩
          rw [← hK] at HNM HKL HDD
          obtain ⟨D, hD⟩ : ∃ D, D = verD A p tn f f2 := ⟨_, rfl⟩
          rw [← hD] at HVP HDD
          obtain ⟨S2, hS2⟩ : ∃ S2, S2 = verS f2 := ⟨_, rfl⟩
          rw [← hS2] at HSL HSB HVP HDD
          obtain ⟨F1, hF1⟩ : ∃ F1, F1 = verF f2 := ⟨_, rfl⟩
          rw [← hF1] at HFL HF1 HF2 HNM HVP
          have HPF1 := Lib.hid (fun w => pOf_any F1 HF1.out HF2.out w)
          have HSC := Lib.hid (fun w => rdScalar_any S2 HSB.out w)
          have G1 := Lib.hid (Rd.head (P := Try.prog) Try.underlying56 Try.info5 sl 64 sc 32 (by decide) hc1)
          obtain ⟨a2, g1, g2, g3⟩ := Rd.cut (P := Try.prog) Try.underlying56 Try.info5 sl 64 sc 32 64 (by decide) (Nat.le_refl _) hc1
          have G2 := Lib.hid g2
          have HRS := Lib.hid (fun w h => (g3 w f2 h).2)
          clear hK hD hS2 hF1 hF hS0 hSn hFb g1 g2 g3 hc1 hc2 h0 h1 hf hf2
          go_upto_region 12 with (fail)
          refine wp_world (fun w6 => Arr .u8 w6 w5.heap.size 32 (fun _ => 0) ∧ Arr .u8 w6 (w5.heap.size + 1) 32 (fun _ => 0) ∧ Below w5.heap.size w5 w6) ⟨.alloc (Arr.newAt rfl (by rfl)) _, Arr.newAt (by first | omega | (simp <;> omega)) (by rfl), ((Below.refl _ _).alloc (Nat.le_refl _) _).alloc (by first | omega | (simp <;> omega)) _⟩ ?_
          rintro w6 ⟨h10, h11, hb⟩
          replace h3 := h3.kept hb
          replace h8 := h8.kept hb
          replace hbel := hbel.trans (hb.mono hbel.size)
          obtain ⟨x10, e10⟩ : ∃ x, x = w5.heap.size := ⟨_, rfl⟩
          rw [← e10] at h10 h11 hl8 ⊢
          clear e10 hb
          refine region_last' (n := 90) 3 rfl (by decide) (by kernel_rfl) (by kernel_rfl) (by kernel_rfl) (by kernel_rfl) rfl
            (fun ii vv _ => (match ii with | 0 => vv = .slice (some ⟨x10, 0, none⟩) 32 32 | 1 => vv = .slice sl 64 sc | 2 => vv = .slice sl 32 sc | _ => True))
            (fun w w' => Below w.heap.size w w') (fun _ _ h => h) (fun _ _ _ _ h _ => h) rfl ?_ ?_
          · refine Each.all ?_
            refine ⟨?_, ?_, ?_, (fun h => absurd rfl h), trivial⟩
            · intro _ a w2 hB hF hd
              rw [if_pos (wanted_none rfl)]
              exact flow_val (fun h => by cases h) (run_slice_arr rfl (hF.same 10 rfl) Try.underlying22 (by kernel_rfl)) rfl
            · intro _ a w2 hB hF hd
              rw [if_pos (wanted_none rfl)]
              exact flow_move _ (.inl rfl) (by simp) (hF.same 2 rfl)
            · intro _ a w2 hB hF hd
              rw [if_pos (wanted_none rfl)]
              exact flow_val (fun h => by cases h) (run_slice_part rfl (hd 1 _ rfl (waits_spec rfl)) (by simp only [Option.map_some, Option.map_none]; exact G1.out.1 _)) rfl
          · intro a w7 hB hF hS
            obtain ⟨x47, hx47⟩ : ∃ x, x = a.tmps.getD 47 undef := ⟨_, rfl⟩
            have ha := puts_each rfl rfl hF [_, _, _, x47] rfl ⟨hS 0 _ rfl (by decide), hS 1 _ rfl (by decide), hS 2 _ rfl (by decide), hx47.symm, trivial⟩
            simp only [puts, Act.put, List.setIfInBounds_toArray, List.set_cons_succ, List.set_cons_zero] at ha
            subst ha
            clear hx47
            clear hS hF
            replace h3 := h3.kept hB
            replace h8 := h8.kept hB
            replace h10 := h10.kept hB
            replace h11 := h11.kept hB
            replace hbel := hbel.trans (hB.mono hbel.size)
            clear hB
            refine wp_copy_arr _ _ 56 56 rfl (e := 5) (k := .u8) x10 0 32 32 32 (fun _ => 0) Try.underlying56 Try.size5 rfl h10 _ 32 _ (G1.out.2 _ _ (HS0.out.below hbel)) rfl (by decide) (by decide) ?_
            have h10' := (h10.setRow 32 (laid (fun _ => 0) 0 32 f2)).congr (fun i hi => (laid_one i hi).trans (HFL.out i hi))
            have h11' := h11.setRowOther x10 (by omega) (arr .u8 32 (laid (fun _ => 0) 0 32 f2))
            have h3' := h3.setRowOther x10 (by omega) (arr .u8 32 (laid (fun _ => 0) 0 32 f2))
            have h8' := h8.setRowOther x10 (by omega) (arr .u8 32 (laid (fun _ => 0) 0 32 f2))
            have hb' := below_setRow' hbel (show w.heap.size ≤ x10 by omega) (arr .u8 32 (laid (fun _ => 0) 0 32 f2))
            obtain ⟨wa, hwa⟩ : ∃ wa, wa = w7.setRow x10 (arr .u8 32 (laid (fun _ => 0) 0 32 f2)) := ⟨_, rfl⟩
            rw [← hwa] at h10' h11' h3' h8' hb' ⊢
            clear hwa h10 h11 h3 h8 hbel
            go_upto_region 13 with (fail)
            try simp only [List.getElem_toArray, List.getElem_cons_succ, List.getElem_cons_zero, Act.put]
            refine region_last' (n := 90) 3 rfl (by decide) (by kernel_rfl) (by kernel_rfl) (by kernel_rfl) (by kernel_rfl) rfl
              (fun ii vv _ => (match ii with | 0 => vv = .slice (some ⟨(x10 + 1), 0, none⟩) 32 32 | 1 => vv = .slice sl 64 sc | 2 => vv = .slice a2 (64 - 32) (sc - 32) | _ => True))
              (fun w w' => Below w.heap.size w w') (fun _ _ h => h) (fun _ _ _ _ h _ => h) rfl ?_ ?_
            · refine Each.all ?_
              refine ⟨?_, ?_, ?_, (fun h => absurd rfl h), trivial⟩
              · intro _ a w2 hB hF hd
                rw [if_pos (wanted_none rfl)]
                exact flow_val (fun h => by cases h) (run_slice_arr rfl (hF.same 11 rfl) Try.underlying22 (by kernel_rfl)) rfl
              · intro _ a w2 hB hF hd
                rw [if_pos (wanted_none rfl)]
                exact flow_move _ (.inl rfl) (by simp) (hF.same 2 rfl)
              · intro _ a w2 hB hF hd
                rw [if_pos (wanted_none rfl)]
                exact flow_val (fun h => by cases h) (run_slice_part rfl (hd 1 _ rfl (waits_spec rfl)) (by simp only [Option.map_some, Option.map_none]; exact G2.out _)) rfl
            · intro a w8 hB hF hS
              obtain ⟨x51, hx51⟩ : ∃ x, x = a.tmps.getD 51 undef := ⟨_, rfl⟩
              have ha := puts_each rfl rfl hF [_, _, _, x51] rfl ⟨hS 0 _ rfl (by decide), hS 1 _ rfl (by decide), hS 2 _ rfl (by decide), hx51.symm, trivial⟩
              simp only [puts, Act.put, List.setIfInBounds_toArray, List.set_cons_succ, List.set_cons_zero] at ha
              subst ha
              clear hx51
              clear hS hF
              replace h10 := h10'.kept hB
              replace h11 := h11'.kept hB
              replace h3 := h3'.kept hB
              replace h8 := h8'.kept hB
              replace hbel := hb'.trans (hB.mono hb'.size)
              clear hB h10' h11' h3' h8' hb'
              refine wp_copy_arr _ _ 56 56 rfl (e := 5) (k := .u8) (x10 + 1) 0 32 32 32 (fun _ => 0) Try.underlying56 Try.size5 rfl h11 _ 32 (fun i => f2 (32 + i)) (HRS.out _ (HS0.out.below hbel)) rfl (by decide) (by decide) ?_
              have h11' := (h11.setRow 32 (laid (fun _ => 0) 0 32 (fun i => f2 (32 + i)))).congr (fun i hi => (laid_one i hi).trans (HSL.out i hi))
              have h10' := h10.setRowOther (x10 + 1) (by omega) (arr .u8 32 (laid (fun _ => 0) 0 32 (fun i => f2 (32 + i))))
              have h3' := h3.setRowOther (x10 + 1) (by omega) (arr .u8 32 (laid (fun _ => 0) 0 32 (fun i => f2 (32 + i))))
              have h8' := h8.setRowOther (x10 + 1) (by omega) (arr .u8 32 (laid (fun _ => 0) 0 32 (fun i => f2 (32 + i))))
              have hb' := below_setRow' hbel (show w.heap.size ≤ x10 + 1 by omega) (arr .u8 32 (laid (fun _ => 0) 0 32 (fun i => f2 (32 + i))))
              obtain ⟨wb, hwb⟩ : ∃ wb, wb = w8.setRow (x10 + 1) (arr .u8 32 (laid (fun _ => 0) 0 32 (fun i => f2 (32 + i)))) := ⟨_, rfl⟩
              rw [← hwb] at h10' h11' h3' h8' hb' ⊢
              clear hwb h10 h11 h3 h8 hbel
              go_upto_region 14 with (fail)
              try simp only [List.getElem_toArray, List.getElem_cons_succ, List.getElem_cons_zero, Act.put]
              go_wp2_with (refine load_arr rfl 22 _ rfl .u8 (x10 + 1) 32 (dg 256 (S2 : Int)) 5 Try.underlying22 Try.size22 rfl h11' ?_)
              refine (HSC.out _).mono ?_
              rintro e w9 ⟨rfl, hb⟩
              have h3 := h3'.kept hb
              have h8 := h8'.kept hb
              have h10 := h10'.kept hb
              have h11 := h11'.kept hb
              have hbel := hb'.trans (hb.mono hb'.size)
              clear hb h10' h11' h3' h8' hb'
              by_cases hlt : S2 < ordN
              case neg =>
                obtain rfl := HVP.out.1 (by omega)
                rw [decide_eq_false hlt]
                clear hlt
                go_wp2
                go_ret
                exact ⟨rfl, hbel⟩
              case pos =>
                rw [decide_eq_true hlt]
                have HV2 := Lib.hid (HVP.out.2 hlt)
                clear hlt HVP
                go_upto_region 16 with (fail)
                have hsl := hbel.size
                refine region_cons (n := 90) (by kernel_rfl) (by kernel_rfl) (by kernel_rfl) rfl (fun j => match j with | 0 => [2, 4, 6] | 2 => [4, 6] | 4 => [6] | 8 => [9] | _ => [])
                  (fun j => match j with | 0 => [57] | 1 => [58] | 2 => [59] | 3 => [60] | 4 => [61] | 5 => [62] | 6 => [63] | 7 => [64] | 8 => [12] | 9 => [12] | _ => []) (by kernel_rfl)
                  (fun i a ww => match i with | 0 => Go.Bas.Own .u8 5 w9.heap.size ww (a.tmps.getD 57 undef) 0 (catF 32 (dg 256 F1) (catF 32 (dg 256 A) f)) | 1 => a.tmps.getD 58 undef = .slice (some ⟨x10, 0, none⟩) 32 32 | 2 => Go.Bas.Own .u8 5 w9.heap.size ww (a.tmps.getD 59 undef) 32 (catF 32 (dg 256 F1) (catF 32 (dg 256 A) f)) | 3 => a.tmps.getD 60 undef = .slice (some ⟨w.heap.size, 0, none⟩) 32 32 | 4 => Go.Bas.Own .u8 5 w9.heap.size ww (a.tmps.getD 61 undef) (32 + 32) (catF 32 (dg 256 F1) (catF 32 (dg 256 A) f)) | 5 => a.tmps.getD 62 undef = .slice tl tn tc | 6 => Go.Bas.Own .u8 5 w9.heap.size ww (a.tmps.getD 63 undef) (32 + 32 + tn) (catF 32 (dg 256 F1) (catF 32 (dg 256 A) f)) | 7 => a.tmps.getD 64 undef = .agg (arr .u8 32 (dg 256 (K : Int))) | 8 => (∃ b, a.tmps.getD 12 undef = .pointer (some ⟨b, 0, none⟩) ∧ w9.heap.size ≤ b ∧ ww.heap[b]? = some (.cells (arr .u8 32 (fun _ => 0)) 22 (0, 0))) | 9 => (∃ b, a.tmps.getD 12 undef = .pointer (some ⟨b, 0, none⟩) ∧ w9.heap.size ≤ b ∧ Arr .u8 ww b 32 (dg 256 (K : Int))) | _ => True)
                  (fun i ww w' => match i with | 2 | 4 | 6 => KeepT [5] ww w' ∧ Below w9.heap.size ww w' | 9 => KeepT [22] ww w' ∧ Below w9.heap.size ww w' | _ => Below ww.heap.size ww w') ?_ ?_ ?_ ?_ ?_
                · intro i a a' ww h hs
                  rcases (by omega : i = 0 ∨ i = 1 ∨ i = 2 ∨ i = 3 ∨ i = 4 ∨ i = 5 ∨ i = 6 ∨ i = 7 ∨ i = 8 ∨ i = 9 ∨ 10 ≤ i) with rfl | rfl | rfl | rfl | rfl | rfl | rfl | rfl | rfl | rfl | hi
                  · have e := h 57 (by simp)
                    (try dsimp only at hs ⊢)
                    rw [← e]; exact hs
                  · have e := h 58 (by simp)
                    (try dsimp only at hs ⊢)
                    rw [← e]; exact hs
                  · have e := h 59 (by simp)
                    (try dsimp only at hs ⊢)
                    rw [← e]; exact hs
                  · have e := h 60 (by simp)
                    (try dsimp only at hs ⊢)
                    rw [← e]; exact hs
                  · have e := h 61 (by simp)
                    (try dsimp only at hs ⊢)
                    rw [← e]; exact hs
                  · have e := h 62 (by simp)
                    (try dsimp only at hs ⊢)
                    rw [← e]; exact hs
                  · have e := h 63 (by simp)
                    (try dsimp only at hs ⊢)
                    rw [← e]; exact hs
                  · have e := h 64 (by simp)
                    (try dsimp only at hs ⊢)
                    rw [← e]; exact hs
                  · have e := h 12 (by simp)
                    (try dsimp only at hs ⊢)
                    rw [← e]; exact hs
                  · have e := h 12 (by simp)
                    (try dsimp only at hs ⊢)
                    rw [← e]; exact hs
                  · obtain ⟨k, rfl⟩ : ∃ k, i = k + 10 := ⟨i - 10, by omega⟩
                    trivial
                · intro j i a ww w' hne hc hup hs hE
                  have hE3 : i ≠ 2 → i ≠ 4 → i ≠ 6 → (KeepT [22] ww w' ∧ i = 9) ∨ Below ww.heap.size ww w' := by
                    intro q2 q4 q6
                    by_cases q9 : i = 9
                    · subst q9; exact .inl ⟨hE.1, rfl⟩
                    · right; revert hE; split
                      · exact absurd rfl (by assumption)
                      · exact absurd rfl (by assumption)
                      · exact absurd rfl (by assumption)
                      · exact absurd rfl (by assumption)
                      · exact id
                  rcases (by omega : j = 0 ∨ j = 1 ∨ j = 2 ∨ j = 3 ∨ j = 4 ∨ j = 5 ∨ j = 6 ∨ j = 7 ∨ j = 8 ∨ j = 9 ∨ 10 ≤ j) with rfl | rfl | rfl | rfl | rfl | rfl | rfl | rfl | rfl | rfl | hj
                  · rcases hE3 (by rintro rfl; first | exact hne rfl | exact hc (by decide) | exact absurd hup (by decide +kernel)) (by rintro rfl; first | exact hne rfl | exact hc (by decide) | exact absurd hup (by decide +kernel)) (by rintro rfl; first | exact hne rfl | exact hc (by decide) | exact absurd hup (by decide +kernel)) with h | h
                    · exact Own.keepT rfl hs h.1
                    · exact Own.below hs h
                  · exact hs
                  · rcases hE3 (by rintro rfl; first | exact hne rfl | exact hc (by decide) | exact absurd hup (by decide +kernel)) (by rintro rfl; first | exact hne rfl | exact hc (by decide) | exact absurd hup (by decide +kernel)) (by rintro rfl; first | exact hne rfl | exact hc (by decide) | exact absurd hup (by decide +kernel)) with h | h
                    · exact Own.keepT rfl hs h.1
                    · exact Own.below hs h
                  · exact hs
                  · rcases hE3 (by rintro rfl; first | exact hne rfl | exact hc (by decide) | exact absurd hup (by decide +kernel)) (by rintro rfl; first | exact hne rfl | exact hc (by decide) | exact absurd hup (by decide +kernel)) (by rintro rfl; first | exact hne rfl | exact hc (by decide) | exact absurd hup (by decide +kernel)) with h | h
                    · exact Own.keepT rfl hs h.1
                    · exact Own.below hs h
                  · exact hs
                  · rcases hE3 (by rintro rfl; first | exact hne rfl | exact hc (by decide) | exact absurd hup (by decide +kernel)) (by rintro rfl; first | exact hne rfl | exact hc (by decide) | exact absurd hup (by decide +kernel)) (by rintro rfl; first | exact hne rfl | exact hc (by decide) | exact absurd hup (by decide +kernel)) with h | h
                    · exact Own.keepT rfl hs h.1
                    · exact Own.below hs h
                  · exact hs
                  · obtain ⟨b, e1, e2, e3⟩ := hs
                    by_cases q : i = 2 ∨ i = 4 ∨ i = 6
                    · have hk : KeepT [5] ww w' := by rcases q with rfl | rfl | rfl <;> exact hE.1
                      exact ⟨b, e1, e2, hk _ _ _ rfl e3⟩
                    · rcases hE3 (fun h => q (.inl h)) (fun h => q (.inr (.inl h))) (fun h => q (.inr (.inr h))) with h | h
                      · exact absurd (by rw [h.2]; decide) hc
                      · exact ⟨b, e1, e2, by rw [h.block b (Array.getElem?_eq_some_iff.1 e3).1]; exact e3⟩
                  · obtain ⟨b, e1, e2, e3⟩ := hs
                    obtain ⟨T9, hT⟩ := e3
                    by_cases q : i = 2 ∨ i = 4 ∨ i = 6
                    · exact absurd hup (by rcases q with rfl | rfl | rfl <;> decide +kernel)
                    · rcases hE3 (fun h => q (.inl h)) (fun h => q (.inr (.inl h))) (fun h => q (.inr (.inr h))) with h | h
                      · exact absurd h.2.symm hne
                      · exact ⟨b, e1, e2, _, by rw [h.block b (Array.getElem?_eq_some_iff.1 hT).1]; exact hT⟩
                  · obtain ⟨k, rfl⟩ : ∃ k, j = k + 10 := ⟨j - 10, by omega⟩
                    trivial
                · intro i ww w' hB hE
                  revert hE; split
                  · exact fun h => hB.trans h.2
                  · exact fun h => hB.trans h.2
                  · exact fun h => hB.trans h.2
                  · exact fun h => hB.trans h.2
                  · exact fun h => hB.trans (h.mono hB.size)
                · refine Each.all ?_
                  refine ⟨?_, ?_, ?_, ?_, ?_, ?_, ?_, ?_, ?_, ?_, trivial⟩
                  · intro a w2 hB hF hd
                    have hsz : a.tmps.size = 90 := hF.2.1
                    rw [if_pos (wanted_none rfl)]
                    unfold Oper.wp
                    rw [run_empty rfl Try.underlying56 Try.size5]
                    refine ⟨_, rfl, (fun h => by cases h), ?_, (Below.refl _ _).alloc (Nat.le_refl _) _⟩
                    show Go.Bas.Own .u8 5 w9.heap.size _ ((a.put (some 57) _).tmps.getD 57 undef) 0 _
                    rw [getD_put_same _ (by omega)]
                    exact Go.Bas.Own.new _ _ w2 #[] 0 _ hB.size (by decide) rfl (fun i hi => absurd hi (by omega))
                  · intro a w2 hB hF hd
                    have hsz : a.tmps.size = 90 := hF.2.1
                    rw [if_pos (wanted_none rfl)]
                    refine flow_val (fun h => by cases h) (run_slice_arr rfl (hF.same 10 rfl) Try.underlying22 (by kernel_rfl)) ?_
                    exact getD_put_same _ (by omega)
                  · intro a w2 hB hF hd
                    have hsz : a.tmps.size = 90 := hF.2.1
                    rw [if_pos (wanted_none rfl)]
                    have ho := hd 0 _ rfl (by kernel_rfl) (by kernel_rfl)
                    have ex := hd 1 _ rfl (by kernel_rfl) (by kernel_rfl)
                    have htn := HTN.out
                    refine wp_append_rd _ _ 56 rfl w9.heap.size 5 .u8 1 Try.underlying56 Try.info5 _ 0 _ ho rfl (.slice (some ⟨x10, 0, none⟩) 32 32) 32 (dg 256 F1) ((h10.kept hB).rd (by decide)) ex (fun i hi => by rw [Nat.zero_add]; exact catF_lo hi) (by omega) (by omega) hB.size ?_
                    intro v' w' ho' hg
                    refine ⟨v', rfl, (fun h => by cases h), ?_, KeepT.grown ho hg, Below.grownOwn ho (Nat.le_refl _) hg hB.size⟩
                    show Go.Bas.Own .u8 5 w9.heap.size _ ((a.put (some 59) _).tmps.getD 59 undef) _ _
                    rw [getD_put_same _ (by omega)]
                    exact ho'
                  · intro a w2 hB hF hd
                    have hsz : a.tmps.size = 90 := hF.2.1
                    rw [if_pos (wanted_none rfl)]
                    refine flow_val (fun h => by cases h) (run_slice_arr rfl (hF.same 3 rfl) Try.underlying22 (by kernel_rfl)) ?_
                    exact getD_put_same _ (by omega)
                  · intro a w2 hB hF hd
                    have hsz : a.tmps.size = 90 := hF.2.1
                    rw [if_pos (wanted_none rfl)]
                    have ho := hd 2 _ rfl (by kernel_rfl) (by kernel_rfl)
                    have ex := hd 3 _ rfl (by kernel_rfl) (by kernel_rfl)
                    have htn := HTN.out
                    refine wp_append_rd _ _ 56 rfl w9.heap.size 5 .u8 1 Try.underlying56 Try.info5 _ 32 _ ho rfl (.slice (some ⟨w.heap.size, 0, none⟩) 32 32) 32 (dg 256 A) ((h3.kept hB).rd (by decide)) ex (fun i hi => by rw [catF_hi]; exact catF_lo hi) (by omega) (by omega) hB.size ?_
                    intro v' w' ho' hg
                    refine ⟨v', rfl, (fun h => by cases h), ?_, KeepT.grown ho hg, Below.grownOwn ho (Nat.le_refl _) hg hB.size⟩
                    show Go.Bas.Own .u8 5 w9.heap.size _ ((a.put (some 61) _).tmps.getD 61 undef) _ _
                    rw [getD_put_same _ (by omega)]
                    exact ho'
                  · intro a w2 hB hF hd
                    have hsz : a.tmps.size = 90 := hF.2.1
                    rw [if_pos (wanted_none rfl)]
                    refine flow_move _ (.inl rfl) (by simp) ?_
                    exact (getD_put_same _ (by omega)).trans (hF.same 1 rfl)
                  · intro a w2 hB hF hd
                    have hsz : a.tmps.size = 90 := hF.2.1
                    rw [if_pos (wanted_none rfl)]
                    have ho := hd 4 _ rfl (by kernel_rfl) (by kernel_rfl)
                    have ex := hd 5 _ rfl (by kernel_rfl) (by kernel_rfl)
                    have htn := HTN.out
                    refine wp_append_rd _ _ 56 rfl w9.heap.size 5 .u8 1 Try.underlying56 Try.info5 _ (32 + 32) _ ho rfl (.slice tl tn tc) tn (f) ((HT0.out.below hbel).below hB) ex (fun i _ => by rw [Nat.add_assoc, catF_hi, catF_hi]) (by omega) (by omega) hB.size ?_
                    intro v' w' ho' hg
                    refine ⟨v', rfl, (fun h => by cases h), ?_, KeepT.grown ho hg, Below.grownOwn ho (Nat.le_refl _) hg hB.size⟩
                    show Go.Bas.Own .u8 5 w9.heap.size _ ((a.put (some 63) _).tmps.getD 63 undef) _ _
                    rw [getD_put_same _ (by omega)]
                    exact ho'
                  · intro a w2 hB hF hd
                    have hsz : a.tmps.size = 90 := hF.2.1
                    rw [if_pos (wanted_none rfl)]
                    refine flow_call _ _ _ rfl Try.call42 _ (args1 rfl) (by simp) ((HNM.out w2 _ (hd 6 _ rfl (by kernel_rfl) (by kernel_rfl)).rd).mono ?_)
                    rintro e w3 ⟨rfl, hb⟩
                    exact ⟨_, rfl, getD_put_same _ (by omega), hb⟩
                  · intro a w2 hB hF hd
                    have hsz : a.tmps.size = 90 := hF.2.1
                    rw [if_pos (wanted_none rfl)]
                    refine flow_alloc rfl rfl Try.zeroValue22 (by simp) ?_
                    exact ⟨_, rfl, (fun h => by cases h), ⟨w2.heap.size, getD_put_same _ (by omega), hB.size, heap_alloc_new _ _⟩, (Below.refl _ _).alloc (Nat.le_refl _) _⟩
                  · intro a w2 hB hF hd
                    have hsz : a.tmps.size = 90 := hF.2.1
                    rw [if_pos (wanted_none rfl)]
                    obtain ⟨b, e1, e2, e3⟩ := hd 8 _ rfl (by kernel_rfl) (by kernel_rfl)
                    have e64 := hd 7 _ rfl (by kernel_rfl) (by kernel_rfl)
                    refine flow_put rfl rfl Try.size22 e1 e64 e3 ?_
                    exact ⟨undef, rfl, fun _ => rfl, ⟨b, e1, e2, _, setRow_heap w2 b _ _ _ _ e3⟩, KeepT.row e3 rfl, below_setRow' (Below.refl w9.heap.size w2) e2 _⟩
                · intro a wd hB hF hS
                  obtain ⟨x12, e12, l12, h12⟩ := hS 9 _ rfl rfl
                  obtain ⟨x57, hx57⟩ : ∃ x, x = a.tmps.getD 57 undef := ⟨_, rfl⟩
                  obtain ⟨x59, hx59⟩ : ∃ x, x = a.tmps.getD 59 undef := ⟨_, rfl⟩
                  obtain ⟨x61, hx61⟩ : ∃ x, x = a.tmps.getD 61 undef := ⟨_, rfl⟩
                  obtain ⟨x63, hx63⟩ : ∃ x, x = a.tmps.getD 63 undef := ⟨_, rfl⟩
                  have ha := puts_each rfl rfl hF [x57, _, x59, _, x61, _, x63, _, _, undef] rfl ⟨hx57.symm, hS 1 _ rfl rfl, hx59.symm, hS 3 _ rfl rfl, hx61.symm, hS 5 _ rfl rfl, hx63.symm, hS 7 _ rfl rfl, e12, trivial, trivial⟩
                  simp only [puts, Act.put, List.setIfInBounds_toArray, List.set_cons_succ, List.set_cons_zero] at ha
                  subst ha
                  clear hx57 hx59 hx61 hx63 hS hF e12
                  replace h8 := h8.kept hB
                  replace h10 := h10.kept hB
                  replace h11 := h11.kept hB
                  replace hbel := hbel.trans (hB.mono hbel.size)
                  clear hB l12 h3
                  go_wp2_with (refine load_arr rfl 22 _ rfl .u8 x10 32 (dg 256 F1) 5 Try.underlying22 Try.size22 rfl h10 ?_)
                  refine (HPF1.out _).mono ?_
                  rintro e w10 ⟨r, c3, rfl, hof, hb⟩
                  replace h8 := h8.kept hb
                  replace h11 := h11.kept hb
                  replace h12 := h12.kept hb
                  replace hbel := hbel.trans (hb.mono hbel.size)
                  have HR : ∃ F13, r = .agg (arr .i64 64 F13) ∧ ((c3 = 0 ∧ ∃ q : Ed C7, PFn F13 q ∧ bytesN q = F1) ∨ (c3 = 21 ∧ ¬ ofOk F1)) := by
                    rcases hof with ⟨rfl, ho, q, ⟨F3, h8, h9⟩, h10⟩ | ⟨rfl, h8, ho⟩
                    · exact ⟨F3, h8, .inl ⟨rfl, q, h9, h10⟩⟩
                    · exact ⟨_, h8, .inr ⟨rfl, ho⟩⟩
                  obtain ⟨F13, rfl, hcc⟩ := HR
                  have HCC := Lib.hid hcc
                  clear hof hb hcc h10
                  go_upto_region 18 with (refine store_arr rfl 28 _ _ rfl .i64 w10.heap.size 64 (fun _ => 0) F13 Try.size28 rfl rfl (Arr.newAt rfl (by rfl)) ?_)
                  refine wp_world (fun w11 => Arr .i64 w11 w10.heap.size 64 F13 ∧ Below w10.heap.size w10 w11) ⟨(Arr.newAt rfl (by rfl) : Arr .i64 _ _ 64 (fun _ => 0)).setRow _ _, below_setRow' ((Below.refl _ _).alloc (Nat.le_refl _) _) (Nat.le_refl _) _⟩ ?_
                  rintro w11 ⟨h13, hb⟩
                  replace h8 := h8.kept hb
                  replace h11 := h11.kept hb
                  replace h12 := h12.kept hb
                  replace hbel := hbel.trans (hb.mono hbel.size)
                  obtain ⟨x13, e13⟩ : ∃ x, x = w10.heap.size := ⟨_, rfl⟩
                  rw [← e13] at h13 ⊢
                  clear e13 hb
                  try simp only [Act.put, List.setIfInBounds_toArray, List.set_cons_succ, List.set_cons_zero]
                  rcases HCC.out with ⟨rfl, q, hpq, hbq⟩ | ⟨rfl, hno⟩
                  case inr =>
                    obtain rfl := HV2.out.2 (fun e => hno (e ▸ ofOk_bytes D))
                    clear hno HCC
                    go_wp2
                    go_ret
                    exact ⟨rfl, hbel⟩
                  case inl =>
                    have HPQ := Lib.hid hpq
                    have HBQ := Lib.hid hbq
                    clear hpq hbq HCC
                    go_upto_region 20 with (fail)
                    refine region_varsS (n := 90) (by kernel_rfl) (by kernel_rfl) (by kernel_rfl) rfl
                      (isAl [(4, 3)]) (putOf [(4, 3)]) (fun _ => #[.slice none 0 0, .slice none 0 0, .slice none 0 0])  (fun _ => 32) (fun _ => 15) (fun _ => 2)
                      (fun ii vv ww => (match ii with | 1 => vv = .agg (arr .u8 32 (dg 256 (S2 : Int))) | _ => True) ∧ (ii = 0 → SPt ww vv (Bp)) ∧ (ii = 2 → SPt ww vv (Bp.mul S2))) KeepI (fun _ _ h => KeepI.of h) (fun w b cs p _ _ hz => KeepI.row hz (three_sl ⟨_, _, _, rfl⟩ ⟨_, _, _, rfl⟩ ⟨_, _, _, rfl⟩)) (fun i v w w' h hE => ⟨h.1, fun e => SPt.keepI (h.2.1 e) hE, fun e => SPt.keepI (h.2.2 e) hE⟩)
                      (vs_al rfl) (src_spec (by kernel_rfl)) (vs_inj rfl) ?_ ?_ ?_ ?_
                    · refine Each.all ?_
                      refine ⟨?_, ?_, ?_, (fun h => by cases h), (fun _ h => by cases h), trivial⟩
                      · intro _ _ a w2 hB hF hd
                        rw [if_pos (wanted_none rfl)]
                        refine flow_call _ _ _ rfl Try.call11 _ args0 (by simp) ((rBaseS w2).mono ?_)
                        rintro e w3 ⟨u, rfl, hr, hb⟩; exact ⟨u, rfl, ⟨trivial, fun _ => hr, fun h => absurd h (by decide)⟩, hb⟩
                      · intro _ _ a w2 hB hF hd
                        rw [if_pos (wanted_none rfl)]
                        exact flow_val (fun h => by cases h) (run_load_str rfl Try.underlying22 rfl Try.size22 (hF.same 11 rfl) (h11.below hB h11.lt)) ⟨rfl, fun h => absurd h (by decide), fun h => absurd h (by decide)⟩
                      · intro _ _ a w2 hB hF hd
                        rw [if_pos (wanted_none rfl)]
                        refine flow_call _ _ _ rfl Try.call17 _ (args2 rfl ((hd 1 _ rfl rfl rfl (waits_spec rfl)).1)) (by simp) ((rMulS S2 HSB.out w2 ((hd 0 _ rfl rfl rfl (waits_spec rfl)).2.1 rfl)).mono ?_)
                        rintro e w3 ⟨u, rfl, hr, hb⟩; exact ⟨u, rfl, ⟨trivial, fun h => absurd h (by decide), fun _ => hr⟩, hb⟩
                    · refine Each.all ?_
                      refine ⟨(fun h => by cases h), (fun h => by cases h), (fun h => by cases h), ?_, (fun h => by cases h), trivial⟩
                      · exact fun _ => ⟨rfl, rfl, fun a w2 K h => flow_alloc rfl rfl Try.zeroValue32 (by simp) h⟩
                    · refine Each.all ?_
                      refine ⟨(fun _ h => by cases h), (fun _ h => by cases h), (fun _ h => by cases h), (fun _ h => by cases h), ?_, trivial⟩
                      · intro p hp
                        obtain rfl : 3 = p := Option.some.inj hp
                        exact ⟨rfl, rfl, ⟨_, rfl⟩, waits_spec rfl, fun a w2 b K hB hF hd hx hb h => put_src_S (s := 2) rfl rfl rfl Try.size32 hx rfl ((hd 2 _ rfl rfl rfl (waits_spec rfl)).2.2 rfl) hb h⟩
                    · intro a w12 blk hB hF hS hv hfin hdis
                      obtain ⟨v3, v3l, v3u⟩ := hv 3 _ rfl rfl
                      obtain ⟨x74, hx74⟩ : ∃ x, x = a.tmps.getD 74 undef := ⟨_, rfl⟩
                      have P74 : SPt w12 x74 (Bp) := by rw [hx74]; exact (hS 0 _ rfl rfl rfl).2.1 rfl
                      obtain ⟨x76, hx76⟩ : ∃ x, x = a.tmps.getD 76 undef := ⟨_, rfl⟩
                      have P76 : SPt w12 x76 (Bp.mul S2) := by rw [hx76]; exact (hS 2 _ rfl rfl rfl).2.2 rfl
                      have f3 := hfin 4 _ 3 rfl rfl
                      obtain ⟨ra76, na76, ca76, rb76, nb76, cb76, rc76, nc76, cc76, e76, G76⟩ := P76
                      have V3 : RowC w12 (blk 3) #[.slice ra76 na76 ca76, .slice rb76 nb76 cb76, .slice rc76 nc76 cc76] := row_src (s := 2) f3 rfl (hx76.symm.trans e76)
                      have ha := puts_each rfl rfl hF [x74, _, x76, _, undef] rfl ⟨hx74.symm, (hS 1 _ rfl rfl rfl).1, hx76.symm, v3, trivial, trivial⟩
                      simp only [puts, Act.put, List.setIfInBounds_toArray, List.set_cons_succ, List.set_cons_zero] at ha
                      subst ha
                      clear hx74 hx76
                      clear hS hv hfin hdis hF v3 f3
                      replace h8 := h8.kept hB
                      replace h12 := h12.kept hB
                      replace h13 := h13.kept hB
                      replace hbel := hbel.trans (hB.mono hbel.size)
                      obtain ⟨x15, e15⟩ : ∃ x, x = blk 3 := ⟨_, rfl⟩
                      rw [← e15] at V3 ⊢
                      have h15 := V3
                      have H15 := Lib.hid (SPt.of G76)
                      clear hB V3 v3l v3u e15 e76 G76 h11
                      go_upto_region 21 with (fail)
                      have hsm : sameB 32 (dg 256 (bytesN (Bp.mul S2))) (dg 256 (bytesN (q.add (p.mul K)))) = decide (bytesN (Bp.mul S2) = bytesN (q.add (p.mul K))) := same_num (bytesN_bound _).1 (by rw [p256]; exact (bytesN_bound _).2) (bytesN_bound _).1 (by rw [p256]; exact (bytesN_bound _).2)
                      by_cases hE : bytesN (Bp.mul S2) = bytesN (q.add (p.mul K))
                      case pos =>
                        obtain rfl := HV2.out.1 (by rw [HDD.out, ← HBQ.out]; exact ver_sides.1 hE)
                        have HQ : Hid (sameB 32 (dg 256 (bytesN (Bp.mul S2))) (dg 256 (bytesN (q.add (p.mul K)))) = true) := by rw [hsm]; exact decide_eq_true hE
                        clear hE hsm
                        refine region_flow (n := 90) (by kernel_rfl) (by kernel_rfl) (by kernel_rfl) rfl
                          (fun ii vv ww => (match ii with | 0 => vv = .agg #[.slice ra76 na76 ca76, .slice rb76 nb76 cb76, .slice rc76 nc76 cc76] | 1 => vv = .agg (arr .u8 32 (dg 256 (bytesN (Bp.mul S2)))) | 2 => vv = .agg (arr .i64 64 (F13)) | 3 => vv = .agg (arr .i64 64 (F8)) | 4 => vv = .agg (arr .u8 32 (dg 256 (K : Int))) | 7 => vv = .agg (arr .u8 32 (dg 256 (bytesN (q.add (p.mul K))))) | 8 => vv = .bool true | _ => True) ∧ (ii = 5 → NPt vv (p.mul K)) ∧ (ii = 6 → NPt vv (q.add (p.mul K))))
                          (fun w w' => Below w.heap.size w w') (fun _ _ h => h) (fun i v w w' h hE => ⟨h.1, fun e => NPt.keep (h.2.1 e) hE, fun e => NPt.keep (h.2.2 e) hE⟩) ?_ ?_
                        · refine Each.all ?_
                          refine ⟨?_, ?_, ?_, ?_, ?_, ?_, ?_, ?_, ?_, trivial⟩
                          · intro a w2 hB hF hd
                            rw [if_pos (wanted_none rfl)]
                            exact flow_val (fun h => by cases h) (run_load_rowC (cs := #[.slice ra76 na76 ca76, .slice rb76 nb76 cb76, .slice rc76 nc76 cc76]) rfl Try.underlying32 rfl Try.size32 (hF.same 15 rfl) (h15.kept hB)) ⟨rfl, fun h => absurd h (by decide), fun h => absurd h (by decide)⟩
                          · intro a w2 hB hF hd
                            rw [if_pos (wanted_none rfl)]
                            refine flow_call _ _ _ rfl Try.call13 _ (args1 ((hd 0 _ rfl (waits_spec rfl)).1)) (by simp) ((rBytesS w2 (H15.out.below hB)).mono ?_)
                            rintro e w3 ⟨rfl, hb⟩; exact ⟨_, rfl, ⟨rfl, fun h => absurd h (by decide), fun h => absurd h (by decide)⟩, hb⟩
                          · intro a w2 hB hF hd
                            rw [if_pos (wanted_none rfl)]
                            exact flow_val (fun h => by cases h) (run_load_str rfl Try.underlying28 rfl Try.size28 (hF.same 13 rfl) (h13.below hB h13.lt)) ⟨rfl, fun h => absurd h (by decide), fun h => absurd h (by decide)⟩
                          · intro a w2 hB hF hd
                            rw [if_pos (wanted_none rfl)]
                            exact flow_val (fun h => by cases h) (run_load_str rfl Try.underlying28 rfl Try.size28 (hF.same 8 rfl) (h8.below hB h8.lt)) ⟨rfl, fun h => absurd h (by decide), fun h => absurd h (by decide)⟩
                          · intro a w2 hB hF hd
                            rw [if_pos (wanted_none rfl)]
                            exact flow_val (fun h => by cases h) (run_load_str rfl Try.underlying22 rfl Try.size22 (hF.same 12 rfl) (h12.below hB h12.lt)) ⟨rfl, fun h => absurd h (by decide), fun h => absurd h (by decide)⟩
                          · intro a w2 hB hF hd
                            rw [if_pos (wanted_none rfl)]
                            refine flow_call _ _ _ rfl Try.call16 _ (args2 ((hd 3 _ rfl (waits_spec rfl)).1) ((hd 4 _ rfl (waits_spec rfl)).1)) (by simp) ((pMulN K HKL.out w2 ⟨_, rfl, HPF.out⟩).mono ?_)
                            rintro e w3 ⟨u, rfl, hr, hb⟩; exact ⟨u, rfl, ⟨trivial, fun _ => hr, fun h => absurd h (by decide)⟩, hb⟩
                          · intro a w2 hB hF hd
                            rw [if_pos (wanted_none rfl)]
                            refine flow_call _ _ _ rfl Try.call18 _ (args2 ((hd 2 _ rfl (waits_spec rfl)).1) rfl) (by simp) ((pAddN w2 ⟨_, rfl, HPQ.out⟩ ((hd 5 _ rfl (waits_spec rfl)).2.1 rfl)).mono ?_)
                            rintro e w3 ⟨u, rfl, hr, hb⟩; exact ⟨u, rfl, ⟨trivial, fun h => absurd h (by decide), fun _ => hr⟩, hb⟩
                          · intro a w2 hB hF hd
                            rw [if_pos (wanted_none rfl)]
                            refine flow_call _ _ _ rfl Try.call12 _ (args1 rfl) (by simp) ((pBytesN w2 ((hd 6 _ rfl (waits_spec rfl)).2.2 rfl)).mono ?_)
                            rintro e w3 ⟨rfl, hb⟩; exact ⟨_, rfl, ⟨rfl, fun h => absurd h (by decide), fun h => absurd h (by decide)⟩, hb⟩
                          · intro a w2 hB hF hd
                            rw [if_pos (wanted_none rfl)]
                            exact flow_val (fun h => by cases h) (run_eql_arr true rfl ((hd 1 _ rfl (waits_spec rfl)).1) ((hd 7 _ rfl (waits_spec rfl)).1) Try.underlying22 (by kernel_rfl) (by kernel_rfl) (by kernel_rfl) (by kernel_rfl) (by kernel_rfl) HQ.out) ⟨rfl, fun h => absurd h (by decide), fun h => absurd h (by decide)⟩
                        · intro a w13 hB hF hS
                          obtain ⟨x82, hx82⟩ : ∃ x, x = a.tmps.getD 82 undef := ⟨_, rfl⟩
                          obtain ⟨x83, hx83⟩ : ∃ x, x = a.tmps.getD 83 undef := ⟨_, rfl⟩
                          have ha := puts_each rfl rfl hF [_, _, _, _, _, x82, x83, _, _] rfl ⟨(hS 0 _ rfl).1, (hS 1 _ rfl).1, (hS 2 _ rfl).1, (hS 3 _ rfl).1, (hS 4 _ rfl).1, hx82.symm, hx83.symm, (hS 7 _ rfl).1, (hS 8 _ rfl).1, trivial⟩
                          simp only [puts, Act.put, List.setIfInBounds_toArray, List.set_cons_succ, List.set_cons_zero] at ha
                          subst ha
                          clear hx82 hx83
                          clear hS hF
                          have hb13 := hbel.trans (hB.mono hbel.size)
                          go_wp2
                          go_ret
                          exact ⟨rfl, hb13⟩
                      case neg =>
                        obtain rfl := HV2.out.2 (fun e => hE (ver_sides.2 (by rw [HBQ.out, ← HDD.out]; exact e)))
                        have HQ : Hid (sameB 32 (dg 256 (bytesN (Bp.mul S2))) (dg 256 (bytesN (q.add (p.mul K)))) = false) := by rw [hsm]; exact decide_eq_false hE
                        clear hE hsm
                        refine region_flow (n := 90) (by kernel_rfl) (by kernel_rfl) (by kernel_rfl) rfl
                          (fun ii vv ww => (match ii with | 0 => vv = .agg #[.slice ra76 na76 ca76, .slice rb76 nb76 cb76, .slice rc76 nc76 cc76] | 1 => vv = .agg (arr .u8 32 (dg 256 (bytesN (Bp.mul S2)))) | 2 => vv = .agg (arr .i64 64 (F13)) | 3 => vv = .agg (arr .i64 64 (F8)) | 4 => vv = .agg (arr .u8 32 (dg 256 (K : Int))) | 7 => vv = .agg (arr .u8 32 (dg 256 (bytesN (q.add (p.mul K))))) | 8 => vv = .bool false | _ => True) ∧ (ii = 5 → NPt vv (p.mul K)) ∧ (ii = 6 → NPt vv (q.add (p.mul K))))
                          (fun w w' => Below w.heap.size w w') (fun _ _ h => h) (fun i v w w' h hE => ⟨h.1, fun e => NPt.keep (h.2.1 e) hE, fun e => NPt.keep (h.2.2 e) hE⟩) ?_ ?_
                        · refine Each.all ?_
                          refine ⟨?_, ?_, ?_, ?_, ?_, ?_, ?_, ?_, ?_, trivial⟩
                          · intro a w2 hB hF hd
                            rw [if_pos (wanted_none rfl)]
                            exact flow_val (fun h => by cases h) (run_load_rowC (cs := #[.slice ra76 na76 ca76, .slice rb76 nb76 cb76, .slice rc76 nc76 cc76]) rfl Try.underlying32 rfl Try.size32 (hF.same 15 rfl) (h15.kept hB)) ⟨rfl, fun h => absurd h (by decide), fun h => absurd h (by decide)⟩
                          · intro a w2 hB hF hd
                            rw [if_pos (wanted_none rfl)]
                            refine flow_call _ _ _ rfl Try.call13 _ (args1 ((hd 0 _ rfl (waits_spec rfl)).1)) (by simp) ((rBytesS w2 (H15.out.below hB)).mono ?_)
                            rintro e w3 ⟨rfl, hb⟩; exact ⟨_, rfl, ⟨rfl, fun h => absurd h (by decide), fun h => absurd h (by decide)⟩, hb⟩
                          · intro a w2 hB hF hd
                            rw [if_pos (wanted_none rfl)]
                            exact flow_val (fun h => by cases h) (run_load_str rfl Try.underlying28 rfl Try.size28 (hF.same 13 rfl) (h13.below hB h13.lt)) ⟨rfl, fun h => absurd h (by decide), fun h => absurd h (by decide)⟩
                          · intro a w2 hB hF hd
                            rw [if_pos (wanted_none rfl)]
                            exact flow_val (fun h => by cases h) (run_load_str rfl Try.underlying28 rfl Try.size28 (hF.same 8 rfl) (h8.below hB h8.lt)) ⟨rfl, fun h => absurd h (by decide), fun h => absurd h (by decide)⟩
                          · intro a w2 hB hF hd
                            rw [if_pos (wanted_none rfl)]
                            exact flow_val (fun h => by cases h) (run_load_str rfl Try.underlying22 rfl Try.size22 (hF.same 12 rfl) (h12.below hB h12.lt)) ⟨rfl, fun h => absurd h (by decide), fun h => absurd h (by decide)⟩
                          · intro a w2 hB hF hd
                            rw [if_pos (wanted_none rfl)]
                            refine flow_call _ _ _ rfl Try.call16 _ (args2 ((hd 3 _ rfl (waits_spec rfl)).1) ((hd 4 _ rfl (waits_spec rfl)).1)) (by simp) ((pMulN K HKL.out w2 ⟨_, rfl, HPF.out⟩).mono ?_)
                            rintro e w3 ⟨u, rfl, hr, hb⟩; exact ⟨u, rfl, ⟨trivial, fun _ => hr, fun h => absurd h (by decide)⟩, hb⟩
                          · intro a w2 hB hF hd
                            rw [if_pos (wanted_none rfl)]
                            refine flow_call _ _ _ rfl Try.call18 _ (args2 ((hd 2 _ rfl (waits_spec rfl)).1) rfl) (by simp) ((pAddN w2 ⟨_, rfl, HPQ.out⟩ ((hd 5 _ rfl (waits_spec rfl)).2.1 rfl)).mono ?_)
                            rintro e w3 ⟨u, rfl, hr, hb⟩; exact ⟨u, rfl, ⟨trivial, fun h => absurd h (by decide), fun _ => hr⟩, hb⟩
                          · intro a w2 hB hF hd
                            rw [if_pos (wanted_none rfl)]
                            refine flow_call _ _ _ rfl Try.call12 _ (args1 rfl) (by simp) ((pBytesN w2 ((hd 6 _ rfl (waits_spec rfl)).2.2 rfl)).mono ?_)
                            rintro e w3 ⟨rfl, hb⟩; exact ⟨_, rfl, ⟨rfl, fun h => absurd h (by decide), fun h => absurd h (by decide)⟩, hb⟩
                          · intro a w2 hB hF hd
                            rw [if_pos (wanted_none rfl)]
                            exact flow_val (fun h => by cases h) (run_eql_arr false rfl ((hd 1 _ rfl (waits_spec rfl)).1) ((hd 7 _ rfl (waits_spec rfl)).1) Try.underlying22 (by kernel_rfl) (by kernel_rfl) (by kernel_rfl) (by kernel_rfl) (by kernel_rfl) HQ.out) ⟨rfl, fun h => absurd h (by decide), fun h => absurd h (by decide)⟩
                        · intro a w13 hB hF hS
                          obtain ⟨x82, hx82⟩ : ∃ x, x = a.tmps.getD 82 undef := ⟨_, rfl⟩
                          obtain ⟨x83, hx83⟩ : ∃ x, x = a.tmps.getD 83 undef := ⟨_, rfl⟩
                          have ha := puts_each rfl rfl hF [_, _, _, _, _, x82, x83, _, _] rfl ⟨(hS 0 _ rfl).1, (hS 1 _ rfl).1, (hS 2 _ rfl).1, (hS 3 _ rfl).1, (hS 4 _ rfl).1, hx82.symm, hx83.symm, (hS 7 _ rfl).1, (hS 8 _ rfl).1, trivial⟩
                          simp only [puts, Act.put, List.setIfInBounds_toArray, List.set_cons_succ, List.set_cons_zero] at ha
                          subst ha
                          clear hx82 hx83
                          clear hS hF
                          have hb13 := hbel.trans (hB.mono hbel.size)
                          go_wp2
                          go_ret
                          exact ⟨rfl, hb13⟩

theorem signVerifies_law (w : World) (fs : Nat → Int) (hs : ∀ i, i < 32 → (Lit.int .u8 (fs i)).wf = true) (v : Value) (n : Nat) (f : Nat → Int) (hv : Rd .u8 w v n f) (hf : ∀ i, i < n → (Lit.int .u8 (f i)).wf = true) (v2 : Value) (n2 : Nat) (f2 : Nat → Int) (hv2 : Rd .u8 w v2 n2 f2) (hf2 : ∀ i, i < n2 → (Lit.int .u8 (f2 i)).wf = true) :
    Calls Try.prog 6 #[.agg (arr .u8 32 fs), v, v2] w fun e w' => e = .returned (.bool true) ∧ Below w.heap.size w w' := by
  obtain ⟨S, eS, s0, s1⟩ := num32 fs hs
  rw [eS]
  exact signVerifies_num S s0 (by omega) v v2 n n2 f f2 w hv hv2 (fun i hi => by have := bounds_u8 (hf i hi); omega) (fun i hi => by have := bounds_u8 (hf2 i hi); omega)
end Go.Proofs.Ytdhejcaapdhhfaa
