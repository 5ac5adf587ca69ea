/-
  Part 24 of the texts that the proof of SignSigns rests on, one after the other. Conditions: named in each theorem.
-/
import Derived.Test.YtdhejcaapdhhfaaGreatPkSignSigns22
import Derived.Test.YtdhejcaapdhhfaaGreatPkSignSigns21
import Derived.Test.YtdhejcaapdhhfaaGreatPkSignSigns5
import Derived.Test.YtdhejcaapdhhfaaGreatPkSignSigns2
import Derived.Test.YtdhejcaapdhhfaaGreatPkSignSigns19
import Derived.Test.YtdhejcaapdhhfaaGreatPkSignSigns8
import Derived.Test.YtdhejcaapdhhfaaGreatPkSignSigns7
import Derived.Test.YtdhejcaapdhhfaaGreatPkSignSigns18
import Derived.Test.YtdhejcaapdhhfaaGreatPkSignSigns15
import Derived.Test.YtdhejcaapdhhfaaGreatPkSignSigns14
import Derived.Test.YtdhejcaapdhhfaaGreatPkSignSigns1
import Derived.Test.YtdhejcaapdhhfaaGreatPkSignSigns9
import Derived.Test.YtdhejcaapdhhfaaGreatPkSignSigns17
import Derived.Test.YtdhejcaapdhhfaaGreatPkSignSigns11
import Derived.Test.YtdhejcaapdhhfaaGreatPkSignSigns3
import Derived.Test.YtdhejcaapdhhfaaGreatPkSignSigns20
import Derived.Test.YtdhejcaapdhhfaaGreatPkSignSigns6
import Derived.Test.YtdhejcaapdhhfaaGreatPkSignSigns23
import Derived.BigFrame
import Derived.BigQuiet
import Derived.ChangeKeysEq
import Derived.ChangeOld
import Derived.Deep.Cut
import Derived.Deep.DrawnRows
import Derived.Deep.LoopGhost
import Derived.Deep.MidRow
import Derived.Deep.QuietTactic
import Derived.Deep.RegionHeld3
import Derived.Deep.RegionLaw
import Derived.Deep.WholeRow
import Derived.Laws.BitsAllLaws
import Derived.Laws.BytesArg
import Derived.Laws.CopyOwn
import Derived.Laws.IdiomCopy
import Derived.Laws.Strings
import Derived.Laws.StructEq
import Derived.Lib.BufferRead
import Derived.Lib.Hide
import Derived.Maps.AppendAt
import Derived.Maps.Range
import Derived.OpenShut
import Derived.Orders
import Derived.OrdersIn
import Derived.OwnWalkIn
import Derived.ProofKit
import Derived.RangeFuncCalls
import Derived.ShutString
import Derived.Test.YtdhejcaapdhhfaaGreatArr
import Derived.Test.YtdhejcaapdhhfaaGreatFlow
import Derived.Test.YtdhejcaapdhhfaaGreatKit
import Derived.Test.YtdhejcaapdhhfaaGreatOpen
import Derived.Test.YtdhejcaapdhhfaaGreatRows
import Derived.WalkKit
import Derived.WalkLawsBesides
import Derived.WalkSmall
import Derived.WalkSpells
set_option linter.unusedVariables false
set_option linter.unusedSimpArgs false
namespace Go.Bas
open Go.RowKit
/-- F is the limbs of the point p. -/
def PFn (F : Nat → Int) (p : Ed C7) : Prop := ∃ f g h e X Y Z T, F = pt f g h e ∧ Fe4P f g h e X Y Z T ∧ PRep X Y Z T p
theorem PRep.zero : PRep 0 1 1 (0 * 1) .zero := by
  refine ⟨?_, ?_, ?_, ?_⟩
  · rw [toF_one]; exact fp_one_ne
  · rw [toF_zero, toF_one]; show (0 : Fp) = 0 * 1; grind
  · rw [toF_one]; show (1 : Fp) = 1 * 1; grind
  · rw [Int.zero_mul, toF_zero, toF_one]; show (0 : Fp) = 0 * 1 * 1; grind
theorem PRep.neg {X Y Z T : Int} {p : Ed C7} (h : PRep X Y Z T p) : PRep (-X) Y Z (-T) p.neg := by
  obtain ⟨h0, h1, h2, h3⟩ := h
  refine ⟨h0, ?_, h2, ?_⟩
  · rw [toF_neg, h1]; show -(p.x * toF Z) = -p.x * toF Z; generalize p.x = a; generalize toF Z = b; grind
  · rw [toF_neg, h3]; show -(p.x * p.y * toF Z) = -p.x * p.y * toF Z; generalize p.x = a; generalize p.y = c; generalize toF Z = b; grind
theorem PFn.pick (b : Bool) {f g h e u v r s : Nat → Int} {X Y Z T U V W S : Int} {p q : Ed C7} (h1 : Fe4P f g h e X Y Z T) (h2 : Fe4P u v r s U V W S) (k1 : PRep X Y Z T p) (k2 : PRep U V W S q) : PFn (pt (pick2 b f u) (pick2 b g v) (pick2 b h r) (pick2 b e s)) (if b then q else p) := by
  cases b
  · exact ⟨f, g, h, e, X, Y, Z, T, rfl, h1, k1⟩
  · exact ⟨u, v, r, s, U, V, W, S, rfl, h2, k2⟩
theorem mul_step (p : Ed C7) (N : Nat) (b : Bool) (hb : b = (N % 2 == 1)) {F G : Nat → Int}
    (h7 : PFn F (if b = true then (if b = true then p.mul (N / 2) else p.mul (N / 2 + 1)).add (if b = true then p.mul (N / 2 + 1) else p.mul (N / 2)) else (if b = true then p.mul (N / 2 + 1) else p.mul (N / 2)).add (if b = true then p.mul (N / 2 + 1) else p.mul (N / 2))))
    (h8 : PFn G (if b = true then (if b = true then p.mul (N / 2 + 1) else p.mul (N / 2)).add (if b = true then p.mul (N / 2 + 1) else p.mul (N / 2)) else (if b = true then p.mul (N / 2) else p.mul (N / 2 + 1)).add (if b = true then p.mul (N / 2 + 1) else p.mul (N / 2)))) :
    PFn F (p.mul N) ∧ PFn G (p.mul (N + 1)) := by
  obtain ⟨M, hM⟩ : ∃ M, M = N / 2 := ⟨_, rfl⟩
  rw [← hM] at h7 h8
  cases b
  · have hN : N = M + M := by
      have : ¬ N % 2 = 1 := by intro e; rw [e] at hb; exact absurd hb (by decide)
      omega
    have h7' : PFn F ((p.mul M).add (p.mul M)) := h7
    have h8' : PFn G ((p.mul (M + 1)).add (p.mul M)) := h8
    rw [← Ed.mul_add] at h7' h8'
    rw [hN, show M + M + 1 = M + 1 + M by omega]
    exact ⟨h7', h8'⟩
  · have hN : N = M + (M + 1) := by
      have : N % 2 = 1 := by have h := hb.symm; rwa [beq_iff_eq] at h
      omega
    have h7' : PFn F ((p.mul M).add (p.mul (M + 1))) := h7
    have h8' : PFn G ((p.mul (M + 1)).add (p.mul (M + 1))) := h8
    rw [← Ed.mul_add] at h7' h8'
    rw [hN, show M + (M + 1) + 1 = M + 1 + (M + 1) by omega]
    exact ⟨h7', h8'⟩
end Go.Bas
namespace Go.Proofs.YtdhejcaapdhhfaaGreat
open Go.RowKit Go.Bas Go.ChangeShapes
attribute [local go_sem ↓] Go.wp_at_zero Go.wp_at_succ
/-- limbs of a point, by value. -/
abbrev P64 (F : Nat → Int) : Value := .agg (arr .i64 64 F)
theorem pSum_ok {A B : Nat → Int} {p q : Ed C7} (hA : PFn A p) (hB : PFn B q) : ∃ F, PFn F (p.add q) ∧ ∀ w, Calls Tryz.prog 62 #[P64 A, P64 B, El ddF] w fun e w' => e = .returned (P64 F) ∧ Below w.heap.size w w' := by
  obtain ⟨f, g, h, e, X, Y, Z, T, rfl, h1, h2⟩ := hA
  obtain ⟨u, v, r, s, U, V, W, S, rfl, k1, k2⟩ := hB
  exact ⟨_, ⟨_, _, _, _, _, _, _, _, rfl, Fe4P.sum h1 k1 fe_dd, h2.sum k2 toF_dd⟩, fun w => pnSum_any f g h e u v r s ddF X Y Z T U V W S _ h1 k1 fe_dd w⟩
theorem pAdd_ok {A B : Nat → Int} {p q : Ed C7} (hA : PFn A p) (hB : PFn B q) : ∃ F, PFn F (p.add q) ∧ ∀ w, Calls Tryz.prog 49 #[P64 A, P64 B] w fun e w' => e = .returned (P64 F) ∧ Below w.heap.size w w' := by
  obtain ⟨f, g, h, e, X, Y, Z, T, rfl, h1, h2⟩ := hA
  obtain ⟨u, v, r, s, U, V, W, S, rfl, k1, k2⟩ := hB
  exact ⟨_, ⟨_, _, _, _, _, _, _, _, rfl, Fe4P.sum h1 k1 fe_dd, h2.sum k2 toF_dd⟩, fun w => pnAdd_any f g h e u v r s X Y Z T U V W S h1 k1 w⟩
theorem pNeg_ok {A : Nat → Int} {p : Ed C7} (hA : PFn A p) : ∃ F, PFn F p.neg ∧ ∀ w, Calls Tryz.prog 50 #[P64 A] w fun e w' => e = .returned (P64 F) ∧ Below w.heap.size w w' := by
  obtain ⟨f, g, h, e, X, Y, Z, T, rfl, h1, h2⟩ := hA
  exact ⟨_, ⟨_, _, _, _, _, _, _, _, rfl, ⟨h1.1.negF, h1.2.1, h1.2.2.1, h1.2.2.2.negF⟩, h2.neg⟩, fun w => pnNeg_any f g h e X Y Z T h1 w⟩
theorem pSwap_ok (b : Bool) {A B : Nat → Int} {p q : Ed C7} (hA : PFn A p) (hB : PFn B q) : ∃ F G, PFn F (if b then q else p) ∧ PFn G (if b then p else q) ∧ ∀ w, Calls Tryz.prog 61 #[P64 A, P64 B, .bool b] w fun e w' => e = .returned (.tuple #[P64 F, P64 G]) ∧ Below w.heap.size w w' := by
  obtain ⟨f, g, h, e, X, Y, Z, T, rfl, h1, h2⟩ := hA
  obtain ⟨u, v, r, s, U, V, W, S, rfl, k1, k2⟩ := hB
  exact ⟨_, _, PFn.pick b h1 k1 h2 k2, PFn.pick b k1 h1 k2 h2, fun w => pnSwapped_any b f g h e u v r s X Y Z T U V W S h1 k1 w⟩
theorem pNought_ok : ∃ F, PFn F .zero ∧ ∀ w, Calls Tryz.prog 60 #[] w fun e w' => e = .returned (P64 F) ∧ Below w.heap.size w w' :=
  ⟨_, ⟨_, _, _, _, _, _, _, _, rfl, ⟨fe_s0, fe_s1, fe_s1, fe_s0.mulF fe_s1⟩, PRep.zero⟩, fun w => pnNought_any w⟩

set_option maxRecDepth 100000 in
set_option maxHeartbeats 12800000 in
theorem pMul_ok {A : Nat → Int} {p : Ed C7} (hp : PFn A p) (n : Nat) (hn : n < 2 ^ 256) (w : World) :
    Calls Tryz.prog 25 #[P64 A, .agg (arr .u8 32 (dg 256 (n : Int)))] w fun e w' => ∃ F, e = .returned (P64 F) ∧ PFn F (p.mul n) ∧ Below w.heap.size w w' := by
  have HPA := Lib.hid hp
  obtain ⟨f, g, h, e, X, Y, Z, T, hA0, h1, h2⟩ := hp
  have HP := Lib.hid h1
  have HZ0 : Hid (¬ Z % Pr = 0 % Pr) := fun e => h2.1 (by rw [← toF_zero]; exact toF_eq.2 e)
  have HA0 := Lib.hid hA0
  obtain ⟨FN, hFN, hNO⟩ := pNought_ok
  have HN0 := Lib.hid hNO
  have HFN := Lib.hid hFN
  obtain ⟨N, hN⟩ : ∃ N, N = (n : Int) := ⟨_, rfl⟩
  have HNN := Lib.hid hN
  rw [← hN]
  have HN256 := Lib.hid hn
  have HM0 : Hid (p.mul (n / 2 ^ (256 - 0)) = .zero) := by
    unfold Hid
    rw [Nat.sub_zero, Nat.div_eq_of_lt hn]; rfl
  have HM1 : Hid (p.mul (n / 2 ^ (256 - 0) + 1) = p) := by
    unfold Hid
    rw [Nat.sub_zero, Nat.div_eq_of_lt hn]; exact p.mul_one
  obtain ⟨dd, hdd⟩ : ∃ x, x = ddF := ⟨_, rfl⟩
  have HDD := Lib.hid hdd
  have HADD : Hid (∀ w, Calls Tryz.prog 59 #[.agg (arr .i64 16 curveF), .agg (arr .i64 16 curveF)] w fun e w' => e = .returned (.agg (arr .i64 16 dd)) ∧ Below w.heap.size w w') := fun w => by rw [hdd]; exact feAdd_any _ _ _ _ fe_curve fe_curve w
  clear h1 h2 hA0 hNO hFN hN hdd hn
  go_enter Tryz.func25, Tryz.ntmps25
  go_upto_region 1 with (fail)
  refine wp_world (fun w1 => Arr .i64 w1 w.heap.size 64 A ∧ Arr .u8 w1 (w.heap.size + 1) 32 (dg 256 N) ∧ Arr .i64 w1 (w.heap.size + 2) 64 (fun _ => 0) ∧ Below w.heap.size w w1)
    ⟨.alloc (.alloc (Arr.newAt rfl rfl) _) _, .alloc (Arr.newAt (by first | omega | (simp <;> omega)) rfl) _, Arr.newAt (by first | omega | (simp <;> omega)) (by rfl), (((Below.refl _ _).alloc (Nat.le_refl _) _).alloc (by first | omega | (simp <;> omega)) _).alloc (by first | omega | (simp <;> omega)) _⟩ ?_
  rintro w1 ⟨hA, hNb, hZ, hbel⟩
  have hAp := hA
  rw [HA0.out] at hAp
  refine region_flow (n := 59) (by kernel_rfl) (by kernel_rfl) (by kernel_rfl) rfl
    (fun ii vv _ => (match ii with | 0 => vv = .pointer (some ⟨w.heap.size, 32, none⟩) | 1 => vv = .agg (arr .i64 16 (h)) | 2 => vv = .agg (arr .i64 16 (smallF 0)) | 3 => vv = .bool false | _ => True))
    (fun w w' => Below w.heap.size w w') (fun _ _ h => h) (fun _ _ _ _ h _ => h) ?_ ?_
  · refine Each.all ?_
    refine ⟨?_, ?_, ?_, ?_, trivial⟩
    · intro a w2 hB hF hd
      rw [if_pos (wanted_none rfl)]
      refine flow_val (fun h => by cases h) (run_field_at (m := 15) (k := 32) rfl (hF.same 2 rfl) (by kernel_rfl)) ?_
      exact rfl
    · intro a w2 hB hF hd
      rw [if_pos (wanted_none rfl)]
      exact flow_val (fun h => by cases h) (run_load_mid rfl (hd 0 _ rfl (waits_spec rfl)) Tryz.underlying53 rfl Tryz.size53 (fun i hi => (hB.cell (p := ⟨w.heap.size, 32 + i, none⟩) hAp.lt).trans (ptc2 hAp i hi))) rfl
    · intro a w2 hB hF hd
      rw [if_pos (wanted_none rfl)]
      refine flow_call _ _ _ rfl Tryz.call52 _ (args1 rfl) (by simp) ((feSmall_any 0 w2).mono ?_)
      rintro e w3 ⟨rfl, hb⟩; exact ⟨_, rfl, rfl, hb⟩
    · intro a w2 hB hF hd
      rw [if_pos (wanted_none rfl)]
      refine flow_call _ _ _ rfl Tryz.call57 _ (args2 (hd 1 _ rfl (waits_spec rfl)) (hd 2 _ rfl (waits_spec rfl))) (by simp) ((feEqual_no _ _ _ _ HP.out.2.2.1 fe_s0 HZ0.out w2).mono ?_)
      rintro e w3 ⟨rfl, hb⟩; exact ⟨_, rfl, rfl, hb⟩
  · intro a w2 hB hF hS
    have ha := puts_each rfl rfl hF [_, _, _, _] rfl ⟨hS 0 _ rfl, hS 1 _ rfl, hS 2 _ rfl, hS 3 _ rfl, trivial⟩
    simp only [puts, Act.put, List.setIfInBounds_toArray, List.set_cons_succ, List.set_cons_zero] at ha
    subst ha
    clear hS hF
    replace hA := hA.kept hB
    replace hNb := hNb.kept hB
    replace hZ := hZ.kept hB
    replace hbel := hbel.trans (hB.mono hbel.size)
    clear hB hAp
    go_upto_region 3 with (fail)
    refine region_vars (n := 59) (by kernel_rfl) (by kernel_rfl) (by kernel_rfl) rfl
      (isAl [(2, 1)]) (putOf [(2, 1)]) (fun _ => arr .i64 16 (fun _ => 0)) (fun _ => (arr .i64 16 (curveF))) (fun _ => 53) (fun _ => 5)
      (fun ii vv _ => (match ii with | 0 => vv = .agg (arr .i64 16 (curveF)) | _ => True)) (fun _ _ => True) (fun _ _ _ => trivial) (fun _ _ _ _ _ _ _ => trivial) (fun _ _ _ _ h _ => h)
      (vs_al rfl) (vs_inj rfl) ?_ ?_ ?_ ?_
    · refine Each.all ?_
      refine ⟨?_, (fun h => by cases h), (fun _ h => by cases h), trivial⟩
      · intro _ _ a w2 hB hF hd
        rw [if_pos (wanted_none rfl)]
        refine flow_call _ _ _ rfl Tryz.call58 _ args0 (by simp) ((pnCurve_any w2).mono ?_)
        rintro e w3 ⟨rfl, hb⟩; exact ⟨_, rfl, rfl, hb⟩
    · refine Each.all ?_
      refine ⟨(fun h => by cases h), ?_, (fun h => by cases h), trivial⟩
      · exact fun _ => ⟨rfl, rfl, fun a w2 K h => flow_alloc rfl rfl Tryz.zeroValue53 (by simp) h⟩
    · refine Each.all ?_
      refine ⟨(fun _ h => by cases h), (fun _ h => by cases h), ?_, trivial⟩
      · intro p hp
        obtain rfl : 1 = p := Option.some.inj hp
        exact ⟨rfl, rfl, ⟨_, rfl⟩, waits_spec rfl, fun a w2 b K hB hF hd hx hb h => flow_put rfl rfl Tryz.size53 hx (hd 0 _ rfl rfl rfl (waits_spec rfl)) hb h⟩
    · intro a w3 blk hB hF hS hv hfin hdis
      obtain ⟨v1, v1l, v1u⟩ := hv 1 _ rfl rfl
      have ha := puts_each rfl rfl hF [_, _, undef] rfl ⟨hS 0 _ rfl rfl rfl, v1, trivial, trivial⟩
      have f1 := hfin 2 _ 1 rfl rfl
      simp only [puts, Act.put, List.setIfInBounds_toArray, List.set_cons_succ, List.set_cons_zero] at ha
      subst ha
      have V1 : Arr .i64 w3 (blk 1) 16 (curveF) := ⟨_, f1⟩
      clear hS hv hfin hdis hF v1 f1
      replace hA := hA.kept hB
      replace hNb := hNb.kept hB
      replace hZ := hZ.kept hB
      replace hbel := hbel.trans (hB.mono hbel.size)
      obtain ⟨x5, e5⟩ : ∃ x, x = blk 1 := ⟨_, rfl⟩
      rw [← e5] at V1 ⊢
      have h5 := V1
      clear V1 hB e5 v1l v1u
      go_upto_region 4 with (fail)
      refine region_vars (n := 59) (by kernel_rfl) (by kernel_rfl) (by kernel_rfl) rfl
        (isAl [(4, 3)]) (putOf [(4, 3)]) (fun _ => arr .i64 16 (fun _ => 0)) (fun _ => (arr .i64 16 (dd))) (fun _ => 53) (fun _ => 6)
        (fun ii vv _ => (match ii with | 0 | 1 => vv = .agg (arr .i64 16 (curveF)) | 2 => vv = .agg (arr .i64 16 (dd)) | _ => True)) (fun _ _ => True) (fun _ _ _ => trivial) (fun _ _ _ _ _ _ _ => trivial) (fun _ _ _ _ h _ => h)
        (vs_al rfl) (vs_inj rfl) ?_ ?_ ?_ ?_
      · refine Each.all ?_
        refine ⟨?_, ?_, ?_, (fun h => by cases h), (fun _ h => by cases h), trivial⟩
        · intro _ _ a w2 hB hF hd
          rw [if_pos (wanted_none rfl)]
          exact flow_val (fun h => by cases h) (run_load_str rfl Tryz.underlying53 rfl Tryz.size53 (hF.same 5 rfl) (h5.below hB h5.lt)) rfl
        · intro _ _ a w2 hB hF hd
          rw [if_pos (wanted_none rfl)]
          exact flow_val (fun h => by cases h) (run_load_str rfl Tryz.underlying53 rfl Tryz.size53 (hF.same 5 rfl) (h5.below hB h5.lt)) rfl
        · intro _ _ a w2 hB hF hd
          rw [if_pos (wanted_none rfl)]
          refine flow_call _ _ _ rfl Tryz.call59 _ (args2 (hd 0 _ rfl rfl rfl (waits_spec rfl)) (hd 1 _ rfl rfl rfl (waits_spec rfl))) (by simp) ((HADD.out w2).mono ?_)
          rintro e w3 ⟨rfl, hb⟩; exact ⟨_, rfl, rfl, hb⟩
      · refine Each.all ?_
        refine ⟨(fun h => by cases h), (fun h => by cases h), (fun h => by cases h), ?_, (fun h => by cases h), trivial⟩
        · exact fun _ => ⟨rfl, rfl, fun a w2 K h => flow_alloc rfl rfl Tryz.zeroValue53 (by simp) h⟩
      · refine Each.all ?_
        refine ⟨(fun _ h => by cases h), (fun _ h => by cases h), (fun _ h => by cases h), (fun _ h => by cases h), ?_, trivial⟩
        · intro p hp
          obtain rfl : 3 = p := Option.some.inj hp
          exact ⟨rfl, rfl, ⟨_, rfl⟩, waits_spec rfl, fun a w2 b K hB hF hd hx hb h => flow_put rfl rfl Tryz.size53 hx (hd 2 _ rfl rfl rfl (waits_spec rfl)) hb h⟩
      · intro a w4 blk hB hF hS hv hfin hdis
        obtain ⟨v3, v3l, v3u⟩ := hv 3 _ rfl rfl
        have ha := puts_each rfl rfl hF [_, _, _, _, undef] rfl ⟨hS 0 _ rfl rfl rfl, hS 1 _ rfl rfl rfl, hS 2 _ rfl rfl rfl, v3, trivial, trivial⟩
        have f3 := hfin 4 _ 3 rfl rfl
        simp only [puts, Act.put, List.setIfInBounds_toArray, List.set_cons_succ, List.set_cons_zero] at ha
        subst ha
        have V3 : Arr .i64 w4 (blk 3) 16 (dd) := ⟨_, f3⟩
        clear hS hv hfin hdis hF v3 f3
        have hz4 := hZ.lt
        replace hA := hA.kept hB
        replace hNb := hNb.kept hB
        replace hZ := hZ.kept hB
        replace hbel := hbel.trans (hB.mono hbel.size)
        obtain ⟨x6, e6⟩ : ∃ x, x = blk 3 := ⟨_, rfl⟩
        rw [← e6] at V3 v3l ⊢
        have h6 := V3
        have l6 : w.heap.size + 2 < x6 := by omega
        clear V3 hB e6 v3l v3u h5 hz4
        go_upto_region 5 with (fail)
        refine region_vars (n := 59) (by kernel_rfl) (by kernel_rfl) (by kernel_rfl) rfl
          (isAl [(4, 2), (5, 3)]) (putOf [(4, 2), (5, 3)]) (fun _ => arr .i64 64 (fun _ => 0)) (fun i => match i with | 2 => (arr .i64 64 (FN)) | 3 => (arr .i64 64 (A)) | _ => #[]) (fun _ => 55) (fun i => match i with | 2 => 7 | 3 => 8 | _ => 0)
          (fun ii vv _ => (match ii with | 0 => vv = .agg (arr .i64 64 (FN)) | 1 => vv = .agg (arr .i64 64 (A)) | _ => True)) (fun _ _ => True) (fun _ _ _ => trivial) (fun _ _ _ _ _ _ _ => trivial) (fun _ _ _ _ h _ => h)
          (vs_al rfl) (vs_inj rfl) ?_ ?_ ?_ ?_
        · refine Each.all ?_
          refine ⟨?_, ?_, (fun h => by cases h), (fun h => by cases h), (fun _ h => by cases h), (fun _ h => by cases h), trivial⟩
          · intro _ _ a w2 hB hF hd
            rw [if_pos (wanted_none rfl)]
            refine flow_call _ _ _ rfl Tryz.call60 _ args0 (by simp) ((HN0.out w2).mono ?_)
            rintro e w3 ⟨rfl, hb⟩; exact ⟨_, rfl, rfl, hb⟩
          · intro _ _ a w2 hB hF hd
            rw [if_pos (wanted_none rfl)]
            exact flow_val (fun h => by cases h) (run_load_str rfl Tryz.underlying55 rfl Tryz.size55 (hF.same 2 rfl) (hA.below hB hA.lt)) rfl
        · refine Each.all ?_
          refine ⟨(fun h => by cases h), (fun h => by cases h), ?_, ?_, (fun h => by cases h), (fun h => by cases h), trivial⟩
          · exact fun _ => ⟨rfl, rfl, fun a w2 K h => flow_alloc rfl rfl Tryz.zeroValue55 (by simp) h⟩
          · exact fun _ => ⟨rfl, rfl, fun a w2 K h => flow_alloc rfl rfl Tryz.zeroValue55 (by simp) h⟩
        · refine Each.all ?_
          refine ⟨(fun _ h => by cases h), (fun _ h => by cases h), (fun _ h => by cases h), (fun _ h => by cases h), ?_, ?_, trivial⟩
          · intro p hp
            obtain rfl : 2 = p := Option.some.inj hp
            exact ⟨rfl, rfl, ⟨_, rfl⟩, waits_spec rfl, fun a w2 b K hB hF hd hx hb h => flow_put rfl rfl Tryz.size55 hx (hd 0 _ rfl rfl rfl (waits_spec rfl)) hb h⟩
          · intro p hp
            obtain rfl : 3 = p := Option.some.inj hp
            exact ⟨rfl, rfl, ⟨_, rfl⟩, waits_spec rfl, fun a w2 b K hB hF hd hx hb h => flow_put rfl rfl Tryz.size55 hx (hd 1 _ rfl rfl rfl (waits_spec rfl)) hb h⟩
        · intro a w5 blk hB hF hS hv hfin hdis
          obtain ⟨v2, v2l, v2u⟩ := hv 2 _ rfl rfl
          obtain ⟨v3, v3l, v3u⟩ := hv 3 _ rfl rfl
          have ha := puts_each rfl rfl hF [_, _, _, _, undef, undef] rfl ⟨hS 0 _ rfl rfl rfl, hS 1 _ rfl rfl rfl, v2, v3, trivial, trivial, trivial⟩
          have f2 := hfin 4 _ 2 rfl rfl
          have f3 := hfin 5 _ 3 rfl rfl
          have d2_3 := hdis 2 3 _ _ rfl rfl rfl rfl (by decide)
          simp only [puts, Act.put, List.setIfInBounds_toArray, List.set_cons_succ, List.set_cons_zero] at ha
          subst ha
          have V2 : Arr .i64 w5 (blk 2) 64 (FN) := ⟨_, f2⟩
          have V3 : Arr .i64 w5 (blk 3) 64 (A) := ⟨_, f3⟩
          clear hS hv hfin hdis hF v2 v3 f2 f3
          have hx6 := h6.lt
          replace hNb := hNb.kept hB
          replace hZ := hZ.kept hB
          replace h6 := h6.kept hB
          replace hbel := hbel.trans (hB.mono hbel.size)
          obtain ⟨x7, e7⟩ : ∃ x, x = blk 2 := ⟨_, rfl⟩
          obtain ⟨x8, e8⟩ : ∃ x, x = blk 3 := ⟨_, rfl⟩
          rw [← e7] at V2 v2l d2_3 ⊢
          rw [← e8] at V3 v3l d2_3 ⊢
          have h7 := V2
          have h8 := V3
          have l7 : x6 < x7 := by omega
          have l8 : x6 < x8 := by omega
          have l78 : x7 ≠ x8 := d2_3
          clear V2 V3 hB e7 e8 v2l v2u v3l v3u d2_3 hx6 hA
          have F7 : Hid (PFn FN (p.mul (n / 2 ^ (256 - 0)))) := by rw [HM0.out]; exact HFN.out
          have F8 : Hid (PFn A (p.mul (n / 2 ^ (256 - 0) + 1))) := by rw [HM1.out]; exact HPA.out
          go_wp2
          go_loopw [9] (fun i wr => ∃ (k : Nat) (G H : Nat → Int), k ≤ 256 ∧ i = .int .i64 (255 - (k : Int)) ∧ Hid (PFn G (p.mul (n / 2 ^ (256 - k)))) ∧ Hid (PFn H (p.mul (n / 2 ^ (256 - k) + 1))) ∧ (Arr .i64 wr x7 64 G ∧ Arr .i64 wr x8 64 H) ∧ (Arr .i64 wr x6 16 dd ∧ Arr .u8 wr (w.heap.size + 1) 32 (dg 256 N) ∧ Arr .i64 wr (w.heap.size + 2) 64 (fun _ => 0)) ∧ Below w.heap.size w wr) (fun i _ => (intOf i + 1).toNat)
          case atStart => exact ⟨0, _, _, Nat.zero_le _, rfl, F7, F8, ⟨h7, h8⟩, ⟨h6, hNb, hZ⟩, hbel⟩
          case round =>
            clear h7 h8 h6 hNb hZ hbel F7 F8
            obtain ⟨k, G, H, hk, rfl, F7, F8, ⟨h7, h8⟩, ⟨h6, hNb, hZ⟩, hbel⟩ := hrel
            obtain rfl | hlt := (by omega : k = 256 ∨ k < 256)
            · have ei : (255 : Int) - ((256 : Nat) : Int) = -1 := by decide
              rw [ei]
              clear ei
              go_wp2_with (first | (refine load_str rfl 55 _ rfl .i64 x7 64 G Tryz.underlying55 rfl Tryz.size55 rfl h7 ?_) | (refine store_arr rfl 55 _ _ rfl .i64 (w.heap.size + 2) 64 (fun _ => 0) G Tryz.size55 rfl rfl hZ ?_))
              have hR : PFn G (p.mul n) := by have h := F7.out; rwa [Nat.sub_self, Nat.pow_zero, Nat.div_one] at h
              exact bodyPost_ret (results_str rfl _ _ .i64 (w.heap.size + 2) 64 _ rfl (hZ.setRow _ _) Tryz.underlying55 rfl Tryz.size55) rfl ⟨_, rfl, hR, below_setRow' hbel (by omega) _⟩
            · obtain ⟨m, hm⟩ : ∃ m, m = 255 - k := ⟨_, rfl⟩
              have ei : (255 : Int) - (k : Int) = (m : Int) := by omega
              have HKM : Hid ((m : Int) = 255 - (k : Int)) := ei.symm
              have HKL := Lib.hid hlt
              have hm254 : m ≤ 255 := by omega
              rw [ei]
              have hm9 : m % 8 < 8 := Nat.mod_lt _ (by decide)
              have hq : IntKind.i64.wrap (Int.tdiv (m : Int) 8) = ((m / 8 : Nat) : Int) := by rw [Int.tdiv_eq_ediv_of_nonneg (by omega), wrap_i64_id] <;> omega
              have hr : Int.tmod (m : Int) 8 = ((m % 8 : Nat) : Int) := by rw [Int.tmod_eq_emod_of_nonneg (by omega)]; omega
              have hc : IntKind.u64.wrap ((m % 8 : Nat) : Int) = ((m % 8 : Nat) : Int) := wrap_u64_id (by omega) (by omega)
              obtain ⟨d0, d1⟩ := dg_bound (by decide : (0 : Int) < 256) N (m / 8)
              have hsh := byte_shr (x := dg 256 N (m / 8)) (m % 8) hm9
              have hand : bits .and .u8 (dg 256 N (m / 8) / 2 ^ (m % 8)) 1 = N / 2 ^ m % 2 := by
                rw [and1_u8x (Int.ediv_nonneg d0 (Int.le_of_lt (pow_pos' (by decide) _))) (Int.lt_of_le_of_lt (Int.ediv_le_self _ d0) d1), bit_of N m]
              have hpl : ((m / 8 : Nat) : Int).toNat = m / 8 := Int.toNat_natCast _
              have hm8 : m / 8 < 32 := by omega
              have hce := hNb.cell (m / 8) hm8
              have hBl := hNb.lt
              obtain ⟨bb, hbb⟩ : ∃ bb, bb = (N / 2 ^ m % 2 == 1) := ⟨_, rfl⟩
              go_upto_region 9 with (fail)
              refine region_flow (n := 59) (by kernel_rfl) (by kernel_rfl) (by kernel_rfl) rfl
                (fun ii vv _ => (match ii with | 0 | 4 => vv = .int .i64 ((m : Int)) | 1 => vv = .int .i64 ((m / 8 : Nat)) | 2 => vv = .pointer (some ⟨(w.heap.size + 1), (m / 8), none⟩) | 3 => vv = .int .u8 (dg 256 N (m / 8)) | 5 => vv = .int .i64 ((m % 8 : Nat)) | 6 => vv = .int .u64 ((m % 8 : Nat)) | 7 => vv = .int .u8 (dg 256 N (m / 8) / 2 ^ (m % 8)) | 8 => vv = .int .u8 (N / 2 ^ m % 2) | 9 | 10 => vv = .bool bb | _ => True))
                (fun w w' => Below w.heap.size w w') (fun _ _ h => h) (fun _ _ _ _ h _ => h) ?_ ?_
              · refine Each.all ?_
                refine ⟨?_, ?_, ?_, ?_, ?_, ?_, ?_, ?_, ?_, ?_, ?_, trivial⟩
                · intro a w2 hB hF hd
                  rw [if_pos (wanted_none rfl)]
                  exact flow_move _ (.inl rfl) (by simp) (hF.same 9 rfl)
                · intro a w2 hB hF hd
                  rw [if_pos (wanted_none rfl)]
                  exact flow_val (fun h => by cases h) (Go.Bas.run_quo rfl (hd 0 _ rfl (waits_spec rfl)) rfl (by decide)) (congrArg (Value.int .i64) (hq))
                · intro a w2 hB hF hd
                  rw [if_pos (wanted_none rfl)]
                  exact flow_val (fun h => by cases h) (run_index_addr rfl (hF.same 3 rfl) (hd 1 _ rfl (waits_spec rfl)) Tryz.underlying22 (by kernel_rfl) (by omega) (by omega)) (congrArg (fun z => Value.pointer (some ⟨w.heap.size + 1, z, none⟩)) hpl)
                · intro a w2 hB hF hd
                  rw [if_pos (wanted_none rfl)]
                  exact flow_val (fun h => by cases h) (run_load_cell rfl (hd 2 _ rfl (waits_spec rfl)) Tryz.underlying5 ((hB.cell (p := ⟨w.heap.size + 1, m / 8, none⟩) hBl).trans hce)) rfl
                · intro a w2 hB hF hd
                  rw [if_pos (wanted_none rfl)]
                  exact flow_move _ (.inl rfl) (by simp) (hF.same 9 rfl)
                · intro a w2 hB hF hd
                  rw [if_pos (wanted_none rfl)]
                  exact flow_val (fun h => by cases h) (Go.Bas.run_rem rfl (hd 4 _ rfl (waits_spec rfl)) rfl (by decide)) (congrArg (Value.int .i64) (hr))
                · intro a w2 hB hF hd
                  rw [if_pos (wanted_none rfl)]
                  exact flow_val (fun h => by cases h) (run_conv rfl (hd 5 _ rfl (waits_spec rfl)) Tryz.underlying3 Tryz.underlying92) (congrArg (Value.int .u64) (hc))
                · intro a w2 hB hF hd
                  rw [if_pos (wanted_none rfl)]
                  exact flow_val (fun h => by cases h) (Go.Bas.run_shr rfl (hd 3 _ rfl (waits_spec rfl)) (hd 6 _ rfl (waits_spec rfl)) (by omega)) (congrArg (Value.int .u8) (hsh))
                · intro a w2 hB hF hd
                  rw [if_pos (wanted_none rfl)]
                  exact flow_val (fun h => by cases h) (Go.Bas.run_and rfl (hd 7 _ rfl (waits_spec rfl)) rfl) (congrArg (Value.int .u8) (hand))
                · intro a w2 hB hF hd
                  rw [if_pos (wanted_none rfl)]
                  refine flow_val (fun h => by cases h) (Go.Bas.run_eql_int rfl (hd 8 _ rfl (waits_spec rfl)) rfl) ?_
                  exact congrArg Value.bool hbb.symm
                · intro a w2 hB hF hd
                  rw [if_pos (wanted_none rfl)]
                  exact flow_move _ (.inr rfl) (by simp) (hd 9 _ rfl (waits_spec rfl))
              · intro a w7 hB hF hS
                have ha := puts_each rfl rfl hF [_, _, _, _, _, _, _, _, _, _, _] rfl ⟨hS 0 _ rfl, hS 1 _ rfl, hS 2 _ rfl, hS 3 _ rfl, hS 4 _ rfl, hS 5 _ rfl, hS 6 _ rfl, hS 7 _ rfl, hS 8 _ rfl, hS 9 _ rfl, hS 10 _ rfl, trivial⟩
                simp only [puts, Act.put, List.setIfInBounds_toArray, List.set_cons_succ, List.set_cons_zero] at ha
                subst ha
                clear hS hF
                replace h7 := h7.kept hB
                replace h8 := h8.kept hB
                replace h6 := h6.kept hB
                replace hNb := hNb.kept hB
                replace hZ := hZ.kept hB
                replace hbel := hbel.trans (hB.mono hbel.size)
                have HBB := Lib.hid hbb
                have HM := Lib.hid hm
                clear hB hq hr hc hsh hand hce hpl hbb hm hm8 hm9 hBl d0 d1 ei hlt hk
                obtain ⟨S1, R1, K7, K8, hsw⟩ := pSwap_ok bb F7.out F8.out
                have HSW := Lib.hid hsw
                clear hsw
                go_wp2_with (first | (refine load_str rfl 55 _ rfl .i64 x7 64 G Tryz.underlying55 rfl Tryz.size55 rfl h7 ?_) | (refine load_str rfl 55 _ rfl .i64 x8 64 H Tryz.underlying55 rfl Tryz.size55 rfl h8 ?_))
                refine (HSW.out _).mono ?_
                rintro e_ u1 ⟨rfl, hb⟩
                replace h7 := h7.kept hb
                replace h8 := h8.kept hb
                replace h6 := h6.kept hb
                replace hNb := hNb.kept hb
                replace hZ := hZ.kept hb
                replace hbel := hbel.trans (hb.mono hbel.size)
                have s2 := h8.setRowOther x7 (by omega) (arr .i64 64 S1)
                replace F7 := Lib.hid K7
                replace F8 := Lib.hid K8
                clear K7 K8 HSW hb
                go_upto_region 11 with (first | (refine store_arr rfl 55 _ _ rfl .i64 x7 64 G S1 Tryz.size55 rfl rfl h7 ?_) | (refine store_arr rfl 55 _ _ rfl .i64 x8 64 H R1 Tryz.size55 rfl rfl s2 ?_))
                refine wp_world (fun w9 => Arr .i64 w9 x7 64 S1 ∧ Arr .i64 w9 x8 64 R1 ∧ Arr .i64 w9 x6 16 dd ∧ Arr .u8 w9 (w.heap.size + 1) 32 (dg 256 N) ∧ Arr .i64 w9 (w.heap.size + 2) 64 (fun _ => 0) ∧ Below w.heap.size w w9)
                  ⟨(h7.setRow _ _).setRowOther _ (by omega) _, s2.setRow _ _, (h6.setRowOther _ (by omega) _).setRowOther _ (by omega) _, (hNb.setRowOther _ (by omega) _).setRowOther _ (by omega) _, (hZ.setRowOther _ (by omega) _).setRowOther _ (by omega) _, below_setRow' (below_setRow' hbel (by omega) _) (by omega) _⟩ ?_
                clear s2 h7 h8 h6 hNb hZ hbel
                rintro w9_1 ⟨h7, h8, h6, hNb, hZ, hbel⟩
                try simp only [Act.put, List.setIfInBounds_toArray, List.set_cons_succ, List.set_cons_zero]
                obtain ⟨S2, K, hsu⟩ := pSum_ok F8.out F7.out
                rw [← HDD.out] at hsu
                have HSU := Lib.hid hsu
                clear hsu
                go_wp2_with (first | (refine load_str rfl 55 _ rfl .i64 x7 64 S1 Tryz.underlying55 rfl Tryz.size55 rfl h7 ?_) | (refine load_str rfl 55 _ rfl .i64 x8 64 R1 Tryz.underlying55 rfl Tryz.size55 rfl h8 ?_) | (refine load_str rfl 53 _ rfl .i64 x6 16 dd Tryz.underlying53 rfl Tryz.size53 rfl h6 ?_))
                refine (HSU.out _).mono ?_
                rintro e_ u2 ⟨rfl, hb⟩
                replace h7 := h7.kept hb
                replace h8 := h8.kept hb
                replace h6 := h6.kept hb
                replace hNb := hNb.kept hb
                replace hZ := hZ.kept hb
                replace hbel := hbel.trans (hb.mono hbel.size)
                replace F8 := Lib.hid K
                clear K HSU hb
                go_upto_region 12 with (refine store_arr rfl 55 _ _ rfl .i64 x8 64 R1 S2 Tryz.size55 rfl rfl h8 ?_)
                refine wp_world (fun w9 => Arr .i64 w9 x7 64 S1 ∧ Arr .i64 w9 x8 64 S2 ∧ Arr .i64 w9 x6 16 dd ∧ Arr .u8 w9 (w.heap.size + 1) 32 (dg 256 N) ∧ Arr .i64 w9 (w.heap.size + 2) 64 (fun _ => 0) ∧ Below w.heap.size w w9)
                  ⟨h7.setRowOther _ (by omega) _, h8.setRow _ _, h6.setRowOther _ (by omega) _, hNb.setRowOther _ (by omega) _, hZ.setRowOther _ (by omega) _, below_setRow' hbel (by omega) _⟩ ?_
                clear h7 h8 h6 hNb hZ hbel
                rintro w9_2 ⟨h7, h8, h6, hNb, hZ, hbel⟩
                try simp only [Act.put, List.setIfInBounds_toArray, List.set_cons_succ, List.set_cons_zero]
                obtain ⟨S3, K, hsu⟩ := pSum_ok F7.out F7.out
                rw [← HDD.out] at hsu
                have HSU := Lib.hid hsu
                clear hsu
                go_wp2_with (first | (refine load_str rfl 55 _ rfl .i64 x7 64 S1 Tryz.underlying55 rfl Tryz.size55 rfl h7 ?_) | (refine load_str rfl 55 _ rfl .i64 x8 64 S2 Tryz.underlying55 rfl Tryz.size55 rfl h8 ?_) | (refine load_str rfl 53 _ rfl .i64 x6 16 dd Tryz.underlying53 rfl Tryz.size53 rfl h6 ?_))
                refine (HSU.out _).mono ?_
                rintro e_ u3 ⟨rfl, hb⟩
                replace h7 := h7.kept hb
                replace h8 := h8.kept hb
                replace h6 := h6.kept hb
                replace hNb := hNb.kept hb
                replace hZ := hZ.kept hb
                replace hbel := hbel.trans (hb.mono hbel.size)
                replace F7 := Lib.hid K
                clear K HSU hb
                go_upto_region 13 with (refine store_arr rfl 55 _ _ rfl .i64 x7 64 S1 S3 Tryz.size55 rfl rfl h7 ?_)
                refine wp_world (fun w9 => Arr .i64 w9 x7 64 S3 ∧ Arr .i64 w9 x8 64 S2 ∧ Arr .i64 w9 x6 16 dd ∧ Arr .u8 w9 (w.heap.size + 1) 32 (dg 256 N) ∧ Arr .i64 w9 (w.heap.size + 2) 64 (fun _ => 0) ∧ Below w.heap.size w w9)
                  ⟨h7.setRow _ _, h8.setRowOther _ (by omega) _, h6.setRowOther _ (by omega) _, hNb.setRowOther _ (by omega) _, hZ.setRowOther _ (by omega) _, below_setRow' hbel (by omega) _⟩ ?_
                clear h7 h8 h6 hNb hZ hbel
                rintro w9_3 ⟨h7, h8, h6, hNb, hZ, hbel⟩
                try simp only [Act.put, List.setIfInBounds_toArray, List.set_cons_succ, List.set_cons_zero]
                obtain ⟨S4, R4, K7, K8, hsw⟩ := pSwap_ok bb F7.out F8.out
                have HSW := Lib.hid hsw
                clear hsw
                go_wp2_with (first | (refine load_str rfl 55 _ rfl .i64 x7 64 S3 Tryz.underlying55 rfl Tryz.size55 rfl h7 ?_) | (refine load_str rfl 55 _ rfl .i64 x8 64 S2 Tryz.underlying55 rfl Tryz.size55 rfl h8 ?_))
                refine (HSW.out _).mono ?_
                rintro e_ u4 ⟨rfl, hb⟩
                replace h7 := h7.kept hb
                replace h8 := h8.kept hb
                replace h6 := h6.kept hb
                replace hNb := hNb.kept hb
                replace hZ := hZ.kept hb
                replace hbel := hbel.trans (hb.mono hbel.size)
                have s2 := h8.setRowOther x7 (by omega) (arr .i64 64 S4)
                replace F7 := Lib.hid K7
                replace F8 := Lib.hid K8
                clear K7 K8 HSW hb
                have e7 := (h7.setRow 64 S4).setRowOther x8 (by omega) (arr .i64 64 R4)
                have e8 := s2.setRow 64 R4
                have h6e := (h6.setRowOther x7 (by omega) (arr .i64 64 S4)).setRowOther x8 (by omega) (arr .i64 64 R4)
                have hNbe := (hNb.setRowOther x7 (by omega) (arr .i64 64 S4)).setRowOther x8 (by omega) (arr .i64 64 R4)
                have hZe := (hZ.setRowOther x7 (by omega) (arr .i64 64 S4)).setRowOther x8 (by omega) (arr .i64 64 R4)
                have hbe := below_setRow' (below_setRow' hbel (by omega : w.heap.size ≤ x7) (arr .i64 64 S4)) (by omega : w.heap.size ≤ x8) (arr .i64 64 R4)
                have H7 := Lib.hid h7
                have SH2 := Lib.hid s2
                clear h7 h8 s2 h6 hNb hZ hbel
                have HE : Hid (PFn S4 (p.mul (n / 2 ^ (256 - (k + 1)))) ∧ PFn R4 (p.mul (n / 2 ^ (256 - (k + 1)) + 1))) := by
                  have hh7 := F7.out
                  have hh8 := F8.out
                  have hbit : bb = (n / 2 ^ (255 - k) % 2 == 1) := by
                    rw [HBB.out, HNN.out, HM.out, Bool.eq_iff_iff, beq_iff_eq, beq_iff_eq]; have e : ((n / 2 ^ (255 - k) % 2 : Nat) : Int) = (n : Int) / 2 ^ (255 - k) % 2 := by simp
                    omega
                  have hN2 : n / 2 ^ (256 - k) = n / 2 ^ (255 - k) / 2 := by
                    rw [show 256 - k = 255 - k + 1 by have := HKL.out; omega, Nat.pow_succ, Nat.div_div_eq_div_mul]
                  rw [show 256 - (k + 1) = 255 - k by omega]
                  rw [hN2] at hh7 hh8
                  exact mul_step p (n / 2 ^ (255 - k)) bb hbit hh7 hh8
                clear F7 F8
                go_wp2_with (first | (refine store_arr rfl 55 _ _ rfl .i64 x7 64 S3 S4 Tryz.size55 rfl rfl H7.out ?_) | (refine store_arr rfl 55 _ _ rfl .i64 x8 64 S2 R4 Tryz.size55 rfl rfl SH2.out ?_))
                go_roundw
                case rel => exact ⟨k + 1, _, _, by have := HKL.out; omega, congrArg (Value.int .i64) (by have := HKM.out; omega), HE.out.1, HE.out.2, ⟨e7, e8⟩, ⟨h6e, hNbe, hZe⟩, hbe⟩
                case measure => simp [intOf] <;> (have := HKM.out; omega)
end Go.Proofs.YtdhejcaapdhhfaaGreat

namespace Go.Bas
open Go.RowKit
/-- a point's first and second part as numbers; its bytes as a number. -/
def edX (p : Ed C7) : Int := ((p.x.val : Nat) : Int)
def edY (p : Ed C7) : Int := ((p.y.val : Nat) : Int)
def bytesN (p : Ed C7) : Int := edY p + (edX p % 2) * 2 ^ 255
theorem fp_val_b (x : Fp) : 0 ≤ ((x.val : Nat) : Int) ∧ ((x.val : Nat) : Int) < Pr := by
  have := x.isLt
  rw [Pr_PN]; omega
theorem quot_val {Y Z : Int} {y : Fp} (h0 : toF Z ≠ 0) (h : toF Y = y * toF Z) : Y * Z ^ (PN - 2) % Pr = ((y.val : Nat) : Int) := by
  rw [← toF_val]
  have e : toF (Y * Z ^ (PN - 2)) = y := by
    rw [toF_mul, toF_inv, h]
    have := inv_mul h0
    generalize toF Z = z at *
    generalize inv z = i at *
    grind
  rw [e]
theorem bytes_hi (Y : Int) (h0 : 0 ≤ Y) (h1 : Y < 2 ^ 255) : ∀ i, i < 32 → upd (dg 256 Y) 31 (dg 256 Y 31 + 128) i = dg 256 (Y + 1 * 2 ^ 255) i := by
  have key : ∀ i : Fin 32, upd (dg 256 Y) 31 (dg 256 Y 31 + 128) i.val = dg 256 (Y + 1 * 2 ^ 255) i.val := by
    intro ⟨i, hi⟩
    have e : ∀ j, dg 256 (Y + 1 * 2 ^ 255) j = (Y + 1 * 2 ^ 255) / 256 ^ j % 256 := fun _ => rfl
    have e' : ∀ j, dg 256 Y j = Y / 256 ^ j % 256 := fun _ => rfl
    rcases i with _ | _ | _ | _ | _ | _ | _ | _ | _ | _ | _ | _ | _ | _ | _ | _ | _ | _ | _ | _ | _ | _ | _ | _ | _ | _ | _ | _ | _ | _ | _ | _ | i
    all_goals first
      | omega
      | (simp only [upd, e, e']; simp; omega)
  exact fun i h => key ⟨i, h⟩
theorem top_small (Y : Int) (h0 : 0 ≤ Y) (h1 : Y < 2 ^ 255) : 0 ≤ dg 256 Y 31 ∧ dg 256 Y 31 < 128 := by
  show 0 ≤ Y / 256 ^ 31 % 256 ∧ Y / 256 ^ 31 % 256 < 128
  omega
theorem or_128 (x : Int) (h0 : 0 ≤ x) (h1 : x < 128) : bits .or .u8 x 128 = x + 128 := by
  obtain ⟨n, rfl⟩ := Int.eq_ofNat_of_zero_le h0
  have key : ∀ n : Fin 128, bits .or .u8 ((n.val : Nat) : Int) 128 = (n.val : Int) + 128 := by decide +kernel
  exact key ⟨n, by omega⟩
end Go.Bas
namespace Go.Proofs.YtdhejcaapdhhfaaGreat
open Go.RowKit Go.Bas Go.ChangeShapes
attribute [local go_sem ↓] Go.wp_at_zero Go.wp_at_succ

set_option maxRecDepth 100000 in
set_option maxHeartbeats 6400000 in
theorem pBytes_num (f g h e : Nat → Int) (X Y Z T VX VY : Int) (hp : Fe4P f g h e X Y Z T) (hx : X * Z ^ (PN - 2) % Pr = VX) (hy : Y * Z ^ (PN - 2) % Pr = VY) (w : World) :
    Calls Tryz.prog 26 #[P64 (pt f g h e)] w fun e_ w' => e_ = .returned (.agg (arr .u8 32 (dg 256 (VY + (VX % 2) * 2 ^ 255)))) ∧ Below w.heap.size w w' := by
  have HP := Lib.hid hp
  have HBY : Hid (∀ w, Calls Tryz.prog 63 #[.agg (arr .i64 16 (mulF g (invF h)))] w fun e w' => e = .returned (.agg (arr .u8 32 (dg 256 VY))) ∧ Below w.heap.size w w') := fun w => by
    have h1 := feBytes_any _ _ (hp.2.1.mulF (fe_inv hp.2.2.1)) w
    unfold invN at h1
    rw [hy] at h1; exact h1
  have hVX : 0 ≤ VX := by rw [← hx]; exact (modP _).1
  have hVY : 0 ≤ VY ∧ VY < 2 ^ 255 := by rw [← hy]; have h1 := modP (Y * Z ^ (PN - 2)); have h2 : Pr < 2 ^ 255 := by decide
                                         exact ⟨h1.1, by omega⟩
  have HHI := Lib.hid (bytes_hi VY hVY.1 hVY.2)
  have HTS := Lib.hid (top_small VY hVY.1 hVY.2)
  have HODY : Hid (VX % 2 = 1 → ∀ w, Calls Tryz.prog 64 #[.agg (arr .i64 16 (mulF f (invF h)))] w fun e w' => e = .returned (.bool true) ∧ Below w.heap.size w w') := fun h1 w => by
    refine feOdd_yes _ _ (hp.1.mulF (fe_inv hp.2.2.1)) ?_ w
    unfold invN; rw [hx]; exact h1
  have HODN : Hid (VX % 2 = 0 → ∀ w, Calls Tryz.prog 64 #[.agg (arr .i64 16 (mulF f (invF h)))] w fun e w' => e = .returned (.bool false) ∧ Below w.heap.size w w') := fun h1 w => by
    refine feOdd_no _ _ (hp.1.mulF (fe_inv hp.2.2.1)) ?_ w
    unfold invN; rw [hx]; exact h1
  clear hp hx hy hVY
  go_enter Tryz.func26, Tryz.ntmps26
  go_upto_region 1 with (fail)
  refine wp_world (fun w1 => Arr .i64 w1 w.heap.size 64 (pt f g h e) ∧ Arr .u8 w1 (w.heap.size + 1) 32 (fun _ => 0) ∧ Below w.heap.size w w1) ⟨.alloc (Arr.newAt rfl rfl) _, Arr.newAt (by first | omega | (simp <;> omega)) (by rfl), ((Below.refl _ _).alloc (Nat.le_refl _) _).alloc (by first | omega | (simp <;> omega)) _⟩ ?_
  rintro w1 ⟨hA, hZ, hbel⟩
  refine region_vars (n := 23) (by kernel_rfl) (by kernel_rfl) (by kernel_rfl) rfl
    (isAl [(4, 3)]) (putOf [(4, 3)]) (fun _ => arr .i64 16 (fun _ => 0)) (fun _ => (arr .i64 16 (invF (h)))) (fun _ => 53) (fun _ => 3)
    (fun ii vv _ => (match ii with | 0 => vv = .pointer (some ⟨w.heap.size, 32, none⟩) | 1 => vv = .agg (arr .i64 16 (h)) | 2 => vv = .agg (arr .i64 16 (invF (h))) | _ => True)) (fun _ _ => True) (fun _ _ _ => trivial) (fun _ _ _ _ _ _ _ => trivial) (fun _ _ _ _ h _ => h)
    (vs_al rfl) (vs_inj rfl) ?_ ?_ ?_ ?_
  · refine Each.all ?_
    refine ⟨?_, ?_, ?_, (fun h => by cases h), (fun _ h => by cases h), trivial⟩
    · intro _ _ a w2 hB hF hd
      rw [if_pos (wanted_none rfl)]
      refine flow_val (fun h => by cases h) (run_field_at (m := 15) (k := 32) rfl (hF.same 1 rfl) (by kernel_rfl)) ?_
      exact rfl
    · intro _ _ a w2 hB hF hd
      rw [if_pos (wanted_none rfl)]
      exact flow_val (fun h => by cases h) (run_load_mid rfl (hd 0 _ rfl rfl rfl (waits_spec rfl)) Tryz.underlying53 rfl Tryz.size53 (fun i hi => (hB.cell (p := ⟨w.heap.size, 32 + i, none⟩) hA.lt).trans (ptc2 hA i hi))) rfl
    · intro _ _ a w2 hB hF hd
      rw [if_pos (wanted_none rfl)]
      refine flow_call _ _ _ rfl Tryz.call54 _ (args1 (hd 1 _ rfl rfl rfl (waits_spec rfl))) (by simp) ((feInverse_any _ _ HP.out.2.2.1 w2).mono ?_)
      rintro e w3 ⟨rfl, hb⟩; exact ⟨_, rfl, rfl, hb⟩
  · refine Each.all ?_
    refine ⟨(fun h => by cases h), (fun h => by cases h), (fun h => by cases h), ?_, (fun h => by cases h), trivial⟩
    · exact fun _ => ⟨rfl, rfl, fun a w2 K h => flow_alloc rfl rfl Tryz.zeroValue53 (by simp) h⟩
  · refine Each.all ?_
    refine ⟨(fun _ h => by cases h), (fun _ h => by cases h), (fun _ h => by cases h), (fun _ h => by cases h), ?_, trivial⟩
    · intro p hp
      obtain rfl : 3 = p := Option.some.inj hp
      exact ⟨rfl, rfl, ⟨_, rfl⟩, waits_spec rfl, fun a w2 b K hB hF hd hx hb h => flow_put rfl rfl Tryz.size53 hx (hd 2 _ rfl rfl rfl (waits_spec rfl)) hb h⟩
  · intro a w2 blk hB hF hS hv hfin hdis
    obtain ⟨v3, v3l, v3u⟩ := hv 3 _ rfl rfl
    have ha := puts_each rfl rfl hF [_, _, _, _, undef] rfl ⟨hS 0 _ rfl rfl rfl, hS 1 _ rfl rfl rfl, hS 2 _ rfl rfl rfl, v3, trivial, trivial⟩
    have f3 := hfin 4 _ 3 rfl rfl
    simp only [puts, Act.put, List.setIfInBounds_toArray, List.set_cons_succ, List.set_cons_zero] at ha
    subst ha
    have V3 : Arr .i64 w2 (blk 3) 16 (invF (h)) := ⟨_, f3⟩
    clear hS hv hfin hdis hF v3 f3
    replace hA := hA.kept hB
    replace hZ := hZ.kept hB
    replace hbel := hbel.trans (hB.mono hbel.size)
    have hz := hZ.lt
    obtain ⟨x3, e3⟩ : ∃ x, x = blk 3 := ⟨_, rfl⟩
    rw [← e3] at V3 ⊢
    have h3 := V3
    clear V3 hB e3 v3l v3u
    go_upto_region 2 with (fail)
    refine region_vars (n := 23) (by kernel_rfl) (by kernel_rfl) (by kernel_rfl) rfl
      (isAl [(6, 5)]) (putOf [(6, 5)]) (fun _ => arr .u8 32 (fun _ => 0)) (fun _ => (arr .u8 32 (dg 256 VY))) (fun _ => 22) (fun _ => 4)
      (fun ii vv _ => (match ii with | 0 => vv = .pointer (some ⟨w.heap.size, 16, none⟩) | 1 => vv = .agg (arr .i64 16 (g)) | 2 => vv = .agg (arr .i64 16 (invF h)) | 3 => vv = .agg (arr .i64 16 (mulF (g) (invF h))) | 4 => vv = .agg (arr .u8 32 (dg 256 VY)) | _ => True)) (fun _ _ => True) (fun _ _ _ => trivial) (fun _ _ _ _ _ _ _ => trivial) (fun _ _ _ _ h _ => h)
      (vs_al rfl) (vs_inj rfl) ?_ ?_ ?_ ?_
    · refine Each.all ?_
      refine ⟨?_, ?_, ?_, ?_, ?_, (fun h => by cases h), (fun _ h => by cases h), trivial⟩
      · intro _ _ a w2 hB hF hd
        rw [if_pos (wanted_none rfl)]
        refine flow_val (fun h => by cases h) (run_field_at (m := 15) (k := 16) rfl (hF.same 1 rfl) (by kernel_rfl)) ?_
        exact rfl
      · intro _ _ a w2 hB hF hd
        rw [if_pos (wanted_none rfl)]
        exact flow_val (fun h => by cases h) (run_load_mid rfl (hd 0 _ rfl rfl rfl (waits_spec rfl)) Tryz.underlying53 rfl Tryz.size53 (fun i hi => (hB.cell (p := ⟨w.heap.size, 16 + i, none⟩) hA.lt).trans (ptc1 hA i hi))) rfl
      · intro _ _ a w2 hB hF hd
        rw [if_pos (wanted_none rfl)]
        exact flow_val (fun h => by cases h) (run_load_str rfl Tryz.underlying53 rfl Tryz.size53 (hF.same 3 rfl) (h3.below hB h3.lt)) rfl
      · intro _ _ a w2 hB hF hd
        rw [if_pos (wanted_none rfl)]
        refine flow_call _ _ _ rfl Tryz.call53 _ (args2 (hd 1 _ rfl rfl rfl (waits_spec rfl)) (hd 2 _ rfl rfl rfl (waits_spec rfl))) (by simp) ((feMul_any _ _ _ _ HP.out.2.1 (fe_inv HP.out.2.2.1) w2).mono ?_)
        rintro e w3 ⟨rfl, hb⟩; exact ⟨_, rfl, rfl, hb⟩
      · intro _ _ a w2 hB hF hd
        rw [if_pos (wanted_none rfl)]
        refine flow_call _ _ _ rfl Tryz.call63 _ (args1 (hd 3 _ rfl rfl rfl (waits_spec rfl))) (by simp) ((HBY.out w2).mono ?_)
        rintro e w3 ⟨rfl, hb⟩; exact ⟨_, rfl, rfl, hb⟩
    · refine Each.all ?_
      refine ⟨(fun h => by cases h), (fun h => by cases h), (fun h => by cases h), (fun h => by cases h), (fun h => by cases h), ?_, (fun h => by cases h), trivial⟩
      · exact fun _ => ⟨rfl, rfl, fun a w2 K h => flow_alloc rfl rfl Tryz.zeroValue22 (by simp) h⟩
    · refine Each.all ?_
      refine ⟨(fun _ h => by cases h), (fun _ h => by cases h), (fun _ h => by cases h), (fun _ h => by cases h), (fun _ h => by cases h), (fun _ h => by cases h), ?_, trivial⟩
      · intro p hp
        obtain rfl : 5 = p := Option.some.inj hp
        exact ⟨rfl, rfl, ⟨_, rfl⟩, waits_spec rfl, fun a w2 b K hB hF hd hx hb h => flow_put rfl rfl Tryz.size22 hx (hd 4 _ rfl rfl rfl (waits_spec rfl)) hb h⟩
    · intro a w3 blk hB hF hS hv hfin hdis
      obtain ⟨v5, v5l, v5u⟩ := hv 5 _ rfl rfl
      have ha := puts_each rfl rfl hF [_, _, _, _, _, _, undef] rfl ⟨hS 0 _ rfl rfl rfl, hS 1 _ rfl rfl rfl, hS 2 _ rfl rfl rfl, hS 3 _ rfl rfl rfl, hS 4 _ rfl rfl rfl, v5, trivial, trivial⟩
      have f5 := hfin 6 _ 5 rfl rfl
      simp only [puts, Act.put, List.setIfInBounds_toArray, List.set_cons_succ, List.set_cons_zero] at ha
      subst ha
      have V5 : Arr .u8 w3 (blk 5) 32 (dg 256 VY) := ⟨_, f5⟩
      clear hS hv hfin hdis hF v5 f5
      replace hA := hA.kept hB
      replace hZ := hZ.kept hB
      replace h3 := h3.kept hB
      replace hbel := hbel.trans (hB.mono hbel.size)
      obtain ⟨x4, e4⟩ : ∃ x, x = blk 5 := ⟨_, rfl⟩
      rw [← e4] at V5 v5l ⊢
      have h4 := V5
      have l4 : w.heap.size + 1 < x4 := by omega
      clear V5 hB e4 v5l v5u hz
      go_upto_region 3 with (fail)
      rcases (by omega : VX % 2 = 0 ∨ VX % 2 = 1) with ho | ho
      · have HO := Lib.hid ho
        clear ho
        refine region_flow (n := 23) (by kernel_rfl) (by kernel_rfl) (by kernel_rfl) rfl
          (fun ii vv _ => (match ii with | 0 => vv = .pointer (some ⟨w.heap.size, 0, none⟩) | 1 => vv = .agg (arr .i64 16 (f)) | 2 => vv = .agg (arr .i64 16 (invF h)) | 3 => vv = .agg (arr .i64 16 (mulF (f) (invF h))) | 4 => vv = .bool false | _ => True))
          (fun w w' => Below w.heap.size w w') (fun _ _ h => h) (fun _ _ _ _ h _ => h) ?_ ?_
        · refine Each.all ?_
          refine ⟨?_, ?_, ?_, ?_, ?_, trivial⟩
          · intro a w2 hB hF hd
            rw [if_pos (wanted_none rfl)]
            refine flow_val (fun h => by cases h) (run_field_at (m := 15) (k := 0) rfl (hF.same 1 rfl) (by kernel_rfl)) ?_
            exact rfl
          · intro a w2 hB hF hd
            rw [if_pos (wanted_none rfl)]
            exact flow_val (fun h => by cases h) (run_load_mid rfl (hd 0 _ rfl (waits_spec rfl)) Tryz.underlying53 rfl Tryz.size53 (fun i hi => (hB.cell (p := ⟨w.heap.size, 0 + i, none⟩) hA.lt).trans (ptc0 hA i hi))) rfl
          · intro a w2 hB hF hd
            rw [if_pos (wanted_none rfl)]
            exact flow_val (fun h => by cases h) (run_load_str rfl Tryz.underlying53 rfl Tryz.size53 (hF.same 3 rfl) (h3.below hB h3.lt)) rfl
          · intro a w2 hB hF hd
            rw [if_pos (wanted_none rfl)]
            refine flow_call _ _ _ rfl Tryz.call53 _ (args2 (hd 1 _ rfl (waits_spec rfl)) (hd 2 _ rfl (waits_spec rfl))) (by simp) ((feMul_any _ _ _ _ HP.out.1 (fe_inv HP.out.2.2.1) w2).mono ?_)
            rintro e w3 ⟨rfl, hb⟩; exact ⟨_, rfl, rfl, hb⟩
          · intro a w2 hB hF hd
            rw [if_pos (wanted_none rfl)]
            refine flow_call _ _ _ rfl Tryz.call64 _ (args1 (hd 3 _ rfl (waits_spec rfl))) (by simp) ((HODN.out HO.out w2).mono ?_)
            rintro e w3 ⟨rfl, hb⟩; exact ⟨_, rfl, rfl, hb⟩
        · intro a w4 hB hF hS
          have ha := puts_each rfl rfl hF [_, _, _, _, _] rfl ⟨hS 0 _ rfl, hS 1 _ rfl, hS 2 _ rfl, hS 3 _ rfl, hS 4 _ rfl, trivial⟩
          simp only [puts, Act.put, List.setIfInBounds_toArray, List.set_cons_succ, List.set_cons_zero] at ha
          subst ha
          clear hS hF
          replace hZ := hZ.kept hB
          replace h4 := h4.kept hB
          replace hbel := hbel.trans (hB.mono hbel.size)
          clear hA h3 hB HBY HODY HODN
          have h5 : Arr .u8 w4 x4 32 (dg 256 (VY + (VX % 2) * 2 ^ 255)) := by rw [HO.out, Int.zero_mul, Int.add_zero]; exact h4
          obtain ⟨R, hR⟩ : ∃ R, R = VY + (VX % 2) * 2 ^ 255 := ⟨_, rfl⟩
          rw [← hR] at h5
          have HR := Lib.hid hR
          clear hR
          go_wp2_with (first | (refine load_arr rfl 22 _ rfl .u8 x4 32 (dg 256 R) 5 Tryz.underlying22 Tryz.size22 rfl h5 ?_) | (refine store_arr rfl 22 _ _ rfl .u8 (w.heap.size + 1) 32 (fun _ => 0) (dg 256 R) Tryz.size22 rfl rfl hZ ?_))
          exact bodyPost_ret (results_arr rfl _ _ .u8 (w.heap.size + 1) 32 _ 5 rfl (hZ.setRow 32 (dg 256 R)) Tryz.underlying22 Tryz.size22) rfl ⟨by rw [HR.out], below_setRow' hbel (by omega) _⟩
      · have HO := Lib.hid ho
        clear ho
        refine region_flow (n := 23) (by kernel_rfl) (by kernel_rfl) (by kernel_rfl) rfl
          (fun ii vv _ => (match ii with | 0 => vv = .pointer (some ⟨w.heap.size, 0, none⟩) | 1 => vv = .agg (arr .i64 16 (f)) | 2 => vv = .agg (arr .i64 16 (invF h)) | 3 => vv = .agg (arr .i64 16 (mulF (f) (invF h))) | 4 => vv = .bool true | _ => True))
          (fun w w' => Below w.heap.size w w') (fun _ _ h => h) (fun _ _ _ _ h _ => h) ?_ ?_
        · refine Each.all ?_
          refine ⟨?_, ?_, ?_, ?_, ?_, trivial⟩
          · intro a w2 hB hF hd
            rw [if_pos (wanted_none rfl)]
            refine flow_val (fun h => by cases h) (run_field_at (m := 15) (k := 0) rfl (hF.same 1 rfl) (by kernel_rfl)) ?_
            exact rfl
          · intro a w2 hB hF hd
            rw [if_pos (wanted_none rfl)]
            exact flow_val (fun h => by cases h) (run_load_mid rfl (hd 0 _ rfl (waits_spec rfl)) Tryz.underlying53 rfl Tryz.size53 (fun i hi => (hB.cell (p := ⟨w.heap.size, 0 + i, none⟩) hA.lt).trans (ptc0 hA i hi))) rfl
          · intro a w2 hB hF hd
            rw [if_pos (wanted_none rfl)]
            exact flow_val (fun h => by cases h) (run_load_str rfl Tryz.underlying53 rfl Tryz.size53 (hF.same 3 rfl) (h3.below hB h3.lt)) rfl
          · intro a w2 hB hF hd
            rw [if_pos (wanted_none rfl)]
            refine flow_call _ _ _ rfl Tryz.call53 _ (args2 (hd 1 _ rfl (waits_spec rfl)) (hd 2 _ rfl (waits_spec rfl))) (by simp) ((feMul_any _ _ _ _ HP.out.1 (fe_inv HP.out.2.2.1) w2).mono ?_)
            rintro e w3 ⟨rfl, hb⟩; exact ⟨_, rfl, rfl, hb⟩
          · intro a w2 hB hF hd
            rw [if_pos (wanted_none rfl)]
            refine flow_call _ _ _ rfl Tryz.call64 _ (args1 (hd 3 _ rfl (waits_spec rfl))) (by simp) ((HODY.out HO.out w2).mono ?_)
            rintro e w3 ⟨rfl, hb⟩; exact ⟨_, rfl, rfl, hb⟩
        · intro a w4 hB hF hS
          have ha := puts_each rfl rfl hF [_, _, _, _, _] rfl ⟨hS 0 _ rfl, hS 1 _ rfl, hS 2 _ rfl, hS 3 _ rfl, hS 4 _ rfl, trivial⟩
          simp only [puts, Act.put, List.setIfInBounds_toArray, List.set_cons_succ, List.set_cons_zero] at ha
          subst ha
          clear hS hF
          replace hZ := hZ.kept hB
          replace h4 := h4.kept hB
          replace hbel := hbel.trans (hB.mono hbel.size)
          clear hA h3 hB HBY HODY HODN
          have e1 := h4.cell 31 (by decide)
          have f1 := h4.free 31
          obtain ⟨t0, t1⟩ := HTS.out
          obtain ⟨t, ht⟩ : ∃ t, t = dg 256 VY 31 := ⟨_, rfl⟩
          rw [← ht] at e1 t0 t1
          have a1 := or_128 t t0 t1
          have HT := Lib.hid ht
          have H4 := Lib.hid h4
          clear ht h4
          go_upto_region 5 with (fail)
          refine wp_world (fun w9 => Arr .u8 w9 x4 32 (dg 256 (VY + (VX % 2) * 2 ^ 255)) ∧ Arr .u8 w9 (w.heap.size + 1) 32 (fun _ => 0) ∧ Below w.heap.size w w9) ⟨(H4.out.set 31 (t + 128)).congr (fun i hi => by rw [HT.out, HO.out]; exact HHI.out i hi), hZ.other (by first | omega | (simp <;> omega)) _, hbel.setCell (by first | omega | (simp <;> omega)) _⟩ ?_
          rintro w9 ⟨h5, hZ, hbel⟩
          try simp only [Act.put, List.setIfInBounds_toArray, List.set_cons_succ, List.set_cons_zero]
          obtain ⟨R, hR⟩ : ∃ R, R = VY + (VX % 2) * 2 ^ 255 := ⟨_, rfl⟩
          rw [← hR] at h5
          have HR := Lib.hid hR
          clear hR
          go_wp2_with (first | (refine load_arr rfl 22 _ rfl .u8 x4 32 (dg 256 R) 5 Tryz.underlying22 Tryz.size22 rfl h5 ?_) | (refine store_arr rfl 22 _ _ rfl .u8 (w.heap.size + 1) 32 (fun _ => 0) (dg 256 R) Tryz.size22 rfl rfl hZ ?_))
          exact bodyPost_ret (results_arr rfl _ _ .u8 (w.heap.size + 1) 32 _ 5 rfl (hZ.setRow 32 (dg 256 R)) Tryz.underlying22 Tryz.size22) rfl ⟨by rw [HR.out], below_setRow' hbel (by omega) _⟩
theorem pBytes_ok {A : Nat → Int} {p : Ed C7} (hA : PFn A p) (w : World) : Calls Tryz.prog 26 #[P64 A] w fun e_ w' => e_ = .returned (.agg (arr .u8 32 (dg 256 (bytesN p)))) ∧ Below w.heap.size w w' := by
  obtain ⟨f, g, h, e, X, Y, Z, T, rfl, h1, h2⟩ := hA
  exact pBytes_num f g h e X Y Z T (edX p) (edY p) h1 (quot_val h2.1 h2.2.1) (quot_val h2.1 h2.2.2.1) w

end Go.Proofs.YtdhejcaapdhhfaaGreat

namespace Go.Bas
theorem wp_assign {P : Program} {o : Oper} {a : Act} {w : World} {K : Act → World → Prop} {Q : Exit → Act → World → Prop} (x : Operand) (d : Nat) (hop : o.op = .assign x) (hd : o.dst = some d) (h : K (a.put (some d) (a.eval x)) w) : o.wp P a w K Q := by
  rw [← hd] at h
  unfold Oper.wp execOp
  simp only [hop]
  exact h
end Go.Bas
namespace Go.Proofs.YtdhejcaapdhhfaaGreat
open Go.RowKit Go.Bas Go.ChangeShapes
attribute [local go_sem ↓] Go.wp_at_zero Go.wp_at_succ
/-- what the first part's square is. -/
def fstN (Y : Int) : Int := (Y * Y - 1) * invN (dN * (Y * Y) + 1)

/-- the limbs of the first part's square. -/
def fstF (f : Nat → Int) : Nat → Int := mulF (subF (mulF f f) (smallF 1)) (invF (addF (mulF curveF (mulF f f)) (smallF 1)))
theorem fe_fst {f : Nat → Int} {Y : Int} (hf : Fe f Y) : Fe (fstF f) (fstN Y) := ((hf.mulF hf).subF fe_s1).mulF (fe_inv ((fe_curve.mulF (hf.mulF hf)).addF fe_s1))

set_option maxRecDepth 100000 in
set_option maxHeartbeats 6400000 in
theorem pFirst_any (q : Bool) (H f : Nat → Int) (Y : Int) (hf : Fe f Y) (hrt : ∀ w, Calls Tryz.prog 114 #[El (fstF f)] w fun e w' => e = .returned (.tuple #[El H, .bool q]) ∧ Below w.heap.size w w') (w : World) :
    Calls Tryz.prog 55 #[El f] w fun e w' => e = .returned (.tuple #[El H, .bool q]) ∧ Below w.heap.size w w' := by
  have HF := Lib.hid hf
  have HRT := Lib.hid hrt
  clear hf hrt
  unfold El
  unfold El at HRT
  go_enter Tryz.func55, Tryz.ntmps55
  go_upto_region 1 with (fail)
  refine wp_world (fun w1 => Arr .i64 w1 w.heap.size 16 f ∧ Arr .i64 w1 (w.heap.size + 1) 16 (fun _ => 0) ∧ Below w.heap.size w w1) ⟨.alloc (Arr.newAt rfl rfl) _, Arr.newAt (by first | omega | (simp <;> omega)) (by rfl), ((Below.refl _ _).alloc (Nat.le_refl _) _).alloc (by first | omega | (simp <;> omega)) _⟩ ?_
  rintro w1 ⟨hA, hZ, hbel⟩
  refine region_vars (n := 23) (by kernel_rfl) (by kernel_rfl) (by kernel_rfl) rfl
    (isAl [(6, 4), (7, 5)]) (putOf [(6, 4), (7, 5)]) (fun _ => arr .i64 16 (fun _ => 0)) (fun i => match i with | 4 => (arr .i64 16 (mulF (f) (f))) | 5 => (arr .i64 16 (smallF 1)) | _ => #[]) (fun _ => 53) (fun i => match i with | 4 => 4 | 5 => 5 | _ => 0)
    (fun ii vv _ => (match ii with | 0 | 1 => vv = .agg (arr .i64 16 (f)) | 2 => vv = .agg (arr .i64 16 (mulF (f) (f))) | 3 => vv = .agg (arr .i64 16 (smallF 1)) | _ => True)) (fun _ _ => True) (fun _ _ _ => trivial) (fun _ _ _ _ _ _ _ => trivial) (fun _ _ _ _ h _ => h)
    (vs_al rfl) (vs_inj rfl) ?_ ?_ ?_ ?_
  · refine Each.all ?_
    refine ⟨?_, ?_, ?_, ?_, (fun h => by cases h), (fun h => by cases h), (fun _ h => by cases h), (fun _ h => by cases h), trivial⟩
    · intro _ _ a w2 hB hF hd
      rw [if_pos (wanted_none rfl)]
      exact flow_val (fun h => by cases h) (run_load_str rfl Tryz.underlying53 rfl Tryz.size53 (hF.same 1 rfl) (hA.below hB hA.lt)) rfl
    · intro _ _ a w2 hB hF hd
      rw [if_pos (wanted_none rfl)]
      exact flow_val (fun h => by cases h) (run_load_str rfl Tryz.underlying53 rfl Tryz.size53 (hF.same 1 rfl) (hA.below hB hA.lt)) rfl
    · intro _ _ a w2 hB hF hd
      rw [if_pos (wanted_none rfl)]
      refine flow_call _ _ _ rfl Tryz.call53 _ (args2 (hd 0 _ rfl rfl rfl (waits_spec rfl)) (hd 1 _ rfl rfl rfl (waits_spec rfl))) (by simp) ((feMul_any _ _ _ _ HF.out HF.out w2).mono ?_)
      rintro e w3 ⟨rfl, hb⟩; exact ⟨_, rfl, rfl, hb⟩
    · intro _ _ a w2 hB hF hd
      rw [if_pos (wanted_none rfl)]
      refine flow_call _ _ _ rfl Tryz.call52 _ (args1 rfl) (by simp) ((feSmall_any 1 w2).mono ?_)
      rintro e w3 ⟨rfl, hb⟩; exact ⟨_, rfl, rfl, hb⟩
  · refine Each.all ?_
    refine ⟨(fun h => by cases h), (fun h => by cases h), (fun h => by cases h), (fun h => by cases h), ?_, ?_, (fun h => by cases h), (fun h => by cases h), trivial⟩
    · exact fun _ => ⟨rfl, rfl, fun a w2 K h => flow_alloc rfl rfl Tryz.zeroValue53 (by simp) h⟩
    · exact fun _ => ⟨rfl, rfl, fun a w2 K h => flow_alloc rfl rfl Tryz.zeroValue53 (by simp) h⟩
  · refine Each.all ?_
    refine ⟨(fun _ h => by cases h), (fun _ h => by cases h), (fun _ h => by cases h), (fun _ h => by cases h), (fun _ h => by cases h), (fun _ h => by cases h), ?_, ?_, trivial⟩
    · intro p hp
      obtain rfl : 4 = p := Option.some.inj hp
      exact ⟨rfl, rfl, ⟨_, rfl⟩, waits_spec rfl, fun a w2 b K hB hF hd hx hb h => flow_put rfl rfl Tryz.size53 hx (hd 2 _ rfl rfl rfl (waits_spec rfl)) hb h⟩
    · intro p hp
      obtain rfl : 5 = p := Option.some.inj hp
      exact ⟨rfl, rfl, ⟨_, rfl⟩, waits_spec rfl, fun a w2 b K hB hF hd hx hb h => flow_put rfl rfl Tryz.size53 hx (hd 3 _ rfl rfl rfl (waits_spec rfl)) hb h⟩
  · intro a w2 blk hB hF hS hv hfin hdis
    obtain ⟨v4, v4l, v4u⟩ := hv 4 _ rfl rfl
    obtain ⟨v5, v5l, v5u⟩ := hv 5 _ rfl rfl
    have ha := puts_each rfl rfl hF [_, _, _, _, _, _, undef, undef] rfl ⟨hS 0 _ rfl rfl rfl, hS 1 _ rfl rfl rfl, hS 2 _ rfl rfl rfl, hS 3 _ rfl rfl rfl, v4, v5, trivial, trivial, trivial⟩
    have f4 := hfin 6 _ 4 rfl rfl
    have f5 := hfin 7 _ 5 rfl rfl
    have d4_5 := hdis 4 5 _ _ rfl rfl rfl rfl (by decide)
    simp only [puts, Act.put, List.setIfInBounds_toArray, List.set_cons_succ, List.set_cons_zero] at ha
    subst ha
    have V4 : Arr .i64 w2 (blk 4) 16 (mulF (f) (f)) := ⟨_, f4⟩
    have V5 : Arr .i64 w2 (blk 5) 16 (smallF 1) := ⟨_, f5⟩
    clear hS hv hfin hdis hF v4 v5 f4 f5
    have hz := hZ.lt
    replace hZ := hZ.kept hB
    replace hbel := hbel.trans (hB.mono hbel.size)
    obtain ⟨x4, e4⟩ : ∃ x, x = blk 4 := ⟨_, rfl⟩
    obtain ⟨x5, e5⟩ : ∃ x, x = blk 5 := ⟨_, rfl⟩
    rw [← e4] at V4 v4l ⊢
    rw [← e5] at V5 v5l ⊢
    have h4 := V4
    have h5 := V5
    have l4 : w.heap.size + 1 < x4 := by omega
    have l5 : w.heap.size + 1 < x5 := by omega
    clear V4 V5 hB e4 e5 v4l v4u v5l v5u hA hz
    go_upto_region 2 with (fail)
    refine region_lastE' (n := 23) 14 rfl (by decide) (by kernel_rfl) (by kernel_rfl) (by kernel_rfl) (by kernel_rfl) rfl
      (fun ii vv ww => (match ii with | 0 | 4 => vv = .agg (arr .i64 16 (mulF f f)) | 1 | 6 => vv = .agg (arr .i64 16 (smallF 1)) | 2 => vv = .agg (arr .i64 16 (subF (mulF f f) (smallF 1))) | 3 => vv = .agg (arr .i64 16 (curveF)) | 5 => vv = .agg (arr .i64 16 (mulF (curveF) (mulF f f))) | 7 => vv = .agg (arr .i64 16 (addF (mulF (curveF) (mulF f f)) (smallF 1))) | 8 => vv = .agg (arr .i64 16 (invF (addF (mulF (curveF) (mulF f f)) (smallF 1)))) | 9 => vv = .agg (arr .i64 16 (mulF (subF (mulF f f) (smallF 1)) (invF (addF (mulF (curveF) (mulF f f)) (smallF 1))))) | 10 => vv = .tuple #[.agg (arr .i64 16 (H)), .bool q] | 11 => vv = .agg (arr .i64 16 (H)) | 12 => vv = .bool q | _ => True) ∧ (ii = 13 → Arr .i64 ww (w.heap.size + 1) 16 (H))) 13
      (fun b ww => (Arr .i64 ww (x4) 16 (mulF f f) ∧ Arr .i64 ww (x5) 16 (smallF 1) ∧ Below w.heap.size w ww) ∧ (b = false → Arr .i64 ww ((w.heap.size + 1)) 16 (fun _ => 0))) ⟨⟨h4.drew, h5.drew, hbel.drew⟩, fun _ => hZ.drew⟩
      (fun i ww w' => match i with | 13 => ((Arr .i64 ww (x4) 16 (mulF f f) ∧ Arr .i64 ww (x5) 16 (smallF 1) ∧ Below w.heap.size w ww) → (Arr .i64 w' (x4) 16 (mulF f f) ∧ Arr .i64 w' (x5) 16 (smallF 1) ∧ Below w.heap.size w w')) | _ => Below ww.heap.size ww w') ?_ ?_ ?_ ?_ rfl ?_ ?_
    · intro i ww; (try dsimp only); split
      · exact id
      · exact Below.refl _ _
    · intro i b ww w' hi hR hE
      have hE' : Below ww.heap.size ww w' := by (try dsimp only at hE); split at hE; (· exact absurd rfl hi); exact hE
      obtain ⟨⟨q0, q1, qb⟩, qrow⟩ := hR
      exact ⟨⟨q0.kept hE', q1.kept hE', qb.trans (hE'.mono qb.size)⟩, fun hb => (qrow hb).kept hE'⟩
    · intro ww w' hR hE
      exact ⟨hE hR.1, fun h => by cases h⟩
    · intro i j b v ww w' hij hjb hR hS hE
      refine ⟨hS.1, fun e => ?_⟩
      subst e
      have hE' : Below ww.heap.size ww w' := by (try dsimp only at hE); split at hE; (· exact absurd rfl hij); exact hE
      exact (hS.2 rfl).kept hE'
    · refine Each.all ?_
      refine ⟨?_, ?_, ?_, ?_, ?_, ?_, ?_, ?_, ?_, ?_, ?_, ?_, ?_, ?_, (fun h => absurd rfl h), trivial⟩
      · intro _ b a w2 hcb hB0 hF hd
        obtain ⟨⟨h4, h5, hbel⟩, qrow⟩ := hB0
        have hB := Below.refl w2.heap.size w2
        rw [if_pos (wanted_none rfl)]
        exact flow_val (fun h => by cases h) (run_load_str rfl Tryz.underlying53 rfl Tryz.size53 (hF.same 4 rfl) (h4.below hB h4.lt)) ⟨rfl, fun h => absurd h (by decide)⟩
      · intro _ b a w2 hcb hB0 hF hd
        obtain ⟨⟨h4, h5, hbel⟩, qrow⟩ := hB0
        have hB := Below.refl w2.heap.size w2
        rw [if_pos (wanted_none rfl)]
        exact flow_val (fun h => by cases h) (run_load_str rfl Tryz.underlying53 rfl Tryz.size53 (hF.same 5 rfl) (h5.below hB h5.lt)) ⟨rfl, fun h => absurd h (by decide)⟩
      · intro _ b a w2 hcb hB0 hF hd
        obtain ⟨⟨h4, h5, hbel⟩, qrow⟩ := hB0
        have hB := Below.refl w2.heap.size w2
        rw [if_pos (wanted_none rfl)]
        refine flow_call _ _ _ rfl Tryz.call113 _ (args2 ((hd 0 _ rfl (waits_spec rfl)).1) ((hd 1 _ rfl (waits_spec rfl)).1)) (by simp) ((feSub_any _ _ _ _ (HF.out.mulF HF.out) fe_s1 w2).mono ?_)
        rintro e w3 ⟨rfl, hb⟩; exact ⟨_, rfl, ⟨rfl, fun h => absurd h (by decide)⟩, hb⟩
      · intro _ b a w2 hcb hB0 hF hd
        obtain ⟨⟨h4, h5, hbel⟩, qrow⟩ := hB0
        have hB := Below.refl w2.heap.size w2
        rw [if_pos (wanted_none rfl)]
        refine flow_call _ _ _ rfl Tryz.call58 _ args0 (by simp) ((pnCurve_any w2).mono ?_)
        rintro e w3 ⟨rfl, hb⟩; exact ⟨_, rfl, ⟨rfl, fun h => absurd h (by decide)⟩, hb⟩
      · intro _ b a w2 hcb hB0 hF hd
        obtain ⟨⟨h4, h5, hbel⟩, qrow⟩ := hB0
        have hB := Below.refl w2.heap.size w2
        rw [if_pos (wanted_none rfl)]
        exact flow_val (fun h => by cases h) (run_load_str rfl Tryz.underlying53 rfl Tryz.size53 (hF.same 4 rfl) (h4.below hB h4.lt)) ⟨rfl, fun h => absurd h (by decide)⟩
      · intro _ b a w2 hcb hB0 hF hd
        obtain ⟨⟨h4, h5, hbel⟩, qrow⟩ := hB0
        have hB := Below.refl w2.heap.size w2
        rw [if_pos (wanted_none rfl)]
        refine flow_call _ _ _ rfl Tryz.call53 _ (args2 ((hd 3 _ rfl (waits_spec rfl)).1) ((hd 4 _ rfl (waits_spec rfl)).1)) (by simp) ((feMul_any _ _ _ _ fe_curve (HF.out.mulF HF.out) w2).mono ?_)
        rintro e w3 ⟨rfl, hb⟩; exact ⟨_, rfl, ⟨rfl, fun h => absurd h (by decide)⟩, hb⟩
      · intro _ b a w2 hcb hB0 hF hd
        obtain ⟨⟨h4, h5, hbel⟩, qrow⟩ := hB0
        have hB := Below.refl w2.heap.size w2
        rw [if_pos (wanted_none rfl)]
        exact flow_val (fun h => by cases h) (run_load_str rfl Tryz.underlying53 rfl Tryz.size53 (hF.same 5 rfl) (h5.below hB h5.lt)) ⟨rfl, fun h => absurd h (by decide)⟩
      · intro _ b a w2 hcb hB0 hF hd
        obtain ⟨⟨h4, h5, hbel⟩, qrow⟩ := hB0
        have hB := Below.refl w2.heap.size w2
        rw [if_pos (wanted_none rfl)]
        refine flow_call _ _ _ rfl Tryz.call59 _ (args2 ((hd 5 _ rfl (waits_spec rfl)).1) ((hd 6 _ rfl (waits_spec rfl)).1)) (by simp) ((feAdd_any _ _ _ _ ((fe_curve).mulF (HF.out.mulF HF.out)) fe_s1 w2).mono ?_)
        rintro e w3 ⟨rfl, hb⟩; exact ⟨_, rfl, ⟨rfl, fun h => absurd h (by decide)⟩, hb⟩
      · intro _ b a w2 hcb hB0 hF hd
        obtain ⟨⟨h4, h5, hbel⟩, qrow⟩ := hB0
        have hB := Below.refl w2.heap.size w2
        rw [if_pos (wanted_none rfl)]
        refine flow_call _ _ _ rfl Tryz.call54 _ (args1 ((hd 7 _ rfl (waits_spec rfl)).1)) (by simp) ((feInverse_any _ _ ((((fe_curve).mulF (HF.out.mulF HF.out))).addF fe_s1) w2).mono ?_)
        rintro e w3 ⟨rfl, hb⟩; exact ⟨_, rfl, ⟨rfl, fun h => absurd h (by decide)⟩, hb⟩
      · intro _ b a w2 hcb hB0 hF hd
        obtain ⟨⟨h4, h5, hbel⟩, qrow⟩ := hB0
        have hB := Below.refl w2.heap.size w2
        rw [if_pos (wanted_none rfl)]
        refine flow_call _ _ _ rfl Tryz.call53 _ (args2 ((hd 2 _ rfl (waits_spec rfl)).1) ((hd 8 _ rfl (waits_spec rfl)).1)) (by simp) ((feMul_any _ _ _ _ (((HF.out.mulF HF.out)).subF fe_s1) (fe_inv ((((fe_curve).mulF (HF.out.mulF HF.out))).addF fe_s1)) w2).mono ?_)
        rintro e w3 ⟨rfl, hb⟩; exact ⟨_, rfl, ⟨rfl, fun h => absurd h (by decide)⟩, hb⟩
      · intro _ b a w2 hcb hB0 hF hd
        obtain ⟨⟨h4, h5, hbel⟩, qrow⟩ := hB0
        have hB := Below.refl w2.heap.size w2
        rw [if_pos (wanted_none rfl)]
        refine flow_call _ _ _ rfl Tryz.call114 _ (args1 ((hd 9 _ rfl (waits_spec rfl)).1)) (by simp) ((HRT.out w2).mono ?_)
        rintro e w3 ⟨rfl, hb⟩; exact ⟨_, rfl, ⟨rfl, fun h => absurd h (by decide)⟩, hb⟩
      · intro _ b a w2 hcb hB0 hF hd
        obtain ⟨⟨h4, h5, hbel⟩, qrow⟩ := hB0
        have hB := Below.refl w2.heap.size w2
        rw [if_pos (wanted_none rfl)]
        exact flow_val (fun h => by cases h) (run_extract rfl ((hd 10 _ rfl (waits_spec rfl)).1) rfl) ⟨rfl, fun h => absurd h (by decide)⟩
      · intro _ b a w2 hcb hB0 hF hd
        obtain ⟨⟨h4, h5, hbel⟩, qrow⟩ := hB0
        have hB := Below.refl w2.heap.size w2
        rw [if_pos (wanted_none rfl)]
        exact flow_val (fun h => by cases h) (run_extract rfl ((hd 10 _ rfl (waits_spec rfl)).1) rfl) ⟨rfl, fun h => absurd h (by decide)⟩
      · intro _ b a w2 hcb hB0 hF hd
        obtain ⟨⟨h4, h5, hbel⟩, qrow⟩ := hB0
        have hB := Below.refl w2.heap.size w2
        rw [if_pos (wanted_none rfl)]
        refine wp_store_arr 53 _ _ rfl .i64 ((w.heap.size + 1)) 16 (fun _ => 0) (H) Tryz.size53 (hF.same 2 rfl) ((hd 11 _ rfl (waits_spec rfl)).1) (qrow (hcb rfl)) ?_
        exact ⟨_, rfl, fun _ => rfl, ⟨trivial, fun _ => (qrow (hcb rfl)).setRow _ _⟩, fun ⟨p0, p1, p2⟩ => ⟨p0.setRowOther _ (by omega) _, p1.setRowOther _ (by omega) _, below_setRow' p2 (by omega) _⟩⟩
    · intro b a w3 hB0 hF hS
      have V13 := (hS 13 _ rfl (by decide)).2 rfl
      obtain ⟨⟨h4, h5, hbel⟩, _⟩ := hB0
      obtain ⟨xl, hxl⟩ : ∃ x, x = a.tmps.getD 3 undef := ⟨_, rfl⟩
      have ha := puts_each rfl rfl hF [_, _, _, _, _, _, _, _, _, _, _, _, _, undef, xl] rfl ⟨(hS 0 _ rfl (by decide)).1, (hS 1 _ rfl (by decide)).1, (hS 2 _ rfl (by decide)).1, (hS 3 _ rfl (by decide)).1, (hS 4 _ rfl (by decide)).1, (hS 5 _ rfl (by decide)).1, (hS 6 _ rfl (by decide)).1, (hS 7 _ rfl (by decide)).1, (hS 8 _ rfl (by decide)).1, (hS 9 _ rfl (by decide)).1, (hS 10 _ rfl (by decide)).1, (hS 11 _ rfl (by decide)).1, (hS 12 _ rfl (by decide)).1, trivial, hxl.symm, trivial⟩
      simp only [puts, Act.put, List.setIfInBounds_toArray, List.set_cons_succ, List.set_cons_zero] at ha
      subst ha
      clear hS hF hxl
      refine wp_assign (.tmp 22) 3 rfl rfl ?_
      simp only [Act.put, List.setIfInBounds_toArray, List.set_cons_succ, List.set_cons_zero]
      go_wp2
      exact bodyPost_ret (results_str2 rfl _ _ .i64 (w.heap.size + 1) 16 _ rfl V13 Tryz.underlying53 rfl Tryz.size53) rfl ⟨rfl, hbel⟩
theorem pFirst_yes (f : Nat → Int) (Y : Int) (hf : Fe f Y) (hsq : isSq (fstN Y) = true) (w : World) : Calls Tryz.prog 55 #[El f] w fun e w' => e = .returned (.tuple #[El (rootF (fstF f) (fstN Y)), .bool true]) ∧ Below w.heap.size w w' :=
  pFirst_any true _ f Y hf (fun w => feRoot_det (fstF f) (fstN Y) (fe_fst hf) hsq w) w
theorem pFirst_no (f : Nat → Int) (Y : Int) (hf : Fe f Y) (hsq : isSq (fstN Y) = false) (w : World) : Calls Tryz.prog 55 #[El f] w fun e w' => e = .returned (.tuple #[El (fun _ => 0), .bool false]) ∧ Below w.heap.size w w' :=
  pFirst_any false _ f Y hf (fun w => feRoot_no (fstF f) (fstN Y) (fe_fst hf) hsq w) w
end Go.Proofs.YtdhejcaapdhhfaaGreat

namespace Go.Bas
open Go.RowKit
theorem ed_x2' (p : Ed C7) : p.x ^ 2 * (1 + dE * p.y ^ 2) = p.y ^ 2 - 1 := by
  have ho : p.y ^ 2 - p.x ^ 2 = 1 + dE * p.x ^ 2 * p.y ^ 2 := p.on
  generalize p.x = x at *
  generalize p.y = y at *
  generalize dE = d at *
  grind
theorem ed_one_dy' (p : Ed C7) : 1 + dE * p.y ^ 2 ≠ 0 := by
  intro h
  have ho : p.y ^ 2 - p.x ^ 2 = 1 + dE * p.x ^ 2 * p.y ^ 2 := p.on
  have hd : dE = -1 := by
    generalize p.x = x at *
    generalize p.y = y at *
    generalize dE = d at *
    grind
  exact dE_sq iE (by rw [iE_sq, hd])
theorem fst_f {x y d i : Fp} (h : x ^ 2 * (1 + d * y ^ 2) = y ^ 2 - 1) (hi : (d * (y * y) + 1) * i = 1) : x * x = (y * y - 1) * i := by grind
theorem edX_f (p : Ed C7) : toF (edX p) = p.x := toF_of _
theorem edY_f (p : Ed C7) : toF (edY p) = p.y := toF_of _
def BX : Int := 15112221349535400772501151409588531511454012693041857206046113283949847762202
def BY : Int := 46316835694926478169428394003475163141307993866256225615783033603165251855960
theorem base_num : Cg (121666 * (BY * BY - BX * BX - 1)) (-121665 * (BX * BX * (BY * BY))) := by unfold Cg BX BY; decide +kernel
theorem on_cancel {x y d a b : Fp} (hd : d * b = -a) (hb : b ≠ 0) (h : b * (y * y - x * x - 1) = -a * (x * x * (y * y))) : y ^ 2 - x ^ 2 = 1 + d * x ^ 2 * y ^ 2 := by
  refine fp_cancel hb ?_
  grind
/-- the base. -/
noncomputable def Bp : Ed C7 := ⟨toF BX, toF BY, on_cancel dE_eq (toF_nz.2 (by decide)) (by
  have h := toF_eq.2 base_num
  simp only [toF_mul, toF_sub, toF_neg, toF_one] at h
  exact h)⟩
theorem Bp_x : edX Bp = BX := by unfold edX Bp; rw [toF_val]; decide +kernel
theorem four_five : Cg (BY * 5) 4 := by unfold Cg BY; decide +kernel
end Go.Bas
namespace Go.Proofs.YtdhejcaapdhhfaaGreat
open Go.RowKit Go.Bas Go.ChangeShapes
attribute [local go_sem ↓] Go.wp_at_zero Go.wp_at_succ
theorem fst_sq {p : Ed C7} {Y : Int} (hy : toF Y = p.y) : Cg (edX p * edX p) (fstN Y) := by
  refine toF_eq.1 ?_
  unfold fstN invN
  rw [toF_mul, toF_mul, toF_inv]
  simp only [toF_sub, toF_add, toF_mul, toF_one, toF_dN, hy, edX_f]
  refine fst_f (ed_x2' p) (inv_mul ?_)
  have h := ed_one_dy' p
  intro e; apply h
  generalize p.y = y at *
  generalize dE = d at *
  grind
theorem fst_isSq {p : Ed C7} {Y : Int} (hy : toF Y = p.y) : isSq (fstN Y) = true := sq_isSq (fst_sq hy)
/-- the root found is the point's first part, where that is even. -/
theorem fst_root {p : Ed C7} {f : Nat → Int} {Y : Int} (hf : Fe f Y) (hy : toF Y = p.y) (he : edX p % 2 = 0) : ∃ R, Fe (rootF (fstF f) (fstN Y)) R ∧ toF R = p.x := by
  obtain ⟨R, h1, h2, h3⟩ := rootF_ok (fe_fst hf) (fst_isSq hy)
  refine ⟨R, h1, ?_⟩
  have h4 : R * R % Pr = edX p * edX p % Pr := h2.trans (fst_sq hy).symm
  have hb := fp_val_b p.x
  have hx : edX p % Pr = edX p := Int.emod_eq_of_lt hb.1 hb.2
  rw [← edX_f]
  refine toF_eq.2 ?_
  rcases two_roots h4 with h5 | h5
  · exact h5
  · by_cases h0 : edX p = 0
    · rw [h0] at h5 ⊢; exact h5
    · exfalso
      have e : -edX p % Pr = Pr - edX p := by
        have e1 : -edX p % Pr = (Pr - edX p) % Pr := mod_eq_of (c := -1) (by omega)
        rw [e1]
        have hb' : 0 ≤ edX p ∧ edX p < Pr := hb
        exact Int.emod_eq_of_lt (by omega) (by omega)
      rw [h5, e] at h3
      have hp : Pr % 2 = 1 := by decide
      omega
/-- a point of two elements. -/
theorem made_pf {f g : Nat → Int} {X Y : Int} {p : Ed C7} (hf : Fe f X) (hg : Fe g Y) (hx : toF X = p.x) (hy : toF Y = p.y) : PFn (pt f g (smallF 1) (mulF f g)) p := by
  refine ⟨f, g, smallF 1, mulF f g, X, Y, 1, X * Y, rfl, ⟨hf, hg, fe_s1, hf.mulF hg⟩, ?_, ?_, ?_, ?_⟩
  · rw [toF_one]; exact fp_one_ne
  · rw [toF_one, hx]; generalize p.x = x; grind
  · rw [toF_one, hy]; generalize p.y = y; grind
  · rw [toF_one, toF_mul, hx, hy]; generalize p.x * p.y = z; grind
theorem fe_s4 : Fe (smallF 4) 4 := fe_small0 _ (by decide)
theorem fe_s5 : Fe (smallF 5) 5 := fe_small0 _ (by decide)
theorem base_y : toF (4 * invN 5) = Bp.y := by
  unfold invN
  have h5 : toF 5 ≠ 0 := toF_nz.2 (by decide)
  have h := toF_eq.2 four_five
  rw [toF_mul] at h
  have hi := inv_mul h5
  rw [toF_mul, toF_inv]
  show _ = toF BY
  generalize toF 4 = a at *
  generalize toF 5 = b at *
  generalize toF BY = c at *
  generalize inv b = i at *
  grind
/-- the base's limbs. -/
def baseYF : Nat → Int := mulF (smallF 4) (invF (smallF 5))
theorem fe_baseY : Fe baseYF (4 * invN 5) := fe_s4.mulF (fe_inv fe_s5)
def baseXF : Nat → Int := rootF (fstF baseYF) (fstN (4 * invN 5))
theorem fe_baseX : ∃ R, Fe baseXF R ∧ toF R = Bp.x := fst_root fe_baseY base_y (by rw [Bp_x]; decide)
def baseF : Nat → Int := pt baseXF baseYF (smallF 1) (mulF baseXF baseYF)
theorem pf_base : PFn baseF Bp := by
  obtain ⟨R, h1, h2⟩ := fe_baseX
  exact made_pf h1 fe_baseY h2 base_y

set_option maxRecDepth 100000 in
set_option maxHeartbeats 6400000 in
theorem pBase_ok (w : World) : Calls Tryz.prog 24 #[] w fun e w' => e = .returned (P64 baseF) ∧ Below w.heap.size w w' := by
  have HX : Hid (∃ R, Fe baseXF R) := by obtain ⟨R, h, _⟩ := fe_baseX; exact ⟨R, h⟩
  obtain ⟨RX, hRX⟩ := HX.out
  have HFX := Lib.hid hRX
  have HFY := Lib.hid fe_baseY
  have HFI : Hid (∀ w, Calls Tryz.prog 55 #[.agg (arr .i64 16 baseYF)] w fun e w' => e = .returned (.tuple #[.agg (arr .i64 16 baseXF), .bool true]) ∧ Below w.heap.size w w') := fun w => pFirst_yes baseYF _ fe_baseY (fst_isSq base_y) w
  have HMD : Hid (∀ w, Calls Tryz.prog 56 #[.agg (arr .i64 16 baseXF), .agg (arr .i64 16 baseYF)] w fun e w' => e = .returned (.agg (arr .i64 64 baseF)) ∧ Below w.heap.size w w') := fun w => pnMade_any _ _ _ _ hRX fe_baseY w
  have HM : Hid (∀ w, Calls Tryz.prog 53 #[.agg (arr .i64 16 (smallF 4)), .agg (arr .i64 16 (invF (smallF 5)))] w fun e w' => e = .returned (.agg (arr .i64 16 baseYF)) ∧ Below w.heap.size w w') := fun w => feMul_any _ _ _ _ fe_s4 (fe_inv fe_s5) w
  clear hRX
  obtain ⟨bxF, hbx⟩ : ∃ x, x = baseXF := ⟨_, rfl⟩
  obtain ⟨byF, hby⟩ : ∃ x, x = baseYF := ⟨_, rfl⟩
  obtain ⟨bF, hbF⟩ : ∃ x, x = baseF := ⟨_, rfl⟩
  rw [← hbF] at HMD ⊢
  rw [← hbx] at HFX HFI HMD
  rw [← hby] at HFY HFI HMD HM
  clear hbx hby hbF HX
  go_enter Tryz.func24, Tryz.ntmps24
  go_upto_region 1 with (fail)
  refine wp_world (fun w1 => Arr .i64 w1 w.heap.size 64 (fun _ => 0) ∧ Below w.heap.size w w1) ⟨Arr.newAt rfl (by rfl), (Below.refl _ _).alloc (Nat.le_refl _) _⟩ ?_
  rintro w1 ⟨hZ, hbel⟩
  refine region_vars (n := 16) (by kernel_rfl) (by kernel_rfl) (by kernel_rfl) rfl
    (isAl [(5, 4)]) (putOf [(5, 4)]) (fun _ => arr .i64 16 (fun _ => 0)) (fun _ => (arr .i64 16 (byF))) (fun _ => 53) (fun _ => 1)
    (fun ii vv _ => (match ii with | 0 => vv = .agg (arr .i64 16 (smallF 4)) | 1 => vv = .agg (arr .i64 16 (smallF 5)) | 2 => vv = .agg (arr .i64 16 (invF (smallF 5))) | 3 => vv = .agg (arr .i64 16 (byF)) | _ => True)) (fun _ _ => True) (fun _ _ _ => trivial) (fun _ _ _ _ _ _ _ => trivial) (fun _ _ _ _ h _ => h)
    (vs_al rfl) (vs_inj rfl) ?_ ?_ ?_ ?_
  · refine Each.all ?_
    refine ⟨?_, ?_, ?_, ?_, (fun h => by cases h), (fun _ h => by cases h), trivial⟩
    · intro _ _ a w2 hB hF hd
      rw [if_pos (wanted_none rfl)]
      refine flow_call _ _ _ rfl Tryz.call52 _ (args1 rfl) (by simp) ((feSmall_any 4 w2).mono ?_)
      rintro e w3 ⟨rfl, hb⟩; exact ⟨_, rfl, rfl, hb⟩
    · intro _ _ a w2 hB hF hd
      rw [if_pos (wanted_none rfl)]
      refine flow_call _ _ _ rfl Tryz.call52 _ (args1 rfl) (by simp) ((feSmall_any 5 w2).mono ?_)
      rintro e w3 ⟨rfl, hb⟩; exact ⟨_, rfl, rfl, hb⟩
    · intro _ _ a w2 hB hF hd
      rw [if_pos (wanted_none rfl)]
      refine flow_call _ _ _ rfl Tryz.call54 _ (args1 (hd 1 _ rfl rfl rfl (waits_spec rfl))) (by simp) ((feInverse_any _ _ fe_s5 w2).mono ?_)
      rintro e w3 ⟨rfl, hb⟩; exact ⟨_, rfl, rfl, hb⟩
    · intro _ _ a w2 hB hF hd
      rw [if_pos (wanted_none rfl)]
      refine flow_call _ _ _ rfl Tryz.call53 _ (args2 (hd 0 _ rfl rfl rfl (waits_spec rfl)) (hd 2 _ rfl rfl rfl (waits_spec rfl))) (by simp) ((HM.out w2).mono ?_)
      rintro e w3 ⟨rfl, hb⟩; exact ⟨_, rfl, rfl, hb⟩
  · refine Each.all ?_
    refine ⟨(fun h => by cases h), (fun h => by cases h), (fun h => by cases h), (fun h => by cases h), ?_, (fun h => by cases h), trivial⟩
    · exact fun _ => ⟨rfl, rfl, fun a w2 K h => flow_alloc rfl rfl Tryz.zeroValue53 (by simp) h⟩
  · refine Each.all ?_
    refine ⟨(fun _ h => by cases h), (fun _ h => by cases h), (fun _ h => by cases h), (fun _ h => by cases h), (fun _ h => by cases h), ?_, trivial⟩
    · intro p hp
      obtain rfl : 4 = p := Option.some.inj hp
      exact ⟨rfl, rfl, ⟨_, rfl⟩, waits_spec rfl, fun a w2 b K hB hF hd hx hb h => flow_put rfl rfl Tryz.size53 hx (hd 3 _ rfl rfl rfl (waits_spec rfl)) hb h⟩
  · intro a w2 blk hB hF hS hv hfin hdis
    obtain ⟨v4, v4l, v4u⟩ := hv 4 _ rfl rfl
    have ha := puts_each rfl rfl hF [_, _, _, _, _, undef] rfl ⟨hS 0 _ rfl rfl rfl, hS 1 _ rfl rfl rfl, hS 2 _ rfl rfl rfl, hS 3 _ rfl rfl rfl, v4, trivial, trivial⟩
    have f4 := hfin 5 _ 4 rfl rfl
    simp only [puts, Act.put, List.setIfInBounds_toArray, List.set_cons_succ, List.set_cons_zero] at ha
    subst ha
    have V4 : Arr .i64 w2 (blk 4) 16 (byF) := ⟨_, f4⟩
    clear hS hv hfin hdis hF v4 f4
    replace hZ := hZ.kept hB
    replace hbel := hbel.trans (hB.mono hbel.size)
    obtain ⟨x1, e1⟩ : ∃ x, x = blk 4 := ⟨_, rfl⟩
    rw [← e1] at V4 ⊢
    have h1 := V4
    clear V4 hB e1 v4l v4u
    go_upto_region 2 with (fail)
    refine region_vars (n := 16) (by kernel_rfl) (by kernel_rfl) (by kernel_rfl) rfl
      (isAl [(6, 5)]) (putOf [(6, 5)]) (fun _ => arr .i64 16 (fun _ => 0)) (fun _ => (arr .i64 16 (bxF))) (fun _ => 53) (fun _ => 2)
      (fun ii vv _ => (match ii with | 0 => vv = .agg (arr .i64 16 (byF)) | 1 | 2 => vv = .tuple #[.agg (arr .i64 16 (bxF)), .bool true] | 3 => vv = .agg (arr .i64 16 (bxF)) | 4 | 7 => vv = .bool true | _ => True)) (fun _ _ => True) (fun _ _ _ => trivial) (fun _ _ _ _ _ _ _ => trivial) (fun _ _ _ _ h _ => h)
      (vs_al rfl) (vs_inj rfl) ?_ ?_ ?_ ?_
    · refine Each.all ?_
      refine ⟨?_, ?_, ?_, ?_, ?_, (fun h => by cases h), (fun _ h => by cases h), ?_, trivial⟩
      · intro _ _ a w2 hB hF hd
        rw [if_pos (wanted_none rfl)]
        exact flow_val (fun h => by cases h) (run_load_str rfl Tryz.underlying53 rfl Tryz.size53 (hF.same 1 rfl) (h1.below hB h1.lt)) rfl
      · intro _ _ a w2 hB hF hd
        rw [if_pos (wanted_none rfl)]
        refine flow_call _ _ _ rfl Tryz.call55 _ (args1 (hd 0 _ rfl rfl rfl (waits_spec rfl))) (by simp) ((HFI.out w2).mono ?_)
        rintro e w3 ⟨rfl, hb⟩; exact ⟨_, rfl, rfl, hb⟩
      · intro _ _ a w2 hB hF hd
        rw [if_pos (wanted_none rfl)]
        exact flow_move _ (.inl rfl) (by simp) (hd 1 _ rfl rfl rfl (waits_spec rfl))
      · intro _ _ a w2 hB hF hd
        rw [if_pos (wanted_none rfl)]
        exact flow_val (fun h => by cases h) (run_extract rfl (hd 2 _ rfl rfl rfl (waits_spec rfl)) rfl) rfl
      · intro _ _ a w2 hB hF hd
        rw [if_pos (wanted_none rfl)]
        exact flow_val (fun h => by cases h) (run_extract rfl (hd 2 _ rfl rfl rfl (waits_spec rfl)) rfl) rfl
      · intro _ _ a w2 hB hF hd
        rw [if_pos (wanted_none rfl)]
        exact flow_move _ (.inr rfl) (by simp) (hd 4 _ rfl rfl rfl (waits_spec rfl))
    · refine Each.all ?_
      refine ⟨(fun h => by cases h), (fun h => by cases h), (fun h => by cases h), (fun h => by cases h), (fun h => by cases h), ?_, (fun h => by cases h), (fun h => by cases h), trivial⟩
      · exact fun _ => ⟨rfl, rfl, fun a w2 K h => flow_alloc rfl rfl Tryz.zeroValue53 (by simp) h⟩
    · refine Each.all ?_
      refine ⟨(fun _ h => by cases h), (fun _ h => by cases h), (fun _ h => by cases h), (fun _ h => by cases h), (fun _ h => by cases h), (fun _ h => by cases h), ?_, (fun _ h => by cases h), trivial⟩
      · intro p hp
        obtain rfl : 5 = p := Option.some.inj hp
        exact ⟨rfl, rfl, ⟨_, rfl⟩, waits_spec rfl, fun a w2 b K hB hF hd hx hb h => flow_put rfl rfl Tryz.size53 hx (hd 3 _ rfl rfl rfl (waits_spec rfl)) hb h⟩
    · intro a w3 blk hB hF hS hv hfin hdis
      obtain ⟨v5, v5l, v5u⟩ := hv 5 _ rfl rfl
      have ha := puts_each rfl rfl hF [_, _, _, _, _, _, undef, _] rfl ⟨hS 0 _ rfl rfl rfl, hS 1 _ rfl rfl rfl, hS 2 _ rfl rfl rfl, hS 3 _ rfl rfl rfl, hS 4 _ rfl rfl rfl, v5, trivial, hS 7 _ rfl rfl rfl, trivial⟩
      have f5 := hfin 6 _ 5 rfl rfl
      simp only [puts, Act.put, List.setIfInBounds_toArray, List.set_cons_succ, List.set_cons_zero] at ha
      subst ha
      have V5 : Arr .i64 w3 (blk 5) 16 (bxF) := ⟨_, f5⟩
      clear hS hv hfin hdis hF v5 f5
      replace hZ := hZ.kept hB
      replace h1 := h1.kept hB
      replace hbel := hbel.trans (hB.mono hbel.size)
      obtain ⟨x2, e2⟩ : ∃ x, x = blk 5 := ⟨_, rfl⟩
      rw [← e2] at V5 ⊢
      have h2 := V5
      clear V5 hB e2 v5l v5u
      go_upto_region 3 with (fail)
      refine region_lasts (n := 16) (fun i => i == 3) (by kernel_rfl) (by kernel_rfl) (by kernel_rfl) (by kernel_rfl) rfl
        (fun ii vv _ => (match ii with | 0 => vv = .agg (arr .i64 16 (bxF)) | 1 => vv = .agg (arr .i64 16 (byF)) | 2 => vv = .agg (arr .i64 64 (bF)) | _ => True))
        (fun w w' => Below w.heap.size w w') (fun _ _ h => h) (fun _ _ _ _ h _ => h)
        (fun _ => w.heap.size) (fun _ => (arr .i64 64 (fun _ => 0))) (fun _ => (arr .i64 64 (bF)))
        (by intro i j _ _ hpi hpj hne; simp only [beq_iff_eq] at hpi hpj; omega)
        (by intro i _ hpi; exact (hZ).row)
        ?_ ?_ ?_
      · refine Each.all ?_
        refine ⟨?_, ?_, ?_, (fun h => absurd h (by decide)), trivial⟩
        · intro _ a w2 hB hF hd
          rw [if_pos (wanted_none rfl)]
          exact flow_val (fun h => by cases h) (run_load_str rfl Tryz.underlying53 rfl Tryz.size53 (hF.same 2 rfl) (h2.below hB h2.lt)) rfl
        · intro _ a w2 hB hF hd
          rw [if_pos (wanted_none rfl)]
          exact flow_val (fun h => by cases h) (run_load_str rfl Tryz.underlying53 rfl Tryz.size53 (hF.same 1 rfl) (h1.below hB h1.lt)) rfl
        · intro _ a w2 hB hF hd
          rw [if_pos (wanted_none rfl)]
          refine flow_call _ _ _ rfl Tryz.call56 _ (args2 (hd 0 _ rfl rfl (waits_spec rfl)) (hd 1 _ rfl rfl (waits_spec rfl))) (by simp) ((HMD.out w2).mono ?_)
          rintro e w3 ⟨rfl, hb⟩; exact ⟨_, rfl, rfl, hb⟩
      · refine Each.all ?_
        refine ⟨(fun h => absurd h (by decide)), (fun h => absurd h (by decide)), (fun h => absurd h (by decide)), ?_, trivial⟩
        · intro _ a w1 w2 K hB hF hS hr hK
          exact wp_store_arr 55 _ _ rfl .i64 (w.heap.size) 64 (fun _ => 0) (bF) Tryz.size55 (hF.same 0 rfl) (hS 2 _ rfl rfl ) hr hK
      · intro a wf w4 hB hF hS hfil
        have other : ∀ {k : IntKind} {qb n : Nat} {f : Nat → Int}, qb ≠ w.heap.size → Arr k wf qb n f → Arr k w4 qb n f := fun {k qb n f} e0 hA => hfil.arr (by intro i _ hpi; simp only [Bool.or_eq_true, beq_iff_eq] at hpi; subst hpi <;> ((try simp only []); (try dsimp only); omega)) hA
        have belowT : ∀ {B : Nat} {w0 : World}, B ≤ w.heap.size → Below B w0 wf → Below B w0 w4 := fun {B w0} e0 hA => hfil.below (by intro i _ hpi; simp only [Bool.or_eq_true, beq_iff_eq] at hpi; subst hpi <;> ((try simp only []); (try dsimp only); omega)) hA
        have V3 : Arr .i64 w4 (w.heap.size) 64 (bF) := hfil.at 3 (by decide) rfl
        have hszf := hfil.size
        clear hfil
        have ha := puts_each rfl rfl hF [_, _, _, undef] rfl ⟨hS 0 _ rfl rfl, hS 1 _ rfl rfl, hS 2 _ rfl rfl, trivial, trivial⟩
        simp only [puts, Act.put, List.setIfInBounds_toArray, List.set_cons_succ, List.set_cons_zero] at ha
        subst ha
        clear hS hF
        have hb := belowT (Nat.le_refl _) (hbel.trans (hB.mono hbel.size))
        go_wp2
        exact bodyPost_ret (results_str rfl _ _ .i64 w.heap.size 64 _ rfl V3 Tryz.underlying55 rfl Tryz.size55) rfl ⟨rfl, hb⟩
end Go.Proofs.YtdhejcaapdhhfaaGreat

namespace Go.Bas
/-- three numbers are a point's. -/
def RRep (X Y Z : Int) (p : Ed C7) : Prop := toF Z ≠ 0 ∧ toF X = p.x * toF Z ∧ toF Y = p.y * toF Z
theorem ra_rep_f {x1 y1 z1 x2 y2 z2 d sx sy A B C D : Fp} (hB : B = 1 + d * (x1 * x2 * (y1 * y2))) (hD : D = 1 - d * (x1 * x2 * (y1 * y2))) (hA : A = x1 * y2 + x2 * y1) (hC : C = y1 * y2 + x1 * x2) (hsx : sx * B = A) (hsy : sy * D = C) :
    let w := z1 * z2
    let L := w * w - d * ((x1 * z1 * (x2 * z2)) * (y1 * z1 * (y2 * z2)))
    let M := w * w + d * ((x1 * z1 * (x2 * z2)) * (y1 * z1 * (y2 * z2)))
    let K := (x1 * z1 + y1 * z1) * (x2 * z2 + y2 * z2) - x1 * z1 * (x2 * z2) - y1 * z1 * (y2 * z2)
    w * (L * K) = sx * (L * M) ∧ w * (M * (y1 * z1 * (y2 * z2) + x1 * z1 * (x2 * z2))) = sy * (L * M) ∧ L = w * w * D ∧ M = w * w * B := by
  intro w L M K
  have hL : L = w * w * D := by show _ = _; rw [hD]; grind
  have hM : M = w * w * B := by show _ = _; rw [hB]; grind
  have hK : K = w * A := by show _ = _; rw [hA]; grind
  have hE : y1 * z1 * (y2 * z2) + x1 * z1 * (x2 * z2) = w * C := by rw [hC]; grind
  rw [hL, hM, hK, hE]
  clear hL hM hK hE hB hD hA hC L M K
  generalize w = v
  subst hsx; subst hsy
  exact ⟨by grind, by grind, rfl, rfl⟩
theorem RRep.add {X Y Z U V R D : Int} {p q : Ed C7} (hp : RRep X Y Z p) (hq : RRep U V R q) (hD : toF D = dE) : RRep (raX X Y Z U V R D) (raY X Y Z U V R D) (raZ X Y Z U V R D) (p.add q) := by
  obtain ⟨h0, h1, h2⟩ := hp
  obtain ⟨k0, k1, k2⟩ := hq
  obtain ⟨r1, r2, r3, r4⟩ := ra_rep_f (z1 := toF Z) (z2 := toF R) (d := dE) rfl rfl rfl rfl (p.add_x q) (p.add_y q)
  unfold RRep raX raY raZ raL raM raC
  simp only [toF_mul, toF_add, toF_sub, h1, h2, k1, k2, hD]
  refine ⟨?_, r1, r2⟩
  rw [r3, r4]
  have hw := fp_mul_ne h0 k0
  exact fp_mul_ne (fp_mul_ne (fp_mul_ne hw hw) (p.minus_ne q)) (fp_mul_ne (fp_mul_ne hw hw) (p.plus_ne q))
theorem RRep.zero : RRep 0 1 1 .zero := by
  refine ⟨?_, ?_, ?_⟩
  · rw [toF_one]; exact fp_one_ne
  · rw [toF_zero, toF_one]; show (0 : Fp) = 0 * 1; grind
  · rw [toF_one]; show (1 : Fp) = 1 * 1; grind
theorem RRep.base : RRep BX (4 * 5 ^ (PN - 2)) 1 Bp := by
  have hb : toF (4 * 5 ^ (PN - 2)) = Bp.y := by
    have h5 : toF 5 ≠ 0 := toF_nz.2 (by decide)
    have h := toF_eq.2 four_five
    rw [toF_mul] at h
    have hi := inv_mul h5
    rw [toF_mul, toF_inv]
    show _ = toF BY
    generalize toF 4 = a at *
    generalize toF 5 = b at *
    generalize toF BY = c at *
    generalize inv b = i at *
    grind
  refine ⟨?_, ?_, ?_⟩
  · rw [toF_one]; exact fp_one_ne
  · rw [toF_one]; show toF BX = toF BX * 1; generalize toF BX = x; grind
  · rw [toF_one, hb]; generalize Bp.y = y; grind
theorem RRep.bytes {X Y Z : Int} {p : Ed C7} (h : RRep X Y Z p) : X * Z ^ (PN - 2) % Pr = edX p ∧ Y * Z ^ (PN - 2) % Pr = edY p := ⟨quot_val h.1 h.2.1, quot_val h.1 h.2.2⟩
end Go.Bas
namespace Go.Proofs.YtdhejcaapdhhfaaGreat
open Go.Bas
theorem toF_dR : toF dR = dE := by
  unfold dR dE
  rw [toF_sub, toF_mul, toF_inv, toF_zero]
  generalize toF 121665 * inv (toF 121666) = a
  grind
end Go.Proofs.YtdhejcaapdhhfaaGreat

namespace Go.Proofs.YtdhejcaapdhhfaaGreat
open Go.RowKit Go.Bas Go.ChangeShapes
attribute [local go_sem ↓] Go.wp_at_zero Go.wp_at_succ
theorem low_odd (X : Int) : Int.tmod (dg 65536 X 0) 2 = X % 2 := by
  have h : dg 65536 X 0 = X % 65536 := by show X / 65536 ^ 0 % 65536 = _; rw [Int.pow_zero, Int.ediv_one]
  rw [h, Int.tmod_eq_emod_of_nonneg (by omega)]
  omega
set_option maxRecDepth 100000 in
set_option maxHeartbeats 6400000 in
theorem rBytes7_any (x y z : Value) (X Y Z VX VY : Int) (w : World) (hx : Rd .i64 w x 16 (dg 65536 (X % Pr))) (hy : Rd .i64 w y 16 (dg 65536 (Y % Pr))) (hz : Rd .i64 w z 16 (dg 65536 (Z % Pr))) (ex : X * Z ^ (PN - 2) % Pr = VX) (ey : Y * Z ^ (PN - 2) % Pr = VY) :
    Calls Tryz.prog 31 #[.agg #[x, y, z]] w fun e w' => e = .returned (.agg (arr .u8 32 (dg 256 (VY + (VX % 2) * 2 ^ 255)))) ∧ Below w.heap.size w w' := by
  have hVY : 0 ≤ VY ∧ VY < 2 ^ 255 := by rw [← ey]; have h1 := modP (Y * Z ^ (PN - 2)); have h2 : Pr < 2 ^ 255 := by decide
                                         exact ⟨h1.1, by omega⟩
  have HHI := Lib.hid (bytes_hi VY hVY.1 hVY.2)
  have HTS := Lib.hid (top_small VY hVY.1 hVY.2)
  have EX := Lib.hid ex
  have EY := Lib.hid ey
  obtain ⟨x1, x2, x3, ex0⟩ := hx.isSlice
  subst ex0
  obtain ⟨y1, y2, y3, ey0⟩ := hy.isSlice
  subst ey0
  obtain ⟨z1, z2, z3, ez0⟩ := hz.isSlice
  subst ez0
  have Hx := Lib.hid hx
  have Hy := Lib.hid hy
  have Hz := Lib.hid hz
  clear hx hy hz ex ey hVY
  go_enter Tryz.func31, Tryz.ntmps31
  go_upto_region 1 with (fail)
  refine wp_world (fun w1 => RowC w1 w.heap.size #[.slice x1 x2 x3, .slice y1 y2 y3, .slice z1 z2 z3] ∧ Arr .u8 w1 (w.heap.size + 1) 32 (fun _ => 0) ∧ Below w.heap.size w w1) ⟨.alloc (RowC.newAt rfl) _, Arr.newAt (by first | omega | (simp <;> omega)) (by rfl), ((Below.refl _ _).alloc (Nat.le_refl _) _).alloc (by first | omega | (simp <;> omega)) _⟩ ?_
  rintro w1 ⟨hR1, hZ, hbel⟩
  replace Hx := Lib.hid (Hx.out.below hbel)
  replace Hy := Lib.hid (Hy.out.below hbel)
  replace Hz := Lib.hid (Hz.out.below hbel)
  have e10 := hR1.cell 0 rfl
  have e11 := hR1.cell 1 rfl
  have e12 := hR1.cell 2 rfl
  go_wp2_with fail
  refine (rInv_any _ Z _ Hz.out).mono ?_
  rintro e w_Hi ⟨vi, rfl, hv, hb⟩
  have Hi := Lib.hid hv
  replace Hx := Lib.hid (Hx.out.below hb)
  replace Hy := Lib.hid (Hy.out.below hb)
  replace Hz := Lib.hid (Hz.out.below hb)
  replace hR1 := hR1.kept hb
  replace hZ := hZ.kept hb
  replace e10 := hR1.cell 0 rfl
  replace e11 := hR1.cell 1 rfl
  replace e12 := hR1.cell 2 rfl
  replace hbel := hbel.trans (hb.mono hbel.size)
  clear hv hb
  go_wp2_with fail
  refine (fMul_rd X (Z ^ (PN - 2)) _ _ _ Hx.out Hi.out).mono ?_
  rintro e w_Hm ⟨vm, rfl, hv, hb⟩
  have Hm := Lib.hid hv
  replace Hx := Lib.hid (Hx.out.below hb)
  replace Hy := Lib.hid (Hy.out.below hb)
  replace Hz := Lib.hid (Hz.out.below hb)
  replace Hi := Lib.hid (Hi.out.below hb)
  replace hR1 := hR1.kept hb
  replace hZ := hZ.kept hb
  replace e10 := hR1.cell 0 rfl
  replace e11 := hR1.cell 1 rfl
  replace e12 := hR1.cell 2 rfl
  replace hbel := hbel.trans (hb.mono hbel.size)
  clear hv hb
  go_wp2_with fail
  refine (fMul_rd Y (Z ^ (PN - 2)) _ _ _ Hy.out Hi.out).mono ?_
  rintro e w_Hn ⟨vn, rfl, hv, hb⟩
  have Hn := Lib.hid hv
  replace Hx := Lib.hid (Hx.out.below hb)
  replace Hy := Lib.hid (Hy.out.below hb)
  replace Hz := Lib.hid (Hz.out.below hb)
  replace Hi := Lib.hid (Hi.out.below hb)
  replace Hm := Lib.hid (Hm.out.below hb)
  replace hR1 := hR1.kept hb
  replace hZ := hZ.kept hb
  replace e10 := hR1.cell 0 rfl
  replace e11 := hR1.cell 1 rfl
  replace e12 := hR1.cell 2 rfl
  replace hbel := hbel.trans (hb.mono hbel.size)
  clear hv hb
  rw [EX.out] at Hm
  rw [EY.out] at Hn
  go_wp2_with fail
  refine (rBytes_any _ VY 16 (by decide) _ Hn.out).mono ?_
  rintro e w_Hq ⟨rfl, hb⟩
  replace Hx := Lib.hid (Hx.out.below hb)
  replace Hy := Lib.hid (Hy.out.below hb)
  replace Hz := Lib.hid (Hz.out.below hb)
  replace Hi := Lib.hid (Hi.out.below hb)
  replace Hm := Lib.hid (Hm.out.below hb)
  replace Hn := Lib.hid (Hn.out.below hb)
  replace hR1 := hR1.kept hb
  replace hZ := hZ.kept hb
  replace e10 := hR1.cell 0 rfl
  replace e11 := hR1.cell 1 rfl
  replace e12 := hR1.cell 2 rfl
  replace hbel := hbel.trans (hb.mono hbel.size)
  clear hb
  have hzl := hZ.lt
  go_upto_region 4 with (refine store_arr rfl 22 _ _ rfl .u8 w_Hq.heap.size 32 (fun _ => 0) (dg 256 VY) Tryz.size22 rfl rfl (Arr.newAt rfl (by rfl)) ?_)
  refine wp_world (fun w2 => Arr .u8 w2 w_Hq.heap.size 32 (dg 256 VY) ∧ Arr .u8 w2 (w.heap.size + 1) 32 (fun _ => 0) ∧ Below w_Hq.heap.size w_Hq w2)
    ⟨(Arr.newAt rfl (by rfl) : Arr .u8 _ _ 32 (fun _ => 0)).setRow _ _, Arr.setRowOther (Arr.alloc hZ _) _ (by omega) _, below_setRow' ((Below.refl _ _).alloc (Nat.le_refl _) _) (Nat.le_refl _) _⟩ ?_
  rintro w2 ⟨h5, hZ2, hb2⟩
  replace Hm := Lib.hid (Hm.out.below hb2)
  replace hbel := hbel.trans (hb2.mono hbel.size)
  obtain ⟨b5, hb5⟩ : ∃ b, b = w_Hq.heap.size := ⟨_, rfl⟩
  rw [← hb5] at h5 hzl ⊢
  clear hb5 hZ hb2 hR1 e10 e11 e12
  try simp only [Act.put, List.setIfInBounds_toArray, List.set_cons_succ, List.set_cons_zero]
  obtain ⟨am, cm, em, m1, m2, m3, m4⟩ := Hm.out
  obtain ⟨bm, om, rfl, mlt, mc⟩ := m4 (by decide)
  have ec := mc 0 (by decide)
  rw [Nat.add_zero] at ec
  have hodd := low_odd VX
  obtain ⟨t, ht⟩ : ∃ t, t = dg 65536 VX 0 := ⟨_, rfl⟩
  rw [← ht] at ec hodd
  subst em
  clear mc ht Hm m4
  have e1 := h5.cell 31 (by decide)
  have f1 := h5.free 31
  obtain ⟨s0, s1⟩ := HTS.out
  obtain ⟨s, hs⟩ : ∃ s, s = dg 256 VY 31 := ⟨_, rfl⟩
  rw [← hs] at e1 s0 s1
  have HS := Lib.hid hs
  clear hs
  have H5 := Lib.hid h5
  rcases (by omega : VX % 2 = 0 ∨ VX % 2 = 1) with ho | ho
  · have HO := Lib.hid ho
    rw [ho] at hodd
    have h6 : Arr .u8 w2 b5 32 (dg 256 (VY + (VX % 2) * 2 ^ 255)) := by rw [HO.out, Int.zero_mul, Int.add_zero]; exact H5.out
    obtain ⟨RR, hRR⟩ : ∃ R, R = VY + (VX % 2) * 2 ^ 255 := ⟨_, rfl⟩
    rw [← hRR] at h6
    have HRR := Lib.hid hRR
    clear hRR ho h5
    go_wp2_with (first | (refine load_arr rfl 22 _ rfl .u8 b5 32 (dg 256 RR) 5 Tryz.underlying22 Tryz.size22 rfl h6 ?_) | (refine store_arr rfl 22 _ _ rfl .u8 (w.heap.size + 1) 32 (fun _ => 0) (dg 256 RR) Tryz.size22 rfl rfl hZ2 ?_))
    exact bodyPost_ret (results_arr rfl _ _ .u8 (w.heap.size + 1) 32 _ 5 rfl (hZ2.setRow 32 (dg 256 RR)) Tryz.underlying22 Tryz.size22) rfl ⟨by rw [HRR.out], below_setRow' hbel (by omega) _⟩
  · have HO := Lib.hid ho
    rw [ho] at hodd
    clear ho h5
    go_upto_region 6 with (fail)
    refine wp_world (fun w9 => Arr .u8 w9 b5 32 (dg 256 (VY + (VX % 2) * 2 ^ 255)) ∧ Arr .u8 w9 (w.heap.size + 1) 32 (fun _ => 0) ∧ Below w.heap.size w w9) ⟨(H5.out.set 31 (s + 128)).congr (fun i hi => by rw [HS.out, HO.out]; exact HHI.out i hi), hZ2.other (by first | omega | (simp <;> omega)) _, hbel.setCell (by first | omega | (simp <;> omega)) _⟩ ?_
    rintro w9 ⟨h6, hZ2, hbel⟩
    try simp only [Act.put, List.setIfInBounds_toArray, List.set_cons_succ, List.set_cons_zero]
    obtain ⟨RR, hRR⟩ : ∃ R, R = VY + (VX % 2) * 2 ^ 255 := ⟨_, rfl⟩
    rw [← hRR] at h6
    have HRR := Lib.hid hRR
    clear hRR
    go_wp2_with (first | (refine load_arr rfl 22 _ rfl .u8 b5 32 (dg 256 RR) 5 Tryz.underlying22 Tryz.size22 rfl h6 ?_) | (refine store_arr rfl 22 _ _ rfl .u8 (w.heap.size + 1) 32 (fun _ => 0) (dg 256 RR) Tryz.size22 rfl rfl hZ2 ?_))
    exact bodyPost_ret (results_arr rfl _ _ .u8 (w.heap.size + 1) 32 _ 5 rfl (hZ2.setRow 32 (dg 256 RR)) Tryz.underlying22 Tryz.size22) rfl ⟨by rw [HRR.out], below_setRow' hbel (by omega) _⟩
end Go.Proofs.YtdhejcaapdhhfaaGreat

namespace Go.Bas
theorem RowC.other {w : World} {b b' j : Nat} {cs : Array Value} (h : RowC w b cs) (hb : b ≠ b') (u : Value) : RowC (w.setCell ⟨b', j, none⟩ u) b cs := by
  obtain ⟨T, h⟩ := h; exact ⟨T, by rw [heap_setCell_other w ⟨b', j, none⟩ b u hb]; exact h⟩
/-- the base's first part, in digits. -/
def baseS : ByteArray := ⟨([49, 53, 49, 49, 50, 50, 50, 49, 51, 52, 57, 53, 51, 53, 52, 48, 48, 55, 55, 50, 53, 48, 49, 49, 53, 49, 52, 48, 57, 53, 56, 56, 53, 51, 49, 53, 49, 49].append [52, 53, 52, 48, 49, 50, 54, 57, 51, 48, 52, 49, 56, 53, 55, 50, 48, 54, 48, 52, 54, 49, 49, 51, 50, 56, 51, 57, 52, 57, 56, 52, 55, 55, 54, 50, 50, 48, 50]).toArray⟩
theorem baseS_size : baseS.size = 77 := by decide +kernel
theorem baseS_dig : ∀ i, i < 77 → 48 ≤ strB baseS i ∧ strB baseS i ≤ 57 := by
  have key : ∀ i : Fin 77, 48 ≤ strB baseS i.val ∧ strB baseS i.val ≤ 57 := by decide +kernel
  exact fun i h => key ⟨i, h⟩
/-- the number of the first k digits. -/
def preN : Nat → Int
  | 0 => 0
  | k + 1 => 10 * preN k + (strB baseS k - 48)
theorem preN_77 : preN 77 = BX := by decide +kernel
end Go.Bas
namespace Go.Proofs.YtdhejcaapdhhfaaGreat
open Go.RowKit Go.Bas Go.ChangeShapes
attribute [local go_sem ↓] Go.wp_at_zero Go.wp_at_succ
set_option maxRecDepth 100000 in
set_option maxHeartbeats 6400000 in
theorem rBase7_any (w : World) : Calls Tryz.prog 33 #[] w fun e w' => ∃ a b c, e = .returned (.agg #[a, b, c]) ∧ (Rd .i64 w' a 16 (dg 65536 (BX % Pr)) ∧ Rd .i64 w' b 16 (dg 65536 (4 * 5 ^ (PN - 2) % Pr)) ∧ Rd .i64 w' c 16 (dg 65536 (1 % Pr))) ∧ Below w.heap.size w w' := by
  go_enter Tryz.func33, Tryz.ntmps33
  go_upto_region 1 with (fail)
  refine wp_world (fun w1 => RowC w1 w.heap.size #[.slice none 0 0, .slice none 0 0, .slice none 0 0] ∧ Below w.heap.size w w1) ⟨RowC.newAt rfl, (Below.refl _ _).alloc (Nat.le_refl _) _⟩ ?_
  rintro w1 ⟨hR, hbel⟩
  have hl1 := hR.lt
  go_upto_region 3 with (refine make_ints rfl _ _ 64 rfl w1.heap.size 3 .i64 8 Tryz.underlying64 Tryz.info3 .i64 .i64 16 rfl rfl (by decide) (by decide) (Nat.le_refl _) ?_; intro w2 hown hgrow)
  have hb2 : Below w1.heap.size w1 w2 := below_grown0 (Below.refl _ _) hgrow (Nat.le_refl _)
  replace hR := hR.kept hb2
  have hl := hR.lt
  have hsz1 := hbel.size
  obtain ⟨G, hG⟩ : ∃ G, G = w1.heap.size := ⟨_, rfl⟩
  rw [← hG] at hown hsz1 ⊢
  have hGl : w.heap.size < G := by rw [hG]; exact hl1
  replace hbel := hbel.trans (hb2.mono (by have := hbel.size; omega))
  clear hG hb2 hgrow
  go_wp2
  go_loopw [3] (fun i wr => ∃ k : Nat, k ≤ 77 ∧ i = .int .i64 (k : Int) ∧ Go.Bas.Own .i64 3 G wr (.slice (some ⟨G, 0, none⟩) 16 16) 16 (dg 65536 (preN k)) ∧ RowC wr w.heap.size #[.slice none 0 0, .slice none 0 0, .slice none 0 0] ∧ Below w.heap.size w wr) (fun i _ => 77 - (intOf i).toNat)
  case atStart => exact ⟨0, Nat.zero_le _, rfl, hown.congr (fun i _ => by show (0 : Int) = 0 / 65536 ^ i % 65536; rw [Int.zero_ediv]; rfl), hR, hbel⟩
  case round =>
    clear hown hR hbel
    obtain ⟨k, hk, rfl, ho, hR, hbel⟩ := hrel
    rename_i wr
    by_cases hlt : k < 77
    · have hd := baseS_dig k hlt
      obtain ⟨X, hX⟩ : ∃ X, X = preN k := ⟨_, rfl⟩
      have HX : Hid (preN (k + 1) = 10 * X + (strB baseS k - 48)) := by rw [hX]; rfl
      rw [← hX] at ho
      have HSZ := Lib.hid baseS_size
      go_upto_region 4 with (fail)
      refine region_flow (n := 43) (by kernel_rfl) (by kernel_rfl) (by kernel_rfl) rfl
        (fun ii vv _ => (match ii with | 0 => vv = .int .i64 ((k : Int)) | 1 => vv = .string baseS | 2 => vv = .int .i64 ((baseS.size : Int)) | 3 => vv = .bool true | _ => True))
        (fun w w' => Below w.heap.size w w') (fun _ _ h => h) (fun _ _ _ _ h _ => h) ?_ ?_
      · refine Each.all ?_
        refine ⟨?_, ?_, ?_, ?_, trivial⟩
        · intro a w2 hB hF hd
          rw [if_pos (wanted_none rfl)]
          exact flow_move _ (.inl rfl) (by simp) (hF.same 3 rfl)
        · intro a w2 hB hF hd
          rw [if_pos (wanted_none rfl)]
          exact flow_move _ (.inl rfl) (by simp) (hF.same 1 rfl)
        · intro a w2 hB hF hd
          rw [if_pos (wanted_none rfl)]
          exact flow_val (fun h => by cases h) (run_len_str rfl (hd 1 _ rfl (waits_spec rfl)) Tryz.underlying9) rfl
        · intro a w2 hB hF hd
          rw [if_pos (wanted_none rfl)]
          exact flow_val (fun h => by cases h) (Go.Bas.run_lss rfl (hd 0 _ rfl (waits_spec rfl)) (hd 2 _ rfl (waits_spec rfl))) (congrArg Value.bool (decide_eq_true (by rw [baseS_size]; omega)))
      · intro a w3 hB hF hS
        have ha := puts_each rfl rfl hF [_, _, _, _] rfl ⟨hS 0 _ rfl, hS 1 _ rfl, hS 2 _ rfl, hS 3 _ rfl, trivial⟩
        simp only [puts, Act.put, List.setIfInBounds_toArray, List.set_cons_succ, List.set_cons_zero] at ha
        subst ha
        clear hS hF
        have hbel3 := hbel.trans (hB.mono hbel.size)
        replace hR := hR.kept hB
        have ho3 := ho.below hB
        go_upto_region 6 with (fail)
        have hpk : ((k : Int)).toNat = k := Int.toNat_natCast k
        obtain ⟨sc, hsc⟩ : ∃ sc, sc = strB baseS k := ⟨_, rfl⟩
        rw [← hsc] at hd HX
        have HSC := Lib.hid hsc
        clear hB hbel ho hsc
        refine region_flow (n := 43) (by kernel_rfl) (by kernel_rfl) (by kernel_rfl) rfl
          (fun ii vv _ => (match ii with | 0 => vv = .string baseS | 1 => vv = .int .i64 ((k : Int)) | 2 => vv = .int .u8 (sc) | 3 => vv = .int .i64 (sc) | 4 | 5 => vv = .int .i64 (sc - 48) | _ => True))
          (fun w w' => Below w.heap.size w w') (fun _ _ h => h) (fun _ _ _ _ h _ => h) ?_ ?_
        · refine Each.all ?_
          refine ⟨?_, ?_, ?_, ?_, ?_, ?_, trivial⟩
          · intro a w2 hB hF hd
            rw [if_pos (wanted_none rfl)]
            exact flow_move _ (.inl rfl) (by simp) (hF.same 1 rfl)
          · intro a w2 hB hF hd
            rw [if_pos (wanted_none rfl)]
            exact flow_move _ (.inl rfl) (by simp) (hF.same 3 rfl)
          · intro a w2 hB hF hd
            rw [if_pos (wanted_none rfl)]
            exact flow_val (fun h => by cases h) (run_index_str rfl (hd 0 _ rfl (waits_spec rfl)) (hd 1 _ rfl (waits_spec rfl)) Tryz.underlying9 (by omega) (by rw [baseS_size]; omega)) (congrArg (Value.int .u8) (by rw [hpk, HSC.out]))
          · intro a w2 hB hF hd
            rw [if_pos (wanted_none rfl)]
            exact flow_val (fun h => by cases h) (run_conv rfl (hd 2 _ rfl (waits_spec rfl)) Tryz.underlying5 Tryz.underlying3) (congrArg (Value.int .i64) (wrap_i64_id (by omega) (by omega)))
          · intro a w2 hB hF hd
            rw [if_pos (wanted_none rfl)]
            exact flow_val (fun h => by cases h) (Go.Bas.run_sub rfl (hd 3 _ rfl (waits_spec rfl)) rfl) (congrArg (Value.int .i64) (wrap_i64_id (by omega) (by omega)))
          · intro a w2 hB hF hd
            rw [if_pos (wanted_none rfl)]
            exact flow_move _ (.inr rfl) (by simp) (hd 4 _ rfl (waits_spec rfl))
        · intro a w4 hB hF hS
          have ha := puts_each rfl rfl hF [_, _, _, _, _, _] rfl ⟨hS 0 _ rfl, hS 1 _ rfl, hS 2 _ rfl, hS 3 _ rfl, hS 4 _ rfl, hS 5 _ rfl, trivial⟩
          simp only [puts, Act.put, List.setIfInBounds_toArray, List.set_cons_succ, List.set_cons_zero] at ha
          subst ha
          clear hS hF
          replace hR := hR.kept hB
          have ho4 := ho3.below hB
          replace hbel3 := hbel3.trans (hB.mono hbel3.size)
          obtain ⟨c, hc⟩ : ∃ c, c = sc - 48 := ⟨_, rfl⟩
          rw [← hc] at HX ⊢
          have hc0 : 0 ≤ c ∧ c ≤ 9 := by omega
          clear hB ho3 hc hd HSC hpk hX
          go_wp2
          go_loopw [4, 5] (fun cc j wr => ∃ t : Nat, t ≤ 16 ∧ j = .int .i64 (t : Int) ∧ cc = .int .i64 (car10 X c t) ∧ Go.Bas.Own .i64 3 G wr (.slice (some ⟨G, 0, none⟩) 16 16) 16 (upto t (dg 65536 (10 * X + c)) (dg 65536 X)) ∧ RowC wr w.heap.size #[.slice none 0 0, .slice none 0 0, .slice none 0 0] ∧ Below w.heap.size w wr) (fun _ j _ => 16 - (intOf j).toNat)
          case atStart => exact ⟨0, Nat.zero_le _, rfl, by rw [car10_zero], by rw [upto_zero]; exact ho4, hR, hbel3⟩
          case round =>
            clear ho4 hR hbel3
            obtain ⟨t, ht, rfl, rfl, ho, hR, hbel⟩ := hrel
            by_cases hlt2 : t < 16
            · obtain ⟨g, cp, he, hg0, hgl, hc16, hcc, hcell, hfree⟩ := ho.form (by decide)
              simp only [Value.slice.injEq, Option.some.injEq, Addr.mk.injEq] at he
              obtain ⟨⟨rfl, q1⟩, q2⟩ := he
              have e1 := hcell t hlt2
              have f1 := hfree t
              rw [upto_at] at e1
              obtain ⟨d0, d1⟩ := dg_bound (by decide : (0 : Int) < 65536) X t
              obtain ⟨s1, s2⟩ := car10_step X c t
              obtain ⟨b0, b1⟩ := car10_bound (X := X) hc0.1 hc0.2 t
              obtain ⟨d, hd⟩ : ∃ d, d = dg 65536 X t := ⟨_, rfl⟩
              obtain ⟨q, hq⟩ : ∃ q, q = car10 X c t := ⟨_, rfl⟩
              rw [← hd] at e1 d0 d1 s1 s2
              rw [← hq] at b0 b1 s1 s2 ⊢
              have S1 := Lib.hid s1
              have S2 := Lib.hid s2
              have HO := Lib.hid ho
              clear hcell hfree q1 q2 hd hq s1 s2 ho hc16 hcc
              go_wp2
              go_roundw
              case rel => exact ⟨t + 1, by omega, by go_num, by rw [S2.out], by rw [← upto_step S1.out]; exact HO.out.store t _, hR.other (by omega) _, hbel.setCell (by omega) _⟩
              case measure => simp [intOf] <;> omega
            · obtain rfl : t = 16 := by omega
              have ho5 := ho.congr (upto_full _ _ (Nat.le_refl _))
              have HO := Lib.hid ho5
              clear ho ho5
              go_wp2
              go_roundw
              case rel => exact ⟨k + 1, by omega, by go_num, by rw [HX.out]; exact HO.out, hR, hbel⟩
              case measure => simp [intOf] <;> omega
    · obtain rfl : k = 77 := by omega
      rw [preN_77] at ho
      have HO := Lib.hid ho
      clear ho
      go_upto_region 4 with (fail)
      refine region_flow (n := 43) (by kernel_rfl) (by kernel_rfl) (by kernel_rfl) rfl
        (fun ii vv _ => (match ii with | 0 => vv = .int .i64 (((77 : Nat) : Int)) | 1 => vv = .string baseS | 2 => vv = .int .i64 ((baseS.size : Int)) | 3 => vv = .bool false | _ => True))
        (fun w w' => Below w.heap.size w w') (fun _ _ h => h) (fun _ _ _ _ h _ => h) ?_ ?_
      · refine Each.all ?_
        refine ⟨?_, ?_, ?_, ?_, trivial⟩
        · intro a w2 hB hF hd
          rw [if_pos (wanted_none rfl)]
          exact flow_move _ (.inl rfl) (by simp) (hF.same 3 rfl)
        · intro a w2 hB hF hd
          rw [if_pos (wanted_none rfl)]
          exact flow_move _ (.inl rfl) (by simp) (hF.same 1 rfl)
        · intro a w2 hB hF hd
          rw [if_pos (wanted_none rfl)]
          exact flow_val (fun h => by cases h) (run_len_str rfl (hd 1 _ rfl (waits_spec rfl)) Tryz.underlying9) rfl
        · intro a w2 hB hF hd
          rw [if_pos (wanted_none rfl)]
          exact flow_val (fun h => by cases h) (Go.Bas.run_lss rfl (hd 0 _ rfl (waits_spec rfl)) (hd 2 _ rfl (waits_spec rfl))) (congrArg Value.bool (decide_eq_false (by rw [baseS_size]; omega)))
      · intro a w3 hB hF hS
        have ha := puts_each rfl rfl hF [_, _, _, _] rfl ⟨hS 0 _ rfl, hS 1 _ rfl, hS 2 _ rfl, hS 3 _ rfl, trivial⟩
        simp only [puts, Act.put, List.setIfInBounds_toArray, List.set_cons_succ, List.set_cons_zero] at ha
        subst ha
        clear hS hF
        have Hx : Hid (Rd .i64 w3 (.slice (some ⟨G, 0, none⟩) 16 16) 16 (dg 65536 (BX % Pr))) := by
          have h := (HO.out.below hB).rd
          rwa [show BX % Pr = BX by decide]
        replace hR := hR.kept hB
        replace hbel := hbel.trans (hB.mono hbel.size)
        clear hB HO
        go_wp2_with fail
        refine (smallP_rd 4 (by decide) (by decide) (by decide) _).mono ?_
        rintro e w_H4 ⟨v4, rfl, hv, hb⟩
        have H4 := Lib.hid hv
        replace Hx := Lib.hid (Hx.out.below hb)
        replace hR := hR.kept hb
        replace hbel := hbel.trans (hb.mono hbel.size)
        clear hv hb
        go_wp2_with fail
        refine (smallP_rd 5 (by decide) (by decide) (by decide) _).mono ?_
        rintro e w_H5 ⟨v5, rfl, hv, hb⟩
        have H5 := Lib.hid hv
        replace Hx := Lib.hid (Hx.out.below hb)
        replace H4 := Lib.hid (H4.out.below hb)
        replace hR := hR.kept hb
        replace hbel := hbel.trans (hb.mono hbel.size)
        clear hv hb
        go_wp2_with fail
        refine (rInv_any _ 5 _ H5.out).mono ?_
        rintro e w_Hi ⟨vi, rfl, hv, hb⟩
        have Hi := Lib.hid hv
        replace Hx := Lib.hid (Hx.out.below hb)
        replace H4 := Lib.hid (H4.out.below hb)
        replace H5 := Lib.hid (H5.out.below hb)
        replace hR := hR.kept hb
        replace hbel := hbel.trans (hb.mono hbel.size)
        clear hv hb
        go_wp2_with fail
        refine (fMul_rd 4 (5 ^ (PN - 2)) _ _ _ H4.out Hi.out).mono ?_
        rintro e w_Hm ⟨vm, rfl, hv, hb⟩
        have Hm := Lib.hid hv
        replace Hx := Lib.hid (Hx.out.below hb)
        replace H4 := Lib.hid (H4.out.below hb)
        replace H5 := Lib.hid (H5.out.below hb)
        replace Hi := Lib.hid (Hi.out.below hb)
        replace hR := hR.kept hb
        replace hbel := hbel.trans (hb.mono hbel.size)
        clear hv hb
        go_wp2_with fail
        refine (rOf_any _ _ (BX % Pr) (4 * 5 ^ (PN - 2) % Pr) _ Hx.out Hm.out).mono ?_
        rintro e w_Hz ⟨vz, rfl, hv, hb⟩
        have Hz := Lib.hid hv
        replace Hx := Lib.hid (Hx.out.below hb)
        replace H4 := Lib.hid (H4.out.below hb)
        replace H5 := Lib.hid (H5.out.below hb)
        replace Hi := Lib.hid (Hi.out.below hb)
        replace Hm := Lib.hid (Hm.out.below hb)
        replace hR := hR.kept hb
        replace hbel := hbel.trans (hb.mono hbel.size)
        clear hv hb
        obtain ⟨ma, mb, mc, em⟩ := Hm.out.isSlice
        subst em
        obtain ⟨za, zb, zc, ez⟩ := Hz.out.isSlice
        subst ez
        have e30 := hR.cell 0 rfl
        have f30 := hR.free 0
        have e31 := hR.cell 1 rfl
        have f31 := hR.free 1
        have e32 := hR.cell 2 rfl
        have f32 := hR.free 2
        have HR3 := Lib.hid hR
        clear hR
        go_wp2
        have hrow := HR3.out.set3 (Value.slice (some ⟨G, 0, none⟩) 16 16) (Value.slice ma mb mc) (Value.slice za zb zc)
        have rx := Hx.out.set3 (v1 := (Value.slice (some ⟨G, 0, none⟩) 16 16)) (v2 := (Value.slice ma mb mc)) (v3 := (Value.slice za zb zc)) HR3.out ⟨_, _, _, rfl⟩ ⟨_, _, _, rfl⟩ ⟨_, _, _, rfl⟩ ⟨_, _, _, rfl⟩ ⟨_, _, _, rfl⟩
        have rm := Hm.out.set3 (v1 := (Value.slice (some ⟨G, 0, none⟩) 16 16)) (v2 := (Value.slice ma mb mc)) (v3 := (Value.slice za zb zc)) HR3.out ⟨_, _, _, rfl⟩ ⟨_, _, _, rfl⟩ ⟨_, _, _, rfl⟩ ⟨_, _, _, rfl⟩ ⟨_, _, _, rfl⟩
        have rz := Hz.out.set3 (v1 := (Value.slice (some ⟨G, 0, none⟩) 16 16)) (v2 := (Value.slice ma mb mc)) (v3 := (Value.slice za zb zc)) HR3.out ⟨_, _, _, rfl⟩ ⟨_, _, _, rfl⟩ ⟨_, _, _, rfl⟩ ⟨_, _, _, rfl⟩ ⟨_, _, _, rfl⟩
        exact bodyPost_ret (results_rowC rfl _ _ w.heap.size _ rfl hrow Tryz.underlying66 rfl Tryz.size66) rfl ⟨_, _, _, rfl, ⟨rx, rm, rz⟩, below_set3 (Nat.le_refl _) hbel _ _ _⟩
end Go.Proofs.YtdhejcaapdhhfaaGreat

namespace Go.Bas
open Go.RowKit
/-- three readable slices are a point's numbers. -/
def RPt (w : World) (a b c : Value) (p : Ed C7) : Prop := ∃ A B C, RRep A B C p ∧ Rd .i64 w a 16 (dg 65536 (A % Pr)) ∧ Rd .i64 w b 16 (dg 65536 (B % Pr)) ∧ Rd .i64 w c 16 (dg 65536 (C % Pr))
theorem RPt.below {w w' : World} {a b c : Value} {p : Ed C7} (h : RPt w a b c p) (hb : Below w.heap.size w w') : RPt w' a b c p := by
  obtain ⟨A, B, C, h0, h1, h2, h3⟩ := h
  exact ⟨A, B, C, h0, h1.below hb, h2.below hb, h3.below hb⟩
theorem RPt.slices {w : World} {a b c : Value} {p : Ed C7} (h : RPt w a b c p) : (∃ r n k, a = .slice r n k) ∧ (∃ r n k, b = .slice r n k) ∧ (∃ r n k, c = .slice r n k) := by
  obtain ⟨A, B, C, h0, h1, h2, h3⟩ := h
  exact ⟨h1.isSlice, h2.isSlice, h3.isSlice⟩
theorem Rd.setRowC {k : IntKind} {w : World} {v : Value} {n : Nat} {f : Nat → Int} {b : Nat} {cs : Array Value} (h : Rd k w v n f) (hr : RowC w b cs) (hcs : ∀ (i : Nat) (x : Value), cs[i]? = some x → ∃ a n c, x = Value.slice a n c) (cs' : Array Value) : Rd k (w.setRow b cs') v n f := by
  obtain ⟨a, c, rfl, h1, h2, h3, h4⟩ := h
  refine ⟨a, c, rfl, h1, h2, h3, fun hn => ?_⟩
  obtain ⟨b', o, rfl, hlt, hc⟩ := h4 hn
  have hne : b' ≠ b := by
    rintro rfl
    obtain ⟨T, hT⟩ := hr
    have h0 := hc 0 hn
    rw [cell_of_row w b' _ _ T (0, 0) hT] at h0
    obtain ⟨_, _, _, e⟩ := hcs _ _ h0
    cases e
  refine ⟨b', o, rfl, by rw [setRow_size]; exact hlt, fun i hi => ?_⟩
  rw [← hc i hi]
  exact World.cell?_of_block (setRow_other w b b' _ hne)
theorem RPt.setRowC {w : World} {a b c x y z : Value} {p : Ed C7} {g : Nat} (h : RPt w a b c p) (hr : RowC w g #[x, y, z]) (h1 : ∃ r n k, x = .slice r n k) (h2 : ∃ r n k, y = .slice r n k) (h3 : ∃ r n k, z = .slice r n k) (cs' : Array Value) : RPt (w.setRow g cs') a b c p := by
  obtain ⟨A, B, C, h0, k1, k2, k3⟩ := h
  exact ⟨A, B, C, h0, k1.setRowC hr (three_sl h1 h2 h3) _, k2.setRowC hr (three_sl h1 h2 h3) _, k3.setRowC hr (three_sl h1 h2 h3) _⟩
theorem mul_bit (p : Ed C7) (n m : Nat) (h : n / 2 ^ m % 2 = 1) : (p.mul (n % 2 ^ m)).add (p.mul (2 ^ m)) = p.mul (n % 2 ^ (m + 1)) := by
  rw [← Ed.mul_add]
  congr 1
  rw [Nat.mod_pow_succ, h]; omega
theorem mul_nobit (p : Ed C7) (n m : Nat) (h : ¬ n / 2 ^ m % 2 = 1) : p.mul (n % 2 ^ m) = p.mul (n % 2 ^ (m + 1)) := by
  congr 1
  rw [Nat.mod_pow_succ, show n / 2 ^ m % 2 = 0 by omega]; omega
theorem mul_dbl (p : Ed C7) (m : Nat) : (p.mul (2 ^ m)).add (p.mul (2 ^ m)) = p.mul (2 ^ (m + 1)) := by
  rw [← Ed.mul_add]
  congr 1
  rw [Nat.pow_succ]; omega
/-- where the higher digits are 0, the rest is the number. -/
theorem low_all (n : Nat) (hn : n < 2 ^ 256) : ∀ (k m : Nat), k + m = 32 → (∀ j, m ≤ j → j < 32 → dg 256 (n : Int) j = 0) → n % 2 ^ (8 * m) = n
  | 0, m, hm, _ => by rw [show m = 32 by omega]; exact Nat.mod_eq_of_lt hn
  | k + 1, m, hm, h => by
    have ih := low_all n hn k (m + 1) (by omega) (fun j hj hj' => h j (by omega) hj')
    have h0 := h m (Nat.le_refl _) (by omega)
    have e : n / 2 ^ (8 * m) % 256 = 0 := by
      have h1 : (((n / 256 ^ m % 256 : Nat)) : Int) = 0 := by rw [← h0]; unfold dg; simp
      rw [Nat.pow_mul]; exact Int.ofNat.inj h1
    rw [show 8 * (m + 1) = 8 * m + 8 by omega, Nat.pow_add, Nat.mod_mul] at ih
    rw [show (2 : Nat) ^ 8 = 256 by decide, e] at ih
    omega
end Go.Bas
namespace Go.Proofs.YtdhejcaapdhhfaaGreat
open Go.RowKit Go.Bas Go.ChangeShapes
attribute [local go_sem ↓] Go.wp_at_zero Go.wp_at_succ
/-- what the loop keeps. -/
def MulS (w : World) (b g : Nat) (vd : Value) (N : Int) (p : Ed C7) (n m : Nat) : Prop := ∃ r1 n1 c1 r2 n2 c2 r3 n3 c3 s1 m1 d1 s2 m2 d2 s3 m3 d3, RowC w b #[.slice r1 n1 c1, .slice r2 n2 c2, .slice r3 n3 c3] ∧ RPt w (.slice r1 n1 c1) (.slice r2 n2 c2) (.slice r3 n3 c3) (p.mul (2 ^ m)) ∧
  RowC w g #[.slice s1 m1 d1, .slice s2 m2 d2, .slice s3 m3 d3] ∧ RPt w (.slice s1 m1 d1) (.slice s2 m2 d2) (.slice s3 m3 d3) (p.mul (n % 2 ^ m)) ∧ RowC w (b + 2) #[.slice none 0 0, .slice none 0 0, .slice none 0 0] ∧ Arr .u8 w (b + 1) 32 (dg 256 N) ∧ Rd .i64 w vd 16 (dg 65536 (dR % Pr))
theorem rAddP {x y z u v r d : Value} {p q : Ed C7} (w : World) (hp : RPt w x y z p) (hq : RPt w u v r q) (hd : Rd .i64 w d 16 (dg 65536 (dR % Pr))) :
    Calls Tryz.prog 81 #[.agg #[x, y, z], .agg #[u, v, r], d] w fun e w' => ∃ r1 n1 c1 r2 n2 c2 r3 n3 c3, e = .returned (.agg #[.slice r1 n1 c1, .slice r2 n2 c2, .slice r3 n3 c3]) ∧ RPt w' (.slice r1 n1 c1) (.slice r2 n2 c2) (.slice r3 n3 c3) (p.add q) ∧ Below w.heap.size w w' := by
  obtain ⟨X, Y, Z, h0, h1, h2, h3⟩ := hp
  obtain ⟨U, V, R, k0, k1, k2, k3⟩ := hq
  refine (rAdd_any x y z u v r d X Y Z U V R dR w h1 h2 h3 k1 k2 k3 hd).mono ?_
  rintro e w' ⟨a, b, c, rfl, ⟨g1, g2, g3⟩, hb⟩
  obtain ⟨a1, a2, a3, rfl⟩ := g1.isSlice
  obtain ⟨b1, b2, b3, rfl⟩ := g2.isSlice
  obtain ⟨c1, c2, c3, rfl⟩ := g3.isSlice
  exact ⟨_, _, _, _, _, _, _, _, _, rfl, ⟨_, _, _, h0.add k0 toF_dR, g1, g2, g3⟩, hb⟩

set_option maxRecDepth 100000 in
set_option maxHeartbeats 6400000 in
theorem rMul_any (x y z : Value) (p : Ed C7) (n : Nat) (hn : n < 2 ^ 256) (w : World) (hp : RPt w x y z p) :
    Calls Tryz.prog 32 #[.agg #[x, y, z], .agg (arr .u8 32 (dg 256 (n : Int)))] w fun e w' => ∃ a b c, e = .returned (.agg #[a, b, c]) ∧ RPt w' a b c (p.mul n) ∧ Below w.heap.size w w' := by
  obtain ⟨⟨x1, x2, x3, ex⟩, ⟨y1, y2, y3, ey⟩, ⟨z1, z2, z3, ez⟩⟩ := hp.slices
  subst ex; subst ey; subst ez
  have HP := Lib.hid hp
  have HN256 := Lib.hid hn
  obtain ⟨N, hN⟩ : ∃ N, N = (n : Int) := ⟨_, rfl⟩
  have HNN := Lib.hid hN
  rw [← hN]
  clear hp hn hN
  go_enter Tryz.func32, Tryz.ntmps32
  go_upto_region 1 with (fail)
  refine wp_world (fun w1 => RowC w1 w.heap.size #[(.slice x1 x2 x3), (.slice y1 y2 y3), (.slice z1 z2 z3)] ∧ Arr .u8 w1 (w.heap.size + 1) 32 (dg 256 N) ∧ RowC w1 (w.heap.size + 2) #[.slice none 0 0, .slice none 0 0, .slice none 0 0] ∧ Below w.heap.size w w1) ⟨.alloc (.alloc (RowC.newAt rfl) _) _, .alloc (Arr.newAt (by first | omega | (simp <;> omega)) rfl) _, RowC.newAt (by first | omega | (simp <;> omega)), (((Below.refl _ _).alloc (Nat.le_refl _) _).alloc (by first | omega | (simp <;> omega)) _).alloc (by first | omega | (simp <;> omega)) _⟩ ?_
  rintro w1 ⟨h2, h3, h4, hbel⟩
  replace HP := Lib.hid (HP.out.below hbel)
  go_wp2_with fail
  refine (rD_any _).mono ?_
  rintro e wd ⟨vd, rfl, hv, hb⟩
  have Hd := Lib.hid hv
  replace HP := Lib.hid (HP.out.below hb)
  replace h2 := h2.kept hb
  replace h3 := h3.kept hb
  replace h4 := h4.kept hb
  replace hbel := hbel.trans (hb.mono hbel.size)
  clear hv hb
  go_wp2_with fail
  refine (smallP_rd 0 (by decide) (by decide) (by decide) _).mono ?_
  rintro e w_0 ⟨v0, rfl, hv, hb⟩
  have H0 := Lib.hid hv
  replace Hd := Lib.hid (Hd.out.below hb)
  replace HP := Lib.hid (HP.out.below hb)
  replace h2 := h2.kept hb
  replace h3 := h3.kept hb
  replace h4 := h4.kept hb
  replace hbel := hbel.trans (hb.mono hbel.size)
  clear hv hb
  go_wp2_with fail
  refine (smallP_rd 1 (by decide) (by decide) (by decide) _).mono ?_
  rintro e w_1 ⟨v1, rfl, hv, hb⟩
  have H1 := Lib.hid hv
  replace H0 := Lib.hid (H0.out.below hb)
  replace Hd := Lib.hid (Hd.out.below hb)
  replace HP := Lib.hid (HP.out.below hb)
  replace h2 := h2.kept hb
  replace h3 := h3.kept hb
  replace h4 := h4.kept hb
  replace hbel := hbel.trans (hb.mono hbel.size)
  clear hv hb
  go_wp2_with fail
  refine (rOf_any _ _ (0 % Pr) (1 % Pr) _ H0.out H1.out).mono ?_
  rintro e w_2 ⟨vz, rfl, hv, hb⟩
  replace H1 := Lib.hid (H1.out.below hb)
  replace H0 := Lib.hid (H0.out.below hb)
  replace Hd := Lib.hid (Hd.out.below hb)
  replace HP := Lib.hid (HP.out.below hb)
  replace h2 := h2.kept hb
  replace h3 := h3.kept hb
  replace h4 := h4.kept hb
  replace hbel := hbel.trans (hb.mono hbel.size)
  have HO : RPt w_2 v0 v1 vz .zero := ⟨0, 1, 1, RRep.zero, H0.out, H1.out, hv⟩
  clear hv hb H0 H1
  obtain ⟨⟨s1, m1, d1, e1⟩, ⟨s2, m2, d2, e2⟩, ⟨s3, m3, d3, e3⟩⟩ := HO.slices
  subst e1; subst e2; subst e3
  have HO := Lib.hid HO
  go_upto_region 3 with (refine store_rowC rfl 66 _ _ rfl w_2.heap.size #[.slice none 0 0, .slice none 0 0, .slice none 0 0] #[.slice s1 m1 d1, .slice s2 m2 d2, .slice s3 m3 d3] rfl (one3 ⟨_, _, _, rfl⟩ ⟨_, _, _, rfl⟩ ⟨_, _, _, rfl⟩) Tryz.size66 rfl rfl (RowC.newAt rfl) ?_)
  refine wp_world (fun w6 => RowC w6 w_2.heap.size #[.slice s1 m1 d1, .slice s2 m2 d2, .slice s3 m3 d3] ∧ Below w_2.heap.size w_2 w6) ⟨(RowC.newAt rfl : RowC _ _ #[.slice none 0 0, .slice none 0 0, .slice none 0 0]).setRow _, below_setRow' ((Below.refl _ _).alloc (Nat.le_refl _) _) (Nat.le_refl _) _⟩ ?_
  rintro w6 ⟨h6, hb⟩
  have hs4 := h4.lt
  have HS : MulS w6 w.heap.size w_2.heap.size vd N p n 0 := by
    refine ⟨_, _, _, _, _, _, _, _, _, _, _, _, _, _, _, _, _, _, h2.kept hb, ?_, h6, ?_, h4.kept hb, h3.kept hb, Hd.out.below hb⟩
    · rw [Nat.pow_zero, Ed.mul_one]; exact HP.out.below hb
    · rw [Nat.pow_zero, Nat.mod_one]; exact HO.out.below hb
  replace hbel := hbel.trans (hb.mono hbel.size)
  obtain ⟨dr, dn, dc, ed⟩ := Hd.out.isSlice
  subst ed
  obtain ⟨G, hG⟩ : ∃ G, G = w_2.heap.size := ⟨_, rfl⟩
  rw [← hG] at HS ⊢
  have hGl : w.heap.size + 2 < G := by omega
  clear h2 h3 h4 h6 hb Hd HP HO hG hs4
  go_wp2
  go_loopw [7, 8] (fun l i wr => ∃ k m : Nat, k ≤ 32 ∧ m ≤ k ∧ l = .int .i64 (m : Int) ∧ i = .int .i64 (k : Int) ∧ Hid (∀ j, m ≤ j → j < k → dg 256 N j = 0) ∧ MulS wr w.heap.size G (.slice dr dn dc) N p n 0 ∧ Below w.heap.size w wr) (fun _ i _ => 32 - (intOf i).toNat)
  case atStart => exact ⟨0, 0, Nat.zero_le _, Nat.zero_le _, rfl, rfl, fun j h h' => absurd h' (by omega), HS, hbel⟩
  case round =>
    clear HS hbel
    obtain ⟨k, m, hk, hmk, rfl, rfl, HZ, HS, hbel⟩ := hrel
    by_cases hlt : k < 32
    · obtain ⟨q1, q2, q3, q4, q5, q6, q7, q8, q9, t1, t2, t3, t4, t5, t6, t7, t8, t9, g1, g2, g3, g4, g5, g6, g7⟩ := id HS
      have e1 := g6.cell k hlt
      clear g1 g2 g3 g4 g5 g6 g7
      obtain ⟨c, hc⟩ : ∃ c, c = dg 256 N k := ⟨_, rfl⟩
      rw [← hc] at e1
      have HC := Lib.hid hc
      have c0 : 0 ≤ c := by rw [hc]; exact (dg_bound (by decide) _ _).1
      clear hc
      by_cases hc : 0 < c
      · go_wp2
        go_roundw
        case rel => exact ⟨k + 1, k + 1, by omega, by omega, by go_num, by go_num, fun j h h' => absurd h' (by omega), HS, hbel⟩
        case measure => simp [intOf] <;> omega
      · go_wp2
        go_roundw
        case rel => exact ⟨k + 1, m, by omega, by omega, by go_num, by go_num, fun j h h' => by
          by_cases hj : j = k
          · rw [hj, ← HC.out]; omega
          · exact HZ.out j h (by omega), HS, hbel⟩
        case measure => simp [intOf] <;> omega
    · obtain rfl : k = 32 := by omega
      clear hlt hk
      have HL : Hid (n % 2 ^ (8 * m) = n) := low_all n HN256.out (32 - m) m (by omega) (fun j hj hj' => by rw [← HNN.out]; exact HZ.out j hj hj')
      clear HZ
      go_wp2
      go_loopw [9] (fun i wr => ∃ k : Nat, k ≤ m ∧ i = .int .i64 (k : Int) ∧ MulS wr w.heap.size G (.slice dr dn dc) N p n (8 * k) ∧ Below w.heap.size w wr) (fun i _ => m - (intOf i).toNat)
      case atStart => exact ⟨0, Nat.zero_le _, rfl, HS, hbel⟩
      case round =>
        clear HS hbel
        obtain ⟨k, hk, rfl, HS, hbel⟩ := hrel
        by_cases hlt : k < m
        · have hk32 : k < 32 := by omega
          obtain ⟨q1, q2, q3, q4, q5, q6, q7, q8, q9, t1, t2, t3, t4, t5, t6, t7, t8, t9, g1, g2, g3, g4, g5, g6, g7⟩ := id HS
          have e1 := g6.cell k hk32
          clear g1 g2 g3 g4 g5 g6 g7
          obtain ⟨c, hc⟩ : ∃ c, c = dg 256 N k := ⟨_, rfl⟩
          rw [← hc] at e1
          have HC := Lib.hid hc
          obtain ⟨hc0, hc1⟩ : 0 ≤ c ∧ c < 256 := by rw [hc]; exact dg_bound (by decide) _ _
          clear hc
          have hcw : IntKind.i64.wrap c = c := wrap_i64_id (by omega) (by omega)
          go_wp2
          go_loopw [10, 11] (fun cc j wr => ∃ t : Nat, t ≤ 8 ∧ j = .int .i64 (t : Int) ∧ cc = .int .i64 (c / 2 ^ t) ∧ MulS wr w.heap.size G (.slice dr dn dc) N p n (8 * k + t) ∧ Below w.heap.size w wr) (fun _ j _ => 8 - (intOf j).toNat)
          case atStart => exact ⟨0, Nat.zero_le _, rfl, by rw [Int.pow_zero, Int.ediv_one], HS, hbel⟩
          case round =>
            clear HS hbel e1
            obtain ⟨t, ht, rfl, rfl, HS, hbel⟩ := hrel
            by_cases hlt2 : t < 8
            · obtain ⟨r1, n1, c1, r2, n2, c2, r3, n3, c3, s1, m1, d1, s2, m2, d2, s3, m3, d3, h2, P2, h6, P6, h4, h3, hd⟩ := HS
              have P2 := Lib.hid P2
              have P6 := Lib.hid P6
              have Hd := Lib.hid hd
              obtain ⟨q, hq⟩ : ∃ q, q = c / 2 ^ t := ⟨_, rfl⟩
              have q0 : 0 ≤ q := by rw [hq]; exact Int.ediv_nonneg hc0 (Int.le_of_lt (pow_pos' (by decide) _))
              have q1 : q < 256 := by rw [hq]; exact Int.lt_of_le_of_lt (Int.ediv_le_self _ hc0) hc1
              have HQ2 : Hid (q / 2 = c / 2 ^ (t + 1)) := by unfold Hid; rw [hq, Int.pow_succ, Int.ediv_ediv_of_nonneg (Int.le_of_lt (pow_pos' (by decide) _))]
              have hbit : q % 2 = (((n / 2 ^ (8 * k + t) % 2 : Nat)) : Int) := by
                have h := bit_of N (8 * k + t)
                rw [show (8 * k + t) / 8 = k by omega, show (8 * k + t) % 8 = t by omega, ← HC.out, ← hq] at h
                rw [← h, HNN.out]; simp
              have ht2 : Int.tmod q 2 = q % 2 := Int.tmod_eq_emod_of_nonneg q0
              have hd2 : IntKind.i64.wrap (Int.tdiv q 2) = q / 2 := by rw [Int.tdiv_eq_ediv_of_nonneg q0]; exact wrap_i64_id (by omega) (by omega)
              rw [← hq]
              clear hd hq
              by_cases hb1 : n / 2 ^ (8 * k + t) % 2 = 1
              · have hqb : q % 2 = 1 := by rw [hbit, hb1]; rfl
                have HB1 := Lib.hid hb1
                clear hbit hb1
                rw [hqb] at ht2
                go_wp2_with (first | (refine load_rowC rfl 66 _ rfl G #[.slice s1 m1 d1, .slice s2 m2 d2, .slice s3 m3 d3] Tryz.underlying66 rfl Tryz.size66 rfl h6 ?_) | (refine load_rowC rfl 66 _ rfl w.heap.size #[.slice r1 n1 c1, .slice r2 n2 c2, .slice r3 n3 c3] Tryz.underlying66 rfl Tryz.size66 rfl h2 ?_))
                refine (rAddP _ P6.out P2.out Hd.out).mono ?_
                rintro e v1 ⟨p1, p2, p3, p4, p5, p6, p7, p8, p9, rfl, hA, hb⟩
                replace h2 := h2.kept hb
                replace h6 := h6.kept hb
                replace h4 := h4.kept hb
                replace h3 := h3.kept hb
                replace P2 := Lib.hid (P2.out.below hb)
                replace P6 := Lib.hid (P6.out.below hb)
                replace Hd := Lib.hid (Hd.out.below hb)
                replace hbel := hbel.trans (hb.mono hbel.size)
                have HA := Lib.hid hA
                clear hb hA
                go_upto_region 18 with (refine store_rowC rfl 66 _ _ rfl G #[.slice s1 m1 d1, .slice s2 m2 d2, .slice s3 m3 d3] #[.slice p1 p2 p3, .slice p4 p5 p6, .slice p7 p8 p9] rfl (one3 ⟨_, _, _, rfl⟩ ⟨_, _, _, rfl⟩ ⟨_, _, _, rfl⟩) Tryz.size66 rfl rfl h6 ?_)
                refine wp_world (fun w9 => RowC w9 w.heap.size #[.slice r1 n1 c1, .slice r2 n2 c2, .slice r3 n3 c3] ∧ RPt w9 (.slice r1 n1 c1) (.slice r2 n2 c2) (.slice r3 n3 c3) (p.mul (2 ^ (8 * k + t))) ∧ RowC w9 G #[.slice p1 p2 p3, .slice p4 p5 p6, .slice p7 p8 p9] ∧ RPt w9 (.slice p1 p2 p3) (.slice p4 p5 p6) (.slice p7 p8 p9) ((p.mul (n % 2 ^ (8 * k + t))).add (p.mul (2 ^ (8 * k + t)))) ∧ RowC w9 (w.heap.size + 2) #[.slice none 0 0, .slice none 0 0, .slice none 0 0] ∧ Arr .u8 w9 (w.heap.size + 1) 32 (dg 256 N) ∧ Rd .i64 w9 (.slice dr dn dc) 16 (dg 65536 (dR % Pr)) ∧ Below w.heap.size w w9)
                  ⟨h2.setRowOther _ (by omega) _, P2.out.setRowC h6 ⟨_, _, _, rfl⟩ ⟨_, _, _, rfl⟩ ⟨_, _, _, rfl⟩ _, h6.setRow _, HA.out.setRowC h6 ⟨_, _, _, rfl⟩ ⟨_, _, _, rfl⟩ ⟨_, _, _, rfl⟩ _, h4.setRowOther _ (by omega) _, h3.setRowOther _ (by omega) _, Hd.out.setRowC h6 (three_sl ⟨_, _, _, rfl⟩ ⟨_, _, _, rfl⟩ ⟨_, _, _, rfl⟩) _, below_setRow' hbel (by omega) _⟩ ?_
                clear h2 h6 h4 h3 P2 P6 HA Hd hbel
                rintro w9 ⟨h2, P2, h6, P6, h4, h3, Hd, hbel⟩
                replace P2 := Lib.hid P2
                replace P6 := Lib.hid P6
                replace Hd := Lib.hid Hd
                try simp only [Act.put, List.setIfInBounds_toArray, List.set_cons_succ, List.set_cons_zero]
                go_wp2_with (refine load_rowC rfl 66 _ rfl w.heap.size #[.slice r1 n1 c1, .slice r2 n2 c2, .slice r3 n3 c3] Tryz.underlying66 rfl Tryz.size66 rfl h2 ?_)
                refine (rAddP _ P2.out P2.out Hd.out).mono ?_
                rintro e v2 ⟨u1, u2, u3, u4, u5, u6, u7, u8, u9, rfl, hA, hb⟩
                replace h2 := h2.kept hb
                replace h6 := h6.kept hb
                replace h4 := h4.kept hb
                replace h3 := h3.kept hb
                replace P2 := Lib.hid (P2.out.below hb)
                replace P6 := Lib.hid (P6.out.below hb)
                replace Hd := Lib.hid (Hd.out.below hb)
                replace hbel := hbel.trans (hb.mono hbel.size)
                have HA := Lib.hid hA
                clear hb hA
                have HE : Hid (MulS (v2.setRow w.heap.size #[.slice u1 u2 u3, .slice u4 u5 u6, .slice u7 u8 u9]) w.heap.size G (.slice dr dn dc) N p n (8 * k + (t + 1)) ∧ Below w.heap.size w (v2.setRow w.heap.size #[.slice u1 u2 u3, .slice u4 u5 u6, .slice u7 u8 u9])) := by
                  refine ⟨⟨_, _, _, _, _, _, _, _, _, _, _, _, _, _, _, _, _, _, h2.setRow _, ?_, h6.setRowOther _ (by omega) _, ?_, h4.setRowOther _ (by omega) _, h3.setRowOther _ (by omega) _, Hd.out.setRowC h2 (three_sl ⟨_, _, _, rfl⟩ ⟨_, _, _, rfl⟩ ⟨_, _, _, rfl⟩) _⟩, below_setRow' hbel (Nat.le_refl _) _⟩
                  · rw [show 8 * k + (t + 1) = 8 * k + t + 1 by omega, ← mul_dbl]; exact HA.out.setRowC h2 ⟨_, _, _, rfl⟩ ⟨_, _, _, rfl⟩ ⟨_, _, _, rfl⟩ _
                  · rw [show 8 * k + (t + 1) = 8 * k + t + 1 by omega, ← mul_bit _ _ _ HB1.out]; exact P6.out.setRowC h2 ⟨_, _, _, rfl⟩ ⟨_, _, _, rfl⟩ ⟨_, _, _, rfl⟩ _
                go_wp2_with (refine store_rowC rfl 66 _ _ rfl w.heap.size #[.slice r1 n1 c1, .slice r2 n2 c2, .slice r3 n3 c3] #[.slice u1 u2 u3, .slice u4 u5 u6, .slice u7 u8 u9] rfl (one3 ⟨_, _, _, rfl⟩ ⟨_, _, _, rfl⟩ ⟨_, _, _, rfl⟩) Tryz.size66 rfl rfl h2 ?_)
                go_roundw
                case rel => first | exact ⟨t + 1, by omega, by go_num, by rw [HQ2.out], HE.out.1, HE.out.2⟩ | ((repeat apply Exists.intro); refine ⟨?_, rfl⟩; exact ⟨t + 1, by omega, by go_num, by rw [HQ2.out], HE.out.1, HE.out.2⟩)
                case measure => simp [intOf] <;> omega
              · have hqb : q % 2 = 0 := by rw [hbit]; omega
                have HB1 := Lib.hid hb1
                clear hbit hb1
                rw [hqb] at ht2
                go_wp2_with (refine load_rowC rfl 66 _ rfl w.heap.size #[.slice r1 n1 c1, .slice r2 n2 c2, .slice r3 n3 c3] Tryz.underlying66 rfl Tryz.size66 rfl h2 ?_)
                refine (rAddP _ P2.out P2.out Hd.out).mono ?_
                rintro e v2 ⟨u1, u2, u3, u4, u5, u6, u7, u8, u9, rfl, hA, hb⟩
                replace h2 := h2.kept hb
                replace h6 := h6.kept hb
                replace h4 := h4.kept hb
                replace h3 := h3.kept hb
                replace P2 := Lib.hid (P2.out.below hb)
                replace P6 := Lib.hid (P6.out.below hb)
                replace Hd := Lib.hid (Hd.out.below hb)
                replace hbel := hbel.trans (hb.mono hbel.size)
                have HA := Lib.hid hA
                clear hb hA
                have HE : Hid (MulS (v2.setRow w.heap.size #[.slice u1 u2 u3, .slice u4 u5 u6, .slice u7 u8 u9]) w.heap.size G (.slice dr dn dc) N p n (8 * k + (t + 1)) ∧ Below w.heap.size w (v2.setRow w.heap.size #[.slice u1 u2 u3, .slice u4 u5 u6, .slice u7 u8 u9])) := by
                  refine ⟨⟨_, _, _, _, _, _, _, _, _, _, _, _, _, _, _, _, _, _, h2.setRow _, ?_, h6.setRowOther _ (by omega) _, ?_, h4.setRowOther _ (by omega) _, h3.setRowOther _ (by omega) _, Hd.out.setRowC h2 (three_sl ⟨_, _, _, rfl⟩ ⟨_, _, _, rfl⟩ ⟨_, _, _, rfl⟩) _⟩, below_setRow' hbel (Nat.le_refl _) _⟩
                  · rw [show 8 * k + (t + 1) = 8 * k + t + 1 by omega, ← mul_dbl]; exact HA.out.setRowC h2 ⟨_, _, _, rfl⟩ ⟨_, _, _, rfl⟩ ⟨_, _, _, rfl⟩ _
                  · rw [show 8 * k + (t + 1) = 8 * k + t + 1 by omega, ← mul_nobit _ _ _ HB1.out]; exact P6.out.setRowC h2 ⟨_, _, _, rfl⟩ ⟨_, _, _, rfl⟩ ⟨_, _, _, rfl⟩ _
                go_wp2_with (refine store_rowC rfl 66 _ _ rfl w.heap.size #[.slice r1 n1 c1, .slice r2 n2 c2, .slice r3 n3 c3] #[.slice u1 u2 u3, .slice u4 u5 u6, .slice u7 u8 u9] rfl (one3 ⟨_, _, _, rfl⟩ ⟨_, _, _, rfl⟩ ⟨_, _, _, rfl⟩) Tryz.size66 rfl rfl h2 ?_)
                go_roundw
                case rel => first | exact ⟨t + 1, by omega, by go_num, by rw [HQ2.out], HE.out.1, HE.out.2⟩ | ((repeat apply Exists.intro); refine ⟨?_, rfl⟩; exact ⟨t + 1, by omega, by go_num, by rw [HQ2.out], HE.out.1, HE.out.2⟩)
                case measure => simp [intOf] <;> omega
            · obtain rfl : t = 8 := by omega
              go_wp2
              go_roundw
              case rel => exact ⟨k + 1, by omega, by go_num, HS, hbel⟩
              case measure => simp [intOf] <;> omega
        · obtain rfl : k = m := by omega
          obtain ⟨r1, n1, c1, r2, n2, c2, r3, n3, c3, s1, m1, d1, s2, m2, d2, s3, m3, d3, h2, P2, h6, P6, h4, h3, hd⟩ := HS
          rw [HL.out] at P6
          have P6 := Lib.hid P6
          clear P2 hd h2 h3
          go_wp2_with (first | (refine load_rowC rfl 66 _ rfl G #[.slice s1 m1 d1, .slice s2 m2 d2, .slice s3 m3 d3] Tryz.underlying66 rfl Tryz.size66 rfl h6 ?_) | (refine store_rowC rfl 66 _ _ rfl (w.heap.size + 2) #[.slice none 0 0, .slice none 0 0, .slice none 0 0] #[.slice s1 m1 d1, .slice s2 m2 d2, .slice s3 m3 d3] rfl (one3 ⟨_, _, _, rfl⟩ ⟨_, _, _, rfl⟩ ⟨_, _, _, rfl⟩) Tryz.size66 rfl rfl h4 ?_))
          exact bodyPost_ret (results_rowC rfl _ _ (w.heap.size + 2) _ rfl (h4.setRow #[.slice s1 m1 d1, .slice s2 m2 d2, .slice s3 m3 d3]) Tryz.underlying66 rfl Tryz.size66) rfl ⟨_, _, _, rfl, P6.out.setRowC h4 ⟨_, _, _, rfl⟩ ⟨_, _, _, rfl⟩ ⟨_, _, _, rfl⟩ _, below_setRow' hbel (by omega) _⟩
end Go.Proofs.YtdhejcaapdhhfaaGreat

namespace Go.Bas
open Go.RowKit
section
variable {P : Program} {ops : Array Oper} {Q : Exit → Act → World → Prop}
end
/-- v is limbs of the point p. -/
def NPt (v : Value) (p : Ed C7) : Prop := ∃ F, v = .agg (arr .i64 64 F) ∧ PFn F p
theorem NPt.keep {E : Prop} {v : Value} {p : Ed C7} (h : NPt v p) (_ : E) : NPt v p := h
/-- v is three readable slices, a point's numbers. -/
def SPt (w : World) (v : Value) (p : Ed C7) : Prop := ∃ r1 n1 c1 r2 n2 c2 r3 n3 c3, v = .agg #[.slice r1 n1 c1, .slice r2 n2 c2, .slice r3 n3 c3] ∧ RPt w (.slice r1 n1 c1) (.slice r2 n2 c2) (.slice r3 n3 c3) p
theorem SPt.below {w w' : World} {v : Value} {p : Ed C7} (h : SPt w v p) (hb : Below w.heap.size w w') : SPt w' v p := by
  obtain ⟨r1, n1, c1, r2, n2, c2, r3, n3, c3, e, h⟩ := h
  exact ⟨r1, n1, c1, r2, n2, c2, r3, n3, c3, e, h.below hb⟩
theorem SPt.of {w : World} {a b c : Value} {p : Ed C7} (h : RPt w a b c p) : SPt w (.agg #[a, b, c]) p := by
  obtain ⟨⟨a1, a2, a3, rfl⟩, ⟨b1, b2, b3, rfl⟩, ⟨c1, c2, c3, rfl⟩⟩ := h.slices
  exact ⟨_, _, _, _, _, _, _, _, _, rfl, h⟩
end Go.Bas
namespace Go.Proofs.YtdhejcaapdhhfaaGreat
open Go.RowKit Go.Bas
theorem rMulS {v : Value} {p : Ed C7} (n : Nat) (hn : n < 2 ^ 256) (w : World) (hp : SPt w v p) :
    Calls Tryz.prog 32 #[v, .agg (arr .u8 32 (dg 256 (n : Int)))] w fun e w' => ∃ r, e = .returned r ∧ SPt w' r (p.mul n) ∧ Below w.heap.size w w' := by
  obtain ⟨r1, n1, c1, r2, n2, c2, r3, n3, c3, rfl, h⟩ := hp
  refine (rMul_any _ _ _ p n hn w h).mono ?_
  rintro e w' ⟨_, _, _, rfl, hA, hb⟩
  exact ⟨_, rfl, SPt.of hA, hb⟩
theorem rBaseS (w : World) : Calls Tryz.prog 33 #[] w fun e w' => ∃ r, e = .returned r ∧ SPt w' r Bp ∧ Below w.heap.size w w' := by
  refine (rBase7_any w).mono ?_
  rintro e w' ⟨a, b, c, rfl, ⟨h1, h2, h3⟩, hb⟩
  exact ⟨_, rfl, SPt.of ⟨_, _, _, RRep.base, h1, h2, h3⟩, hb⟩
theorem rBytesS {v : Value} {p : Ed C7} (w : World) (hp : SPt w v p) : Calls Tryz.prog 31 #[v] w fun e w' => e = .returned (.agg (arr .u8 32 (dg 256 (bytesN p)))) ∧ Below w.heap.size w w' := by
  obtain ⟨r1, n1, c1, r2, n2, c2, r3, n3, c3, rfl, A, B, C, h0, h1, h2, h3⟩ := hp
  exact rBytes7_any _ _ _ A B C (edX p) (edY p) w h1 h2 h3 h0.bytes.1 h0.bytes.2
end Go.Proofs.YtdhejcaapdhhfaaGreat

namespace Go.Bas
end Go.Bas
namespace Go.Proofs.YtdhejcaapdhhfaaGreat
open Go.RowKit Go.Bas
theorem pMulN {v : Value} {p : Ed C7} (n : Nat) (hn : n < 2 ^ 256) (w : World) (hp : NPt v p) :
    Calls Tryz.prog 25 #[v, .agg (arr .u8 32 (dg 256 (n : Int)))] w fun e w' => ∃ r, e = .returned r ∧ NPt r (p.mul n) ∧ Below w.heap.size w w' := by
  obtain ⟨F, rfl, h⟩ := hp
  refine (pMul_ok h n hn w).mono ?_
  rintro e w' ⟨G, rfl, hG, hb⟩
  exact ⟨_, rfl, ⟨G, rfl, hG⟩, hb⟩
theorem pAddN {v u : Value} {p q : Ed C7} (w : World) (hp : NPt v p) (hq : NPt u q) :
    Calls Tryz.prog 49 #[v, u] w fun e w' => ∃ r, e = .returned r ∧ NPt r (p.add q) ∧ Below w.heap.size w w' := by
  obtain ⟨F, rfl, h⟩ := hp
  obtain ⟨G, rfl, k⟩ := hq
  obtain ⟨R, hR, hc⟩ := pAdd_ok h k
  refine (hc w).mono ?_
  rintro e w' ⟨rfl, hb⟩
  exact ⟨_, rfl, ⟨R, rfl, hR⟩, hb⟩
theorem pNegN {v : Value} {p : Ed C7} (w : World) (hp : NPt v p) : Calls Tryz.prog 50 #[v] w fun e w' => ∃ r, e = .returned r ∧ NPt r p.neg ∧ Below w.heap.size w w' := by
  obtain ⟨F, rfl, h⟩ := hp
  obtain ⟨R, hR, hc⟩ := pNeg_ok h
  refine (hc w).mono ?_
  rintro e w' ⟨rfl, hb⟩
  exact ⟨_, rfl, ⟨R, rfl, hR⟩, hb⟩
theorem pBytesN {v : Value} {p : Ed C7} (w : World) (hp : NPt v p) : Calls Tryz.prog 26 #[v] w fun e w' => e = .returned (.agg (arr .u8 32 (dg 256 (bytesN p)))) ∧ Below w.heap.size w w' := by
  obtain ⟨F, rfl, h⟩ := hp
  exact pBytes_ok h w
end Go.Proofs.YtdhejcaapdhhfaaGreat

namespace Go.Bas
theorem and_128p (x : Int) (h0 : 0 ≤ x) (h1 : x < 256) : bits .and .u8 x 128 = x / 128 * 128 := by
  obtain ⟨n, rfl⟩ := Int.eq_ofNat_of_zero_le h0
  have key : ∀ n : Fin 256, bits .and .u8 ((n.val : Nat) : Int) 128 = (n.val : Int) / 128 * 128 := by decide +kernel
  exact key ⟨n, by omega⟩
theorem and_127p (x : Int) (h0 : 0 ≤ x) (h1 : x < 256) : bits .and .u8 x 127 = x % 128 := by
  obtain ⟨n, rfl⟩ := Int.eq_ofNat_of_zero_le h0
  have key : ∀ n : Fin 256, bits .and .u8 ((n.val : Nat) : Int) 127 = (n.val : Int) % 128 := by decide +kernel
  exact key ⟨n, by omega⟩
theorem one_dy0 (o d x : Fp) (ho : o ≠ 0) (hx : x = 0) (h : o + d * (x * x) = 0) : False := by
  have e : o + d * (x * x) = o := by rw [hx]; clear h ho; grind
  exact ho (e.symm.trans h)
theorem one_dy_ne (y : Fp) : 1 + dE * (y * y) ≠ 0 := by
  intro h
  have h1 := fp_one_ne
  have hy : y ≠ 0 := by
    intro hy
    exact one_dy0 1 dE y h1 hy h
  have hi := inv_mul hy
  apply dE_sq (iE * inv y)
  have hs := iE_sq
  generalize dE = d at *
  generalize iE = i at *
  generalize inv y = z at *
  clear h1
  grind
theorem on_of {x y d i : Fp} (h : x * x = (y * y - 1) * i) (hi : (d * (y * y) + 1) * i = 1) : y ^ 2 - x ^ 2 = 1 + d * x ^ 2 * y ^ 2 := by grind
theorem split255 {A : Int} (h0 : 0 ≤ A) (h1 : A < 2 ^ 256) : A = A % 2 ^ 255 + A / 2 ^ 255 * 2 ^ 255 ∧ 0 ≤ A % 2 ^ 255 ∧ A % 2 ^ 255 < 2 ^ 255 ∧ (A / 2 ^ 255 = 0 ∨ A / 2 ^ 255 = 1) := by omega
theorem low255 {A : Int} (h0 : 0 ≤ A) (h1 : A < 2 ^ 256) : ∀ i, i < 32 → upd (dg 256 A) 31 (dg 256 A 31 % 128) i = dg 256 (A % 2 ^ 255) i := by
  intro i hi
  obtain ⟨e, y0, y1, hb⟩ := split255 h0 h1
  obtain ⟨Y, hY⟩ : ∃ Y, Y = A % 2 ^ 255 := ⟨_, rfl⟩
  rw [← hY] at e y0 y1 ⊢
  have ht := top_small Y y0 y1
  rcases hb with hb | hb
  · rw [hb] at e
    have e' : A = Y := by omega
    rw [e']
    unfold upd
    split
    · rename_i h; subst h; omega
    · rfl
  · rw [hb] at e
    have hh := bytes_hi Y y0 y1
    rw [← e] at hh
    have h31 := hh 31 (by decide)
    have hi' := hh i hi
    unfold upd at *
    split
    · rename_i h; subst h
      rw [if_pos rfl] at h31
      omega
    · rename_i h
      rw [if_neg h] at hi'
      exact hi'.symm
theorem top255 {A : Int} (h0 : 0 ≤ A) (h1 : A < 2 ^ 256) : dg 256 A 31 / 128 = A / 2 ^ 255 := by
  show A / 256 ^ 31 % 256 / 128 = A / 2 ^ 255
  omega
end Go.Bas
namespace Go.Proofs.YtdhejcaapdhhfaaGreat
open Go.RowKit Go.Bas Go.ChangeShapes
attribute [local go_sem ↓] Go.wp_at_zero Go.wp_at_succ
theorem same_less {Y : Int} (h0 : 0 ≤ Y) (h1 : Y < 2 ^ 255) : sameB 32 (dg 256 (Y % Pr)) (dg 256 Y) = decide (Y < Pr) := by
  by_cases h : Y < Pr
  · rw [Int.emod_eq_of_lt h0 h, decide_eq_true h]; exact sameB_self
  · rw [decide_eq_false h]
    refine sameB_no fun e => h ?_
    have h2 := sm_congr (B := 256) (n := 32) e
    rw [sm_dg (by decide), sm_dg (by decide)] at h2
    have hm := modP Y
    have e1 : Y % Pr % 256 ^ 32 = Y % Pr := Int.emod_eq_of_lt hm.1 (by have : Pr < 256 ^ 32 := by decide
                                                                       omega)
    have e2 : Y % 256 ^ 32 = Y := Int.emod_eq_of_lt h0 (by omega)
    rw [e1, e2] at h2
    omega
/-- a point whose first part is a root. -/
theorem fst_point {X Y : Int} (h : X * X % Pr = fstN Y % Pr) : ∃ p : Ed C7, toF X = p.x ∧ toF Y = p.y := by
  have h2 := toF_eq.2 h
  unfold fstN invN at h2
  rw [toF_mul, toF_mul, toF_inv] at h2
  simp only [toF_sub, toF_add, toF_mul, toF_one, toF_dN] at h2
  have hi := inv_mul (x := dE * (toF Y * toF Y) + 1) (by
    have h3 := one_dy_ne (toF Y)
    intro e; apply h3
    generalize toF Y = y at *
    generalize dE = d at *
    grind)
  exact ⟨⟨toF X, toF Y, on_of h2 hi⟩, rfl, rfl⟩
/-- which bytes are a point. -/
def ofOk (A : Int) : Prop := A % 2 ^ 255 < Pr ∧ isSq (fstN (A % 2 ^ 255)) = true ∧ ¬ (fstN (A % 2 ^ 255) % Pr = 0 ∧ A / 2 ^ 255 = 1)
theorem of_bytes {A R Y : Int} (h0 : 0 ≤ A) (h1 : A < 2 ^ 256) (hy : Y = A % 2 ^ 255) (hY : Y < Pr) (hR : R * R % Pr = fstN Y % Pr) (he : R % Pr % 2 = 0) (hz : ¬ (R % Pr = 0 ∧ A / 2 ^ 255 = 1)) :
    ∃ p : Ed C7, toF (if A / 2 ^ 255 = 1 then -R else R) = p.x ∧ toF Y = p.y ∧ bytesN p = A := by
  obtain ⟨e, y0, y1, hb⟩ := split255 h0 h1
  rw [← hy] at e y0 y1
  have hyy : ∀ p : Ed C7, toF Y = p.y → edY p = Y := fun p h => by unfold edY; rw [← h, toF_val]; exact Int.emod_eq_of_lt y0 hY
  have hxx : ∀ (p : Ed C7) (X : Int), toF X = p.x → edX p = X % Pr := fun p X h => by unfold edX; rw [← h, toF_val]
  have hm := modP R
  by_cases ho : A / 2 ^ 255 = 1
  · rw [if_pos ho]
    have hR2 : -R * -R % Pr = fstN Y % Pr := by rw [Int.neg_mul_neg]; exact hR
    obtain ⟨p, hx, hp⟩ := fst_point hR2
    refine ⟨p, hx, hp, ?_⟩
    unfold bytesN
    have e3 : -R % Pr = Pr - R % Pr := by
      have e1 : -R % Pr = (Pr - R % Pr) % Pr := mod_eq_of (c := -(R / Pr) - 1) (by have := Int.emod_add_mul_ediv R Pr; rw [Int.mul_sub, Int.mul_neg]; omega)
      have hn : R % Pr ≠ 0 := fun h => hz ⟨h, ho⟩
      rw [e1]
      exact Int.emod_eq_of_lt (by omega) (by omega)
    rw [hyy p hp, hxx p _ hx, e3]
    have hp2 : Pr % 2 = 1 := by decide
    rw [show (Pr - R % Pr) % 2 = 1 by omega, ← ho]
    omega
  · rw [if_neg ho]
    obtain ⟨p, hx, hp⟩ := fst_point hR
    refine ⟨p, hx, hp, ?_⟩
    unfold bytesN
    rw [hyy p hp, hxx p _ hx, he]
    omega
theorem root_zero {R Y : Int} (hR : R * R % Pr = fstN Y % Pr) : R % Pr = 0 ↔ fstN Y % Pr = 0 := by
  have h2 := toF_eq.2 hR
  constructor
  · intro h
    have h3 : toF R = 0 := by rw [← toF_zero]; exact toF_eq.2 h
    have h4 : toF (fstN Y) = toF 0 := by rw [← h2, toF_mul, h3, toF_zero]; decide
    exact toF_eq.1 h4
  · intro h
    have h3 : toF (fstN Y) = 0 := by rw [← toF_zero]; exact toF_eq.2 h
    rw [h3, toF_mul] at h2
    have h4 : toF R = toF 0 := by rw [toF_zero]; exact (fp_mul_zero h2).elim id id
    exact toF_eq.1 h4
theorem first_any (f : Nat → Int) (Y : Int) (hf : Fe f Y) : ∃ H R, Fe H R ∧ (isSq (fstN Y) = true → R * R % Pr = fstN Y % Pr ∧ R % Pr % 2 = 0) ∧ ∀ w, Calls Tryz.prog 55 #[El f] w fun e w' => e = .returned (.tuple #[El H, .bool (isSq (fstN Y))]) ∧ Below w.heap.size w w' := by
  cases hq : isSq (fstN Y)
  · exact ⟨fun _ => 0, 0, fe_zero, fun h => (by cases h), fun w => pFirst_no f Y hf hq w⟩
  · obtain ⟨R, h1, h2, h3⟩ := rootF_ok (fe_fst hf) hq
    exact ⟨_, R, h1, fun _ => ⟨h2, h3⟩, fun w => pFirst_yes f Y hf hq w⟩
theorem build_p0 {a : Act} (w : World) : (Instr.build 55 ((#[] : Array (Nat × Operand)).map fun (i, x) => (i, a.eval x))).run Tryz.prog w = .ok (.agg (arr .i64 64 (fun _ => 0))) w := Go.run_build w _ _ _ (by kernel_rfl)
/-- what Of answers. -/
def OfR (A : Int) (r : Value) (c : Int) : Prop := (c = 0 ∧ ofOk A ∧ ∃ p : Ed C7, NPt r p ∧ bytesN p = A) ∨ (c = 21 ∧ r = .agg (arr .i64 64 (fun _ => 0)) ∧ ¬ ofOk A)

set_option maxRecDepth 100000 in
set_option maxHeartbeats 6400000 in
theorem pOf_any (A : Int) (h0 : 0 ≤ A) (h1 : A < 2 ^ 256) (w : World) :
    Calls Tryz.prog 47 #[.agg (arr .u8 32 (dg 256 A))] w fun e w' => ∃ r c, e = .returned (.tuple #[r, .int .i64 c]) ∧ OfR A r c ∧ Below w.heap.size w w' := by
  obtain ⟨eA, y0, y1, hb⟩ := split255 h0 h1
  have HL := Lib.hid (low255 h0 h1)
  have HT := Lib.hid (top255 h0 h1)
  have HB := Lib.hid (fun R (hY : A % 2 ^ 255 < Pr) => of_bytes (A := A) (R := R) h0 h1 rfl hY)
  have HOKd : Hid (ofOk A ↔ A % 2 ^ 255 < Pr ∧ isSq (fstN (A % 2 ^ 255)) = true ∧ ¬ (fstN (A % 2 ^ 255) % Pr = 0 ∧ A / 2 ^ 255 = 1)) := Iff.rfl
  obtain ⟨Y, hY⟩ : ∃ Y, Y = A % 2 ^ 255 := ⟨_, rfl⟩
  rw [← hY] at y0 y1 HL HB HOKd
  have HOF : Hid (∀ w, Calls Tryz.prog 103 #[.agg (arr .u8 32 (dg 256 Y))] w fun e w' => e = .returned (.agg (arr .i64 16 (dg 65536 Y))) ∧ Below w.heap.size w w') := fun w => by
    have h := feOf_any Y w
    rwa [Int.emod_eq_of_lt y0 y1] at h
  have HF : Hid (Fe (dg 65536 Y) Y) := by have h := feOf_fe Y; rwa [Int.emod_eq_of_lt y0 y1] at h
  have HSL := Lib.hid (same_less y0 y1)
  obtain ⟨H, R, hfh, hrt, hfst⟩ := first_any _ Y HF.out
  have HFH := Lib.hid hfh
  have HRT := Lib.hid hrt
  have HFST := Lib.hid hfst
  have HEQ : Hid (∀ w, Calls Tryz.prog 57 #[.agg (arr .i64 16 H), .agg (arr .i64 16 (smallF 0))] w fun e w' => e = .returned (.bool (eqP R 0)) ∧ Below w.heap.size w w') := fun w => feEqual_any _ _ _ _ HFH.out fe_s0 w
  have HP0 := Lib.hid (fun (a : Act) w => build_p0 (a := a) w)
  obtain ⟨ok, hok⟩ : ∃ ok, ok = isSq (fstN Y) := ⟨_, rfl⟩
  rw [← hok] at HFST HRT HOKd
  obtain ⟨ze, hze⟩ : ∃ ze, ze = eqP R 0 := ⟨_, rfl⟩
  rw [← hze] at HEQ
  obtain ⟨od, hod⟩ : ∃ od, od = decide (A / 2 ^ 255 = 1) := ⟨_, rfl⟩
  obtain ⟨lt, hlt⟩ : ∃ lt, lt = decide (Y < Pr) := ⟨_, rfl⟩
  rw [← hlt] at HSL
  have HZE := Lib.hid hze
  have HOD := Lib.hid hod
  have HLT := Lib.hid hlt
  have HBB := Lib.hid hb
  clear hfh hrt hfst hok hze hod hlt h0 h1 eA hb hY
  obtain ⟨dd, hdd⟩ : ∃ dd, dd = dg 256 A 31 := ⟨_, rfl⟩
  obtain ⟨g0, g1⟩ : 0 ≤ dd ∧ dd < 256 := by rw [hdd]; exact dg_bound (by decide) _ _
  rw [← hdd] at HL HT
  have HDD := Lib.hid hdd
  have hn128 : ((dd / 128 * 128) != 0) = od := by
    rw [HOD.out, HT.out]
    rcases HBB.out with h | h <;> rw [h] <;> decide
  have h128 := and_128p dd g0 g1
  have h127 := and_127p dd g0 g1
  have H128 := Lib.hid h128
  have HN128 := Lib.hid hn128
  clear hdd hn128 h128
  go_enter Tryz.func47, Tryz.ntmps47
  go_upto_region 1 with (fail)
  refine wp_world (fun w1 => Arr .u8 w1 w.heap.size 32 (dg 256 A) ∧ Arr .i64 w1 (w.heap.size + 1) 64 (fun _ => 0) ∧ Below w.heap.size w w1) ⟨.alloc (Arr.newAt rfl rfl) _, Arr.newAt (by first | omega | (simp <;> omega)) (by rfl), ((Below.refl _ _).alloc (Nat.le_refl _) _).alloc (by first | omega | (simp <;> omega)) _⟩ ?_
  rintro w1 ⟨h1, h2, hbel⟩
  have c31 := h1.cell 31 (by decide)
  rw [← HDD.out] at c31
  have hl1 := h1.lt
  refine region_flow (n := 48) (by kernel_rfl) (by kernel_rfl) (by kernel_rfl) rfl
    (fun ii vv _ => (match ii with | 0 => vv = .pointer (some ⟨w.heap.size, 31, none⟩) | 1 => vv = .int .u8 (dd) | 2 => vv = .int .u8 (dd / 128 * 128) | 3 | 4 => vv = .bool od | _ => True))
    (fun w w' => Below w.heap.size w w') (fun _ _ h => h) (fun _ _ _ _ h _ => h) ?_ ?_
  · refine Each.all ?_
    refine ⟨?_, ?_, ?_, ?_, ?_, trivial⟩
    · intro a w2 hB hF hd
      rw [if_pos (wanted_none rfl)]
      exact flow_val (fun h => by cases h) (run_index_addr rfl (hF.same 1 rfl) rfl Tryz.underlying22 (by kernel_rfl) (by decide) (by decide)) rfl
    · intro a w2 hB hF hd
      rw [if_pos (wanted_none rfl)]
      exact flow_val (fun h => by cases h) (run_load_cell rfl (hd 0 _ rfl (waits_spec rfl)) Tryz.underlying5 ((hB.cell (p := ⟨w.heap.size, 31, none⟩) hl1).trans c31)) rfl
    · intro a w2 hB hF hd
      rw [if_pos (wanted_none rfl)]
      exact flow_val (fun h => by cases h) (Go.Bas.run_and rfl (hd 1 _ rfl (waits_spec rfl)) rfl) (congrArg (Value.int .u8) (H128.out))
    · intro a w2 hB hF hd
      rw [if_pos (wanted_none rfl)]
      exact flow_val (fun h => by cases h) (Go.Bas.run_neq_int rfl (hd 2 _ rfl (waits_spec rfl)) rfl) (congrArg Value.bool (HN128.out))
    · intro a w2 hB hF hd
      rw [if_pos (wanted_none rfl)]
      exact flow_move _ (.inr rfl) (by simp) (hd 3 _ rfl (waits_spec rfl))
  · intro a w2 hB hF hS
    have ha := puts_each rfl rfl hF [_, _, _, _, _] rfl ⟨hS 0 _ rfl, hS 1 _ rfl, hS 2 _ rfl, hS 3 _ rfl, hS 4 _ rfl, trivial⟩
    simp only [puts, Act.put, List.setIfInBounds_toArray, List.set_cons_succ, List.set_cons_zero] at ha
    subst ha
    clear hS hF
    replace h1 := h1.kept hB
    replace h2 := h2.kept hB
    replace hbel := hbel.trans (hB.mono hbel.size)
    have e31 := h1.cell 31 (by decide)
    rw [← HDD.out] at e31
    have f31 := h1.free 31
    clear hB c31 hl1
    go_upto_region 3 with (fail)
    refine wp_world (fun w3 => Arr .u8 w3 w.heap.size 32 (dg 256 Y) ∧ Arr .i64 w3 (w.heap.size + 1) 64 (fun _ => 0) ∧ Below w.heap.size w w3) ⟨(h1.set 31 (dd % 128)).congr HL.out, h2.other (by simp) _, hbel.setCell (Nat.le_refl _) _⟩ ?_
    clear h1 h2 hbel e31 f31 h127 g0 g1
    rintro w3 ⟨h1, h2, hbel⟩
    have hl2 := h2.lt
    try simp only [Act.put, List.setIfInBounds_toArray, List.set_cons_succ, List.set_cons_zero]
    refine region_vars (n := 48) (by kernel_rfl) (by kernel_rfl) (by kernel_rfl) rfl
      (isAl [(3, 2)]) (putOf [(3, 2)]) (fun _ => arr .i64 16 (fun _ => 0)) (fun _ => (arr .i64 16 (dg 65536 Y))) (fun _ => 53) (fun _ => 5)
      (fun ii vv _ => (match ii with | 0 => vv = .agg (arr .u8 32 (dg 256 Y)) | 1 => vv = .agg (arr .i64 16 (dg 65536 Y)) | _ => True)) (fun _ _ => True) (fun _ _ _ => trivial) (fun _ _ _ _ _ _ _ => trivial) (fun _ _ _ _ h _ => h)
      (vs_al rfl) (vs_inj rfl) ?_ ?_ ?_ ?_
    · refine Each.all ?_
      refine ⟨?_, ?_, (fun h => by cases h), (fun _ h => by cases h), trivial⟩
      · intro _ _ a w2 hB hF hd
        rw [if_pos (wanted_none rfl)]
        exact flow_val (fun h => by cases h) (run_load_str rfl Tryz.underlying22 rfl Tryz.size22 (hF.same 1 rfl) (h1.below hB h1.lt)) rfl
      · intro _ _ a w2 hB hF hd
        rw [if_pos (wanted_none rfl)]
        refine flow_call _ _ _ rfl Tryz.call103 _ (args1 (hd 0 _ rfl rfl rfl (waits_spec rfl))) (by simp) ((HOF.out w2).mono ?_)
        rintro e w3 ⟨rfl, hb⟩; exact ⟨_, rfl, rfl, hb⟩
    · refine Each.all ?_
      refine ⟨(fun h => by cases h), (fun h => by cases h), ?_, (fun h => by cases h), trivial⟩
      · exact fun _ => ⟨rfl, rfl, fun a w2 K h => flow_alloc rfl rfl Tryz.zeroValue53 (by simp) h⟩
    · refine Each.all ?_
      refine ⟨(fun _ h => by cases h), (fun _ h => by cases h), (fun _ h => by cases h), ?_, trivial⟩
      · intro p hp
        obtain rfl : 2 = p := Option.some.inj hp
        exact ⟨rfl, rfl, ⟨_, rfl⟩, waits_spec rfl, fun a w2 b K hB hF hd hx hb h => flow_put rfl rfl Tryz.size53 hx (hd 1 _ rfl rfl rfl (waits_spec rfl)) hb h⟩
    · intro a w4 blk hB hF hS hv hfin hdis
      obtain ⟨v2, v2l, v2u⟩ := hv 2 _ rfl rfl
      have ha := puts_each rfl rfl hF [_, _, _, undef] rfl ⟨hS 0 _ rfl rfl rfl, hS 1 _ rfl rfl rfl, v2, trivial, trivial⟩
      have f2 := hfin 3 _ 2 rfl rfl
      simp only [puts, Act.put, List.setIfInBounds_toArray, List.set_cons_succ, List.set_cons_zero] at ha
      subst ha
      have V2 : Arr .i64 w4 (blk 2) 16 (dg 65536 Y) := ⟨_, f2⟩
      clear hS hv hfin hdis hF v2 f2
      replace h1 := h1.kept hB
      replace h2 := h2.kept hB
      replace hbel := hbel.trans (hB.mono hbel.size)
      obtain ⟨x5, e5⟩ : ∃ x, x = blk 2 := ⟨_, rfl⟩
      rw [← e5] at V2 v2l ⊢
      have h5 := V2
      have l5 : w.heap.size + 1 < x5 := by omega
      have hl5 := h5.lt
      clear hB v2l v2u V2 e5 hl2
      go_upto_region 4 with (fail)
      refine region_vars (n := 48) (by kernel_rfl) (by kernel_rfl) (by kernel_rfl) rfl
        (isAl [(6, 5)]) (putOf [(6, 5)]) (fun _ => arr .i64 16 (fun _ => 0)) (fun _ => (arr .i64 16 (H))) (fun _ => 53) (fun _ => 6)
        (fun ii vv _ => (match ii with | 0 => vv = .agg (arr .i64 16 (dg 65536 Y)) | 1 | 2 => vv = .tuple #[.agg (arr .i64 16 (H)), .bool ok] | 3 => vv = .agg (arr .i64 16 (H)) | 4 | 7 => vv = .bool ok | _ => True)) (fun _ _ => True) (fun _ _ _ => trivial) (fun _ _ _ _ _ _ _ => trivial) (fun _ _ _ _ h _ => h)
        (vs_al rfl) (vs_inj rfl) ?_ ?_ ?_ ?_
      · refine Each.all ?_
        refine ⟨?_, ?_, ?_, ?_, ?_, (fun h => by cases h), (fun _ h => by cases h), ?_, trivial⟩
        · intro _ _ a w2 hB hF hd
          rw [if_pos (wanted_none rfl)]
          exact flow_val (fun h => by cases h) (run_load_str rfl Tryz.underlying53 rfl Tryz.size53 (hF.same 5 rfl) (h5.below hB h5.lt)) rfl
        · intro _ _ a w2 hB hF hd
          rw [if_pos (wanted_none rfl)]
          refine flow_call _ _ _ rfl Tryz.call55 _ (args1 (hd 0 _ rfl rfl rfl (waits_spec rfl))) (by simp) ((HFST.out w2).mono ?_)
          rintro e w3 ⟨rfl, hb⟩; exact ⟨_, rfl, rfl, hb⟩
        · intro _ _ a w2 hB hF hd
          rw [if_pos (wanted_none rfl)]
          exact flow_move _ (.inl rfl) (by simp) (hd 1 _ rfl rfl rfl (waits_spec rfl))
        · intro _ _ a w2 hB hF hd
          rw [if_pos (wanted_none rfl)]
          exact flow_val (fun h => by cases h) (run_extract rfl (hd 2 _ rfl rfl rfl (waits_spec rfl)) rfl) rfl
        · intro _ _ a w2 hB hF hd
          rw [if_pos (wanted_none rfl)]
          exact flow_val (fun h => by cases h) (run_extract rfl (hd 2 _ rfl rfl rfl (waits_spec rfl)) rfl) rfl
        · intro _ _ a w2 hB hF hd
          rw [if_pos (wanted_none rfl)]
          exact flow_move _ (.inr rfl) (by simp) (hd 4 _ rfl rfl rfl (waits_spec rfl))
      · refine Each.all ?_
        refine ⟨(fun h => by cases h), (fun h => by cases h), (fun h => by cases h), (fun h => by cases h), (fun h => by cases h), ?_, (fun h => by cases h), (fun h => by cases h), trivial⟩
        · exact fun _ => ⟨rfl, rfl, fun a w2 K h => flow_alloc rfl rfl Tryz.zeroValue53 (by simp) h⟩
      · refine Each.all ?_
        refine ⟨(fun _ h => by cases h), (fun _ h => by cases h), (fun _ h => by cases h), (fun _ h => by cases h), (fun _ h => by cases h), (fun _ h => by cases h), ?_, (fun _ h => by cases h), trivial⟩
        · intro p hp
          obtain rfl : 5 = p := Option.some.inj hp
          exact ⟨rfl, rfl, ⟨_, rfl⟩, waits_spec rfl, fun a w2 b K hB hF hd hx hb h => flow_put rfl rfl Tryz.size53 hx (hd 3 _ rfl rfl rfl (waits_spec rfl)) hb h⟩
      · intro a w5 blk hB hF hS hv hfin hdis
        obtain ⟨v5, v5l, v5u⟩ := hv 5 _ rfl rfl
        have ha := puts_each rfl rfl hF [_, _, _, _, _, _, undef, _] rfl ⟨hS 0 _ rfl rfl rfl, hS 1 _ rfl rfl rfl, hS 2 _ rfl rfl rfl, hS 3 _ rfl rfl rfl, hS 4 _ rfl rfl rfl, v5, trivial, hS 7 _ rfl rfl rfl, trivial⟩
        have f5 := hfin 6 _ 5 rfl rfl
        simp only [puts, Act.put, List.setIfInBounds_toArray, List.set_cons_succ, List.set_cons_zero] at ha
        subst ha
        have V5 : Arr .i64 w5 (blk 5) 16 (H) := ⟨_, f5⟩
        clear hS hv hfin hdis hF v5 f5
        replace h1 := h1.kept hB
        replace h2 := h2.kept hB
        replace h5 := h5.kept hB
        replace hbel := hbel.trans (hB.mono hbel.size)
        obtain ⟨x6, e6⟩ : ∃ x, x = blk 5 := ⟨_, rfl⟩
        rw [← e6] at V5 v5l ⊢
        have h6 := V5
        have l6 : x5 < x6 := by omega
        clear hB v5l v5u V5 e6 hl5
        go_upto_region 5 with (fail)
        refine region_flow (n := 48) (by kernel_rfl) (by kernel_rfl) (by kernel_rfl) rfl
          (fun ii vv _ => (match ii with | 0 => vv = .agg (arr .i64 16 (H)) | 1 => vv = .agg (arr .i64 16 (smallF 0)) | 2 | 3 => vv = .bool ze | _ => True))
          (fun w w' => Below w.heap.size w w') (fun _ _ h => h) (fun _ _ _ _ h _ => h) ?_ ?_
        · refine Each.all ?_
          refine ⟨?_, ?_, ?_, ?_, trivial⟩
          · intro a w2 hB hF hd
            rw [if_pos (wanted_none rfl)]
            exact flow_val (fun h => by cases h) (run_load_str rfl Tryz.underlying53 rfl Tryz.size53 (hF.same 6 rfl) (h6.below hB h6.lt)) rfl
          · intro a w2 hB hF hd
            rw [if_pos (wanted_none rfl)]
            refine flow_call _ _ _ rfl Tryz.call52 _ (args1 rfl) (by simp) ((feSmall_any 0 w2).mono ?_)
            rintro e w3 ⟨rfl, hb⟩; exact ⟨_, rfl, rfl, hb⟩
          · intro a w2 hB hF hd
            rw [if_pos (wanted_none rfl)]
            refine flow_call _ _ _ rfl Tryz.call57 _ (args2 (hd 0 _ rfl (waits_spec rfl)) (hd 1 _ rfl (waits_spec rfl))) (by simp) ((HEQ.out w2).mono ?_)
            rintro e w3 ⟨rfl, hb⟩; exact ⟨_, rfl, rfl, hb⟩
          · intro a w2 hB hF hd
            rw [if_pos (wanted_none rfl)]
            exact flow_move _ (.inr rfl) (by simp) (hd 2 _ rfl (waits_spec rfl))
        · intro a w6 hB hF hS
          have ha := puts_each rfl rfl hF [_, _, _, _] rfl ⟨hS 0 _ rfl, hS 1 _ rfl, hS 2 _ rfl, hS 3 _ rfl, trivial⟩
          simp only [puts, Act.put, List.setIfInBounds_toArray, List.set_cons_succ, List.set_cons_zero] at ha
          subst ha
          clear hS hF
          replace h1 := h1.kept hB
          replace h2 := h2.kept hB
          replace h5 := h5.kept hB
          replace h6 := h6.kept hB
          replace hbel := hbel.trans (hB.mono hbel.size)
          clear hB
          go_upto_region 6 with (fail)
          cases ok
          case false =>
            refine region_flow (n := 48) (by kernel_rfl) (by kernel_rfl) (by kernel_rfl) rfl
              (fun ii vv _ => (match ii with | 0 => vv = .bool false | 1 | 2 | 7 | 8 | 13 => vv = .bool true | 3 | 4 | 5 | 6 | 9 | 10 | 11 | 12 => vv = undef | _ => True))
              (fun w w' => Below w.heap.size w w') (fun _ _ h => h) (fun _ _ _ _ h _ => h) ?_ ?_
            · refine Each.all ?_
              refine ⟨?_, ?_, ?_, ?_, ?_, ?_, ?_, ?_, ?_, ?_, ?_, ?_, ?_, ?_, trivial⟩
              · intro a w2 hB hF hd
                rw [if_pos (wanted_none rfl)]
                exact flow_move _ (.inl rfl) (by simp) (hF.same 7 rfl)
              · intro a w2 hB hF hd
                rw [if_pos (wanted_none rfl)]
                exact flow_val (fun h => by cases h) (run_not rfl (hd 0 _ rfl (waits_spec rfl))) rfl
              · intro a w2 hB hF hd
                rw [if_pos (wanted_none rfl)]
                exact flow_move _ (.inl rfl) (by simp) (hd 1 _ rfl (waits_spec rfl))
              · intro a w2 hB hF hd
                rw [if_neg (by rw [wanted_some rfl rfl (hd 2 _ rfl (waits_spec rfl))]; decide)]
                exact rfl
              · intro a w2 hB hF hd
                rw [if_neg (by rw [wanted_some rfl rfl (hd 2 _ rfl (waits_spec rfl))]; decide)]
                exact rfl
              · intro a w2 hB hF hd
                rw [if_neg (by rw [wanted_some rfl rfl (hd 2 _ rfl (waits_spec rfl))]; decide)]
                exact rfl
              · intro a w2 hB hF hd
                rw [if_neg (by rw [wanted_some rfl rfl (hd 2 _ rfl (waits_spec rfl))]; decide)]
                exact rfl
              · intro a w2 hB hF hd
                rw [if_pos (wanted_none rfl)]
                exact flow_val (fun h => by cases h) (run_pick rfl (hd 2 _ rfl (waits_spec rfl))) (rfl)
              · intro a w2 hB hF hd
                rw [if_pos (wanted_none rfl)]
                exact flow_move _ (.inl rfl) (by simp) (hd 7 _ rfl (waits_spec rfl))
              · intro a w2 hB hF hd
                rw [if_neg (by rw [wanted_some rfl rfl (hd 8 _ rfl (waits_spec rfl))]; decide)]
                exact rfl
              · intro a w2 hB hF hd
                rw [if_neg (by rw [wanted_some rfl rfl (hd 8 _ rfl (waits_spec rfl))]; decide)]
                exact rfl
              · intro a w2 hB hF hd
                rw [if_neg (by rw [wanted_undef rfl rfl (hd 10 _ rfl (waits_spec rfl))]; decide)]
                exact rfl
              · intro a w2 hB hF hd
                rw [if_neg (by rw [wanted_some rfl rfl (hd 8 _ rfl (waits_spec rfl))]; decide)]
                exact rfl
              · intro a w2 hB hF hd
                rw [if_pos (wanted_none rfl)]
                exact flow_val (fun h => by cases h) (run_pick rfl (hd 8 _ rfl (waits_spec rfl))) (rfl)
            · intro a w7 hB hF hS
              have ha := puts_each rfl rfl hF [_, _, _, _, _, _, _, _, _, _, _, _, _, _] rfl ⟨hS 0 _ rfl, hS 1 _ rfl, hS 2 _ rfl, hS 3 _ rfl, hS 4 _ rfl, hS 5 _ rfl, hS 6 _ rfl, hS 7 _ rfl, hS 8 _ rfl, hS 9 _ rfl, hS 10 _ rfl, hS 11 _ rfl, hS 12 _ rfl, hS 13 _ rfl, trivial⟩
              simp only [puts, Act.put, List.setIfInBounds_toArray, List.set_cons_succ, List.set_cons_zero] at ha
              subst ha
              clear hS hF
              replace h1 := h1.kept hB
              replace h2 := h2.kept hB
              replace h5 := h5.kept hB
              replace h6 := h6.kept hB
              replace hbel := hbel.trans (hB.mono hbel.size)
              clear hB
              go_wp2_with (first | (refine step_val rfl (run_built rfl (HP0.out _ _)) ?_) | (refine store_arr rfl 55 _ _ rfl .i64 (w.heap.size + 1) 64 (fun _ => 0) (fun _ => 0) Tryz.size55 rfl rfl h2 ?_))
              exact bodyPost_ret (results_str2 rfl _ _ .i64 (w.heap.size + 1) 64 (fun _ => 0) rfl (h2.setRow _ _) Tryz.underlying55 rfl Tryz.size55) rfl ⟨_, _, rfl, .inr ⟨rfl, rfl, fun hh => absurd (HOKd.out.1 hh).2.1 (by decide)⟩, below_setRow' hbel (by omega) _⟩
          case true =>
            cases lt
            case false =>
              refine region_flow (n := 48) (by kernel_rfl) (by kernel_rfl) (by kernel_rfl) rfl
                (fun ii vv _ => (match ii with | 0 | 6 | 7 | 8 | 13 => vv = .bool true | 1 | 2 => vv = .bool false | 3 => vv = .agg (arr .i64 16 (dg 65536 Y)) | 4 => vv = .agg (arr .u8 32 (dg 256 (Y % Pr))) | 5 => vv = .agg (arr .u8 32 (dg 256 Y)) | 9 | 10 | 11 | 12 => vv = undef | _ => True))
                (fun w w' => Below w.heap.size w w') (fun _ _ h => h) (fun _ _ _ _ h _ => h) ?_ ?_
              · refine Each.all ?_
                refine ⟨?_, ?_, ?_, ?_, ?_, ?_, ?_, ?_, ?_, ?_, ?_, ?_, ?_, ?_, trivial⟩
                · intro a w2 hB hF hd
                  rw [if_pos (wanted_none rfl)]
                  exact flow_move _ (.inl rfl) (by simp) (hF.same 7 rfl)
                · intro a w2 hB hF hd
                  rw [if_pos (wanted_none rfl)]
                  exact flow_val (fun h => by cases h) (run_not rfl (hd 0 _ rfl (waits_spec rfl))) rfl
                · intro a w2 hB hF hd
                  rw [if_pos (wanted_none rfl)]
                  exact flow_move _ (.inl rfl) (by simp) (hd 1 _ rfl (waits_spec rfl))
                · intro a w2 hB hF hd
                  refine flow_wanted (wanted_yes rfl rfl (hd 2 _ rfl (waits_spec rfl)) rfl) ?_
                  exact flow_val (fun h => by cases h) (run_load_str rfl Tryz.underlying53 rfl Tryz.size53 (hF.same 5 rfl) (h5.below hB h5.lt)) rfl
                · intro a w2 hB hF hd
                  refine flow_wanted (wanted_yes rfl rfl (hd 2 _ rfl (waits_spec rfl)) rfl) ?_
                  refine flow_call _ _ _ rfl Tryz.call63 _ (args1 (hd 3 _ rfl (waits_spec rfl))) (by simp) ((feBytes_any _ _ HF.out w2).mono ?_)
                  rintro e w3 ⟨rfl, hb⟩; exact ⟨_, rfl, rfl, hb⟩
                · intro a w2 hB hF hd
                  refine flow_wanted (wanted_yes rfl rfl (hd 2 _ rfl (waits_spec rfl)) rfl) ?_
                  exact flow_val (fun h => by cases h) (run_load_str rfl Tryz.underlying22 rfl Tryz.size22 (hF.same 1 rfl) (h1.below hB h1.lt)) rfl
                · intro a w2 hB hF hd
                  refine flow_wanted (wanted_yes rfl rfl (hd 2 _ rfl (waits_spec rfl)) rfl) ?_
                  exact flow_val (fun h => by cases h) (run_neq_arr false rfl (hd 4 _ rfl (waits_spec rfl)) (hd 5 _ rfl (waits_spec rfl)) Tryz.underlying22 (by kernel_rfl) (by kernel_rfl) (by kernel_rfl) (by kernel_rfl) (by kernel_rfl) HSL.out) rfl
                · intro a w2 hB hF hd
                  rw [if_pos (wanted_none rfl)]
                  exact flow_val (fun h => by cases h) (run_pick rfl (hd 2 _ rfl (waits_spec rfl))) ((hd 6 _ rfl (waits_spec rfl)))
                · intro a w2 hB hF hd
                  rw [if_pos (wanted_none rfl)]
                  exact flow_move _ (.inl rfl) (by simp) (hd 7 _ rfl (waits_spec rfl))
                · intro a w2 hB hF hd
                  rw [if_neg (by rw [wanted_some rfl rfl (hd 8 _ rfl (waits_spec rfl))]; decide)]
                  exact rfl
                · intro a w2 hB hF hd
                  rw [if_neg (by rw [wanted_some rfl rfl (hd 8 _ rfl (waits_spec rfl))]; decide)]
                  exact rfl
                · intro a w2 hB hF hd
                  rw [if_neg (by rw [wanted_undef rfl rfl (hd 10 _ rfl (waits_spec rfl))]; decide)]
                  exact rfl
                · intro a w2 hB hF hd
                  rw [if_neg (by rw [wanted_some rfl rfl (hd 8 _ rfl (waits_spec rfl))]; decide)]
                  exact rfl
                · intro a w2 hB hF hd
                  rw [if_pos (wanted_none rfl)]
                  exact flow_val (fun h => by cases h) (run_pick rfl (hd 8 _ rfl (waits_spec rfl))) (rfl)
              · intro a w7 hB hF hS
                have ha := puts_each rfl rfl hF [_, _, _, _, _, _, _, _, _, _, _, _, _, _] rfl ⟨hS 0 _ rfl, hS 1 _ rfl, hS 2 _ rfl, hS 3 _ rfl, hS 4 _ rfl, hS 5 _ rfl, hS 6 _ rfl, hS 7 _ rfl, hS 8 _ rfl, hS 9 _ rfl, hS 10 _ rfl, hS 11 _ rfl, hS 12 _ rfl, hS 13 _ rfl, trivial⟩
                simp only [puts, Act.put, List.setIfInBounds_toArray, List.set_cons_succ, List.set_cons_zero] at ha
                subst ha
                clear hS hF
                replace h1 := h1.kept hB
                replace h2 := h2.kept hB
                replace h5 := h5.kept hB
                replace h6 := h6.kept hB
                replace hbel := hbel.trans (hB.mono hbel.size)
                clear hB
                go_wp2_with (first | (refine step_val rfl (run_built rfl (HP0.out _ _)) ?_) | (refine store_arr rfl 55 _ _ rfl .i64 (w.heap.size + 1) 64 (fun _ => 0) (fun _ => 0) Tryz.size55 rfl rfl h2 ?_))
                exact bodyPost_ret (results_str2 rfl _ _ .i64 (w.heap.size + 1) 64 (fun _ => 0) rfl (h2.setRow _ _) Tryz.underlying55 rfl Tryz.size55) rfl ⟨_, _, rfl, .inr ⟨rfl, rfl, fun hh => absurd (HOKd.out.1 hh).1 (of_decide_eq_false HLT.out.symm)⟩, below_setRow' hbel (by omega) _⟩
            case true =>
              cases ze
              case true =>
                have HRZ : Hid (R % Pr = 0) := by
                  have h : R % Pr = 0 % Pr := of_decide_eq_true HZE.out.symm
                  rw [show (0 : Int) % Pr = 0 by decide] at h
                  exact h
                cases od
                case true =>
                  refine region_flow (n := 48) (by kernel_rfl) (by kernel_rfl) (by kernel_rfl) rfl
                    (fun ii vv _ => (match ii with | 0 | 9 | 10 | 11 | 12 | 13 => vv = .bool true | 1 | 2 | 6 | 7 | 8 => vv = .bool false | 3 => vv = .agg (arr .i64 16 (dg 65536 Y)) | 4 => vv = .agg (arr .u8 32 (dg 256 (Y % Pr))) | 5 => vv = .agg (arr .u8 32 (dg 256 Y)) | _ => True))
                    (fun w w' => Below w.heap.size w w') (fun _ _ h => h) (fun _ _ _ _ h _ => h) ?_ ?_
                  · refine Each.all ?_
                    refine ⟨?_, ?_, ?_, ?_, ?_, ?_, ?_, ?_, ?_, ?_, ?_, ?_, ?_, ?_, trivial⟩
                    · intro a w2 hB hF hd
                      rw [if_pos (wanted_none rfl)]
                      exact flow_move _ (.inl rfl) (by simp) (hF.same 7 rfl)
                    · intro a w2 hB hF hd
                      rw [if_pos (wanted_none rfl)]
                      exact flow_val (fun h => by cases h) (run_not rfl (hd 0 _ rfl (waits_spec rfl))) rfl
                    · intro a w2 hB hF hd
                      rw [if_pos (wanted_none rfl)]
                      exact flow_move _ (.inl rfl) (by simp) (hd 1 _ rfl (waits_spec rfl))
                    · intro a w2 hB hF hd
                      refine flow_wanted (wanted_yes rfl rfl (hd 2 _ rfl (waits_spec rfl)) rfl) ?_
                      exact flow_val (fun h => by cases h) (run_load_str rfl Tryz.underlying53 rfl Tryz.size53 (hF.same 5 rfl) (h5.below hB h5.lt)) rfl
                    · intro a w2 hB hF hd
                      refine flow_wanted (wanted_yes rfl rfl (hd 2 _ rfl (waits_spec rfl)) rfl) ?_
                      refine flow_call _ _ _ rfl Tryz.call63 _ (args1 (hd 3 _ rfl (waits_spec rfl))) (by simp) ((feBytes_any _ _ HF.out w2).mono ?_)
                      rintro e w3 ⟨rfl, hb⟩; exact ⟨_, rfl, rfl, hb⟩
                    · intro a w2 hB hF hd
                      refine flow_wanted (wanted_yes rfl rfl (hd 2 _ rfl (waits_spec rfl)) rfl) ?_
                      exact flow_val (fun h => by cases h) (run_load_str rfl Tryz.underlying22 rfl Tryz.size22 (hF.same 1 rfl) (h1.below hB h1.lt)) rfl
                    · intro a w2 hB hF hd
                      refine flow_wanted (wanted_yes rfl rfl (hd 2 _ rfl (waits_spec rfl)) rfl) ?_
                      exact flow_val (fun h => by cases h) (run_neq_arr true rfl (hd 4 _ rfl (waits_spec rfl)) (hd 5 _ rfl (waits_spec rfl)) Tryz.underlying22 (by kernel_rfl) (by kernel_rfl) (by kernel_rfl) (by kernel_rfl) (by kernel_rfl) HSL.out) rfl
                    · intro a w2 hB hF hd
                      rw [if_pos (wanted_none rfl)]
                      exact flow_val (fun h => by cases h) (run_pick rfl (hd 2 _ rfl (waits_spec rfl))) ((hd 6 _ rfl (waits_spec rfl)))
                    · intro a w2 hB hF hd
                      rw [if_pos (wanted_none rfl)]
                      exact flow_move _ (.inl rfl) (by simp) (hd 7 _ rfl (waits_spec rfl))
                    · intro a w2 hB hF hd
                      refine flow_wanted (wanted_yes rfl rfl (hd 8 _ rfl (waits_spec rfl)) rfl) ?_
                      exact flow_move _ (.inl rfl) (by simp) (hF.same 8 rfl)
                    · intro a w2 hB hF hd
                      refine flow_wanted (wanted_yes rfl rfl (hd 8 _ rfl (waits_spec rfl)) rfl) ?_
                      exact flow_move _ (.inl rfl) (by simp) (hd 9 _ rfl (waits_spec rfl))
                    · intro a w2 hB hF hd
                      refine flow_wanted (wanted_yes rfl rfl (hd 10 _ rfl (waits_spec rfl)) rfl) ?_
                      exact flow_move _ (.inl rfl) (by simp) (hF.same 4 rfl)
                    · intro a w2 hB hF hd
                      refine flow_wanted (wanted_yes rfl rfl (hd 8 _ rfl (waits_spec rfl)) rfl) ?_
                      exact flow_val (fun h => by cases h) (run_pick rfl (hd 10 _ rfl (waits_spec rfl))) ((hd 11 _ rfl (waits_spec rfl)))
                    · intro a w2 hB hF hd
                      rw [if_pos (wanted_none rfl)]
                      exact flow_val (fun h => by cases h) (run_pick rfl (hd 8 _ rfl (waits_spec rfl))) ((hd 12 _ rfl (waits_spec rfl)))
                  · intro a w7 hB hF hS
                    have ha := puts_each rfl rfl hF [_, _, _, _, _, _, _, _, _, _, _, _, _, _] rfl ⟨hS 0 _ rfl, hS 1 _ rfl, hS 2 _ rfl, hS 3 _ rfl, hS 4 _ rfl, hS 5 _ rfl, hS 6 _ rfl, hS 7 _ rfl, hS 8 _ rfl, hS 9 _ rfl, hS 10 _ rfl, hS 11 _ rfl, hS 12 _ rfl, hS 13 _ rfl, trivial⟩
                    simp only [puts, Act.put, List.setIfInBounds_toArray, List.set_cons_succ, List.set_cons_zero] at ha
                    subst ha
                    clear hS hF
                    replace h1 := h1.kept hB
                    replace h2 := h2.kept hB
                    replace h5 := h5.kept hB
                    replace h6 := h6.kept hB
                    replace hbel := hbel.trans (hB.mono hbel.size)
                    clear hB
                    go_wp2_with (first | (refine step_val rfl (run_built rfl (HP0.out _ _)) ?_) | (refine store_arr rfl 55 _ _ rfl .i64 (w.heap.size + 1) 64 (fun _ => 0) (fun _ => 0) Tryz.size55 rfl rfl h2 ?_))
                    exact bodyPost_ret (results_str2 rfl _ _ .i64 (w.heap.size + 1) 64 (fun _ => 0) rfl (h2.setRow _ _) Tryz.underlying55 rfl Tryz.size55) rfl ⟨_, _, rfl, .inr ⟨rfl, rfl, fun hh => (HOKd.out.1 hh).2.2 ⟨(root_zero (HRT.out (by trivial)).1).1 HRZ.out, of_decide_eq_true HOD.out.symm⟩⟩, below_setRow' hbel (by omega) _⟩
                case false =>
                  have HNZ : Hid (¬ (R % Pr = 0 ∧ A / 2 ^ 255 = 1)) := fun h => of_decide_eq_false HOD.out.symm h.2
                  refine region_flow (n := 48) (by kernel_rfl) (by kernel_rfl) (by kernel_rfl) rfl
                    (fun ii vv _ => (match ii with | 0 | 9 | 10 => vv = .bool true | 1 | 2 | 6 | 7 | 8 | 11 | 12 | 13 => vv = .bool false | 3 => vv = .agg (arr .i64 16 (dg 65536 Y)) | 4 => vv = .agg (arr .u8 32 (dg 256 (Y % Pr))) | 5 => vv = .agg (arr .u8 32 (dg 256 Y)) | _ => True))
                    (fun w w' => Below w.heap.size w w') (fun _ _ h => h) (fun _ _ _ _ h _ => h) ?_ ?_
                  · refine Each.all ?_
                    refine ⟨?_, ?_, ?_, ?_, ?_, ?_, ?_, ?_, ?_, ?_, ?_, ?_, ?_, ?_, trivial⟩
                    · intro a w2 hB hF hd
                      rw [if_pos (wanted_none rfl)]
                      exact flow_move _ (.inl rfl) (by simp) (hF.same 7 rfl)
                    · intro a w2 hB hF hd
                      rw [if_pos (wanted_none rfl)]
                      exact flow_val (fun h => by cases h) (run_not rfl (hd 0 _ rfl (waits_spec rfl))) rfl
                    · intro a w2 hB hF hd
                      rw [if_pos (wanted_none rfl)]
                      exact flow_move _ (.inl rfl) (by simp) (hd 1 _ rfl (waits_spec rfl))
                    · intro a w2 hB hF hd
                      refine flow_wanted (wanted_yes rfl rfl (hd 2 _ rfl (waits_spec rfl)) rfl) ?_
                      exact flow_val (fun h => by cases h) (run_load_str rfl Tryz.underlying53 rfl Tryz.size53 (hF.same 5 rfl) (h5.below hB h5.lt)) rfl
                    · intro a w2 hB hF hd
                      refine flow_wanted (wanted_yes rfl rfl (hd 2 _ rfl (waits_spec rfl)) rfl) ?_
                      refine flow_call _ _ _ rfl Tryz.call63 _ (args1 (hd 3 _ rfl (waits_spec rfl))) (by simp) ((feBytes_any _ _ HF.out w2).mono ?_)
                      rintro e w3 ⟨rfl, hb⟩; exact ⟨_, rfl, rfl, hb⟩
                    · intro a w2 hB hF hd
                      refine flow_wanted (wanted_yes rfl rfl (hd 2 _ rfl (waits_spec rfl)) rfl) ?_
                      exact flow_val (fun h => by cases h) (run_load_str rfl Tryz.underlying22 rfl Tryz.size22 (hF.same 1 rfl) (h1.below hB h1.lt)) rfl
                    · intro a w2 hB hF hd
                      refine flow_wanted (wanted_yes rfl rfl (hd 2 _ rfl (waits_spec rfl)) rfl) ?_
                      exact flow_val (fun h => by cases h) (run_neq_arr true rfl (hd 4 _ rfl (waits_spec rfl)) (hd 5 _ rfl (waits_spec rfl)) Tryz.underlying22 (by kernel_rfl) (by kernel_rfl) (by kernel_rfl) (by kernel_rfl) (by kernel_rfl) HSL.out) rfl
                    · intro a w2 hB hF hd
                      rw [if_pos (wanted_none rfl)]
                      exact flow_val (fun h => by cases h) (run_pick rfl (hd 2 _ rfl (waits_spec rfl))) ((hd 6 _ rfl (waits_spec rfl)))
                    · intro a w2 hB hF hd
                      rw [if_pos (wanted_none rfl)]
                      exact flow_move _ (.inl rfl) (by simp) (hd 7 _ rfl (waits_spec rfl))
                    · intro a w2 hB hF hd
                      refine flow_wanted (wanted_yes rfl rfl (hd 8 _ rfl (waits_spec rfl)) rfl) ?_
                      exact flow_move _ (.inl rfl) (by simp) (hF.same 8 rfl)
                    · intro a w2 hB hF hd
                      refine flow_wanted (wanted_yes rfl rfl (hd 8 _ rfl (waits_spec rfl)) rfl) ?_
                      exact flow_move _ (.inl rfl) (by simp) (hd 9 _ rfl (waits_spec rfl))
                    · intro a w2 hB hF hd
                      refine flow_wanted (wanted_yes rfl rfl (hd 10 _ rfl (waits_spec rfl)) rfl) ?_
                      exact flow_move _ (.inl rfl) (by simp) (hF.same 4 rfl)
                    · intro a w2 hB hF hd
                      refine flow_wanted (wanted_yes rfl rfl (hd 8 _ rfl (waits_spec rfl)) rfl) ?_
                      exact flow_val (fun h => by cases h) (run_pick rfl (hd 10 _ rfl (waits_spec rfl))) ((hd 11 _ rfl (waits_spec rfl)))
                    · intro a w2 hB hF hd
                      rw [if_pos (wanted_none rfl)]
                      exact flow_val (fun h => by cases h) (run_pick rfl (hd 8 _ rfl (waits_spec rfl))) ((hd 12 _ rfl (waits_spec rfl)))
                  · intro a w7 hB hF hS
                    have ha := puts_each rfl rfl hF [_, _, _, _, _, _, _, _, _, _, _, _, _, _] rfl ⟨hS 0 _ rfl, hS 1 _ rfl, hS 2 _ rfl, hS 3 _ rfl, hS 4 _ rfl, hS 5 _ rfl, hS 6 _ rfl, hS 7 _ rfl, hS 8 _ rfl, hS 9 _ rfl, hS 10 _ rfl, hS 11 _ rfl, hS 12 _ rfl, hS 13 _ rfl, trivial⟩
                    simp only [puts, Act.put, List.setIfInBounds_toArray, List.set_cons_succ, List.set_cons_zero] at ha
                    subst ha
                    clear hS hF
                    replace h1 := h1.kept hB
                    replace h2 := h2.kept hB
                    replace h5 := h5.kept hB
                    replace h6 := h6.kept hB
                    replace hbel := hbel.trans (hB.mono hbel.size)
                    clear hB
                    go_wp2_with (first | (refine load_str rfl 53 _ rfl .i64 x6 16 H Tryz.underlying53 rfl Tryz.size53 rfl h6 ?_) | (refine load_str rfl 53 _ rfl .i64 x5 16 (dg 65536 Y) Tryz.underlying53 rfl Tryz.size53 rfl h5 ?_))
                    refine (pnMade_any H (dg 65536 Y) (R) Y HFH.out HF.out _).mono ?_
                    rintro e wm ⟨rfl, hb⟩
                    replace h2 := h2.kept hb
                    replace hbel := hbel.trans (hb.mono hbel.size)
                    clear hb
                    go_wp2_with (refine store_arr rfl 55 _ _ rfl .i64 (w.heap.size + 1) 64 (fun _ => 0) (pt H (dg 65536 Y) (smallF 1) (mulF H (dg 65536 Y))) Tryz.size55 rfl rfl h2 ?_)
                    have hz : ¬ (R % Pr = 0 ∧ A / 2 ^ 255 = 1) := HNZ.out
                    obtain ⟨hr2, hr3⟩ := HRT.out (by trivial)
                    obtain ⟨p, hx, hy, hbn⟩ := HB.out R (of_decide_eq_true HLT.out.symm) hr2 hr3 hz
                    rw [if_neg (of_decide_eq_false HOD.out.symm)] at hx
                    exact bodyPost_ret (results_str2 rfl _ _ .i64 (w.heap.size + 1) 64 (pt H (dg 65536 Y) (smallF 1) (mulF H (dg 65536 Y))) rfl (h2.setRow _ _) Tryz.underlying55 rfl Tryz.size55) rfl ⟨_, _, rfl, .inl ⟨rfl, HOKd.out.2 ⟨of_decide_eq_true HLT.out.symm, (by trivial), fun h => hz ⟨(root_zero hr2).2 h.1, h.2⟩⟩, p, ⟨_, rfl, made_pf HFH.out HF.out hx hy⟩, hbn⟩, below_setRow' hbel (by omega) _⟩
              case false =>
                have HNZ : Hid (¬ (R % Pr = 0 ∧ A / 2 ^ 255 = 1)) := fun h => of_decide_eq_false HZE.out.symm h.1
                refine region_flow (n := 48) (by kernel_rfl) (by kernel_rfl) (by kernel_rfl) rfl
                  (fun ii vv _ => (match ii with | 0 => vv = .bool true | 1 | 2 | 6 | 7 | 8 | 9 | 10 | 12 | 13 => vv = .bool false | 3 => vv = .agg (arr .i64 16 (dg 65536 Y)) | 4 => vv = .agg (arr .u8 32 (dg 256 (Y % Pr))) | 5 => vv = .agg (arr .u8 32 (dg 256 Y)) | 11 => vv = undef | _ => True))
                  (fun w w' => Below w.heap.size w w') (fun _ _ h => h) (fun _ _ _ _ h _ => h) ?_ ?_
                · refine Each.all ?_
                  refine ⟨?_, ?_, ?_, ?_, ?_, ?_, ?_, ?_, ?_, ?_, ?_, ?_, ?_, ?_, trivial⟩
                  · intro a w2 hB hF hd
                    rw [if_pos (wanted_none rfl)]
                    exact flow_move _ (.inl rfl) (by simp) (hF.same 7 rfl)
                  · intro a w2 hB hF hd
                    rw [if_pos (wanted_none rfl)]
                    exact flow_val (fun h => by cases h) (run_not rfl (hd 0 _ rfl (waits_spec rfl))) rfl
                  · intro a w2 hB hF hd
                    rw [if_pos (wanted_none rfl)]
                    exact flow_move _ (.inl rfl) (by simp) (hd 1 _ rfl (waits_spec rfl))
                  · intro a w2 hB hF hd
                    refine flow_wanted (wanted_yes rfl rfl (hd 2 _ rfl (waits_spec rfl)) rfl) ?_
                    exact flow_val (fun h => by cases h) (run_load_str rfl Tryz.underlying53 rfl Tryz.size53 (hF.same 5 rfl) (h5.below hB h5.lt)) rfl
                  · intro a w2 hB hF hd
                    refine flow_wanted (wanted_yes rfl rfl (hd 2 _ rfl (waits_spec rfl)) rfl) ?_
                    refine flow_call _ _ _ rfl Tryz.call63 _ (args1 (hd 3 _ rfl (waits_spec rfl))) (by simp) ((feBytes_any _ _ HF.out w2).mono ?_)
                    rintro e w3 ⟨rfl, hb⟩; exact ⟨_, rfl, rfl, hb⟩
                  · intro a w2 hB hF hd
                    refine flow_wanted (wanted_yes rfl rfl (hd 2 _ rfl (waits_spec rfl)) rfl) ?_
                    exact flow_val (fun h => by cases h) (run_load_str rfl Tryz.underlying22 rfl Tryz.size22 (hF.same 1 rfl) (h1.below hB h1.lt)) rfl
                  · intro a w2 hB hF hd
                    refine flow_wanted (wanted_yes rfl rfl (hd 2 _ rfl (waits_spec rfl)) rfl) ?_
                    exact flow_val (fun h => by cases h) (run_neq_arr true rfl (hd 4 _ rfl (waits_spec rfl)) (hd 5 _ rfl (waits_spec rfl)) Tryz.underlying22 (by kernel_rfl) (by kernel_rfl) (by kernel_rfl) (by kernel_rfl) (by kernel_rfl) HSL.out) rfl
                  · intro a w2 hB hF hd
                    rw [if_pos (wanted_none rfl)]
                    exact flow_val (fun h => by cases h) (run_pick rfl (hd 2 _ rfl (waits_spec rfl))) ((hd 6 _ rfl (waits_spec rfl)))
                  · intro a w2 hB hF hd
                    rw [if_pos (wanted_none rfl)]
                    exact flow_move _ (.inl rfl) (by simp) (hd 7 _ rfl (waits_spec rfl))
                  · intro a w2 hB hF hd
                    refine flow_wanted (wanted_yes rfl rfl (hd 8 _ rfl (waits_spec rfl)) rfl) ?_
                    exact flow_move _ (.inl rfl) (by simp) (hF.same 8 rfl)
                  · intro a w2 hB hF hd
                    refine flow_wanted (wanted_yes rfl rfl (hd 8 _ rfl (waits_spec rfl)) rfl) ?_
                    exact flow_move _ (.inl rfl) (by simp) (hd 9 _ rfl (waits_spec rfl))
                  · intro a w2 hB hF hd
                    rw [if_neg (by rw [wanted_some rfl rfl (hd 10 _ rfl (waits_spec rfl))]; decide)]
                    exact rfl
                  · intro a w2 hB hF hd
                    refine flow_wanted (wanted_yes rfl rfl (hd 8 _ rfl (waits_spec rfl)) rfl) ?_
                    exact flow_val (fun h => by cases h) (run_pick rfl (hd 10 _ rfl (waits_spec rfl))) (rfl)
                  · intro a w2 hB hF hd
                    rw [if_pos (wanted_none rfl)]
                    exact flow_val (fun h => by cases h) (run_pick rfl (hd 8 _ rfl (waits_spec rfl))) ((hd 12 _ rfl (waits_spec rfl)))
                · intro a w7 hB hF hS
                  have ha := puts_each rfl rfl hF [_, _, _, _, _, _, _, _, _, _, _, _, _, _] rfl ⟨hS 0 _ rfl, hS 1 _ rfl, hS 2 _ rfl, hS 3 _ rfl, hS 4 _ rfl, hS 5 _ rfl, hS 6 _ rfl, hS 7 _ rfl, hS 8 _ rfl, hS 9 _ rfl, hS 10 _ rfl, hS 11 _ rfl, hS 12 _ rfl, hS 13 _ rfl, trivial⟩
                  simp only [puts, Act.put, List.setIfInBounds_toArray, List.set_cons_succ, List.set_cons_zero] at ha
                  subst ha
                  clear hS hF
                  replace h1 := h1.kept hB
                  replace h2 := h2.kept hB
                  replace h5 := h5.kept hB
                  replace h6 := h6.kept hB
                  replace hbel := hbel.trans (hB.mono hbel.size)
                  clear hB
                  cases od
                  case true =>
                    go_wp2_with (refine load_str rfl 53 _ rfl .i64 x6 16 H Tryz.underlying53 rfl Tryz.size53 rfl h6 ?_)
                    refine (feNeg_any _ _ HFH.out _).mono ?_
                    rintro e wn ⟨rfl, hb⟩
                    replace h2 := h2.kept hb
                    replace h5 := h5.kept hb
                    replace h6 := h6.kept hb
                    replace hbel := hbel.trans (hb.mono hbel.size)
                    clear hb
                    go_upto_region 10 with (refine store_arr rfl 53 _ _ rfl .i64 x6 16 H (negF H) Tryz.size53 rfl rfl h6 ?_)
                    refine wp_world (fun w9 => Arr .i64 w9 (w.heap.size + 1) 64 (fun _ => 0) ∧ Arr .i64 w9 x5 16 (dg 65536 Y) ∧ Arr .i64 w9 x6 16 (negF H) ∧ Below w.heap.size w w9) ⟨h2.setRowOther _ (by omega) _, h5.setRowOther _ (by omega) _, h6.setRow _ _, below_setRow' hbel (by omega) _⟩ ?_
                    clear h1 h2 h5 h6 hbel
                    rintro w9 ⟨h2, h5, h6, hbel⟩
                    try simp only [Act.put, List.setIfInBounds_toArray, List.set_cons_succ, List.set_cons_zero]
                    go_wp2_with (first | (refine load_str rfl 53 _ rfl .i64 x6 16 (negF H) Tryz.underlying53 rfl Tryz.size53 rfl h6 ?_) | (refine load_str rfl 53 _ rfl .i64 x5 16 (dg 65536 Y) Tryz.underlying53 rfl Tryz.size53 rfl h5 ?_))
                    refine (pnMade_any (negF H) (dg 65536 Y) (-R) Y HFH.out.negF HF.out _).mono ?_
                    rintro e wm ⟨rfl, hb⟩
                    replace h2 := h2.kept hb
                    replace hbel := hbel.trans (hb.mono hbel.size)
                    clear hb
                    go_wp2_with (refine store_arr rfl 55 _ _ rfl .i64 (w.heap.size + 1) 64 (fun _ => 0) (pt (negF H) (dg 65536 Y) (smallF 1) (mulF (negF H) (dg 65536 Y))) Tryz.size55 rfl rfl h2 ?_)
                    have hz : ¬ (R % Pr = 0 ∧ A / 2 ^ 255 = 1) := HNZ.out
                    obtain ⟨hr2, hr3⟩ := HRT.out (by trivial)
                    obtain ⟨p, hx, hy, hbn⟩ := HB.out R (of_decide_eq_true HLT.out.symm) hr2 hr3 hz
                    rw [if_pos (of_decide_eq_true HOD.out.symm)] at hx
                    exact bodyPost_ret (results_str2 rfl _ _ .i64 (w.heap.size + 1) 64 (pt (negF H) (dg 65536 Y) (smallF 1) (mulF (negF H) (dg 65536 Y))) rfl (h2.setRow _ _) Tryz.underlying55 rfl Tryz.size55) rfl ⟨_, _, rfl, .inl ⟨rfl, HOKd.out.2 ⟨of_decide_eq_true HLT.out.symm, (by trivial), fun h => hz ⟨(root_zero hr2).2 h.1, h.2⟩⟩, p, ⟨_, rfl, made_pf HFH.out.negF HF.out hx hy⟩, hbn⟩, below_setRow' hbel (by omega) _⟩
                  case false =>
                    go_wp2_with (first | (refine load_str rfl 53 _ rfl .i64 x6 16 H Tryz.underlying53 rfl Tryz.size53 rfl h6 ?_) | (refine load_str rfl 53 _ rfl .i64 x5 16 (dg 65536 Y) Tryz.underlying53 rfl Tryz.size53 rfl h5 ?_))
                    refine (pnMade_any H (dg 65536 Y) (R) Y HFH.out HF.out _).mono ?_
                    rintro e wm ⟨rfl, hb⟩
                    replace h2 := h2.kept hb
                    replace hbel := hbel.trans (hb.mono hbel.size)
                    clear hb
                    go_wp2_with (refine store_arr rfl 55 _ _ rfl .i64 (w.heap.size + 1) 64 (fun _ => 0) (pt H (dg 65536 Y) (smallF 1) (mulF H (dg 65536 Y))) Tryz.size55 rfl rfl h2 ?_)
                    have hz : ¬ (R % Pr = 0 ∧ A / 2 ^ 255 = 1) := HNZ.out
                    obtain ⟨hr2, hr3⟩ := HRT.out (by trivial)
                    obtain ⟨p, hx, hy, hbn⟩ := HB.out R (of_decide_eq_true HLT.out.symm) hr2 hr3 hz
                    rw [if_neg (of_decide_eq_false HOD.out.symm)] at hx
                    exact bodyPost_ret (results_str2 rfl _ _ .i64 (w.heap.size + 1) 64 (pt H (dg 65536 Y) (smallF 1) (mulF H (dg 65536 Y))) rfl (h2.setRow _ _) Tryz.underlying55 rfl Tryz.size55) rfl ⟨_, _, rfl, .inl ⟨rfl, HOKd.out.2 ⟨of_decide_eq_true HLT.out.symm, (by trivial), fun h => hz ⟨(root_zero hr2).2 h.1, h.2⟩⟩, p, ⟨_, rfl, made_pf HFH.out HF.out hx hy⟩, hbn⟩, below_setRow' hbel (by omega) _⟩
end Go.Proofs.YtdhejcaapdhhfaaGreat

namespace Go.Bas
/-- the curve's number, a natural number below the prime. -/
def dNum : Nat := 37095705934669439343138083508754565189542113879843219016388785533085940283555
theorem toF_dNum : toF (dNum : Int) = dE := by
  have h : Cg ((dNum : Int) * 121666) (-121665) := by unfold Cg; decide +kernel
  have h2 := toF_eq.2 h
  rw [toF_mul, toF_neg] at h2
  exact fp_cancel (toF_nz.2 (by decide)) (h2.trans dE_eq.symm)
/-- the sum, reckoned. -/
def nR (x y z u v r : Nat) : Nat × Nat × Nat :=
  let w := nM z r
  let c := nM x u
  let e := nM y v
  let ww := nM w w
  let f := nM dNum (nM c e)
  let l := nS ww f
  let m := nA ww f
  let k := nS (nS (nM (nA x y) (nA u v)) c) e
  (nM w (nM l k), nM w (nM m (nA e c)), nM l m)
/-- three natural numbers are a point's. -/
def SRep (x y z : Nat) (p : Ed C7) : Prop := ∃ X Y Z, Stands x X ∧ Stands y Y ∧ Stands z Z ∧ RRep X Y Z p
theorem SRep.add {x y z u v r : Nat} {p q : Ed C7} (hp : SRep x y z p) (hq : SRep u v r q) : SRep (nR x y z u v r).1 (nR x y z u v r).2.1 (nR x y z u v r).2.2 (p.add q) := by
  obtain ⟨X, Y, Z, hx, hy, hz, h1⟩ := hp
  obtain ⟨U, V, R, hu, hv, hr, h2⟩ := hq
  have hd : Stands dNum dNum := ⟨by decide, rfl⟩
  have w := hz.mul hr
  have c := hx.mul hu
  have e := hy.mul hv
  have f := hd.mul (c.mul e)
  have l := (w.mul w).sub f
  have m := (w.mul w).add f
  have k := (((hx.add hy).mul (hu.add hv)).sub c).sub e
  exact ⟨_, _, _, w.mul (l.mul k), w.mul (m.mul (e.add c)), l.mul m, h1.add h2 toF_dNum⟩
def bX : Nat := 15112221349535400772501151409588531511454012693041857206046113283949847762202
def bY : Nat := 46316835694926478169428394003475163141307993866256225615783033603165251855960
theorem SRep.base : SRep bX bY 1 Bp := by
  refine ⟨BX, BY, 1, ⟨by decide, rfl⟩, ⟨by decide, rfl⟩, ⟨by decide, rfl⟩, ?_, ?_, ?_⟩
  · rw [toF_one]; exact fp_one_ne
  · rw [toF_one]; show toF BX = toF BX * 1; generalize toF BX = x; grind
  · rw [toF_one]; show toF BY = toF BY * 1; generalize toF BY = x; grind
def ordE (n : Nat) : Nat → Nat → Nat → Nat → Nat × Nat × Nat
  | 0, x, y, z => (x, y, z)
  | k + 1, x, y, z => if n / 2 ^ k % 2 = 1 then ordE n k (nR (nR x y z x y z).1 (nR x y z x y z).2.1 (nR x y z x y z).2.2 bX bY 1).1 (nR (nR x y z x y z).1 (nR x y z x y z).2.1 (nR x y z x y z).2.2 bX bY 1).2.1 (nR (nR x y z x y z).1 (nR x y z x y z).2.1 (nR x y z x y z).2.2 bX bY 1).2.2 else ordE n k (nR x y z x y z).1 (nR x y z x y z).2.1 (nR x y z x y z).2.2
theorem SRep.ord {n : Nat} : ∀ (k x y z : Nat), SRep x y z (Bp.mul (n / 2 ^ k)) → SRep (ordE n k x y z).1 (ordE n k x y z).2.1 (ordE n k x y z).2.2 (Bp.mul n)
  | 0, _, _, _, h => by rw [Nat.pow_zero, Nat.div_one] at h; exact h
  | k + 1, x, y, z, h => by
    unfold ordE
    have h2 := h.add h
    rw [← Ed.mul_add] at h2
    have hq : n / 2 ^ (k + 1) = n / 2 ^ k / 2 := by rw [Nat.pow_succ, Nat.div_div_eq_div_mul]
    by_cases hb : n / 2 ^ k % 2 = 1
    · rw [if_pos hb]
      have h3 := h2.add SRep.base
      rw [show (Bp.mul (n / 2 ^ (k + 1) + n / 2 ^ (k + 1))).add Bp = Bp.mul (n / 2 ^ k) by
        rw [← show Bp.mul (n / 2 ^ (k + 1) + n / 2 ^ (k + 1) + 1) = (Bp.mul (n / 2 ^ (k + 1) + n / 2 ^ (k + 1))).add Bp from by rw [Ed.mul_add, Ed.mul_one], show n / 2 ^ (k + 1) + n / 2 ^ (k + 1) + 1 = n / 2 ^ k by omega]] at h3
      exact SRep.ord k _ _ _ h3
    · rw [if_neg hb]
      rw [show n / 2 ^ (k + 1) + n / 2 ^ (k + 1) = n / 2 ^ k by omega] at h2
      exact SRep.ord k _ _ _ h2
def ordN : Nat := 2 ^ 252 + 27742317777372353535851937790883648493
theorem ord_reckoned : (ordE ordN 253 0 1 1).1 = 0 ∧ (ordE ordN 253 0 1 1).2.1 = (ordE ordN 253 0 1 1).2.2 := by decide +kernel
theorem SRep.zero : SRep 0 1 1 .zero := ⟨0, 1, 1, ⟨by decide, rfl⟩, ⟨by decide, rfl⟩, ⟨by decide, rfl⟩, RRep.zero⟩
/-- the order times the base is nought. -/
theorem base_order : Bp.mul ordN = .zero := by
  have h := SRep.ord (n := ordN) 253 0 1 1 (by rw [show ordN / 2 ^ 253 = 0 by decide]; exact SRep.zero)
  obtain ⟨X, Y, Z, hx, hy, hz, h0, h1, h2⟩ := h
  rw [ord_reckoned.1] at hx
  rw [ord_reckoned.2] at hy
  have ex : toF X = 0 := by rw [← toF_zero]; exact toF_eq.2 hx.2.symm
  have ey : toF Y = toF Z := toF_eq.2 (hy.2.symm.trans hz.2)
  rw [ex] at h1
  rw [ey] at h2
  refine Ed.ext ?_ ?_
  · refine fp_cancel h0 ?_
    rw [← h1]; show (0 : Fp) = 0 * toF Z; generalize toF Z = t; grind
  · refine fp_cancel h0 ?_
    rw [← h2]; show toF Z = 1 * toF Z; generalize toF Z = t; grind
end Go.Bas
