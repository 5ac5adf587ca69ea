/-
  Part 29 of the texts that the proof of SignSigns rests on, one after the other. Conditions: named in each theorem.
-/
import Derived.Test.YtdhejcaapdhhfaaGreatPkSignSigns16
import Derived.Test.YtdhejcaapdhhfaaGreatPkSignSigns15
import Derived.Test.YtdhejcaapdhhfaaGreatPkSignSigns10
import Derived.Test.YtdhejcaapdhhfaaGreatPkSignSigns1
import Derived.Test.YtdhejcaapdhhfaaGreatPkSignSigns3
import Derived.Test.YtdhejcaapdhhfaaGreatPkSignSigns2
import Derived.Test.YtdhejcaapdhhfaaGreatPkSignSigns9
import Derived.Test.YtdhejcaapdhhfaaGreatPkSignSigns8
import Derived.Test.YtdhejcaapdhhfaaGreatPkSignSigns4
import Derived.Test.YtdhejcaapdhhfaaGreatPkSignSigns5
import Derived.Test.YtdhejcaapdhhfaaGreatPkSignSigns6
import Derived.Test.YtdhejcaapdhhfaaGreatPkSignSigns13
import Derived.Test.YtdhejcaapdhhfaaGreatPkSignSigns12
import Derived.Test.YtdhejcaapdhhfaaGreatPkSignSigns11
import Derived.Test.YtdhejcaapdhhfaaGreatPkSignSigns18
import Derived.Test.YtdhejcaapdhhfaaGreatPkSignSigns7
import Derived.Test.YtdhejcaapdhhfaaGreatPkSignSigns14
import Derived.Test.YtdhejcaapdhhfaaGreatPkSignSigns17
import Derived.Test.YtdhejcaapdhhfaaGreatPkSignSigns26
import Derived.Test.YtdhejcaapdhhfaaGreatPkSignSigns24
import Derived.Test.YtdhejcaapdhhfaaGreatPkSignSigns22
import Derived.Test.YtdhejcaapdhhfaaGreatPkSignSigns20
import Derived.Test.YtdhejcaapdhhfaaGreatPkSignSigns19
import Derived.Test.YtdhejcaapdhhfaaGreatPkSignSigns21
import Derived.Test.YtdhejcaapdhhfaaGreatPkSignSigns23
import Derived.Test.YtdhejcaapdhhfaaGreatPkSignSigns25
import Derived.Test.YtdhejcaapdhhfaaGreatPkSignSigns28
import Derived.Test.YtdhejcaapdhhfaaGreatPkSignSigns27
import Derived.BigFrame
import Derived.BigQuiet
import Derived.ChangeKeysEq
import Derived.ChangeOld
import Derived.Deep.Cut
import Derived.Deep.DrawnRows
import Derived.Deep.LoopGhost
import Derived.Deep.MidRow
import Derived.Deep.QuietTactic
import Derived.Deep.RegionHeld3
import Derived.Deep.RegionLaw
import Derived.Deep.WholeRow
import Derived.Great.BuildSlice
import Derived.Laws.BitsAllLaws
import Derived.Laws.BytesArg
import Derived.Laws.CopyOwn
import Derived.Laws.IdiomCopy
import Derived.Laws.Strings
import Derived.Laws.StructEq
import Derived.Lib.BufferRead
import Derived.Lib.Hide
import Derived.Maps.AppendAt
import Derived.Maps.Range
import Derived.OpenShut
import Derived.Orders
import Derived.OrdersIn
import Derived.OwnWalkIn
import Derived.ProofKit
import Derived.RangeFuncBox
import Derived.RangeFuncCalls
import Derived.ShutString
import Derived.Test.YtdhejcaapdhhfaaGreatArr
import Derived.Test.YtdhejcaapdhhfaaGreatFlow
import Derived.Test.YtdhejcaapdhhfaaGreatKit
import Derived.Test.YtdhejcaapdhhfaaGreatOpen
import Derived.Test.YtdhejcaapdhhfaaGreatRows
import Derived.Test.YtdhejcaapdhhfaaGreatTxt
import Derived.WalkKit
import Derived.WalkLawsBesides
import Derived.WalkSmall
import Derived.WalkSpells
set_option linter.unusedVariables false
set_option linter.unusedSimpArgs false
namespace Go.Bas
open Go.RowKit
section
variable {P : Program} {o : Oper} {a : Act} {w : World} {Q : Exit → Act → World → Prop}
theorem run_slice_off {T e : TypeId} {x : Operand} {b off n : Nat} (ho : o.op = .slice T x none none none) (hx : a.eval x = .pointer (some ⟨b, off, none⟩))
    (hu : P.underlying T = some (.array n e)) (hi : (P.info? e).map (·.size) = some 1) : (execOp a.eval o).run P w = .ok (.value (.slice (some ⟨b, off, none⟩) n n)) w := by
  obtain ⟨i, h1, h2⟩ := Option.map_eq_some_iff.1 hi
  unfold execOp
  simp only [ho, hx]
  simp [Instr.sliceAt, Instr.sureAddr, run_underlying hu, Instr.sliceBounds, sizeOf, typeInfo, h1, h2]
  exact fun _ => rfl
theorem run_sliceAt_ptr_l {T e : TypeId} {b n m : Nat} (hu : P.underlying T = some (.array n e)) (hi : (P.info? e).map (·.size) = some 1) (hm : m < n) :
    (Instr.sliceAt T (.pointer (some ⟨b, 0, none⟩)) (some (.int .i64 (m : Int))) none none).run P w = .ok (.slice (some ⟨b, m, none⟩) (n - m) (n - m)) w := by
  obtain ⟨i, h1, h2⟩ := Option.map_eq_some_iff.1 hi
  have hm' : m ≤ n := by omega
  simp [Instr.sliceAt, Instr.sureAddr, run_underlying hu, Instr.sliceBounds, run_sliceBound, sizeOf, typeInfo, h1, h2, hm', Addr.add]
  rw [if_neg (by omega)]
  by_cases h0 : m = 0
  · rw [if_pos h0, h0]
  · rw [if_neg h0]
theorem flow_box {T : TypeId} {x : Operand} {cs : Array Value} {S : Value → World → Prop} (ho : o.op = .box T x) (hx : a.eval x = .agg cs) (hne : cs ≠ #[]) (hd : o.dst ≠ none)
    (hs : S (.pointer (some ⟨w.heap.size, 0, none⟩)) (w.alloc (.cells cs T))) :
    o.wp P a w (fun a' w' => ∃ v, a' = a.put o.dst v ∧ (o.dst = none → v = undef) ∧ S v w' ∧ Below w.heap.size w w') Q := by
  have hr : (execOp a.eval o).run P w = .ok (.value (.pointer (some ⟨w.heap.size, 0, none⟩))) (w.alloc (.cells cs T)) := by
    unfold execOp
    simp only [ho, hx]
    simp [newVar, newRow, hne, Value.cells, go_sem]
  unfold Oper.wp
  rw [hr]
  exact ⟨_, rfl, fun h => absurd h hd, hs, (Below.refl _ _).alloc (Nat.le_refl _) _⟩
end
/-- a signer, cell by cell. -/
def sgV (A P U : Nat → Int) : Array Value := (vals .u8 32 A ++ (vals .u8 32 P ++ (vals .u8 32 U ++ [Value.bool true]))).toArray
theorem sgV_a (A P U : Nat → Int) {i : Nat} (h : i < 32) : (sgV A P U)[i]? = some (.int .u8 (A i)) := by
  unfold sgV
  rw [List.getElem?_toArray, List.getElem?_append_left (by simpa using h), vals_get h]
theorem sgV_p (A P U : Nat → Int) {i : Nat} (h : i < 32) : (sgV A P U)[32 + i]? = some (.int .u8 (P i)) := by
  unfold sgV
  rw [List.getElem?_toArray, List.getElem?_append_right (by simp), vals_length, List.getElem?_append_left (by simp; omega), show 32 + i - 32 = i by omega, vals_get h]
theorem sgV_u (A P U : Nat → Int) {i : Nat} (h : i < 32) : (sgV A P U)[64 + i]? = some (.int .u8 (U i)) := by
  unfold sgV
  rw [List.getElem?_toArray, List.getElem?_append_right (by simp; omega), vals_length, List.getElem?_append_right (by simp; omega), vals_length, List.getElem?_append_left (by simp; omega), show 64 + i - 32 - 32 = i by omega, vals_get h]
theorem sgV_is (A P U : Nat → Int) : (sgV A P U)[96]? = some (.bool true) := by
  unfold sgV
  rw [List.getElem?_toArray, List.getElem?_append_right (by simp), vals_length, List.getElem?_append_right (by simp), vals_length, List.getElem?_append_right (by simp), vals_length]
  rfl
/-- v points to a signer. -/
def SgPt (w : World) (v : Value) (A P U : Nat → Int) : Prop := ∃ b, v = .pointer (some ⟨b, 0, none⟩) ∧ RowC w b (sgV A P U)
theorem SgPt.below {w w' : World} {v : Value} {A P U : Nat → Int} (h : SgPt w v A P U) (hb : Below w.heap.size w w') : SgPt w' v A P U := by
  obtain ⟨b, e, h⟩ := h
  exact ⟨b, e, h.kept hb⟩
theorem RowC.rdSg {w : World} {b : Nat} {A P U : Nat → Int} (h : RowC w b (sgV A P U)) : Rd .u8 w (.slice (some ⟨b, 0, none⟩) 32 32) 32 A ∧ Rd .u8 w (.slice (some ⟨b, 32, none⟩) 32 32) 32 P ∧ Rd .u8 w (.slice (some ⟨b, 64, none⟩) 32 32) 32 U :=
  ⟨⟨_, _, rfl, Nat.le_refl _, by decide, (fun h => by cases h), fun _ => ⟨b, 0, rfl, h.lt, fun i hi => by rw [Nat.zero_add]; exact h.cell i (sgV_a A P U hi)⟩⟩,
   ⟨_, _, rfl, Nat.le_refl _, by decide, (fun h => by cases h), fun _ => ⟨b, 32, rfl, h.lt, fun i hi => h.cell (32 + i) (sgV_p A P U hi)⟩⟩,
   ⟨_, _, rfl, Nat.le_refl _, by decide, (fun h => by cases h), fun _ => ⟨b, 64, rfl, h.lt, fun i hi => h.cell (64 + i) (sgV_u A P U hi)⟩⟩⟩
/-- two, three slices of bytes, made new. -/
theorem newTwoS {w w' : World} {v u : Value} {n m : Nat} {f g : Nat → Int} {T : TypeId} (h : Rd .u8 w v n f) (h' : Rd .u8 w u m g) (hb : Below w.heap.size w w') :
    Txt (w'.alloc (.cells [v, u].toArray T)) (.slice (some ⟨w'.heap.size, 0, none⟩) 2 2) 2 (catL 1 (fun _ => n) (fun _ => m)) (catG 1 (fun _ => f) (fun _ => g)) :=
  Txt.new (by decide) fun j hj => by
    rcases (by omega : j = 0 ∨ j = 1) with rfl | rfl
    · exact ⟨v, rfl, h.below hb⟩
    · exact ⟨u, rfl, h'.below hb⟩
end Go.Bas
namespace Go.Proofs.YtdhejcaapdhhfaaGreat
open Go.RowKit Go.Bas Go.ChangeShapes
attribute [local go_sem ↓] Go.wp_at_zero Go.wp_at_succ
/-- the scalar of the sum of bytes. -/
def numN (n : Nat) (f : Nat → Int) : Nat := (sm 256 (sumB n f) 64 % Q).toNat
theorem numN_cast (n : Nat) (f : Nat → Int) : ((numN n f : Nat) : Int) = sm 256 (sumB n f) 64 % Q := Int.toNat_of_nonneg (Int.emod_nonneg _ (by decide))
theorem numN_lt (n : Nat) (f : Nat → Int) : numN n f < ordN := by
  have h := numN_cast n f
  have h2 := Int.emod_lt_of_pos (sm 256 (sumB n f) 64) (show (0 : Int) < Q by decide)
  have h3 : Q = (ordN : Int) := by decide
  omega

set_option maxRecDepth 100000 in
set_option maxHeartbeats 1600000 in
theorem sgNumber_any (v : Value) (m : Nat) (lens : Nat → Nat) (g : Nat → Nat → Int) (n : Nat) (f : Nat → Int) (w : World) (hv : Txt w v m lens g) (hg : ∀ j, j < m → ∀ i, i < lens j → f (offs lens j + i) = g j i) (hn : offs lens m = n) (hn2 : n ≤ 1000000) (hf : ∀ i, i < n → 0 ≤ f i ∧ f i < 256) :
    Calls Tryz.prog 23 #[v] w fun e w' => e = .returned (.agg (arr .u8 32 (dg 256 ((numN n f : Nat) : Int)))) ∧ Below w.heap.size w w' := by
  obtain ⟨SB, hSB⟩ : ∃ SB, SB = sumB n f := ⟨_, rfl⟩
  have HS := Lib.hid (fun w' (h : Txt w' v m lens g) => sum_any v m lens g n f w' h hg hn hn2 hf)
  have HV := Lib.hid hv
  have HOF : Hid (∀ w u, Rd .u8 w u 64 SB → Calls Tryz.prog 51 #[u] w fun e w' => e = .returned (.tuple #[.agg (arr .u8 32 (dg 256 ((numN n f : Nat) : Int))), .int .i64 0]) ∧ Below w.heap.size w w') := fun w u hu => by
    have h := Of_ok u 64 SB w hu (fun i _ => by rw [hSB]; exact sumB_bound n f i) (by decide)
    rw [numN_cast, ← hSB]; exact h
  obtain ⟨R, hR⟩ : ∃ R, R = numN n f := ⟨_, rfl⟩
  rw [← hR] at HOF ⊢
  rw [← hSB] at HS
  clear hSB hR hg hn hn2 hf hv
  go_enter Tryz.func23, Tryz.ntmps23
  go_upto_region 1 with (fail)
  refine wp_world (fun w1 => Arr .u8 w1 w.heap.size 32 (fun _ => 0) ∧ Below w.heap.size w w1) ⟨Arr.newAt rfl (by rfl), (Below.refl _ _).alloc (Nat.le_refl _) _⟩ ?_
  rintro w1 ⟨hZ, hbel⟩
  have hz1 := hZ.lt
  refine region_vars (n := 14) (by kernel_rfl) (by kernel_rfl) (by kernel_rfl) rfl
    (isAl [(3, 2)]) (putOf [(3, 2)]) (fun _ => arr .u8 64 (fun _ => 0)) (fun _ => (arr .u8 64 (SB))) (fun _ => 29) (fun _ => 3)
    (fun ii vv _ => (match ii with | 0 => vv = v | 1 => vv = .agg (arr .u8 64 (SB)) | _ => True)) (fun _ _ => True) (fun _ _ _ => trivial) (fun _ _ _ _ _ _ _ => trivial) (fun _ _ _ _ h _ => h)
    (vs_al rfl) (vs_inj rfl) ?_ ?_ ?_ ?_
  · refine Each.all ?_
    refine ⟨?_, ?_, (fun h => by cases h), (fun _ h => by cases h), trivial⟩
    · intro _ _ a w2 hB hF hd
      rw [if_pos (wanted_none rfl)]
      exact flow_move _ (.inl rfl) (by simp) (hF.same 0 rfl)
    · intro _ _ a w2 hB hF hd
      rw [if_pos (wanted_none rfl)]
      refine flow_call _ _ _ rfl Tryz.call28 _ (args1 (hd 0 _ rfl rfl rfl (waits_spec rfl))) (by simp) ((HS.out _ (HV.out.below (hbel.trans (hB.mono hbel.size)))).mono ?_)
      rintro e w3 ⟨rfl, hb⟩; exact ⟨_, rfl, rfl, hb⟩
  · refine Each.all ?_
    refine ⟨(fun h => by cases h), (fun h => by cases h), ?_, (fun h => by cases h), trivial⟩
    · exact fun _ => ⟨rfl, rfl, fun a w2 K h => flow_alloc rfl rfl Tryz.zeroValue29 (by simp) h⟩
  · refine Each.all ?_
    refine ⟨(fun _ h => by cases h), (fun _ h => by cases h), (fun _ h => by cases h), ?_, trivial⟩
    · intro p hp
      obtain rfl : 2 = p := Option.some.inj hp
      exact ⟨rfl, rfl, ⟨_, rfl⟩, waits_spec rfl, fun a w2 b K hB hF hd hx hb h => flow_put rfl rfl Tryz.size29 hx (hd 1 _ rfl rfl rfl (waits_spec rfl)) hb h⟩
  · intro a w2 blk hB hF hS hv hfin hdis
    obtain ⟨v2, v2l, v2u⟩ := hv 2 _ rfl rfl
    have ha := puts_each rfl rfl hF [_, _, _, undef] rfl ⟨hS 0 _ rfl rfl rfl, hS 1 _ rfl rfl rfl, v2, trivial, trivial⟩
    have f2 := hfin 3 _ 2 rfl rfl
    simp only [puts, Act.put, List.setIfInBounds_toArray, List.set_cons_succ, List.set_cons_zero] at ha
    subst ha
    have V2 : Arr .u8 w2 (blk 2) 64 (SB) := ⟨_, f2⟩
    clear hS hv hfin hdis hF v2 f2
    replace hZ := hZ.kept hB
    replace hbel := hbel.trans (hB.mono hbel.size)
    obtain ⟨q, hq⟩ : ∃ q, q = blk 2 := ⟨_, rfl⟩
    rw [← hq] at V2 v2l ⊢
    have h3 := V2
    have hl3 := h3.lt
    have hql : w.heap.size < q := by omega
    clear hq hB V2 v2l v2u hz1
    go_upto_region 2 with (fail)
    refine region_vars (n := 14) (by kernel_rfl) (by kernel_rfl) (by kernel_rfl) rfl
      (isAl [(6, 5)]) (putOf [(6, 5)]) (fun _ => arr .u8 32 (fun _ => 0)) (fun _ => (arr .u8 32 (dg 256 (R : Int)))) (fun _ => 22) (fun _ => 4)
      (fun ii vv _ => (match ii with | 0 => vv = .slice (some ⟨q, 0, none⟩) 64 64 | 1 | 2 => vv = .tuple #[.agg (arr .u8 32 (dg 256 (R : Int))), .int .i64 (0)] | 3 => vv = .agg (arr .u8 32 (dg 256 (R : Int))) | 4 | 7 => vv = .int .i64 (0) | _ => True)) (fun _ _ => True) (fun _ _ _ => trivial) (fun _ _ _ _ _ _ _ => trivial) (fun _ _ _ _ h _ => h)
      (vs_al rfl) (vs_inj rfl) ?_ ?_ ?_ ?_
    · refine Each.all ?_
      refine ⟨?_, ?_, ?_, ?_, ?_, (fun h => by cases h), (fun _ h => by cases h), ?_, trivial⟩
      · intro _ _ a w2 hB hF hd
        rw [if_pos (wanted_none rfl)]
        exact flow_val (fun h => by cases h) (run_slice_arr rfl (hF.same 3 rfl) Tryz.underlying29 (by kernel_rfl)) rfl
      · intro _ _ a w2 hB hF hd
        rw [if_pos (wanted_none rfl)]
        refine flow_call _ _ _ rfl Tryz.call51 _ (args1 (hd 0 _ rfl rfl rfl (waits_spec rfl))) (by simp) ((HOF.out w2 _ ((h3.kept hB).rd (by decide))).mono ?_)
        rintro e w3 ⟨rfl, hb⟩; exact ⟨_, rfl, rfl, hb⟩
      · intro _ _ a w2 hB hF hd
        rw [if_pos (wanted_none rfl)]
        exact flow_move _ (.inl rfl) (by simp) (hd 1 _ rfl rfl rfl (waits_spec rfl))
      · intro _ _ a w2 hB hF hd
        rw [if_pos (wanted_none rfl)]
        exact flow_val (fun h => by cases h) (run_extract rfl (hd 2 _ rfl rfl rfl (waits_spec rfl)) rfl) rfl
      · intro _ _ a w2 hB hF hd
        rw [if_pos (wanted_none rfl)]
        exact flow_val (fun h => by cases h) (run_extract rfl (hd 2 _ rfl rfl rfl (waits_spec rfl)) rfl) rfl
      · intro _ _ a w2 hB hF hd
        rw [if_pos (wanted_none rfl)]
        exact flow_move _ (.inr rfl) (by simp) (hd 4 _ rfl rfl rfl (waits_spec rfl))
    · refine Each.all ?_
      refine ⟨(fun h => by cases h), (fun h => by cases h), (fun h => by cases h), (fun h => by cases h), (fun h => by cases h), ?_, (fun h => by cases h), (fun h => by cases h), trivial⟩
      · exact fun _ => ⟨rfl, rfl, fun a w2 K h => flow_alloc rfl rfl Tryz.zeroValue22 (by simp) h⟩
    · refine Each.all ?_
      refine ⟨(fun _ h => by cases h), (fun _ h => by cases h), (fun _ h => by cases h), (fun _ h => by cases h), (fun _ h => by cases h), (fun _ h => by cases h), ?_, (fun _ h => by cases h), trivial⟩
      · intro p hp
        obtain rfl : 5 = p := Option.some.inj hp
        exact ⟨rfl, rfl, ⟨_, rfl⟩, waits_spec rfl, fun a w2 b K hB hF hd hx hb h => flow_put rfl rfl Tryz.size22 hx (hd 3 _ rfl rfl rfl (waits_spec rfl)) hb h⟩
    · intro a w4 blk hB hF hS hv hfin hdis
      obtain ⟨v5, v5l, v5u⟩ := hv 5 _ rfl rfl
      have ha := puts_each rfl rfl hF [_, _, _, _, _, _, undef, _] rfl ⟨hS 0 _ rfl rfl rfl, hS 1 _ rfl rfl rfl, hS 2 _ rfl rfl rfl, hS 3 _ rfl rfl rfl, hS 4 _ rfl rfl rfl, v5, trivial, hS 7 _ rfl rfl rfl, trivial⟩
      have f5 := hfin 6 _ 5 rfl rfl
      simp only [puts, Act.put, List.setIfInBounds_toArray, List.set_cons_succ, List.set_cons_zero] at ha
      subst ha
      have V5 : Arr .u8 w4 (blk 5) 32 (dg 256 (R : Int)) := ⟨_, f5⟩
      clear hS hv hfin hdis hF v5 f5
      replace hZ := hZ.kept hB
      replace hbel := hbel.trans (hB.mono hbel.size)
      obtain ⟨x4, e4⟩ : ∃ x, x = blk 5 := ⟨_, rfl⟩
      rw [← e4] at V5 ⊢
      have h4 := V5
      clear e4 hB V5 v5l v5u h3
      go_wp2_with (first
        | (refine load_arr rfl 22 _ rfl .u8 x4 32 (dg 256 (R : Int)) 5 Tryz.underlying22 Tryz.size22 rfl h4 ?_)
        | (refine store_arr rfl 22 _ _ rfl .u8 w.heap.size 32 (fun _ => 0) (dg 256 (R : Int)) Tryz.size22 rfl rfl hZ ?_))
      exact bodyPost_ret (results_arr rfl _ _ .u8 w.heap.size 32 _ 5 rfl (hZ.setRow _ _) Tryz.underlying22 Tryz.size22) rfl ⟨rfl, below_setRow' hbel (Nat.le_refl _) _⟩
/-- of two and of three parts. -/
theorem sgNum2 (v : Value) (n1 n2 : Nat) (f1 f2 : Nat → Int) (w : World) (hv : Txt w v 2 (catL 1 (fun _ => n1) (fun _ => n2)) (catG 1 (fun _ => f1) (fun _ => f2))) (hl : n1 + n2 ≤ 1000000) (h1 : ∀ i, i < n1 → 0 ≤ f1 i ∧ f1 i < 256) (h2 : ∀ i, i < n2 → 0 ≤ f2 i ∧ f2 i < 256) :
    Calls Tryz.prog 23 #[v] w fun e w' => e = .returned (.agg (arr .u8 32 (dg 256 ((numN (n1 + n2) (catF n1 f1 f2) : Nat) : Int)))) ∧ Below w.heap.size w w' := by
  have e1 : offs (fun _ => n1) 1 = n1 := by simp [offs]
  have e2 : offs (fun _ => n2) 1 = n2 := by simp [offs]
  have h := flat_cat' (F1 := f1) (F2 := f2) (cut1 (f := f1) (n := n1)).1 (cut1 (f := f2) (n := n2)).1
  rw [e1] at h
  exact sgNumber_any v (1 + 1) _ _ (n1 + n2) _ w hv h (by rw [offs_cat, e1, e2]) hl (catF_bound h1 h2)
theorem sgNum3 (v : Value) (n1 n2 n3 : Nat) (f1 f2 f3 : Nat → Int) (w : World) (hv : Txt w v 3 (catL 1 (fun _ => n1) (catL 1 (fun _ => n2) (fun _ => n3))) (catG 1 (fun _ => f1) (catG 1 (fun _ => f2) (fun _ => f3)))) (hl : n1 + (n2 + n3) ≤ 1000000) (h1 : ∀ i, i < n1 → 0 ≤ f1 i ∧ f1 i < 256) (h2 : ∀ i, i < n2 → 0 ≤ f2 i ∧ f2 i < 256) (h3 : ∀ i, i < n3 → 0 ≤ f3 i ∧ f3 i < 256) :
    Calls Tryz.prog 23 #[v] w fun e w' => e = .returned (.agg (arr .u8 32 (dg 256 ((numN (n1 + (n2 + n3)) (catF n1 f1 (catF n2 f2 f3)) : Nat) : Int)))) ∧ Below w.heap.size w w' := by
  have e1 : offs (fun _ => n1) 1 = n1 := by simp [offs]
  have e2 : offs (fun _ => n2) 1 = n2 := by simp [offs]
  have e3 : offs (fun _ => n3) 1 = n3 := by simp [offs]
  have h := flat_cat' (F1 := f2) (F2 := f3) (cut1 (f := f2) (n := n2)).1 (cut1 (f := f3) (n := n3)).1
  rw [e2] at h
  have hh := flat_cat' (F1 := f1) (cut1 (f := f1) (n := n1)).1 h
  rw [e1] at hh
  exact sgNumber_any v (1 + (1 + 1)) _ _ (n1 + (n2 + n3)) _ w hv hh (by rw [offs_cat, offs_cat, e1, e2, e3]) hl (catF_bound h1 (catF_bound h2 h3))
/-! what a seed comes to -/
def sdS (S : Int) : Nat → Int := sumB 32 (dg 256 S)
def sdA (S : Int) : Nat := (clampN (sm 256 (sdS S) 32)).toNat
def sdP (S : Int) (i : Nat) : Int := sdS S (32 + i)
noncomputable def sdU (S : Int) : Int := bytesN (Bp.mul (sdA S))
theorem clampN_b (X : Int) : 0 ≤ clampN X ∧ clampN X < 2 ^ 256 := by unfold clampN; omega
theorem sdA_cast (S : Int) : ((sdA S : Nat) : Int) = clampN (sm 256 (sdS S) 32) := Int.toNat_of_nonneg (clampN_b _).1
theorem sdA_lt (S : Int) : sdA S < 2 ^ 256 := by have := sdA_cast S; have := clampN_b (sm 256 (sdS S) 32); omega
theorem sdP_b (S : Int) (i : Nat) : 0 ≤ sdP S i ∧ sdP S i < 256 := sumB_bound _ _ _
theorem build_sg (A P U : Nat → Int) (w : World) : (Instr.build 49 #[(0, .agg (arr .u8 32 A)), (1, .agg (arr .u8 32 P)), (2, .agg (arr .u8 32 U)), (3, .bool true)]).run Tryz.prog w = .ok (.agg (sgV A P U)) w :=
  Go.run_build w _ _ (sgV A P U) (by kernel_rfl)

set_option maxRecDepth 100000 in
set_option maxHeartbeats 3200000 in
theorem sgKey_any (S : Int) (w : World) : Calls Tryz.prog 9 #[.agg (arr .u8 32 (dg 256 S))] w fun e w' => ∃ r, e = .returned r ∧ SgPt w' r (dg 256 ((sdA S : Nat) : Int)) (sdP S) (dg 256 (sdU S)) ∧ Below w.heap.size w w' := by
  have HSD : Hid (∀ i, sdP S i = sdS S (32 + i)) := fun _ => rfl
  have HSU : Hid (sdU S = bytesN (Bp.mul (sdA S))) := rfl
  have HS : Hid (∀ w v, Txt w v 1 (fun _ => 32) (fun _ => dg 256 S) → Calls Tryz.prog 28 #[v] w fun e w' => e = .returned (.agg (arr .u8 64 (sdS S))) ∧ Below w.heap.size w w') := fun w v h =>
    sum_any v 1 _ _ 32 (dg 256 S) w h (cut1 (f := dg 256 S) (n := 32)).1 (cut1 (f := dg 256 S) (n := 32)).2 (by decide) (fun i _ => dg_bound (by decide) _ _)
  have HCL : Hid (∀ w, Calls Tryz.prog 29 #[.agg (arr .u8 32 (sdS S))] w fun e w' => e = .returned (.agg (arr .u8 32 (dg 256 ((sdA S : Nat) : Int)))) ∧ Below w.heap.size w w') := fun w => by
    rw [sdA_cast, show arr .u8 32 (sdS S) = arr .u8 32 (dg 256 (sm 256 (sdS S) 32)) from arr_congr fun i hi => (dg_sm (f := sdS S) (by decide) (fun i _ => sumB_bound 32 (dg 256 S) i) i hi).symm]
    exact ldClamp_any _ w
  have HAL := Lib.hid (sdA_lt S)
  have HBF := Lib.hid pf_base
  have HPB := Lib.hid (fun w => pBase_ok w)
  obtain ⟨F, hF⟩ : ∃ F, F = baseF := ⟨_, rfl⟩
  rw [← hF] at HBF HPB
  obtain ⟨SB, hSB⟩ : ∃ SB, SB = sdS S := ⟨_, rfl⟩
  rw [← hSB] at HS HCL HSD
  obtain ⟨A, hA⟩ : ∃ A, A = sdA S := ⟨_, rfl⟩
  rw [← hA] at HCL HSU HAL ⊢
  obtain ⟨U, hU⟩ : ∃ U, U = sdU S := ⟨_, rfl⟩
  rw [← hU] at HSU ⊢
  obtain ⟨PF, hPF⟩ : ∃ PF, PF = sdP S := ⟨_, rfl⟩
  rw [← hPF] at HSD ⊢
  clear hSB hA hF hU hPF
  go_enter Tryz.func9, Tryz.ntmps9
  go_upto_region 1 with (fail)
  refine wp_world (fun w1 => Arr .u8 w1 w.heap.size 32 (dg 256 S) ∧ Below w.heap.size w w1) ⟨Arr.newAt rfl rfl, (Below.refl _ _).alloc (Nat.le_refl _) _⟩ ?_
  rintro w1 ⟨h1, hbel⟩
  have hl1 := h1.lt
  go_wp2_with fail
  refine (HS.out _ _ (by simpa using new1 (T := 23) (h1.rd (by decide)) (Below.refl _ _))).mono ?_
  rintro e w2 ⟨rfl, hb2⟩
  replace hbel := (hbel.alloc hbel.size _).trans (hb2.mono (by simp; omega))
  clear hb2 h1
  have hsz := hbel.size
  go_upto_region 2 with (refine store_arr rfl 29 _ _ rfl .u8 w2.heap.size 64 (fun _ => 0) SB Tryz.size29 rfl rfl (Arr.newAt rfl (by rfl)) ?_)
  refine wp_world (fun w3 => Arr .u8 w3 w2.heap.size 64 SB ∧ Below w.heap.size w w3) ⟨(Arr.newAt rfl (by rfl) : Arr .u8 _ _ 64 (fun _ => 0)).setRow _ _, below_setRow' (hbel.alloc hbel.size _) hbel.size _⟩ ?_
  rintro w3 ⟨h3, hb3⟩
  obtain ⟨q, hq⟩ : ∃ q, q = w2.heap.size := ⟨_, rfl⟩
  rw [← hq] at h3 hsz ⊢
  have hql := h3.lt
  replace hbel := hb3
  have HC3 : Hid (∀ i, i < 32 → w3.cell? ⟨q, 0 + i, none⟩ = some (.int .u8 (SB i))) := fun i hi => by rw [Nat.zero_add, h3.cell i (by omega)]
  clear hq hb3
  try simp only [Act.put, List.setIfInBounds_toArray, List.set_cons_succ, List.set_cons_zero]
  refine region_vars (n := 22) (by kernel_rfl) (by kernel_rfl) (by kernel_rfl) rfl
    (isAl [(5, 4)]) (putOf [(5, 4)]) (fun _ => arr .u8 32 (fun _ => 0)) (fun _ => (arr .u8 32 (dg 256 (A : Int)))) (fun _ => 22) (fun _ => 4)
    (fun ii vv _ => (match ii with | 0 => vv = .slice (some ⟨q, 0, none⟩) 32 64 | 1 => vv = .pointer (some ⟨q, 0, none⟩) | 2 => vv = .agg (arr .u8 32 (SB)) | 3 => vv = .agg (arr .u8 32 (dg 256 (A : Int))) | _ => True)) (fun _ _ => True) (fun _ _ _ => trivial) (fun _ _ _ _ _ _ _ => trivial) (fun _ _ _ _ h _ => h)
    (vs_al rfl) (vs_inj rfl) ?_ ?_ ?_ ?_
  · refine Each.all ?_
    refine ⟨?_, ?_, ?_, ?_, (fun h => by cases h), (fun _ h => by cases h), trivial⟩
    · intro _ _ a w2 hB hF hd
      rw [if_pos (wanted_none rfl)]
      exact flow_val (fun h => by cases h) (run_slice_part rfl (hF.same 3 rfl) (by simp only [Option.map_some, Option.map_none]; exact run_sliceAt_ptr_h (m := 32) Tryz.underlying29 Tryz.size5 (by decide))) rfl
    · intro _ _ a w2 hB hF hd
      rw [if_pos (wanted_none rfl)]
      exact flow_val (fun h => by cases h) (run_to_array rfl (hd 0 _ rfl rfl rfl (waits_spec rfl)) Tryz.underlying22 (by decide)) rfl
    · intro _ _ a w2 hB hF hd
      rw [if_pos (wanted_none rfl)]
      exact flow_val (fun h => by cases h) (run_load_part rfl (hd 1 _ rfl rfl rfl (waits_spec rfl)) Tryz.underlying22 Tryz.size22 (fun i hi => (hB.cell (p := ⟨q, 0 + i, none⟩) hql).trans (HC3.out i hi))) rfl
    · intro _ _ a w2 hB hF hd
      rw [if_pos (wanted_none rfl)]
      refine flow_call _ _ _ rfl Tryz.call29 _ (args1 (hd 2 _ rfl rfl rfl (waits_spec rfl))) (by simp) ((HCL.out w2).mono ?_)
      rintro e w3 ⟨rfl, hb⟩; exact ⟨_, rfl, rfl, hb⟩
  · refine Each.all ?_
    refine ⟨(fun h => by cases h), (fun h => by cases h), (fun h => by cases h), (fun h => by cases h), ?_, (fun h => by cases h), trivial⟩
    · exact fun _ => ⟨rfl, rfl, fun a w2 K h => flow_alloc rfl rfl Tryz.zeroValue22 (by simp) h⟩
  · refine Each.all ?_
    refine ⟨(fun _ h => by cases h), (fun _ h => by cases h), (fun _ h => by cases h), (fun _ h => by cases h), (fun _ h => by cases h), ?_, trivial⟩
    · intro p hp
      obtain rfl : 4 = p := Option.some.inj hp
      exact ⟨rfl, rfl, ⟨_, rfl⟩, waits_spec rfl, fun a w2 b K hB hF hd hx hb h => flow_put rfl rfl Tryz.size22 hx (hd 3 _ rfl rfl rfl (waits_spec rfl)) hb h⟩
  · intro a w4 blk hB hF hS hv hfin hdis
    obtain ⟨v4, v4l, v4u⟩ := hv 4 _ rfl rfl
    have ha := puts_each rfl rfl hF [_, _, _, _, _, undef] rfl ⟨hS 0 _ rfl rfl rfl, hS 1 _ rfl rfl rfl, hS 2 _ rfl rfl rfl, hS 3 _ rfl rfl rfl, v4, trivial, trivial⟩
    have f4 := hfin 5 _ 4 rfl rfl
    simp only [puts, Act.put, List.setIfInBounds_toArray, List.set_cons_succ, List.set_cons_zero] at ha
    subst ha
    have V4 : Arr .u8 w4 (blk 4) 32 (dg 256 (A : Int)) := ⟨_, f4⟩
    clear hS hv hfin hdis hF v4 f4
    replace h3 := h3.kept hB
    replace hbel := hbel.trans (hB.mono hbel.size)
    obtain ⟨x4, e4⟩ : ∃ x, x = blk 4 := ⟨_, rfl⟩
    rw [← e4] at V4 ⊢
    have h4 := V4
    have hq4 := h3.lt
    have HC4 : Hid (∀ i, i < 32 → w4.cell? ⟨q, 32 + i, none⟩ = some (.int .u8 (PF i))) := fun i hi => by rw [HSD.out]; exact h3.cell (32 + i) (by omega)
    clear e4 hB V4 v4l v4u hql HC3
    go_upto_region 3 with (fail)
    refine region_flow (n := 22) (by kernel_rfl) (by kernel_rfl) (by kernel_rfl) rfl
      (fun ii vv ww => (match ii with | 0 | 5 => vv = .agg (arr .u8 32 (dg 256 (A : Int))) | 1 => vv = .slice (some ⟨q, 32, none⟩) (64 - 32) (64 - 32) | 2 => vv = .pointer (some ⟨q, 32, none⟩) | 3 => vv = .agg (arr .u8 32 (PF)) | 4 => vv = .agg (arr .i64 64 (F)) | 7 => vv = .agg (arr .u8 32 (dg 256 (bytesN (Bp.mul A)))) | 8 => vv = .agg (sgV (dg 256 (A : Int)) (PF) (dg 256 (bytesN (Bp.mul A)))) | _ => True) ∧ (ii = 6 → NPt vv (Bp.mul A)) ∧ (ii = 9 → SgPt ww vv (dg 256 (A : Int)) PF (dg 256 (bytesN (Bp.mul A)))) ∧ (ii = 10 → SgPt ww vv (dg 256 (A : Int)) PF (dg 256 (bytesN (Bp.mul A)))))
      (fun w w' => Below w.heap.size w w') (fun _ _ h => h) (fun i v w w' h hE => ⟨h.1, fun e => NPt.keep (h.2.1 e) hE, fun e => SgPt.below (h.2.2.1 e) hE, fun e => SgPt.below (h.2.2.2 e) hE⟩) ?_ ?_
    · refine Each.all ?_
      refine ⟨?_, ?_, ?_, ?_, ?_, ?_, ?_, ?_, ?_, ?_, ?_, trivial⟩
      · intro a w2 hB hF hd
        rw [if_pos (wanted_none rfl)]
        exact flow_val (fun h => by cases h) (run_load_str rfl Tryz.underlying22 rfl Tryz.size22 (hF.same 4 rfl) (h4.below hB h4.lt)) ⟨rfl, fun h => absurd h (by decide), fun h => absurd h (by decide), fun h => absurd h (by decide)⟩
      · intro a w2 hB hF hd
        rw [if_pos (wanted_none rfl)]
        exact flow_val (fun h => by cases h) (run_slice_part rfl (hF.same 3 rfl) (by simp only [Option.map_some, Option.map_none]; exact run_sliceAt_ptr_l (m := 32) Tryz.underlying29 Tryz.size5 (by decide))) ⟨rfl, fun h => absurd h (by decide), fun h => absurd h (by decide), fun h => absurd h (by decide)⟩
      · intro a w2 hB hF hd
        rw [if_pos (wanted_none rfl)]
        exact flow_val (fun h => by cases h) (run_to_array rfl ((hd 1 _ rfl (waits_spec rfl)).1) Tryz.underlying22 (by decide)) ⟨rfl, fun h => absurd h (by decide), fun h => absurd h (by decide), fun h => absurd h (by decide)⟩
      · intro a w2 hB hF hd
        rw [if_pos (wanted_none rfl)]
        exact flow_val (fun h => by cases h) (run_load_part rfl ((hd 2 _ rfl (waits_spec rfl)).1) Tryz.underlying22 Tryz.size22 (fun i hi => (hB.cell (p := ⟨q, 32 + i, none⟩) hq4).trans (HC4.out i hi))) ⟨rfl, fun h => absurd h (by decide), fun h => absurd h (by decide), fun h => absurd h (by decide)⟩
      · intro a w2 hB hF hd
        rw [if_pos (wanted_none rfl)]
        refine flow_call _ _ _ rfl Tryz.call24 _ args0 (by simp) ((HPB.out w2).mono ?_)
        rintro e w3 ⟨rfl, hb⟩; exact ⟨_, rfl, ⟨rfl, fun h => absurd h (by decide), fun h => absurd h (by decide), fun h => absurd h (by decide)⟩, hb⟩
      · intro a w2 hB hF hd
        rw [if_pos (wanted_none rfl)]
        exact flow_val (fun h => by cases h) (run_load_str rfl Tryz.underlying22 rfl Tryz.size22 (hF.same 4 rfl) (h4.below hB h4.lt)) ⟨rfl, fun h => absurd h (by decide), fun h => absurd h (by decide), fun h => absurd h (by decide)⟩
      · intro a w2 hB hF hd
        rw [if_pos (wanted_none rfl)]
        refine flow_call _ _ _ rfl Tryz.call25 _ (args2 ((hd 4 _ rfl (waits_spec rfl)).1) ((hd 5 _ rfl (waits_spec rfl)).1)) (by simp) ((pMulN A HAL.out w2 ⟨_, rfl, HBF.out⟩).mono ?_)
        rintro e w3 ⟨u, rfl, hr, hb⟩; exact ⟨u, rfl, ⟨trivial, fun _ => hr, fun h => absurd h (by decide), fun h => absurd h (by decide)⟩, hb⟩
      · intro a w2 hB hF hd
        rw [if_pos (wanted_none rfl)]
        refine flow_call _ _ _ rfl Tryz.call26 _ (args1 rfl) (by simp) ((pBytesN w2 ((hd 6 _ rfl (waits_spec rfl)).2.1 rfl)).mono ?_)
        rintro e w3 ⟨rfl, hb⟩; exact ⟨_, rfl, ⟨rfl, fun h => absurd h (by decide), fun h => absurd h (by decide), fun h => absurd h (by decide)⟩, hb⟩
      · intro a w2 hB hF hd
        rw [if_pos (wanted_none rfl)]
        exact flow_val (fun h => by cases h) (run_built rfl (by simp only [List.map_toArray, List.map_cons, List.map_nil, show a.eval (Operand.tmp 12) = .agg (arr .u8 32 (dg 256 (A : Int))) from ((hd 0 _ rfl (waits_spec rfl)).1), show a.eval (Operand.tmp 15) = .agg (arr .u8 32 (PF)) from ((hd 3 _ rfl (waits_spec rfl)).1), show a.eval (Operand.tmp 19) = .agg (arr .u8 32 (dg 256 (bytesN (Bp.mul A)))) from ((hd 7 _ rfl (waits_spec rfl)).1)]; exact build_sg _ _ _ _)) ⟨rfl, fun h => absurd h (by decide), fun h => absurd h (by decide), fun h => absurd h (by decide)⟩
      · intro a w2 hB hF hd
        rw [if_pos (wanted_none rfl)]
        refine flow_box rfl ((hd 8 _ rfl (waits_spec rfl)).1) (by unfold sgV; simp) (by simp) ?_
        exact ⟨trivial, fun h => absurd h (by decide), fun _ => (⟨_, rfl, RowC.newAt rfl⟩), fun h => absurd h (by decide)⟩
      · intro a w2 hB hF hd
        rw [if_pos (wanted_none rfl)]
        exact flow_move _ (.inr rfl) (by simp) ⟨trivial, fun h => absurd h (by decide), fun h => absurd h (by decide), fun _ => ((hd 9 _ rfl (waits_spec rfl)).2.2.1 rfl)⟩
    · intro a w5 hB hF hS
      obtain ⟨x18, hx18⟩ : ∃ x, x = a.tmps.getD 18 undef := ⟨_, rfl⟩
      have P18 : NPt x18 (Bp.mul A) := by rw [hx18]; exact (hS 6 _ rfl).2.1 rfl
      obtain ⟨x21, hx21⟩ : ∃ x, x = a.tmps.getD 21 undef := ⟨_, rfl⟩
      have P21 : SgPt w5 x21 (dg 256 (A : Int)) PF (dg 256 (bytesN (Bp.mul A))) := by rw [hx21]; exact (hS 9 _ rfl).2.2.1 rfl
      obtain ⟨x2, hx2⟩ : ∃ x, x = a.tmps.getD 2 undef := ⟨_, rfl⟩
      have P2 : SgPt w5 x2 (dg 256 (A : Int)) PF (dg 256 (bytesN (Bp.mul A))) := by rw [hx2]; exact (hS 10 _ rfl).2.2.2 rfl
      have ha := puts_each rfl rfl hF [_, _, _, _, _, _, x18, _, _, x21, x2] rfl ⟨(hS 0 _ rfl).1, (hS 1 _ rfl).1, (hS 2 _ rfl).1, (hS 3 _ rfl).1, (hS 4 _ rfl).1, (hS 5 _ rfl).1, hx18.symm, (hS 7 _ rfl).1, (hS 8 _ rfl).1, hx21.symm, hx2.symm, trivial⟩
      simp only [puts, Act.put, List.setIfInBounds_toArray, List.set_cons_succ, List.set_cons_zero] at ha
      subst ha
      clear hx18 hx21 hx2
      clear hS hF
      have hb5 := hbel.trans (hB.mono hbel.size)
      rw [← HSU.out] at P2
      go_wp2
      go_ret
      exact ⟨_, rfl, P2, hb5⟩
end Go.Proofs.YtdhejcaapdhhfaaGreat

namespace Go.Bas
open Go.RowKit
/-- v is a literal's row. -/
def LitAt (w : World) (v : Value) (T : TypeId) (n : Nat) (cs : Array Value) : Prop := ∃ b, v = .slice (some ⟨b, 0, none⟩) n n ∧ w.heap[b]? = some (.cells cs T (0, 0))
theorem LitAt.keepT {Ts : List TypeId} {w w' : World} {v : Value} {T : TypeId} {n : Nat} {cs : Array Value} (hT : Ts.contains T = false) (h : LitAt w v T n cs) (hk : KeepT Ts w w') : LitAt w' v T n cs := by
  obtain ⟨b, e, h⟩ := h
  exact ⟨b, e, hk b cs T hT h⟩
theorem LitAt.txt3 {w : World} {v v1 v2 v3 : Value} {T : TypeId} {n m k : Nat} {f g e : Nat → Int} (h : LitAt w v T 3 [v1, v2, v3].toArray) (h1 : Rd .u8 w v1 n f) (h2 : Rd .u8 w v2 m g) (h3 : Rd .u8 w v3 k e) :
    Txt w v 3 (catL 1 (fun _ => n) (catL 1 (fun _ => m) (fun _ => k))) (catG 1 (fun _ => f) (catG 1 (fun _ => g) (fun _ => e))) := by
  obtain ⟨b, rfl, h⟩ := h
  refine ⟨_, _, rfl, Nat.le_refl _, by decide, fun _ => ⟨b, 0, rfl, (Array.getElem?_eq_some_iff.1 h).1, fun j hj => ?_⟩⟩
  rw [Nat.zero_add, cell_of_row _ _ _ _ T (0, 0) h]
  rcases (by omega : j = 0 ∨ j = 1 ∨ j = 2) with rfl | rfl | rfl
  · exact ⟨v1, rfl, h1⟩
  · exact ⟨v2, rfl, h2⟩
  · exact ⟨v3, rfl, h3⟩
theorem laid_two {f g : Nat → Int} : ∀ i, i < 64 → laid (laid (fun _ => 0) 0 32 f) 32 32 g i = catF 32 f g i := by
  intro i hi
  unfold laid catF
  by_cases h : i < 32
  · rw [if_neg (by omega), if_pos (by omega), if_pos h, Nat.sub_zero]
  · rw [if_pos (by omega), if_neg h]
end Go.Bas
namespace Go.Proofs.YtdhejcaapdhhfaaGreat
open Go.RowKit Go.Bas Go.ChangeShapes
attribute [local go_sem ↓] Go.wp_at_zero Go.wp_at_succ
set_option maxRecDepth 100000 in
set_option maxHeartbeats 1600000 in
theorem sgMade_any {v : Value} {A P U : Nat → Int} (w : World) (h : SgPt w v A P U) : Calls Tryz.prog 22 #[v] w fun e w' => e = .returned (.bool true) ∧ Below w.heap.size w w' := by
  obtain ⟨b, rfl, h⟩ := h
  have e96 := h.cell 96 (sgV_is A P U)
  clear h
  go_enter Tryz.func22, Tryz.ntmps22
  go_wp2
  go_ret
  exact ⟨rfl, Below.refl _ _⟩

set_option maxRecDepth 100000 in
set_option maxHeartbeats 1600000 in
theorem sgPublicM_any {v : Value} {A P U : Nat → Int} (w : World) (h : SgPt w v A P U) : Calls Tryz.prog 7 #[v] w fun e w' => e = .returned (.tuple #[.agg (arr .u8 32 U), .int .i64 0]) ∧ Below w.heap.size w w' := by
  have HM := Lib.hid (fun w h => sgMade_any (v := v) (A := A) (P := P) (U := U) w h)
  obtain ⟨b, rfl, h⟩ := h
  go_enter Tryz.func7, Tryz.ntmps7
  go_upto_region 1 with (fail)
  refine wp_world (fun w1 => Arr .u8 w1 w.heap.size 32 (fun _ => 0) ∧ Below w.heap.size w w1) ⟨Arr.newAt rfl (by rfl), (Below.refl _ _).alloc (Nat.le_refl _) _⟩ ?_
  rintro w1 ⟨hZ, hbel⟩
  replace h := h.kept hbel
  go_wp2_with fail
  refine (HM.out _ ⟨b, rfl, h⟩).mono ?_
  rintro e w2 ⟨rfl, hb⟩
  replace h := h.kept hb
  replace hZ := hZ.kept hb
  replace hbel := hbel.trans (hb.mono hbel.size)
  clear hb
  go_wp2_with (first
    | (refine load_part rfl 22 _ rfl .u8 b 64 32 U 5 Tryz.underlying22 Tryz.size22 rfl (fun i hi => h.cell (64 + i) (sgV_u A P U hi)) ?_)
    | (refine store_arr rfl 22 _ _ rfl .u8 w.heap.size 32 (fun _ => 0) U Tryz.size22 rfl rfl hZ ?_))
  exact bodyPost_ret (results_arr2 rfl _ _ .u8 w.heap.size 32 _ 5 rfl (hZ.setRow _ _) Tryz.underlying22 Tryz.size22) rfl ⟨rfl, below_setRow' hbel (Nat.le_refl _) _⟩
/-! what a text's signature is -/
noncomputable def sigR (P f : Nat → Int) (n : Nat) : Nat := numN (32 + n) (catF 32 P f)
noncomputable def sigF (P f : Nat → Int) (n : Nat) : Int := bytesN (Bp.mul (sigR P f n))
noncomputable def sigK (P U f : Nat → Int) (n : Nat) : Nat := numN (32 + (32 + n)) (catF 32 (dg 256 (sigF P f n)) (catF 32 U f))
noncomputable def sigS (A : Nat) (P U f : Nat → Int) (n : Nat) : Nat := (sigK P U f n * A % ordN + sigR P f n) % ordN
noncomputable def sigB (A : Nat) (P U f : Nat → Int) (n : Nat) : Nat → Int := catF 32 (dg 256 (sigF P f n)) (dg 256 ((sigS A P U f n : Nat) : Int))
theorem Q_ordN : Q = (ordN : Int) := by decide
theorem sigS_lt (A : Nat) (P U f : Nat → Int) (n : Nat) : sigS A P U f n < ordN := Nat.mod_lt _ (by decide)

set_option maxRecDepth 100000 in
set_option maxHeartbeats 6400000 in
theorem sgSignM_any {v : Value} {A : Nat} {P U : Nat → Int} (t : Value) (n : Nat) (f : Nat → Int) (w : World) (h : SgPt w v (dg 256 (A : Int)) P U) (ht : Rd .u8 w t n f) (hA : A < 2 ^ 256) (hn : n ≤ 900000) (hP : ∀ i, i < 32 → 0 ≤ P i ∧ P i < 256) (hU : ∀ i, i < 32 → 0 ≤ U i ∧ U i < 256) (hf : ∀ i, i < n → 0 ≤ f i ∧ f i < 256) :
    Calls Tryz.prog 8 #[v, t] w fun e w' => e = .returned (.tuple #[.agg (arr .u8 64 (sigB A P U f n)), .int .i64 0]) ∧ Below w.heap.size w w' := by
  have HM := Lib.hid (fun w h => sgMade_any (v := v) (A := dg 256 (A : Int)) (P := P) (U := U) w h)
  have HN2 : Hid (∀ w v, Txt w v 2 (catL 1 (fun _ => 32) (fun _ => n)) (catG 1 (fun _ => P) (fun _ => f)) → Calls Tryz.prog 23 #[v] w fun e w' => e = .returned (.agg (arr .u8 32 (dg 256 ((sigR P f n : Nat) : Int)))) ∧ Below w.heap.size w w') := fun w v h => sgNum2 v 32 n P f w h (by omega) hP hf
  have HN3 : Hid (∀ w v, Txt w v 3 (catL 1 (fun _ => 32) (catL 1 (fun _ => 32) (fun _ => n))) (catG 1 (fun _ => dg 256 (sigF P f n)) (catG 1 (fun _ => U) (fun _ => f))) → Calls Tryz.prog 23 #[v] w fun e w' => e = .returned (.agg (arr .u8 32 (dg 256 ((sigK P U f n : Nat) : Int)))) ∧ Below w.heap.size w w') := fun w v h => sgNum3 v 32 32 n _ U f w h (by omega) (fun i _ => dg_bound (by decide) _ _) hU hf
  have hlR : sigR P f n < ordN := numN_lt _ _
  have hlK : sigK P U f n < ordN := numN_lt _ _
  have ho : ordN < 2 ^ 256 := by decide
  have HMA : Hid (∀ w, Calls Tryz.prog 27 #[.agg (arr .u8 32 (dg 256 ((sigK P U f n : Nat) : Int))), .agg (arr .u8 32 (dg 256 (A : Int))), .agg (arr .u8 32 (dg 256 ((sigR P f n : Nat) : Int)))] w fun e w' => e = .returned (.agg (arr .u8 32 (dg 256 ((sigS A P U f n : Nat) : Int)))) ∧ Below w.heap.size w w') := fun w => by
    have h := MulAdd_any ((sigK P U f n : Nat) : Int) (A : Int) ((sigR P f n : Nat) : Int) w ⟨by omega, by omega⟩ ⟨by omega, by omega⟩ ⟨by omega, by omega⟩
    unfold sigS
    rw [Q_ordN] at h
    rwa [Int.natCast_emod, Int.natCast_add, Int.natCast_emod, Int.natCast_mul]
  have HRL : Hid (sigR P f n < 2 ^ 256) := Nat.lt_trans hlR ho
  have HSF : Hid (sigF P f n = bytesN (Bp.mul (sigR P f n))) := rfl
  have HSB : Hid (sigB A P U f n = catF 32 (dg 256 (sigF P f n)) (dg 256 ((sigS A P U f n : Nat) : Int))) := rfl
  obtain ⟨R, hR⟩ : ∃ R, R = sigR P f n := ⟨_, rfl⟩
  rw [← hR] at HN2 HMA HRL HSF
  obtain ⟨FI, hFI⟩ : ∃ FI, FI = sigF P f n := ⟨_, rfl⟩
  rw [← hFI] at HN3 HSF HSB
  obtain ⟨K, hK⟩ : ∃ K, K = sigK P U f n := ⟨_, rfl⟩
  rw [← hK] at HN3 HMA
  obtain ⟨S, hS⟩ : ∃ S, S = sigS A P U f n := ⟨_, rfl⟩
  rw [← hS] at HMA HSB
  rw [HSB.out]
  have HBF := Lib.hid pf_base
  have HPB := Lib.hid (fun w => pBase_ok w)
  obtain ⟨F, hF⟩ : ∃ F, F = baseF := ⟨_, rfl⟩
  rw [← hF] at HBF HPB
  have HT := Lib.hid ht
  obtain ⟨tl, tn, tc, et⟩ := ht.isSlice
  subst et
  obtain ⟨b, rfl, h⟩ := h
  clear hR hFI hK hS hF hlR hlK ho hn hA hP hU hf ht HSB
  go_enter Tryz.func8, Tryz.ntmps8
  go_upto_region 1 with (fail)
  refine wp_world (fun w1 => Arr .u8 w1 w.heap.size 64 (fun _ => 0) ∧ Below w.heap.size w w1) ⟨Arr.newAt rfl (by rfl), (Below.refl _ _).alloc (Nat.le_refl _) _⟩ ?_
  rintro w1 ⟨hZ, hbel⟩
  replace h := h.kept hbel
  replace HT := Lib.hid (HT.out.below hbel)
  go_wp2_with fail
  refine (HM.out _ ⟨b, rfl, h⟩).mono ?_
  rintro e w2 ⟨rfl, hb⟩
  replace h := h.kept hb
  replace HT := Lib.hid (HT.out.below hb)
  replace hZ := hZ.kept hb
  replace hbel := hbel.trans (hb.mono hbel.size)
  clear hb
  go_wp2_with fail
  refine (HN2.out _ _ (by simpa using newTwoS (T := 23) h.rdSg.2.1 HT.out (Below.refl _ _))).mono ?_
  rintro e w3 ⟨rfl, hb⟩
  have hb3 : Below w2.heap.size w2 w3 := ((Below.refl w2.heap.size w2).alloc (Nat.le_refl _) _).trans (hb.mono (by simp))
  replace h := h.kept hb3
  replace HT := Lib.hid (HT.out.below hb3)
  replace hZ := hZ.kept hb3
  replace hbel := hbel.trans (hb3.mono hbel.size)
  have hz3 := hZ.lt
  clear hb hb3
  go_upto_region 4 with (refine store_arr rfl 22 _ _ rfl .u8 w3.heap.size 32 (fun _ => 0) (dg 256 (R : Int)) Tryz.size22 rfl rfl (Arr.newAt rfl (by rfl)) ?_)
  refine wp_world (fun w4 => Arr .u8 w4 w3.heap.size 32 (dg 256 (R : Int)) ∧ Below w3.heap.size w3 w4) ⟨(Arr.newAt rfl (by rfl) : Arr .u8 _ _ 32 (fun _ => 0)).setRow _ _, below_setRow' ((Below.refl _ _).alloc (Nat.le_refl _) _) (Nat.le_refl _) _⟩ ?_
  rintro w4 ⟨h6, hb⟩
  replace h := h.kept hb
  replace HT := Lib.hid (HT.out.below hb)
  replace hZ := hZ.kept hb
  replace hbel := hbel.trans (hb.mono hbel.size)
  obtain ⟨x6, e6⟩ : ∃ x, x = w3.heap.size := ⟨_, rfl⟩
  rw [← e6] at h6 hz3 ⊢
  have hl6 := h6.lt
  clear e6 hb
  try simp only [Act.put, List.setIfInBounds_toArray, List.set_cons_succ, List.set_cons_zero]
  refine region_vars (n := 48) (by kernel_rfl) (by kernel_rfl) (by kernel_rfl) rfl
    (isAl [(5, 4)]) (putOf [(5, 4)]) (fun _ => arr .u8 32 (fun _ => 0)) (fun _ => (arr .u8 32 (dg 256 (bytesN (Bp.mul R))))) (fun _ => 22) (fun _ => 7)
    (fun ii vv ww => (match ii with | 0 => vv = .agg (arr .i64 64 (F)) | 1 => vv = .agg (arr .u8 32 (dg 256 (R : Int))) | 3 => vv = .agg (arr .u8 32 (dg 256 (bytesN (Bp.mul R)))) | _ => True) ∧ (ii = 2 → NPt vv (Bp.mul R))) (fun _ _ => True) (fun _ _ _ => trivial) (fun _ _ _ _ _ _ _ => trivial) (fun i v w w' h hE => ⟨h.1, fun e => NPt.keep (h.2 e) hE⟩)
    (vs_al rfl) (vs_inj rfl) ?_ ?_ ?_ ?_
  · refine Each.all ?_
    refine ⟨?_, ?_, ?_, ?_, (fun h => by cases h), (fun _ h => by cases h), trivial⟩
    · intro _ _ a w2 hB hF hd
      rw [if_pos (wanted_none rfl)]
      refine flow_call _ _ _ rfl Tryz.call24 _ args0 (by simp) ((HPB.out w2).mono ?_)
      rintro e w3 ⟨rfl, hb⟩; exact ⟨_, rfl, ⟨rfl, fun h => absurd h (by decide)⟩, hb⟩
    · intro _ _ a w2 hB hF hd
      rw [if_pos (wanted_none rfl)]
      exact flow_val (fun h => by cases h) (run_load_str rfl Tryz.underlying22 rfl Tryz.size22 (hF.same 6 rfl) (h6.below hB h6.lt)) ⟨rfl, fun h => absurd h (by decide)⟩
    · intro _ _ a w2 hB hF hd
      rw [if_pos (wanted_none rfl)]
      refine flow_call _ _ _ rfl Tryz.call25 _ (args2 ((hd 0 _ rfl rfl rfl (waits_spec rfl)).1) ((hd 1 _ rfl rfl rfl (waits_spec rfl)).1)) (by simp) ((pMulN R HRL.out w2 ⟨_, rfl, HBF.out⟩).mono ?_)
      rintro e w3 ⟨u, rfl, hr, hb⟩; exact ⟨u, rfl, ⟨trivial, fun _ => hr⟩, hb⟩
    · intro _ _ a w2 hB hF hd
      rw [if_pos (wanted_none rfl)]
      refine flow_call _ _ _ rfl Tryz.call26 _ (args1 rfl) (by simp) ((pBytesN w2 ((hd 2 _ rfl rfl rfl (waits_spec rfl)).2 rfl)).mono ?_)
      rintro e w3 ⟨rfl, hb⟩; exact ⟨_, rfl, ⟨rfl, fun h => absurd h (by decide)⟩, hb⟩
  · refine Each.all ?_
    refine ⟨(fun h => by cases h), (fun h => by cases h), (fun h => by cases h), (fun h => by cases h), ?_, (fun h => by cases h), trivial⟩
    · exact fun _ => ⟨rfl, rfl, fun a w2 K h => flow_alloc rfl rfl Tryz.zeroValue22 (by simp) h⟩
  · refine Each.all ?_
    refine ⟨(fun _ h => by cases h), (fun _ h => by cases h), (fun _ h => by cases h), (fun _ h => by cases h), (fun _ h => by cases h), ?_, trivial⟩
    · intro p hp
      obtain rfl : 4 = p := Option.some.inj hp
      exact ⟨rfl, rfl, ⟨_, rfl⟩, waits_spec rfl, fun a w2 b K hB hF hd hx hb h => flow_put rfl rfl Tryz.size22 hx ((hd 3 _ rfl rfl rfl (waits_spec rfl)).1) hb h⟩
  · intro a w5 blk hB hF hS hv hfin hdis
    obtain ⟨v4, v4l, v4u⟩ := hv 4 _ rfl rfl
    obtain ⟨x24, hx24⟩ : ∃ x, x = a.tmps.getD 24 undef := ⟨_, rfl⟩
    have ha := puts_each rfl rfl hF [_, _, x24, _, _, undef] rfl ⟨(hS 0 _ rfl rfl rfl).1, (hS 1 _ rfl rfl rfl).1, hx24.symm, (hS 3 _ rfl rfl rfl).1, v4, trivial, trivial⟩
    have f4 := hfin 5 _ 4 rfl rfl
    simp only [puts, Act.put, List.setIfInBounds_toArray, List.set_cons_succ, List.set_cons_zero] at ha
    subst ha
    clear hx24
    have V4 : Arr .u8 w5 (blk 4) 32 (dg 256 (bytesN (Bp.mul R))) := ⟨_, f4⟩
    clear hS hv hfin hdis hF v4 f4
    replace h := h.kept hB
    replace HT := Lib.hid (HT.out.below hB)
    replace hZ := hZ.kept hB
    replace h6 := h6.kept hB
    replace hbel := hbel.trans (hB.mono hbel.size)
    obtain ⟨x7, e7⟩ : ∃ x, x = blk 4 := ⟨_, rfl⟩
    rw [← e7] at V4 v4l ⊢
    rw [← HSF.out] at V4
    have h7 := V4
    have l7 : x6 < x7 := by omega
    have hl7 := h7.lt
    clear e7 hB V4 v4l v4u hl6
    go_upto_region 5 with (fail)
    refine region_vars (n := 48) (by kernel_rfl) (by kernel_rfl) (by kernel_rfl) rfl
      (isAl [(9, 8)]) (putOf [(9, 8)]) (fun _ => arr .u8 32 (fun _ => 0)) (fun _ => (arr .u8 32 (dg 256 (K : Int)))) (fun _ => 22) (fun _ => 8)
      (fun ii vv ww => (match ii with | 0 => vv = .slice (some ⟨x7, 0, none⟩) 32 32 | 1 | 2 => vv = .pointer (some ⟨b, 0, none⟩) | 3 => vv = .pointer (some ⟨b, 64, none⟩) | 4 => vv = .slice (some ⟨b, 64, none⟩) 32 32 | 5 => vv = .slice tl tn tc | 7 => vv = .agg (arr .u8 32 (dg 256 (K : Int))) | _ => True) ∧ (ii = 6 → LitAt ww vv 23 3 [.slice (some ⟨x7, 0, none⟩) 32 32, .slice (some ⟨b, 64, none⟩) 32 32, .slice tl tn tc].toArray)) (KeepT [22]) (fun _ _ h => KeepT.below h) (fun w b cs p _ _ hz => KeepT.row hz rfl) (fun i v w w' h hE => ⟨h.1, fun e => LitAt.keepT rfl (h.2 e) hE⟩)
      (vs_al rfl) (vs_inj rfl) ?_ ?_ ?_ ?_
    · refine Each.all ?_
      refine ⟨?_, ?_, ?_, ?_, ?_, ?_, ?_, ?_, (fun h => by cases h), (fun _ h => by cases h), trivial⟩
      · intro _ _ a w2 hB hF hd
        rw [if_pos (wanted_none rfl)]
        exact flow_val (fun h => by cases h) (run_slice_arr rfl (hF.same 7 rfl) Tryz.underlying22 (by kernel_rfl)) ⟨rfl, fun h => absurd h (by decide)⟩
      · intro _ _ a w2 hB hF hd
        rw [if_pos (wanted_none rfl)]
        exact flow_move _ (.inl rfl) (by simp) ⟨(hF.same 0 rfl), fun h => absurd h (by decide)⟩
      · intro _ _ a w2 hB hF hd
        rw [if_pos (wanted_none rfl)]
        exact flow_val (fun h => by cases h) (run_nilCheck rfl ((hd 1 _ rfl rfl rfl (waits_spec rfl)).1)) ⟨rfl, fun h => absurd h (by decide)⟩
      · intro _ _ a w2 hB hF hd
        rw [if_pos (wanted_none rfl)]
        refine flow_val (fun h => by cases h) (run_field_at (m := 31) (k := 64) rfl ((hd 2 _ rfl rfl rfl (waits_spec rfl)).1) (by kernel_rfl)) ?_
        exact ⟨rfl, fun h => absurd h (by decide)⟩
      · intro _ _ a w2 hB hF hd
        rw [if_pos (wanted_none rfl)]
        exact flow_val (fun h => by cases h) (run_slice_off rfl ((hd 3 _ rfl rfl rfl (waits_spec rfl)).1) Tryz.underlying22 (by kernel_rfl)) ⟨rfl, fun h => absurd h (by decide)⟩
      · intro _ _ a w2 hB hF hd
        rw [if_pos (wanted_none rfl)]
        exact flow_move _ (.inl rfl) (by simp) ⟨(hF.same 1 rfl), fun h => absurd h (by decide)⟩
      · intro _ _ a w2 hB hF hd
        rw [if_pos (wanted_none rfl)]
        exact flow_lits 83 23 3 _ [.slice (some ⟨x7, 0, none⟩) 32 32, .slice (some ⟨b, 64, none⟩) 32 32, .slice tl tn tc] rfl Tryz.underlying83 (by kernel_rfl) (by kernel_rfl) rfl (by decide) (by decide) (by intro v hv; simp only [List.mem_cons, List.not_mem_nil, or_false] at hv; rcases hv with rfl | rfl | rfl <;> rfl) (by simp only [List.map_toArray, List.map_cons, List.map_nil, show a.eval (Operand.tmp 26) = .slice (some ⟨x7, 0, none⟩) 32 32 from ((hd 0 _ rfl rfl rfl (waits_spec rfl)).1), show a.eval (Operand.tmp 30) = .slice (some ⟨b, 64, none⟩) 32 32 from ((hd 4 _ rfl rfl rfl (waits_spec rfl)).1), show a.eval (Operand.tmp 31) = .slice tl tn tc from ((hd 5 _ rfl rfl rfl (waits_spec rfl)).1)]; rfl) (by simp) ⟨trivial, fun _ => ((⟨_, rfl, heap_alloc_new _ _⟩))⟩
      · intro _ _ a w2 hB hF hd
        rw [if_pos (wanted_none rfl)]
        refine flow_call _ _ _ rfl Tryz.call23 _ (args1 rfl) (by simp) ((HN3.out w2 _ (((hd 6 _ rfl rfl rfl (waits_spec rfl)).2 rfl).txt3 ((h7.kept hB).rd (by decide)) (h.rdSg.2.2.below hB) (HT.out.below hB))).mono ?_)
        rintro e w3 ⟨rfl, hb⟩; exact ⟨_, rfl, ⟨rfl, fun h => absurd h (by decide)⟩, hb⟩
    · refine Each.all ?_
      refine ⟨(fun h => by cases h), (fun h => by cases h), (fun h => by cases h), (fun h => by cases h), (fun h => by cases h), (fun h => by cases h), (fun h => by cases h), (fun h => by cases h), ?_, (fun h => by cases h), trivial⟩
      · exact fun _ => ⟨rfl, rfl, fun a w2 K h => flow_alloc rfl rfl Tryz.zeroValue22 (by simp) h⟩
    · refine Each.all ?_
      refine ⟨(fun _ h => by cases h), (fun _ h => by cases h), (fun _ h => by cases h), (fun _ h => by cases h), (fun _ h => by cases h), (fun _ h => by cases h), (fun _ h => by cases h), (fun _ h => by cases h), (fun _ h => by cases h), ?_, trivial⟩
      · intro p hp
        obtain rfl : 8 = p := Option.some.inj hp
        exact ⟨rfl, rfl, ⟨_, rfl⟩, waits_spec rfl, fun a w2 b K hB hF hd hx hb h => flow_put rfl rfl Tryz.size22 hx ((hd 7 _ rfl rfl rfl (waits_spec rfl)).1) hb h⟩
    · intro a w6 blk hB hF hS hv hfin hdis
      obtain ⟨v8, v8l, v8u⟩ := hv 8 _ rfl rfl
      obtain ⟨x32, hx32⟩ : ∃ x, x = a.tmps.getD 32 undef := ⟨_, rfl⟩
      have ha := puts_each rfl rfl hF [_, _, _, _, _, _, x32, _, _, undef] rfl ⟨(hS 0 _ rfl rfl rfl).1, (hS 1 _ rfl rfl rfl).1, (hS 2 _ rfl rfl rfl).1, (hS 3 _ rfl rfl rfl).1, (hS 4 _ rfl rfl rfl).1, (hS 5 _ rfl rfl rfl).1, hx32.symm, (hS 7 _ rfl rfl rfl).1, v8, trivial, trivial⟩
      have f8 := hfin 9 _ 8 rfl rfl
      simp only [puts, Act.put, List.setIfInBounds_toArray, List.set_cons_succ, List.set_cons_zero] at ha
      subst ha
      clear hx32
      have V8 : Arr .u8 w6 (blk 8) 32 (dg 256 (K : Int)) := ⟨_, f8⟩
      clear hS hv hfin hdis hF v8 f8
      replace h := h.kept hB
      replace hZ := hZ.kept hB
      replace h6 := h6.kept hB
      replace h7 := h7.kept hB
      replace hbel := hbel.trans (hB.mono hbel.size)
      obtain ⟨x8, e8⟩ : ∃ x, x = blk 8 := ⟨_, rfl⟩
      rw [← e8] at V8 v8l ⊢
      have h8 := V8
      have hl8 := h8.lt
      have l8 : x7 < x8 := by omega
      have ha : ∀ i, i < 32 → w6.cell? ⟨b, 0 + i, none⟩ = some (.int .u8 (dg 256 (A : Int) i)) := fun i hi => by rw [Nat.zero_add]; exact h.cell i (sgV_a _ _ _ hi)
      have hbl := h.lt
      have HAC := Lib.hid ha
      clear e8 hB V8 v8l v8u hl7 ha HT h
      go_upto_region 6 with (fail)
      refine region_vars (n := 48) (by kernel_rfl) (by kernel_rfl) (by kernel_rfl) rfl
        (isAl [(8, 7)]) (putOf [(8, 7)]) (fun _ => arr .u8 32 (fun _ => 0)) (fun _ => (arr .u8 32 (dg 256 (S : Int)))) (fun _ => 22) (fun _ => 9)
        (fun ii vv _ => (match ii with | 0 => vv = .agg (arr .u8 32 (dg 256 (K : Int))) | 1 | 2 | 3 => vv = .pointer (some ⟨b, 0, none⟩) | 4 => vv = .agg (arr .u8 32 (dg 256 (A : Int))) | 5 => vv = .agg (arr .u8 32 (dg 256 (R : Int))) | 6 => vv = .agg (arr .u8 32 (dg 256 (S : Int))) | _ => True)) (fun _ _ => True) (fun _ _ _ => trivial) (fun _ _ _ _ _ _ _ => trivial) (fun _ _ _ _ h _ => h)
        (vs_al rfl) (vs_inj rfl) ?_ ?_ ?_ ?_
      · refine Each.all ?_
        refine ⟨?_, ?_, ?_, ?_, ?_, ?_, ?_, (fun h => by cases h), (fun _ h => by cases h), trivial⟩
        · intro _ _ a w2 hB hF hd
          rw [if_pos (wanted_none rfl)]
          exact flow_val (fun h => by cases h) (run_load_str rfl Tryz.underlying22 rfl Tryz.size22 (hF.same 8 rfl) (h8.below hB h8.lt)) rfl
        · intro _ _ a w2 hB hF hd
          rw [if_pos (wanted_none rfl)]
          exact flow_move _ (.inl rfl) (by simp) (hF.same 0 rfl)
        · intro _ _ a w2 hB hF hd
          rw [if_pos (wanted_none rfl)]
          exact flow_val (fun h => by cases h) (run_nilCheck rfl (hd 1 _ rfl rfl rfl (waits_spec rfl))) rfl
        · intro _ _ a w2 hB hF hd
          rw [if_pos (wanted_none rfl)]
          refine flow_val (fun h => by cases h) (run_field_at (m := 31) (k := 0) rfl (hd 2 _ rfl rfl rfl (waits_spec rfl)) (by kernel_rfl)) ?_
          exact rfl
        · intro _ _ a w2 hB hF hd
          rw [if_pos (wanted_none rfl)]
          exact flow_val (fun h => by cases h) (run_load_part rfl (hd 3 _ rfl rfl rfl (waits_spec rfl)) Tryz.underlying22 Tryz.size22 (fun i hi => (hB.cell (p := ⟨b, 0 + i, none⟩) hbl).trans (HAC.out i hi))) rfl
        · intro _ _ a w2 hB hF hd
          rw [if_pos (wanted_none rfl)]
          exact flow_val (fun h => by cases h) (run_load_str rfl Tryz.underlying22 rfl Tryz.size22 (hF.same 6 rfl) (h6.below hB h6.lt)) rfl
        · intro _ _ a w2 hB hF hd
          rw [if_pos (wanted_none rfl)]
          refine flow_call _ _ _ rfl Tryz.call27 _ (args3 (hd 0 _ rfl rfl rfl (waits_spec rfl)) (hd 4 _ rfl rfl rfl (waits_spec rfl)) (hd 5 _ rfl rfl rfl (waits_spec rfl))) (by simp) ((HMA.out w2).mono ?_)
          rintro e w3 ⟨rfl, hb⟩; exact ⟨_, rfl, rfl, hb⟩
      · refine Each.all ?_
        refine ⟨(fun h => by cases h), (fun h => by cases h), (fun h => by cases h), (fun h => by cases h), (fun h => by cases h), (fun h => by cases h), (fun h => by cases h), ?_, (fun h => by cases h), trivial⟩
        · exact fun _ => ⟨rfl, rfl, fun a w2 K h => flow_alloc rfl rfl Tryz.zeroValue22 (by simp) h⟩
      · refine Each.all ?_
        refine ⟨(fun _ h => by cases h), (fun _ h => by cases h), (fun _ h => by cases h), (fun _ h => by cases h), (fun _ h => by cases h), (fun _ h => by cases h), (fun _ h => by cases h), (fun _ h => by cases h), ?_, trivial⟩
        · intro p hp
          obtain rfl : 7 = p := Option.some.inj hp
          exact ⟨rfl, rfl, ⟨_, rfl⟩, waits_spec rfl, fun a w2 b K hB hF hd hx hb h => flow_put rfl rfl Tryz.size22 hx (hd 6 _ rfl rfl rfl (waits_spec rfl)) hb h⟩
      · intro a w7 blk hB hF hS hv hfin hdis
        obtain ⟨v7, v7l, v7u⟩ := hv 7 _ rfl rfl
        have ha := puts_each rfl rfl hF [_, _, _, _, _, _, _, _, undef] rfl ⟨hS 0 _ rfl rfl rfl, hS 1 _ rfl rfl rfl, hS 2 _ rfl rfl rfl, hS 3 _ rfl rfl rfl, hS 4 _ rfl rfl rfl, hS 5 _ rfl rfl rfl, hS 6 _ rfl rfl rfl, v7, trivial, trivial⟩
        have f7 := hfin 8 _ 7 rfl rfl
        simp only [puts, Act.put, List.setIfInBounds_toArray, List.set_cons_succ, List.set_cons_zero] at ha
        subst ha
        have V7 : Arr .u8 w7 (blk 7) 32 (dg 256 (S : Int)) := ⟨_, f7⟩
        clear hS hv hfin hdis hF v7 f7
        replace hZ := hZ.kept hB
        replace h7 := h7.kept hB
        replace hbel := hbel.trans (hB.mono hbel.size)
        obtain ⟨x9, e9⟩ : ∃ x, x = blk 7 := ⟨_, rfl⟩
        rw [← e9] at V7 v7l ⊢
        have h9 := V7
        have l9 : x7 < x9 := by omega
        have hl9 := h9.lt
        clear e9 hB V7 v7l v7u h6 h8 HAC hbl l8 hl8
        go_upto_region 8 with (fail)
        refine wp_world (fun w8 => Arr .u8 w8 w7.heap.size 64 (fun _ => 0) ∧ Below w7.heap.size w7 w8) ⟨Arr.newAt rfl (by rfl), (Below.refl _ _).alloc (Nat.le_refl _) _⟩ ?_
        rintro w8 ⟨h10, hb⟩
        replace hZ := hZ.kept hb
        replace h7 := h7.kept hb
        replace h9 := h9.kept hb
        replace hbel := hbel.trans (hb.mono hbel.size)
        obtain ⟨x10, e10⟩ : ∃ x, x = w7.heap.size := ⟨_, rfl⟩
        rw [← e10] at h10 hl9 ⊢
        clear e10 hb
        refine region_last' (n := 48) 2 rfl (by decide) (by kernel_rfl) (by kernel_rfl) (by kernel_rfl) (by kernel_rfl) rfl
          (fun ii vv _ => (match ii with | 0 => vv = .slice (some ⟨x10, 0, none⟩) 32 64 | 1 => vv = .slice (some ⟨x7, 0, none⟩) 32 32 | _ => True))
          (fun w w' => Below w.heap.size w w') (fun _ _ h => h) (fun _ _ _ _ h _ => h) rfl ?_ ?_
        · refine Each.all ?_
          refine ⟨?_, ?_, (fun h => absurd rfl h), trivial⟩
          · intro _ a w2 hB hF hd
            rw [if_pos (wanted_none rfl)]
            exact flow_val (fun h => by cases h) (run_slice_part rfl (hF.same 10 rfl) (by simp only [Option.map_some, Option.map_none]; exact run_sliceAt_ptr_h (m := 32) Tryz.underlying29 Tryz.size5 (by decide))) rfl
          · intro _ a w2 hB hF hd
            rw [if_pos (wanted_none rfl)]
            exact flow_val (fun h => by cases h) (run_slice_arr rfl (hF.same 7 rfl) Tryz.underlying22 (by kernel_rfl)) rfl
        · intro a w9 hB hF hS
          obtain ⟨x43, hx43⟩ : ∃ x, x = a.tmps.getD 43 undef := ⟨_, rfl⟩
          have ha := puts_each rfl rfl hF [_, _, x43] rfl ⟨hS 0 _ rfl (by decide), hS 1 _ rfl (by decide), hx43.symm, trivial⟩
          simp only [puts, Act.put, List.setIfInBounds_toArray, List.set_cons_succ, List.set_cons_zero] at ha
          subst ha
          clear hx43
          clear hS hF
          replace hZ := hZ.kept hB
          replace h7 := h7.kept hB
          replace h9 := h9.kept hB
          replace h10 := h10.kept hB
          replace hbel := hbel.trans (hB.mono hbel.size)
          clear hB
          refine wp_copy_arr _ _ 23 23 rfl (e := 5) (k := .u8) x10 0 32 64 64 (fun _ => 0) Tryz.underlying23 Tryz.size5 rfl h10 _ 32 _ (h7.rd (by decide)) rfl (by decide) (by decide) ?_
          have q10 := hbel.size
          have e10 : w.heap.size ≤ x10 := by omega
          have hZ2 := hZ.setRowOther x10 (by omega) (arr .u8 64 (laid (fun _ => 0) 0 32 (dg 256 FI)))
          have h92 := h9.setRowOther x10 (by omega) (arr .u8 64 (laid (fun _ => 0) 0 32 (dg 256 FI)))
          have hA2 := h10.setRow 64 (laid (fun _ => 0) 0 32 (dg 256 FI))
          have hb2 := below_setRow' hbel e10 (arr .u8 64 (laid (fun _ => 0) 0 32 (dg 256 FI)))
          obtain ⟨wa, hwa⟩ : ∃ wa, wa = w9.setRow x10 (arr .u8 64 (laid (fun _ => 0) 0 32 (dg 256 FI))) := ⟨_, rfl⟩
          rw [← hwa] at hZ2 h92 hA2 hb2 ⊢
          clear hwa hZ h7 h9 h10 hbel q10
          go_upto_region 9 with (fail)
          try simp only [List.getElem_toArray, List.getElem_cons_succ, List.getElem_cons_zero, Act.put]
          refine region_last' (n := 48) 2 rfl (by decide) (by kernel_rfl) (by kernel_rfl) (by kernel_rfl) (by kernel_rfl) rfl
            (fun ii vv _ => (match ii with | 0 => vv = .slice (some ⟨x10, 32, none⟩) (64 - 32) (64 - 32) | 1 => vv = .slice (some ⟨x9, 0, none⟩) 32 32 | _ => True))
            (fun w w' => Below w.heap.size w w') (fun _ _ h => h) (fun _ _ _ _ h _ => h) rfl ?_ ?_
          · refine Each.all ?_
            refine ⟨?_, ?_, (fun h => absurd rfl h), trivial⟩
            · intro _ a w2 hB hF hd
              rw [if_pos (wanted_none rfl)]
              exact flow_val (fun h => by cases h) (run_slice_part rfl (hF.same 10 rfl) (by simp only [Option.map_some, Option.map_none]; exact run_sliceAt_ptr_l (m := 32) Tryz.underlying29 Tryz.size5 (by decide))) rfl
            · intro _ a w2 hB hF hd
              rw [if_pos (wanted_none rfl)]
              exact flow_val (fun h => by cases h) (run_slice_arr rfl (hF.same 9 rfl) Tryz.underlying22 (by kernel_rfl)) rfl
          · intro a wb hB hF hS
            obtain ⟨x46, hx46⟩ : ∃ x, x = a.tmps.getD 46 undef := ⟨_, rfl⟩
            have ha := puts_each rfl rfl hF [_, _, x46] rfl ⟨hS 0 _ rfl (by decide), hS 1 _ rfl (by decide), hx46.symm, trivial⟩
            simp only [puts, Act.put, List.setIfInBounds_toArray, List.set_cons_succ, List.set_cons_zero] at ha
            subst ha
            clear hx46
            clear hS hF
            replace hZ2 := hZ2.kept hB
            replace h92 := h92.kept hB
            replace hA2 := hA2.kept hB
            replace hb2 := hb2.trans (hB.mono hb2.size)
            clear hB
            refine wp_copy_arr _ _ 23 23 rfl (e := 5) (k := .u8) x10 32 (64 - 32) (64 - 32) 64 (laid (fun _ => 0) 0 32 (dg 256 FI)) Tryz.underlying23 Tryz.size5 rfl hA2 _ 32 _ (h92.rd (by decide)) rfl (by decide) (by decide) ?_
            have hZ3 := hZ2.setRowOther x10 (by omega) (arr .u8 64 (laid (laid (fun _ => 0) 0 32 (dg 256 FI)) 32 32 (dg 256 (S : Int))))
            have hA3 := (hA2.setRow 64 (laid (laid (fun _ => 0) 0 32 (dg 256 FI)) 32 32 (dg 256 (S : Int)))).congr laid_two
            have hb3 := below_setRow' hb2 e10 (arr .u8 64 (laid (laid (fun _ => 0) 0 32 (dg 256 FI)) 32 32 (dg 256 (S : Int))))
            obtain ⟨wc, hwc⟩ : ∃ wc, wc = wb.setRow x10 (arr .u8 64 (laid (laid (fun _ => 0) 0 32 (dg 256 FI)) 32 32 (dg 256 (S : Int)))) := ⟨_, rfl⟩
            rw [← hwc] at hZ3 hA3 hb3 ⊢
            clear hwc hZ2 h92 hA2 hb2
            go_upto_region 10 with (fail)
            try simp only [List.getElem_toArray, List.getElem_cons_succ, List.getElem_cons_zero, Act.put]
            go_wp2_with (first
              | (refine load_arr rfl 29 _ rfl .u8 x10 64 (catF 32 (dg 256 FI) (dg 256 (S : Int))) 5 Tryz.underlying29 Tryz.size29 rfl hA3 ?_)
              | (refine store_arr rfl 29 _ _ rfl .u8 w.heap.size 64 (fun _ => 0) (catF 32 (dg 256 FI) (dg 256 (S : Int))) Tryz.size29 rfl rfl hZ3 ?_))
            exact bodyPost_ret (results_arr2 rfl _ _ .u8 w.heap.size 64 _ 5 rfl (hZ3.setRow 64 (catF 32 (dg 256 FI) (dg 256 (S : Int)))) Tryz.underlying29 Tryz.size29) rfl ⟨rfl, below_setRow' hb3 (Nat.le_refl _) _⟩

set_option maxRecDepth 100000 in
set_option maxHeartbeats 1600000 in
/-- a seed's public key. -/
theorem sgPublic_any (S : Int) (w : World) : Calls Tryz.prog 11 #[.agg (arr .u8 32 (dg 256 S))] w fun e w' => e = .returned (.agg (arr .u8 32 (dg 256 (sdU S)))) ∧ Below w.heap.size w w' := by
  have HK := Lib.hid (fun w => sgKey_any S w)
  have HP := Lib.hid (fun w v h => sgPublicM_any (v := v) (A := dg 256 ((sdA S : Nat) : Int)) (P := sdP S) (U := dg 256 (sdU S)) w h)
  obtain ⟨U, hU⟩ : ∃ U, U = sdU S := ⟨_, rfl⟩
  rw [← hU] at HK HP ⊢
  clear hU
  go_enter Tryz.func11, Tryz.ntmps11
  go_upto_region 1 with (fail)
  refine wp_world (fun w1 => Arr .u8 w1 w.heap.size 32 (dg 256 S) ∧ Arr .u8 w1 (w.heap.size + 1) 32 (fun _ => 0) ∧ Below w.heap.size w w1) ⟨.alloc (Arr.newAt rfl rfl) _, Arr.newAt (by first | omega | (simp <;> omega)) (by rfl), ((Below.refl _ _).alloc (Nat.le_refl _) _).alloc (by first | omega | (simp <;> omega)) _⟩ ?_
  rintro w1 ⟨h1, h2, hbel⟩
  go_wp2_with (refine load_arr rfl 22 _ rfl .u8 w.heap.size 32 (dg 256 S) 5 Tryz.underlying22 Tryz.size22 rfl h1 ?_)
  refine (HK.out _).mono ?_
  rintro e w2 ⟨r, rfl, hr, hb⟩
  replace h2 := h2.kept hb
  replace hbel := hbel.trans (hb.mono hbel.size)
  clear hb
  go_wp2_with fail
  refine (HP.out _ _ hr).mono ?_
  rintro e w3 ⟨rfl, hb⟩
  replace h2 := h2.kept hb
  replace hbel := hbel.trans (hb.mono hbel.size)
  have hl2 := h2.lt
  clear hb hr
  go_upto_region 2 with (refine store_arr rfl 22 _ _ rfl .u8 w3.heap.size 32 (fun _ => 0) (dg 256 U) Tryz.size22 rfl rfl (Arr.newAt rfl (by rfl)) ?_)
  refine wp_world (fun w4 => Arr .u8 w4 w3.heap.size 32 (dg 256 U) ∧ Below w3.heap.size w3 w4) ⟨(Arr.newAt rfl (by rfl) : Arr .u8 _ _ 32 (fun _ => 0)).setRow _ _, below_setRow' ((Below.refl _ _).alloc (Nat.le_refl _) _) (Nat.le_refl _) _⟩ ?_
  rintro w4 ⟨h3, hb⟩
  replace h2 := h2.kept hb
  replace hbel := hbel.trans (hb.mono hbel.size)
  obtain ⟨x3, e3⟩ : ∃ x, x = w3.heap.size := ⟨_, rfl⟩
  rw [← e3] at h3 hl2 ⊢
  clear e3 hb
  try simp only [Act.put, List.setIfInBounds_toArray, List.set_cons_succ, List.set_cons_zero]
  go_wp2_with (first
    | (refine load_arr rfl 22 _ rfl .u8 x3 32 (dg 256 U) 5 Tryz.underlying22 Tryz.size22 rfl h3 ?_)
    | (refine store_arr rfl 22 _ _ rfl .u8 (w.heap.size + 1) 32 (fun _ => 0) (dg 256 U) Tryz.size22 rfl rfl h2 ?_))
  exact bodyPost_ret (results_arr rfl _ _ .u8 (w.heap.size + 1) 32 _ 5 rfl (h2.setRow _ _) Tryz.underlying22 Tryz.size22) rfl ⟨rfl, below_setRow' hbel (by omega) _⟩
/-- a text's signature under a seed. -/
noncomputable def sdB (S : Int) (f : Nat → Int) (n : Nat) : Nat → Int := sigB (sdA S) (sdP S) (dg 256 (sdU S)) f n
set_option maxRecDepth 100000 in
set_option maxHeartbeats 1600000 in
theorem sgSign_any (S : Int) (t : Value) (n : Nat) (f : Nat → Int) (w : World) (ht : Rd .u8 w t n f) (hn : n ≤ 900000) (hf : ∀ i, i < n → 0 ≤ f i ∧ f i < 256) :
    Calls Tryz.prog 10 #[.agg (arr .u8 32 (dg 256 S)), t] w fun e w' => e = .returned (.agg (arr .u8 64 (sdB S f n))) ∧ Below w.heap.size w w' := by
  have HK := Lib.hid (fun w => sgKey_any S w)
  have HP := Lib.hid (fun w v (h : SgPt w v (dg 256 ((sdA S : Nat) : Int)) (sdP S) (dg 256 (sdU S))) (ht : Rd .u8 w t n f) => sgSignM_any t n f w h ht (sdA_lt S) hn (fun i _ => sdP_b S i) (fun i _ => dg_bound (by decide) _ _) hf)
  have HB : Hid (sigB (sdA S) (sdP S) (dg 256 (sdU S)) f n = sdB S f n) := rfl
  have HT := Lib.hid ht
  obtain ⟨B, hB⟩ : ∃ B, B = sdB S f n := ⟨_, rfl⟩
  rw [← hB] at HB ⊢
  rw [HB.out] at HP
  clear hB hn hf ht HB
  obtain ⟨tl, tn, tc, et⟩ := HT.out.isSlice
  subst et
  go_enter Tryz.func10, Tryz.ntmps10
  go_upto_region 1 with (fail)
  refine wp_world (fun w1 => Arr .u8 w1 w.heap.size 32 (dg 256 S) ∧ Arr .u8 w1 (w.heap.size + 1) 64 (fun _ => 0) ∧ Below w.heap.size w w1) ⟨.alloc (Arr.newAt rfl rfl) _, Arr.newAt (by first | omega | (simp <;> omega)) (by rfl), ((Below.refl _ _).alloc (Nat.le_refl _) _).alloc (by first | omega | (simp <;> omega)) _⟩ ?_
  rintro w1 ⟨h1, h2, hbel⟩
  replace HT := Lib.hid (HT.out.below hbel)
  go_wp2_with (refine load_arr rfl 22 _ rfl .u8 w.heap.size 32 (dg 256 S) 5 Tryz.underlying22 Tryz.size22 rfl h1 ?_)
  refine (HK.out _).mono ?_
  rintro e w2 ⟨r, rfl, hr, hb⟩
  replace h2 := h2.kept hb
  replace HT := Lib.hid (HT.out.below hb)
  replace hbel := hbel.trans (hb.mono hbel.size)
  clear hb
  go_wp2_with fail
  refine (HP.out _ _ hr HT.out).mono ?_
  rintro e w3 ⟨rfl, hb⟩
  replace h2 := h2.kept hb
  replace hbel := hbel.trans (hb.mono hbel.size)
  have hl2 := h2.lt
  clear hb hr
  go_upto_region 2 with (refine store_arr rfl 29 _ _ rfl .u8 w3.heap.size 64 (fun _ => 0) B Tryz.size29 rfl rfl (Arr.newAt rfl (by rfl)) ?_)
  refine wp_world (fun w4 => Arr .u8 w4 w3.heap.size 64 B ∧ Below w3.heap.size w3 w4) ⟨(Arr.newAt rfl (by rfl) : Arr .u8 _ _ 64 (fun _ => 0)).setRow _ _, below_setRow' ((Below.refl _ _).alloc (Nat.le_refl _) _) (Nat.le_refl _) _⟩ ?_
  rintro w4 ⟨h3, hb⟩
  replace h2 := h2.kept hb
  replace hbel := hbel.trans (hb.mono hbel.size)
  obtain ⟨x3, e3⟩ : ∃ x, x = w3.heap.size := ⟨_, rfl⟩
  rw [← e3] at h3 hl2 ⊢
  clear e3 hb
  try simp only [Act.put, List.setIfInBounds_toArray, List.set_cons_succ, List.set_cons_zero]
  go_wp2_with (first
    | (refine load_arr rfl 29 _ rfl .u8 x3 64 B 5 Tryz.underlying29 Tryz.size29 rfl h3 ?_)
    | (refine store_arr rfl 29 _ _ rfl .u8 (w.heap.size + 1) 64 (fun _ => 0) B Tryz.size29 rfl rfl h2 ?_))
  exact bodyPost_ret (results_arr rfl _ _ .u8 (w.heap.size + 1) 64 _ 5 rfl (h2.setRow _ _) Tryz.underlying29 Tryz.size29) rfl ⟨rfl, below_setRow' hbel (by omega) _⟩
end Go.Proofs.YtdhejcaapdhhfaaGreat

namespace Go.Bas
open Go.RowKit
theorem Rd.formAt {k : IntKind} {w : World} {a : Option Addr} {n c : Nat} {f : Nat → Int} (h : Rd k w (.slice a n c) n f) (hn : 0 < n) : ∃ b o, a = some ⟨b, o, none⟩ ∧ b < w.heap.size ∧ ∀ i, i < n → w.cell? ⟨b, o + i, none⟩ = some (.int k (f i)) := by
  obtain ⟨a', c', he, _, _, _, h4⟩ := h
  obtain ⟨b, o, rfl, hb, hc⟩ := h4 hn
  simp only [Value.slice.injEq, true_and] at he
  exact ⟨b, o, he.1, hb, hc⟩
end Go.Bas
namespace Go.Proofs.YtdhejcaapdhhfaaGreat
open Go.RowKit Go.Bas
attribute [local go_sem ↓] Go.wp_at_zero Go.wp_at_succ

end Go.Proofs.YtdhejcaapdhhfaaGreat

namespace Go.Bas
theorem same_num {X Y : Int} (h0 : 0 ≤ X) (h1 : X < 256 ^ 32) (h2 : 0 ≤ Y) (h3 : Y < 256 ^ 32) : sameB 32 (dg 256 X) (dg 256 Y) = decide (X = Y) := by
  by_cases h : X = Y
  · rw [h, decide_eq_true rfl]; exact sameB_self
  · rw [decide_eq_false h]
    refine sameB_no fun e => h ?_
    have h4 := sm_congr (B := 256) (n := 32) e
    rwa [sm_dg (by decide), sm_dg (by decide), Int.emod_eq_of_lt h0 h1, Int.emod_eq_of_lt h2 h3] at h4
end Go.Bas
namespace Go.Proofs.YtdhejcaapdhhfaaGreat
open Go.RowKit Go.Bas Go.ChangeShapes
attribute [local go_sem ↓] Go.wp_at_zero Go.wp_at_succ
/-- the halves of a signature as numbers. -/
def verF (f2 : Nat → Int) : Int := sm 256 f2 32
def verS (f2 : Nat → Int) : Nat := (sm 256 (fun i => f2 (32 + i)) 32).toNat
noncomputable def verK (A : Int) (n : Nat) (f f2 : Nat → Int) : Nat := numN (32 + (32 + n)) (catF 32 (dg 256 (verF f2)) (catF 32 (dg 256 A) f))
noncomputable def verD (A : Int) (p : Ed C7) (n : Nat) (f f2 : Nat → Int) : Ed C7 := (Bp.mul (verS f2)).add (p.mul (verK A n f f2)).neg
/-- what Verify answers. -/
def VerR (A : Int) (n : Nat) (f : Nat → Int) (n2 : Nat) (f2 : Nat → Int) (c : Int) : Prop :=
  (n2 ≠ 64 → c = 2) ∧ (n2 = 64 → (¬ ofOk A → c = 21) ∧ ∀ p : Ed C7, bytesN p = A → (ordN ≤ verS f2 → c = 22) ∧ (verS f2 < ordN → (bytesN (verD A p n f f2) = verF f2 → c = 0) ∧ (bytesN (verD A p n f f2) ≠ verF f2 → c = 22)))

set_option maxRecDepth 100000 in
set_option maxHeartbeats 6400000 in
theorem sgVerify_any (A : Int) (h0 : 0 ≤ A) (h1 : A < 2 ^ 256) (t s : Value) (n n2 : Nat) (f f2 : Nat → Int) (w : World) (ht : Rd .u8 w t n f) (hs : Rd .u8 w s n2 f2) (hn : n ≤ 900000) (hf : ∀ i, i < n → 0 ≤ f i ∧ f i < 256) (hf2 : ∀ i, i < n2 → 0 ≤ f2 i ∧ f2 i < 256) :
    Calls Tryz.prog 21 #[.agg (arr .u8 32 (dg 256 A)), t, s] w fun e w' => ∃ c, e = .returned (.int .i64 c) ∧ VerR A n f n2 f2 c ∧ Below w.heap.size w w' := by
  have HT := Lib.hid ht
  have HSG := Lib.hid hs
  obtain ⟨tl, tn, tc, et⟩ := ht.isSlice
  subst et
  obtain ⟨sl, sc, es, hc1, hc2, _, _⟩ := id hs
  subst es
  have HPO := Lib.hid (fun w => pOf_any A h0 h1 w)
  clear ht hs
  go_enter Tryz.func21, Tryz.ntmps21
  go_upto_region 1 with (fail)
  refine wp_world (fun w1 => Arr .u8 w1 w.heap.size 32 (dg 256 A) ∧ Below w.heap.size w w1) ⟨Arr.newAt rfl rfl, (Below.refl _ _).alloc (Nat.le_refl _) _⟩ ?_
  rintro w1 ⟨h3, hbel⟩
  replace HT := Lib.hid (HT.out.below hbel)
  replace HSG := Lib.hid (HSG.out.below hbel)
  by_cases h64 : n2 = 64
  case neg =>
    have hne : ¬ ((n2 : Int) = 64) := by omega
    have HR : Hid (VerR A n f n2 f2 2) := ⟨fun _ => rfl, fun h => absurd h h64⟩
    clear h64
    go_wp2
    go_ret
    exact ⟨_, rfl, HR.out, hbel⟩
  case pos =>
    subst h64
    go_wp2_with (refine load_arr rfl 22 _ rfl .u8 w.heap.size 32 (dg 256 A) 5 Tryz.underlying22 Tryz.size22 rfl h3 ?_)
    refine (HPO.out _).mono ?_
    rintro e w2 ⟨r, c, rfl, hof, hb⟩
    replace h3 := h3.kept hb
    replace HT := Lib.hid (HT.out.below hb)
    replace HSG := Lib.hid (HSG.out.below hb)
    replace hbel := hbel.trans (hb.mono hbel.size)
    have HR : ∃ F7, r = .agg (arr .i64 64 F7) ∧ ((c = 0 ∧ ∃ p : Ed C7, PFn F7 p ∧ bytesN p = A) ∨ (c = 21 ∧ ¬ ofOk A)) := by
      rcases hof with ⟨rfl, ho, p, ⟨F3, h8, h9⟩, h10⟩ | ⟨rfl, h8, ho⟩
      · exact ⟨F3, h8, .inl ⟨rfl, p, h9, h10⟩⟩
      · exact ⟨_, h8, .inr ⟨rfl, ho⟩⟩
    obtain ⟨F7, rfl, hcc⟩ := HR
    have HCC := Lib.hid hcc
    have hl3 := h3.lt
    clear hof hb hcc
    go_upto_region 4 with (refine store_arr rfl 55 _ _ rfl .i64 w2.heap.size 64 (fun _ => 0) F7 Tryz.size55 rfl rfl (Arr.newAt rfl (by rfl)) ?_)
    refine wp_world (fun w5 => Arr .i64 w5 w2.heap.size 64 F7 ∧ Below w2.heap.size w2 w5) ⟨(Arr.newAt rfl (by rfl) : Arr .i64 _ _ 64 (fun _ => 0)).setRow _ _, below_setRow' ((Below.refl _ _).alloc (Nat.le_refl _) _) (Nat.le_refl _) _⟩ ?_
    rintro w5 ⟨h7, hb⟩
    replace h3 := h3.kept hb
    replace HT := Lib.hid (HT.out.below hb)
    replace HSG := Lib.hid (HSG.out.below hb)
    replace hbel := hbel.trans (hb.mono hbel.size)
    obtain ⟨x7, e7⟩ : ∃ x, x = w2.heap.size := ⟨_, rfl⟩
    rw [← e7] at h7 hl3 ⊢
    have hl7 := h7.lt
    clear e7 hb
    try simp only [Act.put, List.setIfInBounds_toArray, List.set_cons_succ, List.set_cons_zero]
    rcases HCC.out with ⟨rfl, p, hpf, hbp⟩ | ⟨rfl, hno⟩
    case inr =>
      have HR : Hid (VerR A n f 64 f2 21) := ⟨fun h => absurd rfl h, fun _ => ⟨fun _ => rfl, fun q hq => absurd (hq ▸ ofOk_bytes q) hno⟩⟩
      clear hno HCC
      go_wp2
      go_ret
      exact ⟨_, rfl, HR.out, hbel⟩
    case inl =>
      have HPF := Lib.hid hpf
      have HBP := Lib.hid hbp
      clear hpf hbp HCC
      -- the halves
      have hF : arr .u8 32 f2 = arr .u8 32 (dg 256 (verF f2)) := arr_congr fun i hi => (dg_sm (by decide) (fun i hi => hf2 i (by omega)) i hi).symm
      have hS0 : 0 ≤ sm 256 (fun i => f2 (32 + i)) 32 ∧ sm 256 (fun i => f2 (32 + i)) 32 < 256 ^ 32 := sm_bound (by decide) (fun i hi => hf2 (32 + i) (by omega))
      have hSn : ((verS f2 : Nat) : Int) = sm 256 (fun i => f2 (32 + i)) 32 := Int.toNat_of_nonneg hS0.1
      have hS : arr .u8 32 (fun i => f2 (32 + i)) = arr .u8 32 (dg 256 ((verS f2 : Nat) : Int)) := by
        rw [hSn]; exact arr_congr fun i hi => (dg_sm (by decide) (fun i hi => hf2 (32 + i) (by omega)) i hi).symm
      have hFb : 0 ≤ verF f2 ∧ verF f2 < 256 ^ 32 := sm_bound (by decide) (fun i hi => hf2 i (by omega))
      have HSL : Hid (verS f2 < 2 ^ 256) := by
        have e : (256 : Int) ^ 32 = 2 ^ 256 := (by decide)
        unfold Hid
        omega
      have HRT : Hid (∀ w, Calls Tryz.prog 48 #[.agg (arr .u8 32 (dg 256 ((verS f2 : Nat) : Int)))] w fun e w' => e = .returned (.bool (decide (verS f2 < ordN))) ∧ Below w.heap.size w w') := fun w => by
        have h := Right_any ((verS f2 : Nat) : Int) w ⟨by omega, by omega⟩
        rw [show decide (verS f2 < ordN) = decide (((verS f2 : Nat) : Int) < Q) from decide_eq_decide.2 (by rw [Q_ordN]; omega)]
        exact h
      have HNM : Hid (∀ w v, Txt w v 3 (catL 1 (fun _ => 32) (catL 1 (fun _ => 32) (fun _ => n))) (catG 1 (fun _ => dg 256 (verF f2)) (catG 1 (fun _ => dg 256 A) (fun _ => f))) → Calls Tryz.prog 23 #[v] w fun e w' => e = .returned (.agg (arr .u8 32 (dg 256 ((verK A n f f2 : Nat) : Int)))) ∧ Below w.heap.size w w') := fun w v h =>
        sgNum3 v 32 32 n _ _ f w h (by omega) (fun i _ => dg_bound (by decide) _ _) (fun i _ => dg_bound (by decide) _ _) hf
      have HKL : Hid (verK A n f f2 < 2 ^ 256) := Nat.lt_trans (numN_lt _ _) (by decide)
      have hDb := bytesN_bound (verD A p n f f2)
      have HCM : Hid (sameB 32 (dg 256 (bytesN (verD A p n f f2))) (dg 256 (verF f2)) = decide (bytesN (verD A p n f f2) = verF f2)) := same_num hDb.1 (by have e : (256 : Int) ^ 32 = 2 ^ 256 := (by decide); omega) hFb.1 hFb.2
      have HVR : Hid (∀ c, ((verS f2 < ordN → ((bytesN (verD A p n f f2) = verF f2 → c = 0) ∧ (bytesN (verD A p n f f2) ≠ verF f2 → c = 22))) ∧ (ordN ≤ verS f2 → c = 22)) → VerR A n f 64 f2 c) := fun c hc => by
        refine ⟨fun h => absurd rfl h, fun _ => ⟨fun h => absurd (HBP.out ▸ ofOk_bytes p) h, fun q hq => ?_⟩⟩
        obtain rfl : q = p := bytesN_inj (hq.trans HBP.out.symm)
        exact ⟨hc.2, hc.1⟩
      have HD : Hid (verD A p n f f2 = (Bp.mul (verS f2)).add (p.mul (verK A n f f2)).neg) := rfl
      obtain ⟨D, hD⟩ : ∃ D, D = verD A p n f f2 := ⟨_, rfl⟩
      rw [← hD] at HCM HVR HD
      obtain ⟨K, hK⟩ : ∃ K, K = verK A n f f2 := ⟨_, rfl⟩
      rw [← hK] at HNM HKL HD
      obtain ⟨S2, hS2⟩ : ∃ S2, S2 = verS f2 := ⟨_, rfl⟩
      rw [← hS2] at hS HSL HRT HVR HD
      obtain ⟨F1, hF1⟩ : ∃ F1, F1 = verF f2 := ⟨_, rfl⟩
      rw [← hF1] at hF HNM HCM HVR
      have HFQ := Lib.hid hF
      have HSQ := Lib.hid hS
      have HBF := Lib.hid pf_base
      have HPB := Lib.hid (fun w => pBase_ok w)
      obtain ⟨F, hFF⟩ : ∃ F, F = baseF := ⟨_, rfl⟩
      rw [← hFF] at HBF HPB
      have G1 := Lib.hid (Rd.head (P := Tryz.prog) Tryz.underlying23 Tryz.info5 sl 64 sc 32 (by decide) hc1)
      obtain ⟨a2, g1, g2, g3⟩ := Rd.cut (P := Tryz.prog) Tryz.underlying23 Tryz.info5 sl 64 sc 32 64 (by decide) (Nat.le_refl _) hc1
      have G2 := Lib.hid g2
      obtain ⟨b1, o1, q1, l1, c1⟩ := (G1.out.2 _ _ HSG.out).formAt (by decide)
      obtain ⟨b2, o2, q2, l2, c2⟩ := (g3 _ _ HSG.out).2.formAt (by decide)
      subst q1; subst q2
      have HC1 := Lib.hid c1
      have HC2 := Lib.hid c2
      clear hD hK hS2 hF1 hFF hF hS hS0 hSn hFb hDb g1 g2 g3 c1 c2 h0 h1 hf hf2 hn hc2 HSG hc1
      go_upto_region 6 with (fail)
      refine region_vars (n := 50) (by kernel_rfl) (by kernel_rfl) (by kernel_rfl) rfl
        (isAl [(10, 8), (11, 9)]) (putOf [(10, 8), (11, 9)]) (fun _ => arr .u8 32 (fun _ => 0)) (fun i => match i with | 8 => (arr .u8 32 (dg 256 F1)) | 9 => (arr .u8 32 (dg 256 (S2 : Int))) | _ => #[]) (fun _ => 22) (fun i => match i with | 8 => 9 | 9 => 10 | _ => 0)
        (fun ii vv _ => (match ii with | 0 | 4 => vv = .slice (some ⟨b1, o1, none⟩) 64 sc | 1 => vv = .slice (some ⟨b1, o1, none⟩) 32 sc | 2 => vv = .pointer (some ⟨b1, o1, none⟩) | 3 => vv = .agg (arr .u8 32 (dg 256 F1)) | 5 => vv = .slice (some ⟨b2, o2, none⟩) (64 - 32) (sc - 32) | 6 => vv = .pointer (some ⟨b2, o2, none⟩) | 7 => vv = .agg (arr .u8 32 (dg 256 (S2 : Int))) | _ => True)) (fun _ _ => True) (fun _ _ _ => trivial) (fun _ _ _ _ _ _ _ => trivial) (fun _ _ _ _ h _ => h)
        (vs_al rfl) (vs_inj rfl) ?_ ?_ ?_ ?_
      · refine Each.all ?_
        refine ⟨?_, ?_, ?_, ?_, ?_, ?_, ?_, ?_, (fun h => by cases h), (fun h => by cases h), (fun _ h => by cases h), (fun _ h => by cases h), trivial⟩
        · intro _ _ a w2 hB hF hd
          rw [if_pos (wanted_none rfl)]
          exact flow_move _ (.inl rfl) (by simp) (hF.same 2 rfl)
        · intro _ _ a w2 hB hF hd
          rw [if_pos (wanted_none rfl)]
          exact flow_val (fun h => by cases h) (run_slice_part rfl (hd 0 _ rfl rfl rfl (waits_spec rfl)) (by simp only [Option.map_some, Option.map_none]; exact G1.out.1 _)) rfl
        · intro _ _ a w2 hB hF hd
          rw [if_pos (wanted_none rfl)]
          exact flow_val (fun h => by cases h) (run_to_array rfl (hd 1 _ rfl rfl rfl (waits_spec rfl)) Tryz.underlying22 (by decide)) rfl
        · intro _ _ a w2 hB hF hd
          rw [if_pos (wanted_none rfl)]
          exact flow_val (fun h => by cases h) (run_load_part rfl (hd 2 _ rfl rfl rfl (waits_spec rfl)) Tryz.underlying22 Tryz.size22 (fun i hi => (hB.cell (p := ⟨b1, o1 + i, none⟩) l1).trans (HC1.out i hi))) (congrArg Value.agg HFQ.out)
        · intro _ _ a w2 hB hF hd
          rw [if_pos (wanted_none rfl)]
          exact flow_move _ (.inl rfl) (by simp) (hF.same 2 rfl)
        · intro _ _ a w2 hB hF hd
          rw [if_pos (wanted_none rfl)]
          exact flow_val (fun h => by cases h) (run_slice_part rfl (hd 4 _ rfl rfl rfl (waits_spec rfl)) (by simp only [Option.map_some, Option.map_none]; exact G2.out _)) rfl
        · intro _ _ a w2 hB hF hd
          rw [if_pos (wanted_none rfl)]
          exact flow_val (fun h => by cases h) (run_to_array rfl (hd 5 _ rfl rfl rfl (waits_spec rfl)) Tryz.underlying22 (by decide)) rfl
        · intro _ _ a w2 hB hF hd
          rw [if_pos (wanted_none rfl)]
          exact flow_val (fun h => by cases h) (run_load_part rfl (hd 6 _ rfl rfl rfl (waits_spec rfl)) Tryz.underlying22 Tryz.size22 (fun i hi => (hB.cell (p := ⟨b2, o2 + i, none⟩) l2).trans (HC2.out i hi))) (congrArg Value.agg HSQ.out)
      · refine Each.all ?_
        refine ⟨(fun h => by cases h), (fun h => by cases h), (fun h => by cases h), (fun h => by cases h), (fun h => by cases h), (fun h => by cases h), (fun h => by cases h), (fun h => by cases h), ?_, ?_, (fun h => by cases h), (fun h => by cases h), trivial⟩
        · exact fun _ => ⟨rfl, rfl, fun a w2 K h => flow_alloc rfl rfl Tryz.zeroValue22 (by simp) h⟩
        · exact fun _ => ⟨rfl, rfl, fun a w2 K h => flow_alloc rfl rfl Tryz.zeroValue22 (by simp) h⟩
      · refine Each.all ?_
        refine ⟨(fun _ h => by cases h), (fun _ h => by cases h), (fun _ h => by cases h), (fun _ h => by cases h), (fun _ h => by cases h), (fun _ h => by cases h), (fun _ h => by cases h), (fun _ h => by cases h), (fun _ h => by cases h), (fun _ h => by cases h), ?_, ?_, trivial⟩
        · intro p hp
          obtain rfl : 8 = p := Option.some.inj hp
          exact ⟨rfl, rfl, ⟨_, rfl⟩, waits_spec rfl, fun a w2 b K hB hF hd hx hb h => flow_put rfl rfl Tryz.size22 hx (hd 3 _ rfl rfl rfl (waits_spec rfl)) hb h⟩
        · intro p hp
          obtain rfl : 9 = p := Option.some.inj hp
          exact ⟨rfl, rfl, ⟨_, rfl⟩, waits_spec rfl, fun a w2 b K hB hF hd hx hb h => flow_put rfl rfl Tryz.size22 hx (hd 7 _ rfl rfl rfl (waits_spec rfl)) hb h⟩
      · intro a w6 blk hB hF hS hv hfin hdis
        obtain ⟨v8, v8l, v8u⟩ := hv 8 _ rfl rfl
        obtain ⟨v9, v9l, v9u⟩ := hv 9 _ rfl rfl
        have ha := puts_each rfl rfl hF [_, _, _, _, _, _, _, _, _, _, undef, undef] rfl ⟨hS 0 _ rfl rfl rfl, hS 1 _ rfl rfl rfl, hS 2 _ rfl rfl rfl, hS 3 _ rfl rfl rfl, hS 4 _ rfl rfl rfl, hS 5 _ rfl rfl rfl, hS 6 _ rfl rfl rfl, hS 7 _ rfl rfl rfl, v8, v9, trivial, trivial, trivial⟩
        have f8 := hfin 10 _ 8 rfl rfl
        have f9 := hfin 11 _ 9 rfl rfl
        have d8_9 := hdis 8 9 _ _ rfl rfl rfl rfl (by decide)
        simp only [puts, Act.put, List.setIfInBounds_toArray, List.set_cons_succ, List.set_cons_zero] at ha
        subst ha
        have V8 : Arr .u8 w6 (blk 8) 32 (dg 256 F1) := ⟨_, f8⟩
        have V9 : Arr .u8 w6 (blk 9) 32 (dg 256 (S2 : Int)) := ⟨_, f9⟩
        clear hS hv hfin hdis hF v8 v9 f8 f9
        replace h3 := h3.kept hB
        replace h7 := h7.kept hB
        replace HT := Lib.hid (HT.out.below hB)
        replace hbel := hbel.trans (hB.mono hbel.size)
        obtain ⟨x9, e9⟩ : ∃ x, x = blk 8 := ⟨_, rfl⟩
        obtain ⟨x10, e10⟩ : ∃ x, x = blk 9 := ⟨_, rfl⟩
        rw [← e9] at V8 v8l ⊢
        rw [← e10] at V9 v9l ⊢
        have h9 := V8
        have h10 := V9
        clear hB V8 V9 v8l v8u v9l v9u d8_9 e9 e10 l1 l2 HC1 HC2 G1 G2 HFQ HSQ
        go_wp2_with (refine load_arr rfl 22 _ rfl .u8 x10 32 (dg 256 (S2 : Int)) 5 Tryz.underlying22 Tryz.size22 rfl h10 ?_)
        refine (HRT.out _).mono ?_
        rintro e w7 ⟨rfl, hb⟩
        replace h3 := h3.kept hb
        replace h7 := h7.kept hb
        replace h9 := h9.kept hb
        replace h10 := h10.kept hb
        replace HT := Lib.hid (HT.out.below hb)
        replace hbel := hbel.trans (hb.mono hbel.size)
        clear hb
        by_cases hlt : S2 < ordN
        case neg =>
          have HR := Lib.hid (HVR.out 22 ⟨fun h => absurd h hlt, fun _ => rfl⟩)
          rw [decide_eq_false hlt]
          clear hlt
          go_wp2
          go_ret
          exact ⟨_, rfl, HR.out, hbel⟩
        case pos =>
          rw [decide_eq_true hlt]
          have HLT := Lib.hid hlt
          clear hlt
          go_upto_region 9 with (fail)
          refine region_vars (n := 50) (by kernel_rfl) (by kernel_rfl) (by kernel_rfl) rfl
            (isAl [(6, 5)]) (putOf [(6, 5)]) (fun _ => arr .u8 32 (fun _ => 0)) (fun _ => (arr .u8 32 (dg 256 (K : Int)))) (fun _ => 22) (fun _ => 11)
            (fun ii vv ww => (match ii with | 0 => vv = .slice (some ⟨x9, 0, none⟩) 32 32 | 1 => vv = .slice (some ⟨w.heap.size, 0, none⟩) 32 32 | 2 => vv = .slice tl tn tc | 4 => vv = .agg (arr .u8 32 (dg 256 (K : Int))) | _ => True) ∧ (ii = 3 → LitAt ww vv 23 3 [.slice (some ⟨x9, 0, none⟩) 32 32, .slice (some ⟨w.heap.size, 0, none⟩) 32 32, .slice tl tn tc].toArray)) (KeepT [22]) (fun _ _ h => KeepT.below h) (fun w b cs p _ _ hz => KeepT.row hz rfl) (fun i v w w' h hE => ⟨h.1, fun e => LitAt.keepT rfl (h.2 e) hE⟩)
            (vs_al rfl) (vs_inj rfl) ?_ ?_ ?_ ?_
          · refine Each.all ?_
            refine ⟨?_, ?_, ?_, ?_, ?_, (fun h => by cases h), (fun _ h => by cases h), trivial⟩
            · intro _ _ a w2 hB hF hd
              rw [if_pos (wanted_none rfl)]
              exact flow_val (fun h => by cases h) (run_slice_arr rfl (hF.same 9 rfl) Tryz.underlying22 (by kernel_rfl)) ⟨rfl, fun h => absurd h (by decide)⟩
            · intro _ _ a w2 hB hF hd
              rw [if_pos (wanted_none rfl)]
              exact flow_val (fun h => by cases h) (run_slice_arr rfl (hF.same 3 rfl) Tryz.underlying22 (by kernel_rfl)) ⟨rfl, fun h => absurd h (by decide)⟩
            · intro _ _ a w2 hB hF hd
              rw [if_pos (wanted_none rfl)]
              exact flow_move _ (.inl rfl) (by simp) ⟨(hF.same 1 rfl), fun h => absurd h (by decide)⟩
            · intro _ _ a w2 hB hF hd
              rw [if_pos (wanted_none rfl)]
              exact flow_lits 83 23 3 _ [.slice (some ⟨x9, 0, none⟩) 32 32, .slice (some ⟨w.heap.size, 0, none⟩) 32 32, .slice tl tn tc] rfl Tryz.underlying83 (by kernel_rfl) (by kernel_rfl) rfl (by decide) (by decide) (by intro v hv; simp only [List.mem_cons, List.not_mem_nil, or_false] at hv; rcases hv with rfl | rfl | rfl <;> rfl) (by simp only [List.map_toArray, List.map_cons, List.map_nil, show a.eval (Operand.tmp 34) = .slice (some ⟨x9, 0, none⟩) 32 32 from ((hd 0 _ rfl rfl rfl (waits_spec rfl)).1), show a.eval (Operand.tmp 35) = .slice (some ⟨w.heap.size, 0, none⟩) 32 32 from ((hd 1 _ rfl rfl rfl (waits_spec rfl)).1), show a.eval (Operand.tmp 36) = .slice tl tn tc from ((hd 2 _ rfl rfl rfl (waits_spec rfl)).1)]; rfl) (by simp) ⟨trivial, fun _ => ((⟨_, rfl, heap_alloc_new _ _⟩))⟩
            · intro _ _ a w2 hB hF hd
              rw [if_pos (wanted_none rfl)]
              refine flow_call _ _ _ rfl Tryz.call23 _ (args1 rfl) (by simp) ((HNM.out w2 _ (((hd 3 _ rfl rfl rfl (waits_spec rfl)).2 rfl).txt3 ((h9.kept hB).rd (by decide)) ((h3.kept hB).rd (by decide)) (HT.out.below hB))).mono ?_)
              rintro e w3 ⟨rfl, hb⟩; exact ⟨_, rfl, ⟨rfl, fun h => absurd h (by decide)⟩, hb⟩
          · refine Each.all ?_
            refine ⟨(fun h => by cases h), (fun h => by cases h), (fun h => by cases h), (fun h => by cases h), (fun h => by cases h), ?_, (fun h => by cases h), trivial⟩
            · exact fun _ => ⟨rfl, rfl, fun a w2 K h => flow_alloc rfl rfl Tryz.zeroValue22 (by simp) h⟩
          · refine Each.all ?_
            refine ⟨(fun _ h => by cases h), (fun _ h => by cases h), (fun _ h => by cases h), (fun _ h => by cases h), (fun _ h => by cases h), (fun _ h => by cases h), ?_, trivial⟩
            · intro p hp
              obtain rfl : 5 = p := Option.some.inj hp
              exact ⟨rfl, rfl, ⟨_, rfl⟩, waits_spec rfl, fun a w2 b K hB hF hd hx hb h => flow_put rfl rfl Tryz.size22 hx ((hd 4 _ rfl rfl rfl (waits_spec rfl)).1) hb h⟩
          · intro a w8 blk hB hF hS hv hfin hdis
            obtain ⟨v5, v5l, v5u⟩ := hv 5 _ rfl rfl
            obtain ⟨x37, hx37⟩ : ∃ x, x = a.tmps.getD 37 undef := ⟨_, rfl⟩
            have ha := puts_each rfl rfl hF [_, _, _, x37, _, _, undef] rfl ⟨(hS 0 _ rfl rfl rfl).1, (hS 1 _ rfl rfl rfl).1, (hS 2 _ rfl rfl rfl).1, hx37.symm, (hS 4 _ rfl rfl rfl).1, v5, trivial, trivial⟩
            have f5 := hfin 6 _ 5 rfl rfl
            simp only [puts, Act.put, List.setIfInBounds_toArray, List.set_cons_succ, List.set_cons_zero] at ha
            subst ha
            clear hx37
            have V5 : Arr .u8 w8 (blk 5) 32 (dg 256 (K : Int)) := ⟨_, f5⟩
            clear hS hv hfin hdis hF v5 f5
            replace h7 := h7.kept hB
            replace h9 := h9.kept hB
            replace h10 := h10.kept hB
            replace hbel := hbel.trans (hB.mono hbel.size)
            obtain ⟨x11, e11⟩ : ∃ x, x = blk 5 := ⟨_, rfl⟩
            rw [← e11] at V5 ⊢
            have h11 := V5
            clear hB V5 v5l v5u e11 h3 HT
            go_upto_region 10 with (fail)
            by_cases hcm : bytesN D = F1
            case pos =>
              have HR := Lib.hid (HVR.out 0 ⟨fun _ => ⟨fun _ => rfl, fun h => absurd hcm h⟩, fun h => absurd HLT.out (by omega)⟩)
              have HQ : Hid (sameB 32 (dg 256 (bytesN D)) (dg 256 F1) = true) := by rw [HCM.out]; exact decide_eq_true hcm
              clear hcm
              refine region_flow (n := 50) (by kernel_rfl) (by kernel_rfl) (by kernel_rfl) rfl
                (fun ii vv ww => (match ii with | 0 => vv = .agg (arr .i64 64 (F)) | 1 => vv = .agg (arr .u8 32 (dg 256 (S2 : Int))) | 3 => vv = .agg (arr .i64 64 (F7)) | 4 => vv = .agg (arr .u8 32 (dg 256 (K : Int))) | 8 => vv = .agg (arr .u8 32 (dg 256 (bytesN D))) | 9 => vv = .agg (arr .u8 32 (dg 256 F1)) | 10 => vv = .bool false | _ => True) ∧ (ii = 2 → NPt vv (Bp.mul S2)) ∧ (ii = 5 → NPt vv (p.mul K)) ∧ (ii = 6 → NPt vv ((p.mul K).neg)) ∧ (ii = 7 → NPt vv ((Bp.mul S2).add ((p.mul K).neg))))
                (fun w w' => Below w.heap.size w w') (fun _ _ h => h) (fun i v w w' h hE => ⟨h.1, fun e => NPt.keep (h.2.1 e) hE, fun e => NPt.keep (h.2.2.1 e) hE, fun e => NPt.keep (h.2.2.2.1 e) hE, fun e => NPt.keep (h.2.2.2.2 e) hE⟩) ?_ ?_
              · refine Each.all ?_
                refine ⟨?_, ?_, ?_, ?_, ?_, ?_, ?_, ?_, ?_, ?_, ?_, trivial⟩
                · intro a w2 hB hF hd
                  rw [if_pos (wanted_none rfl)]
                  refine flow_call _ _ _ rfl Tryz.call24 _ args0 (by simp) ((HPB.out w2).mono ?_)
                  rintro e w3 ⟨rfl, hb⟩; exact ⟨_, rfl, ⟨rfl, fun h => absurd h (by decide), fun h => absurd h (by decide), fun h => absurd h (by decide), fun h => absurd h (by decide)⟩, hb⟩
                · intro a w2 hB hF hd
                  rw [if_pos (wanted_none rfl)]
                  exact flow_val (fun h => by cases h) (run_load_str rfl Tryz.underlying22 rfl Tryz.size22 (hF.same 10 rfl) (h10.below hB h10.lt)) ⟨rfl, fun h => absurd h (by decide), fun h => absurd h (by decide), fun h => absurd h (by decide), fun h => absurd h (by decide)⟩
                · intro a w2 hB hF hd
                  rw [if_pos (wanted_none rfl)]
                  refine flow_call _ _ _ rfl Tryz.call25 _ (args2 ((hd 0 _ rfl (waits_spec rfl)).1) ((hd 1 _ rfl (waits_spec rfl)).1)) (by simp) ((pMulN S2 HSL.out w2 ⟨_, rfl, HBF.out⟩).mono ?_)
                  rintro e w3 ⟨u, rfl, hr, hb⟩; exact ⟨u, rfl, ⟨trivial, fun _ => hr, fun h => absurd h (by decide), fun h => absurd h (by decide), fun h => absurd h (by decide)⟩, hb⟩
                · intro a w2 hB hF hd
                  rw [if_pos (wanted_none rfl)]
                  exact flow_val (fun h => by cases h) (run_load_str rfl Tryz.underlying55 rfl Tryz.size55 (hF.same 7 rfl) (h7.below hB h7.lt)) ⟨rfl, fun h => absurd h (by decide), fun h => absurd h (by decide), fun h => absurd h (by decide), fun h => absurd h (by decide)⟩
                · intro a w2 hB hF hd
                  rw [if_pos (wanted_none rfl)]
                  exact flow_val (fun h => by cases h) (run_load_str rfl Tryz.underlying22 rfl Tryz.size22 (hF.same 11 rfl) (h11.below hB h11.lt)) ⟨rfl, fun h => absurd h (by decide), fun h => absurd h (by decide), fun h => absurd h (by decide), fun h => absurd h (by decide)⟩
                · intro a w2 hB hF hd
                  rw [if_pos (wanted_none rfl)]
                  refine flow_call _ _ _ rfl Tryz.call25 _ (args2 ((hd 3 _ rfl (waits_spec rfl)).1) ((hd 4 _ rfl (waits_spec rfl)).1)) (by simp) ((pMulN K HKL.out w2 ⟨_, rfl, HPF.out⟩).mono ?_)
                  rintro e w3 ⟨u, rfl, hr, hb⟩; exact ⟨u, rfl, ⟨trivial, fun h => absurd h (by decide), fun _ => hr, fun h => absurd h (by decide), fun h => absurd h (by decide)⟩, hb⟩
                · intro a w2 hB hF hd
                  rw [if_pos (wanted_none rfl)]
                  refine flow_call _ _ _ rfl Tryz.call50 _ (args1 rfl) (by simp) ((pNegN w2 ((hd 5 _ rfl (waits_spec rfl)).2.2.1 rfl)).mono ?_)
                  rintro e w3 ⟨u, rfl, hr, hb⟩; exact ⟨u, rfl, ⟨trivial, fun h => absurd h (by decide), fun h => absurd h (by decide), fun _ => hr, fun h => absurd h (by decide)⟩, hb⟩
                · intro a w2 hB hF hd
                  rw [if_pos (wanted_none rfl)]
                  refine flow_call _ _ _ rfl Tryz.call49 _ (args2 rfl rfl) (by simp) ((pAddN w2 ((hd 2 _ rfl (waits_spec rfl)).2.1 rfl) ((hd 6 _ rfl (waits_spec rfl)).2.2.2.1 rfl)).mono ?_)
                  rintro e w3 ⟨u, rfl, hr, hb⟩; exact ⟨u, rfl, ⟨trivial, fun h => absurd h (by decide), fun h => absurd h (by decide), fun h => absurd h (by decide), fun _ => hr⟩, hb⟩
                · intro a w2 hB hF hd
                  rw [if_pos (wanted_none rfl)]
                  refine flow_call _ _ _ rfl Tryz.call26 _ (args1 rfl) (by simp) (((HD.out ▸ pBytesN w2 ((hd 7 _ rfl (waits_spec rfl)).2.2.2.2 rfl))).mono ?_)
                  rintro e w3 ⟨rfl, hb⟩; exact ⟨_, rfl, ⟨rfl, fun h => absurd h (by decide), fun h => absurd h (by decide), fun h => absurd h (by decide), fun h => absurd h (by decide)⟩, hb⟩
                · intro a w2 hB hF hd
                  rw [if_pos (wanted_none rfl)]
                  exact flow_val (fun h => by cases h) (run_load_str rfl Tryz.underlying22 rfl Tryz.size22 (hF.same 9 rfl) (h9.below hB h9.lt)) ⟨rfl, fun h => absurd h (by decide), fun h => absurd h (by decide), fun h => absurd h (by decide), fun h => absurd h (by decide)⟩
                · intro a w2 hB hF hd
                  rw [if_pos (wanted_none rfl)]
                  exact flow_val (fun h => by cases h) (run_neq_arr true rfl ((hd 8 _ rfl (waits_spec rfl)).1) ((hd 9 _ rfl (waits_spec rfl)).1) Tryz.underlying22 (by kernel_rfl) (by kernel_rfl) (by kernel_rfl) (by kernel_rfl) (by kernel_rfl) HQ.out) ⟨rfl, fun h => absurd h (by decide), fun h => absurd h (by decide), fun h => absurd h (by decide), fun h => absurd h (by decide)⟩
              · intro a w9 hB hF hS
                obtain ⟨x41, hx41⟩ : ∃ x, x = a.tmps.getD 41 undef := ⟨_, rfl⟩
                obtain ⟨x44, hx44⟩ : ∃ x, x = a.tmps.getD 44 undef := ⟨_, rfl⟩
                obtain ⟨x45, hx45⟩ : ∃ x, x = a.tmps.getD 45 undef := ⟨_, rfl⟩
                obtain ⟨x46, hx46⟩ : ∃ x, x = a.tmps.getD 46 undef := ⟨_, rfl⟩
                have ha := puts_each rfl rfl hF [_, _, x41, _, _, x44, x45, x46, _, _, _] rfl ⟨(hS 0 _ rfl).1, (hS 1 _ rfl).1, hx41.symm, (hS 3 _ rfl).1, (hS 4 _ rfl).1, hx44.symm, hx45.symm, hx46.symm, (hS 8 _ rfl).1, (hS 9 _ rfl).1, (hS 10 _ rfl).1, trivial⟩
                simp only [puts, Act.put, List.setIfInBounds_toArray, List.set_cons_succ, List.set_cons_zero] at ha
                subst ha
                clear hx41 hx44 hx45 hx46
                clear hS hF
                have hb9 := hbel.trans (hB.mono hbel.size)
                go_wp2
                go_ret
                exact ⟨_, rfl, HR.out, hb9⟩
            case neg =>
              have HR := Lib.hid (HVR.out 22 ⟨fun _ => ⟨fun h => absurd h hcm, fun _ => rfl⟩, fun _ => rfl⟩)
              have HQ : Hid (sameB 32 (dg 256 (bytesN D)) (dg 256 F1) = false) := by rw [HCM.out]; exact decide_eq_false hcm
              clear hcm
              refine region_flow (n := 50) (by kernel_rfl) (by kernel_rfl) (by kernel_rfl) rfl
                (fun ii vv ww => (match ii with | 0 => vv = .agg (arr .i64 64 (F)) | 1 => vv = .agg (arr .u8 32 (dg 256 (S2 : Int))) | 3 => vv = .agg (arr .i64 64 (F7)) | 4 => vv = .agg (arr .u8 32 (dg 256 (K : Int))) | 8 => vv = .agg (arr .u8 32 (dg 256 (bytesN D))) | 9 => vv = .agg (arr .u8 32 (dg 256 F1)) | 10 => vv = .bool true | _ => True) ∧ (ii = 2 → NPt vv (Bp.mul S2)) ∧ (ii = 5 → NPt vv (p.mul K)) ∧ (ii = 6 → NPt vv ((p.mul K).neg)) ∧ (ii = 7 → NPt vv ((Bp.mul S2).add ((p.mul K).neg))))
                (fun w w' => Below w.heap.size w w') (fun _ _ h => h) (fun i v w w' h hE => ⟨h.1, fun e => NPt.keep (h.2.1 e) hE, fun e => NPt.keep (h.2.2.1 e) hE, fun e => NPt.keep (h.2.2.2.1 e) hE, fun e => NPt.keep (h.2.2.2.2 e) hE⟩) ?_ ?_
              · refine Each.all ?_
                refine ⟨?_, ?_, ?_, ?_, ?_, ?_, ?_, ?_, ?_, ?_, ?_, trivial⟩
                · intro a w2 hB hF hd
                  rw [if_pos (wanted_none rfl)]
                  refine flow_call _ _ _ rfl Tryz.call24 _ args0 (by simp) ((HPB.out w2).mono ?_)
                  rintro e w3 ⟨rfl, hb⟩; exact ⟨_, rfl, ⟨rfl, fun h => absurd h (by decide), fun h => absurd h (by decide), fun h => absurd h (by decide), fun h => absurd h (by decide)⟩, hb⟩
                · intro a w2 hB hF hd
                  rw [if_pos (wanted_none rfl)]
                  exact flow_val (fun h => by cases h) (run_load_str rfl Tryz.underlying22 rfl Tryz.size22 (hF.same 10 rfl) (h10.below hB h10.lt)) ⟨rfl, fun h => absurd h (by decide), fun h => absurd h (by decide), fun h => absurd h (by decide), fun h => absurd h (by decide)⟩
                · intro a w2 hB hF hd
                  rw [if_pos (wanted_none rfl)]
                  refine flow_call _ _ _ rfl Tryz.call25 _ (args2 ((hd 0 _ rfl (waits_spec rfl)).1) ((hd 1 _ rfl (waits_spec rfl)).1)) (by simp) ((pMulN S2 HSL.out w2 ⟨_, rfl, HBF.out⟩).mono ?_)
                  rintro e w3 ⟨u, rfl, hr, hb⟩; exact ⟨u, rfl, ⟨trivial, fun _ => hr, fun h => absurd h (by decide), fun h => absurd h (by decide), fun h => absurd h (by decide)⟩, hb⟩
                · intro a w2 hB hF hd
                  rw [if_pos (wanted_none rfl)]
                  exact flow_val (fun h => by cases h) (run_load_str rfl Tryz.underlying55 rfl Tryz.size55 (hF.same 7 rfl) (h7.below hB h7.lt)) ⟨rfl, fun h => absurd h (by decide), fun h => absurd h (by decide), fun h => absurd h (by decide), fun h => absurd h (by decide)⟩
                · intro a w2 hB hF hd
                  rw [if_pos (wanted_none rfl)]
                  exact flow_val (fun h => by cases h) (run_load_str rfl Tryz.underlying22 rfl Tryz.size22 (hF.same 11 rfl) (h11.below hB h11.lt)) ⟨rfl, fun h => absurd h (by decide), fun h => absurd h (by decide), fun h => absurd h (by decide), fun h => absurd h (by decide)⟩
                · intro a w2 hB hF hd
                  rw [if_pos (wanted_none rfl)]
                  refine flow_call _ _ _ rfl Tryz.call25 _ (args2 ((hd 3 _ rfl (waits_spec rfl)).1) ((hd 4 _ rfl (waits_spec rfl)).1)) (by simp) ((pMulN K HKL.out w2 ⟨_, rfl, HPF.out⟩).mono ?_)
                  rintro e w3 ⟨u, rfl, hr, hb⟩; exact ⟨u, rfl, ⟨trivial, fun h => absurd h (by decide), fun _ => hr, fun h => absurd h (by decide), fun h => absurd h (by decide)⟩, hb⟩
                · intro a w2 hB hF hd
                  rw [if_pos (wanted_none rfl)]
                  refine flow_call _ _ _ rfl Tryz.call50 _ (args1 rfl) (by simp) ((pNegN w2 ((hd 5 _ rfl (waits_spec rfl)).2.2.1 rfl)).mono ?_)
                  rintro e w3 ⟨u, rfl, hr, hb⟩; exact ⟨u, rfl, ⟨trivial, fun h => absurd h (by decide), fun h => absurd h (by decide), fun _ => hr, fun h => absurd h (by decide)⟩, hb⟩
                · intro a w2 hB hF hd
                  rw [if_pos (wanted_none rfl)]
                  refine flow_call _ _ _ rfl Tryz.call49 _ (args2 rfl rfl) (by simp) ((pAddN w2 ((hd 2 _ rfl (waits_spec rfl)).2.1 rfl) ((hd 6 _ rfl (waits_spec rfl)).2.2.2.1 rfl)).mono ?_)
                  rintro e w3 ⟨u, rfl, hr, hb⟩; exact ⟨u, rfl, ⟨trivial, fun h => absurd h (by decide), fun h => absurd h (by decide), fun h => absurd h (by decide), fun _ => hr⟩, hb⟩
                · intro a w2 hB hF hd
                  rw [if_pos (wanted_none rfl)]
                  refine flow_call _ _ _ rfl Tryz.call26 _ (args1 rfl) (by simp) (((HD.out ▸ pBytesN w2 ((hd 7 _ rfl (waits_spec rfl)).2.2.2.2 rfl))).mono ?_)
                  rintro e w3 ⟨rfl, hb⟩; exact ⟨_, rfl, ⟨rfl, fun h => absurd h (by decide), fun h => absurd h (by decide), fun h => absurd h (by decide), fun h => absurd h (by decide)⟩, hb⟩
                · intro a w2 hB hF hd
                  rw [if_pos (wanted_none rfl)]
                  exact flow_val (fun h => by cases h) (run_load_str rfl Tryz.underlying22 rfl Tryz.size22 (hF.same 9 rfl) (h9.below hB h9.lt)) ⟨rfl, fun h => absurd h (by decide), fun h => absurd h (by decide), fun h => absurd h (by decide), fun h => absurd h (by decide)⟩
                · intro a w2 hB hF hd
                  rw [if_pos (wanted_none rfl)]
                  exact flow_val (fun h => by cases h) (run_neq_arr false rfl ((hd 8 _ rfl (waits_spec rfl)).1) ((hd 9 _ rfl (waits_spec rfl)).1) Tryz.underlying22 (by kernel_rfl) (by kernel_rfl) (by kernel_rfl) (by kernel_rfl) (by kernel_rfl) HQ.out) ⟨rfl, fun h => absurd h (by decide), fun h => absurd h (by decide), fun h => absurd h (by decide), fun h => absurd h (by decide)⟩
              · intro a w9 hB hF hS
                obtain ⟨x41, hx41⟩ : ∃ x, x = a.tmps.getD 41 undef := ⟨_, rfl⟩
                obtain ⟨x44, hx44⟩ : ∃ x, x = a.tmps.getD 44 undef := ⟨_, rfl⟩
                obtain ⟨x45, hx45⟩ : ∃ x, x = a.tmps.getD 45 undef := ⟨_, rfl⟩
                obtain ⟨x46, hx46⟩ : ∃ x, x = a.tmps.getD 46 undef := ⟨_, rfl⟩
                have ha := puts_each rfl rfl hF [_, _, x41, _, _, x44, x45, x46, _, _, _] rfl ⟨(hS 0 _ rfl).1, (hS 1 _ rfl).1, hx41.symm, (hS 3 _ rfl).1, (hS 4 _ rfl).1, hx44.symm, hx45.symm, hx46.symm, (hS 8 _ rfl).1, (hS 9 _ rfl).1, (hS 10 _ rfl).1, trivial⟩
                simp only [puts, Act.put, List.setIfInBounds_toArray, List.set_cons_succ, List.set_cons_zero] at ha
                subst ha
                clear hx41 hx44 hx45 hx46
                clear hS hF
                have hb9 := hbel.trans (hB.mono hbel.size)
                go_wp2
                go_ret
                exact ⟨_, rfl, HR.out, hb9⟩
end Go.Proofs.YtdhejcaapdhhfaaGreat

namespace Go.Proofs.YtdhejcaapdhhfaaGreat
open Go.RowKit Go.Bas Go.ChangeShapes
attribute [local go_sem ↓] Go.wp_at_zero Go.wp_at_succ
theorem catF_lo {n : Nat} {f g : Nat → Int} {i : Nat} (h : i < n) : catF n f g i = f i := by unfold catF; rw [if_pos h]
theorem catF_hi {n : Nat} {f g : Nat → Int} (i : Nat) : catF n f g (n + i) = g i := by unfold catF; rw [if_neg (by omega), show n + i - n = i by omega]
theorem p256 : (256 : Int) ^ 32 = 2 ^ 256 := by decide
theorem verF_cat (X : Int) (g : Nat → Int) (h0 : 0 ≤ X) (h1 : X < 2 ^ 256) : verF (catF 32 (dg 256 X) g) = X := by
  unfold verF
  rw [sm_congr (g := dg 256 X) (fun i hi => catF_lo hi), sm_dg (by decide), Int.emod_eq_of_lt h0 (by rw [p256]; exact h1)]
theorem verS_cat (f : Nat → Int) (S : Nat) (h : S < 2 ^ 256) : verS (catF 32 f (dg 256 (S : Int))) = S := by
  unfold verS
  rw [sm_congr (g := dg 256 (S : Int)) (fun i _ => catF_hi i), sm_dg (by decide), Int.emod_eq_of_lt (by omega) (by rw [p256]; omega)]
  exact Int.toNat_natCast S
theorem sigF_b (P f : Nat → Int) (n : Nat) : 0 ≤ sigF P f n ∧ sigF P f n < 2 ^ 256 := bytesN_bound _
/-- what is signed, in the group. -/
theorem sig_group (A : Nat) (P U f : Nat → Int) (n : Nat) : Bp.mul (sigS A P U f n) = ((Bp.mul A).mul (sigK P U f n)).add (Bp.mul (sigR P f n)) := by
  unfold sigS
  rw [base_mod', Ed.mul_add, base_mod', Nat.mul_comm, Ed.mul_mul]
theorem add_neg_mid (p q : Ed C7) : (p.add q).add p.neg = q := by
  rw [Ed.add_comm p q, Ed.add_assoc, Ed.add_neg, Ed.add_zero]
theorem verK_of (U : Int) (P f g : Nat → Int) (n : Nat) : verK U n f (catF 32 (dg 256 (sigF P f n)) g) = sigK P (dg 256 U) f n := by
  unfold verK sigK
  rw [verF_cat _ _ (sigF_b P f n).1 (sigF_b P f n).2]
/-- a signature holds. -/
theorem ver_back {S : Int} {n : Nat} {f : Nat → Int} {c : Int} (h : VerR (sdU S) n f 64 (sdB S f n) c) : c = 0 := by
  have h1 := (h.2 rfl).2 (Bp.mul (sdA S)) rfl
  have hS : verS (sdB S f n) = sigS (sdA S) (sdP S) (dg 256 (sdU S)) f n := verS_cat _ _ (Nat.lt_trans (sigS_lt _ _ _ _ _) (by decide))
  have hF : verF (sdB S f n) = sigF (sdP S) f n := verF_cat _ _ (sigF_b _ _ _).1 (sigF_b _ _ _).2
  refine (h1.2 (by rw [hS]; exact sigS_lt _ _ _ _ _)).1 ?_
  unfold verD
  rw [hS, hF]
  unfold sdB sigB
  rw [verK_of, sig_group, add_neg_mid]
  rfl
theorem sdB_ne (S : Int) (f : Nat → Int) (n : Nat) : sameB 64 (sdB S f n) (fun _ => 0) = false := by
  refine sameB_no fun h => base_bytes_ne (sigR (sdP S) f n) ?_
  have h2 : sm 256 (dg 256 (sigF (sdP S) f n)) 32 = sm 256 (fun _ => 0) 32 := sm_congr fun i hi => by
    rw [← h i (by omega)]; exact (catF_lo hi).symm
  rw [sm_dg (by decide), sm_zero', Int.emod_eq_of_lt (sigF_b _ _ _).1 (by rw [p256]; exact (sigF_b _ _ _).2)] at h2
  exact h2
theorem sdB_b (S : Int) (f : Nat → Int) (n i : Nat) : 0 ≤ sdB S f n i ∧ sdB S f n i < 256 := by
  unfold sdB sigB catF
  split
  · exact dg_bound (by decide) _ _
  · exact dg_bound (by decide) _ _
theorem sdU_b (S : Int) : 0 ≤ sdU S ∧ sdU S < 2 ^ 256 := bytesN_bound _
/-- Verify of what is signed. -/
theorem sgVer_ok (S : Int) (t s : Value) (n : Nat) (f : Nat → Int) (w : World) (ht : Rd .u8 w t n f) (hs : Rd .u8 w s 64 (sdB S f n)) (hn : n ≤ 900000) (hf : ∀ i, i < n → 0 ≤ f i ∧ f i < 256) :
    Calls Tryz.prog 21 #[.agg (arr .u8 32 (dg 256 (sdU S))), t, s] w fun e w' => e = .returned (.int .i64 0) ∧ Below w.heap.size w w' := by
  refine (sgVerify_any (sdU S) (sdU_b S).1 (sdU_b S).2 t s n 64 f (sdB S f n) w ht hs hn hf (fun i _ => sdB_b S f n i)).mono ?_
  rintro e w' ⟨c, rfl, hc, hb⟩
  obtain rfl := ver_back hc
  exact ⟨rfl, hb⟩
theorem build_one4 {a : Act} (w : World) : (Instr.build 22 ((#[(0, .const (.int .u8 1))] : Array (Nat × Operand)).map fun (i, x) => (i, a.eval x))).run Tryz.prog w = .ok (.agg (arr .u8 32 (dg 256 1))) w := Go.run_build w _ _ _ (by kernel_rfl)
theorem build_none64 {a : Act} (w : World) : (Instr.build 29 ((#[] : Array (Nat × Operand)).map fun (i, x) => (i, a.eval x))).run Tryz.prog w = .ok (.agg (arr .u8 64 (fun _ => 0))) w := Go.run_build w _ _ _ (by kernel_rfl)

set_option maxRecDepth 100000 in
set_option maxHeartbeats 3200000 in
theorem sgAwake_any (w : World) : Calls Tryz.prog 6 #[] w fun e w' => e = .returned (.bool true) ∧ Below w.heap.size w w' := by
  have HSN : Hid (∀ w t, Rd .u8 w t 1 (fun _ => 2) → Calls Tryz.prog 10 #[.agg (arr .u8 32 (dg 256 1)), t] w fun e w' => e = .returned (.agg (arr .u8 64 (sdB 1 (fun _ => 2) 1))) ∧ Below w.heap.size w w') := fun w t h => sgSign_any 1 t 1 _ w h (by decide) (fun i _ => by decide)
  have HPU := Lib.hid (fun w => sgPublic_any 1 w)
  have HVE : Hid (∀ w t s, Rd .u8 w t 1 (fun _ => 2) → Rd .u8 w s 64 (sdB 1 (fun _ => 2) 1) → Calls Tryz.prog 21 #[.agg (arr .u8 32 (dg 256 (sdU 1))), t, s] w fun e w' => e = .returned (.int .i64 0) ∧ Below w.heap.size w w') := fun w t s ht hs => sgVer_ok 1 t s 1 _ w ht hs (by decide) (fun i _ => by decide)
  have HNE := Lib.hid (sdB_ne 1 (fun _ => 2) 1)
  have HB1 := Lib.hid (fun (a : Act) w => build_one4 (a := a) w)
  have HB0 := Lib.hid (fun (a : Act) w => build_none64 (a := a) w)
  obtain ⟨SB, hSB⟩ : ∃ SB, SB = sdB 1 (fun _ => 2) 1 := ⟨_, rfl⟩
  rw [← hSB] at HSN HVE HNE
  obtain ⟨U, hU⟩ : ∃ U, U = sdU 1 := ⟨_, rfl⟩
  rw [← hU] at HPU HVE
  obtain ⟨D1, hD1⟩ : ∃ D1, D1 = dg 256 1 := ⟨_, rfl⟩
  rw [← hD1] at HSN HPU HB1
  clear hSB hU hD1
  go_enter Tryz.func6, Tryz.ntmps6
  go_wp2_with (refine step_val rfl (run_built rfl (HB1.out _ _)) ?_)
  refine (HSN.out _ _ (by simpa using lit1_rd (w := w) (T := 5) (x := 2))).mono ?_
  rintro e w1 ⟨rfl, hb⟩
  have hbel : Below w.heap.size w w1 := ((Below.refl w.heap.size w).alloc (Nat.le_refl _) _).trans (hb.mono (by simp))
  clear hb
  go_upto_region 2 with (refine store_arr rfl 29 _ _ rfl .u8 w1.heap.size 64 (fun _ => 0) SB Tryz.size29 rfl rfl (Arr.newAt rfl (by rfl)) ?_)
  refine wp_world (fun w3 => Arr .u8 w3 w1.heap.size 64 SB ∧ Below w.heap.size w w3) ⟨(Arr.newAt rfl (by rfl) : Arr .u8 _ _ 64 (fun _ => 0)).setRow _ _, below_setRow' (hbel.alloc hbel.size _) hbel.size _⟩ ?_
  clear hbel
  rintro w3 ⟨h1, hbel⟩
  obtain ⟨x1, e1⟩ : ∃ x, x = w1.heap.size := ⟨_, rfl⟩
  rw [← e1] at h1 ⊢
  clear e1
  try simp only [Act.put, List.setIfInBounds_toArray, List.set_cons_succ, List.set_cons_zero]
  refine region_flow (n := 18) (by kernel_rfl) (by kernel_rfl) (by kernel_rfl) rfl
    (fun ii vv ww => (match ii with | 0 | 3 | 4 | 5 | 11 | 12 | 13 => vv = .bool true | 1 => vv = .agg (arr .u8 64 (SB)) | 2 => vv = .agg (arr .u8 64 (fun _ => 0)) | 6 => vv = .agg (arr .u8 32 (D1)) | 7 => vv = .agg (arr .u8 32 (dg 256 U)) | 9 => vv = .slice (some ⟨x1, 0, none⟩) 64 64 | 10 => vv = .int .i64 (0) | _ => True) ∧ (ii = 8 → Rd .u8 ww vv 1 (fun _ => 2)))
    (fun w w' => Below w.heap.size w w') (fun _ _ h => h) (fun i v w w' h hE => ⟨h.1, fun e => Rd.below (h.2 e) hE⟩) ?_ ?_
  · refine Each.all ?_
    refine ⟨?_, ?_, ?_, ?_, ?_, ?_, ?_, ?_, ?_, ?_, ?_, ?_, ?_, ?_, trivial⟩
    · intro a w2 hB hF hd
      rw [if_pos (wanted_none rfl)]
      exact flow_move _ (.inl rfl) (by simp) ⟨rfl, fun h => absurd h (by decide)⟩
    · intro a w2 hB hF hd
      refine flow_wanted (wanted_yes rfl rfl ((hd 0 _ rfl (waits_spec rfl)).1) rfl) ?_
      exact flow_val (fun h => by cases h) (run_load_str rfl Tryz.underlying29 rfl Tryz.size29 (hF.same 1 rfl) (h1.below hB h1.lt)) ⟨rfl, fun h => absurd h (by decide)⟩
    · intro a w2 hB hF hd
      refine flow_wanted (wanted_yes rfl rfl ((hd 0 _ rfl (waits_spec rfl)).1) rfl) ?_
      exact flow_val (fun h => by cases h) (run_built rfl (HB0.out _ _)) ⟨rfl, fun h => absurd h (by decide)⟩
    · intro a w2 hB hF hd
      refine flow_wanted (wanted_yes rfl rfl ((hd 0 _ rfl (waits_spec rfl)).1) rfl) ?_
      exact flow_val (fun h => by cases h) (run_neq_arr false rfl ((hd 1 _ rfl (waits_spec rfl)).1) ((hd 2 _ rfl (waits_spec rfl)).1) Tryz.underlying29 (by kernel_rfl) (by kernel_rfl) (by kernel_rfl) (by kernel_rfl) (by kernel_rfl) HNE.out) ⟨rfl, fun h => absurd h (by decide)⟩
    · intro a w2 hB hF hd
      rw [if_pos (wanted_none rfl)]
      exact flow_val (fun h => by cases h) (run_pick rfl ((hd 0 _ rfl (waits_spec rfl)).1)) ⟨(((hd 3 _ rfl (waits_spec rfl)).1)), fun h => absurd h (by decide)⟩
    · intro a w2 hB hF hd
      rw [if_pos (wanted_none rfl)]
      exact flow_move _ (.inl rfl) (by simp) ⟨((hd 4 _ rfl (waits_spec rfl)).1), fun h => absurd h (by decide)⟩
    · intro a w2 hB hF hd
      refine flow_wanted (wanted_yes rfl rfl ((hd 5 _ rfl (waits_spec rfl)).1) rfl) ?_
      exact flow_val (fun h => by cases h) (run_built rfl (HB1.out _ _)) ⟨rfl, fun h => absurd h (by decide)⟩
    · intro a w2 hB hF hd
      refine flow_wanted (wanted_yes rfl rfl ((hd 5 _ rfl (waits_spec rfl)).1) rfl) ?_
      refine flow_call _ _ _ rfl Tryz.call11 _ (args1 ((hd 6 _ rfl (waits_spec rfl)).1)) (by simp) ((HPU.out w2).mono ?_)
      rintro e w3 ⟨rfl, hb⟩; exact ⟨_, rfl, ⟨rfl, fun h => absurd h (by decide)⟩, hb⟩
    · intro a w2 hB hF hd
      refine flow_wanted (wanted_yes rfl rfl ((hd 5 _ rfl (waits_spec rfl)).1) rfl) ?_
      exact flow_lits 23 5 1 _ [.int .u8 (2)] rfl Tryz.underlying23 (by kernel_rfl) (by kernel_rfl) rfl (by decide) (by decide) (by intro v hv; simp only [List.mem_cons, List.not_mem_nil, or_false] at hv; rcases hv with rfl <;> rfl) (by simp only [List.map_toArray, List.map_cons, List.map_nil, show a.eval (Operand.const (Value.int .u8 2)) = .int .u8 (2) from rfl]; rfl) (by simp) ⟨trivial, fun _ => (lit1_rd)⟩
    · intro a w2 hB hF hd
      refine flow_wanted (wanted_yes rfl rfl ((hd 5 _ rfl (waits_spec rfl)).1) rfl) ?_
      exact flow_val (fun h => by cases h) (run_slice_arr rfl (hF.same 1 rfl) Tryz.underlying29 (by kernel_rfl)) ⟨rfl, fun h => absurd h (by decide)⟩
    · intro a w2 hB hF hd
      refine flow_wanted (wanted_yes rfl rfl ((hd 5 _ rfl (waits_spec rfl)).1) rfl) ?_
      refine flow_call _ _ _ rfl Tryz.call21 _ (args3 ((hd 7 _ rfl (waits_spec rfl)).1) rfl ((hd 9 _ rfl (waits_spec rfl)).1)) (by simp) ((HVE.out w2 _ _ ((hd 8 _ rfl (waits_spec rfl)).2 rfl) ((h1.kept hB).rd (by decide))).mono ?_)
      rintro e w3 ⟨rfl, hb⟩; exact ⟨_, rfl, ⟨rfl, fun h => absurd h (by decide)⟩, hb⟩
    · intro a w2 hB hF hd
      refine flow_wanted (wanted_yes rfl rfl ((hd 5 _ rfl (waits_spec rfl)).1) rfl) ?_
      refine flow_val (fun h => by cases h) (Go.Bas.run_eql_int rfl ((hd 10 _ rfl (waits_spec rfl)).1) rfl) ?_
      exact ⟨rfl, fun h => absurd h (by decide)⟩
    · intro a w2 hB hF hd
      rw [if_pos (wanted_none rfl)]
      exact flow_val (fun h => by cases h) (run_pick rfl ((hd 5 _ rfl (waits_spec rfl)).1)) ⟨(((hd 11 _ rfl (waits_spec rfl)).1)), fun h => absurd h (by decide)⟩
    · intro a w2 hB hF hd
      rw [if_pos (wanted_none rfl)]
      exact flow_move _ (.inr rfl) (by simp) ⟨((hd 12 _ rfl (waits_spec rfl)).1), fun h => absurd h (by decide)⟩
  · intro a w4 hB hF hS
    obtain ⟨x13, hx13⟩ : ∃ x, x = a.tmps.getD 13 undef := ⟨_, rfl⟩
    have ha := puts_each rfl rfl hF [_, _, _, _, _, _, _, _, x13, _, _, _, _, _] rfl ⟨(hS 0 _ rfl).1, (hS 1 _ rfl).1, (hS 2 _ rfl).1, (hS 3 _ rfl).1, (hS 4 _ rfl).1, (hS 5 _ rfl).1, (hS 6 _ rfl).1, (hS 7 _ rfl).1, hx13.symm, (hS 9 _ rfl).1, (hS 10 _ rfl).1, (hS 11 _ rfl).1, (hS 12 _ rfl).1, (hS 13 _ rfl).1, trivial⟩
    simp only [puts, Act.put, List.setIfInBounds_toArray, List.set_cons_succ, List.set_cons_zero] at ha
    subst ha
    clear hx13
    clear hS hF
    have hb4 := hbel.trans (hB.mono hbel.size)
    go_wp2
    go_ret
    exact ⟨rfl, hb4⟩
end Go.Proofs.YtdhejcaapdhhfaaGreat
