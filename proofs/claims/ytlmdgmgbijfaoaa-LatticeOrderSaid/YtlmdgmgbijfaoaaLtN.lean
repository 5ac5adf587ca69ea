/-
  Graphs of ints: a graph that is none. Conditions: named in each theorem.
-/
import Derived.Test.YtlmdgmgbijfaoaaLtO
set_option linter.unusedVariables false
set_option linter.unusedSimpArgs false
namespace Go.Proofs.Ytlmdgmgbijfaoaa
open Go.RowKit Go.Bas Go.ChangeShapes Go.Maps
attribute [local go_sem ↓] Go.wp_at_zero Go.wp_at_succ
set_option maxRecDepth 100000 in
theorem lenI_nil (w : World) : Calls Try.prog 42 #[.pointer none] w fun e w' => e = .returned (.tuple #[.int .i64 0, .int .i64 0]) ∧ w' = w := by
  go_enter Try.func42, Try.ntmps42
  go_wp2_with fail
  refine (isI_nil w).mono ?_
  rintro e w' ⟨rfl, rfl⟩
  go_wp2
  go_ret2
  exact ⟨rfl, rfl⟩
set_option maxRecDepth 100000 in
theorem edgeI_nil (w : World) (x y : Int) : Calls Try.prog 40 #[.pointer none, kvI x, kvI y] w fun e w' => e = .returned (.int .i64 1) ∧ w' = w := by
  go_enter Try.func40, Try.ntmps40
  go_wp2_with fail
  refine (isI_nil w).mono ?_
  rintro e w' ⟨rfl, rfl⟩
  go_wp2
  go_ret
  exact ⟨rfl, rfl⟩
set_option maxRecDepth 100000 in
set_option maxHeartbeats 3200000 in
theorem searchI_nil (fr : List Int) (v : Value) (w : World) (hv : Mat w v fr.length 1 (lv kvI fr)) (hok : ∀ x, x ∈ fr → okI x) (hfr : fr.length ≤ 1000) : Calls Try.prog 89 #[.pointer none, v] w fun e w' => ∃ va vb, e = .returned (.tuple #[va, vb]) ∧ (∃ mbs, SI w.heap.size w' mbs va vb (seqI fr)) ∧ Below w.heap.size w w' := by
  obtain ⟨a, cap, rfl, hcap, hcap2, hcell⟩ := hv.one
  have HC := Lib.hid hcell
  have HOK := Lib.hid hok
  have HFR := Lib.hid hfr
  obtain ⟨B0, hB0⟩ : ∃ x, x = w.heap.size := ⟨_, rfl⟩
  have HB0 := Lib.hid hB0
  rw [← hB0]
  have hfr9 := hfr
  obtain ⟨s, hs⟩ : ∃ s, s = seqI fr := ⟨_, rfl⟩
  rw [← hs]
  have HSQ : Hid (List.foldl (vis (-1)) (([], []) : List Int × List Int) fr = s) := Lib.hid hs.symm
  clear hcell hv hok hfr hB0 hs
  have hmk : ∀ w, (Instr.makeMap 152 none).run Try.prog w = .ok (.map (some w.heap.size)) (w.alloc (.map #[] 0)) := fun w => rfl
  go_enter Try.func89, Try.ntmps89
  go_upto_region 2 with (fail)
  clear hmk
  refine wp_world (fun w1 => ∃ mbs, mbs = w.heap.size ∧ SI B0 w1 mbs (.slice none 0 0) (.slice none 0 0) ([], []) ∧ Below B0 w w1) ⟨w.heap.size, rfl, Sr.start (Nat.le_of_eq HB0.out), (Below.refl _ _).alloc (Nat.le_of_eq HB0.out) _⟩ ?_
  rintro w1 ⟨mbs, hmbs, hs1, hb1⟩
  rw [← hmbs]
  have S0 := Lib.hid hs1
  have B1 := Lib.hid hb1
  clear hmbs hs1 hb1
  go_wp2
  go_loopw [22, 4, 5] (fun i all by_ wr => ∃ k : Nat, k ≤ fr.length ∧ i = .int .i64 k ∧ SI B0 wr mbs all by_ ((fr.take k).foldl (vis (-1)) ([], [])) ∧ Below B0 w wr) (fun i _ _ _ => fr.length - (intOf i).toNat)
  case atStart => exact ⟨0, Nat.zero_le _, rfl, S0.out, B1.out⟩
  case round =>
    obtain ⟨k, hk, rfl, hS, hBe⟩ := hrel
    have HBe := Lib.hid hBe
    have HS := Lib.hid hS
    clear hBe hS
    by_cases hlt : k < fr.length
    · obtain ⟨b, o, rfl, hbl, z0⟩ := HC.out k hlt
      obtain ⟨x, hx⟩ : ∃ x, fr[k]? = some x := ⟨_, List.getElem?_eq_getElem hlt⟩
      rw [lv_at hx] at z0
      have z1 := (HBe.out.cell (p := ⟨b, o + k, none⟩) (HB0.out ▸ hbl)).trans z0
      have hstep := visL_snoc (i := -1) (s := (([], []) : List Int × List Int)) hx
      have HOKX := Lib.hid (HOK.out x (List.mem_of_getElem? hx))
      have hlen := visL_bound (-1) (fr.take k) (([], []) : List Int × List Int)
      have hll := visL_len (-1) (fr.take k) (([], []) : List Int × List Int) rfl
      obtain ⟨s1, hs⟩ : ∃ s1, s1 = (fr.take k).foldl (vis (-1)) (([], []) : List Int × List Int) := ⟨_, rfl⟩
      rw [← hs] at HS hstep hlen hll
      have HST := Lib.hid hstep
      have HLEN := Lib.hid (show s1.1.length ≤ 3000 by have := HFR.out; rw [List.length_take] at hlen; simp only [List.length_nil] at hlen; omega)
      have HLL := Lib.hid hll
      clear hs hx z0 hstep hlen hll
      by_cases hin : x ∈ s1.1
      · have l1 := keyI.lookYes HS.out.map hin
        have HNX := Lib.hid (HST.out.trans (vis_in hin))
        clear hin
        go_wp2
        go_roundw
        case rel => first | exact ⟨k + 1, by omega, by go_num, by rw [HNX.out]; exact HS.out, HBe.out⟩ | ((repeat apply Exists.intro); exact ⟨⟨k + 1, by omega, by go_num, by rw [HNX.out]; exact HS.out, HBe.out⟩, rfl⟩)
        case measure => simp [intOf]; omega
      · have hnot : x ∉ s1.1 := hin
        have l1 := keyI.lookNo HS.out.map HOKX.out hin
        have HNX := Lib.hid (HST.out.trans (vis_out hin))
        clear hin
        obtain ⟨wm, hrun, hm1, hg1⟩ := keyI.put HS.out.map HOKX.out hnot (by have := HLEN.out; omega)
        have HM1 := Lib.hid hm1
        have HG1 := Lib.hid hg1
        have A1 := HS.out.all.chg (Chg.of_grown (F := fun b => b = mbs) hg1 fun b hb => by cases hb; rfl) fun b hb e => HS.out.all.noMap HS.out.map (e ▸ hb)
        have Y1 := HS.out.by_.chg (Chg.of_grown (F := fun b => b = mbs) hg1 fun b hb => by cases hb; rfl) fun b hb e => HS.out.by_.noMap HS.out.map (e ▸ hb)
        obtain ⟨aA, cA, eA, _⟩ := A1.slice
        obtain ⟨aY, cY, eY, _⟩ := Y1.slice
        subst eA
        subst eY
        have A1 := Lib.hid A1
        have Y1 := Lib.hid Y1
        have AP := Lib.hid HS.out.apart
        clear hm1 hg1 hnot
        go_wp2_with (first | (refine wpList_append_lit rfl _ _ rfl rfl rfl A1.out Try.underlying56 Try.info3 rfl rfl rfl (by have := HLEN.out; unfold maxLen; omega) (by have := HLEN.out; omega) ?_; intro v2 w2 ho2 hg2 hp2; have Y2 := Lib.hid (Y1.out.chg (Chg.of_lit hg2) fun b hb e => AP.out b e hb); have O2 := Lib.hid ho2; have G2 := Lib.hid hg2; have P2 := Lib.hid hp2; obtain ⟨a2, q2, rfl, _⟩ := ho2.slice; clear ho2 hg2 hp2) | (refine wpList_append_lit rfl _ _ rfl rfl rfl Y2.out Try.underlying56 Try.info3 rfl rfl rfl (by have := HLEN.out; have := HLL.out; unfold maxLen; omega) (by have := HLEN.out; have := HLL.out; omega) ?_; intro v3 w3 ho3 hg3 hp3; have O3 := Lib.hid ho3; have G3 := Lib.hid hg3; have P3 := Lib.hid hp3; obtain ⟨a3, q3, rfl, _⟩ := ho3.slice; clear ho3 hg3 hp3))
        obtain ⟨HS3, HB3⟩ := HS.out.add (k := x) (i := -1) (by have := HBe.out.size; have := HB0.out; omega) HM1.out HG1.out O2.out rfl G2.out P2.out O3.out rfl G3.out P3.out
        have HS3 := Lib.hid HS3
        have HB3 := Lib.hid (HBe.out.trans HB3)
        go_roundw
        case rel => first | exact ⟨k + 1, by omega, by go_num, by rw [HNX.out]; exact HS3.out, HB3.out⟩ | ((repeat apply Exists.intro); exact ⟨⟨k + 1, by omega, by go_num, by rw [HNX.out]; exact HS3.out, HB3.out⟩, rfl⟩)
        case measure => simp [intOf]; omega
    · obtain rfl : k = fr.length := by omega
      have hs1 := HS.out
      rw [List.take_length] at hs1
      have S1 := Lib.hid hs1
      clear hs1 HS S0 B1 hlt
      rw [HSQ.out] at S1
      go_wp2
      go_loopw [11, 4, 5] (fun i all by_ wr => i = .int .i64 0 ∧ SI B0 wr mbs all by_ s ∧ Below B0 w wr) (fun i _ _ _ => 0)
      case atStart => exact ⟨rfl, S1.out, HBe.out⟩
      case round =>
        obtain ⟨rfl, hS1, hBe1⟩ := hrel
        have S2 := Lib.hid hS1
        have HB2 := Lib.hid hBe1
        clear hS1 hBe1
        obtain ⟨aA, cA, eA, _⟩ := S2.out.all.slice
        obtain ⟨aY, cY, eY, _⟩ := S2.out.by_.slice
        subst eA
        subst eY
        by_cases hl : 0 < s.1.length
        · have hl9 : (0 : Int) < (s.1.length : Int) := by omega
          go_wp2_with fail
          refine (isI_nil _).mono ?_
          rintro e w' ⟨rfl, rfl⟩
          go_wp2
          go_ret2
          exact ⟨_, _, rfl, ⟨mbs, S2.out⟩, HB2.out⟩
        · have hl9 : ¬ (0 : Int) < (s.1.length : Int) := by omega
          go_wp2
          go_ret2
          exact ⟨_, _, rfl, ⟨mbs, S2.out⟩, HB2.out⟩
set_option maxRecDepth 100000 in
theorem reachI_nil (fr : List Int) (v : Value) (w : World) (hv : Mat w v fr.length 1 (lv kvI fr)) (hok : ∀ x, x ∈ fr → okI x) (hfr : fr.length ≤ 1000) : Calls Try.prog 38 #[.pointer none, v] w fun e w' => ∃ va, e = .returned va ∧ OwM 3 1 w' va (seqI fr).1.length (lv kvI (seqI fr).1) ∧ Below w.heap.size w w' := by
  have HS := Lib.hid (searchI_nil fr v w hv hok hfr)
  obtain ⟨a, cap, rfl, _⟩ := hv.one
  obtain ⟨SS, hSS⟩ : ∃ s, s = seqI fr := ⟨_, rfl⟩
  rw [← hSS] at HS ⊢
  clear hv hok hfr hSS
  go_enter Try.func38, Try.ntmps38
  go_wp2_with fail
  refine HS.out.mono ?_
  rintro e w' ⟨va, vb, rfl, ⟨mbs, hs⟩, hb⟩
  have S1 := Lib.hid hs
  have B1 := Lib.hid hb
  obtain ⟨a1, c1, rfl, _⟩ := hs.all.slice
  clear hs hb
  go_wp2
  go_ret
  exact ⟨_, rfl, S1.out.all, B1.out⟩
end Go.Proofs.Ytlmdgmgbijfaoaa
