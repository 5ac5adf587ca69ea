/-
  The document's graphs: a path. Conditions: named in each theorem.
-/
import Derived.Test.YtlmdgmgbijfaoaaLtG
import Derived.Test.YtlmdgmgbijfaoaaLtD
set_option linter.unusedVariables false
set_option linter.unusedSimpArgs false
namespace Go.Proofs.Ytlmdgmgbijfaoaa
open Go.RowKit Go.Bas Go.ChangeShapes Go.Maps
attribute [local go_sem ↓] Go.wp_at_zero Go.wp_at_succ
set_option maxRecDepth 100000 in
set_option maxHeartbeats 3200000 in
theorem pathR_any (E : List (Int × Int)) (u : Value) (w : World) (hu : Mat w u E.length 2 (pv E)) (hE : E.length ≤ 1000) (to : Int) (fr : List Int) (v : Value) (hv : Mat w v fr.length 1 (lv kvI fr)) (hfr : fr.length ≤ 1000) : Calls Try.prog 44 #[u, .int .i64 to, v] w fun e w' => ∃ va, e = .returned (.tuple #[va, .bool (decide (to ∈ (srch E fr).1))]) ∧ OwM 3 1 w' va (wayTo (srch E fr) to).length (lv kvI (wayTo (srch E fr) to)) ∧ Below w.heap.size w w' := by
  have HS := Lib.hid (searchR_any E u w hu hE fr v hv hfr)
  obtain ⟨a, cap, rfl, _⟩ := hv
  obtain ⟨ae, ce, rfl, _⟩ := hu
  have HSL := Lib.hid (srch_len E fr)
  have HND := Lib.hid (srch_nodup E fr)
  have HBD := Lib.hid (show (srch E fr).1.length ≤ 2000 by have := srch_bound E fr; omega)
  have HBY : Hid (∀ (j : Nat) (b : Int), (srch E fr).2[j]? = some b → b = -1 ∨ ∃ a : Nat, b = a ∧ a < j) := fun j b hb => by
    have hj : j < (srch E fr).1.length := by rw [srch_len]; exact (List.getElem?_eq_some_iff.1 hb).1
    rcases srch_by hb (List.getElem?_eq_getElem hj) with ⟨h, _⟩ | ⟨a, h1, h2, _⟩
    · exact .inl h
    · exact .inr ⟨a, h1, h2⟩
  obtain ⟨SS, hSS⟩ : ∃ s, s = srch E fr := ⟨_, rfl⟩
  rw [← hSS] at HS HSL HBD HBY HND ⊢
  obtain ⟨WT, hWT⟩ : ∃ l, l = wayTo SS to := ⟨_, rfl⟩
  rw [← hWT]
  have HWT0 := Lib.hid hWT
  clear hfr hE hSS hWT
  go_enter Try.func44, Try.ntmps44
  go_wp2_with fail
  refine HS.out.mono ?_
  rintro e w1 ⟨va, vb, rfl, hs, hb⟩
  have S1 := Lib.hid hs
  have B1 := Lib.hid hb
  obtain ⟨a1, c1, rfl, _⟩ := hs.all.slice
  obtain ⟨a2, c2, rfl, _⟩ := hs.by_.slice
  clear hs hb
  go_wp2
  go_loop [10] (fun i => ∃ k : Nat, k ≤ SS.1.length ∧ i = .int .i64 k ∧ ∀ j, j < k → SS.1[j]? ≠ some to) (fun i => SS.1.length - (intOf i).toNat)
  case atStart => exact ⟨0, Nat.zero_le _, rfl, fun j hj => absurd hj (Nat.not_lt_zero _)⟩
  case round =>
    obtain ⟨k, hk, rfl, hno⟩ := hrel
    have HNO := Lib.hid hno
    clear hno
    by_cases hlt : k < SS.1.length
    · obtain ⟨y, hy⟩ : ∃ y, SS.1[k]? = some y := ⟨_, List.getElem?_eq_getElem hlt⟩
      obtain ⟨ga, ca, ea, _, _, _, hcella⟩ := S1.out.all.form (by omega)
      simp only [Value.slice.injEq, true_and] at ea
      obtain ⟨rfl, rfl⟩ := ea
      have z1 := hcella k hlt 0 (by decide)
      rw [show k * 1 + 0 = k by omega, lv_at hy] at z1
      have HY := Lib.hid hy
      have HCA := Lib.hid hcella
      have hk9 : (k : Int) < 1000000 := by have := HBD.out; omega
      have HKL := Lib.hid hlt
      clear hy hcella
      by_cases hyt : y = to
      · obtain rfl := hyt
        have hbq : (y == y) = true := by simp
        have HIN := Lib.hid (List.mem_of_getElem? HY.out)
        have hpk : plc SS.1 y = k := plc_at HND.out HY.out
        have HWT : Hid (WT = (atP SS (wayI SS k)).reverse) := HWT0.out.trans (by unfold wayTo; rw [if_pos HIN.out, hpk])
        obtain ⟨P, hP⟩ : ∃ P, P = k := ⟨_, rfl⟩
        have HPL : Hid (P < SS.1.length) := Lib.hid (by rw [hP]; exact hlt)
        rw [← hP] at HWT
        clear hpk
        go_wp2_with (simp only [Bool.not_true, Bool.not_false])
        rw [← hP]
        clear hP z1
        go_loopw [12, 11] (fun i out wr => ∃ (done : List Nat) (f : Nat) (cur : Int), i = .int .i64 cur ∧ wayI SS P = done ++ chn SS.2 f cur ∧ -1 ≤ cur ∧ cur < f ∧ cur < SS.1.length ∧ OwM 3 1 wr out (atP SS done).reverse.length (lv kvI (atP SS done).reverse) ∧ (∀ b, out.ownBlock = some b → w1.heap.size ≤ b) ∧ Below w1.heap.size w1 wr) (fun i _ _ => (intOf i + 1).toNat)
        case atStart => exact ⟨[], P + 1, P, rfl, rfl, by omega, by omega, by have := HPL.out; omega, OwM.nil _ _ _ _, (fun b hb => by cases hb), Below.refl _ _⟩
        case round =>
          obtain ⟨done, f, cur, rfl, hway, hc1, hc2, hc3, hO, hhi, hBe⟩ := hrel
          have HW := Lib.hid hway
          have HO := Lib.hid hO
          have HHI := Lib.hid hhi
          have HBe := Lib.hid hBe
          have hdl : (atP SS done).length ≤ 2001 := by
            have h1 := atP_len SS done
            have h2 := chn_len SS.2 (P + 1) P
            have h3 : (wayI SS P).length ≤ P + 1 := h2
            rw [hway, List.length_append] at h3
            have := HPL.out
            have := HBD.out
            omega
          have HDL : Hid ((atP SS done).reverse.length ≤ 2001) := Lib.hid (by rw [List.length_reverse]; exact hdl)
          obtain ⟨R, hR⟩ : ∃ R, R = (atP SS done).reverse := ⟨_, rfl⟩
          rw [← hR] at HO HDL
          have HRR := Lib.hid hR
          obtain ⟨ao, co, eo, _⟩ := HO.out.slice
          subst eo
          clear hway hO hhi hBe hdl hR
          by_cases hneg : cur < 0
          · have hge : ¬ (0 : Int) ≤ cur := by omega
            have HDW : Hid (WT = R) := Lib.hid (by rw [HWT.out, HW.out, chn_neg _ _ hneg, List.append_nil, HRR.out])
            clear hc1 hc2 hc3
            go_wp2
            go_ret2
            rw [HDW.out, decide_eq_true HIN.out]
            exact ⟨_, rfl, HO.out, B1.out.trans (HBe.out.mono B1.out.size)⟩
          · obtain ⟨c, rfl⟩ := Int.eq_ofNat_of_zero_le (show 0 ≤ cur by omega)
            have hge : (0 : Int) ≤ (c : Int) := by omega
            have hcl : c < SS.1.length := by omega
            obtain ⟨f', b, rfl, hb, hch, hb1, hb2, hb3, hb4⟩ := chn_next HSL.out HBY.out (show c < f by omega) hcl
            obtain ⟨x, hx⟩ : ∃ x, SS.1[c]? = some x := ⟨_, List.getElem?_eq_getElem hcl⟩
            have HNW : Hid (wayI SS P = (done ++ [c]) ++ chn SS.2 f' b) := Lib.hid (by rw [HW.out, hch, List.append_assoc]; rfl)
            have HAT : Hid ((atP SS (done ++ [c])).reverse = [x] ++ R) := Lib.hid (by rw [atP_snoc (l := done) hx, List.reverse_append, HRR.out]; rfl)
            have SW := S1.out.below HBe.out
            obtain ⟨ga', ca', ea', _, _, _, hcella⟩ := SW.all.form (by omega)
            simp only [Value.slice.injEq, true_and] at ea'
            obtain ⟨e1, e2⟩ := ea'
            cases e1
            have z1 := hcella c hcl 0 (by decide)
            rw [show c * 1 + 0 = c by omega, lv_at hx] at z1
            have hsl := HSL.out
            obtain ⟨gb, cb, eb, _, _, _, hcellb⟩ := SW.by_.form (by omega)
            simp only [Value.slice.injEq, true_and] at eb
            obtain ⟨rfl, rfl⟩ := eb
            have z2 := hcellb c (by omega) 0 (by decide)
            rw [show c * 1 + 0 = c by omega, lv_at hb] at z2
            have hc9 : (c : Int) < (SS.1.length : Int) := by omega
            have hc8 : (c : Int) < (SS.2.length : Int) := by omega
            have HZ2 := Lib.hid z2
            have HGB := Lib.hid ((S1.out.below HBe.out).by_.lt gb rfl)
            have HBB := Lib.hid (And.intro hb1 (And.intro hb2 (And.intro hb3 hb4)))
            have HC9 := Lib.hid hc9
            clear hcella hcellb SW hsl hb hx hch z2 hcl hb1 hb2 hb3 hb4 hc1 hc2 hc3 hneg e2
            go_wp2_with (refine wpList_append_ints [x] R rfl _ _ rfl rfl (OwM.new _ 3 1 (cs := #[.int .i64 x]) (n := 1) (by unfold maxLen; omega) rfl (by intro j hj i hi; have e1 : j = 0 := (by omega); have e2 : i = 0 := (by omega); subst e1; subst e2; rfl)) Try.underlying56 Try.info3 rfl rfl (HO.out.mat.below ((Below.refl _ _).alloc (Nat.le_refl _) _)) HO.out.nilOk (by have := HDL.out; unfold maxLen; simp only [List.length_cons, List.length_nil]; omega) (by have := HDL.out; simp only [List.length_cons, List.length_nil]; omega) ?_
                         intro v5 w5 ho5 hg5 hp5
                         have B5 : Hid (Below wr.heap.size wr w5) := Lib.hid (((Below.refl _ _).alloc (Nat.le_refl _) _).grown hg5 (by rw [World.size_alloc]; omega) fun b hb => by cases hb; exact Nat.le_refl _)
                         have O5 := Lib.hid ho5
                         have H5 : Hid (∀ b, v5.ownBlock = some b → w1.heap.size ≤ b) := Lib.hid fun b hb => by
                           have h2 := HBe.out.size
                           rcases hp5 with h | h
                           · rw [h] at hb; cases hb; exact h2
                           · have h1 := h b hb; rw [World.size_alloc] at h1; omega
                         have z2 := (B5.out.cell (p := ⟨gb, c, none⟩) HGB.out).trans HZ2.out
                         rw [← HAT.out] at O5
                         have C5 := Lib.hid (HBe.out.trans (B5.out.mono HBe.out.size))
                         clear ho5 hg5 hp5)
            go_roundw
            case rel => first | exact ⟨done ++ [c], f', b, rfl, HNW.out, HBB.out.1, HBB.out.2.1, HBB.out.2.2.1, O5.out, H5.out, C5.out⟩ | ((repeat apply Exists.intro); exact ⟨⟨done ++ [c], f', b, rfl, HNW.out, HBB.out.1, HBB.out.2.1, HBB.out.2.2.1, O5.out, H5.out, C5.out⟩, rfl⟩)
            case measure => have := HBB.out; simp [intOf]; omega
      · have hbq : (y == to) = false := by simpa using hyt
        have HN2 : Hid (∀ j, j < k + 1 → SS.1[j]? ≠ some to) := fun j hj => by
          by_cases e : j = k
          · subst e
            rw [HY.out]
            intro e2
            exact hyt (Option.some.inj e2)
          · exact HNO.out j (by omega)
        have hbn : (y != to) = true := by simpa using hyt
        clear hbq hyt
        go_wp2
        go_round
        case rel => exact ⟨k + 1, by have := HKL.out; omega, by go_num, HN2.out⟩
        case measure => have := HKL.out; simp [intOf]; omega
    · obtain rfl : k = SS.1.length := by omega
      have HIN : Hid (¬ to ∈ SS.1) := Lib.hid fun hm => by
        obtain ⟨j, hj, e⟩ := List.mem_iff_getElem.1 hm
        exact HNO.out j hj (by rw [List.getElem?_eq_getElem hj, e])
      have HWT : Hid (WT = []) := HWT0.out.trans (by unfold wayTo; rw [if_neg HIN.out])
      go_wp2
      go_ret2
      rw [HWT.out, decide_eq_false HIN.out]
      first
        | exact ⟨_, rfl, OwM.nil _ _ _ _, B1.out⟩
        | exact ⟨_, rfl, OwM.nil _ _ _ _, Go.Bas.below_drewN B1.out _⟩
end Go.Proofs.Ytlmdgmgbijfaoaa
