/-
  The law of graphs: numbers among numbers, two lists of numbers, the graph of pairs. Conditions: named in each theorem.
-/
import Derived.Test.YtlmdgmgbijfaoaaGiO
set_option linter.unusedVariables false
set_option linter.unusedSimpArgs false
namespace Go.Bas
open Go.RowKit
/-- the cells of pairs. -/
def pv (L : List (Int × Int)) : Nat → Nat → Value := fun j i => match L[j]? with | some e => .int .i64 (if i = 0 then e.1 else e.2) | none => undef
theorem pv_at {L : List (Int × Int)} {j i : Nat} {e : Int × Int} (h : L[j]? = some e) : pv L j i = .int .i64 (if i = 0 then e.1 else e.2) := by unfold pv; rw [h]
end Go.Bas
namespace Go.Proofs.Ytlmdgmgbijfaoaa
open Go.RowKit Go.Bas Go.ChangeShapes Go.Maps
attribute [local go_sem ↓] Go.wp_at_zero Go.wp_at_succ
set_option maxRecDepth 100000 in
theorem inR_any (L : List Int) (v : Value) (x : Int) (w : World) (h : Mat w v L.length 1 (lv kvI L)) (hl : L.length ≤ 1000000) : Calls Try.prog 37 #[v, .int .i64 x] w fun e w' => e = .returned (.bool (decide (x ∈ L))) ∧ w' = w := by
  obtain ⟨a, cap, rfl, hcap, hcap2, hcell⟩ := h.one
  have HC := Lib.hid hcell
  clear h hcell
  obtain ⟨R, hR⟩ : ∃ R, R = decide (x ∈ L) := ⟨_, rfl⟩
  rw [← hR]
  have HR := Lib.hid hR
  clear hR
  go_enter Try.func37, Try.ntmps37
  go_wp2
  go_loop [5] (fun i => ∃ k : Nat, k ≤ L.length ∧ i = .int .i64 k ∧ ∀ j, j < k → L[j]? ≠ some x) (fun i => L.length - (intOf i).toNat)
  case atStart => exact ⟨0, Nat.zero_le _, rfl, fun j hj => absurd hj (Nat.not_lt_zero _)⟩
  case round =>
    obtain ⟨k, hk, rfl, hno⟩ := hrel
    have HNO := Lib.hid hno
    clear hno
    by_cases hlt : k < L.length
    · obtain ⟨b, o, rfl, _, z0⟩ := HC.out k hlt
      obtain ⟨y, hy⟩ : ∃ y, L[k]? = some y := ⟨_, List.getElem?_eq_getElem hlt⟩
      rw [lv_at hy] at z0
      have HY := Lib.hid hy
      have hk9 : (k : Int) < 1000000 := by omega
      clear hy
      by_cases hxy : y = x
      · obtain rfl := hxy
        have HT : Hid (R = true) := Lib.hid (by rw [HR.out]; exact decide_eq_true (List.mem_of_getElem? HY.out))
        go_wp2
        go_ret
        rw [HT.out]
        exact ⟨rfl, rfl⟩
      · have hbq : (y == x) = false := by simpa using hxy
        have HN2 : Hid (∀ j, j < k + 1 → L[j]? ≠ some x) := fun j hj => by
          by_cases e : j = k
          · subst e
            rw [HY.out]
            intro e2
            exact hxy (Option.some.inj e2)
          · exact HNO.out j (by omega)
        go_wp2
        go_round
        case rel => exact ⟨k + 1, by omega, by go_num, HN2.out⟩
        case measure => simp [intOf]; omega
    · obtain rfl : k = L.length := by omega
      have HT : Hid (R = false) := Lib.hid (by
        rw [HR.out]
        refine decide_eq_false fun hm => ?_
        obtain ⟨j, hj, e⟩ := List.mem_iff_getElem.1 hm
        exact HNO.out j hj (by rw [List.getElem?_eq_getElem hj, e]))
      go_wp2
      go_ret
      rw [HT.out]
      exact ⟨rfl, rfl⟩
set_option maxRecDepth 100000 in
theorem ints_any (L M : List Int) (va vb : Value) (w : World) (ha : Mat w va L.length 1 (lv kvI L)) (hb : Mat w vb M.length 1 (lv kvI M)) (hl : L.length ≤ 1000000) : Calls Try.prog 39 #[va, vb] w fun e w' => e = .returned (.bool (decide (L = M))) ∧ Below w.heap.size w w' := by
  obtain ⟨a, cap, rfl, hcap, hcap2, hcell⟩ := ha.one
  obtain ⟨a2, cap2, rfl, hcap3, hcap4, hcell2⟩ := hb.one
  have HC := Lib.hid hcell
  have HC2 := Lib.hid hcell2
  clear ha hb hcell hcell2
  obtain ⟨R, hR⟩ : ∃ R, R = decide (L = M) := ⟨_, rfl⟩
  rw [← hR]
  have HR := Lib.hid hR
  clear hR
  by_cases hlm : L.length = M.length
  · obtain ⟨n, hn⟩ : ∃ n, n = L.length := ⟨_, rfl⟩
    have HN := Lib.hid hn
    have HM : Hid (M.length = n) := Lib.hid (by rw [hn, hlm])
    rw [HM.out, ← hn]
    rw [← hn] at hl
    clear hlm hn
    go_enter Try.func39, Try.ntmps39
    go_wp2
    go_loopw [5] (fun i wr => ∃ k : Nat, k ≤ n ∧ i = .int .i64 k ∧ (∀ j, j < k → L[j]? = M[j]?) ∧ Below w.heap.size w wr) (fun i _ => n - (intOf i).toNat)
    case atStart => exact ⟨0, Nat.zero_le _, rfl, fun j hj => absurd hj (Nat.not_lt_zero _), Below.refl _ _⟩
    case round =>
      obtain ⟨k, hk, rfl, hsame, hBe⟩ := hrel
      have HS := Lib.hid hsame
      have HBe := Lib.hid hBe
      clear hsame hBe
      by_cases hlt : k < n
      · obtain ⟨b, o, rfl, hb1, z1⟩ := HC.out k (by rw [← HN.out]; exact hlt)
        obtain ⟨b2, o2, rfl, hb2, z2⟩ := HC2.out k (by rw [HM.out]; exact hlt)
        obtain ⟨x, hx⟩ : ∃ x, L[k]? = some x := ⟨_, List.getElem?_eq_getElem (by rw [← HN.out]; exact hlt)⟩
        obtain ⟨y, hy⟩ : ∃ y, M[k]? = some y := ⟨_, List.getElem?_eq_getElem (by rw [HM.out]; exact hlt)⟩
        rw [lv_at hx] at z1
        rw [lv_at hy] at z2
        replace z1 := (HBe.out.cell (p := ⟨b, o + k, none⟩) hb1).trans z1
        replace z2 := (HBe.out.cell (p := ⟨b2, o2 + k, none⟩) hb2).trans z2
        have HX := Lib.hid hx
        have HY := Lib.hid hy
        have hk9 : (k : Int) < 1000000 := by omega
        clear hx hy
        by_cases hxy : x = y
        · have hq : (x == y) = true := by simpa using hxy
          have HN2 : Hid (∀ j, j < k + 1 → L[j]? = M[j]?) := fun j hj => by
            by_cases e : j = k
            · subst e
              rw [HX.out, HY.out, hxy]
            · exact HS.out j (by omega)
          subst hxy
          clear hq
          go_wp2
          go_quiet (fail)
          go_wp2
          have NB := Lib.hid (Go.Bas.below_drewN HBe.out nq)
          go_roundw
          case rel => exact ⟨k + 1, by omega, by go_num, HN2.out, NB.out⟩
          case measure => simp [intOf]; omega
        · have hq : (x == y) = false := by simpa using hxy
          have HT : Hid (R = false) := Lib.hid (by
            rw [HR.out]
            refine decide_eq_false fun hm => ?_
            have h1 := HX.out
            rw [hm, HY.out] at h1
            exact hxy (Option.some.inj h1).symm)
          have hq2 : (x != y) = true := by simpa using hxy
          clear hq hxy hcap hcap2 hcap3 hcap4 hl
          go_wp2
          go_quiet (fail)
          go_wp2
          go_ret
          rw [HT.out]
          exact ⟨rfl, Go.Bas.below_drewN HBe.out _⟩
      · obtain rfl : k = n := by omega
        have HT : Hid (R = true) := Lib.hid (by
          rw [HR.out]
          refine decide_eq_true (List.ext_getElem? fun j => ?_)
          by_cases hj : j < k
          · exact HS.out j hj
          · rw [List.getElem?_eq_none (by rw [← HN.out]; omega), List.getElem?_eq_none (by rw [HM.out]; omega)])
        go_wp2
        go_ret
        rw [HT.out]
        exact ⟨rfl, HBe.out⟩
  · have hne : ¬ ((L.length : Int) = (M.length : Int)) := by omega
    have HT : Hid (R = false) := Lib.hid (by
      rw [HR.out]
      exact decide_eq_false fun hm => hlm (by rw [hm]))
    clear hlm
    go_enter Try.func39, Try.ntmps39
    go_wp2
    go_ret
    rw [HT.out]
    exact ⟨rfl, Below.refl _ _⟩
theorem Try.sizeP : (Try.prog.info? 63).map (·.size) = some 2 := by kernel_rfl
set_option maxRecDepth 100000 in
set_option maxHeartbeats 800000 in
theorem graph_any (L : List (Int × Int)) (v : Value) (w : World) (h : Mat w v L.length 2 (pv L)) (hok : ∀ e, e ∈ L → okI e.1 ∧ okI e.2) (hl : L.length ≤ 1000) : Calls Try.prog 35 #[v] w fun e w' => ∃ p F, e = .returned (.pointer (some ⟨p, 0, none⟩)) ∧ GEI w.heap.size w' p F (onceL L) ∧ Below w.heap.size w w' := by
  obtain ⟨a, cap, rfl, hcap, hcap2, hcell⟩ := h
  have HC := Lib.hid hcell
  have HOK := Lib.hid hok
  clear hcell hok
  obtain ⟨B, hB⟩ : ∃ x, x = w.heap.size := ⟨_, rfl⟩
  have HB := Lib.hid hB
  rw [← hB]
  clear hB
  go_enter Try.func35, Try.ntmps35
  go_wp2_with fail
  refine (newGEI_any w).mono ?_
  rintro e w1 ⟨p, F, rfl, h1, b1⟩
  have H1 := Lib.hid h1
  have B1 := Lib.hid b1
  rw [← HB.out] at H1 B1
  clear h1 b1
  go_wp2
  go_loopw [9] (fun i wr => ∃ k : Nat, k ≤ L.length ∧ i = .int .i64 k ∧ (∃ F, GEI B wr p F (onceL (L.take k))) ∧ Below B w wr) (fun i _ => L.length - (intOf i).toNat)
  case atStart => exact ⟨0, Nat.zero_le _, rfl, ⟨F, H1.out⟩, B1.out⟩
  case round =>
    obtain ⟨k, hk, rfl, ⟨F1, hG⟩, hBe⟩ := hrel
    have HG := Lib.hid hG
    have HBe := Lib.hid hBe
    clear hG hBe
    by_cases hlt : k < L.length
    · obtain ⟨b, o, rfl, hb, hc⟩ := HC.out (by omega)
      obtain ⟨⟨x, y⟩, hxy⟩ : ∃ e, L[k]? = some e := ⟨_, List.getElem?_eq_getElem hlt⟩
      have HCL : Hid (∀ i, i < 2 → wr.cell? ⟨b, o + k * 2 + i, none⟩ = some (pv L k i)) := fun i hi => (HBe.out.cell (p := ⟨b, o + k * 2 + i, none⟩) (HB.out ▸ hb)).trans (hc k hlt i hi)
      have HOC : Hid (∀ i, i < 2 → (pv L k i).oneCell' = true) := fun i hi => by rw [pv_at hxy]; rfl
      have HXY := Lib.hid hxy
      have hk9 : (k : Int) < 1000000 := by omega
      clear hc hxy
      go_upto_region 5 with (first | (refine load_row rfl rfl rfl Try.underlying63 rfl Try.sizeP HCL.out ?_) | (refine store_rowV rfl 63 _ _ rfl wr.heap.size 2 (pv L k) _ 63 (heap_alloc_new _ _) rfl Try.sizeP rfl rfl HOC.out ?_))
      refine wp_world (fun w5 => RowN w5 wr.heap.size 2 63 (pv L k) ∧ Below wr.heap.size wr w5) ⟨RowN.setRow (heap_alloc_new _ _), below_setRow' ((Below.refl _ _).alloc (Nat.le_refl _) _) (Nat.le_refl _) _⟩ ?_
      rintro w5 ⟨hr5, hb5⟩
      have e0 := hr5.2 0 (by decide)
      have e1 := hr5.2 1 (by decide)
      rw [pv_at HXY.out, if_pos rfl] at e0
      rw [pv_at HXY.out, if_neg (by decide)] at e1
      have hokx := HOK.out _ (List.mem_of_getElem? HXY.out)
      have HOKX := Lib.hid hokx
      have G5 := Lib.hid (HG.out.below hb5)
      have B5 := Lib.hid (HBe.out.trans (hb5.mono (by have := HBe.out.size; have := HB.out; omega)))
      have HSZ := Lib.hid (show B ≤ w5.heap.size by have := B5.out.size; have := HB.out; omega)
      clear hr5 hb5 hokx HCL
      go_wp2_with fail
      refine (edgeI_any G5.out HSZ.out x y HOKX.out.1 HOKX.out.2 (Nat.le_trans (onceL_len _) (by rw [List.length_take]; omega))).mono ?_
      rintro e w6 ⟨rfl, F', hg6, hc6, _⟩
      have HG6 : Hid (∃ F, GEI B w6 p F (onceL (L.take (k + 1)))) := by
        refine ⟨F', ?_⟩
        rw [List.take_add_one, HXY.out]
        exact (onceL_snoc (L.take k) (x, y)).symm ▸ hg6
      have HB6 := Lib.hid (B5.out.trans (hc6.below HSZ.out fun b hb => G5.out.hi hb))
      clear hg6 hc6
      go_wp2
      go_roundw
      case rel => exact ⟨k + 1, by omega, by go_num, HG6.out, HB6.out⟩
      case measure => simp [intOf]; omega
    · obtain rfl : k = L.length := by omega
      obtain ⟨F9, hF9⟩ : ∃ F, GEI B wr p F (onceL L) := by have := HG.out; rw [List.take_length] at this; exact ⟨_, this⟩
      have HF9 := Lib.hid hF9
      clear hF9
      go_wp2
      go_ret
      first | exact ⟨_, rfl, ⟨_, HF9.out⟩, HBe.out⟩ | exact ⟨_, _, rfl, HF9.out, HBe.out⟩
end Go.Proofs.Ytlmdgmgbijfaoaa
