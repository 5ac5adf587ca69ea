/-
  Graphs of int: an order. Conditions: named in each theorem.
-/
import Derived.Test.YtlmdgmgbijfaoaaGi7
import Derived.Test.YtlmdgmgbijfaoaaGrO
set_option linter.unusedVariables false
set_option linter.unusedSimpArgs false
namespace Go.Bas
open Go.RowKit
theorem Own.owm {k : IntKind} {e : TypeId} {base : Nat} {w : World} {v : Value} {n : Nat} {f : Nat → Int} (h : Own k e base w v n f) : OwM e 1 w v n (fun j _ => .int k (f j)) := by
  refine OwM.of_owns (Own.mono h (Nat.zero_le _)) fun j hj i hi => ?_
  obtain rfl : i = 0 := by omega
  rw [show j * 1 + 0 = j by omega]
  exact vals_get hj
/-- how long a slice is. -/
def lenOf : Value → Nat | .slice _ n _ => n | _ => 0
/-- one number of an own list is written. -/
theorem OwM.setI {e : TypeId} {w : World} {g n cap : Nat} {f f' : Nat → Int} {k : IntKind} (h : OwM e 1 w (.slice (some ⟨g, 0, none⟩) n cap) n (fun j _ => .int k (f j))) (m : Nat) (hm : m < n) (x : Int) (hf : ∀ j, j < n → f' j = if j = m then x else f j) : OwM e 1 (w.setCell ⟨g, m, none⟩ (.int k x)) (.slice (some ⟨g, 0, none⟩) n cap) n (fun j _ => .int k (f' j)) := by
  have h1 := h.set m 0 hm (by decide) (.int k x)
  rw [show m * 1 + 0 = m by omega] at h1
  refine h1.congr fun j hj i hi => ?_
  obtain rfl : i = 0 := by omega
  rw [hf j hj]
  by_cases e : j = m
  · rw [if_pos ⟨e, rfl⟩, if_pos e]
  · rw [if_neg (fun h => e h.1), if_neg e]
end Go.Bas
namespace Go.Proofs.Ytlmdgmgbijfaoaa
open Go.RowKit Go.Bas Go.ChangeShapes Go.Maps
attribute [local go_sem ↓] Go.wp_at_zero Go.wp_at_succ
section
variable {B : Nat} {w w' : World} {p : Nat} {F : Nat → Prop} {E : List (Int × Int)}
/-- what Order answers. -/
def OrdA (E : List (Int × Int)) (w : World) (v : Value) (b : Bool) : Prop := match ordI E (nodesL E).length with
  | none => b = false ∧ v = .slice none 0 0
  | some L => b = true ∧ OwM 3 1 w v L.length (lv kvI L)
set_option maxRecDepth 100000 in
set_option maxHeartbeats 3200000 in
theorem order_any (h : GEI B w p F E) (hE : E.length ≤ 1000) : Calls Try.prog 46 #[.pointer (some ⟨p, 0, none⟩)] w fun e w' => ∃ va b, e = .returned (.tuple #[va, .bool b]) ∧ OrdA E w' va b ∧ Below w.heap.size w w' := by
  obtain ⟨⟨mb, vn, vo, ov, hg, _⟩, _⟩ := h
  have HG := Lib.hid hg
  have HI := Lib.hid (isI_any hg)
  obtain ⟨B0, hB0⟩ : ∃ x, x = w.heap.size := ⟨_, rfl⟩
  have HB0 := Lib.hid hB0
  have HE := Lib.hid hE
  have hnl := nodesL_len E
  obtain ⟨n, hn⟩ : ∃ n, n = (nodesL E).length := ⟨_, rfl⟩
  have HN := Lib.hid hn
  rw [← hn] at hnl
  have hn2 : n ≤ 2000 := by omega
  have c1 := hg.row.c1
  have c2 := hg.row.c2
  obtain ⟨an, cn, en, _⟩ := hg.nodes.slice
  rw [en, ← hn] at c1
  have HEN := Lib.hid en
  obtain ⟨ao, co, eo, _⟩ := hg.out.slice
  have hos : (osL E).length = n := by rw [← hg.same, hn]
  rw [eo, hos] at c2
  have HEO := Lib.hid eo
  have HOS := Lib.hid hos
  rw [← hB0]
  clear hg hE hnl en eo hos hn hB0
  go_enter Try.func46, Try.ntmps46
  go_wp2_with fail
  refine HI.out.mono ?_
  rintro e w' ⟨rfl, rfl⟩
  go_wp2_with (refine make_ints rfl _ _ 56 rfl w'.heap.size 3 .i64 8 Try.underlying56 Try.info3 .i64 .i64 n rfl rfl (by omega) (by omega) (Nat.le_refl _) ?_; intro w2 hown hgrow; have C2 := Lib.hid (below_grown0 (Below.refl _ _) hgrow (Nat.le_refl _)); have O2 := Lib.hid hown.owm; have c2' := (HG.out.below C2.out).row.c2; rw [HEO.out, HOS.out] at c2'; clear hown hgrow c2)
  have B2 : Hid (Below B0 w' w2) := HB0.out ▸ C2.out
  obtain ⟨gi, hgi⟩ : ∃ g, g = w'.heap.size := ⟨_, rfl⟩
  rw [← hgi] at O2 ⊢
  have HGI := Lib.hid hgi
  clear hgi C2 c1
  have hlc : Hid (∀ l, l ∈ osL E → l.length ≤ 1000000) := fun l hl => (HG.out.lfew l hl).1
  go_wp2
  go_loopw [27] (fun i wr => ∃ k : Nat, k ≤ n ∧ i = .int .i64 k ∧ OwM 3 1 wr (.slice (some ⟨gi, 0, none⟩) n n) n (fun j _ => .int .i64 (((osL E).take k).flatten.count j : Int)) ∧ Below B0 w' wr) (fun i _ => n - (intOf i).toNat)
  case atStart => exact ⟨0, Nat.zero_le _, rfl, O2.out.congr fun j hj i hi => rfl, B2.out⟩
  case round =>
    obtain ⟨k, hk, rfl, hO, hBe⟩ := hrel
    have HO := Lib.hid hO
    have HBe := Lib.hid hBe
    clear hO hBe
    by_cases hlt : k < n
    · obtain ⟨l, hl⟩ : ∃ l, (osL E)[k]? = some l := ⟨_, List.getElem?_eq_getElem (by have := HOS.out; omega)⟩
      have hgw := HG.out.below (HB0.out ▸ HBe.out)
      obtain ⟨gg, cg, eg, _, _, _, hcg⟩ := hgw.out.form (by have := HOS.out; omega)
      rw [HEO.out] at eg
      simp only [Value.slice.injEq, true_and] at eg
      obtain ⟨rfl, rfl⟩ := eg
      have z0 := hcg k (by have := HOS.out; omega) 0 (by decide)
      rw [show k * 1 + 0 = k by omega] at z0
      have LI := Lib.hid (HG.out.lists k l hl)
      obtain ⟨al, cl, el, _⟩ := LI.out.slice
      rw [el] at z0
      have HEL := Lib.hid el
      have HL := Lib.hid hl
      have hlf := HG.out.lfew l (List.mem_of_getElem? hl)
      have HLF := Lib.hid hlf
      have hfl : ((osL E).take k).flatten.length ≤ 2000000000 := by
        have h1 := flatten_len ((osL E).take k) fun l' hl' => hlc.out l' (List.mem_of_mem_take hl')
        rw [List.length_take] at h1
        have h2 : min k (osL E).length * 1000000 ≤ 2000 * 1000000 := Nat.mul_le_mul_right _ (by omega)
        omega
      have HFL := Lib.hid hfl
      clear hgw hcg el hl hlf hfl
      go_wp2
      go_loopw [33] (fun i wr => ∃ t : Nat, t ≤ l.length ∧ i = .int .i64 t ∧ OwM 3 1 wr (.slice (some ⟨gi, 0, none⟩) n n) n (fun j _ => .int .i64 ((((osL E).take k).flatten.count j + (l.take t).count j : Nat) : Int)) ∧ Below B0 w' wr) (fun i _ => l.length - (intOf i).toNat)
      case atStart => exact ⟨0, Nat.zero_le _, rfl, HO.out.congr fun j hj i hi => by simp, HBe.out⟩
      case round =>
        obtain ⟨t, ht, rfl, hO1, hBe1⟩ := hrel
        have HO1 := Lib.hid hO1
        have HBe1 := Lib.hid hBe1
        clear hO1 hBe1
        by_cases hlt1 : t < l.length
        · obtain ⟨m, hm⟩ : ∃ m, l[t]? = some m := ⟨_, List.getElem?_eq_getElem hlt1⟩
          have hmn : m < n := by have h1 := HLF.out.2 m (List.mem_of_getElem? hm); have := HN.out; omega
          obtain ⟨gl, cl', e7, _, _, _, hc7⟩ := (LI.out.below (HB0.out ▸ HBe1.out)).form (by omega)
          rw [HEL.out] at e7
          simp only [Value.slice.injEq, true_and] at e7
          obtain ⟨rfl, rfl⟩ := e7
          have z7 := hc7 t hlt1 0 (by decide)
          rw [show t * 1 + 0 = t by omega, lv_at hm] at z7
          obtain ⟨g9, c9, e9, hr9, _, _, hc9⟩ := HO1.out.form (by omega)
          simp only [Value.slice.injEq, Option.some.injEq, Addr.mk.injEq, and_true, true_and] at e9
          obtain ⟨rfl, rfl⟩ := e9
          obtain ⟨fm, hfm⟩ : ∃ fm : Nat, fm = ((osL E).take k).flatten.count m + (l.take t).count m := ⟨_, rfl⟩
          have z9 := hc9 m hmn 0 (by decide)
          rw [show m * 1 + 0 = m by omega] at z9
          try dsimp only at z9
          rw [← hfm] at z9
          have f9 := hr9.free m
          have hfb : fm ≤ 2001000000 := by
            have h1 := List.count_le_length (a := m) (l := ((osL E).take k).flatten)
            have h2 := List.count_le_length (a := m) (l := l.take t)
            rw [List.length_take] at h2
            have h3 := HFL.out
            have h4 := HLF.out.1
            omega
          have hwr : IntKind.i64.wrap ((fm : Int) + 1) = (fm : Int) + 1 := wrap_i64_id (by omega) (by omega)
          have NO := Lib.hid (HO1.out.setI (f' := fun j => ((((osL E).take k).flatten.count j + (l.take (t + 1)).count j : Nat) : Int)) m hmn ((fm : Int) + 1) fun j hj => by
            rw [List.take_add_one, hm, List.count_append]
            by_cases e : j = m
            · subst e
              rw [if_pos rfl, hfm]
              simp
              omega
            · rw [if_neg e]
              have : List.count j (Option.toList (some m)) = 0 := by
                apply List.count_eq_zero_of_not_mem
                simp [e]
              rw [this, Nat.add_zero])
          have NB := Lib.hid (HBe1.out.setCell (p := ⟨gi, m, none⟩) (by rw [HB0.out, HGI.out]; exact Nat.le_refl _) (.int .i64 ((fm : Int) + 1)))
          have h1 : (t : Int) < (l.length : Int) := by omega
          have h2 : (m : Int) < (n : Int) := by omega
          have h3 : (t : Int) < 1000000 := by have := HLF.out.1; omega
          clear hc7 hc9 hr9 hm hfm
          go_wp2
          go_roundw
          case rel => first | exact ⟨t + 1, by omega, by go_num, NO.out, NB.out⟩ | ((repeat apply Exists.intro); exact ⟨⟨t + 1, by omega, by go_num, NO.out, NB.out⟩, rfl⟩)
          case measure => simp [intOf]; omega
        · obtain rfl : t = l.length := by omega
          have NO := Lib.hid (HO1.out.congr (q' := fun j _ => .int .i64 (((osL E).take (k + 1)).flatten.count j : Int)) fun j hj i hi => by
            rw [List.take_length, List.take_add_one, HL.out]
            simp)
          clear hlt1
          go_wp2
          go_roundw
          case rel => first | exact ⟨k + 1, by omega, by go_num, NO.out, HBe1.out⟩ | ((repeat apply Exists.intro); exact ⟨⟨k + 1, by omega, by go_num, NO.out, HBe1.out⟩, rfl⟩)
          case measure => simp [intOf]; omega
    · obtain rfl : k = n := by omega
      have hsub : ∀ e, e ∈ E → e.1 ∈ nodesL E ∧ e.2 ∈ nodesL E := fun e he => ⟨mem_nodesL.2 ⟨e, he, .inl rfl⟩, mem_nodesL.2 ⟨e, he, .inr rfl⟩⟩
      have O3 := Lib.hid (HO.out.congr (q' := fun j _ => .int .i64 (atL (insO E []) (nodesL E) j)) fun j hj i hi => by
        obtain ⟨z, hz⟩ : ∃ z, (nodesL E)[j]? = some z := ⟨_, List.getElem?_eq_getElem (by rw [← HN.out]; exact hj)⟩
        rw [List.take_of_length_le (by rw [HOS.out]; exact Nat.le_refl _), atL_at hz]
        exact congrArg _ (count_osW (nodesL_nodup E) hsub hz))
      clear hsub HO hlt O2 B2
      go_wp2
      go_loopw [9] (fun vo wr => ∃ out : List Int, ordI E out.length = some out ∧ OwM 3 1 wr vo out.length (lv kvI out) ∧ (∀ b, vo.ownBlock = some b → gi < b) ∧ OwM 3 1 wr (.slice (some ⟨gi, 0, none⟩) k k) k (fun j _ => .int .i64 (atL (insO E out) (nodesL E) j)) ∧ Below B0 w' wr) (fun vo _ => k - lenOf vo)
      case atStart => exact ⟨[], rfl, OwM.nil _ _ _ _, (fun b hb => by cases hb), O3.out, HBe.out⟩
      case round =>
        obtain ⟨out, hord, hV, hVb, hI2, hBe2⟩ := hrel
        have HORD := Lib.hid hord
        have HV := Lib.hid hV
        have HVB := Lib.hid hVb
        have HIN := Lib.hid hI2
        have HBe := Lib.hid hBe2
        obtain ⟨av, cv, ev, _⟩ := hV.slice
        subst ev
        have hinv := ordI_inv _ _ hord
        have hol : out.length ≤ k := by
          have h1 := nodup_len hinv.2.1 hinv.2.2.1
          rw [HN.out]
          exact h1
        have HINV := Lib.hid hinv
        have hgw := HG.out.below (HB0.out ▸ HBe.out)
        have c1 := hgw.row.c1
        rw [HEN.out, ← HN.out] at c1
        have HGW := Lib.hid hgw
        clear hord hV hVb hI2 hBe2 hinv hgw
        by_cases hlt : out.length < k
        · have hlt9 : (out.length : Int) < (k : Int) := by omega
          have hmat : Mat wr (.slice (some ⟨gi, 0, none⟩) k k) ((nodesL E).map (insO E out)).length 1 (lv kvI ((nodesL E).map (insO E out))) := by
            have h1 := HIN.out.congr (q' := lv kvI ((nodesL E).map (insO E out))) fun j hj i hi => by
              obtain ⟨z, hz⟩ : ∃ z, (nodesL E)[j]? = some z := ⟨_, List.getElem?_eq_getElem (by rw [← HN.out]; exact hj)⟩
              rw [atL_at hz]
              exact (lv_at (by rw [List.getElem?_map, hz]; rfl)).symm
            rw [List.length_map, ← HN.out]
            exact h1.mat
          have HMAT := Lib.hid hmat
          clear hmat
          go_wp2_with fail
          refine (indexI_any _ _ 0 _ HMAT.out).mono ?_
          rintro e w5 ⟨rfl, rfl⟩
          cases hfd : (nodesL E).find? (freeG E out) with
          | none =>
            rw [ord_none hfd]
            have HNO : Hid (ordI E (nodesL E).length = none) := Lib.hid (by
              have h1 : ordI E (out.length + 1) = none := by rw [ordI, HORD.out]; simp only [hfd]
              have h2 := ordI_none h1 (k - out.length - 1)
              rw [show out.length + 1 + (k - out.length - 1) = k by omega] at h2
              rw [← HN.out]
              exact h2)
            clear hfd
            go_wp2
            go_ret2
            first | refine ⟨_, false, rfl, ?_, HBe.out⟩ | refine ⟨_, .inl ⟨rfl, ?_, HBe.out⟩⟩
            unfold OrdA
            rw [HNO.out]
            exact ⟨rfl, rfl⟩
          | some z =>
            obtain ⟨j, hj, hfi⟩ := ord_some hfd
            rw [hfi]
            have HFD := Lib.hid hfd
            have HJ := Lib.hid hj
            have hjn : j < k := by rw [HN.out]; exact (List.getElem?_eq_some_iff.1 hj).1
            have hfree := freeG_iff.1 (List.find?_some hfd)
            have HFR := Lib.hid (List.find?_some hfd)
            have hnxt : Hid (ordI E (out ++ [z]).length = some (out ++ [z])) := Lib.hid (by
              rw [List.length_append, List.length_singleton, ordI, HORD.out]
              simp only [hfd])
            obtain ⟨g9, c9, e9, hr9, _, _, hc9⟩ := HIN.out.form (by omega)
            simp only [Value.slice.injEq, Option.some.injEq, Addr.mk.injEq, and_true, true_and] at e9
            obtain ⟨rfl, rfl⟩ := e9
            have z9 := hc9 j hjn 0 (by decide)
            rw [show j * 1 + 0 = j by omega, atL_at hj] at z9
            have f9 := hr9.free j
            have NO := Lib.hid (HIN.out.setI (f' := fun m => atL (fun y => (if y = z then -1 else insO E out y) - (((tgt E z).take 0).count y : Int)) (nodesL E) m) j hjn (-1) fun m hm => by
              obtain ⟨y, hy⟩ : ∃ y, (nodesL E)[m]? = some y := ⟨_, List.getElem?_eq_getElem (by rw [← HN.out]; exact hm)⟩
              rw [atL_at hy, atL_at hy]
              by_cases e : m = j
              · subst e
                rw [hj] at hy
                cases hy
                rw [if_pos rfl, if_pos rfl]
                simp
              · have hyz : y ≠ z := fun h => e (by
                  have h1 := plc_at (nodesL_nodup E) hy
                  have h2 := plc_at (nodesL_nodup E) hj
                  rw [← h1, ← h2, h])
                rw [if_neg e, if_neg hyz]
                simp)
            have CS : Chg (fun b => b = gi) w5 (w5.setCell ⟨gi, j, none⟩ (.int .i64 (-1))) := Chg.set _ _ _ _ rfl
            have BS := Lib.hid (HBe.out.setCell (p := ⟨gi, j, none⟩) (by rw [HB0.out, HGI.out]; exact Nat.le_refl _) (.int .i64 (-1)))
            have VS := Lib.hid (HV.out.chg CS fun b hb e => by have := HVB.out b hb; omega)
            have hjn9 : (j : Int) < (k : Int) := by omega
            have hol : (osL E)[j]? = some ((tgt E z).map (plc (nodesL E))) := osW_at hj
            have LI := Lib.hid (HG.out.lists j _ hol)
            obtain ⟨T, hT⟩ : ∃ T, T = tgt E z := ⟨_, rfl⟩
            obtain ⟨L, hL⟩ : ∃ L, L = T.map (plc (nodesL E)) := ⟨_, rfl⟩
            rw [← hT, ← hL] at LI
            rw [← hT] at NO
            have HTT := Lib.hid hT
            have HLL := Lib.hid hL
            have HLN := Lib.hid (show L.length = T.length by rw [hL, List.length_map])
            have HTL := Lib.hid (show T.length ≤ 1000 by rw [hT]; exact Nat.le_trans (tgt_len E z) HE.out)
            obtain ⟨al, cl, el, _⟩ := LI.out.slice
            have HEL := Lib.hid el
            have HGT := Lib.hid (show ∀ b, w5.heap.size ≤ b → gi < b from fun b hb => by have := hr9.lt; omega)
            have HLTB := Lib.hid (show out.length < 2000 by omega)
            have HJJ := Lib.hid hj
            clear hfd hfree hfi hc9 hr9 CS hol hT hL el hj
            go_upto_region 19 with (fail)
            refine wp_world (fun w51 => OwM 3 1 w51 (.slice av out.length cv) out.length (lv kvI out) ∧ OwM 3 1 w51 (.slice (some ⟨gi, 0, none⟩) k k) k (fun m _ => .int .i64 (atL (fun y => (if y = z then -1 else insO E out y) - ((T.take 0).count y : Int)) (nodesL E) m)) ∧ Below B0 w' w51 ∧ w51.heap.size = w5.heap.size) ⟨VS.out, NO.out, BS.out, size_setCell _ _ _⟩ ?_
            rintro w51 ⟨vs1, no1, bs1, sz1⟩
            have VS := Lib.hid vs1
            have NO := Lib.hid no1
            have BS := Lib.hid bs1
            have hj := HJJ.out
            have HGT : Hid (∀ b, w51.heap.size ≤ b → gi < b) := by rw [sz1]; exact HGT.out
            clear vs1 no1 bs1 z9 f9 sz1
            have hgs := HG.out.below (HB0.out ▸ BS.out)
            have c1s := hgs.row.c1
            rw [HEN.out, ← HN.out] at c1s
            obtain ⟨gn, cn', en, _, _, _, hcn⟩ := hgs.nodes.form (by rw [← HN.out]; omega)
            rw [HEN.out, ← HN.out] at en
            simp only [Value.slice.injEq, true_and] at en
            obtain ⟨rfl, rfl⟩ := en
            have z8 := hcn j (by rw [← HN.out]; omega) 0 (by decide)
            rw [show j * 1 + 0 = j by omega, lv_at hj] at z8
            clear hgs hcn hj
            go_upto_region 20 with (refine wpList_append_lit rfl _ _ rfl rfl rfl VS.out Try.underlying56 Try.info3 rfl rfl rfl (by have := HLTB.out; unfold maxLen; omega) (by have := HLTB.out; omega) ?_; intro v6 w6 ho6 hg6 hp6; have O6 := Lib.hid ho6; have C6 := Lib.hid (Chg.of_lit hg6); have P6 := Lib.hid hp6; obtain ⟨a6, q6, rfl, _⟩ := ho6.slice; clear ho6 hg6 hp6)
            have O6 : OwM 3 1 w6 (.slice a6 (out.length + 1) q6) (out ++ [z]).length (lv kvI (out ++ [z])) := O6.out.snoc rfl
            have B6 := Lib.hid (BS.out.trans (C6.out.below (HB0.out ▸ BS.out.size) fun b hb => by have h1 := HVB.out b hb; have h2 := HGI.out; have h3 := HB0.out; omega))
            have I6 := Lib.hid (NO.out.chg C6.out fun b hb e => by cases hb; have := HVB.out gi e; omega)
            have VB6 : Hid (∀ b, (Value.slice a6 (out.length + 1) q6).ownBlock = some b → gi < b) := fun b hb => by
              rcases P6.out with h | h
              · exact HVB.out b (h ▸ hb)
              · exact HGT.out b (h b hb)
            have OO6 := Lib.hid O6
            have hgt := HG.out.below (HB0.out ▸ B6.out)
            have c2t := hgt.row.c2
            obtain ⟨gg, cg, eg, _, _, _, hcg⟩ := hgt.out.form (by have := HOS.out; omega)
            rw [HEO.out] at eg
            simp only [Value.slice.injEq, true_and] at eg
            obtain ⟨rfl, rfl⟩ := eg
            rw [HEO.out, HOS.out] at c2t
            have z0 := hcg j (by have := HOS.out; omega) 0 (by decide)
            rw [show j * 1 + 0 = j by omega, HEL.out] at z0
            clear hgt hcg c1s z8 O6 c1
            go_wp2
            go_loopw [78] (fun i wr => ∃ t : Nat, t ≤ T.length ∧ i = .int .i64 t ∧ OwM 3 1 wr (.slice (some ⟨gi, 0, none⟩) k k) k (fun m _ => .int .i64 (atL (fun y => (if y = z then -1 else insO E out y) - ((T.take t).count y : Int)) (nodesL E) m)) ∧ OwM 3 1 wr (.slice a6 (out.length + 1) q6) (out ++ [z]).length (lv kvI (out ++ [z])) ∧ Below B0 w' wr) (fun i _ => T.length - (intOf i).toNat)
            case atStart => exact ⟨0, Nat.zero_le _, rfl, I6.out, OO6.out, B6.out⟩
            case round =>
              obtain ⟨t, ht, rfl, hI7, hV7, hB7⟩ := hrel
              have HI7 := Lib.hid hI7
              have HV7 := Lib.hid hV7
              have HB7 := Lib.hid hB7
              clear hI7 hV7 hB7
              by_cases hltt : t < T.length
              · obtain ⟨y, hy⟩ : ∃ y, T[t]? = some y := ⟨_, List.getElem?_eq_getElem hltt⟩
                have hyn : y ∈ nodesL E := tgt_nodes (x := z) (by rw [← HTT.out]; exact List.mem_of_getElem? hy)
                have hlt' : L[t]? = some (plc (nodesL E) y) := by rw [HLL.out, List.getElem?_map, hy]; rfl
                obtain ⟨gl, cl', e7, _, _, _, hc7⟩ := (LI.out.below (HB0.out ▸ HB7.out)).form (by have := HLN.out; omega)
                rw [HEL.out] at e7
                simp only [Value.slice.injEq, true_and] at e7
                obtain ⟨rfl, rfl⟩ := e7
                have z7 := hc7 t (by have := HLN.out; omega) 0 (by decide)
                rw [show t * 1 + 0 = t by omega, lv_at hlt'] at z7
                have hmn : plc (nodesL E) y < k := by rw [HN.out]; exact plc_lt hyn
                have hmy := plc_get hyn
                obtain ⟨m, hm⟩ : ∃ m, m = plc (nodesL E) y := ⟨_, rfl⟩
                rw [← hm] at z7 hmn hmy
                obtain ⟨g9, c9, e9, hr9, _, _, hc9⟩ := HI7.out.form (by omega)
                simp only [Value.slice.injEq, Option.some.injEq, Addr.mk.injEq, and_true, true_and] at e9
                obtain ⟨rfl, rfl⟩ := e9
                have z9 := hc9 m hmn 0 (by decide)
                rw [show m * 1 + 0 = m by omega, atL_at hmy] at z9
                obtain ⟨V, hV⟩ : ∃ V, V = (if y = z then -1 else insO E out y) - ((T.take t).count y : Int) := ⟨_, rfl⟩
                rw [← hV] at z9
                have f9 := hr9.free m
                have hVb : -2000 ≤ V ∧ V ≤ 1000 := by
                  have h1 := insO_bound E out y
                  have h2 := List.count_le_length (a := y) (l := T.take t)
                  rw [List.length_take] at h2
                  have h3 := HTL.out
                  have h4 := HE.out
                  rw [hV]
                  split <;> omega
                have hwr : IntKind.i64.wrap (V - 1) = V - 1 := wrap_i64_id (by omega) (by omega)
                have NO7 := Lib.hid (HI7.out.setI (f' := fun m => atL (fun y => (if y = z then -1 else insO E out y) - ((T.take (t + 1)).count y : Int)) (nodesL E) m) m hmn (V - 1) fun m' hm' => by
                  obtain ⟨y', hy'⟩ : ∃ y', (nodesL E)[m']? = some y' := ⟨_, List.getElem?_eq_getElem (by rw [← HN.out]; exact hm')⟩
                  rw [atL_at hy', atL_at hy', List.take_add_one, hy, List.count_append]
                  by_cases e : m' = m
                  · subst e
                    rw [hmy] at hy'
                    cases hy'
                    rw [if_pos rfl, hV]
                    simp
                    omega
                  · have hyy : y' ≠ y := fun h => e (by
                      have h1 := plc_at (nodesL_nodup E) hy'
                      have h2 := plc_at (nodesL_nodup E) hmy
                      rw [← h1, ← h2, h])
                    have h0 : List.count y' (Option.toList (some y)) = 0 := by
                      apply List.count_eq_zero_of_not_mem
                      simp [hyy]
                    rw [if_neg e, h0, Nat.add_zero])
                have NB7 := Lib.hid (HB7.out.setCell (p := ⟨gi, m, none⟩) (by rw [HB0.out, HGI.out]; exact Nat.le_refl _) (.int .i64 (V - 1)))
                have NV7 := Lib.hid (HV7.out.chg (Chg.set (fun b => b = gi) _ ⟨gi, m, none⟩ (.int .i64 (V - 1)) rfl) fun b hb e => by have := VB6.out b hb; omega)
                have h1 : (t : Int) < (L.length : Int) := by have := HLN.out; omega
                have h2 : (m : Int) < (k : Int) := by omega
                have h3 : (t : Int) < 1000000 := by have := HTL.out; omega
                clear hc7 hc9 hr9 hm hmy hyn hlt' hy hV hVb
                go_wp2
                go_roundw
                case rel => first | exact ⟨t + 1, by omega, by go_num, NO7.out, NV7.out, NB7.out⟩ | ((repeat apply Exists.intro); exact ⟨⟨t + 1, by omega, by go_num, NO7.out, NV7.out, NB7.out⟩, rfl⟩)
                case measure => simp [intOf]; omega
              · obtain rfl : t = T.length := by omega
                have hlen9 : ¬ (T.length : Int) < (L.length : Int) := by have := HLN.out; omega
                have NI := Lib.hid (HI7.out.congr (q' := fun m _ => .int .i64 (atL (insO E (out ++ [z])) (nodesL E) m)) fun m hm i hi => by
                  obtain ⟨y, hy⟩ : ∃ y, (nodesL E)[m]? = some y := ⟨_, List.getElem?_eq_getElem (by rw [← HN.out]; exact hm)⟩
                  rw [atL_at hy, atL_at hy, List.take_length, HTT.out]
                  exact congrArg _ (insO_step HFR.out HINV.out.2.2.2 y).symm)
                clear hltt
                go_wp2
                go_roundw
                case rel => first | exact ⟨out ++ [z], hnxt.out, HV7.out, VB6.out, NI.out, HB7.out⟩ | ((repeat apply Exists.intro); exact ⟨⟨out ++ [z], hnxt.out, HV7.out, VB6.out, NI.out, HB7.out⟩, rfl⟩)
                case measure => simp [lenOf]; omega
        · have hout : out.length = (nodesL E).length := by rw [← HN.out]; omega
          have HOL : Hid (ordI E (nodesL E).length = some out) := Lib.hid (by rw [← hout]; exact HORD.out)
          have hlt9 : ¬ (out.length : Int) < (k : Int) := by omega
          clear hlt hout hol
          go_wp2
          go_ret2
          first | refine ⟨_, true, rfl, ?_, HBe.out⟩ | refine ⟨_, .inr ⟨rfl, ?_, HBe.out⟩⟩
          unfold OrdA
          rw [HOL.out]
          exact ⟨rfl, HV.out⟩
end
end Go.Proofs.Ytlmdgmgbijfaoaa
