/-
  The document's graphs: the order. Conditions: named in each theorem.
-/
import Derived.Test.YtlmdgmgbijfaoaaLtH
set_option linter.unusedVariables false
set_option linter.unusedSimpArgs false
namespace Go.Bas
open Go.RowKit
theorem find_at {K : Type} {p : K → Bool} : ∀ {L : List K} {k : Nat} {z : K}, L[k]? = some z → p z = true → (∀ j, j < k → ∀ y, L[j]? = some y → p y = false) → L.find? p = some z := by
  intro L
  induction L with
  | nil => intro k z h; simp at h
  | cons a L ih =>
    intro k z h hp hn
    cases k with
    | zero =>
      simp only [List.getElem?_cons_zero, Option.some.injEq] at h
      subst h
      simp [List.find?_cons, hp]
    | succ k =>
      have h0 := hn 0 (Nat.succ_pos _) a rfl
      simp only [List.find?_cons, h0]
      exact ih (k := k) (by simpa using h) hp fun j hj y hy => hn (j + 1) (by omega) y (by simpa using hy)
theorem find_none {K : Type} {p : K → Bool} {L : List K} (hn : ∀ j, j < L.length → ∀ y, L[j]? = some y → p y = false) : L.find? p = none := by
  rw [List.find?_eq_none]
  intro x hx
  obtain ⟨j, hj, e⟩ := List.mem_iff_getElem.1 hx
  rw [hn j hj x (by rw [List.getElem?_eq_getElem hj, e])]
  decide
/-- how far the next node is sought. -/
def NX (E : List (Int × Int)) (out ND : List Int) (k : Nat) (next : Value) : Prop :=
  (next = .int .i64 (-1) ∧ ∀ j, j < k → ∀ z, ND[j]? = some z → freeG E out z = false) ∨ ∃ (j : Nat) (z : Int), next = .int .i64 j ∧ ND[j]? = some z ∧ ND.find? (freeG E out) = some z
/-- is z free as far as t edges tell? -/
def frT (E : List (Int × Int)) (out : List Int) (z : Int) (t : Nat) : Bool := decide (z ∉ out) && (E.take t).all fun e => !decide (e.2 = z) || decide (e.1 ∈ out)
theorem frT_zero {E : List (Int × Int)} {out : List Int} {z : Int} : frT E out z 0 = !decide (z ∈ out) := by
  unfold frT
  simp
theorem frT_all {E : List (Int × Int)} {out : List Int} {z : Int} : frT E out z E.length = freeG E out z := by
  unfold frT freeG
  rw [List.take_length]
theorem frT_succ {E : List (Int × Int)} {out : List Int} {z p q : Int} {t : Nat} (h : E[t]? = some (p, q)) : frT E out z (t + 1) = (frT E out z t && (!decide (q = z) || decide (p ∈ out))) := by
  unfold frT
  rw [List.take_add_one, h, List.all_append, Bool.and_assoc]
  simp
end Go.Bas
namespace Go.Proofs.Ytlmdgmgbijfaoaa
open Go.RowKit Go.Bas Go.ChangeShapes Go.Maps
attribute [local go_sem ↓] Go.wp_at_zero Go.wp_at_succ
set_option maxRecDepth 100000 in
set_option maxHeartbeats 3200000 in
theorem orderR_any (E : List (Int × Int)) (u : Value) (w : World) (hu : Mat w u E.length 2 (pv E)) (hE : E.length ≤ 1000) : Calls Try.prog 47 #[u] w fun e w' => ∃ va b, e = .returned (.tuple #[va, .bool b]) ∧ OrdA E w' va b ∧ Below w.heap.size w w' := by
  have HNDC := Lib.hid (nodesR_any E u w hu hE)
  obtain ⟨ae, ce, rfl, hce, hce2, hcelle⟩ := hu
  have HCE := Lib.hid hcelle
  have HE := Lib.hid hE
  have HNL := Lib.hid (nodesL_len E)
  obtain ⟨ND, hND⟩ : ∃ l, l = nodesL E := ⟨_, rfl⟩
  rw [← hND] at HNDC HNL
  have HNDE := Lib.hid hND
  clear hcelle hE hND
  go_enter Try.func47, Try.ntmps47
  go_wp2_with fail
  refine HNDC.out.mono ?_
  rintro e w1 ⟨vn, rfl, hn, hnb, b1⟩
  have N1 := Lib.hid hn
  have B1 := Lib.hid b1
  obtain ⟨an, cn, rfl, _⟩ := hn.slice
  clear hn b1 hnb
  go_wp2
  go_loopw [5] (fun out wr => ∃ l : List Int, ordI E l.length = some l ∧ l.length ≤ ND.length ∧ OwM 3 1 wr out l.length (lv kvI l) ∧ (∀ b, out.ownBlock = some b → w1.heap.size ≤ b) ∧ Below w1.heap.size w1 wr) (fun out _ => ND.length - lenOf out)
  case atStart => exact ⟨[], rfl, Nat.zero_le _, OwM.nil _ _ _ _, (fun b hb => by cases hb), Below.refl _ _⟩
  case round =>
    obtain ⟨l, hor, hll, hO, hH, hBe⟩ := hrel
    have HOR := Lib.hid hor
    have HO := Lib.hid hO
    have HH := Lib.hid hH
    have HBe := Lib.hid hBe
    obtain ⟨ao, co, eo, _⟩ := hO.slice
    subst eo
    have HLN : Hid (l.length ≤ 2000) := Lib.hid (by have := HNL.out; have := HE.out; omega)
    clear hor hO hH hBe
    by_cases hlt : l.length < ND.length
    · have HLT := Lib.hid hlt
      rename World => wo
      go_wp2
      clear hlt
      go_loopw [7, 6] (fun i next wq => ∃ k : Nat, k ≤ ND.length ∧ i = .int .i64 k ∧ NX E l ND k next ∧ Below wo.heap.size wo wq) (fun i _ _ => ND.length + 1 - (intOf i).toNat)
      case atStart => exact ⟨0, Nat.zero_le _, rfl, .inl ⟨rfl, fun j hj => absurd hj (Nat.not_lt_zero _)⟩, Below.refl _ _⟩
      case round =>
        obtain ⟨k, hk, rfl, hNX, hBq⟩ := hrel
        have HBq := Lib.hid hBq
        have HBQ := Lib.hid (HBe.out.trans (hBq.mono HBe.out.size))
        clear hBq
        rcases hNX with ⟨rfl, hno⟩ | ⟨j, z, rfl, hjz, hfz⟩
        · have HNO := Lib.hid hno
          clear hno
          by_cases hkl : k < ND.length
          · obtain ⟨z, hz⟩ : ∃ z, ND[k]? = some z := ⟨_, List.getElem?_eq_getElem hkl⟩
            have HZ := Lib.hid hz
            have HKL := Lib.hid hkl
            have hk9 : (k : Int) < 1000000 := by have := HNL.out; have := HE.out; omega
            obtain ⟨gn, cn', en, _, _, _, hcn⟩ := (N1.out.below HBQ.out).form (by omega)
            simp only [Value.slice.injEq, true_and] at en
            obtain ⟨rfl, rfl⟩ := en
            have z0 := hcn k hkl 0 (by decide)
            rw [show k * 1 + 0 = k by omega, lv_at hz] at z0
            have HGN : Hid (gn < wr.heap.size) := Lib.hid ((N1.out.below HBQ.out).lt gn rfl)
            have HZ0 := Lib.hid z0
            clear hcn hz
            go_wp2_with fail
            refine (inR_any l _ z _ (HO.out.below HBq.out).mat (by have := HLN.out; omega)).mono ?_
            rintro e w3 ⟨rfl, rfl⟩
            rename World => wp
            have hk8 : (k : Int) < (ND.length : Int) := by omega
            have HK8 := Lib.hid hk8
            clear z0 hkl hk8
            go_wp2
            rw [← frT_zero (E := E)]
            go_loopw [9, 8] (fun i fr wq => ∃ t : Nat, t ≤ E.length ∧ i = .int .i64 t ∧ fr = .bool (frT E l z t) ∧ Below wp.heap.size wp wq) (fun i _ _ => E.length - (intOf i).toNat)
            case atStart => exact ⟨0, Nat.zero_le _, rfl, rfl, Below.refl _ _⟩
            case round =>
              obtain ⟨t, ht, rfl, rfl, hB3⟩ := hrel
              have HB3 := Lib.hid hB3
              clear hB3
              by_cases hte : t < E.length
              · obtain ⟨⟨p, q⟩, he⟩ : ∃ e, E[t]? = some e := ⟨_, List.getElem?_eq_getElem hte⟩
                obtain ⟨b, o, rfl, hbl, hce9⟩ := HCE.out (by omega)
                have HBW := Lib.hid (B1.out.trans ((HBQ.out.trans (HB3.out.mono HBQ.out.size)).mono B1.out.size))
                have z1 : wr.cell? ⟨b, o + t * 2, none⟩ = some (.int .i64 p) := (HBW.out.cell (p := ⟨b, o + t * 2, none⟩) hbl).trans ((hce9 t hte 0 (by decide)).trans (congrArg some (pv_pf he)))
                have z2 : wr.cell? ⟨b, o + t * 2 + 1, none⟩ = some (.int .i64 q) := (HBW.out.cell (p := ⟨b, o + t * 2 + 1, none⟩) hbl).trans ((hce9 t hte 1 (by decide)).trans (congrArg some (pv_pf he)))
                have z0 := (HB3.out.cell (p := ⟨gn, k, none⟩) HGN.out).trans HZ0.out
                have HSU := Lib.hid (frT_succ (out := l) (z := z) he)
                have ht9 : (t : Int) < 1000000 := by have := HE.out; omega
                have hk8 := HK8.out
                have HTE := Lib.hid hte
                have HMT : Hid (∀ n, Mat (wr.drewN n) (.slice ao l.length co) l.length 1 (lv kvI l)) := fun n => (((HO.out.below HBq.out).below HB3.out).below (Go.Bas.below_drewN (Below.refl _ _) n)).mat
                have HNB : Hid (∀ n, Below wp.heap.size wp (wr.drewN n)) := fun n => Go.Bas.below_drewN HB3.out n
                obtain ⟨R, hR⟩ : ∃ R, R = frT E l z t := ⟨_, rfl⟩
                rw [← hR] at HSU ⊢
                clear hce9 he hR
                by_cases hqz : q = z
                · have hqz' : (q == z) = true := by simpa using hqz
                  by_cases hpl : p ∈ l
                  · have HIN := Lib.hid (decide_eq_true hpl)
                    have HN : Hid (R = frT E l z (t + 1)) := Lib.hid (by rw [HSU.out, decide_eq_true hpl, Bool.or_true, Bool.and_true])
                    clear hqz hpl
                    go_wp2
                    go_quiet (first | exact Calls.quiet_of_same (inR_any l _ p _ (HMT.out _) (by have := HLN.out; omega)))
                    rw [HIN.out]
                    simp only [Bool.not_true]
                    go_wp2
                    go_roundw
                    case rel => first | exact ⟨t + 1, by have := HTE.out; omega, by go_num, congrArg Value.bool HN.out, HNB.out _⟩ | ((repeat apply Exists.intro); exact ⟨⟨t + 1, by have := HTE.out; omega, by go_num, congrArg Value.bool HN.out, HNB.out _⟩, rfl⟩)
                    case measure => have := HTE.out; simp [intOf]; omega
                  · have HIN := Lib.hid (decide_eq_false hpl)
                    have HN : Hid (false = frT E l z (t + 1)) := Lib.hid (by rw [HSU.out, decide_eq_false hpl, decide_eq_true hqz]; simp)
                    clear hqz hpl
                    go_wp2
                    go_quiet (first | exact Calls.quiet_of_same (inR_any l _ p _ (HMT.out _) (by have := HLN.out; omega)))
                    rw [HIN.out]
                    simp only [Bool.not_false]
                    go_wp2
                    go_roundw
                    case rel => first | exact ⟨t + 1, by have := HTE.out; omega, by go_num, congrArg Value.bool HN.out, HNB.out _⟩ | ((repeat apply Exists.intro); exact ⟨⟨t + 1, by have := HTE.out; omega, by go_num, congrArg Value.bool HN.out, HNB.out _⟩, rfl⟩)
                    case measure => have := HTE.out; simp [intOf]; omega
                · have hqz' : (q == z) = false := by simpa using hqz
                  have HN : Hid (R = frT E l z (t + 1)) := Lib.hid (by rw [HSU.out, decide_eq_false hqz, Bool.not_false, Bool.true_or, Bool.and_true])
                  clear hqz
                  go_wp2
                  go_quiet (fail)
                  go_wp2
                  go_roundw
                  case rel => first | exact ⟨t + 1, by have := HTE.out; omega, by go_num, congrArg Value.bool HN.out, HNB.out _⟩ | ((repeat apply Exists.intro); exact ⟨⟨t + 1, by have := HTE.out; omega, by go_num, congrArg Value.bool HN.out, HNB.out _⟩, rfl⟩)
                  case measure => have := HTE.out; simp [intOf]; omega
              · obtain rfl : t = E.length := by omega
                rw [frT_all]
                have HBn := Lib.hid (HBq.out.trans (HB3.out.mono HBq.out.size))
                have hk7 : (k : Int) < 1000000 := hk9
                cases hfr : freeG E l z with
                | true =>
                  have HNN : Hid (NX E l ND (k + 1) (.int .i64 k)) := Lib.hid (.inr ⟨k, z, rfl, HZ.out, find_at HZ.out hfr HNO.out⟩)
                  clear hfr
                  go_wp2
                  go_roundw
                  case rel => first | exact ⟨k + 1, by have := HKL.out; omega, by go_num, HNN.out, HBn.out⟩ | ((repeat apply Exists.intro); exact ⟨⟨k + 1, by have := HKL.out; omega, by go_num, HNN.out, HBn.out⟩, rfl⟩)
                  case measure => have := HKL.out; simp [intOf]; omega
                | false =>
                  have HNN : Hid (NX E l ND (k + 1) (.int .i64 (-1))) := Lib.hid (.inl ⟨rfl, fun j hj y hy => by
                    by_cases e : j = k
                    · subst e; rw [HZ.out] at hy; cases hy; exact hfr
                    · exact HNO.out j (by omega) y hy⟩)
                  clear hfr
                  go_wp2
                  go_roundw
                  case rel => first | exact ⟨k + 1, by have := HKL.out; omega, by go_num, HNN.out, HBn.out⟩ | ((repeat apply Exists.intro); exact ⟨⟨k + 1, by have := HKL.out; omega, by go_num, HNN.out, HBn.out⟩, rfl⟩)
                  case measure => have := HKL.out; simp [intOf]; omega
          · obtain rfl : k = ND.length := by omega
            have HNONE : Hid (ordI E (nodesL E).length = none) := Lib.hid (by
              have h1 : ordI E (l.length + 1) = none := by
                rw [ordI, HOR.out]
                simp only [← HNDE.out, find_none HNO.out]
              have h2 := HLT.out
              rw [← HNDE.out]
              obtain ⟨d, hd⟩ : ∃ d, ND.length = l.length + 1 + d := ⟨ND.length - (l.length + 1), by omega⟩
              rw [hd]
              exact ordI_none h1 d)
            go_wp2
            go_ret2
            first | refine ⟨_, false, rfl, ?_, B1.out.trans (HBQ.out.mono B1.out.size)⟩ | refine ⟨_, .inl ⟨rfl, ?_, B1.out.trans (HBQ.out.mono B1.out.size)⟩⟩
            unfold OrdA
            rw [HNONE.out]
            exact ⟨rfl, rfl⟩
        · have HNEW : Hid (ordI E (l ++ [z]).length = some (l ++ [z])) := Lib.hid (by
            rw [List.length_append, List.length_singleton, ordI, HOR.out]
            simp only [← HNDE.out, hfz])
          have hjl : j < ND.length := (List.getElem?_eq_some_iff.1 hjz).1
          obtain ⟨gn, cn', en, _, _, _, hcn⟩ := (N1.out.below HBQ.out).form (by omega)
          simp only [Value.slice.injEq, true_and] at en
          obtain ⟨rfl, rfl⟩ := en
          have z0 := hcn j hjl 0 (by decide)
          rw [show j * 1 + 0 = j by omega, lv_at hjz] at z0
          have hj9 : (j : Int) < (ND.length : Int) := by omega
          have hj0 : ¬ (j : Int) < 0 := by omega
          have OW := Lib.hid (HO.out.below HBq.out)
          have hkk : (k : Int) ≤ (ND.length : Int) := by omega
          clear hfz hcn hjz hjl
          by_cases hkl : (k : Int) < (ND.length : Int)
          all_goals
            go_wp2_with (refine wpList_append_lit rfl _ _ rfl rfl rfl OW.out Try.underlying56 Try.info3 rfl rfl rfl (by have := HLN.out; unfold maxLen; omega) (by have := HLN.out; omega) ?_
                         intro v5 w5 ho5 hg5 hp5
                         have O5 := Lib.hid (ho5.snoc (kv := kvI) (x := z) rfl)
                         have B5 := Lib.hid (HBQ.out.trans (((Chg.of_lit hg5).below (B := w1.heap.size) HBQ.out.size HH.out)))
                         have H5 : Hid (∀ b, v5.ownBlock = some b → w1.heap.size ≤ b) := Lib.hid fun b hb => by
                           rcases hp5 with h | h
                           · exact HH.out b (h ▸ hb)
                           · have h1 := h b hb; have h2 := HBQ.out.size; omega
                         obtain ⟨a5, c5, rfl, _⟩ := ho5.slice
                         clear ho5 hg5 hp5)
            go_roundw
            case rel => first | exact ⟨l ++ [z], HNEW.out, by rw [List.length_append]; exact HLT.out, O5.out, H5.out, B5.out⟩ | ((repeat apply Exists.intro); exact ⟨⟨l ++ [z], HNEW.out, by rw [List.length_append]; exact HLT.out, O5.out, H5.out, B5.out⟩, rfl⟩)
            case measure => have := HLT.out; simp [lenOf]; omega
    · have hout : l.length = ND.length := by omega
      have HOL : Hid (ordI E (nodesL E).length = some l) := Lib.hid (by rw [← HNDE.out, ← hout]; exact HOR.out)
      have hlt9 : ¬ (l.length : Int) < (ND.length : Int) := by omega
      clear hlt hout hll
      go_wp2
      go_ret2
      first | refine ⟨_, true, rfl, ?_, B1.out.trans (HBe.out.mono B1.out.size)⟩ | refine ⟨_, .inr ⟨rfl, ?_, B1.out.trans (HBe.out.mono B1.out.size)⟩⟩
      unfold OrdA
      rw [HOL.out]
      exact ⟨rfl, HO.out⟩
end Go.Proofs.Ytlmdgmgbijfaoaa
