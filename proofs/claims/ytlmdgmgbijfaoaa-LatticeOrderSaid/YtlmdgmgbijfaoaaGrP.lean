/-
  Graphs as lists of edges: what is true of the way to a node. No program in sight.
-/
import Derived.Test.YtlmdgmgbijfaoaaGrN
set_option linter.unusedVariables false
set_option linter.unusedSimpArgs false
namespace Go.Bas
section
variable {K : Type} [DecidableEq K] {E : List (K × K)} {fr : List K}
/-- the way back from place c, in nodes. -/
theorem back_laws : ∀ (f c : Nat) (x : K), c < f → (srch E fr).1[c]? = some x →
    ∃ (L' : List K) (r : Nat) (y : K), atP (srch E fr) (chn (srch E fr).2 f c) = x :: L' ∧ (x :: L').getLast? = some y ∧ (srch E fr).1[r]? = some y ∧ (srch E fr).2[r]? = some (-1) ∧ y ∈ fr ∧
      (∀ (i : Nat) (a b : K), (x :: L')[i]? = some a → (x :: L')[i + 1]? = some b → (b, a) ∈ E) ∧ (∀ a, a ∈ L' → ∃ j, j < c ∧ (srch E fr).1[j]? = some a) ∧ (x :: L').Nodup ∧
      ((srch E fr).2[c]? = some (-1) → L' = []) ∧ (∀ a : Nat, (srch E fr).2[c]? = some (a : Int) → (srch E fr).2[a]? = some (-1) → L'.length = 1) := by
  intro f
  induction f with
  | zero => intro c x h; omega
  | succ f ih =>
    intro c x hc hx
    have hcl : c < (srch E fr).2.length := by rw [← srch_len]; exact (List.getElem?_eq_some_iff.1 hx).1
    obtain ⟨b, hb⟩ : ∃ b, (srch E fr).2[c]? = some b := ⟨_, List.getElem?_eq_getElem hcl⟩
    have hat : ∀ l, atP (srch E fr) (c :: l) = x :: atP (srch E fr) l := fun l => by
      unfold atP
      rw [List.filterMap_cons, hx]
    rw [chn_step, hb, Option.getD_some, hat]
    rcases srch_by hb hx with ⟨rfl, hfr⟩ | ⟨a, rfl, hac, y, hy, he⟩
    · rw [chn_neg _ _ (by decide)]
      refine ⟨[], c, x, rfl, rfl, hx, hb, hfr, fun i a b h1 h2 => ?_, (fun a ha => by cases ha), by simp, fun _ => rfl, fun a h1 _ => ?_⟩
      · simp at h2
      · have h2 := Option.some.inj h1
        omega
    · obtain ⟨L', r, z, h1, h2, h3, h4, h5, h6, h7, h8, h9, h10⟩ := ih a y (by omega) hy
      rw [h1]
      refine ⟨y :: L', r, z, rfl, ?_, h3, h4, h5, fun i p q hp hq => ?_, fun p hp => ?_, ?_, fun h => ?_, fun a' ha' hra => ?_⟩
      · rw [List.getLast?_cons_cons]
        exact h2
      · cases i with
        | zero =>
          simp at hp hq
          subst hp
          subst hq
          exact he
        | succ i =>
          rw [List.getElem?_cons_succ] at hp hq
          exact h6 i p q hp hq
      · rw [List.mem_cons] at hp
        rcases hp with rfl | hp
        · exact ⟨a, hac, hy⟩
        · obtain ⟨j, hj, e⟩ := h7 p hp
          exact ⟨j, by omega, e⟩
      · rw [List.nodup_cons]
        refine ⟨fun hm => ?_, h8⟩
        have key : ∃ j, j < c ∧ (srch E fr).1[j]? = some x := by
          rw [List.mem_cons] at hm
          rcases hm with rfl | hm
          · exact ⟨a, hac, hy⟩
          · obtain ⟨j, hj, e⟩ := h7 x hm
            exact ⟨j, by omega, e⟩
        obtain ⟨j, hj, e⟩ := key
        obtain ⟨l1, e1⟩ := List.getElem?_eq_some_iff.1 e
        obtain ⟨l2, e2⟩ := List.getElem?_eq_some_iff.1 hx
        have := nodup_inj (srch_nodup E fr) l1 l2 (e1.trans e2.symm)
        omega
      · have h11 := Option.some.inj h
        omega
      · have h11 := Option.some.inj ha'
        have haa : a' = a := by omega
        subst haa
        rw [h9 hra]
        rfl
theorem way_laws {to : K} (h : to ∈ (srch E fr).1) : (∃ p0, (wayTo (srch E fr) to)[0]? = some p0 ∧ p0 ∈ fr ∧ ((p0, to) ∈ E → (wayTo (srch E fr) to).length ≤ 2)) ∧ (wayTo (srch E fr) to)[(wayTo (srch E fr) to).length - 1]? = some to ∧ 1 ≤ (wayTo (srch E fr) to).length ∧
    (to ∈ fr → (wayTo (srch E fr) to).length = 1) ∧ (∀ (i : Nat) (a b : K), (wayTo (srch E fr) to)[i]? = some a → (wayTo (srch E fr) to)[i + 1]? = some b → (a, b) ∈ E) ∧ (wayTo (srch E fr) to).Nodup := by
  have hw : wayTo (srch E fr) to = (atP (srch E fr) (wayI (srch E fr) (plc (srch E fr).1 to))).reverse := if_pos h
  obtain ⟨L', r, y, h1, h2, h3, h4, h5, h6, h7, h8, h9, h10⟩ := back_laws (plc (srch E fr).1 to + 1) (plc (srch E fr).1 to) to (by omega) (plc_get h)
  have h1' : atP (srch E fr) (wayI (srch E fr) (plc (srch E fr).1 to)) = to :: L' := h1
  rw [h1'] at hw
  rw [hw]
  have hlen : (to :: L').reverse.length = L'.length + 1 := by simp
  have hbl : plc (srch E fr).1 to < (srch E fr).2.length := by rw [← srch_len]; exact plc_lt h
  obtain ⟨b, hb⟩ : ∃ b, (srch E fr).2[plc (srch E fr).1 to]? = some b := ⟨_, List.getElem?_eq_getElem hbl⟩
  refine ⟨⟨y, ?_, h5, fun he => ?_⟩, ?_, by omega, fun hf => ?_, fun i a b ha hb' => ?_, ?_⟩
  · rw [List.getElem?_reverse (by simp), ← h2, List.getLast?_eq_getElem?]
    simp
  · rw [hlen]
    have hs := srch_soon h3 (plc_get h) hb he
    rcases srch_by hb (plc_get h) with ⟨rfl, _⟩ | ⟨a, rfl, hac, z, hz, _⟩
    · rw [h9 hb]
      simp
    · have hal : a < (srch E fr).2.length := by rw [← srch_len]; exact (List.getElem?_eq_some_iff.1 hz).1
      obtain ⟨ba, hba⟩ : ∃ b, (srch E fr).2[a]? = some b := ⟨_, List.getElem?_eq_getElem hal⟩
      have hle := srch_sorted (show a ≤ r by omega) hba h4
      have hm1 : ba = -1 := by
        rcases srch_by hba hz with ⟨e, _⟩ | ⟨a', e, _⟩ <;> omega
      rw [hm1] at hba
      rw [h10 a hb hba]
      omega
  · rw [hlen, List.getElem?_reverse (by simp)]
    simp
  · rw [hlen]
    have h0 : to ∈ (seqS E fr 0).1 := by
      show to ∈ (seqI fr).1
      unfold seqI
      rw [visL_mem]
      exact .inr hf
    obtain ⟨j, hj, e⟩ := List.mem_iff_getElem.1 h0
    have hj2 : j < (seqS E fr 0).2.length := by rw [← seqS_len]; exact hj
    obtain ⟨b0, hb0⟩ : ∃ b, (seqS E fr 0).2[j]? = some b := ⟨_, List.getElem?_eq_getElem hj2⟩
    have hm1 : b0 = -1 := by
      rcases seqS_by 0 j b0 to hb0 (by rw [List.getElem?_eq_getElem hj, e]) with ⟨e, _⟩ | ⟨a, _, _, h, _⟩
      · exact e
      · omega
    have hjp : plc (srch E fr).1 to = j := plc_at (srch_nodup E fr) (prefix_get (seqS_srch 0).1 (by rw [List.getElem?_eq_getElem hj, e]))
    have hbj := prefix_get (seqS_srch (E := E) (fr := fr) 0).2 hb0
    rw [hm1, ← hjp] at hbj
    rw [h9 hbj]
    rfl
  · have hi := (List.getElem?_eq_some_iff.1 hb').1
    rw [hlen] at hi
    rw [List.getElem?_reverse (by simp; omega)] at ha hb'
    refine h6 ((to :: L').length - 1 - (i + 1)) b a hb' ?_
    rw [show (to :: L').length - 1 - (i + 1) + 1 = (to :: L').length - 1 - i by simp only [List.length_cons]; omega]
    exact ha
  · show List.Pairwise _ _
    rw [List.pairwise_reverse]
    exact h8.imp fun h => Ne.symm h
end
end Go.Bas
