/-
  A region that draws its order and whose last operation waits for all others. No program in sight.
-/
import Derived.Test.YtiiafgbdmejcpaaEq
namespace Go.Bas
open Go.RowKit
section
variable {P : Program} {ops : Array Oper} {Q : Exit → Act → World → Prop}

/-- every operation but the last has a later one that waits for it. -/
def usedB (ops : Array Oper) : Bool := (List.range (ops.size - 1)).all fun j => ops.toList.zipIdx.any fun (x : Oper × Nat) => decide (j < x.2) && waits x.1 j
theorem used_spec (h : usedB ops = true) (L : Array Bool) (hcl : ∀ i o, ops[i]? = some o → L.getD i false = true → ∀ e ∈ o.after, Region.binds .any e = true → L.getD e.on false = true)
    (hl : L.getD (ops.size - 1) false = true) : ∀ k j, j + k = ops.size - 1 → L.getD j false = true := by
  intro k
  induction k using Nat.strongRecOn with
  | _ k ih =>
    intro j hj
    by_cases hk : k = 0
    · rw [show j = ops.size - 1 by omega]; exact hl
    · unfold usedB at h
      rw [List.all_eq_true] at h
      have := h j (List.mem_range.2 (by omega))
      rw [List.any_eq_true] at this
      obtain ⟨⟨o, i⟩, hm, hc⟩ := this
      simp only [Bool.and_eq_true, decide_eq_true_eq] at hc
      rw [List.mem_zipIdx_iff_getElem?] at hm
      have hi : ops[i]? = some o := by simpa using hm
      have hlt := (Array.getElem?_eq_some_iff.1 hi).1
      obtain ⟨e, he, hej, hb⟩ := waits_spec hc.2
      rw [← hej]
      exact hcl i o hi (ih (ops.size - 1 - i) (by omega) i (by omega)) e he hb

/-- THE FLOW, AND THEN THE LAST OPERATION, which may change what it likes. -/
theorem region_last {id : Nat} {a0 : Act} {w0 : World} {n : Nat} {l : List Oper} {ol : Oper} (hops : ops.toList = l ++ [ol]) (hm : P.follows .mixedOrders = true) (hb : backB ops = true) (hd : dstB ops n = true) (hu : usedB ops = true) (hn : a0.tmps.size = n)
    (Sp : Nat → Value → World → Prop) (E : World → World → Prop) (hE : ∀ w w', Below w.heap.size w w' → E w w')
    (stable : ∀ i v w w', Sp i v w → E w w' → Sp i v w')
    (hflow : ∀ i o, l.toArray[i]? = some o → ∀ a w, Below w0.heap.size w0 w → Fr ops a0 a →
      (∀ j oj, ops[j]? = some oj → (∃ e ∈ o.after, e.on = j ∧ Region.binds .any e = true) → Sp j (got oj a) w) →
      if Region.wanted o (yielded ops a.tmps) then o.wp P a w (fun a' w' => ∃ v, a' = a.put o.dst v ∧ (o.dst = none → v = undef) ∧ Sp i v w' ∧ Below w.heap.size w w') Q else Sp i undef w)
    (hg : ol.guard = none)
    (hlast : ∀ a w, Below w0.heap.size w0 w → Fr ops a0 a → (∀ j oj, l[j]? = some oj → Sp j (got oj a) w) → ol.wp P a w (fun a' w' => Q .normal a' w') Q) :
    (Code.region id ops true).wp P Q a0 w0 := by
  have hsz : ops.size = l.length + 1 := by have := congrArg List.length hops; simpa using this
  have hat : ∀ j, j < l.length → ops[j]? = l[j]? := fun j hj => by
    rw [← Array.getElem?_toList, hops, List.getElem?_append_left hj]
  have hatl : ops[l.length]? = some ol := by
    rw [← Array.getElem?_toList, hops, List.getElem?_append_right (Nat.le_refl _)]; simp
  refine wp_region_inv hm hb (fun L a w => L.size = ops.size ∧ (∀ i o, ops[i]? = some o → L.getD i false = true → ∀ e ∈ o.after, Region.binds .any e = true → L.getD e.on false = true) ∧
    if L.getD l.length false = true then Q .normal a w else Below w0.heap.size w0 w ∧ Fr ops a0 a ∧ ∀ j oj, ops[j]? = some oj → L.getD j false = true → Sp j (got oj a) w) ?_ ?_ ?_
  · have h0 : ∀ j, (Array.replicate ops.size false).getD j false = false := fun j => by
      by_cases hj : j < ops.size <;> simp [hj]
    refine ⟨by simp, fun i o _ h => (by rw [h0] at h; cases h), ?_⟩
    rw [if_neg (by rw [h0]; simp)]
    exact ⟨(Below.refl _ _).drew, ⟨rfl, rfl, fun _ _ => rfl⟩, fun j oj _ hL => by rw [h0] at hL; cases hL⟩
  · rintro L a w i o ho h0 hdep ⟨hs, hcl, hI⟩
    have hil := (Array.getElem?_eq_some_iff.1 ho).1
    have h0' : L.getD i false = false := by
      have hh : i < L.size := by omega
      simpa [hh] using h0
    have hnl : ¬ L.getD l.length false = true := by
      intro h
      have := used_spec hu L hcl (by rw [show ops.size - 1 = l.length by omega]; exact h) (ops.size - 1 - i) i (by omega)
      rw [h0'] at this; cases this
    rw [if_neg hnl] at hI
    obtain ⟨hB, hF, hSp⟩ := hI
    have hcl' : ∀ i' o', ops[i']? = some o' → (L.setIfInBounds i true).getD i' false = true → ∀ e ∈ o'.after, Region.binds .any e = true → (L.setIfInBounds i true).getD e.on false = true := by
      intro i' o' ho' hL e he hbi
      have mono : ∀ j, L.getD j false = true → (L.setIfInBounds i true).getD j false = true := by
        intro j hj
        by_cases hij : i = j
        · subst hij; rw [h0'] at hj; cases hj
        · rw [getD_set_ne false hij]; exact hj
      by_cases hij : i = i'
      · subst hij
        rw [ho] at ho'
        obtain rfl := Option.some.inj ho'
        exact mono _ (hdep e he hbi)
      · rw [getD_set_ne false hij] at hL
        exact mono _ (hcl i' o' ho' hL e he hbi)
    by_cases hlst : i = l.length
    · subst hlst
      rw [hatl] at ho
      obtain rfl := Option.some.inj ho
      rw [if_pos (wanted_none hg)]
      have hall : ∀ j, j < l.length → L.getD j false = true := by
        intro j hj
        -- the last waits for all: close the listed set with the last one in it
        have := used_spec hu (L.setIfInBounds l.length true) hcl' (by rw [show ops.size - 1 = l.length by omega]; simp [hs, hsz]) (ops.size - 1 - j) j (by omega)
        rw [getD_set_ne false (by omega)] at this
        exact this
      refine Oper.wp_mono (fun a' w' hq => ⟨by simpa using hs, hcl', ?_⟩) (hlast a w hB hF fun j oj hj => ?_)
      · rw [if_pos (by simp [hs, hsz])]; exact hq
      · have hjl := (List.getElem?_eq_some_iff.1 hj).1
        exact hSp j oj (by rw [hat j hjl]; exact hj) (hall j hjl)
    · have hlt : i < l.length := by omega
      have hst := hflow i o (by rw [← ho, hat i hlt]; simp) a w hB hF (fun j oj hj ⟨e, he, hej, hbind⟩ => hSp j oj hj (by rw [← hej]; exact hdep e he hbind))
      have hltd : ∀ d, o.dst = some d → d < a.tmps.size := fun d hd' => by rw [hF.2.1, hn]; exact dst_lt hd ho d hd'
      have next : ∀ v w', Below w.heap.size w w' → (o.dst = none → v = undef) → Sp i v w' → (L.setIfInBounds i true).size = ops.size ∧ (∀ i' o', ops[i']? = some o' → (L.setIfInBounds i true).getD i' false = true → ∀ e ∈ o'.after, Region.binds .any e = true → (L.setIfInBounds i true).getD e.on false = true) ∧
          if (L.setIfInBounds i true).getD l.length false = true then Q .normal (a.put o.dst v) w' else Below w0.heap.size w0 w' ∧ Fr ops a0 (a.put o.dst v) ∧
          ∀ j oj, ops[j]? = some oj → (L.setIfInBounds i true).getD j false = true → Sp j (got oj (a.put o.dst v)) w' := by
        intro v w' hbel hnone hv
        refine ⟨by simpa using hs, hcl', ?_⟩
        rw [if_neg (by rw [getD_set_ne false hlst]; exact hnl)]
        refine ⟨hB.trans (hbel.mono hB.size), hF.put ho v, fun j oj hj hL => ?_⟩
        by_cases hij : i = j
        · subst hij
          rw [ho] at hj
          obtain rfl := Option.some.inj hj
          rw [got_put_same v hltd hnone]
          exact hv
        · rw [got_put_other v (dst_spec hd ho hj hij)]
          rw [getD_set_ne false hij] at hL
          exact stable j _ w w' (hSp j oj hj hL) (hE w w' hbel)
      split
      · rename_i hw
        rw [if_pos hw] at hst
        refine Oper.wp_mono (fun a' w' ⟨v, ha, hnone, hv, hbel⟩ => ?_) hst
        subst ha
        exact next v w' hbel hnone hv
      · rename_i hw
        rw [if_neg hw] at hst
        exact next undef w (Below.refl _ _) (fun _ => rfl) hst
  · rintro L a w hall ⟨hs, hcl, hI⟩
    rw [if_pos (hall _ (by omega))] at hI
    exact hI

theorem region_last' {id : Nat} {a0 : Act} {w0 : World} {n : Nat} {ol : Oper} (m : Nat) (hol : ops[m]? = some ol) (hms : m + 1 = ops.size) (hm : P.follows .mixedOrders = true) (hb : backB ops = true) (hd : dstB ops n = true) (hu : usedB ops = true) (hn : a0.tmps.size = n)
    (Sp : Nat → Value → World → Prop) (E : World → World → Prop) (hE : ∀ w w', Below w.heap.size w w' → E w w')
    (stable : ∀ i v w w', Sp i v w → E w w' → Sp i v w') (hg : ol.guard = none)
    (hflow : ∀ i o, ops[i]? = some o → i ≠ m → ∀ a w, Below w0.heap.size w0 w → Fr ops a0 a →
      (∀ j oj, ops[j]? = some oj → (∃ e ∈ o.after, e.on = j ∧ Region.binds .any e = true) → Sp j (got oj a) w) →
      if Region.wanted o (yielded ops a.tmps) then o.wp P a w (fun a' w' => ∃ v, a' = a.put o.dst v ∧ (o.dst = none → v = undef) ∧ Sp i v w' ∧ Below w.heap.size w w') Q else Sp i undef w)
    (hlast : ∀ a w, Below w0.heap.size w0 w → Fr ops a0 a → (∀ j oj, ops[j]? = some oj → j ≠ m → Sp j (got oj a) w) → ol.wp P a w (fun a' w' => Q .normal a' w') Q) :
    (Code.region id ops true).wp P Q a0 w0 := by
  obtain ⟨l⟩ := ops
  simp at hms
  have hl : l = l.take m ++ [ol] := by
    apply List.ext_getElem?
    intro i
    rcases Nat.lt_trichotomy i m with h | h | h
    · rw [List.getElem?_append_left (by simp; omega)]; simp [h]
    · subst h; rw [List.getElem?_append_right (by simp; omega)]; simp at hol ⊢; rw [hol]; simp [show min i l.length = i by omega]
    · rw [List.getElem?_eq_none (by omega), List.getElem?_eq_none (by simp; omega)]
  have hlen : (l.take m).length = m := by simp; omega
  refine region_last (l := l.take m) (ol := ol) hl hm hb hd hu hn Sp E hE stable (fun i o hi => ?_) hg (fun a w hB hF hS => hlast a w hB hF fun j oj hj hjm => ?_)
  · have hlt : i < m := by have := (Array.getElem?_eq_some_iff.1 hi).1; simp at this; omega
    exact hflow i o (by simp at hi ⊢; rw [← hi]; simp [hlt]) (by omega)
  · have hj' : l[j]? = some oj := by simpa using hj
    have hlt : j < m := by have := (List.getElem?_eq_some_iff.1 hj').1; omega
    exact hS j oj (by simp [hlt, hj'])
end
end Go.Bas
