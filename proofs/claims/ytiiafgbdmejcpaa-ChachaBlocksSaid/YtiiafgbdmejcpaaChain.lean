/-
  A region whose stores stand in a chain, with operations between them that only reckon. No program in sight.
-/
import Derived.Test.YtiiafgbdmejcpaaLasts
namespace Go.Bas
open Go.RowKit
section
variable {P : Program} {ops : Array Oper} {Q : Exit → Act → World → Prop}
/-- store q comes behind store q' < q; each waits for what is neither store nor reckoning (U). -/
def chainB (ops : Array Oper) (ps : List Nat) (isU : Nat → Bool) : Bool :=
  ((List.range ps.length).all fun q => match ops[ps.getD q 0]? with
    | none => false
    | some o => o.guard.isNone && o.dst.isNone && !isU (ps.getD q 0) && (let R := reachL ops (ps.getD q 0) (depsL o); ((List.range q).all fun q' => R.contains (ps.getD q' 0)) && ((List.range ops.size).all fun j => ps.contains j || isU j || R.contains j))) &&
  ((List.range ps.length).all fun q => (List.range q).all fun q' => ps.getD q 0 != ps.getD q' 0)
theorem chain_store {ps : List Nat} {isU : Nat → Bool} (h : chainB ops ps isU = true) {q : Nat} (hq : q < ps.length) {o : Oper} (ho : ops[ps.getD q 0]? = some o) :
    o.guard = none ∧ o.dst = none ∧ isU (ps.getD q 0) = false ∧ (∀ q', q' < q → ps.getD q' 0 ∈ reachL ops (ps.getD q 0) (depsL o)) ∧ ∀ j, j < ops.size → ps.contains j = false → isU j = false → j ∈ reachL ops (ps.getD q 0) (depsL o) := by
  unfold chainB at h
  rw [Bool.and_eq_true] at h
  have h1 := h.1
  rw [List.all_eq_true] at h1
  have h2 := h1 q (List.mem_range.2 hq)
  rw [ho] at h2
  simp only [Bool.and_eq_true, Option.isNone_iff_eq_none, List.all_eq_true, Bool.not_eq_true'] at h2
  obtain ⟨⟨⟨g1, g2⟩, g3⟩, g4, g5⟩ := h2
  refine ⟨g1, g2, g3, fun q' hq' => ?_, fun j hj hp hu => ?_⟩
  · have := g4 q' (List.mem_range.2 hq')
    simpa using this
  · have := g5 j (List.mem_range.2 hj)
    rw [hp, hu] at this
    simpa using this
theorem chain_inj {ps : List Nat} {isU : Nat → Bool} (h : chainB ops ps isU = true) {q q' : Nat} (hq : q < ps.length) (hq' : q' < ps.length) (e : ps.getD q 0 = ps.getD q' 0) : q = q' := by
  unfold chainB at h
  rw [Bool.and_eq_true] at h
  have h2 := h.2
  rw [List.all_eq_true] at h2
  rcases Nat.lt_trichotomy q q' with hlt | heq | hgt
  · have := h2 q' (List.mem_range.2 hq')
    rw [List.all_eq_true] at this
    have := this q (List.mem_range.2 hlt)
    rw [e] at this
    simp at this
  · exact heq
  · have := h2 q (List.mem_range.2 hq)
    rw [List.all_eq_true] at this
    have := this q' (List.mem_range.2 hgt)
    rw [e] at this
    simp at this
theorem ps_at {ps : List Nat} {i : Nat} (h : ps.contains i = true) : ∃ q, q < ps.length ∧ ps.getD q 0 = i := by
  have hm : i ∈ ps := by simpa using h
  obtain ⟨q, hq, he⟩ := List.getElem_of_mem hm
  exact ⟨q, hq, by simp [hq, he]⟩
theorem ps_in {ps : List Nat} {q : Nat} (hq : q < ps.length) : ps.contains (ps.getD q 0) = true := by
  simp [hq]

theorem pure_val {o : Oper} {a : Act} {w : World} {S : Value → Prop} {K : Exit → Act → World → Prop} {v : Value} (hd : o.dst = none → v = undef) (hr : (execOp a.eval o).run P w = .ok (.value v) w) (hs : S v) :
    o.wp P a w (fun a' w' => ∃ v, a' = a.put o.dst v ∧ (o.dst = none → v = undef) ∧ S v ∧ w' = w) K := by
  unfold Oper.wp
  rw [hr]
  exact ⟨v, rfl, hd, hs, rfl⟩
theorem pure_move {o : Oper} {a : Act} {w : World} {S : Value → Prop} {K : Exit → Act → World → Prop} (x : Operand) (hop : o.op = .move x ∨ o.op = .assign x) (hd : o.dst ≠ none) (hs : S (a.eval x)) :
    o.wp P a w (fun a' w' => ∃ v, a' = a.put o.dst v ∧ (o.dst = none → v = undef) ∧ S v ∧ w' = w) K :=
  pure_val (v := a.eval x) (fun h => absurd h hd) (by unfold execOp; rcases hop with h | h <;> rw [h] <;> rfl) hs
theorem wp_store_cell {o : Oper} {a : Act} {w : World} {K : Act → World → Prop} {R : Exit → Act → World → Prop} (T : TypeId) (x y : Operand) (ho : o.op = .store T x y) (hd : o.dst = none) {k : IntKind} (b i n : Nat) (f : Nat → Int) (v : Int)
    (hi : (P.info? T).map (·.size) = some 1) (hx : a.eval x = .pointer (some ⟨b, i, none⟩)) (hy : a.eval y = .int k v) (h : Arr k w b n f) (hin : i < n) (hK : K a (w.setCell ⟨b, i, none⟩ (.int k v))) : o.wp P a w K R := by
  have hr := run_storeCells_cells (P := P) b i [.int k v] 0 w
    (by
      intro j hj
      have hj0 : j = 0 := by simp at hj; omega
      subst hj0
      show (w.cell? ⟨b, i, none⟩).isSome = true
      rw [h.cell i hin]; rfl)
    (by
      intro j hj
      exact h.free _)
    (by
      intro u hu
      simp at hu; subst hu; rfl)
  obtain ⟨q, hq, hs⟩ := Option.map_eq_some_iff.1 hi
  unfold Oper.wp execOp
  simp only [Nat.add_zero] at hr
  have hs2 : (storeVar T ⟨b, i, none⟩ (.int k v)).run P w = .ok () (w.setCell ⟨b, i, none⟩ (.int k v)) := by
    simp [storeVar, sizeOf, typeInfo, hq, hs, Value.cells, hr, World.setCells]
  simp only [ho, hx, hy, Instr.storeAt, Instr.sureAddr, Sem.run_bind, Sem.run_pure, Result.andThen_ok, hs2]
  show K (a.put o.dst undef) _
  rw [hd]
  exact hK

theorem region_chain {id : Nat} {dr : Bool} {a0 : Act} {w0 : World} {n : Nat} (ps : List Nat) (isU : Nat → Bool) (hm : P.follows .mixedOrders = true) (hb : backB ops = true) (hd : dstB ops n = true) (hl : chainB ops ps isU = true) (hn : a0.tmps.size = n)
    (Sp : Nat → Value → World → Prop) (stable : ∀ i v w w', Sp i v w → Below w.heap.size w w' → Sp i v w')
    (stage : Nat → World → World) (hst0 : ∀ w, stage 0 w = w)
    (hflow : ∀ i o, ops[i]? = some o → ps.contains i = false → isU i = false → ∀ a w, Below w0.heap.size w0 w → Fr ops a0 a →
      (∀ j oj, ops[j]? = some oj → ps.contains j = false → (∃ e ∈ o.after, e.on = j ∧ Region.binds .any e = true) → Sp j (got oj a) w) →
      if Region.wanted o (yielded ops a.tmps) then o.wp P a w (fun a' w' => ∃ v, a' = a.put o.dst v ∧ (o.dst = none → v = undef) ∧ Sp i v w' ∧ Below w.heap.size w w') Q else Sp i undef w)
    (hpure : ∀ i o, ops[i]? = some o → ps.contains i = false → isU i = true → ∀ a w1 w, Below w0.heap.size w0 w1 → Fr ops a0 a →
      (∀ j oj, ops[j]? = some oj → ps.contains j = false → (∃ e ∈ o.after, e.on = j ∧ Region.binds .any e = true) → Sp j (got oj a) w1) →
      if Region.wanted o (yielded ops a.tmps) then o.wp P a w (fun a' w' => ∃ v, a' = a.put o.dst v ∧ (o.dst = none → v = undef) ∧ Sp i v w1 ∧ w' = w) Q else Sp i undef w1)
    (hput : ∀ q o, q < ps.length → ops[ps.getD q 0]? = some o → ∀ a w1 (K : Act → World → Prop), Below w0.heap.size w0 w1 → Fr ops a0 a →
      (∀ j oj, ops[j]? = some oj → ps.contains j = false → (∃ e ∈ o.after, e.on = j ∧ Region.binds .any e = true) → Sp j (got oj a) w1) →
      K a (stage (q + 1) w1) → o.wp P a (stage q w1) K Q)
    (hend : ∀ a w1, Below w0.heap.size w0 w1 → Fr ops a0 a → (∀ j oj, ops[j]? = some oj → ps.contains j = false → Sp j (got oj a) w1) → Q .normal a (stage ps.length w1)) :
    (Code.region id ops dr).wp P Q a0 w0 := by
  let Inv := fun (L : Array Bool) (a : Act) (w : World) => L.size = ops.size ∧ (∀ (i : Nat) (o : Oper), ops[i]? = some o → L.getD i false = true → ∀ e ∈ o.after, Region.binds .any e = true → L.getD e.on false = true) ∧ Fr ops a0 a ∧ ∃ w1 m, Below w0.heap.size w0 w1 ∧ m ≤ ps.length ∧
    (∀ j oj, ops[j]? = some oj → ps.contains j = false → L.getD j false = true → Sp j (got oj a) w1) ∧
    (∀ q, q < ps.length → (L.getD (ps.getD q 0) false = true ↔ q < m)) ∧
    (0 < m → ∀ j, j < ops.size → ps.contains j = false → isU j = false → L.getD j false = true) ∧ w = stage m w1
  refine wp_region_both hm hb Inv ?_ ?_ ?_
  · have hno : ∀ j, (Array.replicate ops.size false).getD j false = false := fun j => by
      by_cases hj : j < ops.size <;> simp [hj]
    have key : ∀ w, Below w0.heap.size w0 w → Inv (Array.replicate ops.size false) a0 w := fun w hB =>
      ⟨by simp, fun i o _ h => (by rw [hno] at h; cases h), ⟨rfl, rfl, fun _ _ => rfl⟩, w, 0, hB, Nat.zero_le _, fun j oj _ _ hL => (by rw [hno] at hL; cases hL), fun q _ => by rw [hno]; simp, fun h => absurd h (Nat.lt_irrefl 0), (hst0 w).symm⟩
    exact ⟨key _ (Below.refl _ _).drew, key _ (Below.refl _ _)⟩
  · rintro L a w i o ho h0 hdep ⟨hs, hcl, hF, w1, m, hB, hmle, hSp, hps, hall, hw⟩
    have hil := (Array.getElem?_eq_some_iff.1 ho).1
    have h0' : L.getD i false = false := by
      have hh : i < L.size := by omega
      simpa [hh] using h0
    have hseti : (L.setIfInBounds i true).getD i false = true := by
      have : i < L.size := by omega
      simp [this]
    have hlt : ∀ d, o.dst = some d → d < a.tmps.size := fun d hd' => by rw [hF.2.1, hn]; exact dst_lt hd ho d hd'
    have up : ∀ j, L.getD j false = true → (L.setIfInBounds i true).getD j false = true := fun j hj => by
      by_cases e : i = j
      · subst e; exact hseti
      · rw [getD_set_ne false e]; exact hj
    have hcl' : ∀ (j : Nat) (oj : Oper), ops[j]? = some oj → (L.setIfInBounds i true).getD j false = true → ∀ e ∈ oj.after, Region.binds .any e = true → (L.setIfInBounds i true).getD e.on false = true := by
      intro j oj hj hL e he hb
      by_cases hij : i = j
      · subst hij
        rw [ho] at hj
        obtain rfl := Option.some.inj hj
        exact up _ (hdep e he hb)
      · rw [getD_set_ne false hij] at hL
        exact up _ (hcl j oj hj hL e he hb)
    rcases hpi : ps.contains i with _ | _
    · have hpsn : ∀ q, q < ps.length → ((L.setIfInBounds i true).getD (ps.getD q 0) false = true ↔ q < m) := by
        intro q hq
        have hne : i ≠ ps.getD q 0 := fun e => by rw [e, ps_in hq] at hpi; cases hpi
        rw [getD_set_ne false hne]
        exact hps q hq
      have hspn : ∀ v (w2 : World), (o.dst = none → v = undef) → Sp i v w2 → (∀ j oj, ops[j]? = some oj → ps.contains j = false → L.getD j false = true → Sp j (got oj a) w2) →
          ∀ j oj, ops[j]? = some oj → ps.contains j = false → (L.setIfInBounds i true).getD j false = true → Sp j (got oj (a.put o.dst v)) w2 := by
        intro v w2 hnd hv hold j oj hj hpj hL
        by_cases hij : i = j
        · subst hij
          rw [ho] at hj
          obtain rfl := Option.some.inj hj
          rw [got_put_same v hlt hnd]
          exact hv
        · rw [got_put_other v (dst_spec hd ho hj hij)]
          rw [getD_set_ne false hij] at hL
          exact hold j oj hj hpj hL
      have hdeps : ∀ j oj, ops[j]? = some oj → ps.contains j = false → (∃ e ∈ o.after, e.on = j ∧ Region.binds .any e = true) → Sp j (got oj a) w1 :=
        fun j oj hj hpj ⟨e, he, hej, hbind⟩ => hSp j oj hj hpj (by rw [← hej]; exact hdep e he hbind)
      rcases hui : isU i with _ | _
      · -- an early operation: no store is done yet
        have hm0 : m = 0 := by
          rcases Nat.eq_zero_or_pos m with h | h
          · exact h
          · have := hall h i hil hpi hui
            rw [h0'] at this; cases this
        subst hm0
        rw [hst0] at hw
        subst hw
        have hst := hflow i o ho hpi hui a w hB hF hdeps
        have next : ∀ v w', Below w.heap.size w w' → (o.dst = none → v = undef) → Sp i v w' → Inv (L.setIfInBounds i true) (a.put o.dst v) w' := fun v w' hbel hnd hv =>
          ⟨by simpa using hs, hcl', hF.put ho v, w', 0, hB.trans (hbel.mono hB.size), Nat.zero_le _, hspn v w' hnd hv (fun j oj hj hpj hL => stable j _ w w' (hSp j oj hj hpj hL) hbel), hpsn, fun h => absurd h (Nat.lt_irrefl 0), (hst0 w').symm⟩
        split
        · rename_i hw
          rw [if_pos hw] at hst
          exact Oper.wp_mono (fun a' w' ⟨v, ha, hnd, hv, hbel⟩ => by subst ha; exact next v w' hbel hnd hv) hst
        · rename_i hw
          rw [if_neg hw] at hst
          exact next undef w (Below.refl _ _) (fun _ => rfl) hst
      · have hst := hpure i o ho hpi hui a w1 w hB hF hdeps
        have next : ∀ v, (o.dst = none → v = undef) → Sp i v w1 → Inv (L.setIfInBounds i true) (a.put o.dst v) w := fun v hnd hv =>
          ⟨by simpa using hs, hcl', hF.put ho v, w1, m, hB, hmle, hspn v w1 hnd hv hSp, hpsn, fun h j hj hpj huj => up _ (hall h j hj hpj huj), hw⟩
        split
        · rename_i hw'
          rw [if_pos hw'] at hst
          exact Oper.wp_mono (fun a' w' ⟨v, ha, hnd, hv, hww⟩ => by subst ha; subst hww; exact next v hnd hv) hst
        · rename_i hw'
          rw [if_neg hw'] at hst
          exact next undef (fun _ => rfl) hst
    · obtain ⟨q, hq, hqi⟩ := ps_at hpi
      subst hqi
      obtain ⟨hg, hdst, hu, hprev, hearly⟩ := chain_store hl hq ho
      have hreach := reachL_spec (L := fun j => L.getD j false) hcl (ps.getD q 0) (depsL o) (fun k hk => by obtain ⟨e, he, hej, hb⟩ := depsL_spec hk; rw [← hej]; exact hdep e he hb)
      have hqm : q = m := by
        have h1 : ¬ q < m := fun h => by rw [(hps q hq).2 h] at h0'; cases h0'
        rcases Nat.lt_or_ge m q with h2 | h2
        · exfalso
          have hml : m < ps.length := by omega
          have := hreach _ (hprev m h2)
          exact absurd ((hps m hml).1 this) (Nat.lt_irrefl m)
        · omega
      subst hqm
      subst hw
      rw [if_pos (by simp [Region.wanted, hg])]
      refine hput q o hq ho a w1 _ hB hF (fun j oj hj hpj ⟨e, he, hej, hbind⟩ => hSp j oj hj hpj (by rw [← hej]; exact hdep e he hbind)) ?_
      refine ⟨by simpa using hs, hcl', hF, w1, q + 1, hB, hq, fun j oj hj hpj hL => ?_, fun q' hq' => ?_, fun _ j hj hpj huj => up _ (hreach _ (hearly j hj hpj huj)), rfl⟩
      · have hij : ps.getD q 0 ≠ j := fun e => by rw [e, hpj] at hpi; cases hpi
        rw [getD_set_ne false hij] at hL
        exact hSp j oj hj hpj hL
      · by_cases e : q' = q
        · subst e; exact ⟨fun _ => Nat.lt_succ_self _, fun _ => hseti⟩
        · have hne : ps.getD q 0 ≠ ps.getD q' 0 := fun e2 => e (chain_inj hl hq hq' e2).symm
          rw [getD_set_ne false hne, hps q' hq']
          omega
  · rintro L a w hdone ⟨hs, hcl, hF, w1, m, hB, hmle, hSp, hps, hall, hw⟩
    have hmm : m = ps.length := by
      rcases Nat.lt_or_ge m ps.length with h | h
      · exfalso
        rcases hx : ops[ps.getD m 0]? with _ | o
        · have hl' := hl
          unfold chainB at hl'
          rw [Bool.and_eq_true] at hl'
          have h1 := hl'.1
          rw [List.all_eq_true] at h1
          have h2 := h1 m (List.mem_range.2 h)
          rw [hx] at h2
          cases h2
        · have := (hps m h).1 (hdone _ (Array.getElem?_eq_some_iff.1 hx).1)
          omega
      · omega
    subst hmm
    subst hw
    exact hend a w1 hB hF (fun j oj hj hpj => hSp j oj hj hpj (hdone j (Array.getElem?_eq_some_iff.1 hj).1))
end
end Go.Bas
