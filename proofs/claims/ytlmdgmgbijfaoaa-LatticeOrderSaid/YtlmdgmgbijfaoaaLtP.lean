/-
  LatticeOrder's parts: pairs of texts, what Order answers. Conditions: named in each theorem.
-/
import Derived.Test.YtlmdgmgbijfaoaaLtN
import Derived.Test.YtlmdgmgbijfaoaaGs7
import Derived.Test.YtlmdgmgbijfaoaaGrP
import Derived.Test.YtlmdgmgbijfaoaaOpen
set_option linter.unusedVariables false
set_option linter.unusedSimpArgs false
namespace Go.Bas
open Go.RowKit Go.ChangeShapes Go.WideShapes Go.ChangeAt
/-- a list of one that is written out. -/
theorem mat_one {K : Type} {w : World} {e : TypeId} {kv : K → Value} (x : K) : Mat (w.alloc (.cells #[kv x] e)) (.slice (some ⟨w.heap.size, 0, none⟩) 1 1) [x].length 1 (lv kv [x]) :=
  (OwM.new w e 1 (n := 1) (by unfold maxLen; omega) rfl fun j hj i hi => by
    have e1 : j = 0 := (by omega)
    have e2 : i = 0 := (by omega)
    subst e1
    subst e2
    rfl).mat
/-- does a text stand among texts? -/
def inB (y : ByteArray) (L : List ByteArray) : Bool := L.any fun z => z.toList == y.toList
theorem inB_succ {y z : ByteArray} {L : List ByteArray} {q : Nat} (h : L[q]? = some z) : inB y (L.take (q + 1)) = (inB y (L.take q) || (z.toList == y.toList)) := by
  unfold inB
  rw [List.take_add_one, h, List.any_append]
  simp
theorem inB_mem {y : ByteArray} {L : List ByteArray} (h : y ∈ L) : inB y L = true := List.any_eq_true.2 ⟨y, h, by simp⟩
/-- the cells of pairs of texts. -/
def tv (L : List (ByteArray × ByteArray)) : Nat → Nat → Value := fun j i => match L[j]? with | some e => .string (if i = 0 then e.1 else e.2) | none => undef
theorem tv_at {L : List (ByteArray × ByteArray)} {j i : Nat} {e : ByteArray × ByteArray} (h : L[j]? = some e) : tv L j i = .string (if i = 0 then e.1 else e.2) := by unfold tv; rw [h]
theorem open_tpairs {H : Type} {enc : TypeId × Value → H} {P : Program} {w : World} {base : Nat} {spare : Nat → Bool} {held : Bool} {t e ie : TypeId} {v : Value} {d : DataW H} {p : List MemPlace} (ht : P.underlying t = some (.slice e)) (he : P.underlying e = some (.array 2 ie)) (hi : P.underlying ie = some .string) (hc : P.cellsOf ie = 1) (hn : P.cellsOf e = 2)
    {b0 : Nat} (hv : Value.okWide P w .any b0 t v) (h : DataW.Trod enc P w base spare held t v d p) :
    ∃ L : List (ByteArray × ByteArray), Mat w v L.length 2 (tv L) ∧ ∀ e, e ∈ L → e.1.size ≤ maxLen ∧ e.2.size ≤ maxLen := by
  obtain ⟨m, q, hq, htr⟩ := open_mat ht hn (by decide) hv h
  have each : ∀ j, j < m → ∃ a b : ByteArray, q j 0 = .string a ∧ q j 1 = .string b ∧ a.size ≤ maxLen ∧ b.size ≤ maxLen := by
    intro j hj
    obtain ⟨fuel, y, hy⟩ := htr j hj
    obtain ⟨xs, m', rfl, _, hl, hx, hi'⟩ := DataW.trod_array he hy
    rw [hc] at hi'
    have one : ∀ i, i < 2 → ∃ s : ByteArray, q j i = .string s ∧ s.size ≤ maxLen := by
      intro i hin
      have h1 := hi' i hin
      obtain ⟨y, hy⟩ : ∃ y, xs[i]? = some y := by rw [List.getElem?_eq_getElem (by omega)]; exact ⟨_, rfl⟩
      rw [hy, Nat.mul_one] at h1
      obtain ⟨s, hs, _, hw⟩ := DataW.trod_string hi h1
      refine ⟨s, ?_, hw⟩
      have h2 : (List.take 1 (List.drop i ((List.range 2).map (q j))))[0]? = some (.string s) := by rw [hs]; rfl
      have h3 : ((List.range 2).map (q j))[i]? = some (.string s) := by simpa using h2
      rw [List.getElem?_map, List.getElem?_range hin] at h3
      exact Option.some.inj h3
    obtain ⟨a, ha, wa⟩ := one 0 (by decide)
    obtain ⟨b, hb, wb⟩ := one 1 (by decide)
    exact ⟨a, b, ha, hb, wa, wb⟩
  classical
  refine ⟨(List.range m).map fun j => if h : j < m then (Classical.choose (each j h), Classical.choose (Classical.choose_spec (each j h))) else (.empty, .empty), ?_, fun e he => ?_⟩
  · rw [List.length_map, List.length_range]
    obtain ⟨a, cap, rfl, h1, h2, h3⟩ := hq
    refine ⟨a, cap, rfl, h1, h2, fun hm => ?_⟩
    obtain ⟨b, o, rfl, hlt, hcc⟩ := h3 hm
    refine ⟨b, o, rfl, hlt, fun j hj i hi => ?_⟩
    rw [hcc j hj i hi]
    have hs := Classical.choose_spec (Classical.choose_spec (each j hj))
    rw [tv_at (e := (Classical.choose (each j hj), Classical.choose (Classical.choose_spec (each j hj)))) (by rw [List.getElem?_map, List.getElem?_range hj, Option.map_some, dif_pos hj])]
    rcases (by omega : i = 0 ∨ i = 1) with rfl | rfl
    · rw [if_pos rfl]
      exact congrArg some hs.1
    · rw [if_neg (by decide)]
      exact congrArg some hs.2.1
  · obtain ⟨j, hj, rfl⟩ := List.mem_map.1 he
    have hj := List.mem_range.1 hj
    have hs := Classical.choose_spec (Classical.choose_spec (each j hj))
    rw [dif_pos hj]
    exact hs.2.2
end Go.Bas
namespace Go.Proofs.Ytlmdgmgbijfaoaa
open Go.RowKit Go.Bas Go.ChangeShapes Go.Maps
/-- the order, if there is one; else nothing. -/
def ordL (E : List (Int × Int)) : List Int := (ordI E (nodesL E).length).getD []
def ordB (E : List (Int × Int)) : Bool := (ordI E (nodesL E).length).isSome
theorem OrdA.parts {E : List (Int × Int)} {w : World} {v : Value} {b : Bool} (h : OrdA E w v b) : b = ordB E ∧ OwM 3 1 w v (ordL E).length (lv kvI (ordL E)) := by
  unfold OrdA at h
  unfold ordB ordL
  cases ho : ordI E (nodesL E).length with
  | none => rw [ho] at h; exact ⟨h.1, by rw [h.2]; exact OwM.nil _ _ _ _⟩
  | some l => rw [ho] at h; exact ⟨h.1, h.2⟩
theorem ordL_len (E : List (Int × Int)) : (ordL E).length ≤ 2 * E.length := by
  unfold ordL
  cases ho : ordI E (nodesL E).length with
  | none => exact Nat.zero_le _
  | some l =>
    have h1 := (ordI_inv _ _ ho).1
    have h2 := nodesL_len E
    show l.length ≤ _
    omega
theorem Try.sizeT : (Try.prog.info? 81).map (·.size) = some 2 := by kernel_rfl
/-- the first that is found is the one it begins with. -/
theorem srch_first {E : List (ByteArray × ByteArray)} {a : ByteArray} : (srch E [a]).1[0]? = some a := by
  refine prefix_get (seqS_srch (E := E) (fr := [a]) 0).1 ?_
  simp [seqS, seqI, vis]
theorem way_first {E : List (ByteArray × ByteArray)} {a to : ByteArray} (h : to ∈ (srch E [a]).1) : (wayTo (srch E [a]) to)[0]? = some a ∧ (wayTo (srch E [a]) to)[(wayTo (srch E [a]) to).length - 1]? = some to ∧ 1 ≤ (wayTo (srch E [a]) to).length := by
  obtain ⟨⟨p0, h1, h2, _⟩, h3, h4, _⟩ := way_laws h
  rw [List.mem_singleton] at h2
  subst h2
  exact ⟨h1, h3, h4⟩
theorem way_len {E : List (ByteArray × ByteArray)} {a to : ByteArray} : (wayTo (srch E [a]) to).length ≤ E.length + 2 := by
  unfold wayTo
  split
  · rename_i h
    rw [List.length_reverse]
    have h1 := plc_lt h
    have h2 := srch_bound E [a]
    rw [List.length_singleton] at h2
    exact Nat.le_trans (atP_len _ _) (Nat.le_trans (chn_len _ _ _) (by omega))
  · exact Nat.zero_le _
end Go.Proofs.Ytlmdgmgbijfaoaa
