/-
  The document's graphs: edges once, nodes. Conditions: named in each theorem.
-/
import Derived.Test.YtlmdgmgbijfaoaaLtB
import Derived.Test.YtlmdgmgbijfaoaaFlow
set_option linter.unusedVariables false
set_option linter.unusedSimpArgs false
namespace Go.Bas
open Go.RowKit
/-- a reading operation whose run is known, in a region that draws. -/
theorem quiet_val {P : Program} {ops : Array Oper} {o : Oper} {rest : List Oper} {a : Act} {w : World} {Q : Act → Prop} (hw : Region.wanted o (yielded ops a.tmps) = true) {v : Value} (hr : ∀ n, (execOp a.eval o).run P (w.drewN n) = .ok (.value v) (w.drewN n))
    (h : wpQuiet P ops (fun w' => ∃ n, w' = w.drewN n) Q rest (a.put o.dst v)) : wpQuiet P ops (fun w' => ∃ n, w' = w.drewN n) Q (o :: rest) a := by
  unfold wpQuiet
  rw [if_pos hw]
  refine ⟨v, ?_, h⟩
  rintro w' ⟨n, rfl⟩
  unfold Oper.quietAt
  rw [hr n]
  exact ⟨rfl, rfl⟩
theorem quiet_load {P : Program} {ops : Array Oper} {o : Oper} {rest : List Oper} {a : Act} {w : World} {Q : Act → Prop} (hw : Region.wanted o (yielded ops a.tmps) = true) {T : TypeId} {d : TypeDesc} {x : Operand} {k : IntKind} {b off n : Nat} {f : Nat → Int} (ho : o.op = .load T x) (hx : a.eval x = .pointer (some ⟨b, off, none⟩))
    (hu : P.underlying T = some d) (hd : d.isRow = true) (hi : (P.info? T).map (·.size) = some n) (hc : ∀ i, i < n → w.cell? ⟨b, off + i, none⟩ = some (.int k (f i))) (hb : b < w.heap.size)
    (h : wpQuiet P ops (fun w' => ∃ n, w' = w.drewN n) Q rest (a.put o.dst (.agg (arr k n f)))) : wpQuiet P ops (fun w' => ∃ n, w' = w.drewN n) Q (o :: rest) a :=
  quiet_val hw (fun m => run_load_mid' ho hx hu hd hi fun i hi' => ((Go.Bas.below_drewN (Below.refl w.heap.size w) m).cell (p := ⟨b, off + i, none⟩) hb).trans (hc i hi')) h
/-- append(v, x): x has c cells; the list of one has just been made. -/
theorem wpList_append_row {P : Program} {ops : Array Oper} {rest : List Oper} {o : Oper} {a : Act} {w w0 : World} {Q' : Exit → Act → World → Prop} {e t : TypeId} {c n : Nat} {v : Value} {y : Nat → Value} {q : Nat → Nat → Value} {bytes : Nat} {z : Value} (hg : o.guard = none) (s x : Operand) (hop : o.op = .call { callee := .builtin .append, args := #[s, x], argTypes := #[t, t] })
    (hs : a.eval s = v) (hw : w = w0.alloc (.cells (rowV c y) e)) (h : OwM e c w0 v n q) (hc : 0 < c) (h1 : P.underlying t = some (.slice e)) (hinfo : (P.info? e).map (fun i => (i.zero, i.size, i.bytes)) = some (some z, c, bytes)) (hz : z.cells.size = c)
    (hx : a.eval x = .slice (some ⟨w0.heap.size, 0, none⟩) 1 1) (hu : ∀ i, i < c → (y i).oneCell' = true)
    (h63 : n + 1 ≤ maxLen) (hb : (n + 1) * bytes ≤ 140737488355328)
    (hK : ∀ v' w', OwM e c w' v' (n + 1) (catM n q (fun _ i => y i)) → w.grownBy w' v.ownBlock → Placed w0 v v' → wpList P ops Q' rest (a.put o.dst v') w') : wpList P ops Q' (o :: rest) a w := by
  subst hw
  refine wpList_append_m hg s x hop hs (h.alloc _) hc h1 hinfo hz w0.heap.size 0 1 1 hx (fun _ i => y i) (fun j hj i hi => ⟨?_, hu i hi⟩) h63 hb fun v' w' h1 h2 h3 => hK v' w' h1 h2 ?_
  · obtain rfl : j = 0 := by omega
    rw [show 0 + (0 * c + i) = i by omega, RowN.new.2 i hi]
  · rcases h3 with h3 | h3
    · exact .inl h3
    · exact .inr fun b hb => by have := h3 b hb; rw [World.size_alloc] at this; omega
/-- a pair's numbers by place. -/
def pf (e : Int × Int) (i : Nat) : Int := if i = 0 then e.1 else e.2
theorem pv_pf {L : List (Int × Int)} {j i : Nat} {e : Int × Int} (h : L[j]? = some e) : pv L j i = .int .i64 (pf e i) := pv_at h
theorem sameB_pair (e e' : Int × Int) : sameB 2 (pf e) (pf e') = decide (e = e') := by
  obtain ⟨a, b⟩ := e
  obtain ⟨c, d⟩ := e'
  unfold sameB
  by_cases h : ((a, b) : Int × Int) = (c, d)
  · rw [decide_eq_true h, h]
    exact decide_eq_true fun _ _ => rfl
  · rw [decide_eq_false h]
    refine decide_eq_false fun h' => h ?_
    have h0 := h' 0 (by decide)
    have h1 := h' 1 (by decide)
    exact Prod.ext h0 h1
theorem pv_snoc {e : TypeId} {L : List (Int × Int)} {x : Int × Int} {w : World} {v : Value} {y : Nat → Nat → Value} (h : OwM e 2 w v (L.length + 1) (catM L.length (pv L) y)) (hy : ∀ i, y 0 i = .int .i64 (pf x i)) : OwM e 2 w v (L ++ [x]).length (pv (L ++ [x])) := by
  rw [List.length_append, List.length_singleton]
  refine h.congr fun j hj i hi => ?_
  by_cases hl : j < L.length
  · rw [catM_lo hl]
    unfold pv
    rw [List.getElem?_append_left hl]
  · obtain rfl : j = L.length := by omega
    rw [catM_at, hy, pv_pf (e := x) (by rw [List.getElem?_append_right (Nat.le_refl _), Nat.sub_self]; rfl)]
end Go.Bas
namespace Go.Proofs.Ytlmdgmgbijfaoaa
open Go.RowKit Go.Bas Go.ChangeShapes Go.Maps
attribute [local go_sem ↓] Go.wp_at_zero Go.wp_at_succ
theorem Try.infoP : (Try.prog.info? 63).map (fun i => (i.zero, i.size, i.bytes)) = some (some (.agg #[.int .i64 0, .int .i64 0]), 2, 16) := by kernel_rfl
set_option maxRecDepth 100000 in
set_option maxHeartbeats 1600000 in
theorem onceR_any (L : List (Int × Int)) (v : Value) (w : World) (h : Mat w v L.length 2 (pv L)) (hl : L.length ≤ 1000) : Calls Try.prog 41 #[v] w fun e w' => ∃ u, e = .returned u ∧ OwM 63 2 w' u (onceL L).length (pv (onceL L)) ∧ (∀ b, u.ownBlock = some b → w.heap.size ≤ b) ∧ Below w.heap.size w w' := by
  have HLL := Lib.hid hl
  obtain ⟨a, cap, rfl, hcap, hcap2, hcell⟩ := h
  have HC := Lib.hid hcell
  clear hcell hl
  go_enter Try.func41, Try.ntmps41
  go_wp2
  go_loopw [3, 4] (fun out i wr => ∃ k : Nat, k ≤ L.length ∧ i = .int .i64 k ∧ OwM 63 2 wr out (onceL (L.take k)).length (pv (onceL (L.take k))) ∧ (∀ b, out.ownBlock = some b → w.heap.size ≤ b) ∧ Below w.heap.size w wr) (fun _ i _ => L.length - (intOf i).toNat)
  case atStart => exact ⟨0, Nat.zero_le _, rfl, OwM.nil _ _ _ _, (fun b hb => by cases hb), Below.refl _ _⟩
  case round =>
    obtain ⟨k, hk, rfl, hO, hH, hBe⟩ := hrel
    have HO := Lib.hid hO
    have HH := Lib.hid hH
    have HBe := Lib.hid hBe
    obtain ⟨ao, co, eo, hco, hco2⟩ := hO.slice
    subst eo
    obtain ⟨D, hD⟩ : ∃ D, D = onceL (L.take k) := ⟨_, rfl⟩
    have HDL : Hid (D.length ≤ 1000) := Lib.hid (by rw [hD]; exact Nat.le_trans (onceL_len _) (by have := HLL.out; rw [List.length_take]; omega))
    rw [← hD] at HO HH
    rw [← hD]
    have HD := Lib.hid hD
    clear hO hH hBe hD
    by_cases hlt : k < L.length
    · obtain ⟨b, o, rfl, hb, hc⟩ := HC.out (by omega)
      obtain ⟨x, hx⟩ : ∃ e, L[k]? = some e := ⟨_, List.getElem?_eq_getElem hlt⟩
      have HCL : Hid (∀ i, i < 2 → wr.cell? ⟨b, o + k * 2 + i, none⟩ = some (.int .i64 (pf x i))) := fun i hi => ((HBe.out.cell (p := ⟨b, o + k * 2 + i, none⟩) hb).trans (hc k hlt i hi)).trans (congrArg some (pv_pf hx))
      have HBW : Hid (b < wr.heap.size) := Lib.hid (Nat.lt_of_lt_of_le hb HBe.out.size)
      have HX := Lib.hid hx
      have hk9 : (k : Int) < 1000000 := by have := HLL.out; omega
      have HKL := Lib.hid hlt
      clear hc hx
      rename World => wo
      go_wp2
      go_loopw [6, 5] (fun i met wq => ∃ j : Nat, j ≤ D.length ∧ i = .int .i64 j ∧ met = .bool (decide (x ∈ D.take j)) ∧ Below wo.heap.size wo wq) (fun i _ _ => D.length - (intOf i).toNat)
      case atStart => exact ⟨0, Nat.zero_le _, rfl, by simp, Below.refl _ _⟩
      case round =>
        obtain ⟨j, hj, rfl, rfl, hBq⟩ := hrel
        have HBq := Lib.hid hBq
        clear hBq
        by_cases hjl : j < D.length
        · have hj9 : (j : Int) < 1000000 := by have := HDL.out; omega
          obtain ⟨y, hy⟩ : ∃ e, D[j]? = some e := ⟨_, List.getElem?_eq_getElem hjl⟩
          obtain ⟨go, c', e0, _, _, _, hcd⟩ := (HO.out.below HBq.out).form (by omega)
          simp only [Value.slice.injEq, true_and] at e0
          obtain ⟨rfl, rfl⟩ := e0
          have HCD : Hid (∀ i, i < 2 → wr.cell? ⟨go, j * 2 + i, none⟩ = some (.int .i64 (pf y i))) := fun i hi => by exact (hcd j hjl i hi).trans (congrArg some (pv_pf hy))
          have HCX : Hid (∀ i, i < 2 → wr.cell? ⟨b, o + k * 2 + i, none⟩ = some (.int .i64 (pf x i))) := fun i hi => (HBq.out.cell (p := ⟨b, o + k * 2 + i, none⟩) HBW.out).trans (HCL.out i hi)
          have HMT : Hid (decide (x ∈ D.take (j + 1)) = (decide (x ∈ D.take j) || decide (y = x))) := Lib.hid (by
            rw [List.take_add_one, hy]
            by_cases h1 : x ∈ D.take j
            · rw [decide_eq_true h1, Bool.true_or]; exact decide_eq_true (List.mem_append.2 (.inl h1))
            · rw [decide_eq_false h1, Bool.false_or]
              by_cases h2 : y = x
              · rw [decide_eq_true h2]; exact decide_eq_true (List.mem_append.2 (.inr (by simp [h2])))
              · rw [decide_eq_false h2]; exact decide_eq_false fun hm => (List.mem_append.1 hm).elim h1 fun hm => h2 (List.mem_singleton.1 hm).symm)
          have HGO : Hid (go < wr.heap.size) := Lib.hid ((HO.out.below HBq.out).lt go rfl)
          have HNB : Hid (∀ n, Below wo.heap.size wo (wr.drewN n)) := fun n => Go.Bas.below_drewN HBq.out n
          clear hcd hy
          cases hm : decide (x ∈ D.take j) with
          | true =>
            have HN : Hid (true = decide (x ∈ D.take (j + 1))) := Lib.hid (by rw [HMT.out, hm]; rfl)
            clear hm
            go_wp2
            go_quiet (fail)
            go_wp2
            go_roundw
            case rel => first | exact ⟨j + 1, by omega, by go_num, congrArg Value.bool HN.out, by first | exact HNB.out _ | exact Go.Bas.below_drewN (HNB.out _) _⟩ | ((repeat apply Exists.intro); exact ⟨⟨j + 1, by omega, by go_num, congrArg Value.bool HN.out, by first | exact HNB.out _ | exact Go.Bas.below_drewN (HNB.out _) _⟩, rfl⟩)
            case measure => simp [intOf]; omega
          | false =>
            have HN : Hid (decide (y = x) = decide (x ∈ D.take (j + 1))) := Lib.hid (by rw [HMT.out, hm]; rfl)
            clear hm
            go_upto_region 9 with (fail)
            refine wp_region_quiet_lit (by kernel_rfl) (by kernel_rfl) ?_
            repeat (first
              | (refine quiet_load rfl rfl rfl Try.underlying63 rfl Try.sizeP HCD.out HGO.out ?_)
              | (refine quiet_load rfl rfl rfl Try.underlying63 rfl Try.sizeP HCX.out (Nat.lt_of_lt_of_le HBW.out HBq.out.size) ?_)
              | (refine quiet_val rfl (fun n => run_eql_arr (decide (y = x)) rfl rfl rfl Try.underlying63 Try.underlying3 (by kernel_rfl) (by kernel_rfl) (by kernel_rfl) (by kernel_rfl) (sameB_pair y x)) ?_)
              | quiet_step (fail))
            refine wpQuiet_nil ?_
            rintro _ ⟨nq, rfl⟩
            go_wp2
            go_roundw
            case rel => first | exact ⟨j + 1, by omega, by go_num, congrArg Value.bool HN.out, by first | exact HNB.out _ | exact Go.Bas.below_drewN (HNB.out _) _⟩ | ((repeat apply Exists.intro); exact ⟨⟨j + 1, by omega, by go_num, congrArg Value.bool HN.out, by first | exact HNB.out _ | exact Go.Bas.below_drewN (HNB.out _) _⟩, rfl⟩)
            case measure => simp [intOf]; omega
        · obtain rfl : j = D.length := by omega
          rw [List.take_length]
          have hst : onceL (L.take (k + 1)) = addE D x := by rw [List.take_add_one, HX.out, HD.out]; exact onceL_snoc _ _
          have HST := Lib.hid hst
          have HBN := Lib.hid (HBe.out.trans (HBq.out.mono HBe.out.size))
          have HOW := Lib.hid (HO.out.below HBq.out)
          have HCX : Hid (∀ i, i < 2 → wr.cell? ⟨b, o + k * 2 + i, none⟩ = some (.int .i64 (pf x i))) := fun i hi => (HBq.out.cell (p := ⟨b, o + k * 2 + i, none⟩) HBW.out).trans (HCL.out i hi)
          clear hst
          by_cases hm : x ∈ D
          · rw [decide_eq_true hm]
            have HST2 : Hid (onceL (L.take (k + 1)) = D) := Lib.hid (HST.out.trans (if_pos hm))
            clear hm
            go_wp2
            go_roundw
            case rel => first | exact ⟨k + 1, by have := HKL.out; omega, by go_num, by rw [HST2.out]; exact HOW.out, HH.out, HBN.out⟩ | ((repeat apply Exists.intro); exact ⟨⟨k + 1, by have := HKL.out; omega, by go_num, by rw [HST2.out]; exact HOW.out, HH.out, HBN.out⟩, rfl⟩)
            case measure => have := HKL.out; simp [intOf]; omega
          · rw [decide_eq_false hm]
            have HST2 : Hid (onceL (L.take (k + 1)) = D ++ [x]) := Lib.hid (HST.out.trans (if_neg hm))
            clear hm
            go_upto_region 11 with (fail)
            go_wp2_with (first
              | (refine load_row (y := fun i => .int .i64 (pf x i)) rfl rfl rfl Try.underlying63 rfl Try.sizeP HCX.out ?_)
              | (refine wpList_plain rfl fun _ hK => wp_buildS 55 63 1 _ rfl Try.underlying55 (rowV 2 (fun i => .int .i64 (pf x i))) (by kernel_rfl) (hK _ _ ?_))
              | (refine wpList_append_row rfl _ _ rfl rfl rfl HOW.out (by decide) Try.underlying55 Try.infoP rfl rfl (fun i _ => rfl) (by have := HDL.out; unfold maxLen; omega) (by have := HDL.out; omega) ?_
                 intro v5 w5 ho5 hg5 hp5
                 have O5 := Lib.hid (pv_snoc ho5 (x := x) fun _ => rfl)
                 have B5 := Lib.hid (HBN.out.trans (((Chg.of_lit hg5).below (B := w.heap.size) HBN.out.size HH.out)))
                 have H5 : Hid (∀ b, v5.ownBlock = some b → w.heap.size ≤ b) := Lib.hid fun b hb => by
                   rcases hp5 with h | h
                   · exact HH.out b (h ▸ hb)
                   · have h1 := h b hb; have h2 := HBN.out.size; omega
                 rw [← HST2.out] at O5
                 clear ho5 hg5 hp5))
            go_roundw
            case rel => first | exact ⟨k + 1, by have := HKL.out; omega, by go_num, O5.out, H5.out, B5.out⟩ | ((repeat apply Exists.intro); exact ⟨⟨k + 1, by have := HKL.out; omega, by go_num, O5.out, H5.out, B5.out⟩, rfl⟩)
            case measure => have := HKL.out; simp [intOf]; omega
    · obtain rfl : k = L.length := by omega
      have HF : Hid (D = onceL L) := Lib.hid (by rw [HD.out, List.take_length])
      go_wp2
      go_ret
      rw [← HF.out]
      exact ⟨.slice ao D.length co, rfl, HO.out, HH.out, HBe.out⟩
end Go.Proofs.Ytlmdgmgbijfaoaa
