/-
  LatticeMore: with more edges no fewer nodes are found. Conditions: named in each theorem.
-/
import Derived.Test.YtlmdgmgbijfaoaaLtB
import Derived.Test.YtlmdgmgbijfaoaaGrQ
set_option linter.unusedVariables false
set_option linter.unusedSimpArgs false
namespace Go.Bas
open Go.RowKit
theorem lv_cat {K : Type} {kv : K → Value} {L M : List K} : ∀ j, j < L.length + M.length → ∀ i, i < 1 → catM L.length (lv kv L) (lv kv M) j i = lv kv (L ++ M) j i := by
  intro j hj i hi
  by_cases h : j < L.length
  · rw [catM_lo h]
    unfold lv
    rw [List.getElem?_append_left h]
  · obtain ⟨k, rfl⟩ : ∃ k, j = L.length + k := ⟨j - L.length, by omega⟩
    rw [catM_hi]
    unfold lv
    rw [List.getElem?_append_right (by omega), Nat.add_sub_cancel_left]
/-- append of nothing, wherever it lies. -/
theorem OwM.append0 {P : Program} {t ty e : TypeId} {c n bytes : Nat} {w : World} {v z : Value} {q : Nat → Nat → Value} (h : OwM e c w v n q) (hc : 0 < c) (h1 : P.underlying t = some (.slice e)) (hinfo : (P.info? e).map (fun i => (i.zero, i.size, i.bytes)) = some (some z, c, bytes)) (hz : z.cells.size = c) (ad : Addr) (cp : Nat) (h63 : n ≤ maxLen) (hb : n * bytes ≤ 140737488355328) :
    ∃ v' w', (Builtin.append_ #[t, t] ty #[v, .slice (some ad) 0 cp]).run P w = .ok v' w' ∧ OwM e c w' v' n q ∧ w.grownBy w' v.ownBlock ∧ Placed w v v' := by
  obtain ⟨i0, hi, hz0, hz1, hz2⟩ := info_parts hinfo
  obtain ⟨xs, hown, hxs⟩ := h.owns hc
  obtain ⟨v', w', hr, r1, r2, _⟩ := run_append_own w 0 t ty e i0 z c bytes h1 hi hz0 hz1 hz2 hz hc v n xs hown ad 0 cp [] (by simp) (by simp) (by simp) h63 hb (Nat.zero_le _)
  have hp := run_append_place w 0 t ty e i0 z c bytes h1 hi hz0 hz1 hz2 hz hc v n xs hown ad 0 cp [] (by simp) (by simp) (by simp) h63 hb v' w' hr
  rw [Nat.add_zero, List.append_nil] at r1
  exact ⟨v', w', hr, .of_owns r1 hxs, r2, hp⟩
/-- append(v, u...): u is a list of numbers that can be read. -/
theorem wp_append_ints {P : Program} {o : Oper} {a : Act} {w : World} {K : Act → World → Prop} {Q' : Exit → Act → World → Prop} {e t : TypeId} {v u : Value} {bytes : Nat} {z : Value} (L M : List Int) (s x : Operand) (hop : o.op = .call { callee := .builtin .append, args := #[s, x], argTypes := #[t, t] })
    (hs : a.eval s = v) (h : OwM e 1 w v L.length (lv (Value.int .i64) L)) (h1 : P.underlying t = some (.slice e)) (hinfo : (P.info? e).map (fun i => (i.zero, i.size, i.bytes)) = some (some z, 1, bytes)) (hz : z.cells.size = 1)
    (hx : a.eval x = u) (hu : Mat w u M.length 1 (lv (Value.int .i64) M)) (hnil : ∀ n c, u = .slice none n c → n = 0 ∧ c = 0)
    (h63 : L.length + M.length ≤ maxLen) (hb : (L.length + M.length) * bytes ≤ 140737488355328)
    (hK : ∀ v' w', OwM e 1 w' v' (L ++ M).length (lv (Value.int .i64) (L ++ M)) → w.grownBy w' v.ownBlock → Placed w v v' → K (a.put o.dst v') w') : o.wp P a w K Q' := by
  obtain ⟨ad, cap, rfl, h2, h3, h4⟩ := hu
  cases ad with
  | none =>
    obtain ⟨hm, hc⟩ := hnil _ _ rfl
    rw [hm, hc] at hx
    have hM : M = [] := List.eq_nil_of_length_eq_zero hm
    have hr := OwM.append_nil (P := P) (ty := o.type) h (by decide) h1 hinfo
    unfold Oper.wp
    simp only [execOp, hop, resolve, invoke, builtin, Sem.run_bind, Sem.run_pure, Result.andThen_ok, List.map_toArray, List.map_cons, List.map_nil, hs, hx, hr]
    exact hK v w (by rw [hM, List.append_nil]; exact h) (World.grownBy.refl _ _) (.inl rfl)
  | some ad =>
    have key : ∀ (b off : Nat), ad = ⟨b, off, none⟩ → o.wp P a w K Q' := by
      rintro b off rfl
      refine wp_append_m s x hop hs h (by decide) h1 hinfo hz b off cap M.length hx (lv (Value.int .i64) M) (fun j hj i hi => ?_) h63 hb fun v' w' q1 q2 q3 => hK v' w' ?_ q2 q3
      · obtain ⟨b', o', he, _, hcc⟩ := h4 (by omega)
        simp only [Option.some.injEq, Addr.mk.injEq, and_true] at he
        obtain ⟨rfl, rfl⟩ := he
        refine ⟨by rw [← Nat.add_assoc]; exact hcc j hj i hi, lv_one (fun _ => rfl) hj⟩
      · rw [List.length_append]
        exact q1.congr lv_cat
    by_cases hm : 0 < M.length
    · obtain ⟨b', o', he, _⟩ := h4 hm
      exact key b' o' (Option.some.inj he)
    · have hM : M = [] := List.eq_nil_of_length_eq_zero (by omega)
      subst hM
      obtain ⟨v', w', hr, r1, r2, r3⟩ := OwM.append0 (P := P) (ty := o.type) h (by decide) h1 hinfo hz ad cap (by omega) (by rw [List.length_nil, Nat.add_zero] at hb; exact hb)
      rw [List.length_nil] at hx
      unfold Oper.wp
      simp only [execOp, hop, resolve, invoke, builtin, Sem.run_bind, Sem.run_pure, Result.andThen_ok, List.map_toArray, List.map_cons, List.map_nil, hs, hx, hr]
      exact hK v' w' (by rw [List.append_nil]; exact r1) r2 r3
theorem wpList_append_ints {P : Program} {ops : Array Oper} {rest : List Oper} {o : Oper} {a : Act} {w : World} {Q' : Exit → Act → World → Prop} {e t : TypeId} {v u : Value} {bytes : Nat} {z : Value} (L M : List Int) (hg : o.guard = none) (s x : Operand) (hop : o.op = .call { callee := .builtin .append, args := #[s, x], argTypes := #[t, t] })
    (hs : a.eval s = v) (h : OwM e 1 w v L.length (lv (Value.int .i64) L)) (h1 : P.underlying t = some (.slice e)) (hinfo : (P.info? e).map (fun i => (i.zero, i.size, i.bytes)) = some (some z, 1, bytes)) (hz : z.cells.size = 1)
    (hx : a.eval x = u) (hu : Mat w u M.length 1 (lv (Value.int .i64) M)) (hnil : ∀ n c, u = .slice none n c → n = 0 ∧ c = 0)
    (h63 : L.length + M.length ≤ maxLen) (hb : (L.length + M.length) * bytes ≤ 140737488355328)
    (hK : ∀ v' w', OwM e 1 w' v' (L ++ M).length (lv (Value.int .i64) (L ++ M)) → w.grownBy w' v.ownBlock → Placed w v v' → wpList P ops Q' rest (a.put o.dst v') w') : wpList P ops Q' (o :: rest) a w :=
  wpList_plain hg fun _ hK' => wp_append_ints L M s x hop hs h h1 hinfo hz hx hu hnil h63 hb fun v' w' q1 q2 q3 => hK' _ _ (hK v' w' q1 q2 q3)
theorem OwM.nilOk {e : TypeId} {c n : Nat} {w : World} {v : Value} {q : Nat → Nat → Value} (h : OwM e c w v n q) : ∀ m k, v = .slice none m k → m = 0 ∧ k = 0 := by
  intro m k hv
  rcases h with ⟨h1, _⟩ | ⟨g, cap, h1, _⟩
  · rw [h1] at hv; cases hv; exact ⟨rfl, rfl⟩
  · rw [h1] at hv; cases hv
end Go.Bas
namespace Go.Proofs.Ytlmdgmgbijfaoaa
open Go.RowKit Go.Bas Go.ChangeShapes Go.Maps
attribute [local go_sem ↓] Go.wp_at_zero Go.wp_at_succ
/-- a list of numbers that came in. -/
structure InL (w : World) (v : Value) (L : List Int) : Prop where
  mat : Mat w v L.length 1 (lv kvI L)
  nil : ∀ n c, v = .slice none n c → n = 0 ∧ c = 0
  ok : ∀ x, x ∈ L → okI x
theorem InL.below {w w' : World} {v : Value} {L : List Int} (h : InL w v L) (hb : Below w.heap.size w w') : InL w' v L := ⟨h.mat.below hb, h.nil, h.ok⟩
theorem laterB {B : Nat} {w w1 w2 : World} (hB : B = w.heap.size) (h : Below B w w1) (h2 : Below w1.heap.size w1 w2) : Below B w w2 := h.trans (h2.mono (hB ▸ h.size))
/-- what Reach answers, under a name. -/
theorem reachS {B : Nat} {w : World} {p : Nat} {F : Nat → Prop} {E : List (Int × Int)} (h : GEI B w p F E) (fr S : List Int) (hS : S = (srch E fr).1) (v : Value) (hv : Mat w v fr.length 1 (lv kvI fr)) (hok : ∀ x, x ∈ fr → okI x) (hfr : fr.length ≤ 1000) (hE : E.length ≤ 1000) : Calls Try.prog 38 #[.pointer (some ⟨p, 0, none⟩), v] w fun e w' => ∃ va, e = .returned va ∧ OwM 3 1 w' va S.length (lv kvI S) ∧ (∀ b, va.ownBlock = some b → w.heap.size ≤ b) ∧ Below w.heap.size w w' := by
  subst hS
  exact reachI_any h fr v hv hok hfr hE
/-- while more edges come: the graph, the first list, the law's variable. -/
structure MI (w : World) (B2 : Nat) (va : Value) (SA : List Int) (x0 : Value) (p : Nat) (E : List (Int × Int)) (wr : World) : Prop where
  gr : ∃ F, GEI B2 wr p F E ∧ ∀ b, F b → va.ownBlock ≠ some b
  sa : OwM 3 1 wr va SA.length (lv kvI SA)
  c0 : wr.cell? ⟨w.heap.size, 0, none⟩ = some x0
  lt : w.heap.size < B2
  b2 : B2 ≤ wr.heap.size
  bel : Below w.heap.size w wr
section
variable {w : World} {B2 : Nat} {va : Value} {SA : List Int} {x0 : Value} {p : Nat} {E : List (Int × Int)} {wr wr' : World}
theorem MI.below (h : MI w B2 va SA x0 p E wr) (hb : Below wr.heap.size wr wr') : MI w B2 va SA x0 p E wr' :=
  ⟨h.gr.elim fun F hF => ⟨F, hF.1.below hb, hF.2⟩, h.sa.below hb, (hb.cell (p := ⟨w.heap.size, 0, none⟩) (Nat.lt_of_lt_of_le h.lt h.b2)).trans h.c0, h.lt, Nat.le_trans h.b2 hb.size, h.bel.trans (hb.mono (Nat.le_trans (Nat.le_of_lt h.lt) h.b2))⟩
theorem MI.edge (h : MI w B2 va SA x0 p E wr) (x y : Int) (hx : okI x) (hy : okI y) (hE : E.length ≤ 1000) : Calls Try.prog 40 #[.pointer (some ⟨p, 0, none⟩), kvI x, kvI y] wr fun e w' => e = .returned (.int .i64 0) ∧ MI w B2 va SA x0 p (addE E (x, y)) w' := by
  obtain ⟨F, hF, hn⟩ := h.gr
  refine (edgeI_any hF h.b2 x y hx hy hE).mono ?_
  rintro e w' ⟨rfl, F', hg, hc, hF'⟩
  exact ⟨rfl, ⟨F', hg, fun b hb e => (hF' b hb).elim (fun hb' => hn b hb' e) (fun hb' => Nat.lt_irrefl _ (Nat.lt_of_lt_of_le (h.sa.lt b e) hb'))⟩,
    h.sa.chg hc fun b e hb => hn b hb e, (hc.cell (p := ⟨w.heap.size, 0, none⟩) (Nat.lt_of_lt_of_le h.lt h.b2) (fun hb => Nat.lt_irrefl _ (Nat.lt_of_lt_of_le h.lt (hF.hi hb)))).trans h.c0, h.lt, Nat.le_trans h.b2 hc.size,
    h.bel.trans (hc.below (Nat.le_trans (Nat.le_of_lt h.lt) h.b2) fun b hb => by have := hF.hi hb; have := h.lt; omega)⟩
end
theorem GEI.lt {B : Nat} {w : World} {p : Nat} {F : Nat → Prop} {E : List (Int × Int)} (h : GEI B w p F E) {b : Nat} (hb : F b) : b < w.heap.size := by
  obtain ⟨⟨mb, vn, vo, ov, h1, h2⟩, _⟩ := h
  exact h1.lt ((h2 b).1 hb)
theorem mem_more {M : List (Int × Int)} {E : List (Int × Int)} : ∀ e, e ∈ E → e ∈ M.foldl addE E := addL_mem M E
set_option maxRecDepth 100000 in
set_option maxHeartbeats 3200000 in
theorem latticeMore_law (w : World) (v0 : Value) (L : List (Int × Int)) (hv0 : Mat w v0 L.length 2 (pv L)) (hL : ∀ e, e ∈ L → okI e.1 ∧ okI e.2) (v1 : Value) (M : List (Int × Int)) (hv1 : Mat w v1 M.length 2 (pv M)) (hM : ∀ e, e ∈ M → okI e.1 ∧ okI e.2) (u0 u1 : Value) (f0 f1 : List Int) (hu0 : InL w u0 f0) (hu1 : InL w u1 f1) :
    Calls Try.prog 8 #[v0, v1, .agg #[u0, u1]] w fun e w' => e = .returned (.bool true) ∧ Below w.heap.size w w' := by
  obtain ⟨B, hB⟩ : ∃ x, x = w.heap.size := ⟨_, rfl⟩
  have HB := Lib.hid hB
  have HV0 := Lib.hid hv0
  have HL := Lib.hid hL
  have HM := Lib.hid hM
  have HU0 := Lib.hid hu0
  have HU1 := Lib.hid hu1
  obtain ⟨fc, hfc⟩ : ∃ l, l = f0 ++ f1 := ⟨_, rfl⟩
  have HFC := Lib.hid hfc
  clear hfc
  obtain ⟨a0, c0, rfl, _⟩ := hv0
  obtain ⟨a1, c1, rfl, hc1, hc1', hcell1⟩ := hv1
  have C1 := Lib.hid hcell1
  obtain ⟨b0, d0, rfl, _⟩ := hu0.mat
  obtain ⟨b1, d1, rfl, _⟩ := hu1.mat
  rw [← hB]
  clear hL hM hu0 hu1 hcell1 hB
  go_enter Try.func8, Try.ntmps8
  go_upto_region 1 with (fail)
  refine wp_world (fun w1 => (w1.cell? ⟨w.heap.size, 0, none⟩ = some (.slice b0 f0.length d0) ∧ w1.cell? ⟨w.heap.size, 1, none⟩ = some (.slice b1 f1.length d1) ∧ w.heap.size < w1.heap.size) ∧ Below w.heap.size w w1) ⟨⟨cell_of_row _ _ 0 _ _ (0, 0) (heap_alloc_new w _), cell_of_row _ _ 1 _ _ (0, 0) (heap_alloc_new w _), by rw [World.size_alloc]; exact Nat.lt_succ_self _⟩, (Below.refl _ _).alloc (Nat.le_refl _) _⟩ ?_
  rintro w1 ⟨hx1, bb1⟩
  have HX1 := Lib.hid hx1
  have B1 : Hid (Below B w w1) := by rw [HB.out]; exact bb1
  clear hx1 bb1
  go_wp2_with fail
  refine (awake26 w1).mono ?_
  rintro e w2 ⟨rfl, b2⟩
  have B2 := Lib.hid (laterB HB.out B1.out b2)
  have hx2 : w2.cell? ⟨w.heap.size, 0, none⟩ = some (.slice b0 f0.length d0) ∧ w2.cell? ⟨w.heap.size, 1, none⟩ = some (.slice b1 f1.length d1) ∧ w.heap.size < w2.heap.size := ⟨(b2.cell (p := ⟨w.heap.size, 0, none⟩) HX1.out.2.2).trans HX1.out.1, (b2.cell (p := ⟨w.heap.size, 1, none⟩) HX1.out.2.2).trans HX1.out.2.1, Nat.lt_of_lt_of_le HX1.out.2.2 b2.size⟩
  have HX2 := Lib.hid hx2
  have e0 := hx2.1
  have e1 := hx2.2.1
  clear b2 hx2
  by_cases q1 : 40 < L.length
  · have q1' : (40 : Int) < L.length := by omega
    go_wp2
    go_ret
    exact ⟨rfl, B2.out⟩
  have q1' : ¬ (40 : Int) < L.length := by omega
  by_cases q2 : 40 < M.length
  · have q2' : (40 : Int) < M.length := by omega
    go_wp2
    go_ret
    exact ⟨rfl, B2.out⟩
  have q2' : ¬ (40 : Int) < M.length := by omega
  by_cases q3 : 20 < f0.length
  · have q3' : (20 : Int) < f0.length := by omega
    go_wp2
    go_ret
    exact ⟨rfl, B2.out⟩
  have q3' : ¬ (20 : Int) < f0.length := by omega
  by_cases q4 : 20 < f1.length
  · have q4' : (20 : Int) < f1.length := by omega
    go_wp2
    go_ret
    exact ⟨rfl, B2.out⟩
  have q4' : ¬ (20 : Int) < f1.length := by omega
  have HLL := Lib.hid (show L.length ≤ 40 by omega)
  have HML := Lib.hid (show M.length ≤ 40 by omega)
  have HF0 := Lib.hid (show f0.length ≤ 20 by omega)
  have HF1 := Lib.hid (show f1.length ≤ 20 by omega)
  have HOL := Lib.hid (show (onceL L).length ≤ 40 by have := onceL_len L; omega)
  clear q1 q2 q3 q4
  go_wp2_with fail
  refine (graph_any L _ w2 (HV0.out.below (HB.out ▸ B2.out)) HL.out (by have := HLL.out; omega)).mono ?_
  rintro e w3 ⟨p, F, rfl, hg, b3⟩
  have HG := Lib.hid hg
  have B3 := Lib.hid (laterB HB.out B2.out b3)
  have hx3 : w3.cell? ⟨w.heap.size, 0, none⟩ = some (.slice b0 f0.length d0) ∧ w3.cell? ⟨w.heap.size, 1, none⟩ = some (.slice b1 f1.length d1) ∧ w.heap.size < w3.heap.size := ⟨(b3.cell (p := ⟨w.heap.size, 0, none⟩) HX2.out.2.2).trans HX2.out.1, (b3.cell (p := ⟨w.heap.size, 1, none⟩) HX2.out.2.2).trans HX2.out.2.1, Nat.lt_of_lt_of_le HX2.out.2.2 b3.size⟩
  have HX3 := Lib.hid hx3
  have HW23 : Hid (w2.heap.size ≤ w3.heap.size) := Lib.hid b3.size
  clear hg b3 hx3 e0 e1
  have hA := srch_bound (onceL L) f0
  have hBb := srch_bound (onceL L) f1
  have hCc := srch_bound (onceL L) fc
  have HFL : Hid (fc.length = f0.length + f1.length) := by rw [HFC.out, List.length_append]; exact Lib.hid rfl
  have HUN : Hid (∀ x, x ∈ (srch (onceL L) fc).1 ↔ x ∈ (srch (onceL L) f0).1 ∨ x ∈ (srch (onceL L) f1).1) := by rw [HFC.out]; exact Lib.hid fun x => srch_union
  obtain ⟨SA, hSA⟩ : ∃ S, S = (srch (onceL L) f0).1 := ⟨_, rfl⟩
  obtain ⟨SB, hSB⟩ : ∃ S, S = (srch (onceL L) f1).1 := ⟨_, rfl⟩
  obtain ⟨SC, hSC⟩ : ∃ S, S = (srch (onceL L) fc).1 := ⟨_, rfl⟩
  rw [← hSA] at hA HUN
  rw [← hSB] at hBb HUN
  rw [← hSC] at hCc HUN
  have HSA := Lib.hid hSA
  have HSB := Lib.hid hSB
  have HSC := Lib.hid hSC
  have HLA := Lib.hid (show SA.length ≤ 100 by have := HF0.out; have := HOL.out; omega)
  have HLB := Lib.hid (show SB.length ≤ 100 by have := HF1.out; have := HOL.out; omega)
  have HLC := Lib.hid (show SC.length ≤ 100 by have := HF0.out; have := HF1.out; have := HOL.out; have := HFL.out; omega)
  obtain ⟨sm, hsm⟩ : ∃ l, l = SA ++ SB := ⟨_, rfl⟩
  have HSM := Lib.hid hsm
  have HSL : Hid (sm.length = SA.length + SB.length) := by rw [hsm, List.length_append]; exact Lib.hid rfl
  have HOA : Hid (∀ x, x ∈ SA → okI x) := by rw [hSA]; exact Lib.hid (srch_least HU0.out.ok fun x y _ he => (HL.out _ (mem_onceL.1 he)).2)
  have HSA2 : Hid (SA = (srch (onceL L) SA).1) := by rw [hSA]; exact Lib.hid srch_again.symm
  clear hSA hSB hSC hA hBb hCc hsm
  go_upto_region 6 with (fail)
  apply region_earlyJ' (n := 128) (fun w5 => Below w3.heap.size w3 w5) [.e, .e, .e, .c, .e, .e, .e, .c, .c, .c] 2 (by kernel_rfl) (by kernel_rfl) (by kernel_rfl) rfl
  · exact (Below.refl _ _).drew
  · intro w5 hB5
    have e0 := (hB5.cell (p := ⟨w.heap.size, 0, none⟩) HX3.out.2.2).trans HX3.out.1
    have e1 := (hB5.cell (p := ⟨w.heap.size, 1, none⟩) HX3.out.2.2).trans HX3.out.2.1
    simp only [selBy, Cl.isE, cond_true, cond_false]
    repeat still_step
    exact wpStill_nil rfl
  · intro w5
    simp only [selBy, Cl.isF, cond_true, cond_false]
    repeat still_step
    exact wpStill_nil rfl
  · simp only [selBy, Cl.isC, cond_true, cond_false]
    refine chJ_step ((Below.refl _ _).drew) (fun K hK => ?_)
    go_simp
    refine (reachS (HG.out.below ((Below.refl _ _).drew)) f0 SA HSA.out _ (HU0.out.mat.below (HB.out ▸ laterB HB.out B3.out ((Below.refl _ _).drew))) HU0.out.ok (by have := HF0.out; omega) (by have := HOL.out; omega)).mono ?_
    rintro e w4 ⟨va, rfl, ra, hra, b4⟩
    have b4' : Below w3.heap.size w3 w4 := ((Below.refl _ _).drew).trans b4
    refine hK _ _ b4' ?_
    clear hK K
    have HRA : Hid (∀ b, va.ownBlock = some b → w3.heap.size ≤ b) := Lib.hid hra
    refine chJ_step b4' (fun K hK => ?_)
    go_simp
    refine (reachS (HG.out.below b4') f1 SB HSB.out _ (HU1.out.mat.below (HB.out ▸ laterB HB.out B3.out b4')) HU1.out.ok (by have := HF1.out; omega) (by have := HOL.out; omega)).mono ?_
    rintro e w5 ⟨vb, rfl, rb, hrb, b5⟩
    have b5' : Below w3.heap.size w3 w5 := b4'.trans (b5.mono b4'.size)
    refine hK _ _ b5' (chJ_zero ?_)
    clear hK K
    have RA := Lib.hid (ra.below b5)
    have RB := Lib.hid rb
    have B5 := Lib.hid (laterB HB.out B3.out b5')
    have G5 := Lib.hid (HG.out.below b5')
    have HW5 : Hid (w3.heap.size ≤ w5.heap.size) := Lib.hid b5'.size
    have hx5 : w5.cell? ⟨w.heap.size, 0, none⟩ = some (.slice b0 f0.length d0) ∧ w5.cell? ⟨w.heap.size, 1, none⟩ = some (.slice b1 f1.length d1) ∧ w.heap.size < w5.heap.size := ⟨(b5'.cell (p := ⟨w.heap.size, 0, none⟩) HX3.out.2.2).trans HX3.out.1, (b5'.cell (p := ⟨w.heap.size, 1, none⟩) HX3.out.2.2).trans HX3.out.2.1, Nat.lt_of_lt_of_le HX3.out.2.2 b5'.size⟩
    have HX5 := Lib.hid hx5
    obtain ⟨aa, ca, rfl, _⟩ := ra.slice
    obtain ⟨ab, cb, rfl, _⟩ := rb.slice
    clear ra rb hra hrb b4 b4' b5 b5' hx5
    go_wp2
    refine onlyN ?_
    go_upto_region 7 with (fail)
    apply region_earlyJ' (n := 128) (fun w6 => Below w5.heap.size w5 w6) [.e, .c, .e, .e, .c, .e, .e, .c, .c, .c] 3 (by kernel_rfl) (by kernel_rfl) (by kernel_rfl) rfl
    · exact (Below.refl _ _).drew
    · intro w6 hB6
      have e0 := (hB6.cell (p := ⟨w.heap.size, 0, none⟩) HX5.out.2.2).trans HX5.out.1
      have e1 := (hB6.cell (p := ⟨w.heap.size, 1, none⟩) HX5.out.2.2).trans HX5.out.2.1
      simp only [selBy, Cl.isE, cond_true, cond_false]
      repeat still_step
      exact wpStill_nil rfl
    · intro w6
      simp only [selBy, Cl.isF, cond_true, cond_false]
      repeat still_step
      exact wpStill_nil rfl
    · simp only [selBy, Cl.isC, cond_true, cond_false]
      refine chJ_step ((Below.refl _ _).drew) (fun K hK => ?_)
      go_simp
      obtain ⟨W6, hW6⟩ : ∃ x, x = (w5.alloc (.cells #[] 3)).drew := ⟨_, rfl⟩
      have B6 : Below w5.heap.size w5 W6 := by rw [hW6]; exact ((Below.refl _ _).alloc (Nat.le_refl _) _).drew
      have hE : OwM 3 1 W6 (.slice (some ⟨w5.heap.size, 0, none⟩) 0 0) ([] : List Int).length (lv (Value.int .i64) []) := by
        rw [hW6]
        exact (OwM.new w5 3 1 (cs := #[]) (n := 0) (by unfold maxLen; decide) rfl (fun j hj => absurd hj (Nat.not_lt_zero _))).below ((Below.refl _ _).drew)
      rw [← hW6]
      clear hW6
      refine hK _ _ B6 ?_
      clear hK K
      refine chJ_step B6 (fun K hK => ?_)
      rw [if_pos (wanted_none rfl)]
      refine wp_append_ints [] f0 _ _ rfl rfl hE Try.underlying56 Try.info3 rfl rfl (HU0.out.mat.below (HB.out ▸ laterB HB.out B5.out B6)) HU0.out.nil (by have := HF0.out; unfold maxLen; simp; omega) (by have := HF0.out; simp; omega) ?_
      intro v7 w7 ho7 hg7 hp7
      have B7 : Below w5.heap.size w5 w7 := B6.grown hg7 B6.size fun b hb => by cases hb; exact Nat.le_refl _
      have hv7 : ∀ b, v7.ownBlock = some b → w5.heap.size ≤ b := fun b hb => by
        rcases hp7 with h | h
        · rw [h] at hb; cases hb; exact Nat.le_refl _
        · have := h b hb; have := B6.size; omega
      refine hK _ _ B7 ?_
      clear hK K
      rw [List.nil_append] at ho7
      refine chJ_step B7 (fun K hK => ?_)
      rw [if_pos (wanted_none rfl)]
      refine wp_append_ints f0 f1 _ _ rfl rfl ho7 Try.underlying56 Try.info3 rfl rfl (HU1.out.mat.below (HB.out ▸ laterB HB.out B5.out B7)) HU1.out.nil (by have := HF0.out; have := HF1.out; unfold maxLen; omega) (by have := HF0.out; have := HF1.out; omega) ?_
      intro v8 w8 ho8 hg8 hp8
      rw [← HFC.out] at ho8
      have B8 : Below w5.heap.size w5 w8 := B7.grown hg8 B7.size hv7
      refine hK _ _ B8 (chJ_zero ?_)
      clear hK K
      have O8 := Lib.hid ho8
      have BB8 := Lib.hid B8
      obtain ⟨a8, c8, rfl, _⟩ := ho8.slice
      clear hE B6 B7 ho7 hg7 hp7 hv7 ho8 hg8 hp8 B8
      go_wp2_with fail
      refine (reachS (G5.out.below BB8.out) fc SC HSC.out _ O8.out.mat (fun x hx => (List.mem_append.1 (HFC.out ▸ hx)).elim (HU0.out.ok x) (HU1.out.ok x)) (by have := HF0.out; have := HF1.out; have := HFL.out; omega) (by have := HOL.out; omega)).mono ?_
      rintro e w9 ⟨vc, rfl, rc, _, b9⟩
      have b9' : Below w5.heap.size w5 w9 := BB8.out.trans (b9.mono BB8.out.size)
      have RA := Lib.hid (RA.out.below b9')
      have RB := Lib.hid (RB.out.below b9')
      have RC := Lib.hid rc
      have G9 := Lib.hid (G5.out.below b9')
      have HW9 : Hid (w5.heap.size ≤ w9.heap.size) := Lib.hid b9'.size
      have B9 := Lib.hid (laterB HB.out B5.out b9')
      have hx9 : w9.cell? ⟨w.heap.size, 0, none⟩ = some (.slice b0 f0.length d0) ∧ w.heap.size < w9.heap.size := ⟨(b9'.cell (p := ⟨w.heap.size, 0, none⟩) HX5.out.2.2).trans HX5.out.1, Nat.lt_of_lt_of_le HX5.out.2.2 b9'.size⟩
      have HX9 := Lib.hid hx9
      obtain ⟨ac, cc, rfl, _⟩ := rc.slice
      clear rc b9 b9' hx9 BB8 O8
      go_wp2
      refine onlyN ?_
      go_wp2
      go_loopw [63] (fun i wr => ∃ k : Nat, k ≤ SC.length ∧ i = .int .i64 k ∧ Below w9.heap.size w9 wr) (fun i _ => SC.length - (intOf i).toNat)
      case atStart => exact ⟨0, Nat.zero_le _, rfl, Below.refl _ _⟩
      case round =>
        obtain ⟨k, hk, rfl, hBe⟩ := hrel
        have HBe := Lib.hid hBe
        clear hBe
        by_cases hlt : k < SC.length
        · obtain ⟨x, hx⟩ : ∃ x, SC[k]? = some x := ⟨_, List.getElem?_eq_getElem hlt⟩
          have hxu := (HUN.out x).1 (List.mem_of_getElem? hx)
          have HXU := Lib.hid hxu
          obtain ⟨g, c', e0, _, _, _, hc⟩ := (RC.out.below HBe.out).form (by omega)
          simp only [Value.slice.injEq, true_and] at e0
          obtain ⟨rfl, rfl⟩ := e0
          have z0 := hc k hlt 0 (by decide)
          rw [show k * 1 + 0 = k by omega, lv_at hx] at z0
          have hk9 : (k : Int) < 1000000 := by have := HLC.out; omega
          clear hc hx hxu
          go_wp2_with fail
          refine (inR_any SA _ x _ (RA.out.below HBe.out).mat (by have := HLA.out; omega)).mono ?_
          rintro e w10 ⟨rfl, rfl⟩
          by_cases hxa : x ∈ SA
          · rw [decide_eq_true hxa]
            clear hxa
            go_wp2
            go_roundw
            case rel => first | exact ⟨k + 1, by omega, by go_num, HBe.out⟩ | ((repeat apply Exists.intro); exact ⟨⟨k + 1, by omega, by go_num, HBe.out⟩, rfl⟩)
            case measure => simp [intOf]; omega
          · rw [decide_eq_false hxa]
            have hxb := HXU.out.resolve_left hxa
            have HXB := Lib.hid hxb
            clear hxa hxb
            go_wp2_with fail
            refine (inR_any SB _ x _ (RB.out.below HBe.out).mat (by have := HLB.out; omega)).mono ?_
            rintro e w10 ⟨rfl, rfl⟩
            rw [decide_eq_true HXB.out]
            go_wp2
            go_roundw
            case rel => first | exact ⟨k + 1, by omega, by go_num, HBe.out⟩ | ((repeat apply Exists.intro); exact ⟨⟨k + 1, by omega, by go_num, HBe.out⟩, rfl⟩)
            case measure => simp [intOf]; omega
        · obtain rfl : k = SC.length := by omega
          have BE := Lib.hid (laterB HB.out B9.out HBe.out)
          have RA2 := Lib.hid (RA.out.below HBe.out)
          have RB2 := Lib.hid (RB.out.below HBe.out)
          have RC2 := Lib.hid (RC.out.below HBe.out)
          have G2 := Lib.hid (G9.out.below HBe.out)
          have hxr : wr.cell? ⟨w.heap.size, 0, none⟩ = some (.slice b0 f0.length d0) ∧ w.heap.size < wr.heap.size := ⟨(HBe.out.cell (p := ⟨w.heap.size, 0, none⟩) HX9.out.2).trans HX9.out.1, Nat.lt_of_lt_of_le HX9.out.2 HBe.out.size⟩
          have HXR := Lib.hid hxr
          clear hxr
          go_wp2_with (first
            | (refine wpList_append_ints [] SA rfl _ _ rfl rfl (OwM.new _ 3 1 (cs := #[]) (n := 0) (by unfold maxLen; decide) rfl (fun j hj => absurd hj (Nat.not_lt_zero _))) Try.underlying56 Try.info3 rfl rfl (RA2.out.mat.below ((Below.refl _ _).alloc (Nat.le_refl _) _)) RA2.out.nilOk (by have := HLA.out; unfold maxLen; simp; omega) (by have := HLA.out; simp; omega) ?_
               intro u1 x1 ho1 hg1 hp1
               have X1 : Hid (Below wr.heap.size wr x1) := Lib.hid (((Below.refl _ _).alloc (Nat.le_refl _) _).grown hg1 (by rw [World.size_alloc]; omega) fun b hb => by cases hb; exact Nat.le_refl _)
               have Y1 : Hid (∀ b, u1.ownBlock = some b → wr.heap.size ≤ b) := Lib.hid fun b hb => by
                 rcases hp1 with h | h
                 · rw [h] at hb; cases hb; exact Nat.le_refl _
                 · have := h b hb; rw [World.size_alloc] at this; omega
               rw [List.nil_append] at ho1
               have O1 := Lib.hid ho1
               obtain ⟨au1, cu1, rfl, _⟩ := ho1.slice
               clear ho1 hg1 hp1)
            | (refine wpList_append_ints SA SB rfl _ _ rfl rfl O1.out Try.underlying56 Try.info3 rfl rfl (RB2.out.mat.below X1.out) RB2.out.nilOk (by have := HLA.out; have := HLB.out; unfold maxLen; omega) (by have := HLA.out; have := HLB.out; omega) ?_
               intro u2 x2 ho2 hg2 hp2
               have X2 : Hid (Below wr.heap.size wr x2) := Lib.hid (X1.out.grown hg2 X1.out.size Y1.out)
               rw [← HSM.out] at ho2
               have O2 := Lib.hid ho2
               obtain ⟨au2, cu2, rfl, _⟩ := ho2.slice
               clear ho2 hg2 hp2))
          go_loopw [84] (fun i wq => ∃ k : Nat, k ≤ sm.length ∧ i = .int .i64 k ∧ Below x2.heap.size x2 wq) (fun i _ => sm.length - (intOf i).toNat)
          case atStart => exact ⟨0, Nat.zero_le _, rfl, Below.refl _ _⟩
          case round =>
            obtain ⟨k, hk, rfl, hBq⟩ := hrel
            have HBq := Lib.hid hBq
            have HBQ := Lib.hid (X2.out.trans (hBq.mono X2.out.size))
            clear hBq
            by_cases hlt : k < sm.length
            · obtain ⟨x, hx⟩ : ∃ x, sm[k]? = some x := ⟨_, List.getElem?_eq_getElem hlt⟩
              have hxc : x ∈ SC := (HUN.out x).2 (List.mem_append.1 (HSM.out ▸ List.mem_of_getElem? hx))
              have HXC := Lib.hid hxc
              obtain ⟨g, c', e0, _, _, _, hc⟩ := (O2.out.below HBq.out).form (by omega)
              simp only [Value.slice.injEq, true_and] at e0
              obtain ⟨rfl, rfl⟩ := e0
              have z0 := hc k hlt 0 (by decide)
              rw [show k * 1 + 0 = k by omega, lv_at hx] at z0
              have hk9 : (k : Int) < 1000000 := by have := HLA.out; have := HLB.out; have := HSL.out; omega
              clear hc hx hxc
              go_wp2_with fail
              refine (inR_any SC _ x _ (RC2.out.below HBQ.out).mat (by have := HLC.out; omega)).mono ?_
              rintro e w10 ⟨rfl, rfl⟩
              rw [decide_eq_true HXC.out]
              go_wp2
              go_roundw
              case rel => first | exact ⟨k + 1, by omega, by go_num, HBq.out⟩ | ((repeat apply Exists.intro); exact ⟨⟨k + 1, by omega, by go_num, HBq.out⟩, rfl⟩)
              case measure => simp [intOf]; omega
            · obtain rfl : k = sm.length := by omega
              go_wp2_with fail
              refine (reachS (G2.out.below HBQ.out) SA SA HSA2.out _ (RA2.out.below HBQ.out).mat HOA.out (by have := HLA.out; omega) (by have := HOL.out; omega)).mono ?_
              rintro e w11 ⟨vs, rfl, rs, _, b11⟩
              have RS := Lib.hid rs
              have B11 := Lib.hid (HBQ.out.trans (b11.mono HBQ.out.size))
              obtain ⟨asl, csl, rfl, _⟩ := rs.slice
              clear rs b11
              go_wp2_with fail
              refine (ints_any SA SA _ _ _ RS.out.mat (RA2.out.below B11.out).mat (by have := HLA.out; omega)).mono ?_
              rintro e w12 ⟨rfl, b12⟩
              have B12 := Lib.hid (B11.out.trans (b12.mono B11.out.size))
              rw [decide_eq_true rfl]
              clear b12
              have M12 : Hid (MI w w2.heap.size (.slice aa SA.length ca) SA (.slice b0 f0.length d0) p (onceL L) w12) := Lib.hid
                ⟨⟨F, G2.out.below B12.out, fun b hb e => by have := HRA.out b e; have := HG.out.lt hb; omega⟩, RA2.out.below B12.out, (B12.out.cell (p := ⟨w.heap.size, 0, none⟩) HXR.out.2).trans HXR.out.1, HX2.out.2.2,
                  Nat.le_trans (HW23.out) (Nat.le_trans (Nat.le_trans HW5.out HW9.out) (Nat.le_trans HBe.out.size B12.out.size)), HB.out ▸ laterB HB.out BE.out B12.out⟩
              go_wp2
              go_loopw [101] (fun i wq => ∃ k : Nat, k ≤ M.length ∧ i = .int .i64 k ∧ MI w w2.heap.size (.slice aa SA.length ca) SA (.slice b0 f0.length d0) p ((M.take k).foldl addE (onceL L)) wq) (fun i _ => M.length - (intOf i).toNat)
              case atStart => exact ⟨0, Nat.zero_le _, rfl, M12.out⟩
              case round =>
                obtain ⟨k, hk, rfl, hM⟩ := hrel
                have HMI := Lib.hid hM
                clear hM
                by_cases hlt : k < M.length
                · obtain ⟨b, o, rfl, hb, hc⟩ := C1.out (by omega)
                  obtain ⟨⟨x, y⟩, hxy⟩ : ∃ e, M[k]? = some e := ⟨_, List.getElem?_eq_getElem hlt⟩
                  have HCL : Hid (∀ i, i < 2 → wr.cell? ⟨b, o + k * 2 + i, none⟩ = some (pv M k i)) := fun i hi => (HMI.out.bel.cell (p := ⟨b, o + k * 2 + i, none⟩) hb).trans (hc k hlt i hi)
                  have HOC : Hid (∀ i, i < 2 → (pv M k i).oneCell' = true) := fun i hi => by rw [pv_at hxy]; rfl
                  have HXY := Lib.hid hxy
                  have hk9 : (k : Int) < 1000000 := by omega
                  clear hc hxy
                  go_upto_region 25 with (first | (refine load_row rfl rfl rfl Try.underlying63 rfl Try.sizeP HCL.out ?_) | (refine store_rowV rfl 63 _ _ rfl wr.heap.size 2 (pv M k) _ 63 (heap_alloc_new _ _) rfl Try.sizeP rfl rfl HOC.out ?_))
                  refine wp_world (fun w5 => RowN w5 wr.heap.size 2 63 (pv M k) ∧ Below wr.heap.size wr w5) ⟨RowN.setRow (heap_alloc_new _ _), below_setRow' ((Below.refl _ _).alloc (Nat.le_refl _) _) (Nat.le_refl _) _⟩ ?_
                  rintro w15 ⟨hr5, hb5⟩
                  have e0 := hr5.2 0 (by decide)
                  have e1 := hr5.2 1 (by decide)
                  rw [pv_at HXY.out, if_pos rfl] at e0
                  rw [pv_at HXY.out, if_neg (by decide)] at e1
                  have HOKX := Lib.hid (HM.out _ (List.mem_of_getElem? HXY.out))
                  have M15 := Lib.hid (HMI.out.below hb5)
                  have HEL : Hid (((M.take k).foldl addE (onceL L)).length ≤ 1000) := Lib.hid (Nat.le_trans (addL_len _ _) (by have := HOL.out; have := HML.out; rw [List.length_take]; omega))
                  clear hr5 hb5 HCL
                  go_wp2_with fail
                  refine (M15.out.edge x y HOKX.out.1 HOKX.out.2 HEL.out).mono ?_
                  rintro e w16 ⟨rfl, hm6⟩
                  have HM6 : Hid (MI w w2.heap.size (.slice aa SA.length ca) SA (.slice b0 f0.length d0) p ((M.take (k + 1)).foldl addE (onceL L)) w16) := by
                    rw [List.take_add_one, HXY.out, List.foldl_append]
                    exact hm6
                  clear hm6
                  go_wp2
                  go_roundw
                  case rel => first | exact ⟨k + 1, by omega, by go_num, HM6.out⟩ | ((repeat apply Exists.intro); exact ⟨⟨k + 1, by omega, by go_num, HM6.out⟩, rfl⟩)
                  case measure => simp [intOf]; omega
                · obtain rfl : k = M.length := by omega
                  have HMJ : Hid (MI w w2.heap.size (.slice aa SA.length ca) SA (.slice b0 f0.length d0) p (M.foldl addE (onceL L)) wr) := by have := HMI.out; rw [List.take_length] at this; exact this
                  obtain ⟨EW, hEW⟩ : ∃ E, E = M.foldl addE (onceL L) := ⟨_, rfl⟩
                  have HEL : Hid (EW.length ≤ 1000) := Lib.hid (by rw [hEW]; exact Nat.le_trans (addL_len _ _) (by have := HOL.out; have := HML.out; omega))
                  have HSUB : Hid (∀ x, x ∈ SA → x ∈ (srch EW f0).1) := Lib.hid fun x hx => by rw [HSA.out] at hx; exact srch_mono (fun e he => by rw [hEW]; exact addL_mem M _ e he) (fun y hy => srch_from hy) hx
                  rw [← hEW] at HMJ
                  obtain ⟨SW, hSW⟩ : ∃ S, S = (srch EW f0).1 := ⟨_, rfl⟩
                  rw [← hSW] at HSUB
                  have HSW := Lib.hid hSW
                  have HLW : Hid (SW.length ≤ 2000) := Lib.hid (by rw [hSW]; exact Nat.le_trans (srch_bound _ _) (by have := HEL.out; have := HF0.out; omega))
                  clear hEW hSW HMI
                  have e0 := HMJ.out.c0
                  obtain ⟨FW, hGW, _⟩ := HMJ.out.gr
                  have HGW := Lib.hid hGW
                  clear hGW
                  go_wp2_with fail
                  refine (reachS HGW.out f0 SW HSW.out _ (HU0.out.mat.below HMJ.out.bel) HU0.out.ok (by have := HF0.out; omega) HEL.out).mono ?_
                  rintro e w17 ⟨vw, rfl, rw_, _, b17⟩
                  have RW := Lib.hid rw_
                  have SA7 := Lib.hid (HMJ.out.sa.below b17)
                  have B17 := Lib.hid (laterB HB.out (HB.out ▸ HMJ.out.bel) b17)
                  obtain ⟨aw, cw, rfl, _⟩ := rw_.slice
                  clear rw_ b17 e0
                  go_wp2
                  go_loopw [119] (fun i wq => ∃ k : Nat, k ≤ SA.length ∧ i = .int .i64 k ∧ Below w17.heap.size w17 wq) (fun i _ => SA.length - (intOf i).toNat)
                  case atStart => exact ⟨0, Nat.zero_le _, rfl, Below.refl _ _⟩
                  case round =>
                    obtain ⟨k, hk, rfl, hBq⟩ := hrel
                    have HBq := Lib.hid hBq
                    clear hBq
                    by_cases hlt : k < SA.length
                    · obtain ⟨x, hx⟩ : ∃ x, SA[k]? = some x := ⟨_, List.getElem?_eq_getElem hlt⟩
                      have HXC := Lib.hid (HSUB.out x (List.mem_of_getElem? hx))
                      obtain ⟨g, c', e0, _, _, _, hc⟩ := (SA7.out.below HBq.out).form (by omega)
                      simp only [Value.slice.injEq, true_and] at e0
                      obtain ⟨rfl, rfl⟩ := e0
                      have z0 := hc k hlt 0 (by decide)
                      rw [show k * 1 + 0 = k by omega, lv_at hx] at z0
                      have hk9 : (k : Int) < 1000000 := by have := HLA.out; omega
                      clear hc hx
                      go_wp2_with fail
                      refine (inR_any SW _ x _ (RW.out.below HBq.out).mat (by have := HLW.out; omega)).mono ?_
                      rintro e w10 ⟨rfl, rfl⟩
                      rw [decide_eq_true HXC.out]
                      go_wp2
                      go_roundw
                      case rel => first | exact ⟨k + 1, by omega, by go_num, HBq.out⟩ | ((repeat apply Exists.intro); exact ⟨⟨k + 1, by omega, by go_num, HBq.out⟩, rfl⟩)
                      case measure => simp [intOf]; omega
                    · obtain rfl : k = SA.length := by omega
                      have B18 := Lib.hid (laterB HB.out B17.out HBq.out)
                      go_wp2
                      go_ret
                      exact ⟨rfl, B18.out⟩
end Go.Proofs.Ytlmdgmgbijfaoaa
