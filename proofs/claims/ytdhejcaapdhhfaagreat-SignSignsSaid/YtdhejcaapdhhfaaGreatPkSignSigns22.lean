/-
  Part 22 of the texts that the proof of SignSigns rests on, one after the other. Conditions: named in each theorem.
-/
import Derived.Test.YtdhejcaapdhhfaaGreatPkSignSigns18
import Derived.Test.YtdhejcaapdhhfaaGreatPkSignSigns15
import Derived.Test.YtdhejcaapdhhfaaGreatPkSignSigns14
import Derived.Test.YtdhejcaapdhhfaaGreatPkSignSigns1
import Derived.Test.YtdhejcaapdhhfaaGreatPkSignSigns8
import Derived.Test.YtdhejcaapdhhfaaGreatPkSignSigns2
import Derived.Test.YtdhejcaapdhhfaaGreatPkSignSigns5
import Derived.Test.YtdhejcaapdhhfaaGreatPkSignSigns9
import Derived.Test.YtdhejcaapdhhfaaGreatPkSignSigns17
import Derived.Test.YtdhejcaapdhhfaaGreatPkSignSigns11
import Derived.Test.YtdhejcaapdhhfaaGreatPkSignSigns7
import Derived.Test.YtdhejcaapdhhfaaGreatPkSignSigns3
import Derived.Test.YtdhejcaapdhhfaaGreatPkSignSigns20
import Derived.Test.YtdhejcaapdhhfaaGreatPkSignSigns19
import Derived.Test.YtdhejcaapdhhfaaGreatPkSignSigns6
import Derived.Test.YtdhejcaapdhhfaaGreatPkSignSigns21
import Derived.BigFrame
import Derived.BigQuiet
import Derived.ChangeKeysEq
import Derived.ChangeOld
import Derived.Deep.Cut
import Derived.Deep.DrawnRows
import Derived.Deep.LoopGhost
import Derived.Deep.MidRow
import Derived.Deep.QuietTactic
import Derived.Deep.RegionHeld3
import Derived.Deep.RegionLaw
import Derived.Deep.WholeRow
import Derived.Laws.BitsAllLaws
import Derived.Laws.CopyOwn
import Derived.Laws.IdiomCopy
import Derived.Laws.StructEq
import Derived.Lib.Hide
import Derived.Maps.AppendAt
import Derived.Maps.Range
import Derived.OpenShut
import Derived.Orders
import Derived.OrdersIn
import Derived.OwnWalkIn
import Derived.ProofKit
import Derived.RangeFuncCalls
import Derived.ShutString
import Derived.Test.YtdhejcaapdhhfaaGreatArr
import Derived.Test.YtdhejcaapdhhfaaGreatFlow
import Derived.Test.YtdhejcaapdhhfaaGreatKit
import Derived.Test.YtdhejcaapdhhfaaGreatOpen
import Derived.Test.YtdhejcaapdhhfaaGreatRows
import Derived.WalkKit
import Derived.WalkLawsBesides
import Derived.WalkSmall
import Derived.WalkSpells
set_option linter.unusedVariables false
set_option linter.unusedSimpArgs false
namespace Go.Bas
open Go.RowKit
/-- block b holds the cells cs, and nothing of it is frozen. -/
def RowC (w : World) (b : Nat) (cs : Array Value) : Prop := ∃ T, w.heap[b]? = some (.cells cs T (0, 0))
theorem RowC.lt {w : World} {b : Nat} {cs : Array Value} (h : RowC w b cs) : b < w.heap.size := by obtain ⟨T, h⟩ := h; exact (Array.getElem?_eq_some_iff.1 h).1
theorem RowC.newAt {w : World} {T : TypeId} {b : Nat} {cs : Array Value} (hb : b = w.heap.size) : RowC (w.alloc (.cells cs T)) b cs := by subst hb; exact ⟨T, heap_alloc_new w _⟩
theorem RowC.alloc {w : World} {b : Nat} {cs : Array Value} (h : RowC w b cs) (o : Obj) : RowC (w.alloc o) b cs := by
  have hlt := h.lt
  obtain ⟨T, h⟩ := h
  exact ⟨T, by rw [Below.heap_alloc _ _ _ hlt]; exact h⟩
theorem RowC.kept {w w' : World} {b : Nat} {cs : Array Value} (h : RowC w b cs) (hb : Below w.heap.size w w') : RowC w' b cs := by
  have hlt := h.lt
  obtain ⟨T, h⟩ := h
  exact ⟨T, by rw [hb.block b hlt]; exact h⟩
theorem RowC.setRow {w : World} {b : Nat} {cs : Array Value} (h : RowC w b cs) (cs' : Array Value) : RowC (w.setRow b cs') b cs' := by
  obtain ⟨T, h⟩ := h; exact ⟨T, setRow_heap w b _ _ T _ h⟩
theorem RowC.setRowOther {w : World} {b : Nat} {cs : Array Value} (h : RowC w b cs) (b' : Nat) (hb : b ≠ b') (cs' : Array Value) : RowC (w.setRow b' cs') b cs := by
  obtain ⟨T, h⟩ := h; exact ⟨T, by rw [setRow_other w b' b cs' hb]; exact h⟩
theorem RowC.cell {w : World} {b : Nat} {cs : Array Value} (h : RowC w b cs) (i : Nat) {v : Value} (hv : cs[i]? = some v) : w.cell? ⟨b, i, none⟩ = some v := by
  obtain ⟨T, h⟩ := h; rw [cell_of_row w b i _ T (0, 0) h, hv]
section
variable {P : Program} {ops : Array Oper} {rest : List Oper} {o : Oper} {a : Act} {w : World} {Q : Exit → Act → World → Prop}
theorem load_rowC (hg : o.guard = none) (T : TypeId) (x : Operand) (ho : o.op = .load T x) (b : Nat) (cs : Array Value) {d : TypeDesc} (hu : P.underlying T = some d) (hd : aggB d = true) (hi : (P.info? T).map (·.size) = some cs.size) (hx : a.eval x = .pointer (some ⟨b, 0, none⟩)) (h : RowC w b cs)
    (hK : wpList P ops Q rest (a.put o.dst (.agg cs)) w) : wpList P ops Q (o :: rest) a w := by
  obtain ⟨t, ht⟩ := h
  exact wpList_load_row hg T x ho b hx t cs (0, 0) _ ht hu (by cases d <;> first | rfl | cases hd) hi hK
theorem wp_store_rowC {K : Act → World → Prop} (T : TypeId) (x y : Operand) (ho : o.op = .store T x y) (b : Nat) (cs cs' : Array Value) (hs : cs.size = cs'.size) (h1 : cs'.all (·.oneCell') = true)
    (hi : (P.info? T).map (·.size) = some cs'.size) (hx : a.eval x = .pointer (some ⟨b, 0, none⟩)) (hy : a.eval y = .agg cs') (h : RowC w b cs) (hK : K (a.put o.dst undef) (w.setRow b cs')) : o.wp P a w K Q := by
  obtain ⟨t, ht⟩ := h
  have hr := run_storeVar_row (P := P) w b t T cs cs' ht hi hs h1
  unfold Oper.wp execOp
  simp only [ho, hx, hy, Instr.storeAt, Instr.sureAddr, Sem.run_bind, Sem.run_pure, Result.andThen_ok, hr]
  exact hK
theorem store_rowC (hg : o.guard = none) (T : TypeId) (x y : Operand) (ho : o.op = .store T x y) (b : Nat) (cs cs' : Array Value) (hs : cs.size = cs'.size) (h1 : cs'.all (·.oneCell') = true)
    (hi : (P.info? T).map (·.size) = some cs'.size) (hx : a.eval x = .pointer (some ⟨b, 0, none⟩)) (hy : a.eval y = .agg cs') (h : RowC w b cs) (hK : wpList P ops Q rest (a.put o.dst undef) (w.setRow b cs')) : wpList P ops Q (o :: rest) a w :=
  wpList_plain hg fun _ hK' => wp_store_rowC T x y ho b cs cs' hs h1 hi hx hy h (hK' _ _ hK)
theorem results_rowC {fn : Func} {p : Tmp} {T : TypeId} (h : fn.results = #[.cell p T]) (tmps : Array Value) (w : World) (b : Nat) (cs : Array Value) {d : TypeDesc}
    (hp : tmps.getD p undef = .pointer (some ⟨b, 0, none⟩)) (ha : RowC w b cs) (hu : P.underlying T = some d) (hd : aggB d = true) (hi : (P.info? T).map (·.size) = some cs.size) : (results fn tmps).run P w = .ok (.agg cs) w := by
  obtain ⟨t, ht⟩ := ha
  exact results_cell_row h tmps w b t cs (0, 0) _ hp ht hu (by cases d <;> first | rfl | cases hd) hi
end
theorem RowC.free {w : World} {b : Nat} {cs : Array Value} (h : RowC w b cs) (i : Nat) : w.frozen? ⟨b, i, none⟩ = false := by
  obtain ⟨T, h⟩ := h; exact frozen_of_row w b i _ T h
theorem RowC.set {w : World} {b : Nat} {cs : Array Value} (h : RowC w b cs) (j : Nat) (v : Value) : RowC (w.setCell ⟨b, j, none⟩ v) b (cs.setIfInBounds j v) := by
  obtain ⟨T, h⟩ := h; exact ⟨T, heap_setCell_same w b j _ T _ h⟩
theorem RowC.set3 {w : World} {b : Nat} {x y z : Value} (h : RowC w b #[x, y, z]) (v1 v2 v3 : Value) : RowC (((w.setCell ⟨b, 0, none⟩ v1).setCell ⟨b, 1, none⟩ v2).setCell ⟨b, 2, none⟩ v3) b #[v1, v2, v3] := by
  have h1 := ((h.set 0 v1).set 1 v2).set 2 v3
  simpa using h1
/-- a slice of integers is none of a row's cells. -/
theorem Rd.setC {k : IntKind} {w : World} {v : Value} {n : Nat} {f : Nat → Int} {b : Nat} {cs : Array Value} (h : Rd k w v n f) (hr : RowC w b cs) (hcs : ∀ (i : Nat) (x : Value), cs[i]? = some x → ∃ a n c, x = Value.slice a n c) (j : Nat) (u : Value) : Rd k (w.setCell ⟨b, j, none⟩ u) v n f := by
  obtain ⟨a, c, rfl, h1, h2, h3, h4⟩ := h
  refine ⟨a, c, rfl, h1, h2, h3, fun hn => ?_⟩
  obtain ⟨b', o, rfl, hlt, hc⟩ := h4 hn
  have hne : b' ≠ b := by
    rintro rfl
    obtain ⟨T, hT⟩ := hr
    have h0 := hc 0 hn
    rw [cell_of_row w b' _ _ T (0, 0) hT] at h0
    obtain ⟨_, _, _, e⟩ := hcs _ _ h0
    cases e
  refine ⟨b', o, rfl, by simpa using hlt, fun i hi => ?_⟩
  rw [← hc i hi]
  exact World.cell?_of_block (heap_setCell_other w ⟨b, j, none⟩ b' u hne)
theorem three_sl {v1 v2 v3 : Value} (h1 : ∃ a n c, v1 = .slice a n c) (h2 : ∃ a n c, v2 = .slice a n c) (h3 : ∃ a n c, v3 = .slice a n c) : ∀ (i : Nat) (x : Value), (#[v1, v2, v3] : Array Value)[i]? = some x → ∃ a n c, x = Value.slice a n c := by
  intro i x hx
  rcases i with _ | _ | _ | i
  · obtain rfl := Option.some.inj hx; exact h1
  · obtain rfl := Option.some.inj hx; exact h2
  · obtain rfl := Option.some.inj hx; exact h3
  · simp at hx
theorem Rd.set3 {k : IntKind} {w : World} {v : Value} {n : Nat} {f : Nat → Int} {b : Nat} {x y z v1 v2 v3 : Value} (h : Rd k w v n f) (hr : RowC w b #[x, y, z]) (hx : ∃ a n c, x = .slice a n c) (hy : ∃ a n c, y = .slice a n c) (hz : ∃ a n c, z = .slice a n c) (h1 : ∃ a n c, v1 = .slice a n c) (h2 : ∃ a n c, v2 = .slice a n c) :
    Rd k (((w.setCell ⟨b, 0, none⟩ v1).setCell ⟨b, 1, none⟩ v2).setCell ⟨b, 2, none⟩ v3) v n f := by
  have r1 : RowC (w.setCell ⟨b, 0, none⟩ v1) b #[v1, y, z] := by simpa using hr.set 0 v1
  have r2 : RowC ((w.setCell ⟨b, 0, none⟩ v1).setCell ⟨b, 1, none⟩ v2) b #[v1, v2, z] := by simpa using r1.set 1 v2
  exact ((h.setC hr (three_sl hx hy hz) 0 v1).setC r1 (three_sl h1 hy hz) 1 v2).setC r2 (three_sl h1 h2 hz) 2 v3
theorem below_set3 {B b : Nat} {w0 w : World} (hB : B ≤ b) (h : Below B w0 w) (v1 v2 v3 : Value) : Below B w0 (((w.setCell ⟨b, 0, none⟩ v1).setCell ⟨b, 1, none⟩ v2).setCell ⟨b, 2, none⟩ v3) := ((h.setCell hB _).setCell hB _).setCell hB _
theorem Rd.isSlice {k : IntKind} {w : World} {v : Value} {n : Nat} {f : Nat → Int} (h : Rd k w v n f) : ∃ a n c, v = .slice a n c := by
  obtain ⟨a, c, h, _⟩ := h; exact ⟨a, n, c, h⟩
theorem one3 {v1 v2 v3 : Value} (h1 : ∃ a n c, v1 = .slice a n c) (h2 : ∃ a n c, v2 = .slice a n c) (h3 : ∃ a n c, v3 = .slice a n c) : (#[v1, v2, v3] : Array Value).all (·.oneCell') = true := by
  obtain ⟨_, _, _, rfl⟩ := h1; obtain ⟨_, _, _, rfl⟩ := h2; obtain ⟨_, _, _, rfl⟩ := h3
  show ([_, _, _] : List Value).toArray.all _ = true
  rw [List.all_toArray]; rfl
end Go.Bas
namespace Go.Proofs.YtdhejcaapdhhfaaGreat
open Go.RowKit Go.Bas Go.ChangeShapes
attribute [local go_sem ↓] Go.wp_at_zero Go.wp_at_succ
theorem Tryz.size66 : (Tryz.prog.info? 66).map (·.size) = some 3 := by kernel_rfl

set_option maxRecDepth 100000 in
set_option maxHeartbeats 6400000 in
theorem rOf_any (vx vy : Value) (X Y : Int) (w : World) (hx : Rd .i64 w vx 16 (dg 65536 X)) (hy : Rd .i64 w vy 16 (dg 65536 Y)) :
    Calls Tryz.prog 79 #[vx, vy] w fun e w' => ∃ vz, e = .returned (.agg #[vx, vy, vz]) ∧ Rd .i64 w' vz 16 (dg 65536 (1 % Pr)) ∧ Below w.heap.size w w' := by
  obtain ⟨a1, n1, c1, e1⟩ := hx.isSlice
  obtain ⟨a2, n2, c2, e2⟩ := hy.isSlice
  subst e1; subst e2
  clear hx hy
  go_enter Tryz.func79, Tryz.ntmps79
  go_upto_region 1 with (fail)
  refine wp_world (fun w1 => RowC w1 w.heap.size #[.slice none 0 0, .slice none 0 0, .slice none 0 0] ∧ Below w.heap.size w w1) ⟨RowC.newAt rfl, (Below.refl _ _).alloc (Nat.le_refl _) _⟩ ?_
  rintro w1 ⟨hR, hbel⟩
  go_wp2_with fail
  refine (smallP_rd 1 (by decide) (by decide) (by decide) _).mono ?_
  rintro e wa ⟨vz, rfl, hv, hb⟩
  have Hz := Lib.hid hv
  replace hR := hR.kept hb
  replace hbel := hbel.trans (hb.mono hbel.size)
  clear hv hb
  obtain ⟨a3, n3, c3, e3⟩ := Hz.out.isSlice
  subst e3
  have e0 := hR.cell 0 rfl
  have e1 := hR.cell 1 rfl
  have e2 := hR.cell 2 rfl
  have f0 := hR.free 0
  have f1 := hR.free 1
  have f2 := hR.free 2
  have HR := Lib.hid hR
  clear hR
  go_wp2
  have hR3 := HR.out.set3 (Value.slice a1 n1 c1) (Value.slice a2 n2 c2) (Value.slice a3 n3 c3)
  have hz3 := Hz.out.set3 (v1 := Value.slice a1 n1 c1) (v2 := Value.slice a2 n2 c2) (v3 := Value.slice a3 n3 c3) HR.out ⟨_, _, _, rfl⟩ ⟨_, _, _, rfl⟩ ⟨_, _, _, rfl⟩ ⟨_, _, _, rfl⟩ ⟨_, _, _, rfl⟩
  exact bodyPost_ret (results_rowC rfl _ _ w.heap.size _ rfl hR3 Tryz.underlying66 rfl Tryz.size66) rfl ⟨_, rfl, hz3, below_set3 (Nat.le_refl _) hbel _ _ _⟩
end Go.Proofs.YtdhejcaapdhhfaaGreat

namespace Go.Bas
/-! the reference's sum on numbers -/
def raL (X Y Z U V R D : Int) : Int := (Z * R) * (Z * R) - D * ((X * U) * (Y * V))
def raM (X Y Z U V R D : Int) : Int := (Z * R) * (Z * R) + D * ((X * U) * (Y * V))
def raC (X Y U V : Int) : Int := (X + Y) * (U + V) - X * U - Y * V
def raX (X Y Z U V R D : Int) : Int := (Z * R) * (raL X Y Z U V R D * raC X Y U V)
def raY (X Y Z U V R D : Int) : Int := (Z * R) * (raM X Y Z U V R D * (Y * V + X * U))
def raZ (X Y Z U V R D : Int) : Int := raL X Y Z U V R D * raM X Y Z U V R D
end Go.Bas
namespace Go.Proofs.YtdhejcaapdhhfaaGreat
open Go.RowKit Go.Bas Go.ChangeShapes
attribute [local go_sem ↓] Go.wp_at_zero Go.wp_at_succ
set_option maxRecDepth 100000 in
set_option maxHeartbeats 12800000 in
theorem rAdd_any (x y z u v r d : Value) (X Y Z U V R D : Int) (w : World) (hx : Rd .i64 w x 16 (dg 65536 (X % Pr))) (hy : Rd .i64 w y 16 (dg 65536 (Y % Pr))) (hz : Rd .i64 w z 16 (dg 65536 (Z % Pr)))
    (hu : Rd .i64 w u 16 (dg 65536 (U % Pr))) (hv : Rd .i64 w v 16 (dg 65536 (V % Pr))) (hr : Rd .i64 w r 16 (dg 65536 (R % Pr))) (hd : Rd .i64 w d 16 (dg 65536 (D % Pr))) :
    Calls Tryz.prog 81 #[.agg #[x, y, z], .agg #[u, v, r], d] w fun e w' => ∃ a b c, e = .returned (.agg #[a, b, c]) ∧ (Rd .i64 w' a 16 (dg 65536 (raX X Y Z U V R D % Pr)) ∧ Rd .i64 w' b 16 (dg 65536 (raY X Y Z U V R D % Pr)) ∧ Rd .i64 w' c 16 (dg 65536 (raZ X Y Z U V R D % Pr))) ∧ Below w.heap.size w w' := by
  obtain ⟨x1, x2, x3, ex⟩ := hx.isSlice
  subst ex
  obtain ⟨y1, y2, y3, ey⟩ := hy.isSlice
  subst ey
  obtain ⟨z1, z2, z3, ez⟩ := hz.isSlice
  subst ez
  obtain ⟨u1, u2, u3, eu⟩ := hu.isSlice
  subst eu
  obtain ⟨v1, v2, v3, ev⟩ := hv.isSlice
  subst ev
  obtain ⟨r1, r2, r3, er⟩ := hr.isSlice
  subst er
  have Hx := Lib.hid hx
  have Hy := Lib.hid hy
  have Hz := Lib.hid hz
  have Hu := Lib.hid hu
  have Hv := Lib.hid hv
  have Hr := Lib.hid hr
  have Hd := Lib.hid hd
  clear hx hy hz hu hv hr hd
  go_enter Tryz.func81, Tryz.ntmps81
  go_upto_region 1 with (fail)
  refine wp_world (fun w1 => RowC w1 w.heap.size #[(.slice x1 x2 x3), (.slice y1 y2 y3), (.slice z1 z2 z3)] ∧ RowC w1 (w.heap.size + 1) #[(.slice u1 u2 u3), (.slice v1 v2 v3), (.slice r1 r2 r3)] ∧ RowC w1 (w.heap.size + 2) #[.slice none 0 0, .slice none 0 0, .slice none 0 0] ∧ Below w.heap.size w w1) ⟨.alloc (.alloc (RowC.newAt rfl) _) _, .alloc (RowC.newAt (by first | omega | (simp <;> omega))) _, RowC.newAt (by first | omega | (simp <;> omega)), (((Below.refl _ _).alloc (Nat.le_refl _) _).alloc (by first | omega | (simp <;> omega)) _).alloc (by first | omega | (simp <;> omega)) _⟩ ?_
  rintro w1 ⟨hR1, hR2, hR3, hbel⟩
  replace Hx := Lib.hid (Hx.out.below hbel)
  replace Hy := Lib.hid (Hy.out.below hbel)
  replace Hz := Lib.hid (Hz.out.below hbel)
  replace Hu := Lib.hid (Hu.out.below hbel)
  replace Hv := Lib.hid (Hv.out.below hbel)
  replace Hr := Lib.hid (Hr.out.below hbel)
  replace Hd := Lib.hid (Hd.out.below hbel)
  have e10 := hR1.cell 0 rfl
  have e20 := hR2.cell 0 rfl
  have e11 := hR1.cell 1 rfl
  have e21 := hR2.cell 1 rfl
  have e12 := hR1.cell 2 rfl
  have e22 := hR2.cell 2 rfl
  go_wp2_with fail
  refine (fMul_rd Z R _ _ _ Hz.out Hr.out).mono ?_
  rintro e w_va ⟨va, rfl, hv, hb⟩
  have Ha := Lib.hid hv
  replace Hx := Lib.hid (Hx.out.below hb)
  replace Hy := Lib.hid (Hy.out.below hb)
  replace Hz := Lib.hid (Hz.out.below hb)
  replace Hu := Lib.hid (Hu.out.below hb)
  replace Hv := Lib.hid (Hv.out.below hb)
  replace Hr := Lib.hid (Hr.out.below hb)
  replace Hd := Lib.hid (Hd.out.below hb)
  replace hR1 := hR1.kept hb
  replace hR2 := hR2.kept hb
  replace hR3 := hR3.kept hb
  replace e10 := hR1.cell 0 rfl
  replace e20 := hR2.cell 0 rfl
  replace e11 := hR1.cell 1 rfl
  replace e21 := hR2.cell 1 rfl
  replace e12 := hR1.cell 2 rfl
  replace e22 := hR2.cell 2 rfl
  replace hbel := hbel.trans (hb.mono hbel.size)
  clear hv hb
  go_wp2_with fail
  refine (fMul_rd (Z * R) (Z * R) _ _ _ Ha.out Ha.out).mono ?_
  rintro e w_vb ⟨vb, rfl, hv, hb⟩
  have Hb := Lib.hid hv
  replace Hx := Lib.hid (Hx.out.below hb)
  replace Hy := Lib.hid (Hy.out.below hb)
  replace Hz := Lib.hid (Hz.out.below hb)
  replace Hu := Lib.hid (Hu.out.below hb)
  replace Hv := Lib.hid (Hv.out.below hb)
  replace Hr := Lib.hid (Hr.out.below hb)
  replace Hd := Lib.hid (Hd.out.below hb)
  replace Ha := Lib.hid (Ha.out.below hb)
  replace hR1 := hR1.kept hb
  replace hR2 := hR2.kept hb
  replace hR3 := hR3.kept hb
  replace e10 := hR1.cell 0 rfl
  replace e20 := hR2.cell 0 rfl
  replace e11 := hR1.cell 1 rfl
  replace e21 := hR2.cell 1 rfl
  replace e12 := hR1.cell 2 rfl
  replace e22 := hR2.cell 2 rfl
  replace hbel := hbel.trans (hb.mono hbel.size)
  clear hv hb
  go_wp2_with fail
  refine (fMul_rd X U _ _ _ Hx.out Hu.out).mono ?_
  rintro e w_vc ⟨vc, rfl, hv, hb⟩
  have Hc := Lib.hid hv
  replace Hx := Lib.hid (Hx.out.below hb)
  replace Hy := Lib.hid (Hy.out.below hb)
  replace Hz := Lib.hid (Hz.out.below hb)
  replace Hu := Lib.hid (Hu.out.below hb)
  replace Hv := Lib.hid (Hv.out.below hb)
  replace Hr := Lib.hid (Hr.out.below hb)
  replace Hd := Lib.hid (Hd.out.below hb)
  replace Ha := Lib.hid (Ha.out.below hb)
  replace Hb := Lib.hid (Hb.out.below hb)
  replace hR1 := hR1.kept hb
  replace hR2 := hR2.kept hb
  replace hR3 := hR3.kept hb
  replace e10 := hR1.cell 0 rfl
  replace e20 := hR2.cell 0 rfl
  replace e11 := hR1.cell 1 rfl
  replace e21 := hR2.cell 1 rfl
  replace e12 := hR1.cell 2 rfl
  replace e22 := hR2.cell 2 rfl
  replace hbel := hbel.trans (hb.mono hbel.size)
  clear hv hb
  go_wp2_with fail
  refine (fMul_rd Y V _ _ _ Hy.out Hv.out).mono ?_
  rintro e w_ve ⟨ve, rfl, hv, hb⟩
  have He := Lib.hid hv
  replace Hx := Lib.hid (Hx.out.below hb)
  replace Hy := Lib.hid (Hy.out.below hb)
  replace Hz := Lib.hid (Hz.out.below hb)
  replace Hu := Lib.hid (Hu.out.below hb)
  replace Hv := Lib.hid (Hv.out.below hb)
  replace Hr := Lib.hid (Hr.out.below hb)
  replace Hd := Lib.hid (Hd.out.below hb)
  replace Ha := Lib.hid (Ha.out.below hb)
  replace Hb := Lib.hid (Hb.out.below hb)
  replace Hc := Lib.hid (Hc.out.below hb)
  replace hR1 := hR1.kept hb
  replace hR2 := hR2.kept hb
  replace hR3 := hR3.kept hb
  replace e10 := hR1.cell 0 rfl
  replace e20 := hR2.cell 0 rfl
  replace e11 := hR1.cell 1 rfl
  replace e21 := hR2.cell 1 rfl
  replace e12 := hR1.cell 2 rfl
  replace e22 := hR2.cell 2 rfl
  replace hbel := hbel.trans (hb.mono hbel.size)
  clear hv hb
  go_wp2_with fail
  refine (fMul_rd (X * U) (Y * V) _ _ _ Hc.out He.out).mono ?_
  rintro e w_vce ⟨vce, rfl, hv, hb⟩
  have Hce := Lib.hid hv
  replace Hx := Lib.hid (Hx.out.below hb)
  replace Hy := Lib.hid (Hy.out.below hb)
  replace Hz := Lib.hid (Hz.out.below hb)
  replace Hu := Lib.hid (Hu.out.below hb)
  replace Hv := Lib.hid (Hv.out.below hb)
  replace Hr := Lib.hid (Hr.out.below hb)
  replace Hd := Lib.hid (Hd.out.below hb)
  replace Ha := Lib.hid (Ha.out.below hb)
  replace Hb := Lib.hid (Hb.out.below hb)
  replace Hc := Lib.hid (Hc.out.below hb)
  replace He := Lib.hid (He.out.below hb)
  replace hR1 := hR1.kept hb
  replace hR2 := hR2.kept hb
  replace hR3 := hR3.kept hb
  replace e10 := hR1.cell 0 rfl
  replace e20 := hR2.cell 0 rfl
  replace e11 := hR1.cell 1 rfl
  replace e21 := hR2.cell 1 rfl
  replace e12 := hR1.cell 2 rfl
  replace e22 := hR2.cell 2 rfl
  replace hbel := hbel.trans (hb.mono hbel.size)
  clear hv hb
  go_wp2_with fail
  refine (fMul_rd D ((X * U) * (Y * V)) _ _ _ Hd.out Hce.out).mono ?_
  rintro e w_vf ⟨vf, rfl, hv, hb⟩
  have Hf := Lib.hid hv
  replace Hx := Lib.hid (Hx.out.below hb)
  replace Hy := Lib.hid (Hy.out.below hb)
  replace Hz := Lib.hid (Hz.out.below hb)
  replace Hu := Lib.hid (Hu.out.below hb)
  replace Hv := Lib.hid (Hv.out.below hb)
  replace Hr := Lib.hid (Hr.out.below hb)
  replace Hd := Lib.hid (Hd.out.below hb)
  replace Ha := Lib.hid (Ha.out.below hb)
  replace Hb := Lib.hid (Hb.out.below hb)
  replace Hc := Lib.hid (Hc.out.below hb)
  replace He := Lib.hid (He.out.below hb)
  replace Hce := Lib.hid (Hce.out.below hb)
  replace hR1 := hR1.kept hb
  replace hR2 := hR2.kept hb
  replace hR3 := hR3.kept hb
  replace e10 := hR1.cell 0 rfl
  replace e20 := hR2.cell 0 rfl
  replace e11 := hR1.cell 1 rfl
  replace e21 := hR2.cell 1 rfl
  replace e12 := hR1.cell 2 rfl
  replace e22 := hR2.cell 2 rfl
  replace hbel := hbel.trans (hb.mono hbel.size)
  clear hv hb
  go_wp2_with fail
  refine (fSub_rd ((Z * R) * (Z * R)) (D * ((X * U) * (Y * V))) _ _ _ Hb.out Hf.out).mono ?_
  rintro e w_vl ⟨vl, rfl, hv, hb⟩
  have Hl := Lib.hid hv
  replace Hx := Lib.hid (Hx.out.below hb)
  replace Hy := Lib.hid (Hy.out.below hb)
  replace Hz := Lib.hid (Hz.out.below hb)
  replace Hu := Lib.hid (Hu.out.below hb)
  replace Hv := Lib.hid (Hv.out.below hb)
  replace Hr := Lib.hid (Hr.out.below hb)
  replace Hd := Lib.hid (Hd.out.below hb)
  replace Ha := Lib.hid (Ha.out.below hb)
  replace Hb := Lib.hid (Hb.out.below hb)
  replace Hc := Lib.hid (Hc.out.below hb)
  replace He := Lib.hid (He.out.below hb)
  replace Hf := Lib.hid (Hf.out.below hb)
  replace hR1 := hR1.kept hb
  replace hR2 := hR2.kept hb
  replace hR3 := hR3.kept hb
  replace e10 := hR1.cell 0 rfl
  replace e20 := hR2.cell 0 rfl
  replace e11 := hR1.cell 1 rfl
  replace e21 := hR2.cell 1 rfl
  replace e12 := hR1.cell 2 rfl
  replace e22 := hR2.cell 2 rfl
  replace hbel := hbel.trans (hb.mono hbel.size)
  clear hv hb
  go_wp2_with fail
  refine (fAdd_rd ((Z * R) * (Z * R)) (D * ((X * U) * (Y * V))) _ _ _ Hb.out Hf.out).mono ?_
  rintro e w_vm ⟨vm, rfl, hv, hb⟩
  have Hm := Lib.hid hv
  replace Hx := Lib.hid (Hx.out.below hb)
  replace Hy := Lib.hid (Hy.out.below hb)
  replace Hz := Lib.hid (Hz.out.below hb)
  replace Hu := Lib.hid (Hu.out.below hb)
  replace Hv := Lib.hid (Hv.out.below hb)
  replace Hr := Lib.hid (Hr.out.below hb)
  replace Hd := Lib.hid (Hd.out.below hb)
  replace Ha := Lib.hid (Ha.out.below hb)
  replace Hb := Lib.hid (Hb.out.below hb)
  replace Hc := Lib.hid (Hc.out.below hb)
  replace He := Lib.hid (He.out.below hb)
  replace Hf := Lib.hid (Hf.out.below hb)
  replace Hl := Lib.hid (Hl.out.below hb)
  replace hR1 := hR1.kept hb
  replace hR2 := hR2.kept hb
  replace hR3 := hR3.kept hb
  replace e10 := hR1.cell 0 rfl
  replace e20 := hR2.cell 0 rfl
  replace e11 := hR1.cell 1 rfl
  replace e21 := hR2.cell 1 rfl
  replace e12 := hR1.cell 2 rfl
  replace e22 := hR2.cell 2 rfl
  replace hbel := hbel.trans (hb.mono hbel.size)
  clear hv hb
  have hl1 := hR1.lt
  have hl2 := hR2.lt
  go_upto_region 8 with (fail)
  refine region_flow (n := 75) (by kernel_rfl) (by kernel_rfl) (by kernel_rfl) rfl
    (fun ii vv ww => (match ii with | 0 => vv = .pointer (some ⟨w.heap.size, 0, none⟩) | 1 => vv = .slice x1 x2 x3 | 2 => vv = .pointer (some ⟨w.heap.size, 1, none⟩) | 3 => vv = .slice y1 y2 y3 | 5 => vv = .pointer (some ⟨(w.heap.size + 1), 0, none⟩) | 6 => vv = .slice u1 u2 u3 | 7 => vv = .pointer (some ⟨(w.heap.size + 1), 1, none⟩) | 8 => vv = .slice v1 v2 v3 | 11 => vv = vc | 13 => vv = ve | _ => True) ∧ (ii = 4 → Rd .i64 ww vv 16 (dg 65536 (((X + Y)) % Pr))) ∧ (ii = 9 → Rd .i64 ww vv 16 (dg 65536 (((U + V)) % Pr))) ∧ (ii = 10 → Rd .i64 ww vv 16 (dg 65536 ((((X + Y) * (U + V))) % Pr))) ∧ (ii = 12 → Rd .i64 ww vv 16 (dg 65536 (((((X + Y) * (U + V)) - (X * U))) % Pr))) ∧ (ii = 14 → Rd .i64 ww vv 16 (dg 65536 ((((((X + Y) * (U + V)) - (X * U)) - (Y * V))) % Pr))) ∧ (ii = 15 → Rd .i64 ww vv 16 (dg 65536 ((((((X + Y) * (U + V)) - (X * U)) - (Y * V))) % Pr))))
    (fun w w' => Below w.heap.size w w') (fun _ _ h => h) (fun i v w w' h hE => ⟨h.1, fun e => Rd.below (h.2.1 e) hE, fun e => Rd.below (h.2.2.1 e) hE, fun e => Rd.below (h.2.2.2.1 e) hE, fun e => Rd.below (h.2.2.2.2.1 e) hE, fun e => Rd.below (h.2.2.2.2.2.1 e) hE, fun e => Rd.below (h.2.2.2.2.2.2 e) hE⟩) ?_ ?_
  · refine Each.all ?_
    refine ⟨?_, ?_, ?_, ?_, ?_, ?_, ?_, ?_, ?_, ?_, ?_, ?_, ?_, ?_, ?_, ?_, trivial⟩
    · intro a w2 hB hF hd
      rw [if_pos (wanted_none rfl)]
      refine flow_val (fun h => by cases h) (run_field_at (m := 0) (k := 0) rfl (hF.same 3 rfl) (by kernel_rfl)) ?_
      exact ⟨rfl, fun h => absurd h (by decide), fun h => absurd h (by decide), fun h => absurd h (by decide), fun h => absurd h (by decide), fun h => absurd h (by decide), fun h => absurd h (by decide)⟩
    · intro a w2 hB hF hd
      rw [if_pos (wanted_none rfl)]
      exact flow_val (fun h => by cases h) (run_load_slice rfl ((hd 0 _ rfl (waits_spec rfl)).1) Tryz.underlying64 ((hB.cell (p := ⟨w.heap.size, 0, none⟩) hl1).trans e10)) ⟨rfl, fun h => absurd h (by decide), fun h => absurd h (by decide), fun h => absurd h (by decide), fun h => absurd h (by decide), fun h => absurd h (by decide), fun h => absurd h (by decide)⟩
    · intro a w2 hB hF hd
      rw [if_pos (wanted_none rfl)]
      refine flow_val (fun h => by cases h) (run_field_at (m := 0) (k := 1) rfl (hF.same 3 rfl) (by kernel_rfl)) ?_
      exact ⟨rfl, fun h => absurd h (by decide), fun h => absurd h (by decide), fun h => absurd h (by decide), fun h => absurd h (by decide), fun h => absurd h (by decide), fun h => absurd h (by decide)⟩
    · intro a w2 hB hF hd
      rw [if_pos (wanted_none rfl)]
      exact flow_val (fun h => by cases h) (run_load_slice rfl ((hd 2 _ rfl (waits_spec rfl)).1) Tryz.underlying64 ((hB.cell (p := ⟨w.heap.size, 1, none⟩) hl1).trans e11)) ⟨rfl, fun h => absurd h (by decide), fun h => absurd h (by decide), fun h => absurd h (by decide), fun h => absurd h (by decide), fun h => absurd h (by decide), fun h => absurd h (by decide)⟩
    · intro a w2 hB hF hd
      rw [if_pos (wanted_none rfl)]
      refine flow_call _ _ _ rfl Tryz.call95 _ (args2 ((hd 1 _ rfl (waits_spec rfl)).1) ((hd 3 _ rfl (waits_spec rfl)).1)) (by simp) ((fAdd_rd X Y _ _ w2 (Hx.out.below hB) (Hy.out.below hB)).mono ?_)
      rintro e w3 ⟨u, rfl, hr, hb⟩; exact ⟨u, rfl, ⟨trivial, fun _ => hr, fun h => absurd h (by decide), fun h => absurd h (by decide), fun h => absurd h (by decide), fun h => absurd h (by decide), fun h => absurd h (by decide)⟩, hb⟩
    · intro a w2 hB hF hd
      rw [if_pos (wanted_none rfl)]
      refine flow_val (fun h => by cases h) (run_field_at (m := 0) (k := 0) rfl (hF.same 4 rfl) (by kernel_rfl)) ?_
      exact ⟨rfl, fun h => absurd h (by decide), fun h => absurd h (by decide), fun h => absurd h (by decide), fun h => absurd h (by decide), fun h => absurd h (by decide), fun h => absurd h (by decide)⟩
    · intro a w2 hB hF hd
      rw [if_pos (wanted_none rfl)]
      exact flow_val (fun h => by cases h) (run_load_slice rfl ((hd 5 _ rfl (waits_spec rfl)).1) Tryz.underlying64 ((hB.cell (p := ⟨(w.heap.size + 1), 0, none⟩) hl2).trans e20)) ⟨rfl, fun h => absurd h (by decide), fun h => absurd h (by decide), fun h => absurd h (by decide), fun h => absurd h (by decide), fun h => absurd h (by decide), fun h => absurd h (by decide)⟩
    · intro a w2 hB hF hd
      rw [if_pos (wanted_none rfl)]
      refine flow_val (fun h => by cases h) (run_field_at (m := 0) (k := 1) rfl (hF.same 4 rfl) (by kernel_rfl)) ?_
      exact ⟨rfl, fun h => absurd h (by decide), fun h => absurd h (by decide), fun h => absurd h (by decide), fun h => absurd h (by decide), fun h => absurd h (by decide), fun h => absurd h (by decide)⟩
    · intro a w2 hB hF hd
      rw [if_pos (wanted_none rfl)]
      exact flow_val (fun h => by cases h) (run_load_slice rfl ((hd 7 _ rfl (waits_spec rfl)).1) Tryz.underlying64 ((hB.cell (p := ⟨(w.heap.size + 1), 1, none⟩) hl2).trans e21)) ⟨rfl, fun h => absurd h (by decide), fun h => absurd h (by decide), fun h => absurd h (by decide), fun h => absurd h (by decide), fun h => absurd h (by decide), fun h => absurd h (by decide)⟩
    · intro a w2 hB hF hd
      rw [if_pos (wanted_none rfl)]
      refine flow_call _ _ _ rfl Tryz.call95 _ (args2 ((hd 6 _ rfl (waits_spec rfl)).1) ((hd 8 _ rfl (waits_spec rfl)).1)) (by simp) ((fAdd_rd U V _ _ w2 (Hu.out.below hB) (Hv.out.below hB)).mono ?_)
      rintro e w3 ⟨u, rfl, hr, hb⟩; exact ⟨u, rfl, ⟨trivial, fun h => absurd h (by decide), fun _ => hr, fun h => absurd h (by decide), fun h => absurd h (by decide), fun h => absurd h (by decide), fun h => absurd h (by decide)⟩, hb⟩
    · intro a w2 hB hF hd
      rw [if_pos (wanted_none rfl)]
      refine flow_call _ _ _ rfl Tryz.call76 _ (args2 rfl rfl) (by simp) ((fMul_rd (X + Y) (U + V) _ _ w2 ((hd 4 _ rfl (waits_spec rfl)).2.1 rfl) ((hd 9 _ rfl (waits_spec rfl)).2.2.1 rfl)).mono ?_)
      rintro e w3 ⟨u, rfl, hr, hb⟩; exact ⟨u, rfl, ⟨trivial, fun h => absurd h (by decide), fun h => absurd h (by decide), fun _ => hr, fun h => absurd h (by decide), fun h => absurd h (by decide), fun h => absurd h (by decide)⟩, hb⟩
    · intro a w2 hB hF hd
      rw [if_pos (wanted_none rfl)]
      exact flow_move _ (.inl rfl) (by simp) ⟨(hF.same 9 rfl), fun h => absurd h (by decide), fun h => absurd h (by decide), fun h => absurd h (by decide), fun h => absurd h (by decide), fun h => absurd h (by decide), fun h => absurd h (by decide)⟩
    · intro a w2 hB hF hd
      rw [if_pos (wanted_none rfl)]
      refine flow_call _ _ _ rfl Tryz.call96 _ (args2 rfl ((hd 11 _ rfl (waits_spec rfl)).1)) (by simp) ((fSub_rd ((X + Y) * (U + V)) (X * U) _ _ w2 ((hd 10 _ rfl (waits_spec rfl)).2.2.2.1 rfl) (Hc.out.below hB)).mono ?_)
      rintro e w3 ⟨u, rfl, hr, hb⟩; exact ⟨u, rfl, ⟨trivial, fun h => absurd h (by decide), fun h => absurd h (by decide), fun h => absurd h (by decide), fun _ => hr, fun h => absurd h (by decide), fun h => absurd h (by decide)⟩, hb⟩
    · intro a w2 hB hF hd
      rw [if_pos (wanted_none rfl)]
      exact flow_move _ (.inl rfl) (by simp) ⟨(hF.same 10 rfl), fun h => absurd h (by decide), fun h => absurd h (by decide), fun h => absurd h (by decide), fun h => absurd h (by decide), fun h => absurd h (by decide), fun h => absurd h (by decide)⟩
    · intro a w2 hB hF hd
      rw [if_pos (wanted_none rfl)]
      refine flow_call _ _ _ rfl Tryz.call96 _ (args2 rfl ((hd 13 _ rfl (waits_spec rfl)).1)) (by simp) ((fSub_rd (((X + Y) * (U + V)) - (X * U)) (Y * V) _ _ w2 ((hd 12 _ rfl (waits_spec rfl)).2.2.2.2.1 rfl) (He.out.below hB)).mono ?_)
      rintro e w3 ⟨u, rfl, hr, hb⟩; exact ⟨u, rfl, ⟨trivial, fun h => absurd h (by decide), fun h => absurd h (by decide), fun h => absurd h (by decide), fun h => absurd h (by decide), fun _ => hr, fun h => absurd h (by decide)⟩, hb⟩
    · intro a w2 hB hF hd
      rw [if_pos (wanted_none rfl)]
      exact flow_move _ (.inr rfl) (by simp) ⟨trivial, fun h => absurd h (by decide), fun h => absurd h (by decide), fun h => absurd h (by decide), fun h => absurd h (by decide), fun h => absurd h (by decide), fun _ => ((hd 14 _ rfl (waits_spec rfl)).2.2.2.2.2.1 rfl)⟩
  · intro a w8 hB hF hS
    obtain ⟨x48, hx48⟩ : ∃ x, x = a.tmps.getD 48 undef := ⟨_, rfl⟩
    have P48 : Rd .i64 w8 x48 16 (dg 65536 (((X + Y)) % Pr)) := by rw [hx48]; exact (hS 4 _ rfl).2.1 rfl
    obtain ⟨x53, hx53⟩ : ∃ x, x = a.tmps.getD 53 undef := ⟨_, rfl⟩
    have P53 : Rd .i64 w8 x53 16 (dg 65536 (((U + V)) % Pr)) := by rw [hx53]; exact (hS 9 _ rfl).2.2.1 rfl
    obtain ⟨x54, hx54⟩ : ∃ x, x = a.tmps.getD 54 undef := ⟨_, rfl⟩
    have P54 : Rd .i64 w8 x54 16 (dg 65536 ((((X + Y) * (U + V))) % Pr)) := by rw [hx54]; exact (hS 10 _ rfl).2.2.2.1 rfl
    obtain ⟨x56, hx56⟩ : ∃ x, x = a.tmps.getD 56 undef := ⟨_, rfl⟩
    have P56 : Rd .i64 w8 x56 16 (dg 65536 (((((X + Y) * (U + V)) - (X * U))) % Pr)) := by rw [hx56]; exact (hS 12 _ rfl).2.2.2.2.1 rfl
    obtain ⟨x58, hx58⟩ : ∃ x, x = a.tmps.getD 58 undef := ⟨_, rfl⟩
    have P58 : Rd .i64 w8 x58 16 (dg 65536 ((((((X + Y) * (U + V)) - (X * U)) - (Y * V))) % Pr)) := by rw [hx58]; exact (hS 14 _ rfl).2.2.2.2.2.1 rfl
    obtain ⟨x14, hx14⟩ : ∃ x, x = a.tmps.getD 14 undef := ⟨_, rfl⟩
    have P14 : Rd .i64 w8 x14 16 (dg 65536 ((((((X + Y) * (U + V)) - (X * U)) - (Y * V))) % Pr)) := by rw [hx14]; exact (hS 15 _ rfl).2.2.2.2.2.2 rfl
    have ha := puts_each rfl rfl hF [_, _, _, _, x48, _, _, _, _, x53, x54, _, x56, _, x58, x14] rfl ⟨(hS 0 _ rfl).1, (hS 1 _ rfl).1, (hS 2 _ rfl).1, (hS 3 _ rfl).1, hx48.symm, (hS 5 _ rfl).1, (hS 6 _ rfl).1, (hS 7 _ rfl).1, (hS 8 _ rfl).1, hx53.symm, hx54.symm, (hS 11 _ rfl).1, hx56.symm, (hS 13 _ rfl).1, hx58.symm, hx14.symm, trivial⟩
    simp only [puts, Act.put, List.setIfInBounds_toArray, List.set_cons_succ, List.set_cons_zero] at ha
    subst ha
    clear hx48 hx53 hx54 hx56 hx58 hx14
    clear hS hF
    replace Hx := Lib.hid (Hx.out.below hB)
    replace Hy := Lib.hid (Hy.out.below hB)
    replace Hz := Lib.hid (Hz.out.below hB)
    replace Hu := Lib.hid (Hu.out.below hB)
    replace Hv := Lib.hid (Hv.out.below hB)
    replace Hr := Lib.hid (Hr.out.below hB)
    replace Hd := Lib.hid (Hd.out.below hB)
    replace Ha := Lib.hid (Ha.out.below hB)
    replace Hb := Lib.hid (Hb.out.below hB)
    replace Hc := Lib.hid (Hc.out.below hB)
    replace He := Lib.hid (He.out.below hB)
    replace Hf := Lib.hid (Hf.out.below hB)
    replace Hl := Lib.hid (Hl.out.below hB)
    replace Hm := Lib.hid (Hm.out.below hB)
    replace hR1 := hR1.kept hB
    replace hR2 := hR2.kept hB
    replace hR3 := hR3.kept hB
    replace e10 := hR1.cell 0 rfl
    replace e20 := hR2.cell 0 rfl
    replace e11 := hR1.cell 1 rfl
    replace e21 := hR2.cell 1 rfl
    replace e12 := hR1.cell 2 rfl
    replace e22 := hR2.cell 2 rfl
    replace hbel := hbel.trans (hB.mono hbel.size)
    have Hcr : Hid (Rd .i64 w8 x14 16 (dg 65536 (raC X Y U V % Pr))) := P14
    clear hB hl1 hl2 P48 P53 P54 P56 P58 P14
    go_wp2_with fail
    refine (fMul_rd ((Z * R) * (Z * R) - D * ((X * U) * (Y * V))) (raC X Y U V) _ _ _ Hl.out Hcr.out).mono ?_
    rintro e w_vk1 ⟨vk1, rfl, hv, hb⟩
    have Hk1 := Lib.hid hv
    replace Ha := Lib.hid (Ha.out.below hb)
    replace Hb := Lib.hid (Hb.out.below hb)
    replace Hc := Lib.hid (Hc.out.below hb)
    replace He := Lib.hid (He.out.below hb)
    replace Hf := Lib.hid (Hf.out.below hb)
    replace Hl := Lib.hid (Hl.out.below hb)
    replace Hm := Lib.hid (Hm.out.below hb)
    replace Hcr := Lib.hid (Hcr.out.below hb)
    replace hR1 := hR1.kept hb
    replace hR2 := hR2.kept hb
    replace hR3 := hR3.kept hb
    replace e10 := hR1.cell 0 rfl
    replace e20 := hR2.cell 0 rfl
    replace e11 := hR1.cell 1 rfl
    replace e21 := hR2.cell 1 rfl
    replace e12 := hR1.cell 2 rfl
    replace e22 := hR2.cell 2 rfl
    replace hbel := hbel.trans (hb.mono hbel.size)
    clear hv hb
    go_wp2_with fail
    refine (fMul_rd (Z * R) (((Z * R) * (Z * R) - D * ((X * U) * (Y * V))) * raC X Y U V) _ _ _ Ha.out Hk1.out).mono ?_
    rintro e w_vk2 ⟨vk2, rfl, hv, hb⟩
    have Hk2 := Lib.hid hv
    replace Ha := Lib.hid (Ha.out.below hb)
    replace Hb := Lib.hid (Hb.out.below hb)
    replace Hc := Lib.hid (Hc.out.below hb)
    replace He := Lib.hid (He.out.below hb)
    replace Hf := Lib.hid (Hf.out.below hb)
    replace Hl := Lib.hid (Hl.out.below hb)
    replace Hm := Lib.hid (Hm.out.below hb)
    replace Hcr := Lib.hid (Hcr.out.below hb)
    replace Hk1 := Lib.hid (Hk1.out.below hb)
    replace hR1 := hR1.kept hb
    replace hR2 := hR2.kept hb
    replace hR3 := hR3.kept hb
    replace e10 := hR1.cell 0 rfl
    replace e20 := hR2.cell 0 rfl
    replace e11 := hR1.cell 1 rfl
    replace e21 := hR2.cell 1 rfl
    replace e12 := hR1.cell 2 rfl
    replace e22 := hR2.cell 2 rfl
    replace hbel := hbel.trans (hb.mono hbel.size)
    clear hv hb
    go_wp2_with fail
    refine (fAdd_rd (Y * V) (X * U) _ _ _ He.out Hc.out).mono ?_
    rintro e w_vk3 ⟨vk3, rfl, hv, hb⟩
    have Hk3 := Lib.hid hv
    replace Ha := Lib.hid (Ha.out.below hb)
    replace Hb := Lib.hid (Hb.out.below hb)
    replace Hc := Lib.hid (Hc.out.below hb)
    replace He := Lib.hid (He.out.below hb)
    replace Hf := Lib.hid (Hf.out.below hb)
    replace Hl := Lib.hid (Hl.out.below hb)
    replace Hm := Lib.hid (Hm.out.below hb)
    replace Hcr := Lib.hid (Hcr.out.below hb)
    replace Hk1 := Lib.hid (Hk1.out.below hb)
    replace Hk2 := Lib.hid (Hk2.out.below hb)
    replace hR1 := hR1.kept hb
    replace hR2 := hR2.kept hb
    replace hR3 := hR3.kept hb
    replace e10 := hR1.cell 0 rfl
    replace e20 := hR2.cell 0 rfl
    replace e11 := hR1.cell 1 rfl
    replace e21 := hR2.cell 1 rfl
    replace e12 := hR1.cell 2 rfl
    replace e22 := hR2.cell 2 rfl
    replace hbel := hbel.trans (hb.mono hbel.size)
    clear hv hb
    go_wp2_with fail
    refine (fMul_rd ((Z * R) * (Z * R) + D * ((X * U) * (Y * V))) (Y * V + X * U) _ _ _ Hm.out Hk3.out).mono ?_
    rintro e w_vk4 ⟨vk4, rfl, hv, hb⟩
    have Hk4 := Lib.hid hv
    replace Ha := Lib.hid (Ha.out.below hb)
    replace Hb := Lib.hid (Hb.out.below hb)
    replace Hc := Lib.hid (Hc.out.below hb)
    replace He := Lib.hid (He.out.below hb)
    replace Hf := Lib.hid (Hf.out.below hb)
    replace Hl := Lib.hid (Hl.out.below hb)
    replace Hm := Lib.hid (Hm.out.below hb)
    replace Hcr := Lib.hid (Hcr.out.below hb)
    replace Hk1 := Lib.hid (Hk1.out.below hb)
    replace Hk2 := Lib.hid (Hk2.out.below hb)
    replace Hk3 := Lib.hid (Hk3.out.below hb)
    replace hR1 := hR1.kept hb
    replace hR2 := hR2.kept hb
    replace hR3 := hR3.kept hb
    replace e10 := hR1.cell 0 rfl
    replace e20 := hR2.cell 0 rfl
    replace e11 := hR1.cell 1 rfl
    replace e21 := hR2.cell 1 rfl
    replace e12 := hR1.cell 2 rfl
    replace e22 := hR2.cell 2 rfl
    replace hbel := hbel.trans (hb.mono hbel.size)
    clear hv hb
    go_wp2_with fail
    refine (fMul_rd (Z * R) (((Z * R) * (Z * R) + D * ((X * U) * (Y * V))) * (Y * V + X * U)) _ _ _ Ha.out Hk4.out).mono ?_
    rintro e w_vk5 ⟨vk5, rfl, hv, hb⟩
    have Hk5 := Lib.hid hv
    replace Ha := Lib.hid (Ha.out.below hb)
    replace Hb := Lib.hid (Hb.out.below hb)
    replace Hc := Lib.hid (Hc.out.below hb)
    replace He := Lib.hid (He.out.below hb)
    replace Hf := Lib.hid (Hf.out.below hb)
    replace Hl := Lib.hid (Hl.out.below hb)
    replace Hm := Lib.hid (Hm.out.below hb)
    replace Hcr := Lib.hid (Hcr.out.below hb)
    replace Hk1 := Lib.hid (Hk1.out.below hb)
    replace Hk2 := Lib.hid (Hk2.out.below hb)
    replace Hk3 := Lib.hid (Hk3.out.below hb)
    replace Hk4 := Lib.hid (Hk4.out.below hb)
    replace hR1 := hR1.kept hb
    replace hR2 := hR2.kept hb
    replace hR3 := hR3.kept hb
    replace e10 := hR1.cell 0 rfl
    replace e20 := hR2.cell 0 rfl
    replace e11 := hR1.cell 1 rfl
    replace e21 := hR2.cell 1 rfl
    replace e12 := hR1.cell 2 rfl
    replace e22 := hR2.cell 2 rfl
    replace hbel := hbel.trans (hb.mono hbel.size)
    clear hv hb
    go_wp2_with fail
    refine (fMul_rd ((Z * R) * (Z * R) - D * ((X * U) * (Y * V))) ((Z * R) * (Z * R) + D * ((X * U) * (Y * V))) _ _ _ Hl.out Hm.out).mono ?_
    rintro e w_vk6 ⟨vk6, rfl, hv, hb⟩
    have Hk6 := Lib.hid hv
    replace Ha := Lib.hid (Ha.out.below hb)
    replace Hb := Lib.hid (Hb.out.below hb)
    replace Hc := Lib.hid (Hc.out.below hb)
    replace He := Lib.hid (He.out.below hb)
    replace Hf := Lib.hid (Hf.out.below hb)
    replace Hl := Lib.hid (Hl.out.below hb)
    replace Hm := Lib.hid (Hm.out.below hb)
    replace Hcr := Lib.hid (Hcr.out.below hb)
    replace Hk1 := Lib.hid (Hk1.out.below hb)
    replace Hk2 := Lib.hid (Hk2.out.below hb)
    replace Hk3 := Lib.hid (Hk3.out.below hb)
    replace Hk4 := Lib.hid (Hk4.out.below hb)
    replace Hk5 := Lib.hid (Hk5.out.below hb)
    replace hR1 := hR1.kept hb
    replace hR2 := hR2.kept hb
    replace hR3 := hR3.kept hb
    replace e10 := hR1.cell 0 rfl
    replace e20 := hR2.cell 0 rfl
    replace e11 := hR1.cell 1 rfl
    replace e21 := hR2.cell 1 rfl
    replace e12 := hR1.cell 2 rfl
    replace e22 := hR2.cell 2 rfl
    replace hbel := hbel.trans (hb.mono hbel.size)
    clear hv hb
    obtain ⟨k2a, k2b, k2c, ek2⟩ := Hk2.out.isSlice
    subst ek2
    obtain ⟨k5a, k5b, k5c, ek5⟩ := Hk5.out.isSlice
    subst ek5
    obtain ⟨k6a, k6b, k6c, ek6⟩ := Hk6.out.isSlice
    subst ek6
    have e30 := hR3.cell 0 rfl
    have e31 := hR3.cell 1 rfl
    have e32 := hR3.cell 2 rfl
    have f30 := hR3.free 0
    have f31 := hR3.free 1
    have f32 := hR3.free 2
    have HR3 := Lib.hid hR3
    clear hR3 hR1 hR2 e10 e11 e12 e20 e21 e22
    go_wp2
    have hrow := HR3.out.set3 (Value.slice k2a k2b k2c) (Value.slice k5a k5b k5c) (Value.slice k6a k6b k6c)
    have rk2 := Hk2.out.set3 (v1 := (Value.slice k2a k2b k2c)) (v2 := (Value.slice k5a k5b k5c)) (v3 := (Value.slice k6a k6b k6c)) HR3.out ⟨_, _, _, rfl⟩ ⟨_, _, _, rfl⟩ ⟨_, _, _, rfl⟩ ⟨_, _, _, rfl⟩ ⟨_, _, _, rfl⟩
    have rk5 := Hk5.out.set3 (v1 := (Value.slice k2a k2b k2c)) (v2 := (Value.slice k5a k5b k5c)) (v3 := (Value.slice k6a k6b k6c)) HR3.out ⟨_, _, _, rfl⟩ ⟨_, _, _, rfl⟩ ⟨_, _, _, rfl⟩ ⟨_, _, _, rfl⟩ ⟨_, _, _, rfl⟩
    have rk6 := Hk6.out.set3 (v1 := (Value.slice k2a k2b k2c)) (v2 := (Value.slice k5a k5b k5c)) (v3 := (Value.slice k6a k6b k6c)) HR3.out ⟨_, _, _, rfl⟩ ⟨_, _, _, rfl⟩ ⟨_, _, _, rfl⟩ ⟨_, _, _, rfl⟩ ⟨_, _, _, rfl⟩
    exact bodyPost_ret (results_rowC rfl _ _ (w.heap.size + 2) _ rfl hrow Tryz.underlying66 rfl Tryz.size66) rfl ⟨_, _, _, rfl, ⟨rk2, rk5, rk6⟩, below_set3 (by omega) hbel _ _ _⟩
end Go.Proofs.YtdhejcaapdhhfaaGreat

namespace Go.Proofs.YtdhejcaapdhhfaaGreat
open Go.RowKit Go.Bas Go.ChangeShapes
attribute [local go_sem ↓] Go.wp_at_zero Go.wp_at_succ
/-- a point by value. -/
abbrev Pt (f g h e : Nat → Int) : Value := .agg (arr .i64 64 (pt f g h e))
theorem Tryz.size55 : (Tryz.prog.info? 55).map (·.size) = some 64 := by kernel_rfl
theorem build_pt (f g h e : Nat → Int) (w : World) : (Instr.build 55 #[(0, .agg (arr .i64 16 f)), (1, .agg (arr .i64 16 g)), (2, .agg (arr .i64 16 h)), (3, .agg (arr .i64 16 e))]).run Tryz.prog w = .ok (Pt f g h e) w :=
  Go.run_build w _ _ (arr .i64 64 (pt f g h e)) (by kernel_rfl)
/-- the limbs of d. -/
def curveF : Nat → Int := negF (mulF (addF (smallF 60832) (smallF 60833)) (invF (addF (smallF 60833) (smallF 60833))))
/-- d as a number. -/
def dN : Int := -((60832 + 60833) * invN (60833 + 60833))
theorem fe_small0 (n : Int) (h : smallN n = n) : Fe (smallF n) n := by have := fe_smallF n; rwa [h] at this
theorem fe_c1 : Fe (smallF 60833) 60833 := fe_small0 _ (by decide)
theorem fe_c2 : Fe (smallF 60832) 60832 := fe_small0 _ (by decide)
theorem fe_s0 : Fe (smallF 0) 0 := fe_small0 _ (by decide)
theorem fe_s1 : Fe (smallF 1) 1 := fe_small0 _ (by decide)
theorem fe_curve : Fe curveF dN := ((fe_c2.addF fe_c1).mulF (fe_inv (fe_c1.addF fe_c1))).negF
theorem toF_dN : toF dN = dE := by
  unfold dN invN dE
  rw [show (60832 + 60833 : Int) = 121665 by decide, show (60833 + 60833 : Int) = 121666 by decide, toF_neg, toF_mul, toF_inv]
def sA (f g u v : Nat → Int) : Nat → Int := mulF (subF g f) (subF v u)
def sB (f g u v : Nat → Int) : Nat → Int := mulF (addF g f) (addF v u)
def sC (e s d : Nat → Int) : Nat → Int := mulF (mulF e s) d
def sD (h r : Nat → Int) : Nat → Int := addF (mulF h r) (mulF h r)
/-- the limbs of a sum. -/
def sumX (f g h e u v r s d : Nat → Int) : Nat → Int := mulF (subF (sB f g u v) (sA f g u v)) (subF (sD h r) (sC e s d))
def sumY (f g h e u v r s d : Nat → Int) : Nat → Int := mulF (addF (sD h r) (sC e s d)) (addF (sB f g u v) (sA f g u v))
def sumZ (f g h e u v r s d : Nat → Int) : Nat → Int := mulF (subF (sD h r) (sC e s d)) (addF (sD h r) (sC e s d))
def sumT (f g h e u v r s d : Nat → Int) : Nat → Int := mulF (subF (sB f g u v) (sA f g u v)) (addF (sB f g u v) (sA f g u v))
theorem Fe4P.sum {f g h e u v r s d : Nat → Int} {X Y Z T U V W S D : Int} (hp : Fe4P f g h e X Y Z T) (hq : Fe4P u v r s U V W S) (hd : Fe d D) :
    Fe4P (sumX f g h e u v r s d) (sumY f g h e u v r s d) (sumZ f g h e u v r s d) (sumT f g h e u v r s d) (smE X Y U V * smF Z T W S D) (smG Z T W S D * smH X Y U V) (smF Z T W S D * smG Z T W S D) (smE X Y U V * smH X Y U V) := by
  obtain ⟨p1, p2, p3, p4⟩ := hp
  obtain ⟨q1, q2, q3, q4⟩ := hq
  have a := (p2.subF p1).mulF (q2.subF q1)
  have b := (p2.addF p1).mulF (q2.addF q1)
  have c := (p4.mulF q4).mulF hd
  have dd := (p3.mulF q3).addF (p3.mulF q3)
  exact ⟨(b.subF a).mulF (dd.subF c), (dd.addF c).mulF (b.addF a), (dd.subF c).mulF (dd.addF c), (b.subF a).mulF (b.addF a)⟩

set_option maxRecDepth 100000 in
set_option maxHeartbeats 6400000 in
theorem pnCurve_any (w : World) : Calls Tryz.prog 58 #[] w fun e w' => e = .returned (El curveF) ∧ Below w.heap.size w w' := by
  have HS : Hid (∀ n w, Calls Tryz.prog 52 #[.int .i64 n] w fun e w' => e = .returned (.agg (arr .i64 16 (smallF n))) ∧ Below w.heap.size w w') := fun n w => feSmall_any n w
  unfold El
  go_enter Tryz.func58, Tryz.ntmps58
  go_upto_region 1 with (fail)
  refine wp_world (fun w1 => Arr .i64 w1 w.heap.size 16 (fun _ => 0) ∧ Below w.heap.size w w1) ⟨Arr.newAt rfl (by rfl), (Below.refl _ _).alloc (Nat.le_refl _) _⟩ ?_
  rintro w1 ⟨hZ, hbel⟩
  refine region_vars (n := 14) (by kernel_rfl) (by kernel_rfl) (by kernel_rfl) rfl
    (isAl [(4, 2), (5, 3)]) (putOf [(4, 2), (5, 3)]) (fun _ => arr .i64 16 (fun _ => 0)) (fun i => match i with | 2 => (arr .i64 16 (smallF 60833)) | 3 => (arr .i64 16 (smallF 60832)) | _ => #[]) (fun _ => 53) (fun i => match i with | 2 => 1 | 3 => 2 | _ => 0)
    (fun ii vv _ => (match ii with | 0 => vv = .agg (arr .i64 16 (smallF 60833)) | 1 => vv = .agg (arr .i64 16 (smallF 60832)) | _ => True)) (fun _ _ => True) (fun _ _ _ => trivial) (fun _ _ _ _ _ _ _ => trivial) (fun _ _ _ _ h _ => h)
    (vs_al rfl) (vs_inj rfl) ?_ ?_ ?_ ?_
  · refine Each.all ?_
    refine ⟨?_, ?_, (fun h => by cases h), (fun h => by cases h), (fun _ h => by cases h), (fun _ h => by cases h), trivial⟩
    · intro _ _ a w2 hB hF hd
      rw [if_pos (wanted_none rfl)]
      refine flow_call _ _ _ rfl Tryz.call52 _ (args1 rfl) (by simp) ((feSmall_any 60833 w2).mono ?_)
      rintro e w3 ⟨rfl, hb⟩; exact ⟨_, rfl, rfl, hb⟩
    · intro _ _ a w2 hB hF hd
      rw [if_pos (wanted_none rfl)]
      refine flow_call _ _ _ rfl Tryz.call52 _ (args1 rfl) (by simp) ((feSmall_any 60832 w2).mono ?_)
      rintro e w3 ⟨rfl, hb⟩; exact ⟨_, rfl, rfl, hb⟩
  · refine Each.all ?_
    refine ⟨(fun h => by cases h), (fun h => by cases h), ?_, ?_, (fun h => by cases h), (fun h => by cases h), trivial⟩
    · exact fun _ => ⟨rfl, rfl, fun a w2 K h => flow_alloc rfl rfl Tryz.zeroValue53 (by simp) h⟩
    · exact fun _ => ⟨rfl, rfl, fun a w2 K h => flow_alloc rfl rfl Tryz.zeroValue53 (by simp) h⟩
  · refine Each.all ?_
    refine ⟨(fun _ h => by cases h), (fun _ h => by cases h), (fun _ h => by cases h), (fun _ h => by cases h), ?_, ?_, trivial⟩
    · intro p hp
      obtain rfl : 2 = p := Option.some.inj hp
      exact ⟨rfl, rfl, ⟨_, rfl⟩, waits_spec rfl, fun a w2 b K hB hF hd hx hb h => flow_put rfl rfl Tryz.size53 hx (hd 0 _ rfl rfl rfl (waits_spec rfl)) hb h⟩
    · intro p hp
      obtain rfl : 3 = p := Option.some.inj hp
      exact ⟨rfl, rfl, ⟨_, rfl⟩, waits_spec rfl, fun a w2 b K hB hF hd hx hb h => flow_put rfl rfl Tryz.size53 hx (hd 1 _ rfl rfl rfl (waits_spec rfl)) hb h⟩
  · intro a w2 blk hB hF hS hv hfin hdis
    obtain ⟨v2, v2l, v2u⟩ := hv 2 _ rfl rfl
    obtain ⟨v3, v3l, v3u⟩ := hv 3 _ rfl rfl
    have ha := puts_each rfl rfl hF [_, _, _, _, undef, undef] rfl ⟨hS 0 _ rfl rfl rfl, hS 1 _ rfl rfl rfl, v2, v3, trivial, trivial, trivial⟩
    have f2 := hfin 4 _ 2 rfl rfl
    have f3 := hfin 5 _ 3 rfl rfl
    have d2_3 := hdis 2 3 _ _ rfl rfl rfl rfl (by decide)
    simp only [puts, Act.put, List.setIfInBounds_toArray, List.set_cons_succ, List.set_cons_zero] at ha
    subst ha
    have V2 : Arr .i64 w2 (blk 2) 16 (smallF 60833) := ⟨_, f2⟩
    have V3 : Arr .i64 w2 (blk 3) 16 (smallF 60832) := ⟨_, f3⟩
    clear hS hv hfin hdis hF v2 v3 f2 f3
    have hz := hZ.lt
    replace hZ := hZ.kept hB
    replace hbel := hbel.trans (hB.mono hbel.size)
    obtain ⟨x, hx⟩ : ∃ x, x = blk 2 := ⟨_, rfl⟩
    obtain ⟨y, hy⟩ : ∃ x, x = blk 3 := ⟨_, rfl⟩
    rw [← hx] at V2 ⊢
    rw [← hy] at V3 ⊢
    have h1 := V2
    have h2 := V3
    clear hB V2 V3 hx hy
    go_upto_region 2 with (fail)
    refine region_lasts (n := 14) (fun i => i == 9) (by kernel_rfl) (by kernel_rfl) (by kernel_rfl) (by kernel_rfl) rfl
      (fun ii vv _ => (match ii with | 0 => vv = .agg (arr .i64 16 (smallF 60832)) | 1 | 3 | 4 => vv = .agg (arr .i64 16 (smallF 60833)) | 2 => vv = .agg (arr .i64 16 (addF (smallF 60832) (smallF 60833))) | 5 => vv = .agg (arr .i64 16 (addF (smallF 60833) (smallF 60833))) | 6 => vv = .agg (arr .i64 16 (invF (addF (smallF 60833) (smallF 60833)))) | 7 => vv = .agg (arr .i64 16 (mulF (addF (smallF 60832) (smallF 60833)) (invF (addF (smallF 60833) (smallF 60833))))) | 8 => vv = .agg (arr .i64 16 (negF (mulF (addF (smallF 60832) (smallF 60833)) (invF (addF (smallF 60833) (smallF 60833)))))) | _ => True))
      (fun w w' => Below w.heap.size w w') (fun _ _ h => h) (fun _ _ _ _ h _ => h)
      (fun _ => w.heap.size) (fun _ => (arr .i64 16 (fun _ => 0))) (fun _ => (arr .i64 16 (negF (mulF (addF (smallF 60832) (smallF 60833)) (invF (addF (smallF 60833) (smallF 60833)))))))
      (by intro i j _ _ hpi hpj hne; simp only [beq_iff_eq] at hpi hpj; omega)
      (by intro i _ hpi; exact (hZ).row)
      ?_ ?_ ?_
    · refine Each.all ?_
      refine ⟨?_, ?_, ?_, ?_, ?_, ?_, ?_, ?_, ?_, (fun h => absurd h (by decide)), trivial⟩
      · intro _ a w2 hB hF hd
        rw [if_pos (wanted_none rfl)]
        exact flow_val (fun h => by cases h) (run_load_str rfl Tryz.underlying53 rfl Tryz.size53 (hF.same 2 rfl) (h2.below hB h2.lt)) rfl
      · intro _ a w2 hB hF hd
        rw [if_pos (wanted_none rfl)]
        exact flow_val (fun h => by cases h) (run_load_str rfl Tryz.underlying53 rfl Tryz.size53 (hF.same 1 rfl) (h1.below hB h1.lt)) rfl
      · intro _ a w2 hB hF hd
        rw [if_pos (wanted_none rfl)]
        refine flow_call _ _ _ rfl Tryz.call59 _ (args2 (hd 0 _ rfl rfl (waits_spec rfl)) (hd 1 _ rfl rfl (waits_spec rfl))) (by simp) ((feAdd_any _ _ _ _ fe_c2 fe_c1 w2).mono ?_)
        rintro e w3 ⟨rfl, hb⟩; exact ⟨_, rfl, rfl, hb⟩
      · intro _ a w2 hB hF hd
        rw [if_pos (wanted_none rfl)]
        exact flow_val (fun h => by cases h) (run_load_str rfl Tryz.underlying53 rfl Tryz.size53 (hF.same 1 rfl) (h1.below hB h1.lt)) rfl
      · intro _ a w2 hB hF hd
        rw [if_pos (wanted_none rfl)]
        exact flow_val (fun h => by cases h) (run_load_str rfl Tryz.underlying53 rfl Tryz.size53 (hF.same 1 rfl) (h1.below hB h1.lt)) rfl
      · intro _ a w2 hB hF hd
        rw [if_pos (wanted_none rfl)]
        refine flow_call _ _ _ rfl Tryz.call59 _ (args2 (hd 3 _ rfl rfl (waits_spec rfl)) (hd 4 _ rfl rfl (waits_spec rfl))) (by simp) ((feAdd_any _ _ _ _ fe_c1 fe_c1 w2).mono ?_)
        rintro e w3 ⟨rfl, hb⟩; exact ⟨_, rfl, rfl, hb⟩
      · intro _ a w2 hB hF hd
        rw [if_pos (wanted_none rfl)]
        refine flow_call _ _ _ rfl Tryz.call54 _ (args1 (hd 5 _ rfl rfl (waits_spec rfl))) (by simp) ((feInverse_any _ _ ((fe_c1).addF fe_c1) w2).mono ?_)
        rintro e w3 ⟨rfl, hb⟩; exact ⟨_, rfl, rfl, hb⟩
      · intro _ a w2 hB hF hd
        rw [if_pos (wanted_none rfl)]
        refine flow_call _ _ _ rfl Tryz.call53 _ (args2 (hd 2 _ rfl rfl (waits_spec rfl)) (hd 6 _ rfl rfl (waits_spec rfl))) (by simp) ((feMul_any _ _ _ _ ((fe_c2).addF fe_c1) (fe_inv ((fe_c1).addF fe_c1)) w2).mono ?_)
        rintro e w3 ⟨rfl, hb⟩; exact ⟨_, rfl, rfl, hb⟩
      · intro _ a w2 hB hF hd
        rw [if_pos (wanted_none rfl)]
        refine flow_call _ _ _ rfl Tryz.call104 _ (args1 (hd 7 _ rfl rfl (waits_spec rfl))) (by simp) ((feNeg_any _ _ ((((fe_c2).addF fe_c1)).mulF (fe_inv ((fe_c1).addF fe_c1))) w2).mono ?_)
        rintro e w3 ⟨rfl, hb⟩; exact ⟨_, rfl, rfl, hb⟩
    · refine Each.all ?_
      refine ⟨(fun h => absurd h (by decide)), (fun h => absurd h (by decide)), (fun h => absurd h (by decide)), (fun h => absurd h (by decide)), (fun h => absurd h (by decide)), (fun h => absurd h (by decide)), (fun h => absurd h (by decide)), (fun h => absurd h (by decide)), (fun h => absurd h (by decide)), ?_, trivial⟩
      · intro _ a w1 w2 K hB hF hS hr hK
        exact wp_store_arr 53 _ _ rfl .i64 (w.heap.size) 16 (fun _ => 0) (negF (mulF (addF (smallF 60832) (smallF 60833)) (invF (addF (smallF 60833) (smallF 60833))))) Tryz.size53 (hF.same 0 rfl) (hS 8 _ rfl rfl ) hr hK
    · intro a wf w3 hB hF hS hfil
      have other : ∀ {k : IntKind} {qb n : Nat} {f : Nat → Int}, qb ≠ w.heap.size → Arr k wf qb n f → Arr k w3 qb n f := fun {k qb n f} e0 hA => hfil.arr (by intro i _ hpi; simp only [Bool.or_eq_true, beq_iff_eq] at hpi; subst hpi <;> ((try simp only []); (try dsimp only); omega)) hA
      have belowT : ∀ {B : Nat} {w0 : World}, B ≤ w.heap.size → Below B w0 wf → Below B w0 w3 := fun {B w0} e0 hA => hfil.below (by intro i _ hpi; simp only [Bool.or_eq_true, beq_iff_eq] at hpi; subst hpi <;> ((try simp only []); (try dsimp only); omega)) hA
      have V9 : Arr .i64 w3 (w.heap.size) 16 (negF (mulF (addF (smallF 60832) (smallF 60833)) (invF (addF (smallF 60833) (smallF 60833))))) := hfil.at 9 (by decide) rfl
      have hszf := hfil.size
      clear hfil
      have ha := puts_each rfl rfl hF [_, _, _, _, _, _, _, _, _, undef] rfl ⟨hS 0 _ rfl rfl, hS 1 _ rfl rfl, hS 2 _ rfl rfl, hS 3 _ rfl rfl, hS 4 _ rfl rfl, hS 5 _ rfl rfl, hS 6 _ rfl rfl, hS 7 _ rfl rfl, hS 8 _ rfl rfl, trivial, trivial⟩
      simp only [puts, Act.put, List.setIfInBounds_toArray, List.set_cons_succ, List.set_cons_zero] at ha
      subst ha
      clear hS hF
      have hb := belowT (Nat.le_refl _) (hbel.trans (hB.mono hbel.size))
      go_wp2
      exact bodyPost_ret (results_str rfl _ _ .i64 w.heap.size 16 _ rfl V9 Tryz.underlying53 rfl Tryz.size53) rfl ⟨rfl, hb⟩

set_option maxRecDepth 100000 in
set_option maxHeartbeats 6400000 in
theorem pnMade_any (f g : Nat → Int) (X Y : Int) (hf : Fe f X) (hg : Fe g Y) (w : World) : Calls Tryz.prog 56 #[El f, El g] w fun e w' => e = .returned (Pt f g (smallF 1) (mulF f g)) ∧ Below w.heap.size w w' := by
  have HF := Lib.hid hf
  have HG := Lib.hid hg
  clear hf hg
  unfold El Pt
  go_enter Tryz.func56, Tryz.ntmps56
  go_upto_region 1 with (fail)
  refine wp_world (fun w1 => Arr .i64 w1 w.heap.size 16 f ∧ Arr .i64 w1 (w.heap.size + 1) 16 g ∧ Arr .i64 w1 (w.heap.size + 2) 64 (fun _ => 0) ∧ Below w.heap.size w w1) ⟨.alloc (.alloc (Arr.newAt rfl rfl) _) _, .alloc (Arr.newAt (by first | omega | (simp <;> omega)) rfl) _, Arr.newAt (by first | omega | (simp <;> omega)) (by rfl), (((Below.refl _ _).alloc (Nat.le_refl _) _).alloc (by first | omega | (simp <;> omega)) _).alloc (by first | omega | (simp <;> omega)) _⟩ ?_
  rintro w1 ⟨hA, hC, hZ, hbel⟩
  refine region_lasts (n := 12) (fun i => i == 7) (by kernel_rfl) (by kernel_rfl) (by kernel_rfl) (by kernel_rfl) rfl
    (fun ii vv _ => (match ii with | 0 | 3 => vv = .agg (arr .i64 16 (f)) | 1 | 4 => vv = .agg (arr .i64 16 (g)) | 2 => vv = .agg (arr .i64 16 (smallF 1)) | 5 => vv = .agg (arr .i64 16 (mulF (f) (g))) | 6 => vv = .agg (arr .i64 64 (pt (f) (g) (smallF 1) (mulF (f) (g)))) | _ => True))
    (fun w w' => Below w.heap.size w w') (fun _ _ h => h) (fun _ _ _ _ h _ => h)
    (fun _ => (w.heap.size + 2)) (fun _ => (arr .i64 64 (fun _ => 0))) (fun _ => (arr .i64 64 (pt (f) (g) (smallF 1) (mulF (f) (g)))))
    (by intro i j _ _ hpi hpj hne; simp only [beq_iff_eq] at hpi hpj; omega)
    (by intro i _ hpi; exact (hZ).row)
    ?_ ?_ ?_
  · refine Each.all ?_
    refine ⟨?_, ?_, ?_, ?_, ?_, ?_, ?_, (fun h => absurd h (by decide)), trivial⟩
    · intro _ a w2 hB hF hd
      rw [if_pos (wanted_none rfl)]
      exact flow_val (fun h => by cases h) (run_load_str rfl Tryz.underlying53 rfl Tryz.size53 (hF.same 2 rfl) (hA.below hB hA.lt)) rfl
    · intro _ a w2 hB hF hd
      rw [if_pos (wanted_none rfl)]
      exact flow_val (fun h => by cases h) (run_load_str rfl Tryz.underlying53 rfl Tryz.size53 (hF.same 3 rfl) (hC.below hB hC.lt)) rfl
    · intro _ a w2 hB hF hd
      rw [if_pos (wanted_none rfl)]
      refine flow_call _ _ _ rfl Tryz.call52 _ (args1 rfl) (by simp) ((feSmall_any 1 w2).mono ?_)
      rintro e w3 ⟨rfl, hb⟩; exact ⟨_, rfl, rfl, hb⟩
    · intro _ a w2 hB hF hd
      rw [if_pos (wanted_none rfl)]
      exact flow_val (fun h => by cases h) (run_load_str rfl Tryz.underlying53 rfl Tryz.size53 (hF.same 2 rfl) (hA.below hB hA.lt)) rfl
    · intro _ a w2 hB hF hd
      rw [if_pos (wanted_none rfl)]
      exact flow_val (fun h => by cases h) (run_load_str rfl Tryz.underlying53 rfl Tryz.size53 (hF.same 3 rfl) (hC.below hB hC.lt)) rfl
    · intro _ a w2 hB hF hd
      rw [if_pos (wanted_none rfl)]
      refine flow_call _ _ _ rfl Tryz.call53 _ (args2 (hd 3 _ rfl rfl (waits_spec rfl)) (hd 4 _ rfl rfl (waits_spec rfl))) (by simp) ((feMul_any _ _ _ _ HF.out HG.out w2).mono ?_)
      rintro e w3 ⟨rfl, hb⟩; exact ⟨_, rfl, rfl, hb⟩
    · intro _ a w2 hB hF hd
      rw [if_pos (wanted_none rfl)]
      exact flow_val (fun h => by cases h) (run_built rfl (by simp only [List.map_toArray, List.map_cons, List.map_nil, show a.eval (Operand.tmp 5) = .agg (arr .i64 16 (f)) from (hd 0 _ rfl rfl (waits_spec rfl)), show a.eval (Operand.tmp 6) = .agg (arr .i64 16 (g)) from (hd 1 _ rfl rfl (waits_spec rfl)), show a.eval (Operand.tmp 7) = .agg (arr .i64 16 (smallF 1)) from (hd 2 _ rfl rfl (waits_spec rfl)), show a.eval (Operand.tmp 10) = .agg (arr .i64 16 (mulF (f) (g))) from (hd 5 _ rfl rfl (waits_spec rfl))]; exact build_pt _ _ _ _ _)) rfl
  · refine Each.all ?_
    refine ⟨(fun h => absurd h (by decide)), (fun h => absurd h (by decide)), (fun h => absurd h (by decide)), (fun h => absurd h (by decide)), (fun h => absurd h (by decide)), (fun h => absurd h (by decide)), (fun h => absurd h (by decide)), ?_, trivial⟩
    · intro _ a w1 w2 K hB hF hS hr hK
      exact wp_store_arr 55 _ _ rfl .i64 ((w.heap.size + 2)) 64 (fun _ => 0) (pt (f) (g) (smallF 1) (mulF (f) (g))) Tryz.size55 (hF.same 4 rfl) (hS 6 _ rfl rfl ) hr hK
  · intro a wf w3 hB hF hS hfil
    have other : ∀ {k : IntKind} {qb n : Nat} {f : Nat → Int}, qb ≠ (w.heap.size + 2) → Arr k wf qb n f → Arr k w3 qb n f := fun {k qb n f} e0 hA => hfil.arr (by intro i _ hpi; simp only [Bool.or_eq_true, beq_iff_eq] at hpi; subst hpi <;> ((try simp only []); (try dsimp only); omega)) hA
    have belowT : ∀ {B : Nat} {w0 : World}, B ≤ (w.heap.size + 2) → Below B w0 wf → Below B w0 w3 := fun {B w0} e0 hA => hfil.below (by intro i _ hpi; simp only [Bool.or_eq_true, beq_iff_eq] at hpi; subst hpi <;> ((try simp only []); (try dsimp only); omega)) hA
    have V7 : Arr .i64 w3 ((w.heap.size + 2)) 64 (pt (f) (g) (smallF 1) (mulF (f) (g))) := hfil.at 7 (by decide) rfl
    have hszf := hfil.size
    clear hfil
    have ha := puts_each rfl rfl hF [_, _, _, _, _, _, _, undef] rfl ⟨hS 0 _ rfl rfl, hS 1 _ rfl rfl, hS 2 _ rfl rfl, hS 3 _ rfl rfl, hS 4 _ rfl rfl, hS 5 _ rfl rfl, hS 6 _ rfl rfl, trivial, trivial⟩
    simp only [puts, Act.put, List.setIfInBounds_toArray, List.set_cons_succ, List.set_cons_zero] at ha
    subst ha
    clear hS hF
    have hb := belowT (by omega) (hbel.trans (hB.mono hbel.size))
    go_wp2
    exact bodyPost_ret (results_str rfl _ _ .i64 (w.heap.size + 2) 64 _ rfl V7 Tryz.underlying55 rfl Tryz.size55) rfl ⟨rfl, hb⟩

set_option maxRecDepth 100000 in
set_option maxHeartbeats 6400000 in
theorem pnNought_any (w : World) : Calls Tryz.prog 60 #[] w fun e w' => e = .returned (Pt (smallF 0) (smallF 1) (smallF 1) (mulF (smallF 0) (smallF 1))) ∧ Below w.heap.size w w' := by
  unfold Pt
  go_enter Tryz.func60, Tryz.ntmps60
  go_upto_region 1 with (fail)
  refine wp_world (fun w1 => Arr .i64 w1 w.heap.size 64 (fun _ => 0) ∧ Below w.heap.size w w1) ⟨Arr.newAt rfl (by rfl), (Below.refl _ _).alloc (Nat.le_refl _) _⟩ ?_
  rintro w1 ⟨hZ, hbel⟩
  refine region_lasts (n := 4) (fun i => i == 3) (by kernel_rfl) (by kernel_rfl) (by kernel_rfl) (by kernel_rfl) rfl
    (fun ii vv _ => (match ii with | 0 => vv = .agg (arr .i64 16 (smallF 0)) | 1 => vv = .agg (arr .i64 16 (smallF 1)) | 2 => vv = .agg (arr .i64 64 (pt (smallF 0) (smallF 1) (smallF 1) (mulF (smallF 0) (smallF 1)))) | _ => True))
    (fun w w' => Below w.heap.size w w') (fun _ _ h => h) (fun _ _ _ _ h _ => h)
    (fun _ => w.heap.size) (fun _ => (arr .i64 64 (fun _ => 0))) (fun _ => (arr .i64 64 (pt (smallF 0) (smallF 1) (smallF 1) (mulF (smallF 0) (smallF 1)))))
    (by intro i j _ _ hpi hpj hne; simp only [beq_iff_eq] at hpi hpj; omega)
    (by intro i _ hpi; exact (hZ).row)
    ?_ ?_ ?_
  · refine Each.all ?_
    refine ⟨?_, ?_, ?_, (fun h => absurd h (by decide)), trivial⟩
    · intro _ a w2 hB hF hd
      rw [if_pos (wanted_none rfl)]
      refine flow_call _ _ _ rfl Tryz.call52 _ (args1 rfl) (by simp) ((feSmall_any 0 w2).mono ?_)
      rintro e w3 ⟨rfl, hb⟩; exact ⟨_, rfl, rfl, hb⟩
    · intro _ a w2 hB hF hd
      rw [if_pos (wanted_none rfl)]
      refine flow_call _ _ _ rfl Tryz.call52 _ (args1 rfl) (by simp) ((feSmall_any 1 w2).mono ?_)
      rintro e w3 ⟨rfl, hb⟩; exact ⟨_, rfl, rfl, hb⟩
    · intro _ a w2 hB hF hd
      rw [if_pos (wanted_none rfl)]
      refine flow_call _ _ _ rfl Tryz.call56 _ (args2 (hd 0 _ rfl rfl (waits_spec rfl)) (hd 1 _ rfl rfl (waits_spec rfl))) (by simp) ((pnMade_any _ _ _ _ fe_s0 fe_s1 w2).mono ?_)
      rintro e w3 ⟨rfl, hb⟩; exact ⟨_, rfl, rfl, hb⟩
  · refine Each.all ?_
    refine ⟨(fun h => absurd h (by decide)), (fun h => absurd h (by decide)), (fun h => absurd h (by decide)), ?_, trivial⟩
    · intro _ a w1 w2 K hB hF hS hr hK
      exact wp_store_arr 55 _ _ rfl .i64 (w.heap.size) 64 (fun _ => 0) (pt (smallF 0) (smallF 1) (smallF 1) (mulF (smallF 0) (smallF 1))) Tryz.size55 (hF.same 0 rfl) (hS 2 _ rfl rfl ) hr hK
  · intro a wf w3 hB hF hS hfil
    have other : ∀ {k : IntKind} {qb n : Nat} {f : Nat → Int}, qb ≠ w.heap.size → Arr k wf qb n f → Arr k w3 qb n f := fun {k qb n f} e0 hA => hfil.arr (by intro i _ hpi; simp only [Bool.or_eq_true, beq_iff_eq] at hpi; subst hpi <;> ((try simp only []); (try dsimp only); omega)) hA
    have belowT : ∀ {B : Nat} {w0 : World}, B ≤ w.heap.size → Below B w0 wf → Below B w0 w3 := fun {B w0} e0 hA => hfil.below (by intro i _ hpi; simp only [Bool.or_eq_true, beq_iff_eq] at hpi; subst hpi <;> ((try simp only []); (try dsimp only); omega)) hA
    have V3 : Arr .i64 w3 (w.heap.size) 64 (pt (smallF 0) (smallF 1) (smallF 1) (mulF (smallF 0) (smallF 1))) := hfil.at 3 (by decide) rfl
    have hszf := hfil.size
    clear hfil
    have ha := puts_each rfl rfl hF [_, _, _, undef] rfl ⟨hS 0 _ rfl rfl, hS 1 _ rfl rfl, hS 2 _ rfl rfl, trivial, trivial⟩
    simp only [puts, Act.put, List.setIfInBounds_toArray, List.set_cons_succ, List.set_cons_zero] at ha
    subst ha
    clear hS hF
    have hb := belowT (Nat.le_refl _) (hbel.trans (hB.mono hbel.size))
    go_wp2
    exact bodyPost_ret (results_str rfl _ _ .i64 w.heap.size 64 _ rfl V3 Tryz.underlying55 rfl Tryz.size55) rfl ⟨rfl, hb⟩

set_option maxRecDepth 100000 in
set_option maxHeartbeats 6400000 in
theorem pnNeg_any (f g h e : Nat → Int) (X Y Z T : Int) (hp : Fe4P f g h e X Y Z T) (w : World) : Calls Tryz.prog 50 #[Pt f g h e] w fun e_ w' => e_ = .returned (Pt (negF f) g h (negF e)) ∧ Below w.heap.size w w' := by
  have HP := Lib.hid hp
  clear hp
  unfold Pt
  go_enter Tryz.func50, Tryz.ntmps50
  go_upto_region 1 with (fail)
  refine wp_world (fun w1 => Arr .i64 w1 w.heap.size 64 (pt f g h e) ∧ Arr .i64 w1 (w.heap.size + 1) 64 (fun _ => 0) ∧ Below w.heap.size w w1) ⟨.alloc (Arr.newAt rfl rfl) _, Arr.newAt (by first | omega | (simp <;> omega)) (by rfl), ((Below.refl _ _).alloc (Nat.le_refl _) _).alloc (by first | omega | (simp <;> omega)) _⟩ ?_
  rintro w1 ⟨hA, hZ, hbel⟩
  refine region_lasts (n := 14) (fun i => i == 11) (by kernel_rfl) (by kernel_rfl) (by kernel_rfl) (by kernel_rfl) rfl
    (fun ii vv _ => (match ii with | 0 => vv = .pointer (some ⟨w.heap.size, 0, none⟩) | 1 => vv = .agg (arr .i64 16 (f)) | 2 => vv = .agg (arr .i64 16 (negF (f))) | 3 => vv = .pointer (some ⟨w.heap.size, 16, none⟩) | 4 => vv = .agg (arr .i64 16 (g)) | 5 => vv = .pointer (some ⟨w.heap.size, 32, none⟩) | 6 => vv = .agg (arr .i64 16 (h)) | 7 => vv = .pointer (some ⟨w.heap.size, 48, none⟩) | 8 => vv = .agg (arr .i64 16 (e)) | 9 => vv = .agg (arr .i64 16 (negF (e))) | 10 => vv = .agg (arr .i64 64 (pt (negF (f)) (g) (h) (negF (e)))) | _ => True))
    (fun w w' => Below w.heap.size w w') (fun _ _ h => h) (fun _ _ _ _ h _ => h)
    (fun _ => (w.heap.size + 1)) (fun _ => (arr .i64 64 (fun _ => 0))) (fun _ => (arr .i64 64 (pt (negF (f)) (g) (h) (negF (e)))))
    (by intro i j _ _ hpi hpj hne; simp only [beq_iff_eq] at hpi hpj; omega)
    (by intro i _ hpi; exact (hZ).row)
    ?_ ?_ ?_
  · refine Each.all ?_
    refine ⟨?_, ?_, ?_, ?_, ?_, ?_, ?_, ?_, ?_, ?_, ?_, (fun h => absurd h (by decide)), trivial⟩
    · intro _ a w2 hB hF hd
      rw [if_pos (wanted_none rfl)]
      refine flow_val (fun h => by cases h) (run_field_at (m := 15) (k := 0) rfl (hF.same 1 rfl) (by kernel_rfl)) ?_
      exact rfl
    · intro _ a w2 hB hF hd
      rw [if_pos (wanted_none rfl)]
      exact flow_val (fun h => by cases h) (run_load_mid rfl (hd 0 _ rfl rfl (waits_spec rfl)) Tryz.underlying53 rfl Tryz.size53 (fun i hi => (hB.cell (p := ⟨w.heap.size, 0 + i, none⟩) hA.lt).trans (ptc0 hA i hi))) rfl
    · intro _ a w2 hB hF hd
      rw [if_pos (wanted_none rfl)]
      refine flow_call _ _ _ rfl Tryz.call104 _ (args1 (hd 1 _ rfl rfl (waits_spec rfl))) (by simp) ((feNeg_any _ _ HP.out.1 w2).mono ?_)
      rintro e w3 ⟨rfl, hb⟩; exact ⟨_, rfl, rfl, hb⟩
    · intro _ a w2 hB hF hd
      rw [if_pos (wanted_none rfl)]
      refine flow_val (fun h => by cases h) (run_field_at (m := 15) (k := 16) rfl (hF.same 1 rfl) (by kernel_rfl)) ?_
      exact rfl
    · intro _ a w2 hB hF hd
      rw [if_pos (wanted_none rfl)]
      exact flow_val (fun h => by cases h) (run_load_mid rfl (hd 3 _ rfl rfl (waits_spec rfl)) Tryz.underlying53 rfl Tryz.size53 (fun i hi => (hB.cell (p := ⟨w.heap.size, 16 + i, none⟩) hA.lt).trans (ptc1 hA i hi))) rfl
    · intro _ a w2 hB hF hd
      rw [if_pos (wanted_none rfl)]
      refine flow_val (fun h => by cases h) (run_field_at (m := 15) (k := 32) rfl (hF.same 1 rfl) (by kernel_rfl)) ?_
      exact rfl
    · intro _ a w2 hB hF hd
      rw [if_pos (wanted_none rfl)]
      exact flow_val (fun h => by cases h) (run_load_mid rfl (hd 5 _ rfl rfl (waits_spec rfl)) Tryz.underlying53 rfl Tryz.size53 (fun i hi => (hB.cell (p := ⟨w.heap.size, 32 + i, none⟩) hA.lt).trans (ptc2 hA i hi))) rfl
    · intro _ a w2 hB hF hd
      rw [if_pos (wanted_none rfl)]
      refine flow_val (fun h => by cases h) (run_field_at (m := 15) (k := 48) rfl (hF.same 1 rfl) (by kernel_rfl)) ?_
      exact rfl
    · intro _ a w2 hB hF hd
      rw [if_pos (wanted_none rfl)]
      exact flow_val (fun h => by cases h) (run_load_mid rfl (hd 7 _ rfl rfl (waits_spec rfl)) Tryz.underlying53 rfl Tryz.size53 (fun i hi => (hB.cell (p := ⟨w.heap.size, 48 + i, none⟩) hA.lt).trans (ptc3 hA i hi))) rfl
    · intro _ a w2 hB hF hd
      rw [if_pos (wanted_none rfl)]
      refine flow_call _ _ _ rfl Tryz.call104 _ (args1 (hd 8 _ rfl rfl (waits_spec rfl))) (by simp) ((feNeg_any _ _ HP.out.2.2.2 w2).mono ?_)
      rintro e w3 ⟨rfl, hb⟩; exact ⟨_, rfl, rfl, hb⟩
    · intro _ a w2 hB hF hd
      rw [if_pos (wanted_none rfl)]
      exact flow_val (fun h => by cases h) (run_built rfl (by simp only [List.map_toArray, List.map_cons, List.map_nil, show a.eval (Operand.tmp 5) = .agg (arr .i64 16 (negF (f))) from (hd 2 _ rfl rfl (waits_spec rfl)), show a.eval (Operand.tmp 7) = .agg (arr .i64 16 (g)) from (hd 4 _ rfl rfl (waits_spec rfl)), show a.eval (Operand.tmp 9) = .agg (arr .i64 16 (h)) from (hd 6 _ rfl rfl (waits_spec rfl)), show a.eval (Operand.tmp 12) = .agg (arr .i64 16 (negF (e))) from (hd 9 _ rfl rfl (waits_spec rfl))]; exact build_pt _ _ _ _ _)) rfl
  · refine Each.all ?_
    refine ⟨(fun h => absurd h (by decide)), (fun h => absurd h (by decide)), (fun h => absurd h (by decide)), (fun h => absurd h (by decide)), (fun h => absurd h (by decide)), (fun h => absurd h (by decide)), (fun h => absurd h (by decide)), (fun h => absurd h (by decide)), (fun h => absurd h (by decide)), (fun h => absurd h (by decide)), (fun h => absurd h (by decide)), ?_, trivial⟩
    · intro _ a w1 w2 K hB hF hS hr hK
      exact wp_store_arr 55 _ _ rfl .i64 ((w.heap.size + 1)) 64 (fun _ => 0) (pt (negF (f)) (g) (h) (negF (e))) Tryz.size55 (hF.same 2 rfl) (hS 10 _ rfl rfl ) hr hK
  · intro a wf w3 hB hF hS hfil
    have other : ∀ {k : IntKind} {qb n : Nat} {f : Nat → Int}, qb ≠ (w.heap.size + 1) → Arr k wf qb n f → Arr k w3 qb n f := fun {k qb n f} e0 hA => hfil.arr (by intro i _ hpi; simp only [Bool.or_eq_true, beq_iff_eq] at hpi; subst hpi <;> ((try simp only []); (try dsimp only); omega)) hA
    have belowT : ∀ {B : Nat} {w0 : World}, B ≤ (w.heap.size + 1) → Below B w0 wf → Below B w0 w3 := fun {B w0} e0 hA => hfil.below (by intro i _ hpi; simp only [Bool.or_eq_true, beq_iff_eq] at hpi; subst hpi <;> ((try simp only []); (try dsimp only); omega)) hA
    have V11 : Arr .i64 w3 ((w.heap.size + 1)) 64 (pt (negF (f)) (g) (h) (negF (e))) := hfil.at 11 (by decide) rfl
    have hszf := hfil.size
    clear hfil
    have ha := puts_each rfl rfl hF [_, _, _, _, _, _, _, _, _, _, _, undef] rfl ⟨hS 0 _ rfl rfl, hS 1 _ rfl rfl, hS 2 _ rfl rfl, hS 3 _ rfl rfl, hS 4 _ rfl rfl, hS 5 _ rfl rfl, hS 6 _ rfl rfl, hS 7 _ rfl rfl, hS 8 _ rfl rfl, hS 9 _ rfl rfl, hS 10 _ rfl rfl, trivial, trivial⟩
    simp only [puts, Act.put, List.setIfInBounds_toArray, List.set_cons_succ, List.set_cons_zero] at ha
    subst ha
    clear hS hF
    have hb := belowT (by omega) (hbel.trans (hB.mono hbel.size))
    go_wp2
    exact bodyPost_ret (results_str rfl _ _ .i64 (w.heap.size + 1) 64 _ rfl V11 Tryz.underlying55 rfl Tryz.size55) rfl ⟨rfl, hb⟩

set_option maxRecDepth 100000 in
set_option maxHeartbeats 6400000 in
theorem pnSum_any (f g h e u v r s d : Nat → Int) (X Y Z T U V W S D : Int) (hp : Fe4P f g h e X Y Z T) (hq : Fe4P u v r s U V W S) (hd : Fe d D) (w : World) :
    Calls Tryz.prog 62 #[Pt f g h e, Pt u v r s, El d] w fun e_ w' => e_ = .returned (Pt (sumX f g h e u v r s d) (sumY f g h e u v r s d) (sumZ f g h e u v r s d) (sumT f g h e u v r s d)) ∧ Below w.heap.size w w' := by
  have HP := Lib.hid hp
  have HQ := Lib.hid hq
  have HD := Lib.hid hd
  clear hp hq hd
  unfold Pt El
  go_enter Tryz.func62, Tryz.ntmps62
  go_upto_region 1 with (fail)
  refine wp_world (fun w1 => Arr .i64 w1 w.heap.size 64 (pt f g h e) ∧ Arr .i64 w1 (w.heap.size + 1) 64 (pt u v r s) ∧ Arr .i64 w1 (w.heap.size + 2) 16 d ∧ Arr .i64 w1 (w.heap.size + 3) 64 (fun _ => 0) ∧ Below w.heap.size w w1)
    ⟨.alloc (.alloc (.alloc (Arr.newAt rfl rfl) _) _) _, .alloc (.alloc (Arr.newAt (by first | omega | (simp <;> omega)) rfl) _) _, .alloc (Arr.newAt (by first | omega | (simp <;> omega)) rfl) _, Arr.newAt (by first | omega | (simp <;> omega)) (by rfl), ((((Below.refl _ _).alloc (Nat.le_refl _) _).alloc (by first | omega | (simp <;> omega)) _).alloc (by first | omega | (simp <;> omega)) _).alloc (by first | omega | (simp <;> omega)) _⟩ ?_
  rintro w1 ⟨hA, hC, hE, hZ, hbel⟩
  have hsz : w.heap.size + 4 ≤ w1.heap.size := by have := hZ.lt; omega
  refine region_vars (n := 77) (by kernel_rfl) (by kernel_rfl) (by kernel_rfl) rfl
    (isAl [(12, 11)]) (putOf [(12, 11)]) (fun _ => arr .i64 16 (fun _ => 0)) (fun _ => (arr .i64 16 (mulF (subF (g) (f)) (subF (v) (u))))) (fun _ => 53) (fun _ => 7)
    (fun ii vv _ => (match ii with | 0 => vv = .pointer (some ⟨w.heap.size, 16, none⟩) | 1 => vv = .agg (arr .i64 16 (g)) | 2 => vv = .pointer (some ⟨w.heap.size, 0, none⟩) | 3 => vv = .agg (arr .i64 16 (f)) | 4 => vv = .agg (arr .i64 16 (subF (g) (f))) | 5 => vv = .pointer (some ⟨(w.heap.size + 1), 16, none⟩) | 6 => vv = .agg (arr .i64 16 (v)) | 7 => vv = .pointer (some ⟨(w.heap.size + 1), 0, none⟩) | 8 => vv = .agg (arr .i64 16 (u)) | 9 => vv = .agg (arr .i64 16 (subF (v) (u))) | 10 => vv = .agg (arr .i64 16 (mulF (subF (g) (f)) (subF (v) (u)))) | _ => True)) (fun _ _ => True) (fun _ _ _ => trivial) (fun _ _ _ _ _ _ _ => trivial) (fun _ _ _ _ h _ => h)
    (vs_al rfl) (vs_inj rfl) ?_ ?_ ?_ ?_
  · refine Each.all ?_
    refine ⟨?_, ?_, ?_, ?_, ?_, ?_, ?_, ?_, ?_, ?_, ?_, (fun h => by cases h), (fun _ h => by cases h), trivial⟩
    · intro _ _ a w2 hB hF hd
      rw [if_pos (wanted_none rfl)]
      refine flow_val (fun h => by cases h) (run_field_at (m := 15) (k := 16) rfl (hF.same 3 rfl) (by kernel_rfl)) ?_
      exact rfl
    · intro _ _ a w2 hB hF hd
      rw [if_pos (wanted_none rfl)]
      exact flow_val (fun h => by cases h) (run_load_mid rfl (hd 0 _ rfl rfl rfl (waits_spec rfl)) Tryz.underlying53 rfl Tryz.size53 (fun i hi => (hB.cell (p := ⟨w.heap.size, 16 + i, none⟩) hA.lt).trans (ptc1 hA i hi))) rfl
    · intro _ _ a w2 hB hF hd
      rw [if_pos (wanted_none rfl)]
      refine flow_val (fun h => by cases h) (run_field_at (m := 15) (k := 0) rfl (hF.same 3 rfl) (by kernel_rfl)) ?_
      exact rfl
    · intro _ _ a w2 hB hF hd
      rw [if_pos (wanted_none rfl)]
      exact flow_val (fun h => by cases h) (run_load_mid rfl (hd 2 _ rfl rfl rfl (waits_spec rfl)) Tryz.underlying53 rfl Tryz.size53 (fun i hi => (hB.cell (p := ⟨w.heap.size, 0 + i, none⟩) hA.lt).trans (ptc0 hA i hi))) rfl
    · intro _ _ a w2 hB hF hd
      rw [if_pos (wanted_none rfl)]
      refine flow_call _ _ _ rfl Tryz.call113 _ (args2 (hd 1 _ rfl rfl rfl (waits_spec rfl)) (hd 3 _ rfl rfl rfl (waits_spec rfl))) (by simp) ((feSub_any _ _ _ _ HP.out.2.1 HP.out.1 w2).mono ?_)
      rintro e w3 ⟨rfl, hb⟩; exact ⟨_, rfl, rfl, hb⟩
    · intro _ _ a w2 hB hF hd
      rw [if_pos (wanted_none rfl)]
      refine flow_val (fun h => by cases h) (run_field_at (m := 15) (k := 16) rfl (hF.same 4 rfl) (by kernel_rfl)) ?_
      exact rfl
    · intro _ _ a w2 hB hF hd
      rw [if_pos (wanted_none rfl)]
      exact flow_val (fun h => by cases h) (run_load_mid rfl (hd 5 _ rfl rfl rfl (waits_spec rfl)) Tryz.underlying53 rfl Tryz.size53 (fun i hi => (hB.cell (p := ⟨(w.heap.size + 1), 16 + i, none⟩) hC.lt).trans (ptc1 hC i hi))) rfl
    · intro _ _ a w2 hB hF hd
      rw [if_pos (wanted_none rfl)]
      refine flow_val (fun h => by cases h) (run_field_at (m := 15) (k := 0) rfl (hF.same 4 rfl) (by kernel_rfl)) ?_
      exact rfl
    · intro _ _ a w2 hB hF hd
      rw [if_pos (wanted_none rfl)]
      exact flow_val (fun h => by cases h) (run_load_mid rfl (hd 7 _ rfl rfl rfl (waits_spec rfl)) Tryz.underlying53 rfl Tryz.size53 (fun i hi => (hB.cell (p := ⟨(w.heap.size + 1), 0 + i, none⟩) hC.lt).trans (ptc0 hC i hi))) rfl
    · intro _ _ a w2 hB hF hd
      rw [if_pos (wanted_none rfl)]
      refine flow_call _ _ _ rfl Tryz.call113 _ (args2 (hd 6 _ rfl rfl rfl (waits_spec rfl)) (hd 8 _ rfl rfl rfl (waits_spec rfl))) (by simp) ((feSub_any _ _ _ _ HQ.out.2.1 HQ.out.1 w2).mono ?_)
      rintro e w3 ⟨rfl, hb⟩; exact ⟨_, rfl, rfl, hb⟩
    · intro _ _ a w2 hB hF hd
      rw [if_pos (wanted_none rfl)]
      refine flow_call _ _ _ rfl Tryz.call53 _ (args2 (hd 4 _ rfl rfl rfl (waits_spec rfl)) (hd 9 _ rfl rfl rfl (waits_spec rfl))) (by simp) ((feMul_any _ _ _ _ ((HP.out.2.1).subF HP.out.1) ((HQ.out.2.1).subF HQ.out.1) w2).mono ?_)
      rintro e w3 ⟨rfl, hb⟩; exact ⟨_, rfl, rfl, hb⟩
  · refine Each.all ?_
    refine ⟨(fun h => by cases h), (fun h => by cases h), (fun h => by cases h), (fun h => by cases h), (fun h => by cases h), (fun h => by cases h), (fun h => by cases h), (fun h => by cases h), (fun h => by cases h), (fun h => by cases h), (fun h => by cases h), ?_, (fun h => by cases h), trivial⟩
    · exact fun _ => ⟨rfl, rfl, fun a w2 K h => flow_alloc rfl rfl Tryz.zeroValue53 (by simp) h⟩
  · refine Each.all ?_
    refine ⟨(fun _ h => by cases h), (fun _ h => by cases h), (fun _ h => by cases h), (fun _ h => by cases h), (fun _ h => by cases h), (fun _ h => by cases h), (fun _ h => by cases h), (fun _ h => by cases h), (fun _ h => by cases h), (fun _ h => by cases h), (fun _ h => by cases h), (fun _ h => by cases h), ?_, trivial⟩
    · intro p hp
      obtain rfl : 11 = p := Option.some.inj hp
      exact ⟨rfl, rfl, ⟨_, rfl⟩, waits_spec rfl, fun a w2 b K hB hF hd hx hb h => flow_put rfl rfl Tryz.size53 hx (hd 10 _ rfl rfl rfl (waits_spec rfl)) hb h⟩
  · intro a w2 blk hB hF hS hv hfin hdis
    obtain ⟨v11, v11l, v11u⟩ := hv 11 _ rfl rfl
    have ha := puts_each rfl rfl hF [_, _, _, _, _, _, _, _, _, _, _, _, undef] rfl ⟨hS 0 _ rfl rfl rfl, hS 1 _ rfl rfl rfl, hS 2 _ rfl rfl rfl, hS 3 _ rfl rfl rfl, hS 4 _ rfl rfl rfl, hS 5 _ rfl rfl rfl, hS 6 _ rfl rfl rfl, hS 7 _ rfl rfl rfl, hS 8 _ rfl rfl rfl, hS 9 _ rfl rfl rfl, hS 10 _ rfl rfl rfl, v11, trivial, trivial⟩
    have f11 := hfin 12 _ 11 rfl rfl
    simp only [puts, Act.put, List.setIfInBounds_toArray, List.set_cons_succ, List.set_cons_zero] at ha
    subst ha
    have V11 : Arr .i64 w2 (blk 11) 16 (mulF (subF (g) (f)) (subF (v) (u))) := ⟨_, f11⟩
    clear hS hv hfin hdis hF v11 f11
    replace hA := hA.kept hB
    replace hC := hC.kept hB
    replace hE := hE.kept hB
    replace hZ := hZ.kept hB
    obtain ⟨baa, hbaa⟩ : ∃ x, x = blk 11 := ⟨_, rfl⟩
    obtain ⟨aa, haa, Xaa, Haa⟩ : ∃ x, x = mulF (subF g f) (subF v u) ∧ ∃ N, Hid (Fe x N) := ⟨_, rfl, _, (HP.out.2.1.subF HP.out.1).mulF (HQ.out.2.1.subF HQ.out.1)⟩
    rw [← haa, ← hbaa] at V11
    rw [← hbaa] at v11l ⊢
    have laa : w.heap.size + 4 ≤ baa := Nat.le_trans hsz v11l
    have Kaa := Lib.hid haa
    replace hbel := hbel.trans (hB.mono hbel.size)
    replace hsz := Nat.le_trans hsz hB.size
    clear hB haa hbaa
    have hvaa := V11
    clear V11 v11l v11u
    go_upto_region 2 with (fail)
    refine region_vars (n := 77) (by kernel_rfl) (by kernel_rfl) (by kernel_rfl) rfl
      (isAl [(12, 11)]) (putOf [(12, 11)]) (fun _ => arr .i64 16 (fun _ => 0)) (fun _ => (arr .i64 16 (mulF (addF (g) (f)) (addF (v) (u))))) (fun _ => 53) (fun _ => 8)
      (fun ii vv _ => (match ii with | 0 => vv = .pointer (some ⟨w.heap.size, 16, none⟩) | 1 => vv = .agg (arr .i64 16 (g)) | 2 => vv = .pointer (some ⟨w.heap.size, 0, none⟩) | 3 => vv = .agg (arr .i64 16 (f)) | 4 => vv = .agg (arr .i64 16 (addF (g) (f))) | 5 => vv = .pointer (some ⟨(w.heap.size + 1), 16, none⟩) | 6 => vv = .agg (arr .i64 16 (v)) | 7 => vv = .pointer (some ⟨(w.heap.size + 1), 0, none⟩) | 8 => vv = .agg (arr .i64 16 (u)) | 9 => vv = .agg (arr .i64 16 (addF (v) (u))) | 10 => vv = .agg (arr .i64 16 (mulF (addF (g) (f)) (addF (v) (u)))) | _ => True)) (fun _ _ => True) (fun _ _ _ => trivial) (fun _ _ _ _ _ _ _ => trivial) (fun _ _ _ _ h _ => h)
      (vs_al rfl) (vs_inj rfl) ?_ ?_ ?_ ?_
    · refine Each.all ?_
      refine ⟨?_, ?_, ?_, ?_, ?_, ?_, ?_, ?_, ?_, ?_, ?_, (fun h => by cases h), (fun _ h => by cases h), trivial⟩
      · intro _ _ a w2 hB hF hd
        rw [if_pos (wanted_none rfl)]
        refine flow_val (fun h => by cases h) (run_field_at (m := 15) (k := 16) rfl (hF.same 3 rfl) (by kernel_rfl)) ?_
        exact rfl
      · intro _ _ a w2 hB hF hd
        rw [if_pos (wanted_none rfl)]
        exact flow_val (fun h => by cases h) (run_load_mid rfl (hd 0 _ rfl rfl rfl (waits_spec rfl)) Tryz.underlying53 rfl Tryz.size53 (fun i hi => (hB.cell (p := ⟨w.heap.size, 16 + i, none⟩) hA.lt).trans (ptc1 hA i hi))) rfl
      · intro _ _ a w2 hB hF hd
        rw [if_pos (wanted_none rfl)]
        refine flow_val (fun h => by cases h) (run_field_at (m := 15) (k := 0) rfl (hF.same 3 rfl) (by kernel_rfl)) ?_
        exact rfl
      · intro _ _ a w2 hB hF hd
        rw [if_pos (wanted_none rfl)]
        exact flow_val (fun h => by cases h) (run_load_mid rfl (hd 2 _ rfl rfl rfl (waits_spec rfl)) Tryz.underlying53 rfl Tryz.size53 (fun i hi => (hB.cell (p := ⟨w.heap.size, 0 + i, none⟩) hA.lt).trans (ptc0 hA i hi))) rfl
      · intro _ _ a w2 hB hF hd
        rw [if_pos (wanted_none rfl)]
        refine flow_call _ _ _ rfl Tryz.call59 _ (args2 (hd 1 _ rfl rfl rfl (waits_spec rfl)) (hd 3 _ rfl rfl rfl (waits_spec rfl))) (by simp) ((feAdd_any _ _ _ _ HP.out.2.1 HP.out.1 w2).mono ?_)
        rintro e w3 ⟨rfl, hb⟩; exact ⟨_, rfl, rfl, hb⟩
      · intro _ _ a w2 hB hF hd
        rw [if_pos (wanted_none rfl)]
        refine flow_val (fun h => by cases h) (run_field_at (m := 15) (k := 16) rfl (hF.same 4 rfl) (by kernel_rfl)) ?_
        exact rfl
      · intro _ _ a w2 hB hF hd
        rw [if_pos (wanted_none rfl)]
        exact flow_val (fun h => by cases h) (run_load_mid rfl (hd 5 _ rfl rfl rfl (waits_spec rfl)) Tryz.underlying53 rfl Tryz.size53 (fun i hi => (hB.cell (p := ⟨(w.heap.size + 1), 16 + i, none⟩) hC.lt).trans (ptc1 hC i hi))) rfl
      · intro _ _ a w2 hB hF hd
        rw [if_pos (wanted_none rfl)]
        refine flow_val (fun h => by cases h) (run_field_at (m := 15) (k := 0) rfl (hF.same 4 rfl) (by kernel_rfl)) ?_
        exact rfl
      · intro _ _ a w2 hB hF hd
        rw [if_pos (wanted_none rfl)]
        exact flow_val (fun h => by cases h) (run_load_mid rfl (hd 7 _ rfl rfl rfl (waits_spec rfl)) Tryz.underlying53 rfl Tryz.size53 (fun i hi => (hB.cell (p := ⟨(w.heap.size + 1), 0 + i, none⟩) hC.lt).trans (ptc0 hC i hi))) rfl
      · intro _ _ a w2 hB hF hd
        rw [if_pos (wanted_none rfl)]
        refine flow_call _ _ _ rfl Tryz.call59 _ (args2 (hd 6 _ rfl rfl rfl (waits_spec rfl)) (hd 8 _ rfl rfl rfl (waits_spec rfl))) (by simp) ((feAdd_any _ _ _ _ HQ.out.2.1 HQ.out.1 w2).mono ?_)
        rintro e w3 ⟨rfl, hb⟩; exact ⟨_, rfl, rfl, hb⟩
      · intro _ _ a w2 hB hF hd
        rw [if_pos (wanted_none rfl)]
        refine flow_call _ _ _ rfl Tryz.call53 _ (args2 (hd 4 _ rfl rfl rfl (waits_spec rfl)) (hd 9 _ rfl rfl rfl (waits_spec rfl))) (by simp) ((feMul_any _ _ _ _ ((HP.out.2.1).addF HP.out.1) ((HQ.out.2.1).addF HQ.out.1) w2).mono ?_)
        rintro e w3 ⟨rfl, hb⟩; exact ⟨_, rfl, rfl, hb⟩
    · refine Each.all ?_
      refine ⟨(fun h => by cases h), (fun h => by cases h), (fun h => by cases h), (fun h => by cases h), (fun h => by cases h), (fun h => by cases h), (fun h => by cases h), (fun h => by cases h), (fun h => by cases h), (fun h => by cases h), (fun h => by cases h), ?_, (fun h => by cases h), trivial⟩
      · exact fun _ => ⟨rfl, rfl, fun a w2 K h => flow_alloc rfl rfl Tryz.zeroValue53 (by simp) h⟩
    · refine Each.all ?_
      refine ⟨(fun _ h => by cases h), (fun _ h => by cases h), (fun _ h => by cases h), (fun _ h => by cases h), (fun _ h => by cases h), (fun _ h => by cases h), (fun _ h => by cases h), (fun _ h => by cases h), (fun _ h => by cases h), (fun _ h => by cases h), (fun _ h => by cases h), (fun _ h => by cases h), ?_, trivial⟩
      · intro p hp
        obtain rfl : 11 = p := Option.some.inj hp
        exact ⟨rfl, rfl, ⟨_, rfl⟩, waits_spec rfl, fun a w2 b K hB hF hd hx hb h => flow_put rfl rfl Tryz.size53 hx (hd 10 _ rfl rfl rfl (waits_spec rfl)) hb h⟩
    · intro a w3 blk hB hF hS hv hfin hdis
      obtain ⟨v11, v11l, v11u⟩ := hv 11 _ rfl rfl
      have ha := puts_each rfl rfl hF [_, _, _, _, _, _, _, _, _, _, _, _, undef] rfl ⟨hS 0 _ rfl rfl rfl, hS 1 _ rfl rfl rfl, hS 2 _ rfl rfl rfl, hS 3 _ rfl rfl rfl, hS 4 _ rfl rfl rfl, hS 5 _ rfl rfl rfl, hS 6 _ rfl rfl rfl, hS 7 _ rfl rfl rfl, hS 8 _ rfl rfl rfl, hS 9 _ rfl rfl rfl, hS 10 _ rfl rfl rfl, v11, trivial, trivial⟩
      have f11 := hfin 12 _ 11 rfl rfl
      simp only [puts, Act.put, List.setIfInBounds_toArray, List.set_cons_succ, List.set_cons_zero] at ha
      subst ha
      have V11 : Arr .i64 w3 (blk 11) 16 (mulF (addF (g) (f)) (addF (v) (u))) := ⟨_, f11⟩
      clear hS hv hfin hdis hF v11 f11
      replace hA := hA.kept hB
      replace hC := hC.kept hB
      replace hE := hE.kept hB
      replace hZ := hZ.kept hB
      replace hvaa := hvaa.kept hB
      obtain ⟨bbb, hbbb⟩ : ∃ x, x = blk 11 := ⟨_, rfl⟩
      obtain ⟨bb, hbb, Xbb, Hbb⟩ : ∃ x, x = mulF (addF g f) (addF v u) ∧ ∃ N, Hid (Fe x N) := ⟨_, rfl, _, (HP.out.2.1.addF HP.out.1).mulF (HQ.out.2.1.addF HQ.out.1)⟩
      rw [← hbb, ← hbbb] at V11
      rw [← hbbb] at v11l ⊢
      have lbb : w.heap.size + 4 ≤ bbb := Nat.le_trans hsz v11l
      have Kbb := Lib.hid hbb
      replace hbel := hbel.trans (hB.mono hbel.size)
      replace hsz := Nat.le_trans hsz hB.size
      clear hB hbb hbbb
      have hvbb := V11
      clear V11 v11l v11u
      go_upto_region 3 with (fail)
      refine region_vars (n := 77) (by kernel_rfl) (by kernel_rfl) (by kernel_rfl) rfl
        (isAl [(8, 7)]) (putOf [(8, 7)]) (fun _ => arr .i64 16 (fun _ => 0)) (fun _ => (arr .i64 16 (mulF (mulF (e) (s)) (d)))) (fun _ => 53) (fun _ => 9)
        (fun ii vv _ => (match ii with | 0 => vv = .pointer (some ⟨w.heap.size, 48, none⟩) | 1 => vv = .agg (arr .i64 16 (e)) | 2 => vv = .pointer (some ⟨(w.heap.size + 1), 48, none⟩) | 3 => vv = .agg (arr .i64 16 (s)) | 4 => vv = .agg (arr .i64 16 (mulF (e) (s))) | 5 => vv = .agg (arr .i64 16 (d)) | 6 => vv = .agg (arr .i64 16 (mulF (mulF (e) (s)) (d))) | _ => True)) (fun _ _ => True) (fun _ _ _ => trivial) (fun _ _ _ _ _ _ _ => trivial) (fun _ _ _ _ h _ => h)
        (vs_al rfl) (vs_inj rfl) ?_ ?_ ?_ ?_
      · refine Each.all ?_
        refine ⟨?_, ?_, ?_, ?_, ?_, ?_, ?_, (fun h => by cases h), (fun _ h => by cases h), trivial⟩
        · intro _ _ a w2 hB hF hd
          rw [if_pos (wanted_none rfl)]
          refine flow_val (fun h => by cases h) (run_field_at (m := 15) (k := 48) rfl (hF.same 3 rfl) (by kernel_rfl)) ?_
          exact rfl
        · intro _ _ a w2 hB hF hd
          rw [if_pos (wanted_none rfl)]
          exact flow_val (fun h => by cases h) (run_load_mid rfl (hd 0 _ rfl rfl rfl (waits_spec rfl)) Tryz.underlying53 rfl Tryz.size53 (fun i hi => (hB.cell (p := ⟨w.heap.size, 48 + i, none⟩) hA.lt).trans (ptc3 hA i hi))) rfl
        · intro _ _ a w2 hB hF hd
          rw [if_pos (wanted_none rfl)]
          refine flow_val (fun h => by cases h) (run_field_at (m := 15) (k := 48) rfl (hF.same 4 rfl) (by kernel_rfl)) ?_
          exact rfl
        · intro _ _ a w2 hB hF hd
          rw [if_pos (wanted_none rfl)]
          exact flow_val (fun h => by cases h) (run_load_mid rfl (hd 2 _ rfl rfl rfl (waits_spec rfl)) Tryz.underlying53 rfl Tryz.size53 (fun i hi => (hB.cell (p := ⟨(w.heap.size + 1), 48 + i, none⟩) hC.lt).trans (ptc3 hC i hi))) rfl
        · intro _ _ a w2 hB hF hd
          rw [if_pos (wanted_none rfl)]
          refine flow_call _ _ _ rfl Tryz.call53 _ (args2 (hd 1 _ rfl rfl rfl (waits_spec rfl)) (hd 3 _ rfl rfl rfl (waits_spec rfl))) (by simp) ((feMul_any _ _ _ _ HP.out.2.2.2 HQ.out.2.2.2 w2).mono ?_)
          rintro e w3 ⟨rfl, hb⟩; exact ⟨_, rfl, rfl, hb⟩
        · intro _ _ a w2 hB hF hd
          rw [if_pos (wanted_none rfl)]
          exact flow_val (fun h => by cases h) (run_load_str rfl Tryz.underlying53 rfl Tryz.size53 (hF.same 5 rfl) (hE.below hB hE.lt)) rfl
        · intro _ _ a w2 hB hF hd
          rw [if_pos (wanted_none rfl)]
          refine flow_call _ _ _ rfl Tryz.call53 _ (args2 (hd 4 _ rfl rfl rfl (waits_spec rfl)) (hd 5 _ rfl rfl rfl (waits_spec rfl))) (by simp) ((feMul_any _ _ _ _ ((HP.out.2.2.2).mulF HQ.out.2.2.2) HD.out w2).mono ?_)
          rintro e w3 ⟨rfl, hb⟩; exact ⟨_, rfl, rfl, hb⟩
      · refine Each.all ?_
        refine ⟨(fun h => by cases h), (fun h => by cases h), (fun h => by cases h), (fun h => by cases h), (fun h => by cases h), (fun h => by cases h), (fun h => by cases h), ?_, (fun h => by cases h), trivial⟩
        · exact fun _ => ⟨rfl, rfl, fun a w2 K h => flow_alloc rfl rfl Tryz.zeroValue53 (by simp) h⟩
      · refine Each.all ?_
        refine ⟨(fun _ h => by cases h), (fun _ h => by cases h), (fun _ h => by cases h), (fun _ h => by cases h), (fun _ h => by cases h), (fun _ h => by cases h), (fun _ h => by cases h), (fun _ h => by cases h), ?_, trivial⟩
        · intro p hp
          obtain rfl : 7 = p := Option.some.inj hp
          exact ⟨rfl, rfl, ⟨_, rfl⟩, waits_spec rfl, fun a w2 b K hB hF hd hx hb h => flow_put rfl rfl Tryz.size53 hx (hd 6 _ rfl rfl rfl (waits_spec rfl)) hb h⟩
      · intro a w4 blk hB hF hS hv hfin hdis
        obtain ⟨v7, v7l, v7u⟩ := hv 7 _ rfl rfl
        have ha := puts_each rfl rfl hF [_, _, _, _, _, _, _, _, undef] rfl ⟨hS 0 _ rfl rfl rfl, hS 1 _ rfl rfl rfl, hS 2 _ rfl rfl rfl, hS 3 _ rfl rfl rfl, hS 4 _ rfl rfl rfl, hS 5 _ rfl rfl rfl, hS 6 _ rfl rfl rfl, v7, trivial, trivial⟩
        have f7 := hfin 8 _ 7 rfl rfl
        simp only [puts, Act.put, List.setIfInBounds_toArray, List.set_cons_succ, List.set_cons_zero] at ha
        subst ha
        have V7 : Arr .i64 w4 (blk 7) 16 (mulF (mulF (e) (s)) (d)) := ⟨_, f7⟩
        clear hS hv hfin hdis hF v7 f7
        replace hA := hA.kept hB
        replace hC := hC.kept hB
        replace hE := hE.kept hB
        replace hZ := hZ.kept hB
        replace hvaa := hvaa.kept hB
        replace hvbb := hvbb.kept hB
        obtain ⟨bcc, hbcc⟩ : ∃ x, x = blk 7 := ⟨_, rfl⟩
        obtain ⟨cc, hcc, Xcc, Hcc⟩ : ∃ x, x = mulF (mulF e s) d ∧ ∃ N, Hid (Fe x N) := ⟨_, rfl, _, (HP.out.2.2.2.mulF HQ.out.2.2.2).mulF HD.out⟩
        rw [← hcc, ← hbcc] at V7
        rw [← hbcc] at v7l ⊢
        have lcc : w.heap.size + 4 ≤ bcc := Nat.le_trans hsz v7l
        have Kcc := Lib.hid hcc
        replace hbel := hbel.trans (hB.mono hbel.size)
        replace hsz := Nat.le_trans hsz hB.size
        clear hB hcc hbcc
        have hvcc := V7
        clear V7 v7l v7u
        go_upto_region 4 with (fail)
        refine region_vars (n := 77) (by kernel_rfl) (by kernel_rfl) (by kernel_rfl) rfl
          (isAl [(6, 5)]) (putOf [(6, 5)]) (fun _ => arr .i64 16 (fun _ => 0)) (fun _ => (arr .i64 16 (mulF (h) (r)))) (fun _ => 53) (fun _ => 10)
          (fun ii vv _ => (match ii with | 0 => vv = .pointer (some ⟨w.heap.size, 32, none⟩) | 1 => vv = .agg (arr .i64 16 (h)) | 2 => vv = .pointer (some ⟨(w.heap.size + 1), 32, none⟩) | 3 => vv = .agg (arr .i64 16 (r)) | 4 => vv = .agg (arr .i64 16 (mulF (h) (r))) | _ => True)) (fun _ _ => True) (fun _ _ _ => trivial) (fun _ _ _ _ _ _ _ => trivial) (fun _ _ _ _ h _ => h)
          (vs_al rfl) (vs_inj rfl) ?_ ?_ ?_ ?_
        · refine Each.all ?_
          refine ⟨?_, ?_, ?_, ?_, ?_, (fun h => by cases h), (fun _ h => by cases h), trivial⟩
          · intro _ _ a w2 hB hF hd
            rw [if_pos (wanted_none rfl)]
            refine flow_val (fun h => by cases h) (run_field_at (m := 15) (k := 32) rfl (hF.same 3 rfl) (by kernel_rfl)) ?_
            exact rfl
          · intro _ _ a w2 hB hF hd
            rw [if_pos (wanted_none rfl)]
            exact flow_val (fun h => by cases h) (run_load_mid rfl (hd 0 _ rfl rfl rfl (waits_spec rfl)) Tryz.underlying53 rfl Tryz.size53 (fun i hi => (hB.cell (p := ⟨w.heap.size, 32 + i, none⟩) hA.lt).trans (ptc2 hA i hi))) rfl
          · intro _ _ a w2 hB hF hd
            rw [if_pos (wanted_none rfl)]
            refine flow_val (fun h => by cases h) (run_field_at (m := 15) (k := 32) rfl (hF.same 4 rfl) (by kernel_rfl)) ?_
            exact rfl
          · intro _ _ a w2 hB hF hd
            rw [if_pos (wanted_none rfl)]
            exact flow_val (fun h => by cases h) (run_load_mid rfl (hd 2 _ rfl rfl rfl (waits_spec rfl)) Tryz.underlying53 rfl Tryz.size53 (fun i hi => (hB.cell (p := ⟨(w.heap.size + 1), 32 + i, none⟩) hC.lt).trans (ptc2 hC i hi))) rfl
          · intro _ _ a w2 hB hF hd
            rw [if_pos (wanted_none rfl)]
            refine flow_call _ _ _ rfl Tryz.call53 _ (args2 (hd 1 _ rfl rfl rfl (waits_spec rfl)) (hd 3 _ rfl rfl rfl (waits_spec rfl))) (by simp) ((feMul_any _ _ _ _ HP.out.2.2.1 HQ.out.2.2.1 w2).mono ?_)
            rintro e w3 ⟨rfl, hb⟩; exact ⟨_, rfl, rfl, hb⟩
        · refine Each.all ?_
          refine ⟨(fun h => by cases h), (fun h => by cases h), (fun h => by cases h), (fun h => by cases h), (fun h => by cases h), ?_, (fun h => by cases h), trivial⟩
          · exact fun _ => ⟨rfl, rfl, fun a w2 K h => flow_alloc rfl rfl Tryz.zeroValue53 (by simp) h⟩
        · refine Each.all ?_
          refine ⟨(fun _ h => by cases h), (fun _ h => by cases h), (fun _ h => by cases h), (fun _ h => by cases h), (fun _ h => by cases h), (fun _ h => by cases h), ?_, trivial⟩
          · intro p hp
            obtain rfl : 5 = p := Option.some.inj hp
            exact ⟨rfl, rfl, ⟨_, rfl⟩, waits_spec rfl, fun a w2 b K hB hF hd hx hb h => flow_put rfl rfl Tryz.size53 hx (hd 4 _ rfl rfl rfl (waits_spec rfl)) hb h⟩
        · intro a w5 blk hB hF hS hv hfin hdis
          obtain ⟨v5, v5l, v5u⟩ := hv 5 _ rfl rfl
          have ha := puts_each rfl rfl hF [_, _, _, _, _, _, undef] rfl ⟨hS 0 _ rfl rfl rfl, hS 1 _ rfl rfl rfl, hS 2 _ rfl rfl rfl, hS 3 _ rfl rfl rfl, hS 4 _ rfl rfl rfl, v5, trivial, trivial⟩
          have f5 := hfin 6 _ 5 rfl rfl
          simp only [puts, Act.put, List.setIfInBounds_toArray, List.set_cons_succ, List.set_cons_zero] at ha
          subst ha
          have V5 : Arr .i64 w5 (blk 5) 16 (mulF (h) (r)) := ⟨_, f5⟩
          clear hS hv hfin hdis hF v5 f5
          have qhvaa := hvaa.lt
          have qhvbb := hvbb.lt
          have qhvcc := hvcc.lt
          replace hA := hA.kept hB
          replace hC := hC.kept hB
          replace hE := hE.kept hB
          replace hZ := hZ.kept hB
          replace hvaa := hvaa.kept hB
          replace hvbb := hvbb.kept hB
          replace hvcc := hvcc.kept hB
          obtain ⟨bdd, hbdd⟩ : ∃ x, x = blk 5 := ⟨_, rfl⟩
          obtain ⟨dd, hdd, Xdd, Hdd⟩ : ∃ x, x = mulF h r ∧ ∃ N, Hid (Fe x N) := ⟨_, rfl, _, HP.out.2.2.1.mulF HQ.out.2.2.1⟩
          rw [← hdd, ← hbdd] at V5
          rw [← hbdd] at v5l ⊢
          have ldd : w.heap.size + 4 ≤ bdd := Nat.le_trans hsz v5l
          have Kdd := Lib.hid hdd
          have zaa : baa < bdd := Nat.lt_of_lt_of_le qhvaa v5l
          have zbb : bbb < bdd := Nat.lt_of_lt_of_le qhvbb v5l
          have zcc : bcc < bdd := Nat.lt_of_lt_of_le qhvcc v5l
          clear qhvaa qhvbb qhvcc
          replace hbel := hbel.trans (hB.mono hbel.size)
          replace hsz := Nat.le_trans hsz hB.size
          clear hB hdd hbdd
          have hvdd := V5
          clear V5 v5l v5u
          go_upto_region 5 with (fail)
          refine region_lasts (n := 77) (fun i => i == 3) (by kernel_rfl) (by kernel_rfl) (by kernel_rfl) (by kernel_rfl) rfl
            (fun ii vv _ => (match ii with | 0 | 1 => vv = .agg (arr .i64 16 (dd)) | 2 => vv = .agg (arr .i64 16 (addF (dd) (dd))) | _ => True))
            (fun w w' => Below w.heap.size w w') (fun _ _ h => h) (fun _ _ _ _ h _ => h)
            (fun _ => bdd) (fun _ => (arr .i64 16 (dd))) (fun _ => (arr .i64 16 (addF (dd) (dd))))
            (by intro i j _ _ hpi hpj hne; simp only [beq_iff_eq] at hpi hpj; omega)
            (by intro i _ hpi; exact (hvdd).row)
            ?_ ?_ ?_
          · refine Each.all ?_
            refine ⟨?_, ?_, ?_, (fun h => absurd h (by decide)), trivial⟩
            · intro _ a w2 hB hF hd
              rw [if_pos (wanted_none rfl)]
              exact flow_val (fun h => by cases h) (run_load_str rfl Tryz.underlying53 rfl Tryz.size53 (hF.same 10 rfl) (hvdd.below hB hvdd.lt)) rfl
            · intro _ a w2 hB hF hd
              rw [if_pos (wanted_none rfl)]
              exact flow_val (fun h => by cases h) (run_load_str rfl Tryz.underlying53 rfl Tryz.size53 (hF.same 10 rfl) (hvdd.below hB hvdd.lt)) rfl
            · intro _ a w2 hB hF hd
              rw [if_pos (wanted_none rfl)]
              refine flow_call _ _ _ rfl Tryz.call59 _ (args2 (hd 0 _ rfl rfl (waits_spec rfl)) (hd 1 _ rfl rfl (waits_spec rfl))) (by simp) ((feAdd_any _ _ _ _ Hdd.out Hdd.out w2).mono ?_)
              rintro e w3 ⟨rfl, hb⟩; exact ⟨_, rfl, rfl, hb⟩
          · refine Each.all ?_
            refine ⟨(fun h => absurd h (by decide)), (fun h => absurd h (by decide)), (fun h => absurd h (by decide)), ?_, trivial⟩
            · intro _ a w1 w2 K hB hF hS hr hK
              exact wp_store_arr 53 _ _ rfl .i64 (bdd) 16 (dd) (addF (dd) (dd)) Tryz.size53 (hF.same 10 rfl) (hS 2 _ rfl rfl ) hr hK
          · intro a wf w6 hB hF hS hfil
            have other : ∀ {k : IntKind} {qb n : Nat} {f : Nat → Int}, qb ≠ bdd → Arr k wf qb n f → Arr k w6 qb n f := fun {k qb n f} e0 hA => hfil.arr (by intro i _ hpi; simp only [Bool.or_eq_true, beq_iff_eq] at hpi; subst hpi <;> ((try simp only []); (try dsimp only); omega)) hA
            have belowT : ∀ {B : Nat} {w0 : World}, B ≤ bdd → Below B w0 wf → Below B w0 w6 := fun {B w0} e0 hA => hfil.below (by intro i _ hpi; simp only [Bool.or_eq_true, beq_iff_eq] at hpi; subst hpi <;> ((try simp only []); (try dsimp only); omega)) hA
            have V3 : Arr .i64 w6 (bdd) 16 (addF (dd) (dd)) := hfil.at 3 (by decide) rfl
            have hszf := hfil.size
            clear hfil
            have ha := puts_each rfl rfl hF [_, _, _, undef] rfl ⟨hS 0 _ rfl rfl, hS 1 _ rfl rfl, hS 2 _ rfl rfl, trivial, trivial⟩
            simp only [puts, Act.put, List.setIfInBounds_toArray, List.set_cons_succ, List.set_cons_zero] at ha
            subst ha
            clear hS hF
            replace hA := other (by omega) (hA.kept hB)
            replace hC := other (by omega) (hC.kept hB)
            replace hE := other (by omega) (hE.kept hB)
            replace hZ := other (by omega) (hZ.kept hB)
            replace hvaa := other (by omega) (hvaa.kept hB)
            replace hvbb := other (by omega) (hvbb.kept hB)
            replace hvcc := other (by omega) (hvcc.kept hB)
            replace hbel := belowT (by omega) (hbel.trans (hB.mono hbel.size))
            obtain ⟨d2, hd2, Xd2, Hd2⟩ : ∃ x, x = addF dd dd ∧ ∃ N, Hid (Fe x N) := ⟨_, rfl, _, Hdd.out.addF Hdd.out⟩
            rw [← hd2] at V3
            have Kd2 := Lib.hid hd2
            have hvd2 := V3
            replace hsz : w.heap.size + 4 ≤ w6.heap.size := by have := hZ.lt; omega
            clear hB other belowT hszf hvdd V3 hd2
            go_upto_region 6 with (fail)
            refine region_vars (n := 77) (by kernel_rfl) (by kernel_rfl) (by kernel_rfl) rfl
              (isAl [(16, 12), (17, 13), (18, 14), (19, 15)]) (putOf [(16, 12), (17, 13), (18, 14), (19, 15)]) (fun _ => arr .i64 16 (fun _ => 0)) (fun i => match i with | 12 => (arr .i64 16 (subF (bb) (aa))) | 13 => (arr .i64 16 (subF (d2) (cc))) | 14 => (arr .i64 16 (addF (d2) (cc))) | 15 => (arr .i64 16 (addF (bb) (aa))) | _ => #[]) (fun _ => 53) (fun i => match i with | 12 => 11 | 13 => 12 | 14 => 13 | 15 => 14 | _ => 0)
              (fun ii vv _ => (match ii with | 0 | 9 => vv = .agg (arr .i64 16 (bb)) | 1 | 10 => vv = .agg (arr .i64 16 (aa)) | 2 => vv = .agg (arr .i64 16 (subF (bb) (aa))) | 3 | 6 => vv = .agg (arr .i64 16 (d2)) | 4 | 7 => vv = .agg (arr .i64 16 (cc)) | 5 => vv = .agg (arr .i64 16 (subF (d2) (cc))) | 8 => vv = .agg (arr .i64 16 (addF (d2) (cc))) | 11 => vv = .agg (arr .i64 16 (addF (bb) (aa))) | _ => True)) (fun _ _ => True) (fun _ _ _ => trivial) (fun _ _ _ _ _ _ _ => trivial) (fun _ _ _ _ h _ => h)
              (vs_al rfl) (vs_inj rfl) ?_ ?_ ?_ ?_
            · refine Each.all ?_
              refine ⟨?_, ?_, ?_, ?_, ?_, ?_, ?_, ?_, ?_, ?_, ?_, ?_, (fun h => by cases h), (fun h => by cases h), (fun h => by cases h), (fun h => by cases h), (fun _ h => by cases h), (fun _ h => by cases h), (fun _ h => by cases h), (fun _ h => by cases h), trivial⟩
              · intro _ _ a w2 hB hF hd
                rw [if_pos (wanted_none rfl)]
                exact flow_val (fun h => by cases h) (run_load_str rfl Tryz.underlying53 rfl Tryz.size53 (hF.same 8 rfl) (hvbb.below hB hvbb.lt)) rfl
              · intro _ _ a w2 hB hF hd
                rw [if_pos (wanted_none rfl)]
                exact flow_val (fun h => by cases h) (run_load_str rfl Tryz.underlying53 rfl Tryz.size53 (hF.same 7 rfl) (hvaa.below hB hvaa.lt)) rfl
              · intro _ _ a w2 hB hF hd
                rw [if_pos (wanted_none rfl)]
                refine flow_call _ _ _ rfl Tryz.call113 _ (args2 (hd 0 _ rfl rfl rfl (waits_spec rfl)) (hd 1 _ rfl rfl rfl (waits_spec rfl))) (by simp) ((feSub_any _ _ _ _ Hbb.out Haa.out w2).mono ?_)
                rintro e w3 ⟨rfl, hb⟩; exact ⟨_, rfl, rfl, hb⟩
              · intro _ _ a w2 hB hF hd
                rw [if_pos (wanted_none rfl)]
                exact flow_val (fun h => by cases h) (run_load_str rfl Tryz.underlying53 rfl Tryz.size53 (hF.same 10 rfl) (hvd2.below hB hvd2.lt)) rfl
              · intro _ _ a w2 hB hF hd
                rw [if_pos (wanted_none rfl)]
                exact flow_val (fun h => by cases h) (run_load_str rfl Tryz.underlying53 rfl Tryz.size53 (hF.same 9 rfl) (hvcc.below hB hvcc.lt)) rfl
              · intro _ _ a w2 hB hF hd
                rw [if_pos (wanted_none rfl)]
                refine flow_call _ _ _ rfl Tryz.call113 _ (args2 (hd 3 _ rfl rfl rfl (waits_spec rfl)) (hd 4 _ rfl rfl rfl (waits_spec rfl))) (by simp) ((feSub_any _ _ _ _ Hd2.out Hcc.out w2).mono ?_)
                rintro e w3 ⟨rfl, hb⟩; exact ⟨_, rfl, rfl, hb⟩
              · intro _ _ a w2 hB hF hd
                rw [if_pos (wanted_none rfl)]
                exact flow_val (fun h => by cases h) (run_load_str rfl Tryz.underlying53 rfl Tryz.size53 (hF.same 10 rfl) (hvd2.below hB hvd2.lt)) rfl
              · intro _ _ a w2 hB hF hd
                rw [if_pos (wanted_none rfl)]
                exact flow_val (fun h => by cases h) (run_load_str rfl Tryz.underlying53 rfl Tryz.size53 (hF.same 9 rfl) (hvcc.below hB hvcc.lt)) rfl
              · intro _ _ a w2 hB hF hd
                rw [if_pos (wanted_none rfl)]
                refine flow_call _ _ _ rfl Tryz.call59 _ (args2 (hd 6 _ rfl rfl rfl (waits_spec rfl)) (hd 7 _ rfl rfl rfl (waits_spec rfl))) (by simp) ((feAdd_any _ _ _ _ Hd2.out Hcc.out w2).mono ?_)
                rintro e w3 ⟨rfl, hb⟩; exact ⟨_, rfl, rfl, hb⟩
              · intro _ _ a w2 hB hF hd
                rw [if_pos (wanted_none rfl)]
                exact flow_val (fun h => by cases h) (run_load_str rfl Tryz.underlying53 rfl Tryz.size53 (hF.same 8 rfl) (hvbb.below hB hvbb.lt)) rfl
              · intro _ _ a w2 hB hF hd
                rw [if_pos (wanted_none rfl)]
                exact flow_val (fun h => by cases h) (run_load_str rfl Tryz.underlying53 rfl Tryz.size53 (hF.same 7 rfl) (hvaa.below hB hvaa.lt)) rfl
              · intro _ _ a w2 hB hF hd
                rw [if_pos (wanted_none rfl)]
                refine flow_call _ _ _ rfl Tryz.call59 _ (args2 (hd 9 _ rfl rfl rfl (waits_spec rfl)) (hd 10 _ rfl rfl rfl (waits_spec rfl))) (by simp) ((feAdd_any _ _ _ _ Hbb.out Haa.out w2).mono ?_)
                rintro e w3 ⟨rfl, hb⟩; exact ⟨_, rfl, rfl, hb⟩
            · refine Each.all ?_
              refine ⟨(fun h => by cases h), (fun h => by cases h), (fun h => by cases h), (fun h => by cases h), (fun h => by cases h), (fun h => by cases h), (fun h => by cases h), (fun h => by cases h), (fun h => by cases h), (fun h => by cases h), (fun h => by cases h), (fun h => by cases h), ?_, ?_, ?_, ?_, (fun h => by cases h), (fun h => by cases h), (fun h => by cases h), (fun h => by cases h), trivial⟩
              · exact fun _ => ⟨rfl, rfl, fun a w2 K h => flow_alloc rfl rfl Tryz.zeroValue53 (by simp) h⟩
              · exact fun _ => ⟨rfl, rfl, fun a w2 K h => flow_alloc rfl rfl Tryz.zeroValue53 (by simp) h⟩
              · exact fun _ => ⟨rfl, rfl, fun a w2 K h => flow_alloc rfl rfl Tryz.zeroValue53 (by simp) h⟩
              · exact fun _ => ⟨rfl, rfl, fun a w2 K h => flow_alloc rfl rfl Tryz.zeroValue53 (by simp) h⟩
            · refine Each.all ?_
              refine ⟨(fun _ h => by cases h), (fun _ h => by cases h), (fun _ h => by cases h), (fun _ h => by cases h), (fun _ h => by cases h), (fun _ h => by cases h), (fun _ h => by cases h), (fun _ h => by cases h), (fun _ h => by cases h), (fun _ h => by cases h), (fun _ h => by cases h), (fun _ h => by cases h), (fun _ h => by cases h), (fun _ h => by cases h), (fun _ h => by cases h), (fun _ h => by cases h), ?_, ?_, ?_, ?_, trivial⟩
              · intro p hp
                obtain rfl : 12 = p := Option.some.inj hp
                exact ⟨rfl, rfl, ⟨_, rfl⟩, waits_spec rfl, fun a w2 b K hB hF hd hx hb h => flow_put rfl rfl Tryz.size53 hx (hd 2 _ rfl rfl rfl (waits_spec rfl)) hb h⟩
              · intro p hp
                obtain rfl : 13 = p := Option.some.inj hp
                exact ⟨rfl, rfl, ⟨_, rfl⟩, waits_spec rfl, fun a w2 b K hB hF hd hx hb h => flow_put rfl rfl Tryz.size53 hx (hd 5 _ rfl rfl rfl (waits_spec rfl)) hb h⟩
              · intro p hp
                obtain rfl : 14 = p := Option.some.inj hp
                exact ⟨rfl, rfl, ⟨_, rfl⟩, waits_spec rfl, fun a w2 b K hB hF hd hx hb h => flow_put rfl rfl Tryz.size53 hx (hd 8 _ rfl rfl rfl (waits_spec rfl)) hb h⟩
              · intro p hp
                obtain rfl : 15 = p := Option.some.inj hp
                exact ⟨rfl, rfl, ⟨_, rfl⟩, waits_spec rfl, fun a w2 b K hB hF hd hx hb h => flow_put rfl rfl Tryz.size53 hx (hd 11 _ rfl rfl rfl (waits_spec rfl)) hb h⟩
            · intro a w7 blk hB hF hS hv hfin hdis
              obtain ⟨v12, v12l, v12u⟩ := hv 12 _ rfl rfl
              obtain ⟨v13, v13l, v13u⟩ := hv 13 _ rfl rfl
              obtain ⟨v14, v14l, v14u⟩ := hv 14 _ rfl rfl
              obtain ⟨v15, v15l, v15u⟩ := hv 15 _ rfl rfl
              have ha := puts_each rfl rfl hF [_, _, _, _, _, _, _, _, _, _, _, _, _, _, _, _, undef, undef, undef, undef] rfl ⟨hS 0 _ rfl rfl rfl, hS 1 _ rfl rfl rfl, hS 2 _ rfl rfl rfl, hS 3 _ rfl rfl rfl, hS 4 _ rfl rfl rfl, hS 5 _ rfl rfl rfl, hS 6 _ rfl rfl rfl, hS 7 _ rfl rfl rfl, hS 8 _ rfl rfl rfl, hS 9 _ rfl rfl rfl, hS 10 _ rfl rfl rfl, hS 11 _ rfl rfl rfl, v12, v13, v14, v15, trivial, trivial, trivial, trivial, trivial⟩
              have f12 := hfin 16 _ 12 rfl rfl
              have f13 := hfin 17 _ 13 rfl rfl
              have f14 := hfin 18 _ 14 rfl rfl
              have f15 := hfin 19 _ 15 rfl rfl
              have d12_13 := hdis 12 13 _ _ rfl rfl rfl rfl (by decide)
              have d12_14 := hdis 12 14 _ _ rfl rfl rfl rfl (by decide)
              have d12_15 := hdis 12 15 _ _ rfl rfl rfl rfl (by decide)
              have d13_14 := hdis 13 14 _ _ rfl rfl rfl rfl (by decide)
              have d13_15 := hdis 13 15 _ _ rfl rfl rfl rfl (by decide)
              have d14_15 := hdis 14 15 _ _ rfl rfl rfl rfl (by decide)
              simp only [puts, Act.put, List.setIfInBounds_toArray, List.set_cons_succ, List.set_cons_zero] at ha
              subst ha
              have V12 : Arr .i64 w7 (blk 12) 16 (subF (bb) (aa)) := ⟨_, f12⟩
              have V13 : Arr .i64 w7 (blk 13) 16 (subF (d2) (cc)) := ⟨_, f13⟩
              have V14 : Arr .i64 w7 (blk 14) 16 (addF (d2) (cc)) := ⟨_, f14⟩
              have V15 : Arr .i64 w7 (blk 15) 16 (addF (bb) (aa)) := ⟨_, f15⟩
              clear hS hv hfin hdis hF v12 v13 v14 v15 f12 f13 f14 f15
              replace hA := hA.kept hB
              replace hC := hC.kept hB
              replace hE := hE.kept hB
              replace hZ := hZ.kept hB
              replace hvaa := hvaa.kept hB
              replace hvbb := hvbb.kept hB
              replace hvcc := hvcc.kept hB
              replace hvd2 := hvd2.kept hB
              obtain ⟨bee, hbee⟩ : ∃ x, x = blk 12 := ⟨_, rfl⟩
              obtain ⟨ee, hee, Xee, Hee⟩ : ∃ x, x = subF bb aa ∧ ∃ N, Hid (Fe x N) := ⟨_, rfl, _, Hbb.out.subF Haa.out⟩
              rw [← hee, ← hbee] at V12
              rw [← hbee] at v12l ⊢
              have lee : w.heap.size + 4 ≤ bee := Nat.le_trans hsz v12l
              have Kee := Lib.hid hee
              obtain ⟨bff, hbff⟩ : ∃ x, x = blk 13 := ⟨_, rfl⟩
              obtain ⟨ff, hff, Xff, Hff⟩ : ∃ x, x = subF d2 cc ∧ ∃ N, Hid (Fe x N) := ⟨_, rfl, _, Hd2.out.subF Hcc.out⟩
              rw [← hff, ← hbff] at V13
              rw [← hbff] at v13l ⊢
              have lff : w.heap.size + 4 ≤ bff := Nat.le_trans hsz v13l
              have Kff := Lib.hid hff
              obtain ⟨bgg, hbgg⟩ : ∃ x, x = blk 14 := ⟨_, rfl⟩
              obtain ⟨gg, hgg, Xgg, Hgg⟩ : ∃ x, x = addF d2 cc ∧ ∃ N, Hid (Fe x N) := ⟨_, rfl, _, Hd2.out.addF Hcc.out⟩
              rw [← hgg, ← hbgg] at V14
              rw [← hbgg] at v14l ⊢
              have lgg : w.heap.size + 4 ≤ bgg := Nat.le_trans hsz v14l
              have Kgg := Lib.hid hgg
              obtain ⟨bhh, hbhh⟩ : ∃ x, x = blk 15 := ⟨_, rfl⟩
              obtain ⟨hh, hhh, Xhh, Hhh⟩ : ∃ x, x = addF bb aa ∧ ∃ N, Hid (Fe x N) := ⟨_, rfl, _, Hbb.out.addF Haa.out⟩
              rw [← hhh, ← hbhh] at V15
              rw [← hbhh] at v15l ⊢
              have lhh : w.heap.size + 4 ≤ bhh := Nat.le_trans hsz v15l
              have Khh := Lib.hid hhh
              replace hbel := hbel.trans (hB.mono hbel.size)
              replace hsz := Nat.le_trans hsz hB.size
              clear hB hee hbee hff hbff hgg hbgg hhh hbhh
              have hvee := V12
              clear V12 v12l v12u
              have hvff := V13
              clear V13 v13l v13u
              have hvgg := V14
              clear V14 v14l v14u
              have hvhh := V15
              clear V15 v15l v15u
              go_upto_region 7 with (fail)
              refine region_lasts (n := 77) (fun i => i == 13) (by kernel_rfl) (by kernel_rfl) (by kernel_rfl) (by kernel_rfl) rfl
                (fun ii vv _ => (match ii with | 0 | 9 => vv = .agg (arr .i64 16 (ee)) | 1 | 6 => vv = .agg (arr .i64 16 (ff)) | 2 => vv = .agg (arr .i64 16 (mulF (ee) (ff))) | 3 | 7 => vv = .agg (arr .i64 16 (gg)) | 4 | 10 => vv = .agg (arr .i64 16 (hh)) | 5 => vv = .agg (arr .i64 16 (mulF (gg) (hh))) | 8 => vv = .agg (arr .i64 16 (mulF (ff) (gg))) | 11 => vv = .agg (arr .i64 16 (mulF (ee) (hh))) | 12 => vv = .agg (arr .i64 64 (pt (mulF (ee) (ff)) (mulF (gg) (hh)) (mulF (ff) (gg)) (mulF (ee) (hh)))) | _ => True))
                (fun w w' => Below w.heap.size w w') (fun _ _ h => h) (fun _ _ _ _ h _ => h)
                (fun _ => (w.heap.size + 3)) (fun _ => (arr .i64 64 (fun _ => 0))) (fun _ => (arr .i64 64 (pt (mulF (ee) (ff)) (mulF (gg) (hh)) (mulF (ff) (gg)) (mulF (ee) (hh)))))
                (by intro i j _ _ hpi hpj hne; simp only [beq_iff_eq] at hpi hpj; omega)
                (by intro i _ hpi; exact (hZ).row)
                ?_ ?_ ?_
              · refine Each.all ?_
                refine ⟨?_, ?_, ?_, ?_, ?_, ?_, ?_, ?_, ?_, ?_, ?_, ?_, ?_, (fun h => absurd h (by decide)), trivial⟩
                · intro _ a w2 hB hF hd
                  rw [if_pos (wanted_none rfl)]
                  exact flow_val (fun h => by cases h) (run_load_str rfl Tryz.underlying53 rfl Tryz.size53 (hF.same 11 rfl) (hvee.below hB hvee.lt)) rfl
                · intro _ a w2 hB hF hd
                  rw [if_pos (wanted_none rfl)]
                  exact flow_val (fun h => by cases h) (run_load_str rfl Tryz.underlying53 rfl Tryz.size53 (hF.same 12 rfl) (hvff.below hB hvff.lt)) rfl
                · intro _ a w2 hB hF hd
                  rw [if_pos (wanted_none rfl)]
                  refine flow_call _ _ _ rfl Tryz.call53 _ (args2 (hd 0 _ rfl rfl (waits_spec rfl)) (hd 1 _ rfl rfl (waits_spec rfl))) (by simp) ((feMul_any _ _ _ _ Hee.out Hff.out w2).mono ?_)
                  rintro e w3 ⟨rfl, hb⟩; exact ⟨_, rfl, rfl, hb⟩
                · intro _ a w2 hB hF hd
                  rw [if_pos (wanted_none rfl)]
                  exact flow_val (fun h => by cases h) (run_load_str rfl Tryz.underlying53 rfl Tryz.size53 (hF.same 13 rfl) (hvgg.below hB hvgg.lt)) rfl
                · intro _ a w2 hB hF hd
                  rw [if_pos (wanted_none rfl)]
                  exact flow_val (fun h => by cases h) (run_load_str rfl Tryz.underlying53 rfl Tryz.size53 (hF.same 14 rfl) (hvhh.below hB hvhh.lt)) rfl
                · intro _ a w2 hB hF hd
                  rw [if_pos (wanted_none rfl)]
                  refine flow_call _ _ _ rfl Tryz.call53 _ (args2 (hd 3 _ rfl rfl (waits_spec rfl)) (hd 4 _ rfl rfl (waits_spec rfl))) (by simp) ((feMul_any _ _ _ _ Hgg.out Hhh.out w2).mono ?_)
                  rintro e w3 ⟨rfl, hb⟩; exact ⟨_, rfl, rfl, hb⟩
                · intro _ a w2 hB hF hd
                  rw [if_pos (wanted_none rfl)]
                  exact flow_val (fun h => by cases h) (run_load_str rfl Tryz.underlying53 rfl Tryz.size53 (hF.same 12 rfl) (hvff.below hB hvff.lt)) rfl
                · intro _ a w2 hB hF hd
                  rw [if_pos (wanted_none rfl)]
                  exact flow_val (fun h => by cases h) (run_load_str rfl Tryz.underlying53 rfl Tryz.size53 (hF.same 13 rfl) (hvgg.below hB hvgg.lt)) rfl
                · intro _ a w2 hB hF hd
                  rw [if_pos (wanted_none rfl)]
                  refine flow_call _ _ _ rfl Tryz.call53 _ (args2 (hd 6 _ rfl rfl (waits_spec rfl)) (hd 7 _ rfl rfl (waits_spec rfl))) (by simp) ((feMul_any _ _ _ _ Hff.out Hgg.out w2).mono ?_)
                  rintro e w3 ⟨rfl, hb⟩; exact ⟨_, rfl, rfl, hb⟩
                · intro _ a w2 hB hF hd
                  rw [if_pos (wanted_none rfl)]
                  exact flow_val (fun h => by cases h) (run_load_str rfl Tryz.underlying53 rfl Tryz.size53 (hF.same 11 rfl) (hvee.below hB hvee.lt)) rfl
                · intro _ a w2 hB hF hd
                  rw [if_pos (wanted_none rfl)]
                  exact flow_val (fun h => by cases h) (run_load_str rfl Tryz.underlying53 rfl Tryz.size53 (hF.same 14 rfl) (hvhh.below hB hvhh.lt)) rfl
                · intro _ a w2 hB hF hd
                  rw [if_pos (wanted_none rfl)]
                  refine flow_call _ _ _ rfl Tryz.call53 _ (args2 (hd 9 _ rfl rfl (waits_spec rfl)) (hd 10 _ rfl rfl (waits_spec rfl))) (by simp) ((feMul_any _ _ _ _ Hee.out Hhh.out w2).mono ?_)
                  rintro e w3 ⟨rfl, hb⟩; exact ⟨_, rfl, rfl, hb⟩
                · intro _ a w2 hB hF hd
                  rw [if_pos (wanted_none rfl)]
                  exact flow_val (fun h => by cases h) (run_built rfl (by simp only [List.map_toArray, List.map_cons, List.map_nil, show a.eval (Operand.tmp 66) = .agg (arr .i64 16 (mulF (ee) (ff))) from (hd 2 _ rfl rfl (waits_spec rfl)), show a.eval (Operand.tmp 69) = .agg (arr .i64 16 (mulF (gg) (hh))) from (hd 5 _ rfl rfl (waits_spec rfl)), show a.eval (Operand.tmp 72) = .agg (arr .i64 16 (mulF (ff) (gg))) from (hd 8 _ rfl rfl (waits_spec rfl)), show a.eval (Operand.tmp 75) = .agg (arr .i64 16 (mulF (ee) (hh))) from (hd 11 _ rfl rfl (waits_spec rfl))]; exact build_pt _ _ _ _ _)) rfl
              · refine Each.all ?_
                refine ⟨(fun h => absurd h (by decide)), (fun h => absurd h (by decide)), (fun h => absurd h (by decide)), (fun h => absurd h (by decide)), (fun h => absurd h (by decide)), (fun h => absurd h (by decide)), (fun h => absurd h (by decide)), (fun h => absurd h (by decide)), (fun h => absurd h (by decide)), (fun h => absurd h (by decide)), (fun h => absurd h (by decide)), (fun h => absurd h (by decide)), (fun h => absurd h (by decide)), ?_, trivial⟩
                · intro _ a w1 w2 K hB hF hS hr hK
                  exact wp_store_arr 55 _ _ rfl .i64 ((w.heap.size + 3)) 64 (fun _ => 0) (pt (mulF (ee) (ff)) (mulF (gg) (hh)) (mulF (ff) (gg)) (mulF (ee) (hh))) Tryz.size55 (hF.same 6 rfl) (hS 12 _ rfl rfl ) hr hK
              · intro a wf w8 hB hF hS hfil
                have other : ∀ {k : IntKind} {qb n : Nat} {f : Nat → Int}, qb ≠ (w.heap.size + 3) → Arr k wf qb n f → Arr k w8 qb n f := fun {k qb n f} e0 hA => hfil.arr (by intro i _ hpi; simp only [Bool.or_eq_true, beq_iff_eq] at hpi; subst hpi <;> ((try simp only []); (try dsimp only); omega)) hA
                have belowT : ∀ {B : Nat} {w0 : World}, B ≤ (w.heap.size + 3) → Below B w0 wf → Below B w0 w8 := fun {B w0} e0 hA => hfil.below (by intro i _ hpi; simp only [Bool.or_eq_true, beq_iff_eq] at hpi; subst hpi <;> ((try simp only []); (try dsimp only); omega)) hA
                have V13 : Arr .i64 w8 ((w.heap.size + 3)) 64 (pt (mulF (ee) (ff)) (mulF (gg) (hh)) (mulF (ff) (gg)) (mulF (ee) (hh))) := hfil.at 13 (by decide) rfl
                have hszf := hfil.size
                clear hfil
                have ha := puts_each rfl rfl hF [_, _, _, _, _, _, _, _, _, _, _, _, _, undef] rfl ⟨hS 0 _ rfl rfl, hS 1 _ rfl rfl, hS 2 _ rfl rfl, hS 3 _ rfl rfl, hS 4 _ rfl rfl, hS 5 _ rfl rfl, hS 6 _ rfl rfl, hS 7 _ rfl rfl, hS 8 _ rfl rfl, hS 9 _ rfl rfl, hS 10 _ rfl rfl, hS 11 _ rfl rfl, hS 12 _ rfl rfl, trivial, trivial⟩
                simp only [puts, Act.put, List.setIfInBounds_toArray, List.set_cons_succ, List.set_cons_zero] at ha
                subst ha
                clear hS hF
                have hb := belowT (by omega) (hbel.trans (hB.mono hbel.size))
                go_wp2
                have hfin : pt (mulF ee ff) (mulF gg hh) (mulF ff gg) (mulF ee hh) = pt (sumX f g h e u v r s d) (sumY f g h e u v r s d) (sumZ f g h e u v r s d) (sumT f g h e u v r s d) := by
                  rw [Kee.out, Kff.out, Kgg.out, Khh.out, Kd2.out, Kdd.out, Kcc.out, Kbb.out, Kaa.out]; rfl
                rw [hfin] at V13
                exact bodyPost_ret (results_str rfl _ _ .i64 (w.heap.size + 3) 64 _ rfl V13 Tryz.underlying55 rfl Tryz.size55) rfl ⟨rfl, hb⟩
end Go.Proofs.YtdhejcaapdhhfaaGreat

namespace Go.Bas
open Go.RowKit
theorem laid_pt0 (f g h e x : Nat → Int) (i : Nat) (_ : i < 64) : laid (pt f g h e) 0 16 x i = pt x g h e i := by
  unfold laid pt
  repeat' split
  all_goals first | rfl | (exfalso; omega) | (congr 1; omega)
theorem laid_pt1 (f g h e x : Nat → Int) (i : Nat) (_ : i < 64) : laid (pt f g h e) 16 16 x i = pt f x h e i := by
  unfold laid pt
  repeat' split
  all_goals first | rfl | (exfalso; omega) | (congr 1; omega)
theorem laid_pt2 (f g h e x : Nat → Int) (i : Nat) (_ : i < 64) : laid (pt f g h e) 32 16 x i = pt f g x e i := by
  unfold laid pt
  repeat' split
  all_goals first | rfl | (exfalso; omega) | (congr 1; omega)
theorem laid_pt3 (f g h e x : Nat → Int) (i : Nat) (_ : i < 64) : laid (pt f g h e) 48 16 x i = pt f g h x i := by
  unfold laid pt
  repeat' split
  all_goals first | rfl | (exfalso; omega) | (congr 1; omega)
theorem flow_pure {P : Program} {o : Oper} {a : Act} {w : World} {v : Value} {S : Value → World → Prop} {E : World → Prop} {Q : Exit → Act → World → Prop} (hd : ∀ h : o.dst = none, v = undef) (hr : (execOp a.eval o).run P w = .ok (.value v) w) (hs : S v w) (hE : E w) :
    o.wp P a w (fun a' w' => ∃ v, a' = a.put o.dst v ∧ (o.dst = none → v = undef) ∧ S v w' ∧ E w') Q := by
  unfold Oper.wp
  rw [hr]
  exact ⟨v, rfl, fun h => hd h, hs, hE⟩
theorem run_store_part {P : Program} {w : World} {k : IntKind} {b off n m : Nat} {f : Nat → Int} (h : Arr k w b n f) (hm : off + m ≤ n) (g : Nat → Int) : (storeCells ⟨b, off, none⟩ (arr k m g).toList).run P w = .ok () (w.setCells b off (vals k m g)) := by
  have hv : (arr k m g).toList = vals k m g := rfl
  rw [hv]
  have h1 := run_storeCells_cells (P := P) b off (vals k m g) 0 w (fun j hj => by rw [vals_length] at hj; rw [Nat.add_zero, h.cell (off + j) (by omega)]; rfl) (fun j hj => h.free _) (fun v hv => by obtain ⟨_, _, rfl⟩ := List.mem_map.1 hv; rfl)
  simpa using h1
end Go.Bas
namespace Go.Proofs.YtdhejcaapdhhfaaGreat
open Go.RowKit Go.Bas Go.ChangeShapes
attribute [local go_sem ↓] Go.wp_at_zero Go.wp_at_succ
/-- twice d. -/
def ddF : Nat → Int := addF curveF curveF
theorem fe_dd : Fe ddF (dN + dN) := fe_curve.addF fe_curve
theorem toF_dd : toF (dN + dN) = dE + dE := by rw [toF_add, toF_dN]

set_option maxRecDepth 100000 in
set_option maxHeartbeats 6400000 in
theorem pnAdd_any (f g h e u v r s : Nat → Int) (X Y Z T U V W S : Int) (hp : Fe4P f g h e X Y Z T) (hq : Fe4P u v r s U V W S) (w : World) :
    Calls Tryz.prog 49 #[Pt f g h e, Pt u v r s] w fun e_ w' => e_ = .returned (Pt (sumX f g h e u v r s ddF) (sumY f g h e u v r s ddF) (sumZ f g h e u v r s ddF) (sumT f g h e u v r s ddF)) ∧ Below w.heap.size w w' := by
  have HP := Lib.hid hp
  have HQ := Lib.hid hq
  clear hp hq
  unfold Pt
  go_enter Tryz.func49, Tryz.ntmps49
  go_upto_region 1 with (fail)
  refine wp_world (fun w1 => Arr .i64 w1 w.heap.size 64 (pt f g h e) ∧ Arr .i64 w1 (w.heap.size + 1) 64 (pt u v r s) ∧ Arr .i64 w1 (w.heap.size + 2) 64 (fun _ => 0) ∧ Below w.heap.size w w1)
    ⟨.alloc (.alloc (Arr.newAt rfl rfl) _) _, .alloc (Arr.newAt (by first | omega | (simp <;> omega)) rfl) _, Arr.newAt (by first | omega | (simp <;> omega)) (by rfl), (((Below.refl _ _).alloc (Nat.le_refl _) _).alloc (by first | omega | (simp <;> omega)) _).alloc (by first | omega | (simp <;> omega)) _⟩ ?_
  rintro w1 ⟨hA, hC, hZ, hbel⟩
  refine region_vars (n := 13) (by kernel_rfl) (by kernel_rfl) (by kernel_rfl) rfl
    (isAl [(2, 1)]) (putOf [(2, 1)]) (fun _ => arr .i64 16 (fun _ => 0)) (fun _ => (arr .i64 16 (curveF))) (fun _ => 53) (fun _ => 5)
    (fun ii vv _ => (match ii with | 0 => vv = .agg (arr .i64 16 (curveF)) | _ => True)) (fun _ _ => True) (fun _ _ _ => trivial) (fun _ _ _ _ _ _ _ => trivial) (fun _ _ _ _ h _ => h)
    (vs_al rfl) (vs_inj rfl) ?_ ?_ ?_ ?_
  · refine Each.all ?_
    refine ⟨?_, (fun h => by cases h), (fun _ h => by cases h), trivial⟩
    · intro _ _ a w2 hB hF hd
      rw [if_pos (wanted_none rfl)]
      refine flow_call _ _ _ rfl Tryz.call58 _ args0 (by simp) ((pnCurve_any w2).mono ?_)
      rintro e w3 ⟨rfl, hb⟩; exact ⟨_, rfl, rfl, hb⟩
  · refine Each.all ?_
    refine ⟨(fun h => by cases h), ?_, (fun h => by cases h), trivial⟩
    · exact fun _ => ⟨rfl, rfl, fun a w2 K h => flow_alloc rfl rfl Tryz.zeroValue53 (by simp) h⟩
  · refine Each.all ?_
    refine ⟨(fun _ h => by cases h), (fun _ h => by cases h), ?_, trivial⟩
    · intro p hp
      obtain rfl : 1 = p := Option.some.inj hp
      exact ⟨rfl, rfl, ⟨_, rfl⟩, waits_spec rfl, fun a w2 b K hB hF hd hx hb h => flow_put rfl rfl Tryz.size53 hx (hd 0 _ rfl rfl rfl (waits_spec rfl)) hb h⟩
  · intro a w2 blk hB hF hS hv hfin hdis
    obtain ⟨v1, v1l, v1u⟩ := hv 1 _ rfl rfl
    have ha := puts_each rfl rfl hF [_, _, undef] rfl ⟨hS 0 _ rfl rfl rfl, v1, trivial, trivial⟩
    have f1 := hfin 2 _ 1 rfl rfl
    simp only [puts, Act.put, List.setIfInBounds_toArray, List.set_cons_succ, List.set_cons_zero] at ha
    subst ha
    have V1 : Arr .i64 w2 (blk 1) 16 (curveF) := ⟨_, f1⟩
    clear hS hv hfin hdis hF v1 f1
    replace hA := hA.kept hB
    replace hC := hC.kept hB
    replace hZ := hZ.kept hB
    replace hbel := hbel.trans (hB.mono hbel.size)
    obtain ⟨x, hx⟩ : ∃ x, x = blk 1 := ⟨_, rfl⟩
    rw [← hx] at V1 ⊢
    have h1 := V1
    clear hB V1 hx
    go_upto_region 2 with (fail)
    refine region_lasts (n := 13) (fun i => i == 6) (by kernel_rfl) (by kernel_rfl) (by kernel_rfl) (by kernel_rfl) rfl
      (fun ii vv _ => (match ii with | 0 => vv = .agg (arr .i64 64 (pt f g h e)) | 1 => vv = .agg (arr .i64 64 (pt u v r s)) | 2 | 3 => vv = .agg (arr .i64 16 (curveF)) | 4 => vv = .agg (arr .i64 16 (ddF)) | 5 => vv = .agg (arr .i64 64 (pt (sumX (f) (g) (h) (e) (u) (v) (r) (s) (ddF)) (sumY (f) (g) (h) (e) (u) (v) (r) (s) (ddF)) (sumZ (f) (g) (h) (e) (u) (v) (r) (s) (ddF)) (sumT (f) (g) (h) (e) (u) (v) (r) (s) (ddF)))) | _ => True))
      (fun w w' => Below w.heap.size w w') (fun _ _ h => h) (fun _ _ _ _ h _ => h)
      (fun _ => (w.heap.size + 2)) (fun _ => (arr .i64 64 (fun _ => 0))) (fun _ => (arr .i64 64 (pt (sumX (f) (g) (h) (e) (u) (v) (r) (s) (ddF)) (sumY (f) (g) (h) (e) (u) (v) (r) (s) (ddF)) (sumZ (f) (g) (h) (e) (u) (v) (r) (s) (ddF)) (sumT (f) (g) (h) (e) (u) (v) (r) (s) (ddF)))))
      (by intro i j _ _ hpi hpj hne; simp only [beq_iff_eq] at hpi hpj; omega)
      (by intro i _ hpi; exact (hZ).row)
      ?_ ?_ ?_
    · refine Each.all ?_
      refine ⟨?_, ?_, ?_, ?_, ?_, ?_, (fun h => absurd h (by decide)), trivial⟩
      · intro _ a w2 hB hF hd
        rw [if_pos (wanted_none rfl)]
        exact flow_val (fun h => by cases h) (run_load_str rfl Tryz.underlying55 rfl Tryz.size55 (hF.same 2 rfl) (hA.below hB hA.lt)) rfl
      · intro _ a w2 hB hF hd
        rw [if_pos (wanted_none rfl)]
        exact flow_val (fun h => by cases h) (run_load_str rfl Tryz.underlying55 rfl Tryz.size55 (hF.same 3 rfl) (hC.below hB hC.lt)) rfl
      · intro _ a w2 hB hF hd
        rw [if_pos (wanted_none rfl)]
        exact flow_val (fun h => by cases h) (run_load_str rfl Tryz.underlying53 rfl Tryz.size53 (hF.same 5 rfl) (h1.below hB h1.lt)) rfl
      · intro _ a w2 hB hF hd
        rw [if_pos (wanted_none rfl)]
        exact flow_val (fun h => by cases h) (run_load_str rfl Tryz.underlying53 rfl Tryz.size53 (hF.same 5 rfl) (h1.below hB h1.lt)) rfl
      · intro _ a w2 hB hF hd
        rw [if_pos (wanted_none rfl)]
        refine flow_call _ _ _ rfl Tryz.call59 _ (args2 (hd 2 _ rfl rfl (waits_spec rfl)) (hd 3 _ rfl rfl (waits_spec rfl))) (by simp) ((feAdd_any _ _ _ _ fe_curve fe_curve w2).mono ?_)
        rintro e w3 ⟨rfl, hb⟩; exact ⟨_, rfl, rfl, hb⟩
      · intro _ a w2 hB hF hd
        rw [if_pos (wanted_none rfl)]
        refine flow_call _ _ _ rfl Tryz.call62 _ (args3 (hd 0 _ rfl rfl (waits_spec rfl)) (hd 1 _ rfl rfl (waits_spec rfl)) (hd 4 _ rfl rfl (waits_spec rfl))) (by simp) ((pnSum_any _ _ _ _ _ _ _ _ _ _ _ _ _ _ _ _ _ _ HP.out HQ.out fe_dd w2).mono ?_)
        rintro e w3 ⟨rfl, hb⟩; exact ⟨_, rfl, rfl, hb⟩
    · refine Each.all ?_
      refine ⟨(fun h => absurd h (by decide)), (fun h => absurd h (by decide)), (fun h => absurd h (by decide)), (fun h => absurd h (by decide)), (fun h => absurd h (by decide)), (fun h => absurd h (by decide)), ?_, trivial⟩
      · intro _ a w1 w2 K hB hF hS hr hK
        exact wp_store_arr 55 _ _ rfl .i64 ((w.heap.size + 2)) 64 (fun _ => 0) (pt (sumX (f) (g) (h) (e) (u) (v) (r) (s) (ddF)) (sumY (f) (g) (h) (e) (u) (v) (r) (s) (ddF)) (sumZ (f) (g) (h) (e) (u) (v) (r) (s) (ddF)) (sumT (f) (g) (h) (e) (u) (v) (r) (s) (ddF))) Tryz.size55 (hF.same 4 rfl) (hS 5 _ rfl rfl ) hr hK
    · intro a wf w3 hB hF hS hfil
      have other : ∀ {k : IntKind} {qb n : Nat} {f : Nat → Int}, qb ≠ (w.heap.size + 2) → Arr k wf qb n f → Arr k w3 qb n f := fun {k qb n f} e0 hA => hfil.arr (by intro i _ hpi; simp only [Bool.or_eq_true, beq_iff_eq] at hpi; subst hpi <;> ((try simp only []); (try dsimp only); omega)) hA
      have belowT : ∀ {B : Nat} {w0 : World}, B ≤ (w.heap.size + 2) → Below B w0 wf → Below B w0 w3 := fun {B w0} e0 hA => hfil.below (by intro i _ hpi; simp only [Bool.or_eq_true, beq_iff_eq] at hpi; subst hpi <;> ((try simp only []); (try dsimp only); omega)) hA
      have V6 : Arr .i64 w3 ((w.heap.size + 2)) 64 (pt (sumX (f) (g) (h) (e) (u) (v) (r) (s) (ddF)) (sumY (f) (g) (h) (e) (u) (v) (r) (s) (ddF)) (sumZ (f) (g) (h) (e) (u) (v) (r) (s) (ddF)) (sumT (f) (g) (h) (e) (u) (v) (r) (s) (ddF))) := hfil.at 6 (by decide) rfl
      have hszf := hfil.size
      clear hfil
      have ha := puts_each rfl rfl hF [_, _, _, _, _, _, undef] rfl ⟨hS 0 _ rfl rfl, hS 1 _ rfl rfl, hS 2 _ rfl rfl, hS 3 _ rfl rfl, hS 4 _ rfl rfl, hS 5 _ rfl rfl, trivial, trivial⟩
      simp only [puts, Act.put, List.setIfInBounds_toArray, List.set_cons_succ, List.set_cons_zero] at ha
      subst ha
      clear hS hF
      have hb := belowT (by omega) (hbel.trans (hB.mono hbel.size))
      go_wp2
      exact bodyPost_ret (results_str rfl _ _ .i64 (w.heap.size + 2) 64 _ rfl V6 Tryz.underlying55 rfl Tryz.size55) rfl ⟨rfl, hb⟩

set_option maxRecDepth 100000 in
set_option maxHeartbeats 6400000 in
theorem pnSwapped_any (p : Bool) (f g h e u v r s : Nat → Int) (X Y Z T U V W S : Int) (hp : Fe4P f g h e X Y Z T) (hq : Fe4P u v r s U V W S) (w : World) :
    Calls Tryz.prog 61 #[Pt f g h e, Pt u v r s, .bool p] w fun e_ w' => e_ = .returned (.tuple #[Pt (pick2 p f u) (pick2 p g v) (pick2 p h r) (pick2 p e s), Pt (pick2 p u f) (pick2 p v g) (pick2 p r h) (pick2 p s e)]) ∧ Below w.heap.size w w' := by
  have HP := Lib.hid hp
  have HQ := Lib.hid hq
  clear hp hq
  unfold Pt
  go_enter Tryz.func61, Tryz.ntmps61
  go_upto_region 1 with (fail)
  refine wp_world (fun w1 => Arr .i64 w1 w.heap.size 64 (pt f g h e) ∧ Arr .i64 w1 (w.heap.size + 1) 64 (pt u v r s) ∧ Arr .i64 w1 (w.heap.size + 2) 64 (fun _ => 0) ∧ Arr .i64 w1 (w.heap.size + 3) 64 (fun _ => 0) ∧ Below w.heap.size w w1)
    ⟨.alloc (.alloc (.alloc (Arr.newAt rfl rfl) _) _) _, .alloc (.alloc (Arr.newAt (by first | omega | (simp <;> omega)) rfl) _) _, .alloc (Arr.newAt (by first | omega | (simp <;> omega)) (by rfl)) _, Arr.newAt (by first | omega | (simp <;> omega)) (by rfl), ((((Below.refl _ _).alloc (Nat.le_refl _) _).alloc (by first | omega | (simp <;> omega)) _).alloc (by first | omega | (simp <;> omega)) _).alloc (by first | omega | (simp <;> omega)) _⟩ ?_
  rintro w1 ⟨hA, hC, hZ, hY, hbel⟩
  try simp only [Act.put, List.setIfInBounds_toArray, List.set_cons_succ, List.set_cons_zero]
  go_wp2_with (first | (refine step_val rfl (run_field_at (m := 15) (k := 0) rfl rfl (by kernel_rfl)) ?_) | (refine step_val rfl (run_load_mid rfl rfl Tryz.underlying53 rfl Tryz.size53 (fun i hi => ptc0 hA i hi)) ?_) | (refine step_val rfl (run_load_mid rfl rfl Tryz.underlying53 rfl Tryz.size53 (fun i hi => ptc0 hC i hi)) ?_))
  refine (feSwap_any p f u _ _ HP.out.1 HQ.out.1 _).mono ?_
  rintro e_ v0 ⟨rfl, hb⟩
  replace hA := hA.kept hb
  replace hC := hC.kept hb
  replace hZ := hZ.kept hb
  replace hY := hY.kept hb
  replace hbel := hbel.trans (hb.mono hbel.size)
  have s2 := hC.midOther (b' := w.heap.size) (by omega) (vals .i64 16 (pick2 p f u)) 0
  have t1 := run_store_part (P := Tryz.prog) hA (off := 0) (m := 16) (by decide) (pick2 p f u)
  have t2 := run_store_part (P := Tryz.prog) s2 (off := 0) (m := 16) (by decide) (pick2 p u f)
  go_upto_region 2 with (fail)
  clear t1 t2
  refine wp_world (fun w1 => Arr .i64 w1 w.heap.size 64 (pt (pick2 p f u) g h e) ∧ Arr .i64 w1 (w.heap.size + 1) 64 (pt (pick2 p u f) v r s) ∧ Arr .i64 w1 (w.heap.size + 2) 64 (fun _ => 0) ∧ Arr .i64 w1 (w.heap.size + 3) 64 (fun _ => 0) ∧ Below w.heap.size w w1)
    ⟨((hA.mid 16 0 (pick2 p f u)).congr (laid_pt0 _ _ _ _ _)).midOther (b' := w.heap.size + 1) (by omega) _ _, (s2.mid 16 0 (pick2 p u f)).congr (laid_pt0 _ _ _ _ _), (hZ.midOther (b' := w.heap.size) (by omega) (vals .i64 16 (pick2 p f u)) 0).midOther (b' := w.heap.size + 1) (by omega) (vals .i64 16 (pick2 p u f)) 0, (hY.midOther (b' := w.heap.size) (by omega) (vals .i64 16 (pick2 p f u)) 0).midOther (b' := w.heap.size + 1) (by omega) (vals .i64 16 (pick2 p u f)) 0, below_mid (by omega) _ _ _ (below_mid (Nat.le_refl _) _ _ _ hbel)⟩ ?_
  clear s2 hA hC hZ hY hbel hb
  rintro w2 ⟨hA, hC, hZ, hY, hbel⟩
  try simp only [Act.put, List.setIfInBounds_toArray, List.set_cons_succ, List.set_cons_zero]
  go_wp2_with (first | (refine step_val rfl (run_field_at (m := 15) (k := 16) rfl rfl (by kernel_rfl)) ?_) | (refine step_val rfl (run_load_mid rfl rfl Tryz.underlying53 rfl Tryz.size53 (fun i hi => ptc1 hA i hi)) ?_) | (refine step_val rfl (run_load_mid rfl rfl Tryz.underlying53 rfl Tryz.size53 (fun i hi => ptc1 hC i hi)) ?_))
  refine (feSwap_any p g v _ _ HP.out.2.1 HQ.out.2.1 _).mono ?_
  rintro e_ v1 ⟨rfl, hb⟩
  replace hA := hA.kept hb
  replace hC := hC.kept hb
  replace hZ := hZ.kept hb
  replace hY := hY.kept hb
  replace hbel := hbel.trans (hb.mono hbel.size)
  have s2 := hC.midOther (b' := w.heap.size) (by omega) (vals .i64 16 (pick2 p g v)) 16
  have t1 := run_store_part (P := Tryz.prog) hA (off := 16) (m := 16) (by decide) (pick2 p g v)
  have t2 := run_store_part (P := Tryz.prog) s2 (off := 16) (m := 16) (by decide) (pick2 p v g)
  go_upto_region 3 with (fail)
  clear t1 t2
  refine wp_world (fun w1 => Arr .i64 w1 w.heap.size 64 (pt (pick2 p f u) (pick2 p g v) h e) ∧ Arr .i64 w1 (w.heap.size + 1) 64 (pt (pick2 p u f) (pick2 p v g) r s) ∧ Arr .i64 w1 (w.heap.size + 2) 64 (fun _ => 0) ∧ Arr .i64 w1 (w.heap.size + 3) 64 (fun _ => 0) ∧ Below w.heap.size w w1)
    ⟨((hA.mid 16 16 (pick2 p g v)).congr (laid_pt1 _ _ _ _ _)).midOther (b' := w.heap.size + 1) (by omega) _ _, (s2.mid 16 16 (pick2 p v g)).congr (laid_pt1 _ _ _ _ _), (hZ.midOther (b' := w.heap.size) (by omega) (vals .i64 16 (pick2 p g v)) 16).midOther (b' := w.heap.size + 1) (by omega) (vals .i64 16 (pick2 p v g)) 16, (hY.midOther (b' := w.heap.size) (by omega) (vals .i64 16 (pick2 p g v)) 16).midOther (b' := w.heap.size + 1) (by omega) (vals .i64 16 (pick2 p v g)) 16, below_mid (by omega) _ _ _ (below_mid (Nat.le_refl _) _ _ _ hbel)⟩ ?_
  clear s2 hA hC hZ hY hbel hb
  rintro w3 ⟨hA, hC, hZ, hY, hbel⟩
  try simp only [Act.put, List.setIfInBounds_toArray, List.set_cons_succ, List.set_cons_zero]
  go_wp2_with (first | (refine step_val rfl (run_field_at (m := 15) (k := 32) rfl rfl (by kernel_rfl)) ?_) | (refine step_val rfl (run_load_mid rfl rfl Tryz.underlying53 rfl Tryz.size53 (fun i hi => ptc2 hA i hi)) ?_) | (refine step_val rfl (run_load_mid rfl rfl Tryz.underlying53 rfl Tryz.size53 (fun i hi => ptc2 hC i hi)) ?_))
  refine (feSwap_any p h r _ _ HP.out.2.2.1 HQ.out.2.2.1 _).mono ?_
  rintro e_ v2 ⟨rfl, hb⟩
  replace hA := hA.kept hb
  replace hC := hC.kept hb
  replace hZ := hZ.kept hb
  replace hY := hY.kept hb
  replace hbel := hbel.trans (hb.mono hbel.size)
  have s2 := hC.midOther (b' := w.heap.size) (by omega) (vals .i64 16 (pick2 p h r)) 32
  have t1 := run_store_part (P := Tryz.prog) hA (off := 32) (m := 16) (by decide) (pick2 p h r)
  have t2 := run_store_part (P := Tryz.prog) s2 (off := 32) (m := 16) (by decide) (pick2 p r h)
  go_upto_region 4 with (fail)
  clear t1 t2
  refine wp_world (fun w1 => Arr .i64 w1 w.heap.size 64 (pt (pick2 p f u) (pick2 p g v) (pick2 p h r) e) ∧ Arr .i64 w1 (w.heap.size + 1) 64 (pt (pick2 p u f) (pick2 p v g) (pick2 p r h) s) ∧ Arr .i64 w1 (w.heap.size + 2) 64 (fun _ => 0) ∧ Arr .i64 w1 (w.heap.size + 3) 64 (fun _ => 0) ∧ Below w.heap.size w w1)
    ⟨((hA.mid 16 32 (pick2 p h r)).congr (laid_pt2 _ _ _ _ _)).midOther (b' := w.heap.size + 1) (by omega) _ _, (s2.mid 16 32 (pick2 p r h)).congr (laid_pt2 _ _ _ _ _), (hZ.midOther (b' := w.heap.size) (by omega) (vals .i64 16 (pick2 p h r)) 32).midOther (b' := w.heap.size + 1) (by omega) (vals .i64 16 (pick2 p r h)) 32, (hY.midOther (b' := w.heap.size) (by omega) (vals .i64 16 (pick2 p h r)) 32).midOther (b' := w.heap.size + 1) (by omega) (vals .i64 16 (pick2 p r h)) 32, below_mid (by omega) _ _ _ (below_mid (Nat.le_refl _) _ _ _ hbel)⟩ ?_
  clear s2 hA hC hZ hY hbel hb
  rintro w4 ⟨hA, hC, hZ, hY, hbel⟩
  try simp only [Act.put, List.setIfInBounds_toArray, List.set_cons_succ, List.set_cons_zero]
  go_wp2_with (first | (refine step_val rfl (run_field_at (m := 15) (k := 48) rfl rfl (by kernel_rfl)) ?_) | (refine step_val rfl (run_load_mid rfl rfl Tryz.underlying53 rfl Tryz.size53 (fun i hi => ptc3 hA i hi)) ?_) | (refine step_val rfl (run_load_mid rfl rfl Tryz.underlying53 rfl Tryz.size53 (fun i hi => ptc3 hC i hi)) ?_))
  refine (feSwap_any p e s _ _ HP.out.2.2.2 HQ.out.2.2.2 _).mono ?_
  rintro e_ v3 ⟨rfl, hb⟩
  replace hA := hA.kept hb
  replace hC := hC.kept hb
  replace hZ := hZ.kept hb
  replace hY := hY.kept hb
  replace hbel := hbel.trans (hb.mono hbel.size)
  have s2 := hC.midOther (b' := w.heap.size) (by omega) (vals .i64 16 (pick2 p e s)) 48
  have t1 := run_store_part (P := Tryz.prog) hA (off := 48) (m := 16) (by decide) (pick2 p e s)
  have t2 := run_store_part (P := Tryz.prog) s2 (off := 48) (m := 16) (by decide) (pick2 p s e)
  go_upto_region 5 with (fail)
  clear t1 t2
  refine wp_world (fun w1 => Arr .i64 w1 w.heap.size 64 (pt (pick2 p f u) (pick2 p g v) (pick2 p h r) (pick2 p e s)) ∧ Arr .i64 w1 (w.heap.size + 1) 64 (pt (pick2 p u f) (pick2 p v g) (pick2 p r h) (pick2 p s e)) ∧ Arr .i64 w1 (w.heap.size + 2) 64 (fun _ => 0) ∧ Arr .i64 w1 (w.heap.size + 3) 64 (fun _ => 0) ∧ Below w.heap.size w w1)
    ⟨((hA.mid 16 48 (pick2 p e s)).congr (laid_pt3 _ _ _ _ _)).midOther (b' := w.heap.size + 1) (by omega) _ _, (s2.mid 16 48 (pick2 p s e)).congr (laid_pt3 _ _ _ _ _), (hZ.midOther (b' := w.heap.size) (by omega) (vals .i64 16 (pick2 p e s)) 48).midOther (b' := w.heap.size + 1) (by omega) (vals .i64 16 (pick2 p s e)) 48, (hY.midOther (b' := w.heap.size) (by omega) (vals .i64 16 (pick2 p e s)) 48).midOther (b' := w.heap.size + 1) (by omega) (vals .i64 16 (pick2 p s e)) 48, below_mid (by omega) _ _ _ (below_mid (Nat.le_refl _) _ _ _ hbel)⟩ ?_
  clear s2 hA hC hZ hY hbel hb
  rintro w5 ⟨hA, hC, hZ, hY, hbel⟩
  try simp only [Act.put, List.setIfInBounds_toArray, List.set_cons_succ, List.set_cons_zero]
  obtain ⟨fa, hfa⟩ : ∃ x, x = pt (pick2 p f u) (pick2 p g v) (pick2 p h r) (pick2 p e s) := ⟨_, rfl⟩
  obtain ⟨fb, hfb⟩ : ∃ x, x = pt (pick2 p u f) (pick2 p v g) (pick2 p r h) (pick2 p s e) := ⟨_, rfl⟩
  rw [← hfa] at hA; rw [← hfb] at hC
  refine region_lastE' (n := 54) 3 rfl (by decide) (by kernel_rfl) (by kernel_rfl) (by kernel_rfl) (by kernel_rfl) rfl
    (fun ii vv ww => (match ii with | 0 => vv = .agg (arr .i64 64 fa) | 1 => vv = .agg (arr .i64 64 fb) | _ => True) ∧ (ii = 2 → Arr .i64 ww (w.heap.size + 2) 64 fa)) 2
    (fun b ww => (Arr .i64 ww w.heap.size 64 fa ∧ Arr .i64 ww (w.heap.size + 1) 64 fb ∧ Arr .i64 ww (w.heap.size + 3) 64 (fun _ => 0) ∧ Below w.heap.size w ww) ∧ (b = false → Arr .i64 ww (w.heap.size + 2) 64 (fun _ => 0))) ⟨⟨hA.drew, hC.drew, hY.drew, hbel.drew⟩, fun _ => hZ.drew⟩
    (fun i ww w' => match i with | 2 => ((Arr .i64 ww w.heap.size 64 fa ∧ Arr .i64 ww (w.heap.size + 1) 64 fb ∧ Arr .i64 ww (w.heap.size + 3) 64 (fun _ => 0) ∧ Below w.heap.size w ww) → (Arr .i64 w' w.heap.size 64 fa ∧ Arr .i64 w' (w.heap.size + 1) 64 fb ∧ Arr .i64 w' (w.heap.size + 3) 64 (fun _ => 0) ∧ Below w.heap.size w w')) | _ => w' = ww) ?_ ?_ ?_ ?_ rfl ?_ ?_
  · intro i ww; (try dsimp only); split
    · exact id
    · rfl
  · intro i b ww w' hi hR hE
    have hE' : w' = ww := by (try dsimp only at hE); split at hE; (· exact absurd rfl hi); exact hE
    rw [hE']; exact hR
  · intro ww w' hR hE
    exact ⟨hE hR.1, fun h => by cases h⟩
  · intro i j b v ww w' hij hjb hR hS hE
    refine ⟨hS.1, fun e => ?_⟩
    subst e
    have hE' : w' = ww := by (try dsimp only at hE); split at hE; (· exact absurd rfl hij); exact hE
    rw [hE']; exact hS.2 rfl
  · refine Each.all ?_
    refine ⟨?_, ?_, ?_, (fun h => absurd rfl h), trivial⟩
    · intro _ b a w2 hcb hB hF hd
      rw [if_pos (wanted_none rfl)]
      exact flow_pure (fun h => by cases h) (run_load_str rfl Tryz.underlying55 rfl Tryz.size55 (hF.same 3 rfl) hB.1.1) ⟨rfl, fun h => absurd h (by decide)⟩ rfl
    · intro _ b a w2 hcb hB hF hd
      rw [if_pos (wanted_none rfl)]
      exact flow_pure (fun h => by cases h) (run_load_str rfl Tryz.underlying55 rfl Tryz.size55 (hF.same 4 rfl) hB.1.2.1) ⟨rfl, fun h => absurd h (by decide)⟩ rfl
    · intro _ b a w2 hcb hB hF hd
      rw [if_pos (wanted_none rfl)]
      refine wp_store_arr 55 _ _ rfl .i64 (w.heap.size + 2) 64 (fun _ => 0) fa Tryz.size55 (hF.same 6 rfl) (hd 0 _ rfl (waits_spec rfl)).1 (hB.2 (hcb rfl)) ?_
      exact ⟨_, rfl, fun _ => rfl, ⟨trivial, fun _ => (hB.2 (hcb rfl)).setRow _ _⟩, fun h => ⟨h.1.setRowOther _ (by omega) _, h.2.1.setRowOther _ (by omega) _, h.2.2.1.setRowOther _ (by omega) _, below_setRow' h.2.2.2 (by omega) _⟩⟩
  · intro b a w3 hB hF hS
    have hV := (hS 2 _ rfl (by decide)).2 rfl
    obtain ⟨⟨_, _, hY3, hb3⟩, _⟩ := hB
    have ha := puts_each rfl rfl hF [_, _, undef, undef] rfl ⟨(hS 0 _ rfl (by decide)).1, (hS 1 _ rfl (by decide)).1, trivial, trivial, trivial⟩
    simp only [puts, Act.put, List.setIfInBounds_toArray, List.set_cons_succ, List.set_cons_zero] at ha
    subst ha
    clear hS hF hA hC hZ hY hbel
    refine wp_store_arr 55 _ _ rfl .i64 (w.heap.size + 3) 64 (fun _ => 0) _ Tryz.size55 rfl rfl hY3 ?_
    have r1 := hV.setRowOther (w.heap.size + 3) (by omega) (arr .i64 64 fb)
    have r2 := hY3.setRow 64 fb
    have r3 := below_setRow' hb3 (by omega : w.heap.size ≤ w.heap.size + 3) (arr .i64 64 fb)
    go_wp2
    exact bodyPost_ret (results_strs rfl _ _ .i64 (w.heap.size + 2) 64 _ .i64 (w.heap.size + 3) 64 _ rfl r1 Tryz.underlying55 rfl Tryz.size55 rfl r2 Tryz.underlying55 rfl Tryz.size55) rfl ⟨by rw [hfa, hfb], r3⟩
end Go.Proofs.YtdhejcaapdhhfaaGreat
