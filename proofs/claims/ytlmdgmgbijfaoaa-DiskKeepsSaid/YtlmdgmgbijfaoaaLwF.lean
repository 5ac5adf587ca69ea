/-
  DiskApart: what is done to a disk isn't seen in its clone, nor the other way round. Conditions: named in each theorem.
-/
import Derived.Test.YtlmdgmgbijfaoaaLwE
set_option linter.unusedVariables false
set_option linter.unusedSimpArgs false
namespace Go.Bas
open Go.RowKit
theorem catM_zero (q y : Nat → Nat → Value) : catM 0 q y = y := by
  funext j
  unfold catM
  rw [if_neg (by omega), Nat.sub_zero]
/-- append of one's own list onto one's own list. -/
theorem wpList_append_ow {P : Program} {ops : Array Oper} {rest : List Oper} {o : Oper} {a : Act} {w : World} {Q' : Exit → Act → World → Prop} {e t : TypeId} {c n m : Nat} {v u : Value} {q y : Nat → Nat → Value} {bytes : Nat} {z : Value} (hg : o.guard = none) (s x : Operand) (hop : o.op = .call { callee := .builtin .append, args := #[s, x], argTypes := #[t, t] })
    (hs : a.eval s = v) (h : OwM e c w v n q) (hc : 0 < c) (h1 : P.underlying t = some (.slice e)) (hinfo : (P.info? e).map (fun i => (i.zero, i.size, i.bytes)) = some (some z, c, bytes)) (hz : z.cells.size = c)
    (hx : a.eval x = u) (hu : OwM e c w u m y) (h1c : ∀ j, j < m → ∀ i, i < c → (y j i).oneCell' = true)
    (h63 : n + m ≤ maxLen) (hb : (n + m) * bytes ≤ 140737488355328)
    (hK : ∀ v' w', OwM e c w' v' (n + m) (catM n q y) → w.grownBy w' v.ownBlock → Placed w v v' → wpList P ops Q' rest (a.put o.dst v') w') : wpList P ops Q' (o :: rest) a w := by
  rcases hu with ⟨rfl, rfl⟩ | ⟨g, cap, rfl, hr, hm, hcap, hcell⟩
  · have hr := OwM.append_nil (P := P) (ty := o.type) h hc h1 hinfo
    refine wpList_plain hg fun K hK' => ?_
    unfold Oper.wp
    simp only [execOp, hop, resolve, invoke, builtin, Sem.run_bind, Sem.run_pure, Result.andThen_ok, List.map_toArray, List.map_cons, List.map_nil, hs, hx, hr]
    exact hK' _ _ (hK v w (h.congr fun j hj i _ => by rw [catM_lo hj]) (World.grownBy.refl _ _) (.inl rfl))
  · exact wpList_append_m hg s x hop hs h hc h1 hinfo hz g 0 cap m hx y (fun j hj i hi => ⟨by rw [Nat.zero_add]; exact hcell j hj i hi, h1c j hj i hi⟩) h63 hb hK
end Go.Bas
namespace Go.Proofs.Ytlmdgmgbijfaoaa
open Go.RowKit Go.Bas Go.ChangeShapes
attribute [local go_sem ↓] Go.wp_at_zero Go.wp_at_succ
/-- the struct of the document's disk, in the making. -/
structure YAt (w : World) (y : Nat) (a b : Value) (d : Dsk) : Prop where
  row : RowB w y 53 5
  ck : w.cell? ⟨y, 0, none⟩ = some a
  cw : w.cell? ⟨y, 1, none⟩ = some b
  cf : w.cell? ⟨y, 2, none⟩ = some (.int .i64 d.fuse)
  co : w.cell? ⟨y, 3, none⟩ = some (.bool d.off)
  cl : w.cell? ⟨y, 4, none⟩ = some (.int .i64 d.lives)
theorem YAt.same {w w' : World} {y : Nat} {a b : Value} {d : Dsk} (h : YAt w y a b d) (hb : w'.heap[y]? = w.heap[y]?) : YAt w' y a b d := by
  have o : ∀ i v, w.cell? ⟨y, i, none⟩ = some v → w'.cell? ⟨y, i, none⟩ = some v := fun i v hv => by rw [World.cell?_of_block (a := ⟨y, i, none⟩) hb]; exact hv
  exact ⟨h.row.heap hb, o 0 _ h.ck, o 1 _ h.cw, o 2 _ h.cf, o 3 _ h.co, o 4 _ h.cl⟩
theorem YAt.set0 {w : World} {y : Nat} {a b : Value} {d : Dsk} (h : YAt w y a b d) (v : Value) : YAt (w.setCell ⟨y, 0, none⟩ v) y v b d := by
  have o : ∀ i v', 0 ≠ i → w.cell? ⟨y, i, none⟩ = some v' → (w.setCell ⟨y, 0, none⟩ v).cell? ⟨y, i, none⟩ = some v' := fun i v hi hv => by rw [World.cell?_setCell_other (h := addr_ne hi)]; exact hv
  exact ⟨h.row.setCell _ rfl _, World.cell?_setCell_same _ _ _ h.ck, o 1 _ (by decide) h.cw, o 2 _ (by decide) h.cf, o 3 _ (by decide) h.co, o 4 _ (by decide) h.cl⟩
theorem YAt.set1 {w : World} {y : Nat} {a b : Value} {d : Dsk} (h : YAt w y a b d) (v : Value) : YAt (w.setCell ⟨y, 1, none⟩ v) y a v d := by
  have o : ∀ i v', 1 ≠ i → w.cell? ⟨y, i, none⟩ = some v' → (w.setCell ⟨y, 1, none⟩ v).cell? ⟨y, i, none⟩ = some v' := fun i v hi hv => by rw [World.cell?_setCell_other (h := addr_ne hi)]; exact hv
  exact ⟨h.row.setCell _ rfl _, o 0 _ (by decide) h.ck, World.cell?_setCell_same _ _ _ h.cw, o 2 _ (by decide) h.cf, o 3 _ (by decide) h.co, o 4 _ (by decide) h.cl⟩
theorem YAt.made {w : World} {d : Dsk} : YAt (w.alloc (.cells #[.slice none 0 0, .slice none 0 0, .int .i64 d.fuse, .bool d.off, .int .i64 d.lives] 53)) w.heap.size (.slice none 0 0) (.slice none 0 0) d := by
  have hb := heap_alloc_new w (.cells #[.slice none 0 0, .slice none 0 0, .int .i64 d.fuse, .bool d.off, .int .i64 d.lives] 53)
  have hc : ∀ i, (w.alloc (.cells #[.slice none 0 0, .slice none 0 0, .int .i64 d.fuse, .bool d.off, .int .i64 d.lives] 53)).cell? ⟨w.heap.size, i, none⟩ = (#[.slice none 0 0, .slice none 0 0, .int .i64 d.fuse, .bool d.off, .int .i64 d.lives] : Array Value)[i]? := fun i => cell_of_row _ _ i _ _ (0, 0) hb
  exact ⟨⟨_, hb, rfl⟩, hc 0, hc 1, hc 2, hc 3, hc 4⟩
/-- three lists of deeds: what a walk over one of them asks. -/
structure Lst (w : World) (v : Value) (m : Nat) (kd nn : Nat → Int) (lens : Nat → Nat) (g : Nat → Nat → Int) (q : Nat → Nat → Value) : Prop where
  mat : Mat w v m 3 q
  each : ∀ j, j < m → q j 0 = .int .i64 (kd j) ∧ q j 1 = .int .i64 (nn j) ∧ Rd .u8 w (q j 2) (lens j) (g j)
  dosB : DosB m kd nn lens g
section
variable {w w' : World} {v : Value} {m : Nat} {kd nn : Nat → Int} {lens : Nat → Nat} {g : Nat → Nat → Int} {q : Nat → Nat → Value}
theorem Lst.one (h : Lst w v m kd nn lens g q) {k : Nat} (hk : k < m) : ∀ i, i < 3 → (q k i).oneCell' = true := fun i hi => by
  obtain ⟨q0, q1, ax, cx, e2, _⟩ := h.each k hk
  rcases (by omega : i = 0 ∨ i = 1 ∨ i = 2) with rfl | rfl | rfl
  · rw [q0]; rfl
  · rw [q1]; rfl
  · rw [e2]; rfl
theorem Lst.dos (h : Lst w v m kd nn lens g q) {B : Nat} (hB : B = w.heap.size) (hb : Below B w w') : Dos w' v m kd nn lens g := ⟨q, h.mat.below (hB ▸ hb), fun j hj => ⟨(h.each j hj).1, (h.each j hj).2.1, (h.each j hj).2.2.below (hB ▸ hb)⟩⟩
/-- the list's cells, as they stand in a later world. -/
theorem Lst.cells (h : Lst w v m kd nn lens g q) {B : Nat} (hB : B = w.heap.size) : ∃ a c, v = .slice a m c ∧ (∀ k, k < m → ∃ b o, a = some ⟨b, o, none⟩ ∧ ∀ w', Below B w w' → ∀ i, i < 3 → w'.cell? ⟨b, o + k * 3 + i, none⟩ = some (q k i)) := by
  obtain ⟨a, c, rfl, _, _, hc⟩ := h.mat
  refine ⟨a, c, rfl, fun k hk => ?_⟩
  obtain ⟨b, o, rfl, hlt, hcc⟩ := hc (by omega)
  exact ⟨b, o, rfl, fun w' hb i hi => (hb.cell (p := ⟨b, o + k * 3 + i, none⟩) (hB ▸ hlt)).trans (hcc k hk i hi)⟩
end
/-- the copy is done. -/
theorem YAt.done {w0 w : World} {q y : Nat} {rk rw a b : Value} {uk ub : Nat → Value} {d : Dsk} (h0 : RkAt w0 q rk rw uk ub d) (hb : Below w0.heap.size w0 w) (h : YAt w y a b d) (ha : OwM 23 1 w a d.n (fun j _ => uk j)) (hw : OwM 181 2 w b d.m (rwC d.ps ub)) : RkAt w y a b uk ub d :=
  ⟨h.row, h.ck, h.cw, h.cf, h.co, h.cl, ha, hw, fun j hj => OwM.below (h0.kb j hj) hb, fun j hj => OwM.below (h0.wb j hj) hb, h0.n1, h0.ps, h0.m1, h0.f0, h0.f1, h0.l0, h0.l1⟩
/-- two pairs of disks, apart. -/
structure Four (B : Nat) (w : World) (p q p' q' : Nat) (d d' : Dsk) (F F' : Nat → Prop) : Prop where
  one : Two w p q F d
  two : Two w p' q' F' d'
  hi : ∀ b, F b → B ≤ b
  hi' : ∀ b, F' b → B ≤ b
  apart : ∀ b, F b → ¬ F' b
theorem Four.swap {B : Nat} {w : World} {p q p' q' : Nat} {d d' : Dsk} {F F' : Nat → Prop} (h : Four B w p q p' q' d d' F F') : Four B w p' q' p q d' d F' F := ⟨h.two, h.one, h.hi', h.hi, fun b hb hb' => h.apart b hb' hb⟩
theorem Four.below {B : Nat} {w w' : World} {p q p' q' : Nat} {d d' : Dsk} {F F' : Nat → Prop} (h : Four B w p q p' q' d d' F F') (hb : Below w.heap.size w w') : Four B w' p q p' q' d d' F F' := ⟨h.one.below hb, h.two.below hb, h.hi, h.hi', h.apart⟩
/-- one deed of a list, done to the first pair. -/
theorem four_dos {B : Nat} {w0 w : World} {p q p' q' : Nat} {d d' : Dsk} {F F' : Nat → Prop} (hB : B = w0.heap.size) (h : Four B w p q p' q' d d' F F') (hbel : Below B w0 w) {v : Value} {m : Nat} {kd nn : Nat → Int} {lens : Nat → Nat} {g : Nat → Nat → Int} {z : Nat → Nat → Value} (hd : Lst w0 v m kd nn lens g z) (j : Nat) (hj : j < m) (hm : d.m < 1000000) :
    Calls Try.prog 27 #[ptrTo p, ptrTo q, .agg (rowV 3 (z j))] w fun e w' => e = .returned (.bool true) ∧ (∃ G, Four B w' p q p' q' (d.does (kd j) (nn j) (lens j) (g j)) d' G F') ∧ Below B w0 w' := by
  obtain ⟨z0, z1, z2⟩ := hd.each j hj
  obtain ⟨_, b1, b2⟩ := hd.dosB j hj
  have hs := hbel.size
  refine (one_row h.one (z j) _ (nn j) (lens j) (g j) z0 z1 (z2.below (hB ▸ hbel)) (fun h0 b hbk hFb => ?_) (fun i hi => wf8 (b2 i hi)) (wf64 b1).1 (wf64 b1).2 hm).mono ?_
  · have h1 := Rd.lt z2 h0 b hbk
    have h2 := h.hi b hFb
    omega
  · rintro e w' ⟨rfl, G, h1, h2, h3⟩
    have hlt : ∀ b, F' b → b < w.heap.size := fun b hb => h.two.lt hb
    refine ⟨rfl, ⟨G, h1, h.two.stay h2 (fun b hb hb' => h.apart b hb' hb) h.one.noBytes, fun b hb => ?_, h.hi', fun b hb hb' => ?_⟩, hbel.trans (h2.below (by omega) h.hi)⟩
    · rcases h3 b hb with h' | h'
      · exact h.hi b h'
      · omega
    · rcases h3 b hb with h' | h'
      · exact h.apart b h' hb'
      · have := hlt b hb'
        omega
end Go.Proofs.Ytlmdgmgbijfaoaa
