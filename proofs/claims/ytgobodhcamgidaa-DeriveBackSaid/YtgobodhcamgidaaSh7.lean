/-
  The closure of sha.Sum, sha.Sum, sha.Half: what each answers. Conditions: named in each theorem.
-/
import Derived.Test.YtgobodhcamgidaaSh4
import Derived.Test.YtgobodhcamgidaaOwnAt
import Derived.Test.YtgobodhcamgidaaTailIn
import Derived.Test.YtgobodhcamgidaaTxt
import Derived.Deep.LoopGhost
import Derived.RangeFuncBox
set_option linter.unusedVariables false
set_option linter.unusedSimpArgs false
namespace Go.Bas
open Go.RowKit
theorem store_box {P : Program} {ops : Array Oper} {rest : List Oper} {o : Oper} {a : Act} {w : World} {Q : Exit → Act → World → Prop} (hg : o.guard = none) (T : TypeId) (x y : Operand) (ho : o.op = .store T x y) (hd : o.dst = none) (b : Nat) {T' : TypeId} (v v0 : Value) (hv : v.cells = #[v]) (h1 : v.oneCell' = true)
    (hi : (P.info? T).map (·.size) = some 1) (hx : a.eval x = .pointer (some ⟨b, 0, none⟩)) (hy : a.eval y = v) (hb : Boxed w b T' v0) (hK : wpList P ops Q rest a (w.setCell ⟨b, 0, none⟩ v)) : wpList P ops Q (o :: rest) a w :=
  wpList_plain hg fun _ hK' => wp_store_one T x y ho hd b v v0 hv h1 hi hx hy hb.cell hb.frozen (by have := hK' _ _ hK; simpa [hd, Act.put] using this)
theorem Rd.oneCell {k : IntKind} {w : World} {v : Value} {n : Nat} {f : Nat → Int} (h : Rd k w v n f) : v.oneCell' = true := by
  obtain ⟨a, c, rfl, _⟩ := h
  rfl
theorem Rd.cells1 {k : IntKind} {w : World} {v : Value} {n : Nat} {f : Nat → Int} (h : Rd k w v n f) : v.cells = #[v] := by
  obtain ⟨a, c, rfl, _⟩ := h
  rfl
theorem OwnAt.far {k : IntKind} {e : TypeId} {base : Nat} {w : World} {v : Value} {n : Nat} {f : Nat → Int} (h : OwnAt k e base w v n f) {b : Nat} (hb : b < base) : some b ≠ v.ownBlock := fun e => by have := (h.lt b e.symm).1; omega
theorem below_at {B : Nat} {a w w' : World} {k : IntKind} {e : TypeId} {base : Nat} {v : Value} {n : Nat} {f : Nat → Int} {w0 : World} (h : Below B a w) (hg : w.grownBy w' v.ownBlock) (ho : OwnAt k e base w0 v n f) (hB : B ≤ w.heap.size) (hbase : B ≤ base) : Below B a w' :=
  h.grown hg hB fun b hb => Nat.le_trans hbase (ho.lt b hb).1
theorem OwnAt.set {k : IntKind} {e : TypeId} {base : Nat} {w : World} {v : Value} {n : Nat} {f : Nat → Int} (h : OwnAt k e base w v n f) {p : Addr} (hp : p.block < base) (y : Value) : OwnAt k e base (w.setCell p y) v n f := by
  rcases h with h | ⟨g, o, c, cur, rfl, hb', hgg, rest⟩
  · exact .inl h
  · refine .inr ⟨g, o, c, cur, rfl, hb', ?_, rest⟩
    rw [heap_setCell_other w p g y (by omega)]
    exact hgg
theorem OwnAt.setRow {k : IntKind} {e : TypeId} {base : Nat} {w : World} {v : Value} {n : Nat} {f : Nat → Int} (h : OwnAt k e base w v n f) {b : Nat} (hp : b < base) (cs : Array Value) : OwnAt k e base (w.setRow b cs) v n f := by
  rcases h with h | ⟨g, o, c, cur, rfl, hb', hgg, rest⟩
  · exact .inl h
  · refine .inr ⟨g, o, c, cur, rfl, hb', ?_, rest⟩
    rw [setRow_other w b g cs (by omega)]
    exact hgg
theorem Boxed.other2 {w : World} {b : Nat} {T : TypeId} {v : Value} (h : Boxed w b T v) {b' : Nat} (hb : b ≠ b') (cs : Array Value) : Boxed (w.setRow b' cs) b T v := by
  unfold Boxed at *
  rw [setRow_other w b' b cs hb]; exact h
/-- 's[lo:]' run, and what it is. -/
theorem OwnAt.cutRun {P : Program} {t e : TypeId} {k : IntKind} {bytes : Nat} (ht : P.underlying t = some (.slice e)) (hinfo : (P.info? e).map (fun i => (i.zero, i.size, i.bytes)) = some (some (.int k 0), 1, bytes))
    {base : Nat} {w : World} {b o n c : Nat} {f : Nat → Int} (h : OwnAt k e base w (.slice (some ⟨b, o, none⟩) n c) n f) (lo : Nat) (hlo : lo ≤ n) (hc : n ≤ c) :
    ∃ a', (∀ w, (Instr.sliceAt t (.slice (some ⟨b, o, none⟩) n c) (some (.int .i64 (lo : Int))) none none).run P w = .ok (.slice a' (n - lo) (c - lo)) w) ∧ OwnAt k e base w (.slice a' (n - lo) (c - lo)) (n - lo) (fun i => f (lo + i)) := by
  have hel := elem_of ht
  have ht' : P.underlying t = some (.slice (P.elem t)) := by rw [hel]; exact ht
  refine ⟨_, fun w => ?_, h.cut lo hlo⟩
  rw [run_sliceAt_slice w t _ _ _ _ ht', run_slice_l w t _ n c ht' .i64 lo (by omega) (by omega), hel, run_sizeOf_of hinfo]
  by_cases hcl : c = lo
  · simp [Result.andThen, sliced, hcl]
  · simp [Result.andThen, sliced, hcl, addr_add]
end Go.Bas
namespace Go.Proofs.Ytgobodhcamgidaa
open Go.RowKit Go.Bas
attribute [local go_sem ↓] Go.wp_at_zero Go.wp_at_succ
theorem Try.sizeB22 : (Try.prog.info? 22).map (·.size) = some 1 := by kernel_rfl

/-- what the closure keeps: T bytes have been taken in. -/
def StS (w : World) (B1 bL bS bK : Nat) (F : Nat → Int) (T : Nat) : Prop :=
  ∃ v, Boxed w bL 22 v ∧ OwnAt .u8 5 B1 w v (T % 128) (fun i => F (128 * (T / 128) + i)) ∧ Arr .u64 w bS 8 (hashF F (T / 128)) ∧ Arr .u64 w bK 80 kK
theorem StS.kept {w w' : World} {B1 bL bS bK T : Nat} {F : Nat → Int} (h : StS w B1 bL bS bK F T) (hb : Below w.heap.size w w') : StS w' B1 bL bS bK F T := by
  obtain ⟨v, h1, h2, h3, h4⟩ := h
  exact ⟨v, by unfold Boxed; rw [hb.block _ h1.lt]; exact h1, h2.below hb, h3.kept hb, h4.kept hb⟩

set_option maxRecDepth 100000 in
set_option maxHeartbeats 3200000 in
theorem take_any (F : Nat → Int) (hF : ∀ i, 0 ≤ F i ∧ F i < 256) (B0 B1 bL bS bK : Nat) (d1 : bL ≠ bS) (d2 : bL ≠ bK) (d3 : bS ≠ bK) (o1 : B0 ≤ bL ∧ B0 ≤ bS) (o2 : bL < B1 ∧ bS < B1 ∧ bK < B1) (T m : Nat) (hT : T + m ≤ 1000000000)
    (p : Value) (w : World) (hp : Rd .u8 w p m (fun i => F (T + i))) (hS : StS w B1 bL bS bK F T) (hw : B1 ≤ w.heap.size) :
    Calls Try.prog 47 #[p, .pointer (some ⟨bL, 0, none⟩), .pointer (some ⟨bS, 0, none⟩), .pointer (some ⟨bK, 0, none⟩)] w fun e w' => (∃ v, e = .returned v) ∧ StS w' B1 bL bS bK F (T + m) ∧ Below B0 w w' := by
  have HF := Lib.hid hF
  obtain ⟨v, hx, ho, hs, hk⟩ := hS
  have HP := Lib.hid hp
  have HO := Lib.hid ho
  have HS := Lib.hid hs
  have HK := Lib.hid hk
  have hc := hx.cell
  have hxf := hx.frozen
  obtain ⟨o1, o1'⟩ := o1
  obtain ⟨o2, o3, o4⟩ := o2
  clear hF hp ho hs hk
  obtain ⟨q, hq⟩ : ∃ q, q = T / 128 := ⟨_, rfl⟩
  obtain ⟨r, hr⟩ : ∃ r, r = T % 128 := ⟨_, rfl⟩
  rw [← hq] at HO HS
  rw [← hr] at HO
  have hqr : 128 * q + r = T := by rw [hq, hr]; omega
  have HQR := Lib.hid hqr
  have hr' : r < 128 := by rw [hr]; exact Nat.mod_lt _ (by decide)
  clear hq hr hqr
  go_enter Try.func47, Try.ntmps47
  go_upto_region 1 with (first
    | (at_builtin; refine append_at rfl _ _ 22 rfl B1 5 .u8 1 Try.underlying22 Try.info5 _ r (fun i => F (128 * q + i)) HO.out rfl _ m _ HP.out rfl (fun i _ => by have := HQR.out; show F _ = F _; congr 1; omega) (by omega) (by omega) hw ?_; intro v1 w1 ho1 hg1 _; have hx1 := hx.kept hg1 (HO.out.far o2); have hrd1 := ho1.rd; have hcc1 := hrd1.cells1; have hoo1 := hrd1.oneCell)
    | (refine store_box rfl 22 _ _ rfl rfl bL _ _ hcc1 hoo1 Try.sizeB22 rfl rfl hx1 ?_))
  refine wp_world (fun w2 => Boxed w2 bL 22 v1 ∧ OwnAt .u8 5 B1 w2 v1 (r + m) (fun i => F (128 * q + i)) ∧ Arr .u64 w2 bS 8 (hashF F q) ∧ Arr .u64 w2 bK 80 kK ∧ Below B0 w w2 ∧ B1 ≤ w2.heap.size)
    ⟨hx1.set v1, ho1.set (p := ⟨bL, 0, none⟩) o2 _, (HS.out.grown hg1 (HO.out.far o3)).other (by simpa using d1.symm) _, (HK.out.grown hg1 (HO.out.far o4)).other (by simpa using d2.symm) _,
      (below_at (Below.refl B0 w) hg1 HO.out (by omega) (by omega)).setCell (by simpa using o1) _, by rw [size_setCell]; have := hg1.size; omega⟩ ?_
  rintro w2 ⟨hx2, ho2, hs2, hk2, hb2, hw2⟩
  clear hc hxf hcc1 hoo1 hrd1 hx hx1 ho1 hg1 HP HO HS HK
  simp only [Act.put, List.setIfInBounds_toArray, List.set_cons_succ, List.set_cons_zero]
  go_loopg [] (r + m) (fun g wr => ∃ (L Q : Nat) (v : Value), g = L ∧ Hid (128 * Q + L = T + m) ∧ L ≤ r + m ∧ Boxed wr bL 22 v ∧ OwnAt .u8 5 B1 wr v L (fun i => F (128 * Q + i)) ∧ Arr .u64 wr bS 8 (hashF F Q) ∧ Arr .u64 wr bK 80 kK ∧ Below B0 w wr ∧ B1 ≤ wr.heap.size)
  case atStart => exact ⟨_, q, v1, rfl, by have := HQR.out; unfold Hid; omega, Nat.le_refl _, hx2, ho2, hs2, hk2, hb2, hw2⟩
  case round =>
    clear hx2 ho2 hs2 hk2 hb2 hw2
    obtain ⟨L, Q, v, hgL, HQ, hL, hx, ho, hs, hk, hb, hw1⟩ := hrel
    have HG := Lib.hid hgL
    have hrd := ho.rd
    have HR := Lib.hid hrd
    obtain ⟨la, c, rfl, c1, c2, _, c4⟩ := hrd
    have HC4 := Lib.hid c4
    have HO := Lib.hid ho
    have hc := hx.cell
    clear hgL c4 ho
    by_cases hlt : 128 ≤ L
    · obtain ⟨b, o, rfl, hbl, _⟩ := HC4.out (by omega)
      have hcl := hx.lt
      have G1 := Lib.hid (Rd.head (P := Try.prog) Try.underlying22 Try.info5 (some ⟨b, o, none⟩) L c 128 hlt c1)
      go_upto_region 2 with (fail)
      refine region_last' (n := 17) 4 rfl (by decide) (by kernel_rfl) (by kernel_rfl) (by kernel_rfl) (by kernel_rfl) rfl
        (fun ii vv _ => (match ii with | 0 => vv = .agg (arr .u64 8 (hashF F Q)) | 1 => vv = .slice (some ⟨b, o, none⟩) L c | 2 => vv = .slice (some ⟨b, o, none⟩) 128 c | 3 => vv = .agg (arr .u64 8 (cmpF (hashF F Q) (fun i => F (128 * Q + i)))) | _ => True))
        (fun w w' => Below w.heap.size w w') (fun _ _ h => h) (fun _ _ _ _ h _ => h) rfl ?_ ?_
      · refine Each.all ?_
        refine ⟨?_, ?_, ?_, ?_, (fun h => absurd rfl h), trivial⟩
        · intro _ a w2 hB hF hd
          rw [if_pos (wanted_none rfl)]
          exact flow_val (fun h => by cases h) (run_load_str rfl Try.underlying78 rfl Try.size78 (hF.same 2 rfl) (hs.kept hB)) rfl
        · intro _ a w2 hB hF hd
          rw [if_pos (wanted_none rfl)]
          exact flow_val (fun h => by cases h) (run_load_slice rfl (hF.same 1 rfl) Try.underlying22 ((hB.cell (p := ⟨bL, 0, none⟩) hcl).trans hc)) rfl
        · intro _ a w2 hB hF hd
          rw [if_pos (wanted_none rfl)]
          exact flow_val (fun h => by cases h) (run_slice_part rfl (hd 1 _ rfl (waits_spec rfl)) (by simp only [Option.map_some, Option.map_none]; exact G1.out.1 _)) rfl
        · intro _ a w2 hB hF hd
          rw [if_pos (wanted_none rfl)]
          refine flow_call _ _ _ rfl Try.call48 _ (args3 (hd 0 _ rfl (waits_spec rfl)) (hF.same 3 rfl) (hd 2 _ rfl (waits_spec rfl))) (by simp) ((piece_any (hashF F Q) (hashF_bound F Q) bK _ (fun i => F (128 * Q + i)) _ (hk.kept hB) (G1.out.2 _ _ (HR.out.below hB)) (fun i _ => HF.out _)).mono ?_)
          rintro e w3 ⟨rfl, hb⟩; exact ⟨_, rfl, rfl, hb⟩
      · intro a w3 hB hF hS
        have ha := puts_each rfl rfl hF [_, _, _, _, undef] rfl ⟨hS 0 _ rfl (by decide), hS 1 _ rfl (by decide), hS 2 _ rfl (by decide), hS 3 _ rfl (by decide), trivial, trivial⟩
        simp only [puts, Act.put, List.setIfInBounds_toArray, List.set_cons_succ, List.set_cons_zero] at ha
        subst ha
        clear hS hF
        have hs3 := hs.kept hB
        refine wp_store_arr 78 _ _ rfl .u64 bS 8 (hashF F Q) _ Try.size78 rfl rfl hs3 ?_
        have hx3 : Boxed w3 bL 22 (.slice (some ⟨b, o, none⟩) L c) := by unfold Boxed; rw [hB.block _ hcl]; exact hx
        have hx4 := Go.Bas.Boxed.other2 hx3 d1 (arr .u64 8 (cmpF (hashF F Q) (fun i => F (128 * Q + i))))
        have ho4 := (HO.out.below hB).setRow o3 (arr .u64 8 (cmpF (hashF F Q) (fun i => F (128 * Q + i))))
        have hs4 : Arr .u64 (w3.setRow bS (arr .u64 8 (cmpF (hashF F Q) (fun i => F (128 * Q + i))))) bS 8 (hashF F (Q + 1)) := hs3.setRow _ _
        have hk4 := (hk.kept hB).setRowOther bS d3.symm (arr .u64 8 (cmpF (hashF F Q) (fun i => F (128 * Q + i))))
        have hb4 := below_setRow' (hb.trans (hB.mono (by omega))) o1' (arr .u64 8 (cmpF (hashF F Q) (fun i => F (128 * Q + i))))
        have hw4 : B1 ≤ (w3.setRow bS (arr .u64 8 (cmpF (hashF F Q) (fun i => F (128 * Q + i))))).heap.size := by have := hB.size; simp; omega
        obtain ⟨A1, hrun, hcut⟩ := ho4.cutRun (P := Try.prog) Try.underlying22 Try.info5 128 hlt c1
        have HRUN := Lib.hid hrun
        have HO4 := Lib.hid hcut
        clear hs hk hx hb hw1 hB hs3 hx3 ho4 HO HR G1 hc hcl HC4 hrun hcut hbl
        have hc4 := hx4.cell
        go_upto_region 3 with (fail)
        obtain ⟨w4, hw4e⟩ : ∃ w4, w4 = w3.setRow bS (arr .u64 8 (cmpF (hashF F Q) (fun i => F (128 * Q + i)))) := ⟨_, rfl⟩
        rw [← hw4e] at hx4 HO4 hs4 hk4 hb4 hw4 hc4 ⊢
        clear hw4e
        simp only [List.getElem_toArray, List.getElem_cons_succ, List.getElem_cons_zero, Act.put]
        have hr : ∀ w, (Instr.sliceAt 22 (.slice (some ⟨b, o, none⟩) L c) (some (.int .i64 128)) none none).run Try.prog w = .ok (.slice A1 (L - 128) (c - 128)) w := HRUN.out
        go_wp2_with (refine store_box rfl 22 _ _ rfl rfl bL (.slice A1 (L - 128) (c - 128)) _ rfl rfl Try.sizeB22 rfl rfl hx4 ?_)
        go_roundg (L - 128)
        case rel => exact ⟨L - 128, Q + 1, _, rfl, by have := HQ.out; unfold Hid; omega, by omega, hx4.set _, (HO4.out.set (p := ⟨bL, 0, none⟩) o2 _).congr (fun i _ => by show F _ = F _; congr 1; omega), hs4.other (by simpa using d1.symm) _, hk4.other (by simpa using d2.symm) _, hb4.setCell (by simpa using o1) _, by rw [size_setCell]; exact hw4⟩
        case measure => have := HG.out; omega
    · go_wp2
      go_end0
      refine ⟨⟨_, rfl⟩, ⟨_, hx, ?_, ?_, hk⟩, hb⟩
      · have := HQ.out
        rw [show (T + m) % 128 = L by omega, show (T + m) / 128 = Q by omega]; exact HO.out
      · have := HQ.out
        rw [show (T + m) / 128 = Q by omega]; exact hs
end Go.Proofs.Ytgobodhcamgidaa
