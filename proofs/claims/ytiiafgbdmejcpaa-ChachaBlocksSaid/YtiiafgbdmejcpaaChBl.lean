/-
  The law ChachaBlocks answers true: its walk. Conditions: named in each theorem.
-/
import Derived.Test.YtiiafgbdmejcpaaCh2
import Derived.Test.YtiiafgbdmejcpaaCh7
import Derived.Test.YtiiafgbdmejcpaaChO
import Derived.Test.YtiiafgbdmejcpaaSame
import Derived.Test.YtiiafgbdmejcpaaTxt
namespace Go.Bas
open Go.RowKit
theorem CaseAt.grown {w w' : World} {b r : Nat} {key nonce : Nat → Int} {c : Int} (h : CaseAt w b key nonce c) (hg : w.grownBy w' (some r)) (hr : b ≠ r) : CaseAt w' b key nonce c := by
  have hlt := h.lt
  obtain ⟨T, h⟩ := h
  exact ⟨T, by rw [hg.block b hlt (fun e => hr (Option.some.inj e))]; exact h⟩
theorem CaseAt.grown' {w w' : World} {b : Nat} {r : Option Nat} {key nonce : Nat → Int} {c : Int} (h : CaseAt w b key nonce c) (hg : w.grownBy w' r) (hr : r ≠ some b) : CaseAt w' b key nonce c := by
  have hlt := h.lt
  obtain ⟨T, h⟩ := h
  exact ⟨T, by rw [hg.block b hlt (fun e => hr e.symm)]; exact h⟩
theorem strB_lo (key nonce : Nat → Int) (c : Int) {i : Nat} (h : i < 64) : blkB key nonce c i = strB key nonce c i := by
  unfold strB
  rw [Nat.div_eq_of_lt h, Nat.mod_eq_of_lt h]
  simp
theorem strB_hi (key nonce : Nat → Int) (c : Int) {i : Nat} (h : i < 64) : strB key nonce c (64 + i) = blkB key nonce (c + 1) i := by
  unfold strB
  rw [show (64 + i) / 64 = 1 by omega, show (64 + i) % 64 = i by omega]
  simp
end Go.Bas
namespace Go.Proofs.Ytiiafgbdmejcpaa
open Go.RowKit Go.Bas Go.ChangeShapes
attribute [local go_sem ↓] Go.wp_at_zero Go.wp_at_succ
attribute [local go_sem] Oper.semAt_some

theorem append_rdIn {P : Program} {w : World} {ops : Array Oper} {rest : List Oper} {o : Oper} {a : Act} {Q : Exit → Act → World → Prop} {l nn : Nat}
    (hg : o.guard = none) (s x : Operand) (t : TypeId) (hop : o.op = .call { callee := .builtin .append, args := #[s, x], argTypes := #[t, t] })
    (base : Nat) (e : TypeId) (k : IntKind) (bytes : Nat)
    (h1 : P.underlying t = some (.slice e)) (hinfo : (P.info? e).map (fun i => (i.zero, i.size, i.bytes)) = some (some (.int k 0), 1, bytes))
    (v : Value) (n : Nat) (f : Nat → Int) (hown : Go.Bas.Own k e base w v n f) (hs : a.eval s = v)
    (u : Value) (m : Nat) (g : Nat → Int) (hrd : Rd k w u m g) (hx : a.eval x = u) (hf : ∀ i, i < m → f (n + i) = g i)
    (b2 : (n + m) * bytes ≤ 140737488355328) (b3 : n + m ≤ 9223372036854775807) (b4 : base ≤ w.heap.size)
    (hK : ∀ v' w', Go.Bas.Own k e base w' v' (n + m) f → w.grownBy w' v.ownBlock → wpListIn (Fence.wide.inRound l) nn P ops Q rest (a.put o.dst v') w') :
    wpListIn (Fence.wide.inRound l) nn P ops Q (o :: rest) a w :=
  wpListIn_plain hg fun _ hK' => wpIn_of_wp (by rw [hop]; intro c h; cases h) (wp_append_rd s x t hop base e k bytes h1 hinfo v n f hown hs u m g hrd hx hf b2 b3 b4 fun v' w' q1 q2 => hK' _ _ (hK v' w' q1 q2))
/-- what a round of the loop leaves. -/
def GotI (w9 : World) (bg : Nat) (pre : List Int) (W : World) : Prop :=
  ∃ v, Boxed W bg 23 v ∧ Go.Bas.Own .u8 5 (bg + 4) W v pre.length (fun i => pre.getD i 0) ∧ Below bg w9 W ∧ bg + 4 ≤ W.heap.size
theorem gotI_own (w9 : World) (bg : Nat) (B : Nat) (hB : bg ≤ B) : OwnFrom B (GotI w9 bg) := by
  intro s W W' row hs hg hr
  obtain ⟨v, h2, h3, h5, h6⟩ := hs
  have hr' : ∀ r, row = some r → ∃ o : Obj, W.heap[r]? = some o ∧ o.isCells = false := fun r e => (hr r e).2
  exact ⟨v, boxed_own bg _ (fun _ => _) () W W' row h2 hg hr', own_nc h3 hg hr', h5.grown hg (by omega) (fun k e => Nat.le_trans hB (hr k e).1), Nat.le_trans h6 hg.size⟩

theorem goti_step {w9 W w7 : World} {bg : Nat} {pre : List Int} {x : Int} {v v' : Value} {o : Obj} (i2 : Boxed W bg 23 v) (i3 : Go.Bas.Own .u8 5 (bg + 4) W v pre.length (fun i => pre.getD i 0)) (i5 : Below bg w9 W) (i6 : bg + 4 ≤ W.heap.size)
    (hown : Go.Bas.Own .u8 5 (bg + 4) w7 v' (pre.length + 1) (fun i => (pre ++ [x]).getD i 0)) (hgrow : (W.alloc o).grownBy w7 v.ownBlock) :
    KeepsOthers W (w7.setCell ⟨bg, 0, none⟩ v') ∧ KeepB (bg + 1) (bg + 1 + 3) W (w7.setCell ⟨bg, 0, none⟩ v') ∧ GotI w9 bg (pre ++ [x]) (w7.setCell ⟨bg, 0, none⟩ v') := by
  obtain ⟨hv1, hv2, hr2, hk2, hb2⟩ := Boxed.appended (n₀ := bg) i2 (by decide) (i3.mono (by omega)) (by omega) (Nat.le_refl _) (Go.Bas.Own.mono hown (by omega)) hgrow
  have hs := hgrow.size
  have hs' : W.heap.size + 1 ≤ w7.heap.size := by simpa using hs
  refine ⟨hk2, ⟨by rw [size_setCell]; omega, fun b hb1 hb2 => ?_⟩, v', hv2, ?_, i5.trans hb2, by rw [size_setCell]; omega⟩
  · rw [heap_setCell_other w7 ⟨bg, 0, none⟩ b _ (by simp; omega), hgrow.block b (by simp; omega) (fun e => by have := Own.block i3 b e.symm; omega)]
    exact ((Below.refl W.heap.size W).alloc (Nat.le_refl _) o).block b (by omega)
  · have hl : (pre ++ [x]).length = pre.length + 1 := by simp
    rw [hl]
    exact World.ownsRow.kept hown (grownBy_setCell' w7 bg v') (.inr (hv1.not_row (by decide) hown).symm)

theorem run_min_int {P : Program} {w : World} {a : Act} {o : Oper} {x y : Operand} {t1 t2 : TypeId} {k : IntKind} {m n : Int} (ho : o.op = .call { callee := .builtin .min, args := #[x, y], argTypes := #[t1, t2] }) (hx : a.eval x = .int k m) (hy : a.eval y = .int k n) :
    (execOp a.eval o).run P w = .ok (.value (.int k (min m n))) w := by
  unfold execOp; simp only [ho, resolve, invoke, builtin, Sem.run_bind, Sem.run_pure, Result.andThen_ok, List.map_toArray, List.map_cons, List.map_nil, hx, hy]
  simp [go_sem, Builtin.min_, Builtin.min2]
  by_cases h : n < m
  · rw [if_pos h]; omega
  · rw [if_neg h]; omega

theorem byteOf3 (f : Nat → Int) (n : Nat) (h : ∀ i, i < n → (Lit.int .u8 (f i)).wf = true) : ∀ i, i < n → 0 ≤ f i ∧ f i < 256 := fun i hi => by have := bounds_u8 (h i hi); omega
theorem wordOf3 (f : Nat → Int) (n : Nat) (h : ∀ i, i < n → (Lit.int .u32 (f i)).wf = true) : ∀ i, i < n → 0 ≤ f i ∧ f i < 4294967296 := fun i hi => by have := bounds_u32 (h i hi); omega

set_option maxRecDepth 100000 in
set_option maxHeartbeats 6400000 in
theorem chachaBlocks_law (w : World) (key nonce : Nat → Int) (c : Int) (hk : ∀ i, i < 32 → (Lit.int .u8 (key i)).wf = true) (hn : ∀ i, i < 12 → (Lit.int .u8 (nonce i)).wf = true) (hc : (Lit.int .u32 c).wf = true)
    (g : Nat → Int) (hg : ∀ i, i < 4 → (Lit.int .u32 (g i)).wf = true) :
    Calls Try.prog 6 #[.agg (caseV key nonce c), .agg (arr .u32 4 g)] w fun e w' => e = .returned (.bool true) ∧ Below w.heap.size w w' := by
  have HK := Lib.hid (byteOf3 key 32 hk)
  have HN := Lib.hid (byteOf3 nonce 12 hn)
  have HG := Lib.hid (wordOf3 g 4 hg)
  have hcb : 0 ≤ c ∧ c < 4294967296 := by have := bounds_u32 hc; omega
  have HCB := Lib.hid hcb
  obtain ⟨c0, cc1⟩ := hcb
  clear hk hn hc hg
  refine (callsIn_wide (n := 9)).1 ?_
  refine callsIn_of_wp_marks Try.func6 rfl trivial ?_ rfl
  simp only [Try.ntmps6, List.size_toArray, List.length_cons, List.length_nil, Nat.reduceAdd, Nat.reduceSub, Array.replicate_succ, Array.replicate_zero, List.push_toArray, List.append_toArray, List.nil_append, List.cons_append]
  refine wpIn_wide.2 ?_
  go_upto_region 1 with (fail)
  refine wp_world (fun w1 => CaseAt w1 w.heap.size key nonce c ∧ Arr .u32 w1 (w.heap.size + 1) 4 g ∧ Below w.heap.size w w1) ⟨?_, ?_, ?_⟩ ?_
  · exact (CaseAt.new _ _ _ _ _).kept ((Below.refl _ _).alloc (Nat.le_refl _) _)
  · exact Arr.newAt (by simp) (by rfl)
  · exact ((Below.refl _ _).alloc (Nat.le_refl _) _).alloc (by simp) _
  rintro w1 ⟨hA1, hG1, hb1⟩
  go_wp2_with fail
  refine (chAwake_any _).mono ?_
  rintro e w2 ⟨rfl, hb2⟩
  have hA2 := hA1.kept hb2
  have hG2 := hG1.kept hb2
  have hbel2 := hb1.trans (hb2.mono hb1.size)
  clear hA1 hG1 hb1 hb2
  obtain ⟨TG, hR2⟩ := hG2.rows
  have e0 := hR2.cell 0 (by decide)
  have e1 := hR2.cell 1 (by decide)
  have e2 := hR2.cell 2 (by decide)
  have e3 := hR2.cell 3 (by decide)
  have HR2 := Lib.hid hR2
  clear hR2 hG2
  go_wp2_with fail
  refine (Quarter_any (g 0) (g 1) (g 2) (g 3) (HG.out 0 (by decide)) (HG.out 1 (by decide)) (HG.out 2 (by decide)) (HG.out 3 (by decide)) _).mono ?_
  rintro e w3 ⟨rfl, rfl⟩
  clear e0 e1 e2 e3
  go_wp2_with fail
  refine (rQuarter_any (w.heap.size + 1) 4 4 TG g 0 1 2 3 (by decide) (by decide) (by decide) HG.out _ HR2.out).mono ?_
  rintro e w4 ⟨q, rfl, hR4, hgr4⟩
  have hA4 := hA2.grown hgr4 (by omega)
  have hbel4 := below_gr hbel2 hgr4 (by omega) hbel2.size
  have e0 : w4.cell? ⟨w.heap.size + 1, 0, none⟩ = some (.int .u32 (qA (g 0) (g 1) (g 2) (g 3))) := hR4.cell 0 (by decide)
  have e1 : w4.cell? ⟨w.heap.size + 1, 1, none⟩ = some (.int .u32 (qB (g 0) (g 1) (g 2) (g 3))) := hR4.cell 1 (by decide)
  have e2 : w4.cell? ⟨w.heap.size + 1, 2, none⟩ = some (.int .u32 (qC (g 0) (g 1) (g 2) (g 3))) := hR4.cell 2 (by decide)
  have e3 : w4.cell? ⟨w.heap.size + 1, 3, none⟩ = some (.int .u32 (qD (g 0) (g 1) (g 2) (g 3))) := hR4.cell 3 (by decide)
  clear hA2 hbel2 HR2 hR4 hgr4
  go_upto_region 8 with (fail)
  clear e0 e1 e2 e3
  have ec4 := hA4.count
  refine region_vars (n := 112) (by kernel_rfl) (by kernel_rfl) (by kernel_rfl) rfl
    (isAl [(8, 7)]) (putOf [(8, 7)]) (fun _ => arr .u8 64 (fun _ => 0)) (fun _ => (arr .u8 64 (blkB key nonce c))) (fun _ => 48) (fun _ => 10)
    (fun ii vv _ => (match ii with | 0 => vv = .pointer (some ⟨w.heap.size, 0, none⟩) | 1 => vv = .agg (arr .u8 32 (key)) | 2 => vv = .pointer (some ⟨w.heap.size, 32, none⟩) | 3 => vv = .agg (arr .u8 12 (nonce)) | 4 => vv = .pointer (some ⟨w.heap.size, 44, none⟩) | 5 => vv = .int .u32 (c) | 6 => vv = .agg (arr .u8 64 (blkB key nonce c)) | _ => True)) (fun _ _ => True) (fun _ _ _ => trivial) (fun _ _ _ _ _ _ _ => trivial) (fun _ _ _ _ h _ => h)
    (vs_al rfl) (vs_inj rfl) ?_ ?_ ?_ ?_
  · refine Each.all ?_
    refine ⟨?_, ?_, ?_, ?_, ?_, ?_, ?_, (fun h => by cases h), (fun _ h => by cases h), trivial⟩
    · intro _ _ a w2 hB hF hd
      rw [if_pos (wanted_none rfl)]
      refine flow_val (fun h => by cases h) (run_field_at (m := 31) (k := 0) rfl (hF.same 2 rfl) (by kernel_rfl)) ?_
      exact rfl
    · intro _ _ a w2 hB hF hd
      rw [if_pos (wanted_none rfl)]
      exact flow_val (fun h => by cases h) (run_load_part rfl (hd 0 _ rfl rfl rfl (waits_spec rfl)) Try.underlying38 Try.size38 (fun i hi => (hB.cell (p := ⟨w.heap.size, 0 + i, none⟩) hA4.lt).trans (hA4.key i hi))) rfl
    · intro _ _ a w2 hB hF hd
      rw [if_pos (wanted_none rfl)]
      refine flow_val (fun h => by cases h) (run_field_at (m := 11) (k := 32) rfl (hF.same 2 rfl) (by kernel_rfl)) ?_
      exact rfl
    · intro _ _ a w2 hB hF hd
      rw [if_pos (wanted_none rfl)]
      exact flow_val (fun h => by cases h) (run_load_part rfl (hd 2 _ rfl rfl rfl (waits_spec rfl)) Try.underlying39 Try.size39 (fun i hi => (hB.cell (p := ⟨w.heap.size, 32 + i, none⟩) hA4.lt).trans (hA4.nonce i hi))) rfl
    · intro _ _ a w2 hB hF hd
      rw [if_pos (wanted_none rfl)]
      refine flow_val (fun h => by cases h) (run_field_at (m := 0) (k := 44) rfl (hF.same 2 rfl) (by kernel_rfl)) ?_
      exact rfl
    · intro _ _ a w2 hB hF hd
      rw [if_pos (wanted_none rfl)]
      exact flow_val (fun h => by cases h) (run_load_cell rfl (hd 4 _ rfl rfl rfl (waits_spec rfl)) Try.underlying40 ((hB.cell (p := ⟨w.heap.size, 44, none⟩) hA4.lt).trans ec4)) rfl
    · intro _ _ a w2 hB hF hd
      rw [if_pos (wanted_none rfl)]
      refine flow_call _ _ _ rfl Try.call26 _ (args3 (hd 1 _ rfl rfl rfl (waits_spec rfl)) (hd 3 _ rfl rfl rfl (waits_spec rfl)) (hd 5 _ rfl rfl rfl (waits_spec rfl))) (by simp) ((chBlock_any key nonce c HK.out HN.out HCB.out _).mono ?_)
      rintro e w3 ⟨rfl, hb⟩; exact ⟨_, rfl, rfl, hb⟩
  · refine Each.all ?_
    refine ⟨(fun h => by cases h), (fun h => by cases h), (fun h => by cases h), (fun h => by cases h), (fun h => by cases h), (fun h => by cases h), (fun h => by cases h), ?_, (fun h => by cases h), trivial⟩
    · exact fun _ => ⟨rfl, rfl, fun a w2 K h => flow_alloc rfl rfl Try.zeroValue48 (by simp) h⟩
  · refine Each.all ?_
    refine ⟨(fun _ h => by cases h), (fun _ h => by cases h), (fun _ h => by cases h), (fun _ h => by cases h), (fun _ h => by cases h), (fun _ h => by cases h), (fun _ h => by cases h), (fun _ h => by cases h), ?_, trivial⟩
    · intro p hp
      obtain rfl : 7 = p := Option.some.inj hp
      exact ⟨rfl, rfl, ⟨_, rfl⟩, waits_spec rfl, fun a w2 b K hB hF hd hx hb h => flow_put rfl rfl Try.size48 hx (hd 6 _ rfl rfl rfl (waits_spec rfl)) hb h⟩
  · intro a w5 blk hB hF hS hv hfin hdis
    obtain ⟨v7, v7l, v7u⟩ := hv 7 _ rfl rfl
    have ha := puts_each rfl rfl hF [_, _, _, _, _, _, _, _, undef] rfl ⟨hS 0 _ rfl rfl rfl, hS 1 _ rfl rfl rfl, hS 2 _ rfl rfl rfl, hS 3 _ rfl rfl rfl, hS 4 _ rfl rfl rfl, hS 5 _ rfl rfl rfl, hS 6 _ rfl rfl rfl, v7, trivial, trivial⟩
    have f7 := hfin 8 _ 7 rfl rfl
    simp only [puts, Act.put, List.setIfInBounds_toArray, List.set_cons_succ, List.set_cons_zero] at ha
    subst ha
    have V7 : Arr .u8 w5 (blk 7) 64 (blkB key nonce c) := ⟨_, f7⟩
    clear hS hv hfin hdis hF v7 f7
    have hA5 := hA4.kept hB
    have ec5 := hA5.count
    have hbel5 := hbel4.trans (hB.mono hbel4.size)
    have s05 := hA5.lt
    obtain ⟨x, hx⟩ : ∃ x, x = blk 7 := ⟨_, rfl⟩
    rw [← hx] at V7 ⊢
    have HV := Lib.hid V7
    have hxl := V7.lt
    clear hA4 ec4 hB hbel4 hx V7
    go_wp2_with (first
      | (refine load_part rfl 38 _ rfl .u8 w.heap.size 0 32 key 5 Try.underlying38 Try.size38 rfl hA5.key ?_)
      | (refine load_part rfl 39 _ rfl .u8 w.heap.size 32 12 nonce 5 Try.underlying39 Try.size39 rfl hA5.nonce ?_))
    refine (rBlock_any key nonce c HK.out HN.out HCB.out _).mono ?_
    rintro e w6 ⟨r, rfl, hO6, hb6⟩
    have hA6 := hA5.kept hb6
    have ec6 := hA6.count
    have hbel6 := hbel5.trans (hb6.mono hbel5.size)
    have HV6 := Lib.hid (HV.out.kept hb6)
    obtain ⟨sg, sc, rfl, g1, g2, g3, g4, gcell, _⟩ := hO6.form (by decide)
    have HO6 := Lib.hid hO6
    clear hA5 ec5 hb6 hbel5 HV gcell hO6
    go_wp2_with fail
    refine (same_yes _ _ 64 _ _ _ (HV6.out.rd (by decide)) HO6.out.rd (fun _ _ => rfl)).mono ?_
    rintro e w7 ⟨rfl, hb7⟩
    have s67 := hb7.size
    have hA7 := hA6.kept hb7
    have ec7 := hA7.count
    have hbel7 := hbel6.trans (hb7.mono hbel6.size)
    have HO7 := Lib.hid (HO6.out.below hb7)
    clear hA6 ec6 hb7 hbel6 HV6 HO6
    by_cases hcm : c < 4294967295
    case' pos =>
      go_wp2_with (first
      | (refine load_part rfl 38 _ rfl .u8 w.heap.size 0 32 key 5 Try.underlying38 Try.size38 rfl hA7.key ?_)
      | (refine load_part rfl 39 _ rfl .u8 w.heap.size 32 12 nonce 5 Try.underlying39 Try.size39 rfl hA7.nonce ?_))
      refine (rBlock_any key nonce (c + 1) HK.out HN.out ⟨by omega, by omega⟩ _).mono ?_
      rintro e w8 ⟨r2, rfl, hO8, hb8⟩
      have s78 := hb8.size
      have hA8 := hA7.kept hb8
      have ec8 := hA8.count
      have hbel8 := hbel7.trans (hb8.mono hbel7.size)
      have HO8 := Lib.hid ((HO7.out.below hb8).congr (g := strB key nonce c) (fun i hi => strB_lo key nonce c hi))
      have HR8 := Lib.hid hO8.rd
      obtain ⟨sh, sd, rfl, j1, j2, j3, j4, jcell, _⟩ := hO8.form (by decide)
      clear jcell hO8 hb8 hA7 ec7 hbel7 HO7
      have b5 : w5.heap.size ≤ w8.heap.size := by omega
      go_upto_region 14 with (refine append_rd rfl _ _ 23 rfl w5.heap.size 5 .u8 1 Try.underlying23 Try.info5 _ 64 (strB key nonce c) HO8.out rfl _ 64 _ HR8.out rfl (fun i hi => strB_hi key nonce c hi) (by decide) (by decide) b5 ?_; intro v9 w9 hO9 hgr9)
      have HW := Lib.hid hO9.rd
      have hA9 : CaseAt w9 w.heap.size key nonce c := hA8.grown' hgr9 (fun e => by have := World.ownsRow.lt HO8.out _ e; have := hbel8.size; omega)
      have hbel9 := below_grown hbel8 hgr9 HO8.out hbel8.size (by omega)
      obtain ⟨M, hM⟩ : ∃ M : Nat, M = 64 + 64 := ⟨_, rfl⟩
      rw [← hM] at HW
      have hM1 : M ≤ 64 * (4294967296 - c.toNat) ∧ (100 ≤ M ∨ M = 64 * (4294967296 - c.toNat)) ∧ M ≤ 128 := by omega
      clear hM hA8 ec8 hbel8 HO8 HR8 hO9 hgr9
    case' neg =>
      go_upto_region 14 with (fail)
      obtain ⟨w9, hw9⟩ : ∃ w9, w9 = w7 := ⟨_, rfl⟩
      subst hw9
      have hA9 := hA7
      have hbel9 := hbel7
      have HW := Lib.hid ((HO7.out.congr (g := strB key nonce c) (fun i hi => strB_lo key nonce c hi)).rd)
      obtain ⟨v9, hv9⟩ : ∃ v9, v9 = Value.slice (some ⟨sg, 0, none⟩) 64 sc := ⟨_, rfl⟩
      rw [← hv9] at HW ⊢
      obtain ⟨M, hM⟩ : ∃ M : Nat, M = 64 := ⟨_, rfl⟩
      rw [← hM] at HW
      have hM1 : M ≤ 64 * (4294967296 - c.toNat) ∧ (100 ≤ M ∨ M = 64 * (4294967296 - c.toNat)) ∧ M ≤ 128 := by omega
      clear hM hA7 ec7 hbel7 HO7 hv9
    case pos =>
      obtain ⟨la, lc, rfl, q1, q2, q3, q4⟩ := id HW.out
      clear q3 q4
      go_upto_region 15 with (fail)
      refine wp_world (fun w10 => CaseAt w10 w.heap.size key nonce c ∧ Boxed w10 w9.heap.size 23 (.slice none 0 0) ∧ Below w9.heap.size w9 w10 ∧ w10.heap.size = w9.heap.size + 1) ⟨hA9.kept ((Below.refl _ _).alloc (Nat.le_refl _) _), Boxed.new _ _ _, (Below.refl _ _).alloc (Nat.le_refl _) _, by simp⟩ ?_
      rintro w10 ⟨hA10, hx10, hb10, hs10⟩
      have ec10 := hA10.count
      have hlw9 := hA9.lt
      clear hA9
      go_wp2_with (first
      | (refine load_part rfl 38 _ rfl .u8 w.heap.size 0 32 key 5 Try.underlying38 Try.size38 rfl hA10.key ?_)
      | (refine load_part rfl 39 _ rfl .u8 w.heap.size 32 12 nonce 5 Try.underlying39 Try.size39 rfl hA10.nonce ?_))
      refine (stream_any key nonce c _).mono ?_
      rintro e w11 ⟨rfl, hK4, hN4, hc4, hb11, hs11⟩
      rw [hs10] at hK4 hN4 hc4 hs11 ⊢
      obtain ⟨bg, hbg⟩ : ∃ bg, bg = w9.heap.size := ⟨_, rfl⟩
      have hx11 : Boxed w11 bg 23 (.slice none 0 0) := by
        have := hx10.lt
        unfold Boxed; rw [hbg, hb11.block _ this]; exact hx10
      have hbel11 : Below bg w9 w11 := by rw [hbg]; exact hb10.trans (hb11.mono hb10.size)
      have HBG := Lib.hid hbg
      rw [← hbg] at hK4 hN4 hc4 hs11 hlw9 ⊢
      clear hA10 hx10 hb10 hs10 ec10 hb11 hbg
      go_wp2
      have hstop := stream_stops 8 (by decide) key nonce c HK.out HN.out ⟨c0, cc1⟩ (bg + 1 + 2) (bg + 1) (bg + 1 + 1) (bg + 1) (bg + 1 + 3) w11 (by omega) (by omega) (by omega) hc4 hK4 hN4
      refine (wpIn_wide (n := 9)).1 ?_
      refine wpIn_rangeFunc_ownF (F := Fence.wide) (n := 9) rfl (by decide) (gf := 56) rfl trivial (enters_of Try.func56 (by kernel_rfl) rfl) hstop (fun h k => KeepB.trans h k) (keepB_b (by omega)) (Below.refl _ _) (fun _ => rfl)
        (fun pre W => pre.length < 100 ∧ GotI w9 bg pre W) (fun cd pre W => GotI w9 bg pre W ∧ (pre.length = 100 ∧ cd = Code.exit 0)) ?hI1 ?hIx1 ?h01 ?a11 ?assign1 ?body1 ?done1 ?stop1
      case assign1 =>
        intro l x W K hK
        gi_wp2
        exact hK
      case hI1 => exact fun s W W' row hs hg hr => ⟨hs.1, gotI_own w9 bg _ (by omega) s W W' row hs.2 hg hr⟩
      case hIx1 => exact fun _ => OwnFrom.and (gotI_own w9 bg _ (by omega)) (ownFrom_pure _ _)
      case h01 => exact ⟨by decide, _, hx11, Go.Bas.Own.nil _ _ _ _ _, hbel11, by omega⟩
      case body1 =>
        rintro l pre x W ⟨hl, v, i2, i3, i5, i6⟩ _
        have hc2 := i2.cell
        have hO := Lib.hid (i3.congr (g := fun i => (pre ++ [x]).getD i 0) (fun i hi => by simp [List.getD, List.getElem?_append_left hi]))
        have hxx := Lib.hid (show (pre ++ [x]).getD pre.length 0 = x by simp)
        have hLen : (pre ++ [x]).length = pre.length + 1 := by simp
        have HLen := Lib.hid hLen
        clear hLen
        by_cases h99 : pre.length = 99
        · have t1 : ((pre.length : Int) + 1 == 100) = true := by simp; omega
          have H99 := Lib.hid h99
          clear h99
          gi_wp2_with (gi_at_builtin; refine append_rdIn rfl _ _ 23 rfl (bg + 4) 5 .u8 1 Try.underlying23 Try.info5 _ pre.length (fun i => (pre ++ [x]).getD i 0) (hO.out.alloc _) rfl _ 1 _ lit1_rd rfl (one_at2 (f := fun i => (pre ++ [x]).getD i 0) hxx.out) (by omega) (by omega) (by simp; omega) ?_; intro v7 w7 hown hgrow; obtain ⟨g', cap', rfl⟩ := ownsRow_succ hown; obtain ⟨hv1, hv2, hr2, hk2, hb2⟩ := Boxed.appended (n₀ := bg) i2 (by decide) (i3.mono (by omega)) (by omega) (Nat.le_refl _) (Go.Bas.Own.mono hown (by omega)) hgrow; have hc1 := hv1.cell; have hf1 := hv1.frozen)
          obtain ⟨k1, k2, k3⟩ := goti_step i2 i3 i5 i6 hown hgrow
          exact ⟨k1, k3, by have := HLen.out; have := H99.out; omega, rfl⟩
        · have t1 : ((pre.length : Int) + 1 == 100) = false := by simp; omega
          gi_wp2_with (gi_at_builtin; refine append_rdIn rfl _ _ 23 rfl (bg + 4) 5 .u8 1 Try.underlying23 Try.info5 _ pre.length (fun i => (pre ++ [x]).getD i 0) (hO.out.alloc _) rfl _ 1 _ lit1_rd rfl (one_at2 (f := fun i => (pre ++ [x]).getD i 0) hxx.out) (by omega) (by omega) (by simp; omega) ?_; intro v7 w7 hown hgrow; obtain ⟨g', cap', rfl⟩ := ownsRow_succ hown; obtain ⟨hv1, hv2, hr2, hk2, hb2⟩ := Boxed.appended (n₀ := bg) i2 (by decide) (i3.mono (by omega)) (by omega) (Nat.le_refl _) (Go.Bas.Own.mono hown (by omega)) hgrow; have hc1 := hv1.cell; have hf1 := hv1.frozen)
          obtain ⟨k1, k2, k3⟩ := goti_step i2 i3 i5 i6 hown hgrow
          exact ⟨k1, k2, ⟨by have := HLen.out; omega, k3⟩⟩
      case done1 =>
        rintro D ys W hD rfl ⟨hlt, hI⟩ hKD
        rw [firsts_length] at hlt
        obtain ⟨N, hN⟩ : ∃ N, N = 64 * (4294967296 - c.toNat) := ⟨_, rfl⟩
        rw [← hN] at hlt hI
        obtain ⟨v, i2, i3, i5, i6⟩ := hI
        have hc2 := i2.cell
        have hlc := i2.lt
        have hrd := i3.rd
        rw [firsts_length] at hrd
        have hrd2 := hrd.congr (g := strB key nonce c) (fun i hi => firsts_get _ hi)
        have HRD := Lib.hid hrd2
        have i5' := i5
        rw [HBG.out] at i5'
        have HWW := Lib.hid (HW.out.below i5')
        have hbelW := hbel9.trans ((HBG.out ▸ i5 : Below w9.heap.size w9 W).mono hbel9.size)
        have hwD : w.heap.size ≤ D := by omega
        have hmin : min (M : Int) 100 = (N : Int) := by omega
        have G1 := Lib.hid (Rd.head (P := Try.prog) Try.underlying23 Try.info5 la M lc N (by omega) q1)
        clear i3 hrd hrd2 i5' i2
        go_upto_region 19 with (fail)
        refine region_flow (n := 112) (by kernel_rfl) (by kernel_rfl) (by kernel_rfl) rfl
          (fun ii vv ww => (match ii with | 1 | 2 => vv = .slice la M lc | 3 => vv = .int .i64 ((M : Int)) | 4 => vv = .int .i64 ((N : Int)) | 5 => vv = .slice la N lc | 6 | 7 => vv = .bool true | _ => True) ∧ (ii = 0 → Rd .u8 ww vv N (strB key nonce c)))
          (fun w w' => Below w.heap.size w w') (fun _ _ h => h) (fun i v w w' h hE => ⟨h.1, fun e => Rd.below (h.2 e) hE⟩) ?_ ?_
        · refine Each.all ?_
          refine ⟨?_, ?_, ?_, ?_, ?_, ?_, ?_, ?_, trivial⟩
          · intro a w2 hB hF hd
            rw [if_pos (wanted_none rfl)]
            exact flow_val (fun h => by cases h) (run_load_slice rfl (hF.same 12 rfl) Try.underlying23 ((hB.cell (p := ⟨bg, 0, none⟩) hlc).trans hc2)) ⟨trivial, fun _ => (HRD.out.below hB)⟩
          · intro a w2 hB hF hd
            rw [if_pos (wanted_none rfl)]
            exact flow_move _ (.inl rfl) (by simp) ⟨(hF.same 11 rfl), fun h => absurd h (by decide)⟩
          · intro a w2 hB hF hd
            rw [if_pos (wanted_none rfl)]
            exact flow_move _ (.inl rfl) (by simp) ⟨(hF.same 11 rfl), fun h => absurd h (by decide)⟩
          · intro a w2 hB hF hd
            rw [if_pos (wanted_none rfl)]
            exact flow_val (fun h => by cases h) (run_len_sl rfl ((hd 2 _ rfl (waits_spec rfl)).1) Try.underlying23) ⟨rfl, fun h => absurd h (by decide)⟩
          · intro a w2 hB hF hd
            rw [if_pos (wanted_none rfl)]
            exact flow_val (fun h => by cases h) (run_min_int rfl ((hd 3 _ rfl (waits_spec rfl)).1) rfl) ⟨(congrArg (Value.int .i64) hmin), fun h => absurd h (by decide)⟩
          · intro a w2 hB hF hd
            rw [if_pos (wanted_none rfl)]
            exact flow_val (fun h => by cases h) (run_slice_part rfl ((hd 1 _ rfl (waits_spec rfl)).1) (by simp only [Option.map_some, Option.map_none, show a.eval (Operand.tmp 109) = .int .i64 ((N : Int)) from ((hd 4 _ rfl (waits_spec rfl)).1)]; exact G1.out.1 _)) ⟨rfl, fun h => absurd h (by decide)⟩
          · intro a w2 hB hF hd
            rw [if_pos (wanted_none rfl)]
            refine flow_call _ _ _ rfl Try.call18 _ (args2 rfl ((hd 5 _ rfl (waits_spec rfl)).1)) (by simp) ((same_yes _ _ N _ _ _ ((hd 0 _ rfl (waits_spec rfl)).2 rfl) (G1.out.2 _ _ (HWW.out.below hB)) (fun _ _ => rfl)).mono ?_)
            rintro e w3 ⟨rfl, hb⟩; exact ⟨_, rfl, ⟨rfl, fun h => absurd h (by decide)⟩, hb⟩
          · intro a w2 hB hF hd
            rw [if_pos (wanted_none rfl)]
            exact flow_move _ (.inr rfl) (by simp) ⟨((hd 6 _ rfl (waits_spec rfl)).1), fun h => absurd h (by decide)⟩
        · intro a w12 hB hF hS
          obtain ⟨x105, hx105⟩ : ∃ x, x = a.tmps.getD 105 undef := ⟨_, rfl⟩
          have P105 : Rd .u8 w12 x105 N (strB key nonce c) := by rw [hx105]; exact (hS 0 _ rfl).2 rfl
          have ha := puts_each rfl rfl hF [x105, _, _, _, _, _, _, _] rfl ⟨hx105.symm, (hS 1 _ rfl).1, (hS 2 _ rfl).1, (hS 3 _ rfl).1, (hS 4 _ rfl).1, (hS 5 _ rfl).1, (hS 6 _ rfl).1, (hS 7 _ rfl).1, trivial⟩
          simp only [puts, Act.put, List.setIfInBounds_toArray, List.set_cons_succ, List.set_cons_zero] at ha
          subst ha
          clear hx105
          clear hS hF
          have hKD2 : w12.heap[D]? = some (.deferred (some [])) := (hB.block D (Array.getElem?_eq_some_iff.1 hKD).1).trans hKD
          have hbel12 : Below w.heap.size w w12 := hbelW.trans (hB.mono hbelW.size)
          have hbelD := hbel12.trans (belowK_b (w := w) (Nat.le_refl _) w12 D _ (.deferred none) hwD hKD2 rfl rfl)
          go_wp2
          refine ⟨by simp, .inl ⟨_, _, rfl, run_takeDeferred hKD2, ?_⟩⟩
          exact ⟨.bool true, by simp [results, Try.results6], rfl, hbelD⟩
      case stop1 =>
        rintro D cd pre W hD ⟨N, hk, rfl⟩ ⟨hI, hlt, rfl⟩ hKD
        rw [firsts_length] at hlt
        obtain ⟨v, i2, i3, i5, i6⟩ := hI
        have hc2 := i2.cell
        have hlc := i2.lt
        have hrd := i3.rd
        rw [firsts_length] at hrd
        have hrd2 := hrd.congr (g := strB key nonce c) (fun i hi => firsts_get _ hi)
        have HRD := Lib.hid hrd2
        have i5' := i5
        rw [HBG.out] at i5'
        have HWW := Lib.hid (HW.out.below i5')
        have hbelW := hbel9.trans ((HBG.out ▸ i5 : Below w9.heap.size w9 W).mono hbel9.size)
        have hwD : w.heap.size ≤ D := by omega
        have hmin : min (M : Int) 100 = (N : Int) := by omega
        have G1 := Lib.hid (Rd.head (P := Try.prog) Try.underlying23 Try.info5 la M lc N (by omega) q1)
        clear i3 hrd hrd2 i5' i2
        gi_wp2
        go_upto_region 19 with (fail)
        refine region_flow (n := 112) (by kernel_rfl) (by kernel_rfl) (by kernel_rfl) rfl
          (fun ii vv ww => (match ii with | 1 | 2 => vv = .slice la M lc | 3 => vv = .int .i64 ((M : Int)) | 4 => vv = .int .i64 ((N : Int)) | 5 => vv = .slice la N lc | 6 | 7 => vv = .bool true | _ => True) ∧ (ii = 0 → Rd .u8 ww vv N (strB key nonce c)))
          (fun w w' => Below w.heap.size w w') (fun _ _ h => h) (fun i v w w' h hE => ⟨h.1, fun e => Rd.below (h.2 e) hE⟩) ?_ ?_
        · refine Each.all ?_
          refine ⟨?_, ?_, ?_, ?_, ?_, ?_, ?_, ?_, trivial⟩
          · intro a w2 hB hF hd
            rw [if_pos (wanted_none rfl)]
            exact flow_val (fun h => by cases h) (run_load_slice rfl (hF.same 12 rfl) Try.underlying23 ((hB.cell (p := ⟨bg, 0, none⟩) hlc).trans hc2)) ⟨trivial, fun _ => (HRD.out.below hB)⟩
          · intro a w2 hB hF hd
            rw [if_pos (wanted_none rfl)]
            exact flow_move _ (.inl rfl) (by simp) ⟨(hF.same 11 rfl), fun h => absurd h (by decide)⟩
          · intro a w2 hB hF hd
            rw [if_pos (wanted_none rfl)]
            exact flow_move _ (.inl rfl) (by simp) ⟨(hF.same 11 rfl), fun h => absurd h (by decide)⟩
          · intro a w2 hB hF hd
            rw [if_pos (wanted_none rfl)]
            exact flow_val (fun h => by cases h) (run_len_sl rfl ((hd 2 _ rfl (waits_spec rfl)).1) Try.underlying23) ⟨rfl, fun h => absurd h (by decide)⟩
          · intro a w2 hB hF hd
            rw [if_pos (wanted_none rfl)]
            exact flow_val (fun h => by cases h) (run_min_int rfl ((hd 3 _ rfl (waits_spec rfl)).1) rfl) ⟨(congrArg (Value.int .i64) hmin), fun h => absurd h (by decide)⟩
          · intro a w2 hB hF hd
            rw [if_pos (wanted_none rfl)]
            exact flow_val (fun h => by cases h) (run_slice_part rfl ((hd 1 _ rfl (waits_spec rfl)).1) (by simp only [Option.map_some, Option.map_none, show a.eval (Operand.tmp 109) = .int .i64 ((N : Int)) from ((hd 4 _ rfl (waits_spec rfl)).1)]; exact G1.out.1 _)) ⟨rfl, fun h => absurd h (by decide)⟩
          · intro a w2 hB hF hd
            rw [if_pos (wanted_none rfl)]
            refine flow_call _ _ _ rfl Try.call18 _ (args2 rfl ((hd 5 _ rfl (waits_spec rfl)).1)) (by simp) ((same_yes _ _ N _ _ _ ((hd 0 _ rfl (waits_spec rfl)).2 rfl) (G1.out.2 _ _ (HWW.out.below hB)) (fun _ _ => rfl)).mono ?_)
            rintro e w3 ⟨rfl, hb⟩; exact ⟨_, rfl, ⟨rfl, fun h => absurd h (by decide)⟩, hb⟩
          · intro a w2 hB hF hd
            rw [if_pos (wanted_none rfl)]
            exact flow_move _ (.inr rfl) (by simp) ⟨((hd 6 _ rfl (waits_spec rfl)).1), fun h => absurd h (by decide)⟩
        · intro a w12 hB hF hS
          obtain ⟨x105, hx105⟩ : ∃ x, x = a.tmps.getD 105 undef := ⟨_, rfl⟩
          have P105 : Rd .u8 w12 x105 N (strB key nonce c) := by rw [hx105]; exact (hS 0 _ rfl).2 rfl
          have ha := puts_each rfl rfl hF [x105, _, _, _, _, _, _, _] rfl ⟨hx105.symm, (hS 1 _ rfl).1, (hS 2 _ rfl).1, (hS 3 _ rfl).1, (hS 4 _ rfl).1, (hS 5 _ rfl).1, (hS 6 _ rfl).1, (hS 7 _ rfl).1, trivial⟩
          simp only [puts, Act.put, List.setIfInBounds_toArray, List.set_cons_succ, List.set_cons_zero] at ha
          subst ha
          clear hx105
          clear hS hF
          have hKD2 : w12.heap[D]? = some (.deferred (some [])) := (hB.block D (Array.getElem?_eq_some_iff.1 hKD).1).trans hKD
          have hbel12 : Below w.heap.size w w12 := hbelW.trans (hB.mono hbelW.size)
          have hbelD := hbel12.trans (belowK_b (w := w) (Nat.le_refl _) w12 D _ (.deferred none) hwD hKD2 rfl rfl)
          go_wp2
          refine ⟨by simp, .inl ⟨_, _, rfl, run_takeDeferred hKD2, ?_⟩⟩
          exact ⟨.bool true, by simp [results, Try.results6], rfl, hbelD⟩
    case neg =>
      obtain ⟨la, lc, rfl, q1, q2, q3, q4⟩ := id HW.out
      clear q3 q4
      go_upto_region 15 with (fail)
      refine wp_world (fun w10 => CaseAt w10 w.heap.size key nonce c ∧ Boxed w10 w9.heap.size 23 (.slice none 0 0) ∧ Below w9.heap.size w9 w10 ∧ w10.heap.size = w9.heap.size + 1) ⟨hA9.kept ((Below.refl _ _).alloc (Nat.le_refl _) _), Boxed.new _ _ _, (Below.refl _ _).alloc (Nat.le_refl _) _, by simp⟩ ?_
      rintro w10 ⟨hA10, hx10, hb10, hs10⟩
      have ec10 := hA10.count
      have hlw9 := hA9.lt
      clear hA9
      go_wp2_with (first
      | (refine load_part rfl 38 _ rfl .u8 w.heap.size 0 32 key 5 Try.underlying38 Try.size38 rfl hA10.key ?_)
      | (refine load_part rfl 39 _ rfl .u8 w.heap.size 32 12 nonce 5 Try.underlying39 Try.size39 rfl hA10.nonce ?_))
      refine (stream_any key nonce c _).mono ?_
      rintro e w11 ⟨rfl, hK4, hN4, hc4, hb11, hs11⟩
      rw [hs10] at hK4 hN4 hc4 hs11 ⊢
      obtain ⟨bg, hbg⟩ : ∃ bg, bg = w9.heap.size := ⟨_, rfl⟩
      have hx11 : Boxed w11 bg 23 (.slice none 0 0) := by
        have := hx10.lt
        unfold Boxed; rw [hbg, hb11.block _ this]; exact hx10
      have hbel11 : Below bg w9 w11 := by rw [hbg]; exact hb10.trans (hb11.mono hb10.size)
      have HBG := Lib.hid hbg
      rw [← hbg] at hK4 hN4 hc4 hs11 hlw9 ⊢
      clear hA10 hx10 hb10 hs10 ec10 hb11 hbg
      go_wp2
      have hstop := stream_stops 8 (by decide) key nonce c HK.out HN.out ⟨c0, cc1⟩ (bg + 1 + 2) (bg + 1) (bg + 1 + 1) (bg + 1) (bg + 1 + 3) w11 (by omega) (by omega) (by omega) hc4 hK4 hN4
      refine (wpIn_wide (n := 9)).1 ?_
      refine wpIn_rangeFunc_ownF (F := Fence.wide) (n := 9) rfl (by decide) (gf := 56) rfl trivial (enters_of Try.func56 (by kernel_rfl) rfl) hstop (fun h k => KeepB.trans h k) (keepB_b (by omega)) (Below.refl _ _) (fun _ => rfl)
        (fun pre W => pre.length < 100 ∧ GotI w9 bg pre W) (fun cd pre W => GotI w9 bg pre W ∧ (pre.length = 100 ∧ cd = Code.exit 0)) ?hI2 ?hIx2 ?h02 ?a12 ?assign2 ?body2 ?done2 ?stop2
      case assign2 =>
        intro l x W K hK
        gi_wp2
        exact hK
      case hI2 => exact fun s W W' row hs hg hr => ⟨hs.1, gotI_own w9 bg _ (by omega) s W W' row hs.2 hg hr⟩
      case hIx2 => exact fun _ => OwnFrom.and (gotI_own w9 bg _ (by omega)) (ownFrom_pure _ _)
      case h02 => exact ⟨by decide, _, hx11, Go.Bas.Own.nil _ _ _ _ _, hbel11, by omega⟩
      case body2 =>
        rintro l pre x W ⟨hl, v, i2, i3, i5, i6⟩ _
        have hc2 := i2.cell
        have hO := Lib.hid (i3.congr (g := fun i => (pre ++ [x]).getD i 0) (fun i hi => by simp [List.getD, List.getElem?_append_left hi]))
        have hxx := Lib.hid (show (pre ++ [x]).getD pre.length 0 = x by simp)
        have hLen : (pre ++ [x]).length = pre.length + 1 := by simp
        have HLen := Lib.hid hLen
        clear hLen
        by_cases h99 : pre.length = 99
        · have t1 : ((pre.length : Int) + 1 == 100) = true := by simp; omega
          have H99 := Lib.hid h99
          clear h99
          gi_wp2_with (gi_at_builtin; refine append_rdIn rfl _ _ 23 rfl (bg + 4) 5 .u8 1 Try.underlying23 Try.info5 _ pre.length (fun i => (pre ++ [x]).getD i 0) (hO.out.alloc _) rfl _ 1 _ lit1_rd rfl (one_at2 (f := fun i => (pre ++ [x]).getD i 0) hxx.out) (by omega) (by omega) (by simp; omega) ?_; intro v7 w7 hown hgrow; obtain ⟨g', cap', rfl⟩ := ownsRow_succ hown; obtain ⟨hv1, hv2, hr2, hk2, hb2⟩ := Boxed.appended (n₀ := bg) i2 (by decide) (i3.mono (by omega)) (by omega) (Nat.le_refl _) (Go.Bas.Own.mono hown (by omega)) hgrow; have hc1 := hv1.cell; have hf1 := hv1.frozen)
          obtain ⟨k1, k2, k3⟩ := goti_step i2 i3 i5 i6 hown hgrow
          exact ⟨k1, k3, by have := HLen.out; have := H99.out; omega, rfl⟩
        · have t1 : ((pre.length : Int) + 1 == 100) = false := by simp; omega
          gi_wp2_with (gi_at_builtin; refine append_rdIn rfl _ _ 23 rfl (bg + 4) 5 .u8 1 Try.underlying23 Try.info5 _ pre.length (fun i => (pre ++ [x]).getD i 0) (hO.out.alloc _) rfl _ 1 _ lit1_rd rfl (one_at2 (f := fun i => (pre ++ [x]).getD i 0) hxx.out) (by omega) (by omega) (by simp; omega) ?_; intro v7 w7 hown hgrow; obtain ⟨g', cap', rfl⟩ := ownsRow_succ hown; obtain ⟨hv1, hv2, hr2, hk2, hb2⟩ := Boxed.appended (n₀ := bg) i2 (by decide) (i3.mono (by omega)) (by omega) (Nat.le_refl _) (Go.Bas.Own.mono hown (by omega)) hgrow; have hc1 := hv1.cell; have hf1 := hv1.frozen)
          obtain ⟨k1, k2, k3⟩ := goti_step i2 i3 i5 i6 hown hgrow
          exact ⟨k1, k2, ⟨by have := HLen.out; omega, k3⟩⟩
      case done2 =>
        rintro D ys W hD rfl ⟨hlt, hI⟩ hKD
        rw [firsts_length] at hlt
        obtain ⟨N, hN⟩ : ∃ N, N = 64 * (4294967296 - c.toNat) := ⟨_, rfl⟩
        rw [← hN] at hlt hI
        obtain ⟨v, i2, i3, i5, i6⟩ := hI
        have hc2 := i2.cell
        have hlc := i2.lt
        have hrd := i3.rd
        rw [firsts_length] at hrd
        have hrd2 := hrd.congr (g := strB key nonce c) (fun i hi => firsts_get _ hi)
        have HRD := Lib.hid hrd2
        have i5' := i5
        rw [HBG.out] at i5'
        have HWW := Lib.hid (HW.out.below i5')
        have hbelW := hbel9.trans ((HBG.out ▸ i5 : Below w9.heap.size w9 W).mono hbel9.size)
        have hwD : w.heap.size ≤ D := by omega
        have hmin : min (M : Int) 100 = (N : Int) := by omega
        have G1 := Lib.hid (Rd.head (P := Try.prog) Try.underlying23 Try.info5 la M lc N (by omega) q1)
        clear i3 hrd hrd2 i5' i2
        go_upto_region 19 with (fail)
        refine region_flow (n := 112) (by kernel_rfl) (by kernel_rfl) (by kernel_rfl) rfl
          (fun ii vv ww => (match ii with | 1 | 2 => vv = .slice la M lc | 3 => vv = .int .i64 ((M : Int)) | 4 => vv = .int .i64 ((N : Int)) | 5 => vv = .slice la N lc | 6 | 7 => vv = .bool true | _ => True) ∧ (ii = 0 → Rd .u8 ww vv N (strB key nonce c)))
          (fun w w' => Below w.heap.size w w') (fun _ _ h => h) (fun i v w w' h hE => ⟨h.1, fun e => Rd.below (h.2 e) hE⟩) ?_ ?_
        · refine Each.all ?_
          refine ⟨?_, ?_, ?_, ?_, ?_, ?_, ?_, ?_, trivial⟩
          · intro a w2 hB hF hd
            rw [if_pos (wanted_none rfl)]
            exact flow_val (fun h => by cases h) (run_load_slice rfl (hF.same 12 rfl) Try.underlying23 ((hB.cell (p := ⟨bg, 0, none⟩) hlc).trans hc2)) ⟨trivial, fun _ => (HRD.out.below hB)⟩
          · intro a w2 hB hF hd
            rw [if_pos (wanted_none rfl)]
            exact flow_move _ (.inl rfl) (by simp) ⟨(hF.same 11 rfl), fun h => absurd h (by decide)⟩
          · intro a w2 hB hF hd
            rw [if_pos (wanted_none rfl)]
            exact flow_move _ (.inl rfl) (by simp) ⟨(hF.same 11 rfl), fun h => absurd h (by decide)⟩
          · intro a w2 hB hF hd
            rw [if_pos (wanted_none rfl)]
            exact flow_val (fun h => by cases h) (run_len_sl rfl ((hd 2 _ rfl (waits_spec rfl)).1) Try.underlying23) ⟨rfl, fun h => absurd h (by decide)⟩
          · intro a w2 hB hF hd
            rw [if_pos (wanted_none rfl)]
            exact flow_val (fun h => by cases h) (run_min_int rfl ((hd 3 _ rfl (waits_spec rfl)).1) rfl) ⟨(congrArg (Value.int .i64) hmin), fun h => absurd h (by decide)⟩
          · intro a w2 hB hF hd
            rw [if_pos (wanted_none rfl)]
            exact flow_val (fun h => by cases h) (run_slice_part rfl ((hd 1 _ rfl (waits_spec rfl)).1) (by simp only [Option.map_some, Option.map_none, show a.eval (Operand.tmp 109) = .int .i64 ((N : Int)) from ((hd 4 _ rfl (waits_spec rfl)).1)]; exact G1.out.1 _)) ⟨rfl, fun h => absurd h (by decide)⟩
          · intro a w2 hB hF hd
            rw [if_pos (wanted_none rfl)]
            refine flow_call _ _ _ rfl Try.call18 _ (args2 rfl ((hd 5 _ rfl (waits_spec rfl)).1)) (by simp) ((same_yes _ _ N _ _ _ ((hd 0 _ rfl (waits_spec rfl)).2 rfl) (G1.out.2 _ _ (HWW.out.below hB)) (fun _ _ => rfl)).mono ?_)
            rintro e w3 ⟨rfl, hb⟩; exact ⟨_, rfl, ⟨rfl, fun h => absurd h (by decide)⟩, hb⟩
          · intro a w2 hB hF hd
            rw [if_pos (wanted_none rfl)]
            exact flow_move _ (.inr rfl) (by simp) ⟨((hd 6 _ rfl (waits_spec rfl)).1), fun h => absurd h (by decide)⟩
        · intro a w12 hB hF hS
          obtain ⟨x105, hx105⟩ : ∃ x, x = a.tmps.getD 105 undef := ⟨_, rfl⟩
          have P105 : Rd .u8 w12 x105 N (strB key nonce c) := by rw [hx105]; exact (hS 0 _ rfl).2 rfl
          have ha := puts_each rfl rfl hF [x105, _, _, _, _, _, _, _] rfl ⟨hx105.symm, (hS 1 _ rfl).1, (hS 2 _ rfl).1, (hS 3 _ rfl).1, (hS 4 _ rfl).1, (hS 5 _ rfl).1, (hS 6 _ rfl).1, (hS 7 _ rfl).1, trivial⟩
          simp only [puts, Act.put, List.setIfInBounds_toArray, List.set_cons_succ, List.set_cons_zero] at ha
          subst ha
          clear hx105
          clear hS hF
          have hKD2 : w12.heap[D]? = some (.deferred (some [])) := (hB.block D (Array.getElem?_eq_some_iff.1 hKD).1).trans hKD
          have hbel12 : Below w.heap.size w w12 := hbelW.trans (hB.mono hbelW.size)
          have hbelD := hbel12.trans (belowK_b (w := w) (Nat.le_refl _) w12 D _ (.deferred none) hwD hKD2 rfl rfl)
          go_wp2
          refine ⟨by simp, .inl ⟨_, _, rfl, run_takeDeferred hKD2, ?_⟩⟩
          exact ⟨.bool true, by simp [results, Try.results6], rfl, hbelD⟩
      case stop2 =>
        rintro D cd pre W hD ⟨N, hk, rfl⟩ ⟨hI, hlt, rfl⟩ hKD
        rw [firsts_length] at hlt
        obtain ⟨v, i2, i3, i5, i6⟩ := hI
        have hc2 := i2.cell
        have hlc := i2.lt
        have hrd := i3.rd
        rw [firsts_length] at hrd
        have hrd2 := hrd.congr (g := strB key nonce c) (fun i hi => firsts_get _ hi)
        have HRD := Lib.hid hrd2
        have i5' := i5
        rw [HBG.out] at i5'
        have HWW := Lib.hid (HW.out.below i5')
        have hbelW := hbel9.trans ((HBG.out ▸ i5 : Below w9.heap.size w9 W).mono hbel9.size)
        have hwD : w.heap.size ≤ D := by omega
        have hmin : min (M : Int) 100 = (N : Int) := by omega
        have G1 := Lib.hid (Rd.head (P := Try.prog) Try.underlying23 Try.info5 la M lc N (by omega) q1)
        clear i3 hrd hrd2 i5' i2
        gi_wp2
        go_upto_region 19 with (fail)
        refine region_flow (n := 112) (by kernel_rfl) (by kernel_rfl) (by kernel_rfl) rfl
          (fun ii vv ww => (match ii with | 1 | 2 => vv = .slice la M lc | 3 => vv = .int .i64 ((M : Int)) | 4 => vv = .int .i64 ((N : Int)) | 5 => vv = .slice la N lc | 6 | 7 => vv = .bool true | _ => True) ∧ (ii = 0 → Rd .u8 ww vv N (strB key nonce c)))
          (fun w w' => Below w.heap.size w w') (fun _ _ h => h) (fun i v w w' h hE => ⟨h.1, fun e => Rd.below (h.2 e) hE⟩) ?_ ?_
        · refine Each.all ?_
          refine ⟨?_, ?_, ?_, ?_, ?_, ?_, ?_, ?_, trivial⟩
          · intro a w2 hB hF hd
            rw [if_pos (wanted_none rfl)]
            exact flow_val (fun h => by cases h) (run_load_slice rfl (hF.same 12 rfl) Try.underlying23 ((hB.cell (p := ⟨bg, 0, none⟩) hlc).trans hc2)) ⟨trivial, fun _ => (HRD.out.below hB)⟩
          · intro a w2 hB hF hd
            rw [if_pos (wanted_none rfl)]
            exact flow_move _ (.inl rfl) (by simp) ⟨(hF.same 11 rfl), fun h => absurd h (by decide)⟩
          · intro a w2 hB hF hd
            rw [if_pos (wanted_none rfl)]
            exact flow_move _ (.inl rfl) (by simp) ⟨(hF.same 11 rfl), fun h => absurd h (by decide)⟩
          · intro a w2 hB hF hd
            rw [if_pos (wanted_none rfl)]
            exact flow_val (fun h => by cases h) (run_len_sl rfl ((hd 2 _ rfl (waits_spec rfl)).1) Try.underlying23) ⟨rfl, fun h => absurd h (by decide)⟩
          · intro a w2 hB hF hd
            rw [if_pos (wanted_none rfl)]
            exact flow_val (fun h => by cases h) (run_min_int rfl ((hd 3 _ rfl (waits_spec rfl)).1) rfl) ⟨(congrArg (Value.int .i64) hmin), fun h => absurd h (by decide)⟩
          · intro a w2 hB hF hd
            rw [if_pos (wanted_none rfl)]
            exact flow_val (fun h => by cases h) (run_slice_part rfl ((hd 1 _ rfl (waits_spec rfl)).1) (by simp only [Option.map_some, Option.map_none, show a.eval (Operand.tmp 109) = .int .i64 ((N : Int)) from ((hd 4 _ rfl (waits_spec rfl)).1)]; exact G1.out.1 _)) ⟨rfl, fun h => absurd h (by decide)⟩
          · intro a w2 hB hF hd
            rw [if_pos (wanted_none rfl)]
            refine flow_call _ _ _ rfl Try.call18 _ (args2 rfl ((hd 5 _ rfl (waits_spec rfl)).1)) (by simp) ((same_yes _ _ N _ _ _ ((hd 0 _ rfl (waits_spec rfl)).2 rfl) (G1.out.2 _ _ (HWW.out.below hB)) (fun _ _ => rfl)).mono ?_)
            rintro e w3 ⟨rfl, hb⟩; exact ⟨_, rfl, ⟨rfl, fun h => absurd h (by decide)⟩, hb⟩
          · intro a w2 hB hF hd
            rw [if_pos (wanted_none rfl)]
            exact flow_move _ (.inr rfl) (by simp) ⟨((hd 6 _ rfl (waits_spec rfl)).1), fun h => absurd h (by decide)⟩
        · intro a w12 hB hF hS
          obtain ⟨x105, hx105⟩ : ∃ x, x = a.tmps.getD 105 undef := ⟨_, rfl⟩
          have P105 : Rd .u8 w12 x105 N (strB key nonce c) := by rw [hx105]; exact (hS 0 _ rfl).2 rfl
          have ha := puts_each rfl rfl hF [x105, _, _, _, _, _, _, _] rfl ⟨hx105.symm, (hS 1 _ rfl).1, (hS 2 _ rfl).1, (hS 3 _ rfl).1, (hS 4 _ rfl).1, (hS 5 _ rfl).1, (hS 6 _ rfl).1, (hS 7 _ rfl).1, trivial⟩
          simp only [puts, Act.put, List.setIfInBounds_toArray, List.set_cons_succ, List.set_cons_zero] at ha
          subst ha
          clear hx105
          clear hS hF
          have hKD2 : w12.heap[D]? = some (.deferred (some [])) := (hB.block D (Array.getElem?_eq_some_iff.1 hKD).1).trans hKD
          have hbel12 : Below w.heap.size w w12 := hbelW.trans (hB.mono hbelW.size)
          have hbelD := hbel12.trans (belowK_b (w := w) (Nat.le_refl _) w12 D _ (.deferred none) hwD hKD2 rfl rfl)
          go_wp2
          refine ⟨by simp, .inl ⟨_, _, rfl, run_takeDeferred hKD2, ?_⟩⟩
          exact ⟨.bool true, by simp [results, Try.results6], rfl, hbelD⟩
end Go.Proofs.Ytiiafgbdmejcpaa
