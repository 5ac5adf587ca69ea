/-
  The power goes. Conditions: named in each theorem.
-/
import Derived.Test.YtlmdgmgbijfaoaaDkF
set_option linter.unusedVariables false
set_option linter.unusedSimpArgs false
namespace Go.Proofs.Ytlmdgmgbijfaoaa
open Go.RowKit Go.Bas Go.ChangeShapes
attribute [local go_sem ↓] Go.wp_at_zero Go.wp_at_succ
theorem wpList_copy_mid {P : Program} {ops : Array Oper} {rest : List Oper} {o : Oper} {a : Act} {w : World} {Q : Exit → Act → World → Prop} (hg : o.guard = none) (d s : Operand) (dT sT e : TypeId) (ho : o.op = .call { callee := .builtin .copy, args := #[d, s], argTypes := #[dT, sT] })
    (hu : P.underlying dT = some (.slice e)) (hsz : (P.info? e).map (·.size) = some 1) (b off m dCap b2 o2 sCap : Nat) (f : Nat → Int) (hd : a.eval d = .slice (some ⟨b, off, none⟩) m dCap) (hs : a.eval s = .slice (some ⟨b2, o2, none⟩) m sCap)
    (hsrc : ∀ i, i < m → w.cell? ⟨b2, o2 + i, none⟩ = some (.int .u8 (f i))) (ht : w.there b off m)
    (h : wpList P ops Q rest (a.put o.dst (goInt m)) (w.setCells b off (vals .u8 m f))) : wpList P ops Q (o :: rest) a w :=
  wpList_plain hg fun _ hK => by
    have hr := run_copy_cells (P := P) w dT sT o.type e b off m dCap ⟨b2, o2, none⟩ m sCap (vals .u8 m f) hu hsz (by rw [vals_length]; simp [Nat.min_def]) (fun j v hv => by
      have hj : j < m := by
        have := (List.getElem?_eq_some_iff.1 hv).1
        simpa using this
      rw [vals_get hj] at hv
      cases hv
      rw [addr_add']
      exact hsrc j hj) (fun j hj => (ht j (by simpa using hj)).1) (fun j hj => (ht j (by simpa using hj)).2) (fun v hv => by obtain ⟨_, _, rfl⟩ := List.mem_map.1 hv; rfl)
    rw [vals_length] at hr
    unfold Oper.wp
    simp only [execOp, ho, resolve, invoke, builtin, Sem.run_bind, Sem.run_pure, Result.andThen_ok, List.map_toArray, List.map_cons, List.map_nil, hd, hs, hr]
    exact hK _ _ h
section
variable {w w' : World} {p : Nat} {vk vn vw : Value} {d : Dsk} {N : Nat → Nat → Int}
set_option maxRecDepth 100000 in
set_option maxHeartbeats 3200000 in
theorem dkCrash_any (h : DkAt w p vk vn vw d) (v : Value) (l : Nat) (ch : Nat → Int) (hv : Rd .u8 w v l ch) (hch : ∀ i, i < l → 0 ≤ ch i ∧ ch i < 256) (hfar : 0 < l → ∀ b, v.ownBlock = some b → b ≠ p ∧ vk.ownBlock ≠ some b) : Calls Try.prog 23 #[ptrTo p, v] w fun e w' => e = .returned (.int .i64 0) ∧ ∃ vn', DkAt w' p vk vn' (.slice none 0 0) (d.crash l ch) ∧ Chg (fun b => b = p ∨ vk.ownBlock = some b) w w' ∧ ∀ b, vn'.ownBlock = some b → w.heap.size ≤ b := by
  have HI := Lib.hid (dkIs_any h)
  have HD := Lib.hid h
  have HV := Lib.hid hv
  have HCH := Lib.hid hch
  have HF := Lib.hid hfar
  obtain ⟨aw, cw, rfl, hcw, hcw2⟩ := h.wait.slice
  obtain ⟨gk, ck, rfl, hrk0, hck, hck2, _⟩ := h.kept.form h.n0
  have c2 := h.cw
  obtain ⟨av, cv, rfl, hcv, hcv2, _⟩ := hv
  clear h hrk0 hch hfar
  go_enter Try.func23, Try.ntmps23
  go_wp2_with fail
  refine HI.out.mono ?_
  rintro e w' ⟨rfl, rfl⟩
  go_wp2
  go_loopw [16] (fun i wr => ∃ j : Nat, j ≤ d.m ∧ i = .int .i64 j ∧ DkR wr p (.slice (some ⟨gk, 0, none⟩) d.n ck) vn (.slice aw d.m cw) { d with K := crR l ch d.K d.ps d.bs j } d.now ∧ Chg (fun b => b = p ∨ (Value.slice (some ⟨gk, 0, none⟩) d.n ck).ownBlock = some b) w' wr) (fun i _ => d.m - (intOf i).toNat)
  case atStart => exact ⟨0, Nat.zero_le _, rfl, HD.out, .refl _ _⟩
  case round =>
    obtain ⟨j, hj, rfl, hI, hC⟩ := hrel
    have HI := Lib.hid hI
    have HC := Lib.hid hC
    clear hI hC
    by_cases hlt : j < d.m
    · obtain ⟨gw, cw', ew, hrw, hw1, hw2, hcells⟩ := HI.out.wait.form (by show 0 < d.m; omega)
      obtain ⟨rfl, rfl⟩ : aw = some ⟨gw, 0, none⟩ ∧ cw = cw' := by simp only [Value.slice.injEq] at ew; exact ⟨ew.1, ew.2.2⟩
      have HCL := Lib.hid (hcells j hlt)
      clear hcells ew hrw
      go_upto_region 6 with (first | (refine load_row rfl rfl rfl Try.underlying139 rfl Try.size139 HCL.out ?_) | (refine store_rowV rfl 139 _ _ rfl wr.heap.size 65 (wtC d.ps d.bs j) _ 139 (heap_alloc_new _ _) rfl Try.size139 rfl rfl (fun i _ => by unfold wtC; split <;> rfl) ?_))
      have hb8 : Below wr.heap.size wr ((wr.alloc (.cells (rowV 65 (wtC (fun _ => 0) (fun _ _ => 0) 0)) 139)).setRow wr.heap.size (rowV 65 (wtC d.ps d.bs j))) := below_setRow' ((Below.refl _ _).alloc (Nat.le_refl _) _) (Nat.le_refl _) _
      refine wp_world (fun w4 => RowN w4 wr.heap.size 65 139 (wtC d.ps d.bs j) ∧ Below wr.heap.size wr w4) ⟨RowN.setRow (heap_alloc_new _ _), hb8⟩ ?_
      rintro w4 ⟨k2, hb4⟩
      have HK1 := Lib.hid (HI.out.below hb4)
      have HK2 := Lib.hid k2
      have HC4 := Lib.hid (HC.out.trans (.of_below hb4 _) (fun _ _ h => h))
      have hpn : d.ps j < d.n := HI.out.ps j hlt
      clear k2 hb4 hb8 HCL
      by_cases hjl : j < l
      · have hjl' : ¬ (l : Int) ≤ j := by omega
        obtain ⟨a5, c5, e5, _, _, _, h5⟩ := HV.out.chg HC4.out (fun b hb => fun hF => by
          rcases hF with h | h
          · exact (HF.out (by omega) b hb).1 h
          · exact (HF.out (by omega) b hb).2 h)
        obtain ⟨bv, ov, ea, _, hcv5⟩ := h5 (by omega)
        obtain ⟨rfl, rfl⟩ : av = some ⟨bv, ov, none⟩ ∧ cv = c5 := by simp only [Value.slice.injEq] at e5; exact ⟨e5.1.trans ea, e5.2.2⟩
        have e6 := hcv5 j hjl
        have hcb := HCH.out j hjl
        obtain ⟨m, hm⟩ : ∃ m : Nat, (m : Int) = min (ch j) 64 := ⟨(min (ch j) 64).toNat, by omega⟩
        have hm64 : m ≤ 64 := by omega
        have hm' := hm.symm
        have hwr : IntKind.i64.wrap (ch j) = ch j := wrap_i64_id (by omega) (by omega)
        have HMM := Lib.hid hm
        have HCB := Lib.hid hcb
        clear hm h5 hcv5 e5 ea hcb
        go_upto_region 8 with (fail)
        apply region_early' (n := 69) [.e, .e, .e, .e, .e, .e, .e, .e, .e, .e, .e, .e, .c] 0 (by kernel_rfl) (by kernel_rfl) (by kernel_rfl) rfl
        · intro w5 hB
          have c0 : w5.cell? ⟨p, 0, none⟩ = some (.slice (some ⟨gk, 0, none⟩) d.n ck) := (HK1.out.below hB).ck
          have e0 : w5.cell? ⟨wr.heap.size, 0, none⟩ = some (.int .i64 (d.ps j)) := (HK2.out.below hB).2 0 (by decide)
          have hm5 : (m : Int) ≤ 64 := by omega
          simp only [selBy, Cl.isE, cond_true, cond_false]
          still_step
          still_step
          still_step
          still_step
          still_step
          still_step
          still_step
          still_step
          still_step
          still_step
          still_step
          still_step
          exact wpStill_nil rfl
        · intro w5
          simp only [selBy, Cl.isF, cond_true, cond_false]
          exact wpStill_nil rfl
        · simp only [selBy, Cl.isC, cond_true, cond_false]
          refine chW_zero ?_
          have hth : w4.drew.there gk (d.ps j * 64) m := by
            obtain ⟨g2, c2', e2, hr2, hc2', _⟩ := HK1.out.kept.form HK1.out.n0
            simp only [Value.slice.injEq, Option.some.injEq, Addr.mk.injEq, and_true, true_and] at e2
            obtain ⟨rfl, rfl⟩ := e2
            exact hr2.there (by have : (d.ps j + 1) * 64 ≤ ck * 64 := Nat.mul_le_mul_right 64 (by omega); omega)
          have hsrc : ∀ i, i < m → w4.drew.cell? ⟨wr.heap.size, 1 + i, none⟩ = some (.int .u8 (d.bs j i)) := fun i hi => by
            have := (HK2.out.below ((Below.refl _ _).drew)).2 (1 + i) (by omega)
            unfold wtC at this
            rw [if_neg (by omega), Nat.add_sub_cancel_left] at this
            exact this
          refine wpList_copy_mid rfl _ _ 23 23 5 rfl Try.underlying23 Try.size5 gk (d.ps j * 64) m 64 wr.heap.size 1 64 (d.bs j) rfl rfl hsrc hth ?_
          refine onlyN ?_
          have h5 := (HK1.out.below ((Below.refl _ _).drew)).keptMix (d.ps j) hpn (d.bs j) m hm64 (ch j) HMM.out
          have HD5 : Hid (DkR (w4.drew.setCells gk (d.ps j * 64) (vals .u8 m (d.bs j))) p (.slice (some ⟨gk, 0, none⟩) d.n ck) vn (.slice (some ⟨gw, 0, none⟩) d.m cw) { d with K := crR l ch d.K d.ps d.bs (j + 1) } d.now) := by
            rw [crR, show choR l ch j = ch j from if_pos hjl]
            exact h5
          have HC5 := Lib.hid (HC4.out.trans ((Chg.of_below ((Below.refl _ _).drew) _).trans (Chg.setCells (fun b => b = p ∨ (Value.slice (some ⟨gk, 0, none⟩) d.n ck).ownBlock = some b) gk (.inr rfl) (vals .u8 m (d.bs j)) (d.ps j * 64) w4.drew) (fun _ _ h => h)) (fun _ _ h => h))
          clear h5 hth hsrc hm'
          go_wp2
          go_roundw
          case rel => exact ⟨j + 1, by omega, by go_num, HD5.out, HC5.out⟩
          case measure => simp [intOf]; omega
      · have hjl' : (l : Int) ≤ j := by omega
        have HI2 : Hid (DkR w4 p (.slice (some ⟨gk, 0, none⟩) d.n ck) vn (.slice (some ⟨gw, 0, none⟩) d.m cw) { d with K := crR l ch d.K d.ps d.bs d.m } d.now) := by
          have e1 := crR_past l ch d.K d.ps d.bs j (by omega) (d.m - j)
          rw [show j + (d.m - j) = d.m by omega] at e1
          rw [e1]
          exact HK1.out
        clear HI HC HK1 HK2
        have HI := HI2
        have HC := HC4
        clear HI2 HC4
        have HE : Hid (DkR w4 p (.slice (some ⟨gk, 0, none⟩) d.n ck) vn (.slice (some ⟨gw, 0, none⟩) d.m cw) { d with K := crR l ch d.K d.ps d.bs d.m } d.now) := by exact HI.out
        have c0 := HE.out.ck
        clear HI
        go_wp2_with fail
        refine (clonesector_any HE.out.kept (fun _ _ _ _ => rfl) (by have : d.n ≤ 16384 := HE.out.n1; exact Nat.le_trans this (by decide))).mono ?_
        rintro e w6 ⟨v', rfl, ho6, hb6, hnew⟩
        have H6 := HE.out.below hb6
        have HN : Hid (DkR (w6.setCell ⟨p, 2, none⟩ (.slice none 0 0)) p (.slice (some ⟨gk, 0, none⟩) d.n ck) vn (.slice none 0 0) { d with K := crR l ch d.K d.ps d.bs d.m, m := 0 } d.now) := H6.setNil'
        have ho7 := ho6.chg (Chg.set (fun b => b = p) w6 ⟨p, 2, none⟩ (.slice none 0 0) rfl) (ho6.ne H6.row (by decide))
        have hap : (Value.slice (some ⟨gk, 0, none⟩) d.n ck).ownBlock ≠ v'.ownBlock := fun e => by
          have h1 := hnew gk e.symm
          have h2 := HE.out.kept.lt gk rfl
          omega
        have HFIN := Lib.hid (((HN.out.setNow ho7 hap).setF (-1) (by decide) (by decide)).setO false |>.setL (wrap64 (d.lives + 1)) (wrap64_bound _).1 (wrap64_bound _).2)
        have HCF := Lib.hid ((HC.out.trans (.of_below hb6 _) (fun _ _ h => h)).trans (((((Chg.set (fun b => b = p ∨ (Value.slice (some ⟨gk, 0, none⟩) d.n ck).ownBlock = some b) w6 ⟨p, 2, none⟩ (.slice none 0 0) (.inl rfl)).trans (.set _ _ ⟨p, 1, none⟩ v' (.inl rfl)) (fun _ _ h => h)).trans (.set _ _ ⟨p, 3, none⟩ (.int .i64 (-1)) (.inl rfl)) (fun _ _ h => h)).trans (.set _ _ ⟨p, 4, none⟩ (.bool false) (.inl rfl)) (fun _ _ h => h)).trans (.set _ _ ⟨p, 5, none⟩ (.int .i64 (wrap64 (d.lives + 1))) (.inl rfl)) (fun _ _ h => h)) (fun _ _ h => h))
        have HNB : Hid (∀ b, v'.ownBlock = some b → w'.heap.size ≤ b) := fun b hb => by have h1 := hnew b hb; have h2 := HC.out.size; omega
        have k1 := H6.cn
        have k2 := H6.cw
        have k3 := H6.cf
        have k4 := H6.co
        have k5 := H6.cl
        have f1 := H6.row.free 1
        have f2 := H6.row.free 2
        have f3 := H6.row.free 3
        have f4 := H6.row.free 4
        have f5 := H6.row.free 5
        obtain ⟨a7, c7, rfl, _⟩ := ho6.slice
        clear H6 hap ho7 hnew hb6 ho6
        go_wp2
        go_ret
        exact ⟨rfl, _, HFIN.out, HCF.out, HNB.out⟩
    · obtain rfl : j = d.m := by omega
      have HE : Hid (DkR wr p (.slice (some ⟨gk, 0, none⟩) d.n ck) vn (.slice aw d.m cw) { d with K := crR l ch d.K d.ps d.bs d.m } d.now) := by exact HI.out
      have c0 := HE.out.ck
      clear HI
      go_wp2_with fail
      refine (clonesector_any HE.out.kept (fun _ _ _ _ => rfl) (by have : d.n ≤ 16384 := HE.out.n1; exact Nat.le_trans this (by decide))).mono ?_
      rintro e w6 ⟨v', rfl, ho6, hb6, hnew⟩
      have H6 := HE.out.below hb6
      have HN : Hid (DkR (w6.setCell ⟨p, 2, none⟩ (.slice none 0 0)) p (.slice (some ⟨gk, 0, none⟩) d.n ck) vn (.slice none 0 0) { d with K := crR l ch d.K d.ps d.bs d.m, m := 0 } d.now) := H6.setNil'
      have ho7 := ho6.chg (Chg.set (fun b => b = p) w6 ⟨p, 2, none⟩ (.slice none 0 0) rfl) (ho6.ne H6.row (by decide))
      have hap : (Value.slice (some ⟨gk, 0, none⟩) d.n ck).ownBlock ≠ v'.ownBlock := fun e => by
        have h1 := hnew gk e.symm
        have h2 := HE.out.kept.lt gk rfl
        omega
      have HFIN := Lib.hid (((HN.out.setNow ho7 hap).setF (-1) (by decide) (by decide)).setO false |>.setL (wrap64 (d.lives + 1)) (wrap64_bound _).1 (wrap64_bound _).2)
      have HCF := Lib.hid ((HC.out.trans (.of_below hb6 _) (fun _ _ h => h)).trans (((((Chg.set (fun b => b = p ∨ (Value.slice (some ⟨gk, 0, none⟩) d.n ck).ownBlock = some b) w6 ⟨p, 2, none⟩ (.slice none 0 0) (.inl rfl)).trans (.set _ _ ⟨p, 1, none⟩ v' (.inl rfl)) (fun _ _ h => h)).trans (.set _ _ ⟨p, 3, none⟩ (.int .i64 (-1)) (.inl rfl)) (fun _ _ h => h)).trans (.set _ _ ⟨p, 4, none⟩ (.bool false) (.inl rfl)) (fun _ _ h => h)).trans (.set _ _ ⟨p, 5, none⟩ (.int .i64 (wrap64 (d.lives + 1))) (.inl rfl)) (fun _ _ h => h)) (fun _ _ h => h))
      have HNB : Hid (∀ b, v'.ownBlock = some b → w'.heap.size ≤ b) := fun b hb => by have h1 := hnew b hb; have h2 := HC.out.size; omega
      have k1 := H6.cn
      have k2 := H6.cw
      have k3 := H6.cf
      have k4 := H6.co
      have k5 := H6.cl
      have f1 := H6.row.free 1
      have f2 := H6.row.free 2
      have f3 := H6.row.free 3
      have f4 := H6.row.free 4
      have f5 := H6.row.free 5
      obtain ⟨a7, c7, rfl, _⟩ := ho6.slice
      clear H6 hap ho7 hnew hb6 ho6
      go_wp2
      go_ret
      exact ⟨rfl, _, HFIN.out, HCF.out, HNB.out⟩
end
end Go.Proofs.Ytlmdgmgbijfaoaa
