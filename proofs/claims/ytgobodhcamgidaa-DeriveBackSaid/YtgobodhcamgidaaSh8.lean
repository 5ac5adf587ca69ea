/-
  sha.Sum, sha.Half: what each answers. Conditions: named in each theorem.
-/
import Derived.Test.YtgobodhcamgidaaSh7
set_option linter.unusedVariables false
set_option linter.unusedSimpArgs false
namespace Go.Bas
open Go.RowKit
end Go.Bas
namespace Go.Proofs.Ytgobodhcamgidaa
open Go.RowKit Go.Bas
attribute [local go_sem ↓] Go.wp_at_zero Go.wp_at_succ
theorem bytes64_rd (va : Value) (n : Nat) (f : Nat → Int) (w : World) (ha : Rd .u64 w va n f) (hf : ∀ i, i < n → 0 ≤ f i ∧ f i < 18446744073709551616) (hn : n ≤ 1099511627776) :
    Calls Try.prog 49 #[va] w fun e w' => ∃ v, e = .returned v ∧ Rd .u8 w' v (n * 8) (by64 f) ∧ Below w.heap.size w w' :=
  (bytes64_any va n f w ha hf hn).mono fun _ _ ⟨v, h1, h2, h3⟩ => ⟨v, h1, h2.rd, h3⟩

set_option maxRecDepth 100000 in
set_option maxHeartbeats 6400000 in
theorem sum_any (v : Value) (m : Nat) (lens : Nat → Nat) (g : Nat → Nat → Int) (n : Nat) (f : Nat → Int) (w : World) (hv : Txt w v m lens g) (hg : ∀ j, j < m → ∀ i, i < lens j → f (offs lens j + i) = g j i) (hn : offs lens m = n) (hn2 : n ≤ 1000000) (hf : ∀ i, i < n → 0 ≤ f i ∧ f i < 256) :
    Calls Try.prog 14 #[v] w fun e w' => e = .returned (.agg (arr .u8 64 (sumB n f))) ∧ Below w.heap.size w w' := by
  obtain ⟨F, hFF⟩ : ∃ F, F = msgF n f := ⟨_, rfl⟩
  have HF : Hid (∀ i, 0 ≤ F i ∧ F i < 256) := by rw [hFF]; exact msgF_bound hf
  have HLO : Hid (∀ j, j < m → ∀ i, i < lens j → F (offs lens j + i) = g j i) := by
    rw [hFF]
    intro j hj i hi
    have h1 := offs_mono lens (show j + 1 ≤ m by omega)
    rw [offs] at h1
    rw [msgF_lo (by omega)]
    exact hg j hj i hi
  have HHI : Hid (∀ i, F (n + i) = padF n i) := by rw [hFF]; exact fun i => msgF_hi i
  obtain ⟨N, hN⟩ : ∃ N, N = msgN n := ⟨_, rfl⟩
  have HNN : Hid (n + padN n = N) := by rw [hN]; exact rfl
  have HN2 : Hid (N ≤ 1000200) := by unfold Hid; rw [hN]; unfold msgN padN padZ; omega
  have HSB : Hid (by64 (hashF F (N / 128)) = sumB n f) := by rw [hFF, hN]; exact rfl
  have HHB : Hid (∀ i, i < 8 → 0 ≤ hashF F (N / 128) i ∧ hashF F (N / 128) i < 18446744073709551616) := hashF_bound F _
  have HOF : Hid (∀ j, j ≤ m → offs lens j ≤ n) := fun j hj => by rw [← hn]; exact offs_mono lens hj
  have HOM := Lib.hid hn
  obtain ⟨SB, hSB⟩ : ∃ SB, SB = sumB n f := ⟨_, rfl⟩
  rw [← hSB] at HSB ⊢
  have HT := Lib.hid hv
  obtain ⟨ta, tc, rfl, t1, t2, t3⟩ := hv
  have HT3 := Lib.hid t3
  clear hFF hN hSB hg hn hf t3
  go_enter Try.func14, Try.ntmps14
  go_upto_region 1 with (fail)
  refine wp_world (fun w1 => Arr .u8 w1 w.heap.size 64 (fun _ => 0) ∧ Below w.heap.size w w1 ∧ w1.heap.size = w.heap.size + 1) ⟨Arr.newAt rfl (by rfl), (Below.refl _ _).alloc (Nat.le_refl _) _, by simp⟩ ?_
  rintro w1 ⟨hZ, hbel, hs⟩
  refine region_vars (n := 37) (by kernel_rfl) (by kernel_rfl) (by kernel_rfl) rfl
    (isAl [(4, 2), (5, 3)]) (putOf [(4, 2), (5, 3)]) (fun i => match i with | 2 => arr .u64 80 (fun _ => 0) | 3 => arr .u64 8 (fun _ => 0) | _ => #[]) (fun i => match i with | 2 => (arr .u64 80 (kK)) | 3 => (arr .u64 8 (kB)) | _ => #[]) (fun i => match i with | 2 => 42 | 3 => 78 | _ => 0) (fun i => match i with | 2 => 3 | 3 => 4 | _ => 0)
    (fun ii vv _ => (match ii with | 0 => vv = .agg (arr .u64 80 (kK)) | 1 => vv = .agg (arr .u64 8 (kB)) | _ => True)) (fun _ _ => True) (fun _ _ _ => trivial) (fun _ _ _ _ _ _ _ => trivial) (fun _ _ _ _ h _ => h)
    (vs_al rfl) (vs_inj rfl) ?_ ?_ ?_ ?_
  · refine Each.all ?_
    refine ⟨?_, ?_, (fun h => by cases h), (fun h => by cases h), (fun _ h => by cases h), (fun _ h => by cases h), trivial⟩
    · intro _ _ a w2 hB hF hd
      rw [if_pos (wanted_none rfl)]
      refine flow_call _ _ _ rfl Try.call23 _ args0 (by simp) ((kinds_any _).mono ?_)
      rintro e w3 ⟨rfl, hb⟩; exact ⟨_, rfl, rfl, hb⟩
    · intro _ _ a w2 hB hF hd
      rw [if_pos (wanted_none rfl)]
      refine flow_call _ _ _ rfl Try.call46 _ args0 (by simp) ((begin_any _).mono ?_)
      rintro e w3 ⟨rfl, hb⟩; exact ⟨_, rfl, rfl, hb⟩
  · refine Each.all ?_
    refine ⟨(fun h => by cases h), (fun h => by cases h), ?_, ?_, (fun h => by cases h), (fun h => by cases h), trivial⟩
    · exact fun _ => ⟨rfl, rfl, fun a w2 K h => flow_alloc rfl rfl Try.zeroValue42 (by simp) h⟩
    · exact fun _ => ⟨rfl, rfl, fun a w2 K h => flow_alloc rfl rfl Try.zeroValue78 (by simp) h⟩
  · refine Each.all ?_
    refine ⟨(fun _ h => by cases h), (fun _ h => by cases h), (fun _ h => by cases h), (fun _ h => by cases h), ?_, ?_, trivial⟩
    · intro p hp
      obtain rfl : 2 = p := Option.some.inj hp
      exact ⟨rfl, rfl, ⟨_, rfl⟩, waits_spec rfl, fun a w2 b K hB hF hd hx hb h => flow_put rfl rfl Try.size42 hx (hd 0 _ rfl rfl rfl (waits_spec rfl)) hb h⟩
    · intro p hp
      obtain rfl : 3 = p := Option.some.inj hp
      exact ⟨rfl, rfl, ⟨_, rfl⟩, waits_spec rfl, fun a w2 b K hB hF hd hx hb h => flow_put rfl rfl Try.size78 hx (hd 1 _ rfl rfl rfl (waits_spec rfl)) hb h⟩
  · intro a w2 blk hB hF hS hv hfin hdis
    obtain ⟨v2, v2l, v2u⟩ := hv 2 _ rfl rfl
    obtain ⟨v3, v3l, v3u⟩ := hv 3 _ rfl rfl
    have ha := puts_each rfl rfl hF [_, _, _, _, undef, undef] rfl ⟨hS 0 _ rfl rfl rfl, hS 1 _ rfl rfl rfl, v2, v3, trivial, trivial, trivial⟩
    have f2 := hfin 4 _ 2 rfl rfl
    have f3 := hfin 5 _ 3 rfl rfl
    have d2_3 := hdis 2 3 _ _ rfl rfl rfl rfl (by decide)
    simp only [puts, Act.put, List.setIfInBounds_toArray, List.set_cons_succ, List.set_cons_zero] at ha
    subst ha
    have V2 : Arr .u64 w2 (blk 2) 80 (kK) := ⟨_, f2⟩
    have V3 : Arr .u64 w2 (blk 3) 8 (kB) := ⟨_, f3⟩
    clear hS hv hfin hdis hF v2 v3 f2 f3
    have hZ2 := hZ.kept hB
    have hb2 := hbel.trans (hB.mono hbel.size)
    obtain ⟨bK, hbK⟩ : ∃ bK, bK = blk 2 := ⟨_, rfl⟩
    obtain ⟨bS, hbS⟩ : ∃ bS, bS = blk 3 := ⟨_, rfl⟩
    have k1 : w.heap.size + 1 ≤ bK := by rw [hbK, ← hs]; exact v2l
    have k2 : w.heap.size + 1 ≤ bS := by rw [hbS, ← hs]; exact v3l
    have k3 : bK ≠ bS := by rw [hbK, hbS]; exact d2_3
    rw [← hbK] at V2
    rw [← hbS] at V3
    rw [← hbK, ← hbS]
    have k4 := V2.lt
    have k5 := V3.lt
    have s2 := hb2.size
    clear hZ hbel hs hB hbK hbS d2_3 v2l v2u v3l v3u
    go_upto_region 3 with (fail)
    obtain ⟨bL, hbL⟩ : ∃ bL, bL = w2.heap.size := ⟨_, rfl⟩
    refine wp_world (fun w3 => Boxed w3 bL 22 (.slice none 0 0) ∧ Arr .u64 w3 bK 80 kK ∧ Arr .u64 w3 bS 8 kB ∧ Arr .u8 w3 w.heap.size 64 (fun _ => 0) ∧ Below w.heap.size w w3 ∧ w3.heap.size = bL + 1)
      ⟨by rw [hbL]; exact Boxed.new _ _ _, V2.alloc _, V3.alloc _, hZ2.alloc _, hb2.alloc s2 _, by simp [hbL]⟩ ?_
    rintro w3 ⟨hx3, hk3, hs3, hZ3, hb3, hsz3⟩
    rw [← hbL] at k4 k5 s2 ⊢
    clear V2 V3 hZ2 hb2 hbL
    have hst : StS w3 (bL + 1) bL bS bK F 0 := ⟨_, hx3, OwnAt.nil _ _ _ _ _, hs3, hk3⟩
    clear hx3 hs3 hk3
    go_wp2
    go_loopw [6, 16] (fun x i wr => ∃ j : Nat, j ≤ m ∧ i = .int .i64 j ∧ x = .int .i64 ((offs lens j : Nat) : Int) ∧ StS wr (bL + 1) bL bS bK F (offs lens j) ∧ Arr .u8 wr w.heap.size 64 (fun _ => 0) ∧ Below w.heap.size w wr ∧ bL + 1 ≤ wr.heap.size) (fun _ i _ => m - (intOf i).toNat)
    case atStart => exact ⟨0, Nat.zero_le _, rfl, rfl, hst, hZ3, hb3, by omega⟩
    case round =>
      clear hst hZ3 hb3 hsz3
      obtain ⟨j, hj, rfl, rfl, hst, hZ, hbel, hw⟩ := hrel
      have HST := Lib.hid hst
      clear hst
      by_cases hlt : j < m
      · obtain ⟨tb, to, rfl, tlt, tcell⟩ := HT3.out (by omega)
        obtain ⟨u, hu, hru⟩ := tcell j hlt
        have e1 := (hbel.cell (p := ⟨tb, to + j, none⟩) tlt).trans hu
        obtain ⟨ua, uc, rfl, u1, u2, u3, u4⟩ := id hru
        have HRU := Lib.hid ((hru.below hbel).congr (g := fun i => F (offs lens j + i)) (fun i hi => (HLO.out j hlt i hi).symm))
        have hle : offs lens j + lens j ≤ n := HOF.out (j + 1) (by omega)
        clear tcell hu hru u3 u4
        go_wp2_with fail
        refine (take_any F HF.out (w.heap.size + 1) (bL + 1) bL bS bK (by omega) (by omega) k3.symm ⟨by omega, k2⟩ ⟨by omega, by omega, by omega⟩ (offs lens j) (lens j) (by omega) _ _ HRU.out HST.out hw).mono ?_
        rintro e w5 ⟨⟨rv, rfl⟩, hst5, hb5⟩
        have hZ5 := hZ.below hb5 (by omega)
        have hbel5 := hbel.trans (hb5.mono (by omega))
        have hw5 : bL + 1 ≤ w5.heap.size := Nat.le_trans hw hb5.size
        have HST5 := Lib.hid hst5
        clear hst5 hb5 hZ hbel e1
        go_wp2
        go_roundw
        case rel => exact ⟨j + 1, by omega, by go_num, by rw [offs]; go_num, HST5.out, hZ5, hbel5, hw5⟩
        case measure => simp [intOf] <;> omega
      · obtain rfl : j = m := by omega
        have HS0 : Hid (StS wr (bL + 1) bL bS bK F n) := by rw [← HOM.out]; exact HST.out
        obtain ⟨wp, hwp⟩ : ∃ wp, wp = wr := ⟨_, rfl⟩
        subst hwp
        clear HST
        rw [HOM.out]
        go_wp2_with fail
        refine (pad_any n (by omega) _).mono ?_
        rintro e w5 ⟨p, rfl, hp, hb5⟩
        have hbel5 := hbel.trans (hb5.mono hbel.size)
        have hZ5 := hZ.kept hb5
        have hw5 : bL + 1 ≤ w5.heap.size := Nat.le_trans hw hb5.size
        have HS5 := Lib.hid (HS0.out.kept hb5)
        have HP5 := Lib.hid (hp.rd.congr (g := fun i => F (n + i)) (fun i _ => (HHI.out i).symm))
        clear hp hb5 hbel hZ HS0
        go_wp2_with fail
        refine (take_any F HF.out (w.heap.size + 1) (bL + 1) bL bS bK (by omega) (by omega) k3.symm ⟨by omega, k2⟩ ⟨by omega, by omega, by omega⟩ n (padN n) (by have := HNN.out; have := HN2.out; omega) _ _ HP5.out HS5.out hw5).mono ?_
        rintro e w6 ⟨⟨rv, rfl⟩, hst6, hb6⟩
        have hZ6 := hZ5.below hb6 (by omega)
        have hbel6 := hbel5.trans (hb6.mono (by omega))
        rw [HNN.out] at hst6
        obtain ⟨vl, _, _, hs6, _⟩ := hst6
        have hzl := hZ6.lt
        clear hb6 hZ5 hbel5 hw5 HS5 HP5
        go_upto_region 13 with (fail)
        refine wp_world (fun w7 => Arr .u8 w7 w6.heap.size 64 (fun _ => 0) ∧ Arr .u64 w7 bS 8 (hashF F (N / 128)) ∧ Arr .u8 w7 w.heap.size 64 (fun _ => 0) ∧ Below w.heap.size w w7) ⟨Arr.newAt rfl (by rfl), hs6.alloc _, hZ6.alloc _, hbel6.alloc hbel6.size _⟩ ?_
        rintro w7 ⟨ho7, hs7, hZ7, hbel7⟩
        have q6 := hbel6.size
        clear hs6 hZ6 hbel6
        obtain ⟨bO, hbO⟩ : ∃ bO, bO = w6.heap.size := ⟨_, rfl⟩
        rw [← hbO] at ho7 hzl q6 ⊢
        clear hbO
        refine region_last' (n := 37) 3 rfl (by decide) (by kernel_rfl) (by kernel_rfl) (by kernel_rfl) (by kernel_rfl) rfl
          (fun ii vv ww => (match ii with | 0 => vv = .slice (some ⟨bO, 0, none⟩) 64 64 | 1 => vv = .slice (some ⟨bS, 0, none⟩) 8 8 | _ => True) ∧ (ii = 2 → Rd .u8 ww vv (8 * 8) (by64 (hashF F (N / 128)))))
          (fun w w' => Below w.heap.size w w') (fun _ _ h => h) (fun i v w w' h hE => ⟨h.1, fun e => Rd.below (h.2 e) hE⟩) rfl ?_ ?_
        · refine Each.all ?_
          refine ⟨?_, ?_, ?_, (fun h => absurd rfl h), trivial⟩
          · intro _ a w2 hB hF hd
            rw [if_pos (wanted_none rfl)]
            exact flow_val (fun h => by cases h) (run_slice_arr rfl (hF.same 10 rfl) Try.underlying24 (by kernel_rfl)) ⟨rfl, fun h => absurd h (by decide)⟩
          · intro _ a w2 hB hF hd
            rw [if_pos (wanted_none rfl)]
            exact flow_val (fun h => by cases h) (run_slice_arr rfl (hF.same 4 rfl) Try.underlying78 (by kernel_rfl)) ⟨rfl, fun h => absurd h (by decide)⟩
          · intro _ a w2 hB hF hd
            rw [if_pos (wanted_none rfl)]
            refine flow_call _ _ _ rfl Try.call49 _ (args1 ((hd 1 _ rfl (waits_spec rfl)).1)) (by simp) ((bytes64_rd _ 8 (hashF F (N / 128)) _ ((hs7.kept hB).rd (by decide)) HHB.out (by decide)).mono ?_)
            rintro e w3 ⟨u, rfl, hr, hb⟩; exact ⟨u, rfl, ⟨trivial, fun _ => hr⟩, hb⟩
        · intro a w8 hB hF hS
          obtain ⟨x34, hx34⟩ : ∃ x, x = a.tmps.getD 34 undef := ⟨_, rfl⟩
          have P34 : Rd .u8 w8 x34 (8 * 8) (by64 (hashF F (N / 128))) := by rw [hx34]; exact (hS 2 _ rfl (by decide)).2 rfl
          obtain ⟨x35, hx35⟩ : ∃ x, x = a.tmps.getD 35 undef := ⟨_, rfl⟩
          have ha := puts_each rfl rfl hF [_, _, x34, x35] rfl ⟨(hS 0 _ rfl (by decide)).1, (hS 1 _ rfl (by decide)).1, hx34.symm, hx35.symm, trivial⟩
          simp only [puts, Act.put, List.setIfInBounds_toArray, List.set_cons_succ, List.set_cons_zero] at ha
          subst ha
          clear hx34 hx35
          clear hS hF
          have ho8 := ho7.kept hB
          have hZ8 := hZ7.kept hB
          have hbel8 := hbel7.trans (hB.mono hbel7.size)
          have q8 := hbel8.size
          refine wp_copy_arr _ _ 22 22 rfl (e := 5) (k := .u8) bO 0 64 64 64 (fun _ => 0) Try.underlying22 Try.size5 rfl ho8 x34 64 _ P34 rfl (by decide) (by decide) ?_
          have hS9 : Arr .u8 (w8.setRow bO (arr .u8 64 (laid (fun _ => 0) 0 64 (by64 (hashF F (N / 128)))))) bO 64 SB := by
            refine (ho8.setRow 64 (laid (fun _ => 0) 0 64 (by64 (hashF F (N / 128))))).congr (fun i hi => ?_)
            rw [← HSB.out]
            unfold laid
            rw [if_pos (by omega), Nat.sub_zero]
          have hZ9 := hZ8.setRowOther bO (by omega) (arr .u8 64 (laid (fun _ => 0) 0 64 (by64 (hashF F (N / 128)))))
          have hb9 := below_setRow' hbel8 (show w.heap.size ≤ bO by omega) (arr .u8 64 (laid (fun _ => 0) 0 64 (by64 (hashF F (N / 128)))))
          obtain ⟨w9, hw9⟩ : ∃ w9, w9 = w8.setRow bO (arr .u8 64 (laid (fun _ => 0) 0 64 (by64 (hashF F (N / 128))))) := ⟨_, rfl⟩
          rw [← hw9] at hS9 hZ9 hb9 ⊢
          clear hw9 ho8 hZ8 hbel8 P34 hB ho7 hs7 hZ7 hbel7
          go_upto_region 14 with (fail)
          simp only [List.getElem_toArray, List.getElem_cons_succ, List.getElem_cons_zero, Act.put]
          go_wp2_with (first
            | (refine load_arr rfl 24 _ rfl .u8 bO 64 SB 5 Try.underlying24 Try.size24 rfl hS9 ?_)
            | (refine store_arr rfl 24 _ _ rfl .u8 w.heap.size 64 (fun _ => 0) SB Try.size24 rfl rfl hZ9 ?_))
          exact bodyPost_ret (results_arr rfl _ _ .u8 w.heap.size 64 _ 5 rfl (hZ9.setRow 64 SB) Try.underlying24 Try.size24) rfl ⟨rfl, below_setRow' hb9 (Nat.le_refl _) _⟩
end Go.Proofs.Ytgobodhcamgidaa
