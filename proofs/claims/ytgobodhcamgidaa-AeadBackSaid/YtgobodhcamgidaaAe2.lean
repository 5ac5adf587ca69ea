/-
  aead.Tag: what it answers. Conditions: named in each theorem.
-/
import Derived.Test.YtgobodhcamgidaaAe1
set_option linter.unusedVariables false
set_option linter.unusedSimpArgs false
namespace Go.Bas
open Go.RowKit
theorem run_to_array {P : Program} {o : Oper} {a : Act} {w : World} {T e : TypeId} {x : Operand} {ad : Option Addr} {n len cap : Nat} (ho : o.op = .sliceToArrayPointer T x) (hx : a.eval x = .slice ad len cap) (hu : P.underlying T = some (.array n e)) (hl : n ≤ len) :
    (execOp a.eval o).run P w = .ok (.value (.pointer ad)) w := by
  unfold execOp
  simp only [ho, hx, Sem.run_bind, arrayAt_part hu hl, Result.andThen_ok, Sem.run_pure]
theorem Rd.one {k : IntKind} {w : World} {v : Value} {n : Nat} {f : Nat → Int} (h : Rd k w v n f) : v.cells = #[v] := by
  obtain ⟨a, c, rfl, _⟩ := h
  rfl
theorem new6 {w : World} {v0 v1 v2 v3 v4 v5 : Value} {nb nh : Nat} {fb fh : Nat → Int} {T : TypeId} (h0 : Rd .u8 w v0 nb fb) (h1 : Rd .u8 w v1 (gp nb) (fun _ => 0)) (h2 : Rd .u8 w v2 nh fh) (h3 : Rd .u8 w v3 (gp nh) (fun _ => 0)) (h4 : Rd .u8 w v4 8 (num8 nb)) (h5 : Rd .u8 w v5 8 (num8 nh)) :
    Txt (w.alloc (.cells [v0, v1, v2, v3, v4, v5].toArray T)) (.slice (some ⟨w.heap.size, 0, none⟩) 6 6) 6 (lens6 nb nh) (text6 nb fb nh fh) :=
  Txt.new (by decide) fun j hj => by
    rcases (by omega : j = 0 ∨ j = 1 ∨ j = 2 ∨ j = 3 ∨ j = 4 ∨ j = 5) with rfl | rfl | rfl | rfl | rfl | rfl
    · exact ⟨v0, rfl, h0⟩
    · exact ⟨v1, rfl, h1⟩
    · exact ⟨v2, rfl, h2⟩
    · exact ⟨v3, rfl, h3⟩
    · exact ⟨v4, rfl, h4⟩
    · exact ⟨v5, rfl, h5⟩
end Go.Bas
namespace Go.Proofs.Ytgobodhcamgidaa
open Go.RowKit Go.Bas
attribute [local go_sem ↓] Go.wp_at_zero Go.wp_at_succ

set_option maxRecDepth 100000 in
set_option maxHeartbeats 3200000 in
theorem aTag_any (key nonce : Nat → Int) (hk : ∀ i, i < 32 → 0 ≤ key i ∧ key i < 256) (hn : ∀ i, i < 12 → 0 ≤ nonce i ∧ nonce i < 256) (vb vh : Value) (nb nh : Nat) (fb fh : Nat → Int) (w : World)
    (hb : Rd .u8 w vb nb fb) (hh : Rd .u8 w vh nh fh) (hfb : ∀ i, i < nb → 0 ≤ fb i ∧ fb i < 256) (hfh : ∀ i, i < nh → 0 ≤ fh i ∧ fh i < 256) (l1 : nb ≤ 400000) (l2 : nh ≤ 400000) :
    Calls Try.prog 40 #[.agg (arr .u8 32 key), .agg (arr .u8 12 nonce), vb, vh] w fun e w' => e = .returned (.agg (arr .u8 16 (dg 256 (aTag key nonce nb fb nh fh)))) ∧ Below w.heap.size w w' := by
  obtain ⟨F, hF⟩ : ∃ F, F = macF nb fb nh fh := ⟨_, rfl⟩
  obtain ⟨N, hN⟩ : ∃ N, N = macN nb nh := ⟨_, rfl⟩
  obtain ⟨K, hK⟩ : ∃ K, K = sm 256 (blkB key nonce 0) 32 := ⟨_, rfl⟩
  have HKB : Hid (0 ≤ K ∧ K < 256 ^ 32) := by rw [hK]; exact sm_bound (by decide) fun i hi => blkB_bound _ _ _ _
  have HKD : Hid (∀ i, i < 32 → blkB key nonce 0 i = dg 256 K i) := by rw [hK]; exact fun i hi => (dg_sm (f := blkB key nonce 0) (by decide) (fun i hi => blkB_bound _ _ _ _) i hi).symm
  have HTN : Hid (tagN K F N = aTag key nonce nb fb nh fh) := by rw [hK, hF, hN]; exact rfl
  have HG : Hid (∀ j, j < 6 → ∀ i, i < lens6 nb nh j → F (offs (lens6 nb nh) j + i) = text6 nb fb nh fh j i) := by rw [hF]; exact fun j hj i hi => flat_at hj hi
  have HN : Hid (offs (lens6 nb nh) 6 = N) := by rw [hN]; exact rfl
  have HN2 : Hid (N ≤ 1000000) := by have := macN_eq nb nh; have := gp_lt nb; have := gp_lt nh; unfold Hid; omega
  have HF : Hid (∀ i, i < N → 0 ≤ F i ∧ F i < 256) := by rw [hF, hN]; exact macF_bound hfb hfh
  obtain ⟨TN, hTN⟩ : ∃ TN, TN = aTag key nonce nb fb nh fh := ⟨_, rfl⟩
  rw [← hTN] at HTN ⊢
  have HBL := Lib.hid (chBlock_any key nonce 0 hk hn (by decide))
  have HB := Lib.hid hb
  have HH := Lib.hid hh
  obtain ⟨ab, cb, rfl, b1, b2, b3, b4⟩ := hb
  obtain ⟨ah, ch, rfl, h1, h2, h3, h4⟩ := hh
  clear hF hN hK hTN hk hn hfb hfh b3 b4 h3 h4
  go_enter Try.func40, Try.ntmps40
  go_upto_region 1 with (fail)
  refine wp_world (fun w1 => Arr .u8 w1 w.heap.size 32 key ∧ Arr .u8 w1 (w.heap.size + 1) 12 nonce ∧ Arr .u8 w1 (w.heap.size + 2) 16 (fun _ => 0) ∧ Below w.heap.size w w1 ∧ w1.heap.size = w.heap.size + 3)
    ⟨Arr.alloc (Arr.alloc (Arr.newAt rfl rfl) _) _, Arr.alloc (Arr.newAt (by simp) rfl) _, Arr.newAt (by simp) (by rfl), (((Below.refl _ _).alloc (Nat.le_refl _) _).alloc (by simp) _).alloc (by simp; omega) _, by simp⟩ ?_
  rintro w1 ⟨hA, hN, hZ, hbel, hs⟩
  refine region_vars (n := 30) (by kernel_rfl) (by kernel_rfl) (by kernel_rfl) rfl
    (isAl [(4, 3)]) (putOf [(4, 3)]) (fun _ => arr .u8 64 (fun _ => 0)) (fun _ => (arr .u8 64 (blkB key nonce 0))) (fun _ => 24) (fun _ => 9)
    (fun ii vv _ => (match ii with | 0 => vv = .agg (arr .u8 32 (key)) | 1 => vv = .agg (arr .u8 12 (nonce)) | 2 => vv = .agg (arr .u8 64 (blkB key nonce 0)) | _ => True)) (fun _ _ => True) (fun _ _ _ => trivial) (fun _ _ _ _ _ _ _ => trivial) (fun _ _ _ _ h _ => h)
    (vs_al rfl) (vs_inj rfl) ?_ ?_ ?_ ?_
  · refine Each.all ?_
    refine ⟨?_, ?_, ?_, (fun h => by cases h), (fun _ h => by cases h), trivial⟩
    · intro _ _ a w2 hB hF hd
      rw [if_pos (wanted_none rfl)]
      exact flow_val (fun h => by cases h) (run_load_str rfl Try.underlying26 rfl Try.size26 (hF.same 4 rfl) (hA.below hB hA.lt)) rfl
    · intro _ _ a w2 hB hF hd
      rw [if_pos (wanted_none rfl)]
      exact flow_val (fun h => by cases h) (run_load_str rfl Try.underlying64 rfl Try.size64 (hF.same 5 rfl) (hN.below hB hN.lt)) rfl
    · intro _ _ a w2 hB hF hd
      rw [if_pos (wanted_none rfl)]
      refine flow_call _ _ _ rfl Try.call66 _ (args3 (hd 0 _ rfl rfl rfl (waits_spec rfl)) (hd 1 _ rfl rfl rfl (waits_spec rfl)) rfl) (by simp) ((HBL.out _).mono ?_)
      rintro e w3 ⟨rfl, hb⟩; exact ⟨_, rfl, rfl, hb⟩
  · refine Each.all ?_
    refine ⟨(fun h => by cases h), (fun h => by cases h), (fun h => by cases h), ?_, (fun h => by cases h), trivial⟩
    · exact fun _ => ⟨rfl, rfl, fun a w2 K h => flow_alloc rfl rfl Try.zeroValue24 (by simp) h⟩
  · refine Each.all ?_
    refine ⟨(fun _ h => by cases h), (fun _ h => by cases h), (fun _ h => by cases h), (fun _ h => by cases h), ?_, trivial⟩
    · intro p hp
      obtain rfl : 3 = p := Option.some.inj hp
      exact ⟨rfl, rfl, ⟨_, rfl⟩, waits_spec rfl, fun a w2 b K hB hF hd hx hb h => flow_put rfl rfl Try.size24 hx (hd 2 _ rfl rfl rfl (waits_spec rfl)) hb h⟩
  · intro a w2 blk hB hF hS hv hfin hdis
    obtain ⟨v3, v3l, v3u⟩ := hv 3 _ rfl rfl
    have ha := puts_each rfl rfl hF [_, _, _, _, undef] rfl ⟨hS 0 _ rfl rfl rfl, hS 1 _ rfl rfl rfl, hS 2 _ rfl rfl rfl, v3, trivial, trivial⟩
    have f3 := hfin 4 _ 3 rfl rfl
    simp only [puts, Act.put, List.setIfInBounds_toArray, List.set_cons_succ, List.set_cons_zero] at ha
    subst ha
    have V3 : Arr .u8 w2 (blk 3) 64 (blkB key nonce 0) := ⟨_, f3⟩
    clear hS hv hfin hdis hF v3 f3
    have hZ2 := hZ.kept hB
    have hb2 := hbel.trans (hB.mono hbel.size)
    obtain ⟨q, hq⟩ : ∃ q, q = blk 3 := ⟨_, rfl⟩
    rw [← hq] at V3 ⊢
    have hc3 : ∀ i, i < 32 → w2.cell? ⟨q, 0 + i, none⟩ = some (.int .u8 (dg 256 K i)) := fun i hi => by rw [Nat.zero_add, V3.cell i (by omega), HKD.out i hi]
    have HC3 := Lib.hid hc3
    have hql := V3.lt
    have HBW := Lib.hid (HB.out.below hb2)
    have HHW := Lib.hid (HH.out.below hb2)
    have HZ2 := Lib.hid hZ2
    clear hA hN hZ hbel hs hq hc3 hB V3 hZ2
    go_upto_region 2 with (fail)
    refine region_lasts (n := 30) (fun i => i == 17) (by kernel_rfl) (by kernel_rfl) (by kernel_rfl) (by kernel_rfl) rfl
      (fun ii vv ww => (match ii with | 0 => vv = .slice (some ⟨q, 0, none⟩) 32 64 | 1 => vv = .pointer (some ⟨q, 0, none⟩) | 2 => vv = .agg (arr .u8 32 (dg 256 K)) | 3 | 4 | 11 => vv = .slice ab nb cb | 5 => vv = .int .i64 ((nb : Int)) | 7 | 8 | 13 => vv = .slice ah nh ch | 9 => vv = .int .i64 ((nh : Int)) | 16 => vv = .agg (arr .u8 16 (dg 256 TN)) | _ => True) ∧ (ii = 6 → Rd .u8 ww vv (gp nb) (fun _ => 0)) ∧ (ii = 10 → Rd .u8 ww vv (gp nh) (fun _ => 0)) ∧ (ii = 12 → Rd .u8 ww vv 8 (num8 nb)) ∧ (ii = 14 → Rd .u8 ww vv 8 (num8 nh)) ∧ (ii = 15 → Txt ww vv 6 (lens6 nb nh) (text6 nb fb nh fh)))
      (fun w w' => Below w.heap.size w w') (fun _ _ h => h) (fun i v w w' h hE => ⟨h.1, fun e => Rd.below (h.2.1 e) hE, fun e => Rd.below (h.2.2.1 e) hE, fun e => Rd.below (h.2.2.2.1 e) hE, fun e => Rd.below (h.2.2.2.2.1 e) hE, fun e => Txt.below (h.2.2.2.2.2 e) hE⟩)
      (fun _ => (w.heap.size + 2)) (fun _ => (arr .u8 16 (fun _ => 0))) (fun _ => (arr .u8 16 (dg 256 TN)))
      (by intro i j _ _ hpi hpj hne; simp only [beq_iff_eq] at hpi hpj; omega)
      (by intro i _ hpi; exact (HZ2.out).row)
      ?_ ?_ ?_
    · refine Each.all ?_
      refine ⟨?_, ?_, ?_, ?_, ?_, ?_, ?_, ?_, ?_, ?_, ?_, ?_, ?_, ?_, ?_, ?_, ?_, (fun h => absurd h (by decide)), trivial⟩
      · intro _ a w2 hB hF hd
        rw [if_pos (wanted_none rfl)]
        exact flow_val (fun h => by cases h) (run_slice_part rfl (hF.same 9 rfl) (by simp only [Option.map_some, Option.map_none]; exact run_sliceAt_ptr_h (m := 32) Try.underlying24 Try.size5 (by decide))) ⟨rfl, fun h => absurd h (by decide), fun h => absurd h (by decide), fun h => absurd h (by decide), fun h => absurd h (by decide), fun h => absurd h (by decide)⟩
      · intro _ a w2 hB hF hd
        rw [if_pos (wanted_none rfl)]
        exact flow_val (fun h => by cases h) (run_to_array rfl ((hd 0 _ rfl rfl (waits_spec rfl)).1) Try.underlying26 (by decide)) ⟨rfl, fun h => absurd h (by decide), fun h => absurd h (by decide), fun h => absurd h (by decide), fun h => absurd h (by decide), fun h => absurd h (by decide)⟩
      · intro _ a w2 hB hF hd
        rw [if_pos (wanted_none rfl)]
        exact flow_val (fun h => by cases h) (run_load_part rfl ((hd 1 _ rfl rfl (waits_spec rfl)).1) Try.underlying26 Try.size26 (fun i hi => (hB.cell (p := ⟨q, 0 + i, none⟩) hql).trans (HC3.out i hi))) ⟨rfl, fun h => absurd h (by decide), fun h => absurd h (by decide), fun h => absurd h (by decide), fun h => absurd h (by decide), fun h => absurd h (by decide)⟩
      · intro _ a w2 hB hF hd
        rw [if_pos (wanted_none rfl)]
        exact flow_move _ (.inl rfl) (by simp) ⟨(hF.same 2 rfl), fun h => absurd h (by decide), fun h => absurd h (by decide), fun h => absurd h (by decide), fun h => absurd h (by decide), fun h => absurd h (by decide)⟩
      · intro _ a w2 hB hF hd
        rw [if_pos (wanted_none rfl)]
        exact flow_move _ (.inl rfl) (by simp) ⟨(hF.same 2 rfl), fun h => absurd h (by decide), fun h => absurd h (by decide), fun h => absurd h (by decide), fun h => absurd h (by decide), fun h => absurd h (by decide)⟩
      · intro _ a w2 hB hF hd
        rw [if_pos (wanted_none rfl)]
        exact flow_val (fun h => by cases h) (run_len_sl rfl ((hd 4 _ rfl rfl (waits_spec rfl)).1) Try.underlying22) ⟨rfl, fun h => absurd h (by decide), fun h => absurd h (by decide), fun h => absurd h (by decide), fun h => absurd h (by decide), fun h => absurd h (by decide)⟩
      · intro _ a w2 hB hF hd
        rw [if_pos (wanted_none rfl)]
        refine flow_call _ _ _ rfl Try.call68 _ (args1 ((hd 5 _ rfl rfl (waits_spec rfl)).1)) (by simp) ((aGap_any nb (by omega) _).mono ?_)
        rintro e w3 ⟨u, rfl, hr, hb⟩; exact ⟨u, rfl, ⟨trivial, fun _ => hr, fun h => absurd h (by decide), fun h => absurd h (by decide), fun h => absurd h (by decide), fun h => absurd h (by decide)⟩, hb⟩
      · intro _ a w2 hB hF hd
        rw [if_pos (wanted_none rfl)]
        exact flow_move _ (.inl rfl) (by simp) ⟨(hF.same 3 rfl), fun h => absurd h (by decide), fun h => absurd h (by decide), fun h => absurd h (by decide), fun h => absurd h (by decide), fun h => absurd h (by decide)⟩
      · intro _ a w2 hB hF hd
        rw [if_pos (wanted_none rfl)]
        exact flow_move _ (.inl rfl) (by simp) ⟨(hF.same 3 rfl), fun h => absurd h (by decide), fun h => absurd h (by decide), fun h => absurd h (by decide), fun h => absurd h (by decide), fun h => absurd h (by decide)⟩
      · intro _ a w2 hB hF hd
        rw [if_pos (wanted_none rfl)]
        exact flow_val (fun h => by cases h) (run_len_sl rfl ((hd 8 _ rfl rfl (waits_spec rfl)).1) Try.underlying22) ⟨rfl, fun h => absurd h (by decide), fun h => absurd h (by decide), fun h => absurd h (by decide), fun h => absurd h (by decide), fun h => absurd h (by decide)⟩
      · intro _ a w2 hB hF hd
        rw [if_pos (wanted_none rfl)]
        refine flow_call _ _ _ rfl Try.call68 _ (args1 ((hd 9 _ rfl rfl (waits_spec rfl)).1)) (by simp) ((aGap_any nh (by omega) _).mono ?_)
        rintro e w3 ⟨u, rfl, hr, hb⟩; exact ⟨u, rfl, ⟨trivial, fun h => absurd h (by decide), fun _ => hr, fun h => absurd h (by decide), fun h => absurd h (by decide), fun h => absurd h (by decide)⟩, hb⟩
      · intro _ a w2 hB hF hd
        rw [if_pos (wanted_none rfl)]
        exact flow_move _ (.inl rfl) (by simp) ⟨(hF.same 2 rfl), fun h => absurd h (by decide), fun h => absurd h (by decide), fun h => absurd h (by decide), fun h => absurd h (by decide), fun h => absurd h (by decide)⟩
      · intro _ a w2 hB hF hd
        rw [if_pos (wanted_none rfl)]
        refine flow_call _ _ _ rfl Try.call69 _ (args1 ((hd 11 _ rfl rfl (waits_spec rfl)).1)) (by simp) ((aSize_any _ nb _ _ (HBW.out.below hB) (by omega)).mono ?_)
        rintro e w3 ⟨u, rfl, hr, hb⟩; exact ⟨u, rfl, ⟨trivial, fun h => absurd h (by decide), fun h => absurd h (by decide), fun _ => hr, fun h => absurd h (by decide), fun h => absurd h (by decide)⟩, hb⟩
      · intro _ a w2 hB hF hd
        rw [if_pos (wanted_none rfl)]
        exact flow_move _ (.inl rfl) (by simp) ⟨(hF.same 3 rfl), fun h => absurd h (by decide), fun h => absurd h (by decide), fun h => absurd h (by decide), fun h => absurd h (by decide), fun h => absurd h (by decide)⟩
      · intro _ a w2 hB hF hd
        rw [if_pos (wanted_none rfl)]
        refine flow_call _ _ _ rfl Try.call69 _ (args1 ((hd 13 _ rfl rfl (waits_spec rfl)).1)) (by simp) ((aSize_any _ nh _ _ (HHW.out.below hB) (by omega)).mono ?_)
        rintro e w3 ⟨u, rfl, hr, hb⟩; exact ⟨u, rfl, ⟨trivial, fun h => absurd h (by decide), fun h => absurd h (by decide), fun h => absurd h (by decide), fun _ => hr, fun h => absurd h (by decide)⟩, hb⟩
      · intro _ a w2 hB hF hd
        rw [if_pos (wanted_none rfl)]
        exact flow_lits 52 22 6 _ [.slice ab nb cb, a.eval (Operand.tmp 19), .slice ah nh ch, a.eval (Operand.tmp 23), a.eval (Operand.tmp 25), a.eval (Operand.tmp 27)] rfl Try.underlying52 (by kernel_rfl) (by kernel_rfl) rfl (by decide) (by decide) (by intro v hv; simp only [List.mem_cons, List.not_mem_nil, or_false] at hv; rcases hv with rfl | rfl | rfl | rfl | rfl | rfl <;> first | exact Rd.one ((hd 6 _ rfl rfl (waits_spec rfl)).2.1 rfl) | exact Rd.one ((hd 10 _ rfl rfl (waits_spec rfl)).2.2.1 rfl) | exact Rd.one ((hd 12 _ rfl rfl (waits_spec rfl)).2.2.2.1 rfl) | exact Rd.one ((hd 14 _ rfl rfl (waits_spec rfl)).2.2.2.2.1 rfl) | rfl) (by simp only [List.map_toArray, List.map_cons, List.map_nil, show a.eval (Operand.tmp 16) = .slice ab nb cb from ((hd 3 _ rfl rfl (waits_spec rfl)).1), show a.eval (Operand.tmp 20) = .slice ah nh ch from ((hd 7 _ rfl rfl (waits_spec rfl)).1)]; rfl) (by simp) ⟨trivial, fun h => absurd h (by decide), fun h => absurd h (by decide), fun h => absurd h (by decide), fun h => absurd h (by decide), fun _ => (new6 (HBW.out.below hB) ((hd 6 _ rfl rfl (waits_spec rfl)).2.1 rfl) (HHW.out.below hB) ((hd 10 _ rfl rfl (waits_spec rfl)).2.2.1 rfl) ((hd 12 _ rfl rfl (waits_spec rfl)).2.2.2.1 rfl) ((hd 14 _ rfl rfl (waits_spec rfl)).2.2.2.2.1 rfl))⟩
      · intro _ a w2 hB hF hd
        rw [if_pos (wanted_none rfl)]
        refine flow_call _ _ _ rfl Try.call67 _ (args2 ((hd 2 _ rfl rfl (waits_spec rfl)).1) rfl) (by simp) (((HTN.out ▸ tag_any K HKB.out _ 6 _ _ F N w2 ((hd 15 _ rfl rfl (waits_spec rfl)).2.2.2.2.2 rfl) HG.out HN.out HN2.out HF.out)).mono ?_)
        rintro e w3 ⟨rfl, hb⟩; exact ⟨_, rfl, ⟨rfl, fun h => absurd h (by decide), fun h => absurd h (by decide), fun h => absurd h (by decide), fun h => absurd h (by decide), fun h => absurd h (by decide)⟩, hb⟩
    · refine Each.all ?_
      refine ⟨(fun h => absurd h (by decide)), (fun h => absurd h (by decide)), (fun h => absurd h (by decide)), (fun h => absurd h (by decide)), (fun h => absurd h (by decide)), (fun h => absurd h (by decide)), (fun h => absurd h (by decide)), (fun h => absurd h (by decide)), (fun h => absurd h (by decide)), (fun h => absurd h (by decide)), (fun h => absurd h (by decide)), (fun h => absurd h (by decide)), (fun h => absurd h (by decide)), (fun h => absurd h (by decide)), (fun h => absurd h (by decide)), (fun h => absurd h (by decide)), (fun h => absurd h (by decide)), ?_, trivial⟩
      · intro _ a w1 w2 K hB hF hS hr hK
        exact wp_store_arr 70 _ _ rfl .u8 ((w.heap.size + 2)) 16 (fun _ => 0) (dg 256 TN) Try.size70 (hF.same 8 rfl) ((hS 16 _ rfl rfl ).1) hr hK
    · intro a wf w4 hB hF hS hfil
      have other : ∀ {k : IntKind} {qb n : Nat} {f : Nat → Int}, qb ≠ (w.heap.size + 2) → Arr k wf qb n f → Arr k w4 qb n f := fun {k qb n f} e0 hA => hfil.arr (by intro i _ hpi; simp only [Bool.or_eq_true, beq_iff_eq] at hpi; subst hpi <;> ((try simp only []); (try dsimp only); omega)) hA
      have belowT : ∀ {B : Nat} {w0 : World}, B ≤ (w.heap.size + 2) → Below B w0 wf → Below B w0 w4 := fun {B w0} e0 hA => hfil.below (by intro i _ hpi; simp only [Bool.or_eq_true, beq_iff_eq] at hpi; subst hpi <;> ((try simp only []); (try dsimp only); omega)) hA
      have V17 : Arr .u8 w4 ((w.heap.size + 2)) 16 (dg 256 TN) := hfil.at 17 (by decide) rfl
      have hszf := hfil.size
      clear hfil
      obtain ⟨x19, hx19⟩ : ∃ x, x = a.tmps.getD 19 undef := ⟨_, rfl⟩
      obtain ⟨x23, hx23⟩ : ∃ x, x = a.tmps.getD 23 undef := ⟨_, rfl⟩
      obtain ⟨x25, hx25⟩ : ∃ x, x = a.tmps.getD 25 undef := ⟨_, rfl⟩
      obtain ⟨x27, hx27⟩ : ∃ x, x = a.tmps.getD 27 undef := ⟨_, rfl⟩
      obtain ⟨x28, hx28⟩ : ∃ x, x = a.tmps.getD 28 undef := ⟨_, rfl⟩
      have ha := puts_each rfl rfl hF [_, _, _, _, _, _, x19, _, _, _, x23, _, x25, _, x27, x28, _, undef] rfl ⟨(hS 0 _ rfl rfl).1, (hS 1 _ rfl rfl).1, (hS 2 _ rfl rfl).1, (hS 3 _ rfl rfl).1, (hS 4 _ rfl rfl).1, (hS 5 _ rfl rfl).1, hx19.symm, (hS 7 _ rfl rfl).1, (hS 8 _ rfl rfl).1, (hS 9 _ rfl rfl).1, hx23.symm, (hS 11 _ rfl rfl).1, hx25.symm, (hS 13 _ rfl rfl).1, hx27.symm, hx28.symm, (hS 16 _ rfl rfl).1, trivial, trivial⟩
      simp only [puts, Act.put, List.setIfInBounds_toArray, List.set_cons_succ, List.set_cons_zero] at ha
      subst ha
      clear hx19 hx23 hx25 hx27 hx28
      clear hS hF
      have hb4 := belowT (by omega) (hb2.trans (hB.mono hb2.size))
      go_wp2
      exact bodyPost_ret (results_arr rfl _ _ .u8 (w.heap.size + 2) 16 _ 5 rfl V17 Try.underlying70 Try.size70) rfl ⟨rfl, hb4⟩
end Go.Proofs.Ytgobodhcamgidaa
