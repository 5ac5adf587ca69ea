/-
  The law ChachaBack answers true.
-/
import Derived.Test.YtiiafgbdmejcpaaCh6
import Derived.Test.YtiiafgbdmejcpaaChO
import Derived.Test.YtiiafgbdmejcpaaSame
import Derived.Test.YtiiafgbdmejcpaaTxt
namespace Go.Bas
theorem xo_back (s : Int) {f : Int} (h : 0 ≤ f ∧ f < 256) : xo s (xo s f) = f := by
  obtain ⟨h0, h1⟩ := h
  have e : ∀ a b : Int, xo a b = ((BitVec.ofInt 8 a ^^^ BitVec.ofInt 8 b).toNat : Int) := fun a b => by
    unfold xo
    show IntKind.u8.wrap (((BitVec.ofInt 8 a ^^^ BitVec.ofInt 8 b).toNat : Nat) : Int) = _
    have := (BitVec.ofInt 8 a ^^^ BitVec.ofInt 8 b).isLt
    rw [IntKind.wrap_u8]; omega
  rw [e, e, BitVec.ofInt_natCast, BitVec.ofNat_toNat, BitVec.setWidth_eq, ← BitVec.xor_assoc, BitVec.xor_self, BitVec.zero_xor, BitVec.toNat_ofInt]
  omega
theorem hid_back (key nonce : Nat → Int) (c : Int) (f : Nat → Int) {n : Nat} (h : ∀ i, i < n → 0 ≤ f i ∧ f i < 256) : ∀ i, i < n → hidB key nonce c (hidB key nonce c f) i = f i := fun i hi => by
  unfold hidB; exact xo_back _ (h i hi)
end Go.Bas
namespace Go.Proofs.Ytiiafgbdmejcpaa
open Go.RowKit Go.Bas Go.ChangeShapes
attribute [local go_sem ↓] Go.wp_at_zero Go.wp_at_succ

/-- a pair of a list that can be read and no error. -/
def TupRd (w : World) (v : Value) (n : Nat) (f : Nat → Int) : Prop := ∃ u, v = .tuple #[u, .int .i64 0] ∧ Rd .u8 w u n f
theorem TupRd.below {w w' : World} {v : Value} {n : Nat} {f : Nat → Int} (h : TupRd w v n f) (hb : Below w.heap.size w w') : TupRd w' v n f := by
  obtain ⟨u, hu, hr⟩ := h
  exact ⟨u, hu, hr.below hb⟩
theorem hide_tup (key nonce : Nat → Int) (c : Int) (hk : ∀ i, i < 32 → 0 ≤ key i ∧ key i < 256) (hn : ∀ i, i < 12 → 0 ≤ nonce i ∧ nonce i < 256) (hc : 0 ≤ c ∧ c < 4294967296)
    (v : Value) (n : Nat) (f : Nat → Int) (w : World) (hv : Rd .u8 w v n f) (h1 : n ≤ 1048576) (h2 : ((n + 63) / 64 : Nat) ≤ 4294967296 - c) :
    Calls Try.prog 49 #[.agg (arr .u8 32 key), .agg (arr .u8 12 nonce), .int .u32 c, v] w fun e w' =>
      ∃ v, e = .returned v ∧ TupRd w' v n (hidB key nonce c f) ∧ Below w.heap.size w w' :=
  (hide_any key nonce c hk hn hc v n f w hv h1 h2).mono fun e w' h => by
    obtain ⟨u, he, hr, hb⟩ := h
    exact ⟨_, he, ⟨u, rfl, hr⟩, hb⟩

theorem byteOf2 (f : Nat → Int) (n : Nat) (h : ∀ i, i < n → (Lit.int .u8 (f i)).wf = true) : ∀ i, i < n → 0 ≤ f i ∧ f i < 256 := fun i hi => by have := bounds_u8 (h i hi); omega

set_option maxRecDepth 100000 in
set_option maxHeartbeats 6400000 in
theorem chachaBack_law (w : World) (key nonce : Nat → Int) (c : Int) (hk : ∀ i, i < 32 → (Lit.int .u8 (key i)).wf = true) (hn : ∀ i, i < 12 → (Lit.int .u8 (nonce i)).wf = true) (hc : (Lit.int .u32 c).wf = true)
    (v : Value) (n : Nat) (f : Nat → Int) (hv : Rd .u8 w v n f) (hf : ∀ i, i < n → (Lit.int .u8 (f i)).wf = true) (m : Int) (hm : (Lit.int .u16 m).wf = true) :
    Calls Try.prog 12 #[.agg (caseV key nonce c), v, .int .u16 m] w fun e w' => e = .returned (.bool true) ∧ Below w.heap.size w w' := by
  have HK := Lib.hid (byteOf2 key 32 hk)
  have HN := Lib.hid (byteOf2 nonce 12 hn)
  have hcb : 0 ≤ c ∧ c < 4294967296 := by have := bounds_u32 hc; omega
  have HCB := Lib.hid hcb
  have HFB := Lib.hid (hid_back key nonce c f (byteOf2 f n hf))
  have hmb : 0 ≤ m ∧ m < 65536 := by have := bounds_u16 hm; omega
  obtain ⟨m0, mm1⟩ := hmb
  obtain ⟨c0, cc1⟩ := hcb
  have hx2 := hv
  obtain ⟨a1, c1, rfl, l1, m1, z1, h1⟩ := hx2
  have HX := Lib.hid hv
  clear hk hn hc hv hf hm z1 h1
  obtain ⟨B, hB⟩ : ∃ B : Nat, B = (n + 63) / 64 := ⟨_, rfl⟩
  have hdiv : ((n : Int) + 63) / 64 = (B : Int) := by omega
  have hdivt : Int.tdiv ((n : Int) + 63) 64 = (B : Int) := by rw [Int.tdiv_eq_ediv_of_nonneg (by omega)]; exact hdiv
  have HBB := Lib.hid hB
  have hBb : B ≤ n := by omega
  clear hB
  go_enter Try.func12, Try.ntmps12
  have hA1 : CaseAt (w.alloc (.cells (caseV key nonce c) 42)) w.heap.size key nonce c := CaseAt.new _ _ _ _ _
  have hb1 : Below w.heap.size w (w.alloc (.cells (caseV key nonce c) 42)) := (Below.refl _ _).alloc (Nat.le_refl _) _
  go_wp2_with fail
  refine (chAwake_any _).mono ?_
  rintro e w2 ⟨rfl, hb2⟩
  have hA2 := hA1.kept hb2
  have hbel := hb1.trans (hb2.mono hb1.size)
  have HX2 := Lib.hid (HX.out.below hbel)
  clear hA1 hb1 hb2 HX
  by_cases hlong : 500 < n
  · go_wp2
    go_ret
    exact ⟨rfl, hbel⟩
  · have ec := hA2.count
    go_wp2_with (first
      | (refine load_part rfl 38 _ rfl .u8 w.heap.size 0 32 key 5 Try.underlying38 Try.size38 rfl hA2.key ?_)
      | (refine load_part rfl 39 _ rfl .u8 w.heap.size 32 12 nonce 5 Try.underlying39 Try.size39 rfl hA2.nonce ?_))
    by_cases hend : 4294967296 - c < (B : Int)
    · refine (hide_end key nonce c HCB.out _ n f _ HX2.out (by omega) (by have := HBB.out; omega)).mono ?_
      rintro e w4 ⟨rfl, hb4⟩
      have hA4 := hA2.kept hb4
      have ec4 := hA4.count
      have hbel4 := hbel.trans (hb4.mono hbel.size)
      clear ec hA2 hb4 hbel
      go_wp2
      go_ret
      exact ⟨rfl, hbel4⟩
    · have h2' : ((n + 63) / 64 : Nat) ≤ 4294967296 - c := by have := HBB.out; omega
      refine (hide_any key nonce c HK.out HN.out HCB.out _ n f _ HX2.out (by omega) h2').mono ?_
      rintro e w4 ⟨x, rfl, hx, hb4⟩
      have H2 := Lib.hid h2'
      have hA4 := hA2.kept hb4
      have ec4 := hA4.count
      have hbel4 := hbel.trans (hb4.mono hbel.size)
      have HX4 := Lib.hid (HX2.out.below hb4)
      obtain ⟨gx, cx, rfl, gl, gm, gz, gh⟩ := id hx
      have HH := Lib.hid hx
      clear ec hA2 hb4 hbel hx gz gh h2' HX2
      go_wp2_with (first
        | (refine load_part rfl 38 _ rfl .u8 w.heap.size 0 32 key 5 Try.underlying38 Try.size38 rfl hA4.key ?_)
        | (refine load_part rfl 39 _ rfl .u8 w.heap.size 32 12 nonce 5 Try.underlying39 Try.size39 rfl hA4.nonce ?_))
      refine (hide_any key nonce c HK.out HN.out HCB.out _ n _ _ HH.out (by omega) H2.out).mono ?_
      rintro e w5 ⟨y, rfl, hy, hb5⟩
      have hA5 := hA4.kept hb5
      have ec5 := hA5.count
      have hbel5 := hbel4.trans (hb5.mono hbel4.size)
      have HX5 := Lib.hid (HX4.out.below hb5)
      have HH5 := Lib.hid (HH.out.below hb5)
      obtain ⟨gy, cy, rfl, yl, ym, yz, yh⟩ := id hy
      have HY := Lib.hid hy
      clear ec4 hA4 hb5 hbel4 hy yz yh HX4 HH
      obtain ⟨k, hkk⟩ : ∃ k : Nat, m % ((n : Int) + 1) = (k : Int) := ⟨(m % ((n : Int) + 1)).toNat, by rw [Int.toNat_of_nonneg (Int.emod_nonneg _ (by omega))]⟩
      have hkn : k ≤ n := by
        have h1 := Int.emod_lt_of_pos m (show (0 : Int) < (n : Int) + 1 by omega)
        omega
      have G1 := Lib.hid (Rd.head (P := Try.prog) Try.underlying23 Try.info5 a1 n c1 k hkn l1)
      have G2 := Lib.hid (Rd.head (P := Try.prog) Try.underlying23 Try.info5 gx n cx k hkn gl)
      have H3 : Hid (((k + 63) / 64 : Nat) ≤ 4294967296 - c) := by unfold Hid; have := H2.out; omega
      have hk5 : k ≤ 1048576 := by omega
      go_upto_region 10 with (fail)
      simp only [hkk]
      refine region_flow (n := 90) (by kernel_rfl) (by kernel_rfl) (by kernel_rfl) rfl
        (fun ii vv ww => (match ii with | 0 => vv = .pointer (some ⟨w.heap.size, 0, none⟩) | 1 => vv = .agg (arr .u8 32 (key)) | 2 => vv = .pointer (some ⟨w.heap.size, 32, none⟩) | 3 => vv = .agg (arr .u8 12 (nonce)) | 4 => vv = .pointer (some ⟨w.heap.size, 44, none⟩) | 5 => vv = .int .u32 (c) | 6 => vv = .slice a1 n c1 | 7 => vv = .int .i64 ((k : Int)) | 8 => vv = .slice a1 k c1 | 12 | 14 => vv = .int .i64 (0) | _ => True) ∧ (ii = 9 → TupRd ww vv k (hidB key nonce c f)) ∧ (ii = 10 → TupRd ww vv k (hidB key nonce c f)) ∧ (ii = 11 → Rd .u8 ww vv k (hidB key nonce c f)) ∧ (ii = 13 → Rd .u8 ww vv k (hidB key nonce c f)))
        (fun w w' => Below w.heap.size w w') (fun _ _ h => h) (fun i v w w' h hE => ⟨h.1, fun e => TupRd.below (h.2.1 e) hE, fun e => TupRd.below (h.2.2.1 e) hE, fun e => Rd.below (h.2.2.2.1 e) hE, fun e => Rd.below (h.2.2.2.2 e) hE⟩) ?_ ?_
      · refine Each.all ?_
        refine ⟨?_, ?_, ?_, ?_, ?_, ?_, ?_, ?_, ?_, ?_, ?_, ?_, ?_, ?_, ?_, trivial⟩
        · intro a w2 hB hF hd
          rw [if_pos (wanted_none rfl)]
          refine flow_val (fun h => by cases h) (run_field_at (m := 31) (k := 0) rfl (hF.same 3 rfl) (by kernel_rfl)) ?_
          exact ⟨rfl, fun h => absurd h (by decide), fun h => absurd h (by decide), fun h => absurd h (by decide), fun h => absurd h (by decide)⟩
        · intro a w2 hB hF hd
          rw [if_pos (wanted_none rfl)]
          exact flow_val (fun h => by cases h) (run_load_part rfl ((hd 0 _ rfl (waits_spec rfl)).1) Try.underlying38 Try.size38 (fun i hi => (hB.cell (p := ⟨w.heap.size, 0 + i, none⟩) hA5.lt).trans (hA5.key i hi))) ⟨rfl, fun h => absurd h (by decide), fun h => absurd h (by decide), fun h => absurd h (by decide), fun h => absurd h (by decide)⟩
        · intro a w2 hB hF hd
          rw [if_pos (wanted_none rfl)]
          refine flow_val (fun h => by cases h) (run_field_at (m := 11) (k := 32) rfl (hF.same 3 rfl) (by kernel_rfl)) ?_
          exact ⟨rfl, fun h => absurd h (by decide), fun h => absurd h (by decide), fun h => absurd h (by decide), fun h => absurd h (by decide)⟩
        · intro a w2 hB hF hd
          rw [if_pos (wanted_none rfl)]
          exact flow_val (fun h => by cases h) (run_load_part rfl ((hd 2 _ rfl (waits_spec rfl)).1) Try.underlying39 Try.size39 (fun i hi => (hB.cell (p := ⟨w.heap.size, 32 + i, none⟩) hA5.lt).trans (hA5.nonce i hi))) ⟨rfl, fun h => absurd h (by decide), fun h => absurd h (by decide), fun h => absurd h (by decide), fun h => absurd h (by decide)⟩
        · intro a w2 hB hF hd
          rw [if_pos (wanted_none rfl)]
          refine flow_val (fun h => by cases h) (run_field_at (m := 0) (k := 44) rfl (hF.same 3 rfl) (by kernel_rfl)) ?_
          exact ⟨rfl, fun h => absurd h (by decide), fun h => absurd h (by decide), fun h => absurd h (by decide), fun h => absurd h (by decide)⟩
        · intro a w2 hB hF hd
          rw [if_pos (wanted_none rfl)]
          exact flow_val (fun h => by cases h) (run_load_cell rfl ((hd 4 _ rfl (waits_spec rfl)).1) Try.underlying40 ((hB.cell (p := ⟨w.heap.size, 44, none⟩) hA5.lt).trans ec5)) ⟨rfl, fun h => absurd h (by decide), fun h => absurd h (by decide), fun h => absurd h (by decide), fun h => absurd h (by decide)⟩
        · intro a w2 hB hF hd
          rw [if_pos (wanted_none rfl)]
          exact flow_move _ (.inl rfl) (by simp) ⟨(hF.same 1 rfl), fun h => absurd h (by decide), fun h => absurd h (by decide), fun h => absurd h (by decide), fun h => absurd h (by decide)⟩
        · intro a w2 hB hF hd
          rw [if_pos (wanted_none rfl)]
          exact flow_move _ (.inl rfl) (by simp) ⟨(hF.same 11 rfl), fun h => absurd h (by decide), fun h => absurd h (by decide), fun h => absurd h (by decide), fun h => absurd h (by decide)⟩
        · intro a w2 hB hF hd
          rw [if_pos (wanted_none rfl)]
          exact flow_val (fun h => by cases h) (run_slice_part rfl ((hd 6 _ rfl (waits_spec rfl)).1) (by simp only [Option.map_some, Option.map_none, show a.eval (Operand.tmp 60) = .int .i64 ((k : Int)) from ((hd 7 _ rfl (waits_spec rfl)).1)]; exact G1.out.1 _)) ⟨rfl, fun h => absurd h (by decide), fun h => absurd h (by decide), fun h => absurd h (by decide), fun h => absurd h (by decide)⟩
        · intro a w2 hB hF hd
          rw [if_pos (wanted_none rfl)]
          refine flow_call _ _ _ rfl Try.call49 _ (args4 ((hd 1 _ rfl (waits_spec rfl)).1) ((hd 3 _ rfl (waits_spec rfl)).1) ((hd 5 _ rfl (waits_spec rfl)).1) ((hd 8 _ rfl (waits_spec rfl)).1)) (by simp) ((hide_tup key nonce c HK.out HN.out HCB.out _ k f _ ((G1.out.2 _ _ HX5.out).below hB) hk5 H3.out).mono ?_)
          rintro e w3 ⟨u, rfl, hr, hb⟩; exact ⟨u, rfl, ⟨trivial, fun _ => hr, fun h => absurd h (by decide), fun h => absurd h (by decide), fun h => absurd h (by decide)⟩, hb⟩
        · intro a w2 hB hF hd
          rw [if_pos (wanted_none rfl)]
          exact flow_move _ (.inl rfl) (by simp) ⟨trivial, fun h => absurd h (by decide), fun _ => ((hd 9 _ rfl (waits_spec rfl)).2.1 rfl), fun h => absurd h (by decide), fun h => absurd h (by decide)⟩
        · intro a w2 hB hF hd
          rw [if_pos (wanted_none rfl)]
          obtain ⟨u, hu, hR⟩ := ((hd 10 _ rfl (waits_spec rfl)).2.2.1 rfl)
          exact flow_val (fun h => by cases h) (run_extract rfl hu rfl) ⟨trivial, fun h => absurd h (by decide), fun h => absurd h (by decide), fun _ => hR, fun h => absurd h (by decide)⟩
        · intro a w2 hB hF hd
          rw [if_pos (wanted_none rfl)]
          obtain ⟨u, hu, hR⟩ := ((hd 10 _ rfl (waits_spec rfl)).2.2.1 rfl)
          exact flow_val (fun h => by cases h) (run_extract rfl hu rfl) ⟨rfl, fun h => absurd h (by decide), fun h => absurd h (by decide), fun h => absurd h (by decide), fun h => absurd h (by decide)⟩
        · intro a w2 hB hF hd
          rw [if_pos (wanted_none rfl)]
          exact flow_move _ (.inr rfl) (by simp) ⟨trivial, fun h => absurd h (by decide), fun h => absurd h (by decide), fun h => absurd h (by decide), fun _ => ((hd 11 _ rfl (waits_spec rfl)).2.2.2.1 rfl)⟩
        · intro a w2 hB hF hd
          rw [if_pos (wanted_none rfl)]
          exact flow_move _ (.inr rfl) (by simp) ⟨((hd 12 _ rfl (waits_spec rfl)).1), fun h => absurd h (by decide), fun h => absurd h (by decide), fun h => absurd h (by decide), fun h => absurd h (by decide)⟩
      · intro a w6 hB hF hS
        obtain ⟨x62, hx62⟩ : ∃ x, x = a.tmps.getD 62 undef := ⟨_, rfl⟩
        have P62 : TupRd w6 x62 k (hidB key nonce c f) := by rw [hx62]; exact (hS 9 _ rfl).2.1 rfl
        obtain ⟨x52, hx52⟩ : ∃ x, x = a.tmps.getD 52 undef := ⟨_, rfl⟩
        have P52 : TupRd w6 x52 k (hidB key nonce c f) := by rw [hx52]; exact (hS 10 _ rfl).2.2.1 rfl
        obtain ⟨x63, hx63⟩ : ∃ x, x = a.tmps.getD 63 undef := ⟨_, rfl⟩
        have P63 : Rd .u8 w6 x63 k (hidB key nonce c f) := by rw [hx63]; exact (hS 11 _ rfl).2.2.2.1 rfl
        obtain ⟨x12, hx12⟩ : ∃ x, x = a.tmps.getD 12 undef := ⟨_, rfl⟩
        have P12 : Rd .u8 w6 x12 k (hidB key nonce c f) := by rw [hx12]; exact (hS 13 _ rfl).2.2.2.2 rfl
        have ha := puts_each rfl rfl hF [_, _, _, _, _, _, _, _, _, x62, x52, x63, _, x12, _] rfl ⟨(hS 0 _ rfl).1, (hS 1 _ rfl).1, (hS 2 _ rfl).1, (hS 3 _ rfl).1, (hS 4 _ rfl).1, (hS 5 _ rfl).1, (hS 6 _ rfl).1, (hS 7 _ rfl).1, (hS 8 _ rfl).1, hx62.symm, hx52.symm, hx63.symm, (hS 12 _ rfl).1, hx12.symm, (hS 14 _ rfl).1, trivial⟩
        simp only [puts, Act.put, List.setIfInBounds_toArray, List.set_cons_succ, List.set_cons_zero] at ha
        subst ha
        clear hx62 hx52 hx63 hx12
        clear hS hF
        obtain ⟨gz, cz, rfl, zl, zm, zz, zh⟩ := id P12
        have HZ := Lib.hid P12
        have hbel6 := hbel5.trans (hB.mono hbel5.size)
        have HX6 := Lib.hid (HX5.out.below hB)
        have HH6 := Lib.hid (G2.out.2 _ _ (HH5.out.below hB))
        have HY6 := Lib.hid (HY.out.below hB)
        clear P12 zz zh hbel5 HX5 HH5 HY
        go_upto_region 11 with (fail)
        refine region_flow (n := 90) (by kernel_rfl) (by kernel_rfl) (by kernel_rfl) rfl
          (fun ii vv _ => (match ii with | 0 | 3 => vv = .int .i64 (0) | 1 | 2 | 4 | 5 | 6 | 9 | 10 | 11 | 16 | 17 | 18 | 23 | 24 | 25 => vv = .bool true | 7 => vv = .slice gy n cy | 8 | 14 => vv = .slice a1 n c1 | 12 | 20 => vv = .slice gx n cx | 13 | 15 => vv = .int .i64 ((n : Int)) | 19 => vv = .slice gz k cz | 21 => vv = .int .i64 ((k : Int)) | 22 => vv = .slice gx k cx | _ => True))
          (fun w w' => Below w.heap.size w w') (fun _ _ h => h) (fun _ _ _ _ h _ => h) ?_ ?_
        · refine Each.all ?_
          refine ⟨?_, ?_, ?_, ?_, ?_, ?_, ?_, ?_, ?_, ?_, ?_, ?_, ?_, ?_, ?_, ?_, ?_, ?_, ?_, ?_, ?_, ?_, ?_, ?_, ?_, ?_, trivial⟩
          · intro a w2 hB hF hd
            rw [if_pos (wanted_none rfl)]
            exact flow_move _ (.inl rfl) (by simp) (hF.same 10 rfl)
          · intro a w2 hB hF hd
            rw [if_pos (wanted_none rfl)]
            refine flow_val (fun h => by cases h) (Go.Bas.run_eql_int rfl (hd 0 _ rfl (waits_spec rfl)) rfl) ?_
            exact rfl
          · intro a w2 hB hF hd
            rw [if_pos (wanted_none rfl)]
            exact flow_move _ (.inl rfl) (by simp) (hd 1 _ rfl (waits_spec rfl))
          · intro a w2 hB hF hd
            refine flow_wanted (wanted_yes rfl rfl (hd 2 _ rfl (waits_spec rfl)) rfl) ?_
            exact flow_move _ (.inl rfl) (by simp) (hF.same 13 rfl)
          · intro a w2 hB hF hd
            refine flow_wanted (wanted_yes rfl rfl (hd 2 _ rfl (waits_spec rfl)) rfl) ?_
            refine flow_val (fun h => by cases h) (Go.Bas.run_eql_int rfl (hd 3 _ rfl (waits_spec rfl)) rfl) ?_
            exact rfl
          · intro a w2 hB hF hd
            rw [if_pos (wanted_none rfl)]
            exact flow_val (fun h => by cases h) (run_pick rfl (hd 2 _ rfl (waits_spec rfl))) ((hd 4 _ rfl (waits_spec rfl)))
          · intro a w2 hB hF hd
            rw [if_pos (wanted_none rfl)]
            exact flow_move _ (.inl rfl) (by simp) (hd 5 _ rfl (waits_spec rfl))
          · intro a w2 hB hF hd
            refine flow_wanted (wanted_yes rfl rfl (hd 6 _ rfl (waits_spec rfl)) rfl) ?_
            exact flow_move _ (.inl rfl) (by simp) (hF.same 9 rfl)
          · intro a w2 hB hF hd
            refine flow_wanted (wanted_yes rfl rfl (hd 6 _ rfl (waits_spec rfl)) rfl) ?_
            exact flow_move _ (.inl rfl) (by simp) (hF.same 1 rfl)
          · intro a w2 hB hF hd
            refine flow_wanted (wanted_yes rfl rfl (hd 6 _ rfl (waits_spec rfl)) rfl) ?_
            refine flow_call _ _ _ rfl Try.call18 _ (args2 (hd 7 _ rfl (waits_spec rfl)) (hd 8 _ rfl (waits_spec rfl))) (by simp) ((same_yes _ _ n _ _ _ (HY6.out.below hB) (HX6.out.below hB) HFB.out).mono ?_)
            rintro e w3 ⟨rfl, hb⟩; exact ⟨_, rfl, rfl, hb⟩
          · intro a w2 hB hF hd
            rw [if_pos (wanted_none rfl)]
            exact flow_val (fun h => by cases h) (run_pick rfl (hd 6 _ rfl (waits_spec rfl))) ((hd 9 _ rfl (waits_spec rfl)))
          · intro a w2 hB hF hd
            rw [if_pos (wanted_none rfl)]
            exact flow_move _ (.inl rfl) (by simp) (hd 10 _ rfl (waits_spec rfl))
          · intro a w2 hB hF hd
            refine flow_wanted (wanted_yes rfl rfl (hd 11 _ rfl (waits_spec rfl)) rfl) ?_
            exact flow_move _ (.inl rfl) (by simp) (hF.same 7 rfl)
          · intro a w2 hB hF hd
            refine flow_wanted (wanted_yes rfl rfl (hd 11 _ rfl (waits_spec rfl)) rfl) ?_
            exact flow_val (fun h => by cases h) (run_len_sl rfl (hd 12 _ rfl (waits_spec rfl)) Try.underlying23) rfl
          · intro a w2 hB hF hd
            refine flow_wanted (wanted_yes rfl rfl (hd 11 _ rfl (waits_spec rfl)) rfl) ?_
            exact flow_move _ (.inl rfl) (by simp) (hF.same 1 rfl)
          · intro a w2 hB hF hd
            refine flow_wanted (wanted_yes rfl rfl (hd 11 _ rfl (waits_spec rfl)) rfl) ?_
            exact flow_val (fun h => by cases h) (run_len_sl rfl (hd 14 _ rfl (waits_spec rfl)) Try.underlying23) rfl
          · intro a w2 hB hF hd
            refine flow_wanted (wanted_yes rfl rfl (hd 11 _ rfl (waits_spec rfl)) rfl) ?_
            refine flow_val (fun h => by cases h) (Go.Bas.run_eql_int rfl (hd 13 _ rfl (waits_spec rfl)) (hd 15 _ rfl (waits_spec rfl))) ?_
            exact congrArg Value.bool (beq_self_eq_true _)
          · intro a w2 hB hF hd
            rw [if_pos (wanted_none rfl)]
            exact flow_val (fun h => by cases h) (run_pick rfl (hd 11 _ rfl (waits_spec rfl))) ((hd 16 _ rfl (waits_spec rfl)))
          · intro a w2 hB hF hd
            rw [if_pos (wanted_none rfl)]
            exact flow_move _ (.inl rfl) (by simp) (hd 17 _ rfl (waits_spec rfl))
          · intro a w2 hB hF hd
            refine flow_wanted (wanted_yes rfl rfl (hd 18 _ rfl (waits_spec rfl)) rfl) ?_
            exact flow_move _ (.inl rfl) (by simp) (hF.same 12 rfl)
          · intro a w2 hB hF hd
            refine flow_wanted (wanted_yes rfl rfl (hd 18 _ rfl (waits_spec rfl)) rfl) ?_
            exact flow_move _ (.inl rfl) (by simp) (hF.same 7 rfl)
          · intro a w2 hB hF hd
            refine flow_wanted (wanted_yes rfl rfl (hd 18 _ rfl (waits_spec rfl)) rfl) ?_
            exact flow_move _ (.inl rfl) (by simp) (hF.same 11 rfl)
          · intro a w2 hB hF hd
            refine flow_wanted (wanted_yes rfl rfl (hd 18 _ rfl (waits_spec rfl)) rfl) ?_
            exact flow_val (fun h => by cases h) (run_slice_part rfl (hd 20 _ rfl (waits_spec rfl)) (by simp only [Option.map_some, Option.map_none, show a.eval (Operand.tmp 86) = .int .i64 ((k : Int)) from (hd 21 _ rfl (waits_spec rfl))]; exact G2.out.1 _)) rfl
          · intro a w2 hB hF hd
            refine flow_wanted (wanted_yes rfl rfl (hd 18 _ rfl (waits_spec rfl)) rfl) ?_
            refine flow_call _ _ _ rfl Try.call18 _ (args2 (hd 19 _ rfl (waits_spec rfl)) (hd 22 _ rfl (waits_spec rfl))) (by simp) ((same_yes _ _ k _ _ _ (HZ.out.below hB) (HH6.out.below hB) (fun _ _ => rfl)).mono ?_)
            rintro e w3 ⟨rfl, hb⟩; exact ⟨_, rfl, rfl, hb⟩
          · intro a w2 hB hF hd
            rw [if_pos (wanted_none rfl)]
            exact flow_val (fun h => by cases h) (run_pick rfl (hd 18 _ rfl (waits_spec rfl))) ((hd 23 _ rfl (waits_spec rfl)))
          · intro a w2 hB hF hd
            rw [if_pos (wanted_none rfl)]
            exact flow_move _ (.inr rfl) (by simp) (hd 24 _ rfl (waits_spec rfl))
        · intro a w7 hB hF hS
          have ha := puts_each rfl rfl hF [_, _, _, _, _, _, _, _, _, _, _, _, _, _, _, _, _, _, _, _, _, _, _, _, _, _] rfl ⟨hS 0 _ rfl, hS 1 _ rfl, hS 2 _ rfl, hS 3 _ rfl, hS 4 _ rfl, hS 5 _ rfl, hS 6 _ rfl, hS 7 _ rfl, hS 8 _ rfl, hS 9 _ rfl, hS 10 _ rfl, hS 11 _ rfl, hS 12 _ rfl, hS 13 _ rfl, hS 14 _ rfl, hS 15 _ rfl, hS 16 _ rfl, hS 17 _ rfl, hS 18 _ rfl, hS 19 _ rfl, hS 20 _ rfl, hS 21 _ rfl, hS 22 _ rfl, hS 23 _ rfl, hS 24 _ rfl, hS 25 _ rfl, trivial⟩
          simp only [puts, Act.put, List.setIfInBounds_toArray, List.set_cons_succ, List.set_cons_zero] at ha
          subst ha
          clear hS hF
          have hb7 := hbel6.trans (hB.mono hbel6.size)
          go_wp2
          go_ret
          exact ⟨rfl, hb7⟩
end Go.Proofs.Ytiiafgbdmejcpaa
