/-
  The law ChachaHides answers true.
-/
import Derived.Test.YtiiafgbdmejcpaaCh7
import Derived.Test.YtiiafgbdmejcpaaChO
import Derived.Test.YtiiafgbdmejcpaaSame
namespace Go.Proofs.Ytiiafgbdmejcpaa
open Go.RowKit Go.Bas Go.ChangeShapes
attribute [local go_sem ↓] Go.wp_at_zero Go.wp_at_succ

theorem byteOf (f : Nat → Int) (n : Nat) (h : ∀ i, i < n → (Lit.int .u8 (f i)).wf = true) : ∀ i, i < n → 0 ≤ f i ∧ f i < 256 := fun i hi => by have := bounds_u8 (h i hi); omega

set_option maxRecDepth 100000 in
set_option maxHeartbeats 6400000 in
theorem chachaHides_law (w : World) (key nonce : Nat → Int) (c : Int) (hk : ∀ i, i < 32 → (Lit.int .u8 (key i)).wf = true) (hn : ∀ i, i < 12 → (Lit.int .u8 (nonce i)).wf = true) (hc : (Lit.int .u32 c).wf = true)
    (v : Value) (n : Nat) (f : Nat → Int) (hv : Rd .u8 w v n f) (hf : ∀ i, i < n → (Lit.int .u8 (f i)).wf = true) :
    Calls Try.prog 11 #[.agg (caseV key nonce c), v] w fun e w' => e = .returned (.bool true) ∧ Below w.heap.size w w' := by
  have HK := Lib.hid (byteOf key 32 hk)
  have HN := Lib.hid (byteOf nonce 12 hn)
  have hcb : 0 ≤ c ∧ c < 4294967296 := by have := bounds_u32 hc; omega
  have HCB := Lib.hid hcb
  obtain ⟨c0, cc1⟩ := hcb
  have hx2 := hv
  obtain ⟨a1, c1, rfl, l1, m1, z1, h1⟩ := hx2
  have HX := Lib.hid hv
  clear hk hn hc hv hf z1 h1
  obtain ⟨B, hB⟩ : ∃ B : Nat, B = (n + 63) / 64 := ⟨_, rfl⟩
  have hdiv : ((n : Int) + 63) / 64 = (B : Int) := by omega
  have hdivt : Int.tdiv ((n : Int) + 63) 64 = (B : Int) := by rw [Int.tdiv_eq_ediv_of_nonneg (by omega)]; exact hdiv
  have HBB := Lib.hid hB
  have hBb : B ≤ n := by omega
  clear hB
  go_enter Try.func11, Try.ntmps11
  have hA1 : CaseAt (w.alloc (.cells (caseV key nonce c) 42)) w.heap.size key nonce c := CaseAt.new _ _ _ _ _
  have hb1 : Below w.heap.size w (w.alloc (.cells (caseV key nonce c) 42)) := (Below.refl _ _).alloc (Nat.le_refl _) _
  go_wp2_with fail
  refine (chAwake_any _).mono ?_
  rintro e w2 ⟨rfl, hb2⟩
  have hA2 := hA1.kept hb2
  have hbel := hb1.trans (hb2.mono hb1.size)
  have HX2 := Lib.hid (HX.out.below hbel)
  clear hA1 hb1 hb2 HX
  by_cases hlong : 500 < n
  · go_wp2
    go_ret
    exact ⟨rfl, hbel⟩
  · have ec := hA2.count
    go_wp2_with (first
      | (refine load_part rfl 38 _ rfl .u8 w.heap.size 0 32 key 5 Try.underlying38 Try.size38 rfl hA2.key ?_)
      | (refine load_part rfl 39 _ rfl .u8 w.heap.size 32 12 nonce 5 Try.underlying39 Try.size39 rfl hA2.nonce ?_))
    by_cases hend : 4294967296 - c < (B : Int)
    · refine (hide_end key nonce c HCB.out _ n f _ HX2.out (by omega) (by have := HBB.out; omega)).mono ?_
      rintro e w4 ⟨rfl, hb4⟩
      have hA4 := hA2.kept hb4
      have ec4 := hA4.count
      have hbel4 := hbel.trans (hb4.mono hbel.size)
      clear ec hA2 hb4 hbel
      go_wp2
      go_ret
      exact ⟨rfl, hbel4⟩
    · refine (hide_any key nonce c HK.out HN.out HCB.out _ n f _ HX2.out (by omega) (by have := HBB.out; omega)).mono ?_
      rintro e w4 ⟨x, rfl, hx, hb4⟩
      have hA4 := hA2.kept hb4
      have ec4 := hA4.count
      have hbel4 := hbel.trans (hb4.mono hbel.size)
      have HX4 := Lib.hid (HX2.out.below hb4)
      obtain ⟨gx, cx, rfl, gl, gm, gz, gh⟩ := id hx
      have HH := Lib.hid hx
      clear ec hA2 hb4 hbel hx gl gm gz gh
      have h2' : ((n + 63) / 64 : Nat) ≤ 4294967296 - c := by have := HBB.out; omega
      have H2 := Lib.hid h2'
      clear h2'
      go_upto_region 9 with (fail)
      refine region_flow (n := 55) (by kernel_rfl) (by kernel_rfl) (by kernel_rfl) rfl
        (fun ii vv ww => (match ii with | 0 => vv = .int .i64 (0) | 1 | 2 | 12 | 13 | 14 => vv = .bool true | 3 => vv = .slice gx n cx | 4 => vv = .pointer (some ⟨w.heap.size, 0, none⟩) | 5 => vv = .agg (arr .u8 32 (key)) | 6 => vv = .pointer (some ⟨w.heap.size, 32, none⟩) | 7 => vv = .agg (arr .u8 12 (nonce)) | 8 => vv = .pointer (some ⟨w.heap.size, 44, none⟩) | 9 => vv = .int .u32 (c) | 10 => vv = .slice a1 n c1 | _ => True) ∧ (ii = 11 → Rd .u8 ww vv n (hidB key nonce c f)))
        (fun w w' => Below w.heap.size w w') (fun _ _ h => h) (fun i v w w' h hE => ⟨h.1, fun e => Rd.below (h.2 e) hE⟩) ?_ ?_
      · refine Each.all ?_
        refine ⟨?_, ?_, ?_, ?_, ?_, ?_, ?_, ?_, ?_, ?_, ?_, ?_, ?_, ?_, ?_, trivial⟩
        · intro a w2 hB hF hd
          rw [if_pos (wanted_none rfl)]
          exact flow_move _ (.inl rfl) (by simp) ⟨(hF.same 6 rfl), fun h => absurd h (by decide)⟩
        · intro a w2 hB hF hd
          rw [if_pos (wanted_none rfl)]
          refine flow_val (fun h => by cases h) (Go.Bas.run_eql_int rfl ((hd 0 _ rfl (waits_spec rfl)).1) rfl) ?_
          exact ⟨rfl, fun h => absurd h (by decide)⟩
        · intro a w2 hB hF hd
          rw [if_pos (wanted_none rfl)]
          exact flow_move _ (.inl rfl) (by simp) ⟨((hd 1 _ rfl (waits_spec rfl)).1), fun h => absurd h (by decide)⟩
        · intro a w2 hB hF hd
          refine flow_wanted (wanted_yes rfl rfl ((hd 2 _ rfl (waits_spec rfl)).1) rfl) ?_
          exact flow_move _ (.inl rfl) (by simp) ⟨(hF.same 5 rfl), fun h => absurd h (by decide)⟩
        · intro a w2 hB hF hd
          refine flow_wanted (wanted_yes rfl rfl ((hd 2 _ rfl (waits_spec rfl)).1) rfl) ?_
          refine flow_val (fun h => by cases h) (run_field_at (m := 31) (k := 0) rfl (hF.same 2 rfl) (by kernel_rfl)) ?_
          exact ⟨rfl, fun h => absurd h (by decide)⟩
        · intro a w2 hB hF hd
          refine flow_wanted (wanted_yes rfl rfl ((hd 2 _ rfl (waits_spec rfl)).1) rfl) ?_
          exact flow_val (fun h => by cases h) (run_load_part rfl ((hd 4 _ rfl (waits_spec rfl)).1) Try.underlying38 Try.size38 (fun i hi => (hB.cell (p := ⟨w.heap.size, 0 + i, none⟩) hA4.lt).trans (hA4.key i hi))) ⟨rfl, fun h => absurd h (by decide)⟩
        · intro a w2 hB hF hd
          refine flow_wanted (wanted_yes rfl rfl ((hd 2 _ rfl (waits_spec rfl)).1) rfl) ?_
          refine flow_val (fun h => by cases h) (run_field_at (m := 11) (k := 32) rfl (hF.same 2 rfl) (by kernel_rfl)) ?_
          exact ⟨rfl, fun h => absurd h (by decide)⟩
        · intro a w2 hB hF hd
          refine flow_wanted (wanted_yes rfl rfl ((hd 2 _ rfl (waits_spec rfl)).1) rfl) ?_
          exact flow_val (fun h => by cases h) (run_load_part rfl ((hd 6 _ rfl (waits_spec rfl)).1) Try.underlying39 Try.size39 (fun i hi => (hB.cell (p := ⟨w.heap.size, 32 + i, none⟩) hA4.lt).trans (hA4.nonce i hi))) ⟨rfl, fun h => absurd h (by decide)⟩
        · intro a w2 hB hF hd
          refine flow_wanted (wanted_yes rfl rfl ((hd 2 _ rfl (waits_spec rfl)).1) rfl) ?_
          refine flow_val (fun h => by cases h) (run_field_at (m := 0) (k := 44) rfl (hF.same 2 rfl) (by kernel_rfl)) ?_
          exact ⟨rfl, fun h => absurd h (by decide)⟩
        · intro a w2 hB hF hd
          refine flow_wanted (wanted_yes rfl rfl ((hd 2 _ rfl (waits_spec rfl)).1) rfl) ?_
          exact flow_val (fun h => by cases h) (run_load_cell rfl ((hd 8 _ rfl (waits_spec rfl)).1) Try.underlying40 ((hB.cell (p := ⟨w.heap.size, 44, none⟩) hA4.lt).trans ec4)) ⟨rfl, fun h => absurd h (by decide)⟩
        · intro a w2 hB hF hd
          refine flow_wanted (wanted_yes rfl rfl ((hd 2 _ rfl (waits_spec rfl)).1) rfl) ?_
          exact flow_move _ (.inl rfl) (by simp) ⟨(hF.same 1 rfl), fun h => absurd h (by decide)⟩
        · intro a w2 hB hF hd
          refine flow_wanted (wanted_yes rfl rfl ((hd 2 _ rfl (waits_spec rfl)).1) rfl) ?_
          refine flow_call _ _ _ rfl Try.call50 _ (args4 ((hd 5 _ rfl (waits_spec rfl)).1) ((hd 7 _ rfl (waits_spec rfl)).1) ((hd 9 _ rfl (waits_spec rfl)).1) ((hd 10 _ rfl (waits_spec rfl)).1)) (by simp) ((rHide_any key nonce c HK.out HN.out HCB.out _ n f _ (HX4.out.below hB) (by omega) H2.out).mono ?_)
          rintro e w3 ⟨u, rfl, hr, hb⟩; exact ⟨u, rfl, ⟨trivial, fun _ => hr⟩, hb⟩
        · intro a w2 hB hF hd
          refine flow_wanted (wanted_yes rfl rfl ((hd 2 _ rfl (waits_spec rfl)).1) rfl) ?_
          refine flow_call _ _ _ rfl Try.call18 _ (args2 ((hd 3 _ rfl (waits_spec rfl)).1) rfl) (by simp) ((same_yes _ _ n _ _ _ (HH.out.below hB) ((hd 11 _ rfl (waits_spec rfl)).2 rfl) (fun _ _ => rfl)).mono ?_)
          rintro e w3 ⟨rfl, hb⟩; exact ⟨_, rfl, ⟨rfl, fun h => absurd h (by decide)⟩, hb⟩
        · intro a w2 hB hF hd
          rw [if_pos (wanted_none rfl)]
          exact flow_val (fun h => by cases h) (run_pick rfl ((hd 2 _ rfl (waits_spec rfl)).1)) ⟨(((hd 12 _ rfl (waits_spec rfl)).1)), fun h => absurd h (by decide)⟩
        · intro a w2 hB hF hd
          rw [if_pos (wanted_none rfl)]
          exact flow_move _ (.inr rfl) (by simp) ⟨((hd 13 _ rfl (waits_spec rfl)).1), fun h => absurd h (by decide)⟩
      · intro a w5 hB hF hS
        obtain ⟨x52, hx52⟩ : ∃ x, x = a.tmps.getD 52 undef := ⟨_, rfl⟩
        have ha := puts_each rfl rfl hF [_, _, _, _, _, _, _, _, _, _, _, x52, _, _, _] rfl ⟨(hS 0 _ rfl).1, (hS 1 _ rfl).1, (hS 2 _ rfl).1, (hS 3 _ rfl).1, (hS 4 _ rfl).1, (hS 5 _ rfl).1, (hS 6 _ rfl).1, (hS 7 _ rfl).1, (hS 8 _ rfl).1, (hS 9 _ rfl).1, (hS 10 _ rfl).1, hx52.symm, (hS 12 _ rfl).1, (hS 13 _ rfl).1, (hS 14 _ rfl).1, trivial⟩
        simp only [puts, Act.put, List.setIfInBounds_toArray, List.set_cons_succ, List.set_cons_zero] at ha
        subst ha
        clear hx52
        clear hS hF
        have hb5 := hbel4.trans (hB.mono hbel4.size)
        go_wp2
        go_ret
        exact ⟨rfl, hb5⟩
end Go.Proofs.Ytiiafgbdmejcpaa
