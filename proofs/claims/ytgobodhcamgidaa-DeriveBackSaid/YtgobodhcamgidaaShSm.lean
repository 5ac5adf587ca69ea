/-
  The law ShaSums answers true: its walk. Conditions: named in each theorem.
-/
import Derived.Test.YtgobodhcamgidaaSh11
import Derived.OpenShut
set_option linter.unusedVariables false
set_option linter.unusedSimpArgs false
namespace Go.Bas
open Go.RowKit
theorem Arr.rdTo {k : IntKind} {w : World} {b n : Nat} {f : Nat → Int} (h : Arr k w b n f) (m : Nat) (hm : m ≤ n) (hn : n ≤ 9223372036854775807) : Rd k w (.slice (some ⟨b, 0, none⟩) m n) m f :=
  ⟨_, _, rfl, hm, hn, (fun h => by cases h), fun _ => ⟨b, 0, rfl, h.lt, fun i hi => by rw [Nat.zero_add]; exact h.cell i (by omega)⟩⟩
end Go.Bas
namespace Go.Proofs.Ytgobodhcamgidaa
open Go.RowKit Go.Bas Go.ChangeShapes
attribute [local go_sem ↓] Go.wp_at_zero Go.wp_at_succ
theorem byteB (f : Nat → Int) (n : Nat) (h : ∀ i, i < n → (Lit.int .u8 (f i)).wf = true) : ∀ i, i < n → 0 ≤ f i ∧ f i < 256 := fun i hi => by have := bounds_u8 (h i hi); omega

set_option maxRecDepth 100000 in
set_option maxHeartbeats 1600000 in
theorem shaSums_law (w : World) (v : Value) (n : Nat) (f : Nat → Int) (hv : Rd .u8 w v n f) (hf : ∀ i, i < n → (Lit.int .u8 (f i)).wf = true) :
    Calls Try.prog 3 #[v] w fun e w' => e = .returned (.bool true) ∧ Below w.heap.size w w' := by
  have HF := Lib.hid (byteB f n hf)
  have HV := Lib.hid hv
  obtain ⟨a, c, rfl, h1, h2, h3, h4⟩ := hv
  clear hf h3 h4
  go_enter Try.func3, Try.ntmps3
  go_wp2_with fail
  refine (shAwake_any _).mono ?_
  rintro e w1 ⟨rfl, hb1⟩
  have HV1 := Lib.hid (HV.out.below hb1)
  clear HV
  by_cases hlong : 600 < n
  · go_wp2
    go_ret
    exact ⟨rfl, hb1⟩
  · obtain ⟨SB, hSB⟩ : ∃ SB, SB = sumB n f := ⟨_, rfl⟩
    have HS1 := Lib.hid (fun v w (h : Txt w v 1 (fun _ => n) (fun _ => f)) => sum1_any v n f w h (by omega) HF.out)
    have HS2 := Lib.hid (fun v w (h : Txt w v 1 (fun _ => n) (fun _ => f)) => half_any v 1 _ _ n f w h (cut1 (f := f) (n := n)).1 (cut1 (f := f) (n := n)).2 (by omega) HF.out)
    have HS3 := Lib.hid (fun v w (h : Rd .u8 w v n f) => rSum_any v n f w h (by omega) HF.out)
    rw [← hSB] at HS1 HS2 HS3
    clear hSB
    go_wp2_with fail
    refine (HS1.out _ _ (new1 (T := 22) HV1.out (Below.refl _ _))).mono ?_
    rintro e w2 ⟨rfl, hb2⟩
    have hbel2 : Below w.heap.size w w2 := (hb1.alloc hb1.size _).trans (hb2.mono (by have := hb1.size; simp; omega))
    have HV2 := Lib.hid (HV1.out.below (((Below.refl w1.heap.size w1).alloc (Nat.le_refl _) _).trans (hb2.mono (by simp))))
    clear hb2 hb1 HV1
    go_wp2_with fail
    refine (HS2.out _ _ (new1 (T := 22) HV2.out (Below.refl _ _))).mono ?_
    rintro e w3 ⟨rfl, hb3⟩
    have hbel3 : Below w.heap.size w w3 := (hbel2.alloc hbel2.size _).trans (hb3.mono (by have := hbel2.size; simp; omega))
    have HV3 := Lib.hid (HV2.out.below (((Below.refl w2.heap.size w2).alloc (Nat.le_refl _) _).trans (hb3.mono (by simp))))
    clear hb3 hbel2 HV2
    go_upto_region 6 with (first
      | (refine store_arr rfl 24 _ _ rfl .u8 w3.heap.size 64 (fun _ => 0) SB Try.size24 rfl rfl (Arr.alloc (Arr.newAt rfl (by rfl)) _) ?_)
      | (refine store_arr rfl 26 _ _ rfl .u8 (w3.heap.size + 1) 32 (fun _ => 0) SB Try.size26 rfl rfl (Arr.setRowOther (Arr.newAt (by simp) (by rfl)) _ (by omega) _) ?_))
    refine wp_world (fun w4 => Arr .u8 w4 w3.heap.size 64 SB ∧ Arr .u8 w4 (w3.heap.size + 1) 32 SB ∧ Below w.heap.size w w4 ∧ Rd .u8 w4 (.slice a n c) n f)
      ⟨Arr.setRowOther (Arr.setRow (Arr.alloc (Arr.newAt rfl (by rfl) : Arr .u8 _ _ 64 (fun _ => 0)) _) _ _) _ (by omega) _, Arr.setRow (Arr.setRowOther (Arr.newAt (by simp) (by rfl) : Arr .u8 _ _ 32 (fun _ => 0)) _ (by omega) _) _ _,
        below_setRow' (below_setRow' ((hbel3.alloc hbel3.size _).alloc (by have := hbel3.size; simp; omega) _) hbel3.size _) (by have := hbel3.size; omega) _,
        HV3.out.below (below_setRow' (below_setRow' (((Below.refl w3.heap.size w3).alloc (Nat.le_refl _) _).alloc (by simp) _) (Nat.le_refl _) _) (by omega) _)⟩ ?_
    rintro w4 ⟨hA, hB4, hb4, hv4⟩
    obtain ⟨q, hq⟩ : ∃ q, q = w3.heap.size := ⟨_, rfl⟩
    rw [← hq] at hA hB4 ⊢
    have HV4 := Lib.hid hv4
    clear hq hv4 HV3
    simp only [Act.put]
    refine region_flow (n := 25) (by kernel_rfl) (by kernel_rfl) (by kernel_rfl) rfl
      (fun ii vv _ => (match ii with | 0 | 2 => vv = .agg (arr .u8 64 (SB)) | 1 => vv = .slice a n c | 3 | 4 | 7 | 8 | 9 => vv = .bool true | 5 => vv = .slice (some ⟨(q + 1), 0, none⟩) 32 32 | 6 => vv = .slice (some ⟨q, 0, none⟩) 32 64 | _ => True))
      (fun w w' => Below w.heap.size w w') (fun _ _ h => h) (fun _ _ _ _ h _ => h) ?_ ?_
    · refine Each.all ?_
      refine ⟨?_, ?_, ?_, ?_, ?_, ?_, ?_, ?_, ?_, ?_, trivial⟩
      · intro a w2 hB hF hd
        rw [if_pos (wanted_none rfl)]
        exact flow_val (fun h => by cases h) (run_load_str rfl Try.underlying24 rfl Try.size24 (hF.same 3 rfl) (hA.below hB hA.lt)) rfl
      · intro a w2 hB hF hd
        rw [if_pos (wanted_none rfl)]
        exact flow_move _ (.inl rfl) (by simp) (hF.same 0 rfl)
      · intro a w2 hB hF hd
        rw [if_pos (wanted_none rfl)]
        refine flow_call _ _ _ rfl Try.call16 _ (args1 (hd 1 _ rfl (waits_spec rfl))) (by simp) ((HS3.out _ _ (HV4.out.below hB)).mono ?_)
        rintro e w3 ⟨rfl, hb⟩; exact ⟨_, rfl, rfl, hb⟩
      · intro a w2 hB hF hd
        rw [if_pos (wanted_none rfl)]
        exact flow_val (fun h => by cases h) (run_eql_arr true rfl (hd 0 _ rfl (waits_spec rfl)) (hd 2 _ rfl (waits_spec rfl)) Try.underlying24 (by kernel_rfl) (by kernel_rfl) (by kernel_rfl) (by kernel_rfl) (by kernel_rfl) sameB_self) rfl
      · intro a w2 hB hF hd
        rw [if_pos (wanted_none rfl)]
        exact flow_move _ (.inl rfl) (by simp) (hd 3 _ rfl (waits_spec rfl))
      · intro a w2 hB hF hd
        refine flow_wanted (wanted_yes rfl rfl (hd 4 _ rfl (waits_spec rfl)) rfl) ?_
        exact flow_val (fun h => by cases h) (run_slice_arr rfl (hF.same 4 rfl) Try.underlying26 (by kernel_rfl)) rfl
      · intro a w2 hB hF hd
        refine flow_wanted (wanted_yes rfl rfl (hd 4 _ rfl (waits_spec rfl)) rfl) ?_
        exact flow_val (fun h => by cases h) (run_slice_part rfl (hF.same 3 rfl) (by simp only [Option.map_some, Option.map_none]; exact run_sliceAt_ptr_h (m := 32) Try.underlying24 Try.size5 (by decide))) rfl
      · intro a w2 hB hF hd
        refine flow_wanted (wanted_yes rfl rfl (hd 4 _ rfl (waits_spec rfl)) rfl) ?_
        refine flow_call _ _ _ rfl Try.call17 _ (args2 (hd 5 _ rfl (waits_spec rfl)) (hd 6 _ rfl (waits_spec rfl))) (by simp) ((same_yes _ _ 32 SB SB _ ((hB4.kept hB).rd (by decide)) ((hA.kept hB).rdTo 32 (by decide) (by decide)) (fun _ _ => rfl)).mono ?_)
        rintro e w3 ⟨rfl, hb⟩; exact ⟨_, rfl, rfl, hb⟩
      · intro a w2 hB hF hd
        rw [if_pos (wanted_none rfl)]
        exact flow_val (fun h => by cases h) (run_pick rfl (hd 4 _ rfl (waits_spec rfl))) ((hd 7 _ rfl (waits_spec rfl)))
      · intro a w2 hB hF hd
        rw [if_pos (wanted_none rfl)]
        exact flow_move _ (.inr rfl) (by simp) (hd 8 _ rfl (waits_spec rfl))
    · intro a w5 hB hF hS
      have ha := puts_each rfl rfl hF [_, _, _, _, _, _, _, _, _, _] rfl ⟨hS 0 _ rfl, hS 1 _ rfl, hS 2 _ rfl, hS 3 _ rfl, hS 4 _ rfl, hS 5 _ rfl, hS 6 _ rfl, hS 7 _ rfl, hS 8 _ rfl, hS 9 _ rfl, trivial⟩
      simp only [puts, Act.put, List.setIfInBounds_toArray, List.set_cons_succ, List.set_cons_zero] at ha
      subst ha
      clear hS hF
      have hb5 := hb4.trans (hB.mono hb4.size)
      go_wp2
      go_ret
      exact ⟨rfl, hb5⟩
end Go.Proofs.Ytgobodhcamgidaa
