/-
  (fe.Element).Root: what it makes. Conditions: named in each theorem.
-/
import Derived.Test.YtjmagojmfiabfaaFePw
namespace Go.Proofs.Ytjmagojmfiabfaa
open Go.RowKit Go.Bas
attribute [local go_sem ↓] Go.wp_at_zero Go.wp_at_succ

theorem exp_rt : ((2 ^ 255 - 16) / 2 ^ 3 : Int) = (((PN + 3) / 8 : Nat) : Int) := by decide
theorem exp_im : ((2 ^ 255 - 20) / 2 ^ 2 : Int) = (((PN - 1) / 4 : Nat) : Int) := by decide
theorem exp_rt_b : (0 : Int) ≤ (((PN + 3) / 8 : Nat) : Int) ∧ (((PN + 3) / 8 : Nat) : Int) < 2 ^ 256 := by decide
theorem exp_im_b : (0 : Int) ≤ (((PN - 1) / 4 : Nat) : Int) ∧ (((PN - 1) / 4 : Nat) : Int) < 2 ^ 256 := by decide
theorem number_rt (w : World) : Calls Try.prog 78 #[.int .u8 16, .int .u64 3] w fun e w' => e = .returned (.agg (arr .u8 32 (dg 256 (((PN + 3) / 8 : Nat) : Int)))) ∧ Below w.heap.size w w' := by
  have h := feNumber_any 16 3 (by decide) (by decide) (by decide) w
  rw [exp_rt] at h
  exact h
theorem number_im (w : World) : Calls Try.prog 78 #[.int .u8 20, .int .u64 2] w fun e w' => e = .returned (.agg (arr .u8 32 (dg 256 (((PN - 1) / 4 : Nat) : Int)))) ∧ Below w.heap.size w w' := by
  have h := feNumber_any 20 2 (by decide) (by decide) (by decide) w
  rw [exp_im] at h
  exact h
/-- the limbs of the candidate, and of the root of -1. -/
def rtF (f : Nat → Int) : Nat → Int := powF f (((PN + 3) / 8 : Nat) : Int)
def imF : Nat → Int := powF (smallF 2) (((PN - 1) / 4 : Nat) : Int)
theorem fe_rt {f : Nat → Int} {X : Int} (hf : Fe f X) : Fe (rtF f) (rtN X) := by
  unfold rtN
  have h := hf.powF exp_rt_b.1 exp_rt_b.2
  rwa [Int.toNat_natCast] at h
theorem fe_two : Fe (smallF 2) 2 := by have h := fe_smallF 2; rwa [show smallN 2 = 2 by decide] at h
theorem fe_im : Fe imF im1 := by
  unfold im1
  have h := fe_two.powF exp_im_b.1 exp_im_b.2
  rwa [Int.toNat_natCast] at h
theorem feOdd_yes (f : Nat → Int) (X : Int) (hf : Fe f X) (h : X % Pr % 2 = 1) (w : World) : Calls Try.prog 20 #[El f] w fun e w' => e = .returned (.bool true) ∧ Below w.heap.size w w' := by
  have h2 := feOdd_any f X hf w
  rwa [h] at h2
theorem feOdd_no (f : Nat → Int) (X : Int) (hf : Fe f X) (h : X % Pr % 2 = 0) (w : World) : Calls Try.prog 20 #[El f] w fun e w' => e = .returned (.bool false) ∧ Below w.heap.size w w' := by
  have h2 := feOdd_any f X hf w
  rwa [h] at h2
/-- what is found. -/
def RootOk (X : Int) (w : World) (e : Ending) (w' : World) : Prop := ∃ (h : Nat → Int) (R : Int), e = .returned (.tuple #[El h, .bool true]) ∧ Fe h R ∧ R * R % Pr = X % Pr ∧ R % Pr % 2 = 0 ∧ Below w.heap.size w w'
theorem RootOk.mk {X : Int} {w w' : World} {h : Nat → Int} {R : Int} {e : Ending} (he : e = .returned (.tuple #[El h, .bool true])) (h1 : Fe h R) (h2 : R * R % Pr = X % Pr) (h3 : R % Pr % 2 = 0) (h4 : Below w.heap.size w w') : RootOk X w e w' := ⟨h, R, he, h1, h2, h3, h4⟩
theorem neg_sq {R X : Int} (h : R * R % Pr = X % Pr) : -R * -R % Pr = X % Pr := by rw [show -R * -R = R * R by grind]; exact h

set_option maxRecDepth 100000 in
set_option maxHeartbeats 25600000 in
theorem feRoot_yes (f : Nat → Int) (X : Int) (hf : Fe f X) (hsq : isSq X = true) (w : World) :
    Calls Try.prog 37 #[El f] w (RootOk X w) := by
  have HF := Lib.hid hf
  have HSQ := Lib.hid hsq
  clear hf hsq
  unfold El
  go_enter Try.func37, Try.ntmps37
  go_upto_region 1 with (fail)
  refine wp_world (fun w1 => Arr .i64 w1 w.heap.size 16 f ∧ Arr .i64 w1 (w.heap.size + 1) 16 (fun _ => 0) ∧ Below w.heap.size w w1)
    ⟨Arr.alloc (Arr.newAt (by first | omega | (simp <;> omega)) (by rfl)) _, Arr.newAt (by first | omega | (simp <;> omega)) (by rfl), ((Below.refl _ _).alloc (Nat.le_refl _) _).alloc (by simp) _⟩ ?_
  rintro w1 ⟨hA, hZ, hbel⟩
  refine region_vars (n := 31) (by kernel_rfl) (by kernel_rfl) (by kernel_rfl) rfl
    (isAl [(4, 3)]) (putOf [(4, 3)]) (fun _ => arr .i64 16 (fun _ => 0)) (fun _ => (arr .i64 16 (rtF f))) (fun _ => 26) (fun _ => 4)
    (fun i v _ => (match i with | 0 => v = .agg (arr .i64 16 (f)) | 1 => v = .agg (arr .u8 32 (dg 256 (((PN + 3) / 8 : Nat) : Int))) | 2 => v = .agg (arr .i64 16 (rtF f)) | _ => True)) (fun _ _ => True) (fun _ _ _ => trivial) (fun _ _ _ _ _ _ _ => trivial) (fun _ _ _ _ h _ => h)
    (vs_al rfl) (vs_inj rfl) ?_ ?_ ?_ ?_
  · refine Each.all ?_
    refine ⟨?_, ?_, ?_, (fun h => by cases h), (fun _ h => by cases h), trivial⟩
    · intro _ _ a w2 hB hF hd
      rw [if_pos (wanted_none rfl)]
      exact flow_val (fun h => by cases h) (run_load_str rfl Try.underlying26 rfl Try.size26 (hF.same 1 rfl) (hA.below hB hA.lt)) rfl
    · intro _ _ a w2 hB hF hd
      rw [if_pos (wanted_none rfl)]
      refine flow_call _ _ _ rfl Try.call78 _ (args2 rfl rfl) (by simp) ((number_rt w2).mono ?_)
      rintro e w3 ⟨rfl, hb⟩; exact ⟨_, rfl, rfl, hb⟩
    · intro _ _ a w2 hB hF hd
      rw [if_pos (wanted_none rfl)]
      refine flow_call _ _ _ rfl Try.call32 _ (args2 (hd 0 _ rfl rfl rfl (waits_spec rfl)) (hd 1 _ rfl rfl rfl (waits_spec rfl))) (by simp) ((fePower_any f X (((PN + 3) / 8 : Nat) : Int) HF.out exp_rt_b.1 exp_rt_b.2 w2).mono ?_)
      rintro e w3 ⟨rfl, hb⟩; exact ⟨_, rfl, rfl, hb⟩
  · refine Each.all ?_
    refine ⟨(fun h => by cases h), (fun h => by cases h), (fun h => by cases h), ?_, (fun h => by cases h), trivial⟩
    · exact fun _ => ⟨rfl, rfl, fun a w2 K h => flow_alloc rfl rfl Try.zeroValue26 (by simp) h⟩
  · refine Each.all ?_
    refine ⟨(fun _ h => by cases h), (fun _ h => by cases h), (fun _ h => by cases h), (fun _ h => by cases h), ?_, trivial⟩
    · intro p hp
      obtain rfl : 3 = p := Option.some.inj hp
      exact ⟨rfl, rfl, ⟨_, rfl⟩, waits_spec rfl, fun a w2 b K hB hF hd hx hb h => flow_put rfl rfl Try.size26 hx (hd 2 _ rfl rfl rfl (waits_spec rfl)) hb h⟩
  · intro a w3 blk hB hF hS hv hfin hdis
    obtain ⟨v3, v3l, v3u⟩ := hv 3 _ rfl rfl
    have ha := puts_each rfl rfl hF [_, _, _, _, undef] rfl ⟨hS 0 _ rfl rfl rfl, hS 1 _ rfl rfl rfl, hS 2 _ rfl rfl rfl, v3, trivial, trivial⟩
    have f3 := hfin 4 _ 3 rfl rfl
    simp only [puts, Act.put, List.setIfInBounds_toArray, List.set_cons_succ, List.set_cons_zero] at ha
    subst ha
    have V3 : Arr .i64 w3 (blk 3) 16 (rtF f) := ⟨_, f3⟩
    clear hS hv hfin hdis hF v3 f3
    have hA1 := hA.below hB hA.lt
    have hZ1 := hZ.below hB hZ.lt
    have hb1 := hbel.trans (hB.mono hbel.size)
    have lb := hbel.size
    have lz := hZ.lt
    have HR := Lib.hid (fe_rt HF.out)
    obtain ⟨b, hb⟩ : ∃ b, b = blk 3 := ⟨_, rfl⟩
    obtain ⟨g, hg⟩ : ∃ g, g = rtF f := ⟨_, rfl⟩
    rw [← hb] at V3 v3l ⊢
    rw [← hg] at HR V3 ⊢
    have hr := V3
    have hbw : w.heap.size + 2 ≤ b := by omega
    clear hb hg V3 v3l v3u hA hZ hbel hB lb lz
    by_cases hq : rtN X * rtN X % Pr = X % Pr
    · have HQ := Lib.hid hq
      clear hq
      go_upto_region 2 with (fail)
      refine region_flow (n := 31) (by kernel_rfl) (by kernel_rfl) (by kernel_rfl) rfl
        (fun i v _ => (match i with | 0 | 1 => v = .agg (arr .i64 16 (g)) | 2 => v = .agg (arr .i64 16 (mulF (g) (g))) | 3 => v = .agg (arr .i64 16 (f)) | 4 => v = .bool true | 5 => v = .bool false | _ => True))
        (fun w w' => Below w.heap.size w w') (fun _ _ h => h) (fun _ _ _ _ h _ => h) ?_ ?_
      · refine Each.all ?_
        refine ⟨?_, ?_, ?_, ?_, ?_, ?_, trivial⟩
        · intro a w2 hB hF hd
          rw [if_pos (wanted_none rfl)]
          exact flow_val (fun h => by cases h) (run_load_str rfl Try.underlying26 rfl Try.size26 (hF.same 4 rfl) (hr.below hB hr.lt)) rfl
        · intro a w2 hB hF hd
          rw [if_pos (wanted_none rfl)]
          exact flow_val (fun h => by cases h) (run_load_str rfl Try.underlying26 rfl Try.size26 (hF.same 4 rfl) (hr.below hB hr.lt)) rfl
        · intro a w2 hB hF hd
          rw [if_pos (wanted_none rfl)]
          refine flow_call _ _ _ rfl Try.call29 _ (args2 (hd 0 _ rfl (waits_spec rfl)) (hd 1 _ rfl (waits_spec rfl))) (by simp) ((feMul_any (g) (g) (rtN X) (rtN X) HR.out HR.out w2).mono ?_)
          rintro e w3 ⟨rfl, hb⟩; exact ⟨_, rfl, rfl, hb⟩
        · intro a w2 hB hF hd
          rw [if_pos (wanted_none rfl)]
          exact flow_val (fun h => by cases h) (run_load_str rfl Try.underlying26 rfl Try.size26 (hF.same 1 rfl) (hA1.below hB hA1.lt)) rfl
        · intro a w2 hB hF hd
          rw [if_pos (wanted_none rfl)]
          refine flow_call _ _ _ rfl Try.call21 _ (args2 (hd 2 _ rfl (waits_spec rfl)) (hd 3 _ rfl (waits_spec rfl))) (by simp) ((feEqual_yes (mulF (g) (g)) (f) ((rtN X) * (rtN X)) X (HR.out.mulF HR.out) HF.out HQ.out w2).mono ?_)
          rintro e w3 ⟨rfl, hb⟩; exact ⟨_, rfl, rfl, hb⟩
        · intro a w2 hB hF hd
          rw [if_pos (wanted_none rfl)]
          exact flow_val (fun h => by cases h) (run_not rfl (hd 4 _ rfl (waits_spec rfl))) rfl
      · intro a w4 hB hF hS
        have ha := puts_each rfl rfl hF [_, _, _, _, _, _] rfl ⟨hS 0 _ rfl, hS 1 _ rfl, hS 2 _ rfl, hS 3 _ rfl, hS 4 _ rfl, hS 5 _ rfl, trivial⟩
        simp only [puts, Act.put, List.setIfInBounds_toArray, List.set_cons_succ, List.set_cons_zero] at ha
        subst ha
        clear hS hF
        have hA2 := hA1.below hB hA1.lt
        have hZ2 := hZ1.below hB hZ1.lt
        have hb2 := hb1.trans (hB.mono hb1.size)
        have hr' := hr.below hB hr.lt
        clear hr
        have hr := hr'
        clear hr' hA1 hZ1 hb1 hB
        go_upto_region 4 with (fail)
        refine region_flow (n := 31) (by kernel_rfl) (by kernel_rfl) (by kernel_rfl) rfl
          (fun i v _ => (match i with | 0 | 1 => v = .agg (arr .i64 16 (g)) | 2 => v = .agg (arr .i64 16 (mulF (g) (g))) | 3 => v = .agg (arr .i64 16 (f)) | 4 => v = .bool true | 5 => v = .bool false | _ => True))
          (fun w w' => Below w.heap.size w w') (fun _ _ h => h) (fun _ _ _ _ h _ => h) ?_ ?_
        · refine Each.all ?_
          refine ⟨?_, ?_, ?_, ?_, ?_, ?_, trivial⟩
          · intro a w2 hB hF hd
            rw [if_pos (wanted_none rfl)]
            exact flow_val (fun h => by cases h) (run_load_str rfl Try.underlying26 rfl Try.size26 (hF.same 4 rfl) (hr.below hB hr.lt)) rfl
          · intro a w2 hB hF hd
            rw [if_pos (wanted_none rfl)]
            exact flow_val (fun h => by cases h) (run_load_str rfl Try.underlying26 rfl Try.size26 (hF.same 4 rfl) (hr.below hB hr.lt)) rfl
          · intro a w2 hB hF hd
            rw [if_pos (wanted_none rfl)]
            refine flow_call _ _ _ rfl Try.call29 _ (args2 (hd 0 _ rfl (waits_spec rfl)) (hd 1 _ rfl (waits_spec rfl))) (by simp) ((feMul_any (g) (g) (rtN X) (rtN X) HR.out HR.out w2).mono ?_)
            rintro e w3 ⟨rfl, hb⟩; exact ⟨_, rfl, rfl, hb⟩
          · intro a w2 hB hF hd
            rw [if_pos (wanted_none rfl)]
            exact flow_val (fun h => by cases h) (run_load_str rfl Try.underlying26 rfl Try.size26 (hF.same 1 rfl) (hA2.below hB hA2.lt)) rfl
          · intro a w2 hB hF hd
            rw [if_pos (wanted_none rfl)]
            refine flow_call _ _ _ rfl Try.call21 _ (args2 (hd 2 _ rfl (waits_spec rfl)) (hd 3 _ rfl (waits_spec rfl))) (by simp) ((feEqual_yes (mulF (g) (g)) (f) ((rtN X) * (rtN X)) X (HR.out.mulF HR.out) HF.out HQ.out w2).mono ?_)
            rintro e w3 ⟨rfl, hb⟩; exact ⟨_, rfl, rfl, hb⟩
          · intro a w2 hB hF hd
            rw [if_pos (wanted_none rfl)]
            exact flow_val (fun h => by cases h) (run_not rfl (hd 4 _ rfl (waits_spec rfl))) rfl
        · intro a w5 hB hF hS
          have ha := puts_each rfl rfl hF [_, _, _, _, _, _] rfl ⟨hS 0 _ rfl, hS 1 _ rfl, hS 2 _ rfl, hS 3 _ rfl, hS 4 _ rfl, hS 5 _ rfl, trivial⟩
          simp only [puts, Act.put, List.setIfInBounds_toArray, List.set_cons_succ, List.set_cons_zero] at ha
          subst ha
          clear hS hF
          have hA3 := hA2.below hB hA2.lt
          have hZ3 := hZ2.below hB hZ2.lt
          have hb3 := hb2.trans (hB.mono hb2.size)
          have hr' := hr.below hB hr.lt
          clear hr
          have hr := hr'
          clear hr' hA2 hZ2 hb2 hB
          rcases (by omega : (rtN X) % Pr % 2 = 0 ∨ (rtN X) % Pr % 2 = 1) with ho | ho
          · have hodd := Lib.hid ho
            clear ho
            go_upto_region 6 with (fail)
            refine region_flow (n := 31) (by kernel_rfl) (by kernel_rfl) (by kernel_rfl) rfl
              (fun i v _ => (match i with | 0 => v = .agg (arr .i64 16 (g)) | 1 => v = .bool false | _ => True))
              (fun w w' => Below w.heap.size w w') (fun _ _ h => h) (fun _ _ _ _ h _ => h) ?_ ?_
            · refine Each.all ?_
              refine ⟨?_, ?_, trivial⟩
              · intro a w2 hB hF hd
                rw [if_pos (wanted_none rfl)]
                exact flow_val (fun h => by cases h) (run_load_str rfl Try.underlying26 rfl Try.size26 (hF.same 4 rfl) (hr.below hB hr.lt)) rfl
              · intro a w2 hB hF hd
                rw [if_pos (wanted_none rfl)]
                refine flow_call _ _ _ rfl Try.call20 _ (args1 (hd 0 _ rfl (waits_spec rfl))) (by simp) ((feOdd_no (g) (rtN X) HR.out hodd.out w2).mono ?_)
                rintro e w3 ⟨rfl, hb⟩; exact ⟨_, rfl, rfl, hb⟩
            · intro a w9 hB hF hS
              have ha := puts_each rfl rfl hF [_, _] rfl ⟨hS 0 _ rfl, hS 1 _ rfl, trivial⟩
              simp only [puts, Act.put, List.setIfInBounds_toArray, List.set_cons_succ, List.set_cons_zero] at ha
              subst ha
              clear hS hF
              have hZz := hZ3.below hB hZ3.lt
              have hbz := hb3.trans (hB.mono hb3.size)
              have hrz := hr.below hB hr.lt
              clear hr hA3 hZ3 hb3 hB
              go_wp2_with (first
                | (refine load_str rfl 26 _ rfl .i64 b 16 _ Try.underlying26 rfl Try.size26 rfl hrz ?_)
                | (refine store_arr rfl 26 _ _ rfl .i64 (w.heap.size + 1) 16 (fun _ => 0) _ Try.size26 rfl rfl hZz ?_))
              exact bodyPost_ret (results_str2 rfl _ _ .i64 (w.heap.size + 1) 16 _ rfl (hZz.setRow _ _) Try.underlying26 rfl Try.size26) rfl (RootOk.mk rfl HR.out HQ.out hodd.out (below_setRow' hbz (by omega) _))
          · have hodd := Lib.hid ho
            clear ho
            go_upto_region 6 with (fail)
            refine region_flow (n := 31) (by kernel_rfl) (by kernel_rfl) (by kernel_rfl) rfl
              (fun i v _ => (match i with | 0 => v = .agg (arr .i64 16 (g)) | 1 => v = .bool true | _ => True))
              (fun w w' => Below w.heap.size w w') (fun _ _ h => h) (fun _ _ _ _ h _ => h) ?_ ?_
            · refine Each.all ?_
              refine ⟨?_, ?_, trivial⟩
              · intro a w2 hB hF hd
                rw [if_pos (wanted_none rfl)]
                exact flow_val (fun h => by cases h) (run_load_str rfl Try.underlying26 rfl Try.size26 (hF.same 4 rfl) (hr.below hB hr.lt)) rfl
              · intro a w2 hB hF hd
                rw [if_pos (wanted_none rfl)]
                refine flow_call _ _ _ rfl Try.call20 _ (args1 (hd 0 _ rfl (waits_spec rfl))) (by simp) ((feOdd_yes (g) (rtN X) HR.out hodd.out w2).mono ?_)
                rintro e w3 ⟨rfl, hb⟩; exact ⟨_, rfl, rfl, hb⟩
            · intro a w9 hB hF hS
              have ha := puts_each rfl rfl hF [_, _] rfl ⟨hS 0 _ rfl, hS 1 _ rfl, trivial⟩
              simp only [puts, Act.put, List.setIfInBounds_toArray, List.set_cons_succ, List.set_cons_zero] at ha
              subst ha
              clear hS hF
              have hZz := hZ3.below hB hZ3.lt
              have hbz := hb3.trans (hB.mono hb3.size)
              have hrz := hr.below hB hr.lt
              clear hr hA3 hZ3 hb3 hB
              go_wp2_with (refine load_str rfl 26 _ rfl .i64 b 16 _ Try.underlying26 rfl Try.size26 rfl hrz ?_)
              refine (feNeg_any (g) ((rtN X)) HR.out _).mono ?_
              rintro e w10 ⟨rfl, hb10⟩
              have hZy := hZz.kept hb10
              have hby := hbz.trans (hb10.mono hbz.size)
              have hry := hrz.kept hb10
              clear hZz hbz hrz hb10
              go_upto_region 8 with (refine store_arr rfl 26 _ _ rfl .i64 b 16 _ _ Try.size26 rfl rfl hry ?_)
              refine wp_world (fun w11 => Arr .i64 w11 b 16 (negF (g)) ∧ Arr .i64 w11 (w.heap.size + 1) 16 (fun _ => 0) ∧ Below w.heap.size w w11) ⟨Arr.setRow hry _ _, Arr.setRowOther hZy _ (by omega) _, below_setRow' hby (by omega) _⟩ ?_
              rintro w11 ⟨hr2, hZ2, hb2⟩
              clear hZy hby hry
              go_wp2_with (first
                | (refine load_str rfl 26 _ rfl .i64 b 16 _ Try.underlying26 rfl Try.size26 rfl hr2 ?_)
                | (refine store_arr rfl 26 _ _ rfl .i64 (w.heap.size + 1) 16 (fun _ => 0) _ Try.size26 rfl rfl hZ2 ?_))
              exact bodyPost_ret (results_str2 rfl _ _ .i64 (w.heap.size + 1) 16 _ rfl (hZ2.setRow _ _) Try.underlying26 rfl Try.size26) rfl (RootOk.mk rfl HR.out.negF (neg_sq HQ.out) (neg_even hodd.out) (below_setRow' hb2 (by omega) _))
    · have hq2 := (rt_cases HSQ.out).resolve_left hq
      have HQ := Lib.hid hq
      have HQ2 := Lib.hid hq2
      clear hq hq2
      go_upto_region 2 with (fail)
      refine region_flow (n := 31) (by kernel_rfl) (by kernel_rfl) (by kernel_rfl) rfl
        (fun i v _ => (match i with | 0 | 1 => v = .agg (arr .i64 16 (g)) | 2 => v = .agg (arr .i64 16 (mulF (g) (g))) | 3 => v = .agg (arr .i64 16 (f)) | 4 => v = .bool false | 5 => v = .bool true | _ => True))
        (fun w w' => Below w.heap.size w w') (fun _ _ h => h) (fun _ _ _ _ h _ => h) ?_ ?_
      · refine Each.all ?_
        refine ⟨?_, ?_, ?_, ?_, ?_, ?_, trivial⟩
        · intro a w2 hB hF hd
          rw [if_pos (wanted_none rfl)]
          exact flow_val (fun h => by cases h) (run_load_str rfl Try.underlying26 rfl Try.size26 (hF.same 4 rfl) (hr.below hB hr.lt)) rfl
        · intro a w2 hB hF hd
          rw [if_pos (wanted_none rfl)]
          exact flow_val (fun h => by cases h) (run_load_str rfl Try.underlying26 rfl Try.size26 (hF.same 4 rfl) (hr.below hB hr.lt)) rfl
        · intro a w2 hB hF hd
          rw [if_pos (wanted_none rfl)]
          refine flow_call _ _ _ rfl Try.call29 _ (args2 (hd 0 _ rfl (waits_spec rfl)) (hd 1 _ rfl (waits_spec rfl))) (by simp) ((feMul_any (g) (g) (rtN X) (rtN X) HR.out HR.out w2).mono ?_)
          rintro e w3 ⟨rfl, hb⟩; exact ⟨_, rfl, rfl, hb⟩
        · intro a w2 hB hF hd
          rw [if_pos (wanted_none rfl)]
          exact flow_val (fun h => by cases h) (run_load_str rfl Try.underlying26 rfl Try.size26 (hF.same 1 rfl) (hA1.below hB hA1.lt)) rfl
        · intro a w2 hB hF hd
          rw [if_pos (wanted_none rfl)]
          refine flow_call _ _ _ rfl Try.call21 _ (args2 (hd 2 _ rfl (waits_spec rfl)) (hd 3 _ rfl (waits_spec rfl))) (by simp) ((feEqual_no (mulF (g) (g)) (f) ((rtN X) * (rtN X)) X (HR.out.mulF HR.out) HF.out HQ.out w2).mono ?_)
          rintro e w3 ⟨rfl, hb⟩; exact ⟨_, rfl, rfl, hb⟩
        · intro a w2 hB hF hd
          rw [if_pos (wanted_none rfl)]
          exact flow_val (fun h => by cases h) (run_not rfl (hd 4 _ rfl (waits_spec rfl))) rfl
      · intro a w4 hB hF hS
        have ha := puts_each rfl rfl hF [_, _, _, _, _, _] rfl ⟨hS 0 _ rfl, hS 1 _ rfl, hS 2 _ rfl, hS 3 _ rfl, hS 4 _ rfl, hS 5 _ rfl, trivial⟩
        simp only [puts, Act.put, List.setIfInBounds_toArray, List.set_cons_succ, List.set_cons_zero] at ha
        subst ha
        clear hS hF
        have hA2 := hA1.below hB hA1.lt
        have hZ2 := hZ1.below hB hZ1.lt
        have hb2 := hb1.trans (hB.mono hb1.size)
        have hr' := hr.below hB hr.lt
        clear hr
        have hr := hr'
        clear hr' hA1 hZ1 hb1 hB
        go_upto_region 3 with (fail)
        refine region_lasts (n := 31) (fun i => i == 5) (by kernel_rfl) (by kernel_rfl) (by kernel_rfl) (by kernel_rfl) rfl
          (fun i v _ => (match i with | 0 => v = .agg (arr .i64 16 (g)) | 1 => v = .agg (arr .i64 16 (smallF 2)) | 2 => v = .agg (arr .u8 32 (dg 256 (((PN - 1) / 4 : Nat) : Int))) | 3 => v = .agg (arr .i64 16 (imF)) | 4 => v = .agg (arr .i64 16 (mulF (g) (imF))) | _ => True))
          (fun w w' => Below w.heap.size w w') (fun _ _ h => h) (fun _ _ _ _ h _ => h)
          (fun _ => b) (fun _ => (arr .i64 16 (g))) (fun _ => (arr .i64 16 (mulF (g) (imF))))
          (by intro i j _ _ hpi hpj hne; simp only [beq_iff_eq] at hpi hpj; omega)
          (by intro i _ hpi; exact (hr).row)
          ?_ ?_ ?_
        · refine Each.all ?_
          refine ⟨?_, ?_, ?_, ?_, ?_, (fun h => absurd h (by decide)), trivial⟩
          · intro _ a w2 hB hF hd
            rw [if_pos (wanted_none rfl)]
            exact flow_val (fun h => by cases h) (run_load_str rfl Try.underlying26 rfl Try.size26 (hF.same 4 rfl) (hr.below hB hr.lt)) rfl
          · intro _ a w2 hB hF hd
            rw [if_pos (wanted_none rfl)]
            refine flow_call _ _ _ rfl Try.call23 _ (args1 rfl) (by simp) ((feSmall_any 2 w2).mono ?_)
            rintro e w3 ⟨rfl, hb⟩; exact ⟨_, rfl, rfl, hb⟩
          · intro _ a w2 hB hF hd
            rw [if_pos (wanted_none rfl)]
            refine flow_call _ _ _ rfl Try.call78 _ (args2 rfl rfl) (by simp) ((number_im w2).mono ?_)
            rintro e w3 ⟨rfl, hb⟩; exact ⟨_, rfl, rfl, hb⟩
          · intro _ a w2 hB hF hd
            rw [if_pos (wanted_none rfl)]
            refine flow_call _ _ _ rfl Try.call32 _ (args2 (hd 1 _ rfl rfl (waits_spec rfl)) (hd 2 _ rfl rfl (waits_spec rfl))) (by simp) ((fePower_any (smallF 2) 2 (((PN - 1) / 4 : Nat) : Int) fe_two exp_im_b.1 exp_im_b.2 w2).mono ?_)
            rintro e w3 ⟨rfl, hb⟩; exact ⟨_, rfl, rfl, hb⟩
          · intro _ a w2 hB hF hd
            rw [if_pos (wanted_none rfl)]
            refine flow_call _ _ _ rfl Try.call29 _ (args2 (hd 0 _ rfl rfl (waits_spec rfl)) (hd 3 _ rfl rfl (waits_spec rfl))) (by simp) ((feMul_any (g) (imF) (rtN X) im1 HR.out fe_im w2).mono ?_)
            rintro e w3 ⟨rfl, hb⟩; exact ⟨_, rfl, rfl, hb⟩
        · refine Each.all ?_
          refine ⟨(fun h => absurd h (by decide)), (fun h => absurd h (by decide)), (fun h => absurd h (by decide)), (fun h => absurd h (by decide)), (fun h => absurd h (by decide)), ?_, trivial⟩
          · intro _ a w1 w2 K hB hF hS hr hK
            exact wp_store_arr 26 _ _ rfl .i64 (b) 16 (g) (mulF (g) (imF)) Try.size26 (hF.same 4 rfl) (hS 4 _ rfl rfl ) hr hK
        · intro a wf w6 hB hF hS hfil
          have other : ∀ {k : IntKind} {qb n : Nat} {f : Nat → Int}, qb ≠ b → Arr k wf qb n f → Arr k w6 qb n f := fun {k qb n f} e0 hA => hfil.arr (by intro i _ hpi; simp only [Bool.or_eq_true, beq_iff_eq] at hpi; subst hpi <;> ((try simp only []); (try dsimp only); omega)) hA
          have belowT : ∀ {B : Nat} {w0 : World}, B ≤ b → Below B w0 wf → Below B w0 w6 := fun {B w0} e0 hA => hfil.below (by intro i _ hpi; simp only [Bool.or_eq_true, beq_iff_eq] at hpi; subst hpi <;> ((try simp only []); (try dsimp only); omega)) hA
          have V5 : Arr .i64 w6 (b) 16 (mulF (g) (imF)) := hfil.at 5 (by decide) rfl
          have hszf := hfil.size
          clear hfil
          have ha := puts_each rfl rfl hF [_, _, _, _, _, undef] rfl ⟨hS 0 _ rfl rfl, hS 1 _ rfl rfl, hS 2 _ rfl rfl, hS 3 _ rfl rfl, hS 4 _ rfl rfl, trivial, trivial⟩
          simp only [puts, Act.put, List.setIfInBounds_toArray, List.set_cons_succ, List.set_cons_zero] at ha
          subst ha
          clear hS hF
          have hA3 := other (by omega) (hA2.below hB hA2.lt)
          have hZ3 := other (by omega) (hZ2.below hB hZ2.lt)
          have hb3 := belowT (by omega) (hb2.trans (hB.mono hb2.size))
          have hr2 := V5
          clear hr
          have hr := hr2
          clear hr2 V5 hA2 hZ2 hb2 hB other belowT
          have HR2 := Lib.hid (HR.out.mulF fe_im)
          go_upto_region 4 with (fail)
          refine region_flow (n := 31) (by kernel_rfl) (by kernel_rfl) (by kernel_rfl) rfl
            (fun i v _ => (match i with | 0 | 1 => v = .agg (arr .i64 16 (mulF g imF)) | 2 => v = .agg (arr .i64 16 (mulF (mulF g imF) (mulF g imF))) | 3 => v = .agg (arr .i64 16 (f)) | 4 => v = .bool true | 5 => v = .bool false | _ => True))
            (fun w w' => Below w.heap.size w w') (fun _ _ h => h) (fun _ _ _ _ h _ => h) ?_ ?_
          · refine Each.all ?_
            refine ⟨?_, ?_, ?_, ?_, ?_, ?_, trivial⟩
            · intro a w2 hB hF hd
              rw [if_pos (wanted_none rfl)]
              exact flow_val (fun h => by cases h) (run_load_str rfl Try.underlying26 rfl Try.size26 (hF.same 4 rfl) (hr.below hB hr.lt)) rfl
            · intro a w2 hB hF hd
              rw [if_pos (wanted_none rfl)]
              exact flow_val (fun h => by cases h) (run_load_str rfl Try.underlying26 rfl Try.size26 (hF.same 4 rfl) (hr.below hB hr.lt)) rfl
            · intro a w2 hB hF hd
              rw [if_pos (wanted_none rfl)]
              refine flow_call _ _ _ rfl Try.call29 _ (args2 (hd 0 _ rfl (waits_spec rfl)) (hd 1 _ rfl (waits_spec rfl))) (by simp) ((feMul_any (mulF g imF) (mulF g imF) (rtN X * im1) (rtN X * im1) HR2.out HR2.out w2).mono ?_)
              rintro e w3 ⟨rfl, hb⟩; exact ⟨_, rfl, rfl, hb⟩
            · intro a w2 hB hF hd
              rw [if_pos (wanted_none rfl)]
              exact flow_val (fun h => by cases h) (run_load_str rfl Try.underlying26 rfl Try.size26 (hF.same 1 rfl) (hA3.below hB hA3.lt)) rfl
            · intro a w2 hB hF hd
              rw [if_pos (wanted_none rfl)]
              refine flow_call _ _ _ rfl Try.call21 _ (args2 (hd 2 _ rfl (waits_spec rfl)) (hd 3 _ rfl (waits_spec rfl))) (by simp) ((feEqual_yes (mulF (mulF g imF) (mulF g imF)) (f) ((rtN X * im1) * (rtN X * im1)) X (HR2.out.mulF HR2.out) HF.out HQ2.out w2).mono ?_)
              rintro e w3 ⟨rfl, hb⟩; exact ⟨_, rfl, rfl, hb⟩
            · intro a w2 hB hF hd
              rw [if_pos (wanted_none rfl)]
              exact flow_val (fun h => by cases h) (run_not rfl (hd 4 _ rfl (waits_spec rfl))) rfl
          · intro a w6 hB hF hS
            have ha := puts_each rfl rfl hF [_, _, _, _, _, _] rfl ⟨hS 0 _ rfl, hS 1 _ rfl, hS 2 _ rfl, hS 3 _ rfl, hS 4 _ rfl, hS 5 _ rfl, trivial⟩
            simp only [puts, Act.put, List.setIfInBounds_toArray, List.set_cons_succ, List.set_cons_zero] at ha
            subst ha
            clear hS hF
            have hA4 := hA3.below hB hA3.lt
            have hZ4 := hZ3.below hB hZ3.lt
            have hb4 := hb3.trans (hB.mono hb3.size)
            have hr' := hr.below hB hr.lt
            clear hr
            have hr := hr'
            clear hr' hA3 hZ3 hb3 hB
            rcases (by omega : (rtN X * im1) % Pr % 2 = 0 ∨ (rtN X * im1) % Pr % 2 = 1) with ho | ho
            · have hodd := Lib.hid ho
              clear ho
              go_upto_region 6 with (fail)
              refine region_flow (n := 31) (by kernel_rfl) (by kernel_rfl) (by kernel_rfl) rfl
                (fun i v _ => (match i with | 0 => v = .agg (arr .i64 16 (mulF g imF)) | 1 => v = .bool false | _ => True))
                (fun w w' => Below w.heap.size w w') (fun _ _ h => h) (fun _ _ _ _ h _ => h) ?_ ?_
              · refine Each.all ?_
                refine ⟨?_, ?_, trivial⟩
                · intro a w2 hB hF hd
                  rw [if_pos (wanted_none rfl)]
                  exact flow_val (fun h => by cases h) (run_load_str rfl Try.underlying26 rfl Try.size26 (hF.same 4 rfl) (hr.below hB hr.lt)) rfl
                · intro a w2 hB hF hd
                  rw [if_pos (wanted_none rfl)]
                  refine flow_call _ _ _ rfl Try.call20 _ (args1 (hd 0 _ rfl (waits_spec rfl))) (by simp) ((feOdd_no (mulF g imF) (rtN X * im1) HR2.out hodd.out w2).mono ?_)
                  rintro e w3 ⟨rfl, hb⟩; exact ⟨_, rfl, rfl, hb⟩
              · intro a w9 hB hF hS
                have ha := puts_each rfl rfl hF [_, _] rfl ⟨hS 0 _ rfl, hS 1 _ rfl, trivial⟩
                simp only [puts, Act.put, List.setIfInBounds_toArray, List.set_cons_succ, List.set_cons_zero] at ha
                subst ha
                clear hS hF
                have hZz := hZ4.below hB hZ4.lt
                have hbz := hb4.trans (hB.mono hb4.size)
                have hrz := hr.below hB hr.lt
                clear hr hA4 hZ4 hb4 hB
                go_wp2_with (first
                  | (refine load_str rfl 26 _ rfl .i64 b 16 _ Try.underlying26 rfl Try.size26 rfl hrz ?_)
                  | (refine store_arr rfl 26 _ _ rfl .i64 (w.heap.size + 1) 16 (fun _ => 0) _ Try.size26 rfl rfl hZz ?_))
                exact bodyPost_ret (results_str2 rfl _ _ .i64 (w.heap.size + 1) 16 _ rfl (hZz.setRow _ _) Try.underlying26 rfl Try.size26) rfl (RootOk.mk rfl HR2.out HQ2.out hodd.out (below_setRow' hbz (by omega) _))
            · have hodd := Lib.hid ho
              clear ho
              go_upto_region 6 with (fail)
              refine region_flow (n := 31) (by kernel_rfl) (by kernel_rfl) (by kernel_rfl) rfl
                (fun i v _ => (match i with | 0 => v = .agg (arr .i64 16 (mulF g imF)) | 1 => v = .bool true | _ => True))
                (fun w w' => Below w.heap.size w w') (fun _ _ h => h) (fun _ _ _ _ h _ => h) ?_ ?_
              · refine Each.all ?_
                refine ⟨?_, ?_, trivial⟩
                · intro a w2 hB hF hd
                  rw [if_pos (wanted_none rfl)]
                  exact flow_val (fun h => by cases h) (run_load_str rfl Try.underlying26 rfl Try.size26 (hF.same 4 rfl) (hr.below hB hr.lt)) rfl
                · intro a w2 hB hF hd
                  rw [if_pos (wanted_none rfl)]
                  refine flow_call _ _ _ rfl Try.call20 _ (args1 (hd 0 _ rfl (waits_spec rfl))) (by simp) ((feOdd_yes (mulF g imF) (rtN X * im1) HR2.out hodd.out w2).mono ?_)
                  rintro e w3 ⟨rfl, hb⟩; exact ⟨_, rfl, rfl, hb⟩
              · intro a w9 hB hF hS
                have ha := puts_each rfl rfl hF [_, _] rfl ⟨hS 0 _ rfl, hS 1 _ rfl, trivial⟩
                simp only [puts, Act.put, List.setIfInBounds_toArray, List.set_cons_succ, List.set_cons_zero] at ha
                subst ha
                clear hS hF
                have hZz := hZ4.below hB hZ4.lt
                have hbz := hb4.trans (hB.mono hb4.size)
                have hrz := hr.below hB hr.lt
                clear hr hA4 hZ4 hb4 hB
                go_wp2_with (refine load_str rfl 26 _ rfl .i64 b 16 _ Try.underlying26 rfl Try.size26 rfl hrz ?_)
                refine (feNeg_any (mulF g imF) ((rtN X * im1)) HR2.out _).mono ?_
                rintro e w10 ⟨rfl, hb10⟩
                have hZy := hZz.kept hb10
                have hby := hbz.trans (hb10.mono hbz.size)
                have hry := hrz.kept hb10
                clear hZz hbz hrz hb10
                go_upto_region 8 with (refine store_arr rfl 26 _ _ rfl .i64 b 16 _ _ Try.size26 rfl rfl hry ?_)
                refine wp_world (fun w11 => Arr .i64 w11 b 16 (negF (mulF g imF)) ∧ Arr .i64 w11 (w.heap.size + 1) 16 (fun _ => 0) ∧ Below w.heap.size w w11) ⟨Arr.setRow hry _ _, Arr.setRowOther hZy _ (by omega) _, below_setRow' hby (by omega) _⟩ ?_
                rintro w11 ⟨hr2, hZ2, hb2⟩
                clear hZy hby hry
                go_wp2_with (first
                  | (refine load_str rfl 26 _ rfl .i64 b 16 _ Try.underlying26 rfl Try.size26 rfl hr2 ?_)
                  | (refine store_arr rfl 26 _ _ rfl .i64 (w.heap.size + 1) 16 (fun _ => 0) _ Try.size26 rfl rfl hZ2 ?_))
                exact bodyPost_ret (results_str2 rfl _ _ .i64 (w.heap.size + 1) 16 _ rfl (hZ2.setRow _ _) Try.underlying26 rfl Try.size26) rfl (RootOk.mk rfl HR2.out.negF (neg_sq HQ2.out) (neg_even hodd.out) (below_setRow' hb2 (by omega) _))

set_option maxRecDepth 100000 in
set_option maxHeartbeats 25600000 in
theorem feRoot_no (f : Nat → Int) (X : Int) (hf : Fe f X) (hsq : isSq X = false) (w : World) :
    Calls Try.prog 37 #[El f] w fun e w' => e = .returned (.tuple #[El (fun _ => 0), .bool false]) ∧ Below w.heap.size w w' := by
  have HF := Lib.hid hf
  have HSQ := Lib.hid hsq
  clear hf hsq
  unfold El
  go_enter Try.func37, Try.ntmps37
  go_upto_region 1 with (fail)
  refine wp_world (fun w1 => Arr .i64 w1 w.heap.size 16 f ∧ Arr .i64 w1 (w.heap.size + 1) 16 (fun _ => 0) ∧ Below w.heap.size w w1)
    ⟨Arr.alloc (Arr.newAt (by first | omega | (simp <;> omega)) (by rfl)) _, Arr.newAt (by first | omega | (simp <;> omega)) (by rfl), ((Below.refl _ _).alloc (Nat.le_refl _) _).alloc (by simp) _⟩ ?_
  rintro w1 ⟨hA, hZ, hbel⟩
  refine region_vars (n := 31) (by kernel_rfl) (by kernel_rfl) (by kernel_rfl) rfl
    (isAl [(4, 3)]) (putOf [(4, 3)]) (fun _ => arr .i64 16 (fun _ => 0)) (fun _ => (arr .i64 16 (rtF f))) (fun _ => 26) (fun _ => 4)
    (fun i v _ => (match i with | 0 => v = .agg (arr .i64 16 (f)) | 1 => v = .agg (arr .u8 32 (dg 256 (((PN + 3) / 8 : Nat) : Int))) | 2 => v = .agg (arr .i64 16 (rtF f)) | _ => True)) (fun _ _ => True) (fun _ _ _ => trivial) (fun _ _ _ _ _ _ _ => trivial) (fun _ _ _ _ h _ => h)
    (vs_al rfl) (vs_inj rfl) ?_ ?_ ?_ ?_
  · refine Each.all ?_
    refine ⟨?_, ?_, ?_, (fun h => by cases h), (fun _ h => by cases h), trivial⟩
    · intro _ _ a w2 hB hF hd
      rw [if_pos (wanted_none rfl)]
      exact flow_val (fun h => by cases h) (run_load_str rfl Try.underlying26 rfl Try.size26 (hF.same 1 rfl) (hA.below hB hA.lt)) rfl
    · intro _ _ a w2 hB hF hd
      rw [if_pos (wanted_none rfl)]
      refine flow_call _ _ _ rfl Try.call78 _ (args2 rfl rfl) (by simp) ((number_rt w2).mono ?_)
      rintro e w3 ⟨rfl, hb⟩; exact ⟨_, rfl, rfl, hb⟩
    · intro _ _ a w2 hB hF hd
      rw [if_pos (wanted_none rfl)]
      refine flow_call _ _ _ rfl Try.call32 _ (args2 (hd 0 _ rfl rfl rfl (waits_spec rfl)) (hd 1 _ rfl rfl rfl (waits_spec rfl))) (by simp) ((fePower_any f X (((PN + 3) / 8 : Nat) : Int) HF.out exp_rt_b.1 exp_rt_b.2 w2).mono ?_)
      rintro e w3 ⟨rfl, hb⟩; exact ⟨_, rfl, rfl, hb⟩
  · refine Each.all ?_
    refine ⟨(fun h => by cases h), (fun h => by cases h), (fun h => by cases h), ?_, (fun h => by cases h), trivial⟩
    · exact fun _ => ⟨rfl, rfl, fun a w2 K h => flow_alloc rfl rfl Try.zeroValue26 (by simp) h⟩
  · refine Each.all ?_
    refine ⟨(fun _ h => by cases h), (fun _ h => by cases h), (fun _ h => by cases h), (fun _ h => by cases h), ?_, trivial⟩
    · intro p hp
      obtain rfl : 3 = p := Option.some.inj hp
      exact ⟨rfl, rfl, ⟨_, rfl⟩, waits_spec rfl, fun a w2 b K hB hF hd hx hb h => flow_put rfl rfl Try.size26 hx (hd 2 _ rfl rfl rfl (waits_spec rfl)) hb h⟩
  · intro a w3 blk hB hF hS hv hfin hdis
    obtain ⟨v3, v3l, v3u⟩ := hv 3 _ rfl rfl
    have ha := puts_each rfl rfl hF [_, _, _, _, undef] rfl ⟨hS 0 _ rfl rfl rfl, hS 1 _ rfl rfl rfl, hS 2 _ rfl rfl rfl, v3, trivial, trivial⟩
    have f3 := hfin 4 _ 3 rfl rfl
    simp only [puts, Act.put, List.setIfInBounds_toArray, List.set_cons_succ, List.set_cons_zero] at ha
    subst ha
    have V3 : Arr .i64 w3 (blk 3) 16 (rtF f) := ⟨_, f3⟩
    clear hS hv hfin hdis hF v3 f3
    have hA1 := hA.below hB hA.lt
    have hZ1 := hZ.below hB hZ.lt
    have hb1 := hbel.trans (hB.mono hbel.size)
    have lb := hbel.size
    have lz := hZ.lt
    have HR := Lib.hid (fe_rt HF.out)
    obtain ⟨b, hb⟩ : ∃ b, b = blk 3 := ⟨_, rfl⟩
    obtain ⟨g, hg⟩ : ∃ g, g = rtF f := ⟨_, rfl⟩
    rw [← hb] at V3 v3l ⊢
    rw [← hg] at HR V3 ⊢
    have hr := V3
    have hbw : w.heap.size + 2 ≤ b := by omega
    clear hb hg V3 v3l v3u hA hZ hbel hB lb lz
    have HQ := Lib.hid (rt_none HSQ.out (rtN X))
    have HQ2 := Lib.hid (rt_none HSQ.out (rtN X * im1))
    go_upto_region 2 with (fail)
    refine region_flow (n := 31) (by kernel_rfl) (by kernel_rfl) (by kernel_rfl) rfl
      (fun i v _ => (match i with | 0 | 1 => v = .agg (arr .i64 16 (g)) | 2 => v = .agg (arr .i64 16 (mulF (g) (g))) | 3 => v = .agg (arr .i64 16 (f)) | 4 => v = .bool false | 5 => v = .bool true | _ => True))
      (fun w w' => Below w.heap.size w w') (fun _ _ h => h) (fun _ _ _ _ h _ => h) ?_ ?_
    · refine Each.all ?_
      refine ⟨?_, ?_, ?_, ?_, ?_, ?_, trivial⟩
      · intro a w2 hB hF hd
        rw [if_pos (wanted_none rfl)]
        exact flow_val (fun h => by cases h) (run_load_str rfl Try.underlying26 rfl Try.size26 (hF.same 4 rfl) (hr.below hB hr.lt)) rfl
      · intro a w2 hB hF hd
        rw [if_pos (wanted_none rfl)]
        exact flow_val (fun h => by cases h) (run_load_str rfl Try.underlying26 rfl Try.size26 (hF.same 4 rfl) (hr.below hB hr.lt)) rfl
      · intro a w2 hB hF hd
        rw [if_pos (wanted_none rfl)]
        refine flow_call _ _ _ rfl Try.call29 _ (args2 (hd 0 _ rfl (waits_spec rfl)) (hd 1 _ rfl (waits_spec rfl))) (by simp) ((feMul_any (g) (g) (rtN X) (rtN X) HR.out HR.out w2).mono ?_)
        rintro e w3 ⟨rfl, hb⟩; exact ⟨_, rfl, rfl, hb⟩
      · intro a w2 hB hF hd
        rw [if_pos (wanted_none rfl)]
        exact flow_val (fun h => by cases h) (run_load_str rfl Try.underlying26 rfl Try.size26 (hF.same 1 rfl) (hA1.below hB hA1.lt)) rfl
      · intro a w2 hB hF hd
        rw [if_pos (wanted_none rfl)]
        refine flow_call _ _ _ rfl Try.call21 _ (args2 (hd 2 _ rfl (waits_spec rfl)) (hd 3 _ rfl (waits_spec rfl))) (by simp) ((feEqual_no (mulF (g) (g)) (f) ((rtN X) * (rtN X)) X (HR.out.mulF HR.out) HF.out HQ.out w2).mono ?_)
        rintro e w3 ⟨rfl, hb⟩; exact ⟨_, rfl, rfl, hb⟩
      · intro a w2 hB hF hd
        rw [if_pos (wanted_none rfl)]
        exact flow_val (fun h => by cases h) (run_not rfl (hd 4 _ rfl (waits_spec rfl))) rfl
    · intro a w4 hB hF hS
      have ha := puts_each rfl rfl hF [_, _, _, _, _, _] rfl ⟨hS 0 _ rfl, hS 1 _ rfl, hS 2 _ rfl, hS 3 _ rfl, hS 4 _ rfl, hS 5 _ rfl, trivial⟩
      simp only [puts, Act.put, List.setIfInBounds_toArray, List.set_cons_succ, List.set_cons_zero] at ha
      subst ha
      clear hS hF
      have hA2 := hA1.below hB hA1.lt
      have hZ2 := hZ1.below hB hZ1.lt
      have hb2 := hb1.trans (hB.mono hb1.size)
      have hr' := hr.below hB hr.lt
      clear hr
      have hr := hr'
      clear hr' hA1 hZ1 hb1 hB
      go_upto_region 3 with (fail)
      refine region_lasts (n := 31) (fun i => i == 5) (by kernel_rfl) (by kernel_rfl) (by kernel_rfl) (by kernel_rfl) rfl
        (fun i v _ => (match i with | 0 => v = .agg (arr .i64 16 (g)) | 1 => v = .agg (arr .i64 16 (smallF 2)) | 2 => v = .agg (arr .u8 32 (dg 256 (((PN - 1) / 4 : Nat) : Int))) | 3 => v = .agg (arr .i64 16 (imF)) | 4 => v = .agg (arr .i64 16 (mulF (g) (imF))) | _ => True))
        (fun w w' => Below w.heap.size w w') (fun _ _ h => h) (fun _ _ _ _ h _ => h)
        (fun _ => b) (fun _ => (arr .i64 16 (g))) (fun _ => (arr .i64 16 (mulF (g) (imF))))
        (by intro i j _ _ hpi hpj hne; simp only [beq_iff_eq] at hpi hpj; omega)
        (by intro i _ hpi; exact (hr).row)
        ?_ ?_ ?_
      · refine Each.all ?_
        refine ⟨?_, ?_, ?_, ?_, ?_, (fun h => absurd h (by decide)), trivial⟩
        · intro _ a w2 hB hF hd
          rw [if_pos (wanted_none rfl)]
          exact flow_val (fun h => by cases h) (run_load_str rfl Try.underlying26 rfl Try.size26 (hF.same 4 rfl) (hr.below hB hr.lt)) rfl
        · intro _ a w2 hB hF hd
          rw [if_pos (wanted_none rfl)]
          refine flow_call _ _ _ rfl Try.call23 _ (args1 rfl) (by simp) ((feSmall_any 2 w2).mono ?_)
          rintro e w3 ⟨rfl, hb⟩; exact ⟨_, rfl, rfl, hb⟩
        · intro _ a w2 hB hF hd
          rw [if_pos (wanted_none rfl)]
          refine flow_call _ _ _ rfl Try.call78 _ (args2 rfl rfl) (by simp) ((number_im w2).mono ?_)
          rintro e w3 ⟨rfl, hb⟩; exact ⟨_, rfl, rfl, hb⟩
        · intro _ a w2 hB hF hd
          rw [if_pos (wanted_none rfl)]
          refine flow_call _ _ _ rfl Try.call32 _ (args2 (hd 1 _ rfl rfl (waits_spec rfl)) (hd 2 _ rfl rfl (waits_spec rfl))) (by simp) ((fePower_any (smallF 2) 2 (((PN - 1) / 4 : Nat) : Int) fe_two exp_im_b.1 exp_im_b.2 w2).mono ?_)
          rintro e w3 ⟨rfl, hb⟩; exact ⟨_, rfl, rfl, hb⟩
        · intro _ a w2 hB hF hd
          rw [if_pos (wanted_none rfl)]
          refine flow_call _ _ _ rfl Try.call29 _ (args2 (hd 0 _ rfl rfl (waits_spec rfl)) (hd 3 _ rfl rfl (waits_spec rfl))) (by simp) ((feMul_any (g) (imF) (rtN X) im1 HR.out fe_im w2).mono ?_)
          rintro e w3 ⟨rfl, hb⟩; exact ⟨_, rfl, rfl, hb⟩
      · refine Each.all ?_
        refine ⟨(fun h => absurd h (by decide)), (fun h => absurd h (by decide)), (fun h => absurd h (by decide)), (fun h => absurd h (by decide)), (fun h => absurd h (by decide)), ?_, trivial⟩
        · intro _ a w1 w2 K hB hF hS hr hK
          exact wp_store_arr 26 _ _ rfl .i64 (b) 16 (g) (mulF (g) (imF)) Try.size26 (hF.same 4 rfl) (hS 4 _ rfl rfl ) hr hK
      · intro a wf w6 hB hF hS hfil
        have other : ∀ {k : IntKind} {qb n : Nat} {f : Nat → Int}, qb ≠ b → Arr k wf qb n f → Arr k w6 qb n f := fun {k qb n f} e0 hA => hfil.arr (by intro i _ hpi; simp only [Bool.or_eq_true, beq_iff_eq] at hpi; subst hpi <;> ((try simp only []); (try dsimp only); omega)) hA
        have belowT : ∀ {B : Nat} {w0 : World}, B ≤ b → Below B w0 wf → Below B w0 w6 := fun {B w0} e0 hA => hfil.below (by intro i _ hpi; simp only [Bool.or_eq_true, beq_iff_eq] at hpi; subst hpi <;> ((try simp only []); (try dsimp only); omega)) hA
        have V5 : Arr .i64 w6 (b) 16 (mulF (g) (imF)) := hfil.at 5 (by decide) rfl
        have hszf := hfil.size
        clear hfil
        have ha := puts_each rfl rfl hF [_, _, _, _, _, undef] rfl ⟨hS 0 _ rfl rfl, hS 1 _ rfl rfl, hS 2 _ rfl rfl, hS 3 _ rfl rfl, hS 4 _ rfl rfl, trivial, trivial⟩
        simp only [puts, Act.put, List.setIfInBounds_toArray, List.set_cons_succ, List.set_cons_zero] at ha
        subst ha
        clear hS hF
        have hA3 := other (by omega) (hA2.below hB hA2.lt)
        have hZ3 := other (by omega) (hZ2.below hB hZ2.lt)
        have hb3 := belowT (by omega) (hb2.trans (hB.mono hb2.size))
        have hr2 := V5
        clear hr
        have hr := hr2
        clear hr2 V5 hA2 hZ2 hb2 hB other belowT
        have HR2 := Lib.hid (HR.out.mulF fe_im)
        go_upto_region 4 with (fail)
        refine region_flow (n := 31) (by kernel_rfl) (by kernel_rfl) (by kernel_rfl) rfl
          (fun i v _ => (match i with | 0 | 1 => v = .agg (arr .i64 16 (mulF g imF)) | 2 => v = .agg (arr .i64 16 (mulF (mulF g imF) (mulF g imF))) | 3 => v = .agg (arr .i64 16 (f)) | 4 => v = .bool false | 5 => v = .bool true | _ => True))
          (fun w w' => Below w.heap.size w w') (fun _ _ h => h) (fun _ _ _ _ h _ => h) ?_ ?_
        · refine Each.all ?_
          refine ⟨?_, ?_, ?_, ?_, ?_, ?_, trivial⟩
          · intro a w2 hB hF hd
            rw [if_pos (wanted_none rfl)]
            exact flow_val (fun h => by cases h) (run_load_str rfl Try.underlying26 rfl Try.size26 (hF.same 4 rfl) (hr.below hB hr.lt)) rfl
          · intro a w2 hB hF hd
            rw [if_pos (wanted_none rfl)]
            exact flow_val (fun h => by cases h) (run_load_str rfl Try.underlying26 rfl Try.size26 (hF.same 4 rfl) (hr.below hB hr.lt)) rfl
          · intro a w2 hB hF hd
            rw [if_pos (wanted_none rfl)]
            refine flow_call _ _ _ rfl Try.call29 _ (args2 (hd 0 _ rfl (waits_spec rfl)) (hd 1 _ rfl (waits_spec rfl))) (by simp) ((feMul_any (mulF g imF) (mulF g imF) (rtN X * im1) (rtN X * im1) HR2.out HR2.out w2).mono ?_)
            rintro e w3 ⟨rfl, hb⟩; exact ⟨_, rfl, rfl, hb⟩
          · intro a w2 hB hF hd
            rw [if_pos (wanted_none rfl)]
            exact flow_val (fun h => by cases h) (run_load_str rfl Try.underlying26 rfl Try.size26 (hF.same 1 rfl) (hA3.below hB hA3.lt)) rfl
          · intro a w2 hB hF hd
            rw [if_pos (wanted_none rfl)]
            refine flow_call _ _ _ rfl Try.call21 _ (args2 (hd 2 _ rfl (waits_spec rfl)) (hd 3 _ rfl (waits_spec rfl))) (by simp) ((feEqual_no (mulF (mulF g imF) (mulF g imF)) (f) ((rtN X * im1) * (rtN X * im1)) X (HR2.out.mulF HR2.out) HF.out HQ2.out w2).mono ?_)
            rintro e w3 ⟨rfl, hb⟩; exact ⟨_, rfl, rfl, hb⟩
          · intro a w2 hB hF hd
            rw [if_pos (wanted_none rfl)]
            exact flow_val (fun h => by cases h) (run_not rfl (hd 4 _ rfl (waits_spec rfl))) rfl
        · intro a w6 hB hF hS
          have ha := puts_each rfl rfl hF [_, _, _, _, _, _] rfl ⟨hS 0 _ rfl, hS 1 _ rfl, hS 2 _ rfl, hS 3 _ rfl, hS 4 _ rfl, hS 5 _ rfl, trivial⟩
          simp only [puts, Act.put, List.setIfInBounds_toArray, List.set_cons_succ, List.set_cons_zero] at ha
          subst ha
          clear hS hF
          have hA4 := hA3.below hB hA3.lt
          have hZ4 := hZ3.below hB hZ3.lt
          have hb4 := hb3.trans (hB.mono hb3.size)
          have hr' := hr.below hB hr.lt
          clear hr
          have hr := hr'
          clear hr' hA3 hZ3 hb3 hB
          go_wp2_with (first
            | (refine step_val rfl (run_built rfl (build_el _)) ?_)
            | (refine store_arr rfl 26 _ _ rfl .i64 (w.heap.size + 1) 16 (fun _ => 0) _ Try.size26 rfl rfl hZ4 ?_))
          exact bodyPost_ret (results_str2 rfl _ _ .i64 (w.heap.size + 1) 16 _ rfl (hZ4.setRow _ _) Try.underlying26 rfl Try.size26) rfl ⟨rfl, below_setRow' hb4 (by omega) _⟩
end Go.Proofs.Ytjmagojmfiabfaa
