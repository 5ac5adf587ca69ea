/-
  sha.schedule: what it answers. Conditions: named in each theorem.
-/
import Derived.Test.YtgobodhcamgidaaSh1
import Derived.Test.YtgobodhcamgidaaWords
import Derived.Test.YtgobodhcamgidaaElem
set_option linter.unusedVariables false
set_option linter.unusedSimpArgs false
namespace Go.Bas
theorem sub_i64 {a : Nat} {c : Int} {b : Nat} (h : (a : Int) - c = b) (hb : b ≤ 1000000000) : IntKind.i64.wrap ((a : Int) - c) = (b : Int) := by rw [h]; exact wrap_i64_id (by omega) (by omega)
theorem add_i64 {a : Nat} {c : Int} {b : Nat} (h : (a : Int) + c = b) (hb : b ≤ 1000000000) : IntKind.i64.wrap ((a : Int) + c) = (b : Int) := by rw [h]; exact wrap_i64_id (by omega) (by omega)
end Go.Bas
namespace Go.Proofs.Ytgobodhcamgidaa
open Go.RowKit Go.Bas
attribute [local go_sem ↓] Go.wp_at_zero Go.wp_at_succ
theorem laid_m16 (f : Nat → Int) (i : Nat) : laid (fun _ => 0) 0 16 (be64 f) i = m16 f i := by
  unfold laid m16
  by_cases h : i < 16
  · rw [if_pos (by omega), if_pos h]; rfl
  · rw [if_neg (by omega), if_neg h]
theorem Try.size42 : (Try.prog.info? 42).map (·.size) = some 80 := by kernel_rfl
theorem Try.size78 : (Try.prog.info? 78).map (·.size) = some 8 := by kernel_rfl

set_option maxRecDepth 100000 in
set_option maxHeartbeats 3200000 in
theorem schedule_any (v : Value) (f : Nat → Int) (w : World) (hv : Rd .u8 w v 128 f) (hf : ∀ i, i < 128 → 0 ≤ f i ∧ f i < 256) :
    Calls Try.prog 73 #[v] w fun e w' => e = .returned (.agg (arr .u64 80 (schF (m16 f) 64))) ∧ Below w.heap.size w w' := by
  have HV := Lib.hid hv
  have HF := Lib.hid hf
  have HM := Lib.hid (schF_bound (m16_bound hf))
  clear hv hf
  go_enter Try.func73, Try.ntmps73
  go_upto_region 2 with (fail)
  refine wp_world (fun w1 => Arr .u64 w1 w.heap.size 80 (fun _ => 0) ∧ Arr .u64 w1 (w.heap.size + 1) 80 (fun _ => 0) ∧ Below w.heap.size w w1 ∧ w1.heap.size = w.heap.size + 2)
    ⟨Arr.alloc (Arr.newAt rfl (by rfl)) _, Arr.newAt (by simp) (by rfl), ((Below.refl _ _).alloc (Nat.le_refl _) _).alloc (by simp) _, by simp⟩ ?_
  rintro w1 ⟨hZ, hA, hbel, hs⟩
  have HS := Lib.hid hs
  clear hs
  go_wp2_with fail
  refine (words64_ok _ 16 f _ (HV.out.below hbel) HF.out (by decide)).mono ?_
  rintro e w2 ⟨u, rfl, hO, hb2⟩
  have hR := hO.rd
  have HR := Lib.hid hR
  have hZ2 := hZ.kept hb2
  have hA2 := hA.kept hb2
  have hbel2 := hbel.trans (hb2.mono hbel.size)
  have s2 : w.heap.size + 2 ≤ w2.heap.size := by have := hb2.size; have := HS.out; omega
  obtain ⟨ua, uc, rfl, u1, u2, _, _⟩ := id hR
  clear hZ hA hbel hb2 hO hR
  go_upto_region 4 with (refine list_copy_arr rfl _ _ 46 46 rfl (w.heap.size + 1) 0 80 80 80 (fun _ => 0) Try.underlying46 Try.size36 rfl hA2 _ 16 (be64 f) HR.out rfl (by decide) (by decide) ?_)
  refine wp_world (fun w3 => Arr .u64 w3 w.heap.size 80 (fun _ => 0) ∧ Arr .u64 w3 (w.heap.size + 1) 80 (schF (m16 f) 0) ∧ Below w.heap.size w w3)
    ⟨hZ2.setRowOther _ (by omega) _, (Arr.setRow hA2 _ _).congr (fun i _ => laid_m16 f i), below_setRow' hbel2 (by omega) _⟩ ?_
  rintro w3 ⟨hZ3, hA3, hbel3⟩
  clear hZ2 hA2 hbel2 HR
  go_wp2
  go_loopw [6] (fun i wr => ∃ k : Nat, k ≤ 64 ∧ i = .int .i64 ((16 + k : Nat) : Int) ∧ Arr .u64 wr w.heap.size 80 (fun _ => 0) ∧ Arr .u64 wr (w.heap.size + 1) 80 (schF (m16 f) k) ∧ Below w.heap.size w wr) (fun i _ => 80 - (intOf i).toNat)
  case atStart => exact ⟨0, Nat.zero_le _, rfl, hZ3, hA3, hbel3⟩
  case round =>
    clear hZ3 hA3 hbel3
    obtain ⟨k, hk, rfl, hZ, hA, hbel⟩ := hrel
    have hal := hA.lt
    obtain ⟨S, hS⟩ : ∃ S, S = schF (m16 f) k := ⟨_, rfl⟩
    have HSB : Hid (∀ i, i < 80 → 0 ≤ S i ∧ S i < M64) := by rw [hS]; exact HM.out k
    have HST : Hid (upd S (16 + k) (schW (S k) (S (k + 1)) (S (k + 9)) (S (k + 14))) = schF (m16 f) (k + 1)) := by rw [hS]; exact rfl
    rw [← hS] at hA
    have HSE := Lib.hid hS
    clear hS
    by_cases hlt : k < 64
    · go_upto_region 7 with (fail)
      have d15 : IntKind.i64.wrap (((16 + k : Nat) : Int) - 15) = ((k + 1 : Nat) : Int) := sub_i64 (by omega) (by omega)
      have d2 : IntKind.i64.wrap (((16 + k : Nat) : Int) - 2) = ((k + 14 : Nat) : Int) := sub_i64 (by omega) (by omega)
      have d16 : IntKind.i64.wrap (((16 + k : Nat) : Int) - 16) = ((k : Nat) : Int) := sub_i64 (by omega) (by omega)
      have d7 : IntKind.i64.wrap (((16 + k : Nat) : Int) - 7) = ((k + 9 : Nat) : Int) := sub_i64 (by omega) (by omega)
      refine region_flow (n := 59) (by kernel_rfl) (by kernel_rfl) (by kernel_rfl) rfl
        (fun ii vv _ => (match ii with | 0 | 4 => vv = .int .i64 (((16 + k : Nat) : Int)) | 1 => vv = .int .i64 (((k + 1 : Nat) : Int)) | 2 => vv = .pointer (some ⟨(w.heap.size + 1), k + 1, none⟩) | 3 | 8 => vv = .int .u64 (S (k + 1)) | 5 => vv = .int .i64 (((k + 14 : Nat) : Int)) | 6 => vv = .pointer (some ⟨(w.heap.size + 1), k + 14, none⟩) | 7 | 9 => vv = .int .u64 (S (k + 14)) | _ => True))
        (fun w w' => Below w.heap.size w w') (fun _ _ h => h) (fun _ _ _ _ h _ => h) ?_ ?_
      · refine Each.all ?_
        refine ⟨?_, ?_, ?_, ?_, ?_, ?_, ?_, ?_, ?_, ?_, trivial⟩
        · intro a w2 hB hF hd
          rw [if_pos (wanted_none rfl)]
          exact flow_move _ (.inl rfl) (by simp) (hF.same 6 rfl)
        · intro a w2 hB hF hd
          rw [if_pos (wanted_none rfl)]
          exact flow_val (fun h => by cases h) (Go.Bas.run_sub rfl (hd 0 _ rfl (waits_spec rfl)) rfl) (congrArg (Value.int .i64) (d15))
        · intro a w2 hB hF hd
          rw [if_pos (wanted_none rfl)]
          exact flow_val (fun h => by cases h) (run_index_addr rfl (hF.same 3 rfl) (hd 1 _ rfl (waits_spec rfl)) Try.underlying42 (by kernel_rfl) (by omega) (by omega)) rfl
        · intro a w2 hB hF hd
          rw [if_pos (wanted_none rfl)]
          exact flow_val (fun h => by cases h) (run_load_cell rfl (hd 2 _ rfl (waits_spec rfl)) Try.underlying36 ((hA.kept hB).cell (k + 1) (by omega))) rfl
        · intro a w2 hB hF hd
          rw [if_pos (wanted_none rfl)]
          exact flow_move _ (.inl rfl) (by simp) (hF.same 6 rfl)
        · intro a w2 hB hF hd
          rw [if_pos (wanted_none rfl)]
          exact flow_val (fun h => by cases h) (Go.Bas.run_sub rfl (hd 4 _ rfl (waits_spec rfl)) rfl) (congrArg (Value.int .i64) (d2))
        · intro a w2 hB hF hd
          rw [if_pos (wanted_none rfl)]
          exact flow_val (fun h => by cases h) (run_index_addr rfl (hF.same 3 rfl) (hd 5 _ rfl (waits_spec rfl)) Try.underlying42 (by kernel_rfl) (by omega) (by omega)) rfl
        · intro a w2 hB hF hd
          rw [if_pos (wanted_none rfl)]
          exact flow_val (fun h => by cases h) (run_load_cell rfl (hd 6 _ rfl (waits_spec rfl)) Try.underlying36 ((hA.kept hB).cell (k + 14) (by omega))) rfl
        · intro a w2 hB hF hd
          rw [if_pos (wanted_none rfl)]
          exact flow_move _ (.inr rfl) (by simp) (hd 3 _ rfl (waits_spec rfl))
        · intro a w2 hB hF hd
          rw [if_pos (wanted_none rfl)]
          exact flow_move _ (.inr rfl) (by simp) (hd 7 _ rfl (waits_spec rfl))
      · intro a w2 hB hF hS
        have ha := puts_each rfl rfl hF [_, _, _, _, _, _, _, _, _, _] rfl ⟨hS 0 _ rfl, hS 1 _ rfl, hS 2 _ rfl, hS 3 _ rfl, hS 4 _ rfl, hS 5 _ rfl, hS 6 _ rfl, hS 7 _ rfl, hS 8 _ rfl, hS 9 _ rfl, trivial⟩
        simp only [puts, Act.put, List.setIfInBounds_toArray, List.set_cons_succ, List.set_cons_zero] at ha
        subst ha
        clear hS hF
        have hZ2 := hZ.kept hB
        have hA2 := hA.kept hB
        have hbel2 := hbel.trans (hB.mono hbel.size)
        clear hZ hA hbel hB
        go_upto_region 8 with (fail)
        refine region_last' (n := 59) 29 rfl (by decide) (by kernel_rfl) (by kernel_rfl) (by kernel_rfl) (by kernel_rfl) rfl
          (fun ii vv _ => (match ii with | 0 | 1 | 14 => vv = .int .i64 (((16 + k : Nat) : Int)) | 2 => vv = .int .i64 (((k : Nat) : Int)) | 3 => vv = .pointer (some ⟨(w.heap.size + 1), k, none⟩) | 4 => vv = .int .u64 (S k) | 5 | 7 | 10 => vv = .int .u64 (S (k + 1)) | 6 => vv = .int .u64 (rr (S (k + 1)) 1) | 8 => vv = .int .u64 (rr (S (k + 1)) 8) | 9 => vv = .int .u64 (x64 (rr (S (k + 1)) 1) (rr (S (k + 1)) 8)) | 11 => vv = .int .u64 (S (k + 1) / 2 ^ 7) | 12 => vv = .int .u64 (s0F (S (k + 1))) | 13 => vv = .int .u64 ((S k + s0F (S (k + 1))) % M64) | 15 => vv = .int .i64 (((k + 9 : Nat) : Int)) | 16 => vv = .pointer (some ⟨(w.heap.size + 1), k + 9, none⟩) | 17 => vv = .int .u64 (S (k + 9)) | 18 => vv = .int .u64 (((S k + s0F (S (k + 1))) % M64 + S (k + 9)) % M64) | 19 | 21 | 24 => vv = .int .u64 (S (k + 14)) | 20 => vv = .int .u64 (rr (S (k + 14)) 19) | 22 => vv = .int .u64 (rr (S (k + 14)) 61) | 23 => vv = .int .u64 (x64 (rr (S (k + 14)) 19) (rr (S (k + 14)) 61)) | 25 => vv = .int .u64 (S (k + 14) / 2 ^ 6) | 26 => vv = .int .u64 (s1F (S (k + 14))) | 27 => vv = .int .u64 (schW (S k) (S (k + 1)) (S (k + 9)) (S (k + 14))) | 28 => vv = .pointer (some ⟨(w.heap.size + 1), 16 + k, none⟩) | _ => True))
          (fun w w' => Below w.heap.size w w') (fun _ _ h => h) (fun _ _ _ _ h _ => h) rfl ?_ ?_
        · refine Each.all ?_
          refine ⟨?_, ?_, ?_, ?_, ?_, ?_, ?_, ?_, ?_, ?_, ?_, ?_, ?_, ?_, ?_, ?_, ?_, ?_, ?_, ?_, ?_, ?_, ?_, ?_, ?_, ?_, ?_, ?_, ?_, (fun h => absurd rfl h), trivial⟩
          · intro _ a w2 hB hF hd
            rw [if_pos (wanted_none rfl)]
            exact flow_move _ (.inl rfl) (by simp) (hF.same 6 rfl)
          · intro _ a w2 hB hF hd
            rw [if_pos (wanted_none rfl)]
            exact flow_move _ (.inl rfl) (by simp) (hF.same 6 rfl)
          · intro _ a w2 hB hF hd
            rw [if_pos (wanted_none rfl)]
            exact flow_val (fun h => by cases h) (Go.Bas.run_sub rfl (hd 1 _ rfl (waits_spec rfl)) rfl) (congrArg (Value.int .i64) (d16))
          · intro _ a w2 hB hF hd
            rw [if_pos (wanted_none rfl)]
            exact flow_val (fun h => by cases h) (run_index_addr rfl (hF.same 3 rfl) (hd 2 _ rfl (waits_spec rfl)) Try.underlying42 (by kernel_rfl) (by omega) (by omega)) rfl
          · intro _ a w2 hB hF hd
            rw [if_pos (wanted_none rfl)]
            exact flow_val (fun h => by cases h) (run_load_cell rfl (hd 3 _ rfl (waits_spec rfl)) Try.underlying36 ((hA2.kept hB).cell k (by omega))) rfl
          · intro _ a w2 hB hF hd
            rw [if_pos (wanted_none rfl)]
            exact flow_move _ (.inl rfl) (by simp) (hF.same 7 rfl)
          · intro _ a w2 hB hF hd
            rw [if_pos (wanted_none rfl)]
            refine flow_call _ _ _ rfl Try.call100 _ (args2 (hd 5 _ rfl (waits_spec rfl)) rfl) (by simp) ((rotr_any (S (k + 1)) 1 (by decide) (HSB.out _ (by omega)) _ rfl _).mono ?_)
            rintro e w3 ⟨rfl, hb⟩; exact ⟨_, rfl, rfl, hb⟩
          · intro _ a w2 hB hF hd
            rw [if_pos (wanted_none rfl)]
            exact flow_move _ (.inl rfl) (by simp) (hF.same 7 rfl)
          · intro _ a w2 hB hF hd
            rw [if_pos (wanted_none rfl)]
            refine flow_call _ _ _ rfl Try.call100 _ (args2 (hd 7 _ rfl (waits_spec rfl)) rfl) (by simp) ((rotr_any (S (k + 1)) 8 (by decide) (HSB.out _ (by omega)) _ rfl _).mono ?_)
            rintro e w3 ⟨rfl, hb⟩; exact ⟨_, rfl, rfl, hb⟩
          · intro _ a w2 hB hF hd
            rw [if_pos (wanted_none rfl)]
            exact flow_val (fun h => by cases h) (Go.Bas.run_xor rfl (hd 6 _ rfl (waits_spec rfl)) (hd 8 _ rfl (waits_spec rfl))) (congrArg (Value.int .u64) (rfl))
          · intro _ a w2 hB hF hd
            rw [if_pos (wanted_none rfl)]
            exact flow_move _ (.inl rfl) (by simp) (hF.same 7 rfl)
          · intro _ a w2 hB hF hd
            rw [if_pos (wanted_none rfl)]
            exact flow_val (fun h => by cases h) (Go.Bas.run_shr rfl (hd 10 _ rfl (waits_spec rfl)) rfl (by omega)) (congrArg (Value.int .u64) (shr64 (k := 7) (by decide)))
          · intro _ a w2 hB hF hd
            rw [if_pos (wanted_none rfl)]
            exact flow_val (fun h => by cases h) (Go.Bas.run_xor rfl (hd 9 _ rfl (waits_spec rfl)) (hd 11 _ rfl (waits_spec rfl))) (congrArg (Value.int .u64) (rfl))
          · intro _ a w2 hB hF hd
            rw [if_pos (wanted_none rfl)]
            exact flow_val (fun h => by cases h) (Go.Bas.run_add rfl (hd 4 _ rfl (waits_spec rfl)) (hd 12 _ rfl (waits_spec rfl))) (congrArg (Value.int .u64) (wrap64u))
          · intro _ a w2 hB hF hd
            rw [if_pos (wanted_none rfl)]
            exact flow_move _ (.inl rfl) (by simp) (hF.same 6 rfl)
          · intro _ a w2 hB hF hd
            rw [if_pos (wanted_none rfl)]
            exact flow_val (fun h => by cases h) (Go.Bas.run_sub rfl (hd 14 _ rfl (waits_spec rfl)) rfl) (congrArg (Value.int .i64) (d7))
          · intro _ a w2 hB hF hd
            rw [if_pos (wanted_none rfl)]
            exact flow_val (fun h => by cases h) (run_index_addr rfl (hF.same 3 rfl) (hd 15 _ rfl (waits_spec rfl)) Try.underlying42 (by kernel_rfl) (by omega) (by omega)) rfl
          · intro _ a w2 hB hF hd
            rw [if_pos (wanted_none rfl)]
            exact flow_val (fun h => by cases h) (run_load_cell rfl (hd 16 _ rfl (waits_spec rfl)) Try.underlying36 ((hA2.kept hB).cell (k + 9) (by omega))) rfl
          · intro _ a w2 hB hF hd
            rw [if_pos (wanted_none rfl)]
            exact flow_val (fun h => by cases h) (Go.Bas.run_add rfl (hd 13 _ rfl (waits_spec rfl)) (hd 17 _ rfl (waits_spec rfl))) (congrArg (Value.int .u64) (wrap64u))
          · intro _ a w2 hB hF hd
            rw [if_pos (wanted_none rfl)]
            exact flow_move _ (.inl rfl) (by simp) (hF.same 8 rfl)
          · intro _ a w2 hB hF hd
            rw [if_pos (wanted_none rfl)]
            refine flow_call _ _ _ rfl Try.call100 _ (args2 (hd 19 _ rfl (waits_spec rfl)) rfl) (by simp) ((rotr_any (S (k + 14)) 19 (by decide) (HSB.out _ (by omega)) _ rfl _).mono ?_)
            rintro e w3 ⟨rfl, hb⟩; exact ⟨_, rfl, rfl, hb⟩
          · intro _ a w2 hB hF hd
            rw [if_pos (wanted_none rfl)]
            exact flow_move _ (.inl rfl) (by simp) (hF.same 8 rfl)
          · intro _ a w2 hB hF hd
            rw [if_pos (wanted_none rfl)]
            refine flow_call _ _ _ rfl Try.call100 _ (args2 (hd 21 _ rfl (waits_spec rfl)) rfl) (by simp) ((rotr_any (S (k + 14)) 61 (by decide) (HSB.out _ (by omega)) _ rfl _).mono ?_)
            rintro e w3 ⟨rfl, hb⟩; exact ⟨_, rfl, rfl, hb⟩
          · intro _ a w2 hB hF hd
            rw [if_pos (wanted_none rfl)]
            exact flow_val (fun h => by cases h) (Go.Bas.run_xor rfl (hd 20 _ rfl (waits_spec rfl)) (hd 22 _ rfl (waits_spec rfl))) (congrArg (Value.int .u64) (rfl))
          · intro _ a w2 hB hF hd
            rw [if_pos (wanted_none rfl)]
            exact flow_move _ (.inl rfl) (by simp) (hF.same 8 rfl)
          · intro _ a w2 hB hF hd
            rw [if_pos (wanted_none rfl)]
            exact flow_val (fun h => by cases h) (Go.Bas.run_shr rfl (hd 24 _ rfl (waits_spec rfl)) rfl (by omega)) (congrArg (Value.int .u64) (shr64 (k := 6) (by decide)))
          · intro _ a w2 hB hF hd
            rw [if_pos (wanted_none rfl)]
            exact flow_val (fun h => by cases h) (Go.Bas.run_xor rfl (hd 23 _ rfl (waits_spec rfl)) (hd 25 _ rfl (waits_spec rfl))) (congrArg (Value.int .u64) (rfl))
          · intro _ a w2 hB hF hd
            rw [if_pos (wanted_none rfl)]
            exact flow_val (fun h => by cases h) (Go.Bas.run_add rfl (hd 18 _ rfl (waits_spec rfl)) (hd 26 _ rfl (waits_spec rfl))) (congrArg (Value.int .u64) (wrap64u))
          · intro _ a w2 hB hF hd
            rw [if_pos (wanted_none rfl)]
            exact flow_val (fun h => by cases h) (run_index_addr rfl (hF.same 3 rfl) (hd 0 _ rfl (waits_spec rfl)) Try.underlying42 (by kernel_rfl) (by omega) (by omega)) rfl
        · intro a w5 hB hF hS
          have ha := puts_each rfl rfl hF [_, _, _, _, _, _, _, _, _, _, _, _, _, _, _, _, _, _, _, _, _, _, _, _, _, _, _, _, _, undef] rfl ⟨hS 0 _ rfl (by decide), hS 1 _ rfl (by decide), hS 2 _ rfl (by decide), hS 3 _ rfl (by decide), hS 4 _ rfl (by decide), hS 5 _ rfl (by decide), hS 6 _ rfl (by decide), hS 7 _ rfl (by decide), hS 8 _ rfl (by decide), hS 9 _ rfl (by decide), hS 10 _ rfl (by decide), hS 11 _ rfl (by decide), hS 12 _ rfl (by decide), hS 13 _ rfl (by decide), hS 14 _ rfl (by decide), hS 15 _ rfl (by decide), hS 16 _ rfl (by decide), hS 17 _ rfl (by decide), hS 18 _ rfl (by decide), hS 19 _ rfl (by decide), hS 20 _ rfl (by decide), hS 21 _ rfl (by decide), hS 22 _ rfl (by decide), hS 23 _ rfl (by decide), hS 24 _ rfl (by decide), hS 25 _ rfl (by decide), hS 26 _ rfl (by decide), hS 27 _ rfl (by decide), hS 28 _ rfl (by decide), trivial, trivial⟩
          simp only [puts, Act.put, List.setIfInBounds_toArray, List.set_cons_succ, List.set_cons_zero] at ha
          subst ha
          clear hS hF
          have hZ5 := hZ2.kept hB
          have hA5 := hA2.kept hB
          have hbel5 := hbel2.trans (hB.mono hbel2.size)
          clear hZ2 hA2 hbel2 hB
          refine wp_store_cell 36 _ _ rfl rfl (w.heap.size + 1) (16 + k) 80 S _ Try.size36 rfl rfl hA5 (by omega) ?_
          go_wp2
          go_roundw
          case rel => exact ⟨k + 1, by omega, by go_num, hZ5.other (by simp) _, by rw [← HST.out]; exact hA5.set (16 + k) _, hbel5.setCell (by simp) _⟩
          case measure => simp [intOf] <;> omega
    · obtain rfl : k = 64 := by omega
      have hzl := hZ.lt
      go_wp2_with (first
        | (refine load_arr rfl 42 _ rfl .u64 (w.heap.size + 1) 80 _ 36 Try.underlying42 Try.size42 rfl hA ?_)
        | (refine store_arr rfl 42 _ _ rfl .u64 w.heap.size 80 _ _ Try.size42 rfl rfl hZ ?_))
      exact bodyPost_ret (results_arr rfl _ _ .u64 w.heap.size 80 _ 36 rfl (hZ.setRow _ _) Try.underlying42 Try.size42) rfl ⟨by rw [HSE.out], below_setRow' hbel (Nat.le_refl _) _⟩
end Go.Proofs.Ytgobodhcamgidaa
