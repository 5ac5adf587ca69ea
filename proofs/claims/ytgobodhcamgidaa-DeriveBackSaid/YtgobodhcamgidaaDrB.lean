/-
  derive.Chain: what it answers. Conditions: named in each theorem.
-/
import Derived.Test.YtgobodhcamgidaaDr7
import Derived.Test.YtgobodhcamgidaaMid
import Derived.OpenShut
set_option linter.unusedVariables false
set_option linter.unusedSimpArgs false
namespace Go.Bas
open Go.RowKit
/-- the row of a chain of n states, its last k told. -/
def chnF (n : Nat) (S : Nat → Nat → Int) (k c : Nat) : Int := if n - k ≤ c / 32 then S (n - 1 - c / 32) (c % 32) else 0
theorem chnF_zero (n : Nat) (S : Nat → Nat → Int) : ∀ c, c < n * 32 → (0 : Int) = chnF n S 0 c := by
  intro c hc
  unfold chnF
  rw [if_neg (by omega)]
theorem chnF_step {n k : Nat} (S : Nat → Nat → Int) (hk : k < n) (c : Nat) : laid (chnF n S k) ((n - 1 - k) * 32) 32 (S k) c = chnF n S (k + 1) c := by
  unfold laid chnF
  by_cases h : (n - 1 - k) * 32 ≤ c ∧ c < (n - 1 - k) * 32 + 32
  · rw [if_pos h, if_pos (by omega)]
    have e1 : n - 1 - c / 32 = k := by omega
    have e2 : c - (n - 1 - k) * 32 = c % 32 := by omega
    rw [e1, e2]
  · rw [if_neg h]
    by_cases h2 : n - k ≤ c / 32
    · rw [if_pos h2, if_pos (by omega)]
    · rw [if_neg h2, if_neg (by omega)]
end Go.Bas
namespace Go.Proofs.Ytgobodhcamgidaa
open Go.RowKit Go.Bas Go.ChangeShapes
attribute [local go_sem ↓] Go.wp_at_zero Go.wp_at_succ
theorem Try.infoA32 : (Try.prog.info? 26).map (fun i => (i.zero, i.size, i.bytes)) = some (some (.agg (arr .u8 32 (fun _ => 0))), 32, 32) := by kernel_rfl
theorem Try.undRows : Try.prog.underlying 60 = some (.slice 26) := by kernel_rfl

set_option maxRecDepth 100000 in
set_option maxHeartbeats 3200000 in
theorem dChain_any (f : Nat → Int) (hf : ∀ i, i < 32 → 0 ≤ f i ∧ f i < 256) (n : Nat) (hn0 : 1 ≤ n) (hn : n ≤ 4096) (w : World) :
    Calls Try.prog 36 #[.agg (arr .u8 32 f), .int .i64 n] w fun e w' => ∃ G, e = .returned (.tuple #[.slice (some ⟨G, 0, none⟩) n n, .int .i64 0]) ∧ Arr .u8 w' G (n * 32) (chnF n (nextI f) n) ∧ w.heap.size ≤ G ∧ Below w.heap.size w w' := by
  have HNX : Hid (∀ k w, Calls Try.prog 33 #[.agg (arr .u8 32 (nextI f k))] w fun e w' => e = .returned (.agg (arr .u8 32 (nextI f (k + 1)))) ∧ Below w.heap.size w w') := fun k w => dNext_any (nextI f k) (nextI_bound hf k) w
  have H0 : Hid (f = nextI f 0) := rfl
  obtain ⟨NX, hNX⟩ : ∃ NX, NX = nextI f := ⟨_, rfl⟩
  rw [← hNX] at HNX H0 ⊢
  clear hNX hf
  go_enter Try.func36, Try.ntmps36
  go_upto_region 1 with (fail)
  refine wp_world (fun w1 => Arr .u8 w1 w.heap.size 32 (NX 0) ∧ Below w.heap.size w w1) ⟨Arr.newAt rfl (by rw [← H0.out]), (Below.refl _ _).alloc (Nat.le_refl _) _⟩ ?_
  rintro w1 ⟨hA, hb1⟩
  refine region_flow (n := 29) (by kernel_rfl) (by kernel_rfl) (by kernel_rfl) rfl
    (fun ii vv _ => (match ii with | 0 | 3 => vv = .int .i64 ((n : Int)) | 1 | 2 | 4 | 5 => vv = .bool false | _ => True))
    (fun w w' => Below w.heap.size w w') (fun _ _ h => h) (fun _ _ _ _ h _ => h) ?_ ?_
  · refine Each.all ?_
    refine ⟨?_, ?_, ?_, ?_, ?_, ?_, trivial⟩
    · intro a w2 hB hF hd
      rw [if_pos (wanted_none rfl)]
      exact flow_move _ (.inl rfl) (by simp) (hF.same 1 rfl)
    · intro a w2 hB hF hd
      rw [if_pos (wanted_none rfl)]
      exact flow_val (fun h => by cases h) (Go.Bas.run_lss rfl (hd 0 _ rfl (waits_spec rfl)) rfl) (congrArg Value.bool (decide_eq_false (by omega)))
    · intro a w2 hB hF hd
      rw [if_pos (wanted_none rfl)]
      exact flow_move _ (.inl rfl) (by simp) (hd 1 _ rfl (waits_spec rfl))
    · intro a w2 hB hF hd
      refine flow_wanted (wanted_yes rfl rfl (hd 2 _ rfl (waits_spec rfl)) rfl) ?_
      exact flow_move _ (.inl rfl) (by simp) (hF.same 1 rfl)
    · intro a w2 hB hF hd
      refine flow_wanted (wanted_yes rfl rfl (hd 2 _ rfl (waits_spec rfl)) rfl) ?_
      exact flow_val (fun h => by cases h) (Go.Bas.run_gtr rfl (hd 3 _ rfl (waits_spec rfl)) rfl) (congrArg Value.bool (decide_eq_false (by omega)))
    · intro a w2 hB hF hd
      rw [if_pos (wanted_none rfl)]
      exact flow_val (fun h => by cases h) (run_pick rfl (hd 2 _ rfl (waits_spec rfl))) ((hd 4 _ rfl (waits_spec rfl)))
  · intro a w2 hB hF hS
    have ha := puts_each rfl rfl hF [_, _, _, _, _, _] rfl ⟨hS 0 _ rfl, hS 1 _ rfl, hS 2 _ rfl, hS 3 _ rfl, hS 4 _ rfl, hS 5 _ rfl, trivial⟩
    simp only [puts, Act.put, List.setIfInBounds_toArray, List.set_cons_succ, List.set_cons_zero] at ha
    subst ha
    clear hS hF
    have hb2 := hb1.trans (hB.mono hb1.size)
    have hA2 := hA.kept hB
    have hal := hA2.lt
    clear hA hb1 hB
    go_upto_region 4 with (refine make_rows rfl _ _ 60 rfl 26 .u8 32 32 Try.undRows Try.infoA32 (by decide) .i64 .i64 n rfl rfl (by omega) (by omega) ?_)
    refine wp_world (fun w3 => Arr .u8 w3 w2.heap.size (n * 32) (chnF n NX 0) ∧ Arr .u8 w3 w.heap.size 32 (NX 0) ∧ Below w.heap.size w w3) ⟨(Arr.newAt rfl rfl : Arr .u8 _ _ (n * 32) (fun _ => 0)).congr (chnF_zero n NX), hA2.alloc _, hb2.alloc hb2.size _⟩ ?_
    rintro w3 ⟨hC3, hA3, hb3⟩
    have hg1 := hb2.size
    obtain ⟨G, hG⟩ : ∃ G, G = w2.heap.size := ⟨_, rfl⟩
    rw [← hG] at hC3 hal hg1 ⊢
    have hne : w.heap.size ≠ G := by omega
    clear hG hb2 hA2 hal
    try simp only [Act.put, List.setIfInBounds_toArray, List.set_cons_succ, List.set_cons_zero]
    go_wp2
    go_loopw [7] (fun u wr => ∃ k : Nat, k ≤ n ∧ u = .int .i64 ((n : Int) - 1 - (k : Int)) ∧ Arr .u8 wr G (n * 32) (chnF n NX k) ∧ Arr .u8 wr w.heap.size 32 (NX k) ∧ Below w.heap.size w wr) (fun u _ => (intOf u + 1).toNat)
    case atStart => exact ⟨0, Nat.zero_le _, by simp, hC3, hA3, hb3⟩
    case round =>
      clear hC3 hA3 hb3
      obtain ⟨k, hk, rfl, hC, hA, hbel⟩ := hrel
      by_cases hlt : k < n
      · obtain ⟨i, hi⟩ : ∃ i, i = n - 1 - k := ⟨_, rfl⟩
        have ei : (n : Int) - 1 - (k : Int) = (i : Int) := by omega
        have hin : i < n := by omega
        rw [ei]
        have HI := Lib.hid hi
        have HC := Lib.hid hC
        have hC4 := (hC.mid 32 (i * 32) (NX k)).congr (g := chnF n NX (k + 1)) (fun c _ => by rw [hi]; exact chnF_step NX hlt c)
        have hA4 := hA.midOther hne (vals .u8 32 (NX k)) (i * 32)
        have hb4 := below_mid (b := G) (by omega) (vals .u8 32 (NX k)) (i * 32) _ hbel
        have HCON := Lib.hid (fun w => HNX.out k w)
        clear ei hi hC
        go_upto_region 8 with (first
          | (refine load_arr rfl 26 _ rfl .u8 w.heap.size 32 (NX k) 5 Try.underlying26 Try.size26 rfl hA ?_)
          | (refine store_part rfl 26 _ _ rfl .u8 G (i * 32) (n * 32) 32 _ (NX k) Try.size26 rfl rfl HC.out (by omega) ?_))
        refine wp_world (fun w4 => Arr .u8 w4 G (n * 32) (chnF n NX (k + 1)) ∧ Arr .u8 w4 w.heap.size 32 (NX k) ∧ Below w.heap.size w w4) ⟨hC4, hA4, hb4⟩ ?_
        rintro w4 ⟨hC5, hA5, hb5⟩
        clear hA hC4 hA4 hb4 hbel HC
        try simp only [Act.put, List.setIfInBounds_toArray, List.set_cons_succ, List.set_cons_zero]
        go_wp2_with (refine load_arr rfl 26 _ rfl .u8 w.heap.size 32 (NX k) 5 Try.underlying26 Try.size26 rfl hA5 ?_)
        refine (HCON.out _).mono ?_
        rintro e w5 ⟨rfl, hb45⟩
        have hC6 := hC5.kept hb45
        have hA6 := hA5.kept hb45
        have hb6 := hb5.trans (hb45.mono hb5.size)
        have hC7 := hC6.setRowOther w.heap.size (fun e => hne e.symm) (arr .u8 32 (NX (k + 1)))
        have hA7 := hA6.setRow 32 (NX (k + 1))
        have hb7 := below_setRow' hb6 (Nat.le_refl _) (arr .u8 32 (NX (k + 1)))
        have HA6 := Lib.hid hA6
        clear hC5 hA5 hb5 hb45 hC6 hA6 hb6
        go_wp2_with (refine store_arr rfl 26 _ _ rfl .u8 w.heap.size 32 _ (NX (k + 1)) Try.size26 rfl rfl HA6.out ?_)
        go_roundw
        case rel =>
          have e1 : Value.int .i64 ((i : Int) - 1) = .int .i64 ((n : Int) - 1 - ((k + 1 : Nat) : Int)) := congrArg (Value.int .i64) (by have := HI.out; omega)
          first | exact ⟨k + 1, by omega, e1, hC7, hA7, hb7⟩ | ((repeat apply Exists.intro); exact ⟨⟨k + 1, by omega, e1, hC7, hA7, hb7⟩, rfl⟩)
        case measure => simp [intOf] <;> omega
      · obtain rfl : k = n := by omega
        have ek : (k : Int) - 1 - (k : Int) = -1 := by omega
        rw [ek]
        clear hA ek
        go_wp2
        go_ret2
        exact ⟨G, rfl, hC, hg1, hbel⟩
end Go.Proofs.Ytgobodhcamgidaa
