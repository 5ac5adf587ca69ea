/-
  derive.Next, derive.Item, derive.Back, bastilleref12.Next: what each answers. Conditions: named in each theorem.
  derive.Back, bastillelaw12.awake, the law DeriveTags: walks. Conditions: named in each theorem.
  derive.Key and bastilleref12.Key where no key comes: what each answers. Conditions: named in each theorem.
-/
import Derived.Test.YtgobodhcamgidaaDr4
import Derived.Test.YtgobodhcamgidaaDr5
import Derived.Test.YtgobodhcamgidaaDrT
import Derived.OpenShut
set_option linter.unusedVariables false
set_option linter.unusedSimpArgs false
namespace Go.Bas
def regS : ByteArray := ⟨#[114, 101, 103, 114, 101, 115, 115]⟩
def itemS : ByteArray := ⟨#[105, 116, 101, 109]⟩
theorem regS_info : ∀ i : Fin 8, catF 1 (fun _ => (7 : Int)) (strB regS) i.val = infoN i.val := by decide +kernel
theorem itemS_info : ∀ i : Fin 5, catF 1 (fun _ => (4 : Int)) (strB itemS) i.val = infoI i.val := by decide +kernel
/-- the state one older, and what items are sealed with. -/
def nextB (f : Nat → Int) : Nat → Int := tagB 32 f 8 infoN
def itemB (f : Nat → Int) : Nat → Int := tagB 32 f 5 infoI
theorem nextB_eq (f : Nat → Int) (lens : Nat → Nat) (g : Nat → Nat → Int) : tagB 32 f (infN regS.size lens 0) (infF regS.size (strB regS) lens g 0) = nextB f :=
  tagB_congr (fun _ _ => rfl) fun i hi => regS_info ⟨i, hi⟩
theorem itemB_eq (f : Nat → Int) (lens : Nat → Nat) (g : Nat → Nat → Int) : tagB 32 f (infN itemS.size lens 0) (infF itemS.size (strB itemS) lens g 0) = itemB f :=
  tagB_congr (fun _ _ => rfl) fun i hi => itemS_info ⟨i, hi⟩
theorem nextB_bound (f : Nat → Int) (i : Nat) : 0 ≤ nextB f i ∧ nextB f i < 256 := tagB_bound _ _ _ _ i
theorem itemB_bound (f : Nat → Int) (i : Nat) : 0 ≤ itemB f i ∧ itemB f i < 256 := tagB_bound _ _ _ _ i
end Go.Bas
namespace Go.Proofs.Ytgobodhcamgidaa
open Go.RowKit Go.Bas
attribute [local go_sem ↓] Go.wp_at_zero Go.wp_at_succ
theorem dKeyN (v : Value) (f : Nat → Int) (hf : ∀ i, i < 32 → 0 ≤ f i ∧ f i < 256) (w : World) (h : Rd .u8 w v 32 f) :
    Calls Try.prog 30 #[v, .string regS, .slice none 0 0] w fun e w' => e = .returned (.tuple #[.agg (arr .u8 32 (nextB f)), .int .i64 0]) ∧ Below w.heap.size w w' := by
  have := dKey_any v 32 f regS _ 0 (fun _ => 0) (fun _ _ => 0) w h (by decide) (by decide) hf (by decide) (Txt.nil _ _ _) (by decide) (fun j hj => by omega) (fun j hj => by omega)
  rwa [nextB_eq] at this
theorem dKeyI (v : Value) (f : Nat → Int) (hf : ∀ i, i < 32 → 0 ≤ f i ∧ f i < 256) (w : World) (h : Rd .u8 w v 32 f) :
    Calls Try.prog 30 #[v, .string itemS, .slice none 0 0] w fun e w' => e = .returned (.tuple #[.agg (arr .u8 32 (itemB f)), .int .i64 0]) ∧ Below w.heap.size w w' := by
  have := dKey_any v 32 f itemS _ 0 (fun _ => 0) (fun _ _ => 0) w h (by decide) (by decide) hf (by decide) (Txt.nil _ _ _) (by decide) (fun j hj => by omega) (fun j hj => by omega)
  rwa [itemB_eq] at this
theorem rdKeyN (v : Value) (f : Nat → Int) (hf : ∀ i, i < 32 → 0 ≤ f i ∧ f i < 256) (w : World) (h : Rd .u8 w v 32 f) :
    Calls Try.prog 31 #[v, .string regS, .slice none 0 0] w fun e w' => e = .returned (.tuple #[.agg (arr .u8 32 (nextB f)), .int .i64 0]) ∧ Below w.heap.size w w' := by
  have := rdKey_any v 32 f regS _ 0 (fun _ => 0) (fun _ _ => 0) w h (by decide) (by decide) hf (by decide) (Txt.nil _ _ _) (by decide) (fun j hj => by omega) (fun j hj => by omega)
  rwa [nextB_eq] at this
theorem rdKeyI (v : Value) (f : Nat → Int) (hf : ∀ i, i < 32 → 0 ≤ f i ∧ f i < 256) (w : World) (h : Rd .u8 w v 32 f) :
    Calls Try.prog 31 #[v, .string itemS, .slice none 0 0] w fun e w' => e = .returned (.tuple #[.agg (arr .u8 32 (itemB f)), .int .i64 0]) ∧ Below w.heap.size w w' := by
  have := rdKey_any v 32 f itemS _ 0 (fun _ => 0) (fun _ _ => 0) w h (by decide) (by decide) hf (by decide) (Txt.nil _ _ _) (by decide) (fun j hj => by omega) (fun j hj => by omega)
  rwa [itemB_eq] at this

set_option maxRecDepth 100000 in
set_option maxHeartbeats 1600000 in
theorem dNext_any (f : Nat → Int) (hf : ∀ i, i < 32 → 0 ≤ f i ∧ f i < 256) (w : World) :
    Calls Try.prog 33 #[.agg (arr .u8 32 f)] w fun e w' => e = .returned (.agg (arr .u8 32 (nextB f))) ∧ Below w.heap.size w w' := by
  obtain ⟨R, hR⟩ : ∃ R, R = nextB f := ⟨_, rfl⟩
  have HK := Lib.hid (fun v w h => dKeyN v f hf w h)
  rw [← hR] at HK ⊢
  clear hf hR
  go_enter Try.func33, Try.ntmps33
  go_upto_region 1 with (fail)
  refine wp_world (fun w1 => Arr .u8 w1 w.heap.size 32 f ∧ Arr .u8 w1 (w.heap.size + 1) 32 (fun _ => 0) ∧ Below w.heap.size w w1)
    ⟨Arr.alloc (Arr.newAt rfl rfl) _, Arr.newAt (by simp) (by rfl), ((Below.refl _ _).alloc (Nat.le_refl _) _).alloc (by simp) _⟩ ?_
  rintro w1 ⟨hA, hZ, hb1⟩
  go_wp2_with fail
  refine (HK.out _ _ (hA.rd (by decide))).mono ?_
  rintro e w2 ⟨rfl, hb2⟩
  have hZ2 := hZ.kept hb2
  have hbel := hb1.trans (hb2.mono hb1.size)
  have hzl := hZ2.lt
  clear hA hZ hb1 hb2
  go_upto_region 2 with (refine store_arr rfl 26 _ _ rfl .u8 w2.heap.size 32 (fun _ => 0) R Try.size26 rfl rfl (Arr.newAt rfl (by rfl)) ?_)
  refine wp_world (fun w3 => Arr .u8 w3 w2.heap.size 32 R ∧ Arr .u8 w3 (w.heap.size + 1) 32 (fun _ => 0) ∧ Below w.heap.size w w3)
    ⟨(Arr.newAt rfl (by rfl) : Arr .u8 _ _ 32 (fun _ => 0)).setRow _ _, Arr.setRowOther (Arr.alloc hZ2 _) _ (by omega) _, below_setRow' (hbel.alloc hbel.size _) hbel.size _⟩ ?_
  rintro w3 ⟨hA3, hZ3, hb3⟩
  obtain ⟨q, hq⟩ : ∃ q, q = w2.heap.size := ⟨_, rfl⟩
  rw [← hq] at hA3 ⊢
  clear hq hbel hZ2 hzl
  try simp only [Act.put, List.setIfInBounds_toArray, List.set_cons_succ, List.set_cons_zero]
  go_wp2_with (first
    | (refine load_arr rfl 26 _ rfl .u8 q 32 R 5 Try.underlying26 Try.size26 rfl hA3 ?_)
    | (refine store_arr rfl 26 _ _ rfl .u8 (w.heap.size + 1) 32 (fun _ => 0) R Try.size26 rfl rfl hZ3 ?_))
  exact bodyPost_ret (results_arr rfl _ _ .u8 (w.heap.size + 1) 32 _ 5 rfl (hZ3.setRow 32 R) Try.underlying26 Try.size26) rfl ⟨rfl, below_setRow' hb3 (by omega) _⟩

set_option maxRecDepth 100000 in
set_option maxHeartbeats 1600000 in
theorem dItem_any (f : Nat → Int) (hf : ∀ i, i < 32 → 0 ≤ f i ∧ f i < 256) (w : World) :
    Calls Try.prog 32 #[.agg (arr .u8 32 f)] w fun e w' => e = .returned (.agg (arr .u8 32 (itemB f))) ∧ Below w.heap.size w w' := by
  obtain ⟨R, hR⟩ : ∃ R, R = itemB f := ⟨_, rfl⟩
  have HK := Lib.hid (fun v w h => dKeyI v f hf w h)
  rw [← hR] at HK ⊢
  clear hf hR
  go_enter Try.func32, Try.ntmps32
  go_upto_region 1 with (fail)
  refine wp_world (fun w1 => Arr .u8 w1 w.heap.size 32 f ∧ Arr .u8 w1 (w.heap.size + 1) 32 (fun _ => 0) ∧ Below w.heap.size w w1)
    ⟨Arr.alloc (Arr.newAt rfl rfl) _, Arr.newAt (by simp) (by rfl), ((Below.refl _ _).alloc (Nat.le_refl _) _).alloc (by simp) _⟩ ?_
  rintro w1 ⟨hA, hZ, hb1⟩
  go_wp2_with fail
  refine (HK.out _ _ (hA.rd (by decide))).mono ?_
  rintro e w2 ⟨rfl, hb2⟩
  have hZ2 := hZ.kept hb2
  have hbel := hb1.trans (hb2.mono hb1.size)
  have hzl := hZ2.lt
  clear hA hZ hb1 hb2
  go_upto_region 2 with (refine store_arr rfl 26 _ _ rfl .u8 w2.heap.size 32 (fun _ => 0) R Try.size26 rfl rfl (Arr.newAt rfl (by rfl)) ?_)
  refine wp_world (fun w3 => Arr .u8 w3 w2.heap.size 32 R ∧ Arr .u8 w3 (w.heap.size + 1) 32 (fun _ => 0) ∧ Below w.heap.size w w3)
    ⟨(Arr.newAt rfl (by rfl) : Arr .u8 _ _ 32 (fun _ => 0)).setRow _ _, Arr.setRowOther (Arr.alloc hZ2 _) _ (by omega) _, below_setRow' (hbel.alloc hbel.size _) hbel.size _⟩ ?_
  rintro w3 ⟨hA3, hZ3, hb3⟩
  obtain ⟨q, hq⟩ : ∃ q, q = w2.heap.size := ⟨_, rfl⟩
  rw [← hq] at hA3 ⊢
  clear hq hbel hZ2 hzl
  try simp only [Act.put, List.setIfInBounds_toArray, List.set_cons_succ, List.set_cons_zero]
  go_wp2_with (first
    | (refine load_arr rfl 26 _ rfl .u8 q 32 R 5 Try.underlying26 Try.size26 rfl hA3 ?_)
    | (refine store_arr rfl 26 _ _ rfl .u8 (w.heap.size + 1) 32 (fun _ => 0) R Try.size26 rfl rfl hZ3 ?_))
  exact bodyPost_ret (results_arr rfl _ _ .u8 (w.heap.size + 1) 32 _ 5 rfl (hZ3.setRow 32 R) Try.underlying26 Try.size26) rfl ⟨rfl, below_setRow' hb3 (by omega) _⟩

set_option maxRecDepth 100000 in
set_option maxHeartbeats 1600000 in
theorem rNext_any (f : Nat → Int) (hf : ∀ i, i < 32 → 0 ≤ f i ∧ f i < 256) (w : World) :
    Calls Try.prog 34 #[.agg (arr .u8 32 f)] w fun e w' => e = .returned (.agg (arr .u8 32 (nextB f))) ∧ Below w.heap.size w w' := by
  obtain ⟨R, hR⟩ : ∃ R, R = nextB f := ⟨_, rfl⟩
  have HK := Lib.hid (fun v w h => rdKeyN v f hf w h)
  have HBY := Lib.hid (fun w => rBytes32_any f hf w)
  rw [← hR] at HK ⊢
  clear hf hR
  go_enter Try.func34, Try.ntmps34
  go_upto_region 1 with (fail)
  refine wp_world (fun w1 => Arr .u8 w1 w.heap.size 32 f ∧ Arr .u8 w1 (w.heap.size + 1) 32 (fun _ => 0) ∧ Below w.heap.size w w1)
    ⟨Arr.alloc (Arr.newAt rfl rfl) _, Arr.newAt (by simp) (by rfl), ((Below.refl _ _).alloc (Nat.le_refl _) _).alloc (by simp) _⟩ ?_
  rintro w1 ⟨hA, hZ, hb1⟩
  go_wp2_with (refine load_arr rfl 26 _ rfl .u8 w.heap.size 32 f 5 Try.underlying26 Try.size26 rfl hA ?_)
  refine (HBY.out _).mono ?_
  rintro e wx ⟨v, rfl, hov, hbx⟩
  go_wp2_with fail
  refine (HK.out _ _ hov.rd).mono ?_
  rintro e w2 ⟨rfl, hb2x⟩
  have hb2 : Below w1.heap.size w1 w2 := hbx.trans (hb2x.mono hbx.size)
  clear hbx hb2x hov
  have hZ2 := hZ.kept hb2
  have hbel := hb1.trans (hb2.mono hb1.size)
  have hzl := hZ2.lt
  clear hA hZ hb1 hb2
  go_upto_region 2 with (refine store_arr rfl 26 _ _ rfl .u8 w2.heap.size 32 (fun _ => 0) R Try.size26 rfl rfl (Arr.newAt rfl (by rfl)) ?_)
  refine wp_world (fun w3 => Arr .u8 w3 w2.heap.size 32 R ∧ Arr .u8 w3 (w.heap.size + 1) 32 (fun _ => 0) ∧ Below w.heap.size w w3)
    ⟨(Arr.newAt rfl (by rfl) : Arr .u8 _ _ 32 (fun _ => 0)).setRow _ _, Arr.setRowOther (Arr.alloc hZ2 _) _ (by omega) _, below_setRow' (hbel.alloc hbel.size _) hbel.size _⟩ ?_
  rintro w3 ⟨hA3, hZ3, hb3⟩
  obtain ⟨q, hq⟩ : ∃ q, q = w2.heap.size := ⟨_, rfl⟩
  rw [← hq] at hA3 ⊢
  clear hq hbel hZ2 hzl
  try simp only [Act.put, List.setIfInBounds_toArray, List.set_cons_succ, List.set_cons_zero]
  go_wp2_with (first
    | (refine load_arr rfl 26 _ rfl .u8 q 32 R 5 Try.underlying26 Try.size26 rfl hA3 ?_)
    | (refine store_arr rfl 26 _ _ rfl .u8 (w.heap.size + 1) 32 (fun _ => 0) R Try.size26 rfl rfl hZ3 ?_))
  exact bodyPost_ret (results_arr rfl _ _ .u8 (w.heap.size + 1) 32 _ 5 rfl (hZ3.setRow 32 R) Try.underlying26 Try.size26) rfl ⟨rfl, below_setRow' hb3 (by omega) _⟩
end Go.Proofs.Ytgobodhcamgidaa
namespace Go.Bas
def nextI (f : Nat → Int) : Nat → Nat → Int
  | 0 => f
  | n + 1 => nextB (nextI f n)
theorem nextI_bound {f : Nat → Int} (h : ∀ i, i < 32 → 0 ≤ f i ∧ f i < 256) : ∀ n i, i < 32 → 0 ≤ nextI f n i ∧ nextI f n i < 256
  | 0 => h
  | _ + 1 => fun i _ => nextB_bound _ i
theorem nextI_add (f : Nat → Int) (a : Nat) : ∀ b, nextI (nextI f a) b = nextI f (a + b)
  | 0 => rfl
  | b + 1 => by rw [nextI, nextI_add f a b, ← Nat.add_assoc, nextI]
end Go.Bas
namespace Go.Proofs.Ytgobodhcamgidaa
open Go.RowKit Go.Bas Go.ChangeShapes
attribute [local go_sem ↓] Go.wp_at_zero Go.wp_at_succ

set_option maxRecDepth 100000 in
set_option maxHeartbeats 3200000 in
theorem dBack_any (f : Nat → Int) (hf : ∀ i, i < 32 → 0 ≤ f i ∧ f i < 256) (n : Nat) (hn : n ≤ 4096) (w : World) :
    Calls Try.prog 35 #[.agg (arr .u8 32 f), .int .i64 n] w fun e w' => e = .returned (.tuple #[.agg (arr .u8 32 (nextI f n)), .int .i64 0]) ∧ Below w.heap.size w w' := by
  have HNX : Hid (∀ k w, Calls Try.prog 33 #[.agg (arr .u8 32 (nextI f k))] w fun e w' => e = .returned (.agg (arr .u8 32 (nextI f (k + 1)))) ∧ Below w.heap.size w w') := fun k w => dNext_any (nextI f k) (nextI_bound hf k) w
  have H0 : Hid (f = nextI f 0) := rfl
  obtain ⟨NX, hNX⟩ : ∃ NX, NX = nextI f := ⟨_, rfl⟩
  rw [← hNX] at HNX H0 ⊢
  clear hNX hf
  go_enter Try.func35, Try.ntmps35
  go_upto_region 1 with (fail)
  refine wp_world (fun w1 => Arr .u8 w1 w.heap.size 32 (NX 0) ∧ Arr .u8 w1 (w.heap.size + 1) 32 (fun _ => 0) ∧ Below w.heap.size w w1)
    ⟨Arr.alloc (Arr.newAt rfl (by rw [← H0.out])) _, Arr.newAt (by simp) (by rfl), ((Below.refl _ _).alloc (Nat.le_refl _) _).alloc (by simp) _⟩ ?_
  rintro w1 ⟨hA, hZ, hb1⟩
  refine region_flow (n := 20) (by kernel_rfl) (by kernel_rfl) (by kernel_rfl) rfl
    (fun ii vv _ => (match ii with | 0 | 3 => vv = .int .i64 ((n : Int)) | 1 | 2 | 4 | 5 => vv = .bool false | _ => True))
    (fun w w' => Below w.heap.size w w') (fun _ _ h => h) (fun _ _ _ _ h _ => h) ?_ ?_
  · refine Each.all ?_
    refine ⟨?_, ?_, ?_, ?_, ?_, ?_, trivial⟩
    · intro a w2 hB hF hd
      rw [if_pos (wanted_none rfl)]
      exact flow_move _ (.inl rfl) (by simp) (hF.same 1 rfl)
    · intro a w2 hB hF hd
      rw [if_pos (wanted_none rfl)]
      exact flow_val (fun h => by cases h) (Go.Bas.run_lss rfl (hd 0 _ rfl (waits_spec rfl)) rfl) (congrArg Value.bool (decide_eq_false (by omega)))
    · intro a w2 hB hF hd
      rw [if_pos (wanted_none rfl)]
      exact flow_move _ (.inl rfl) (by simp) (hd 1 _ rfl (waits_spec rfl))
    · intro a w2 hB hF hd
      refine flow_wanted (wanted_yes rfl rfl (hd 2 _ rfl (waits_spec rfl)) rfl) ?_
      exact flow_move _ (.inl rfl) (by simp) (hF.same 1 rfl)
    · intro a w2 hB hF hd
      refine flow_wanted (wanted_yes rfl rfl (hd 2 _ rfl (waits_spec rfl)) rfl) ?_
      exact flow_val (fun h => by cases h) (Go.Bas.run_gtr rfl (hd 3 _ rfl (waits_spec rfl)) rfl) (congrArg Value.bool (decide_eq_false (by omega)))
    · intro a w2 hB hF hd
      rw [if_pos (wanted_none rfl)]
      exact flow_val (fun h => by cases h) (run_pick rfl (hd 2 _ rfl (waits_spec rfl))) ((hd 4 _ rfl (waits_spec rfl)))
  · intro a w2 hB hF hS
    have ha := puts_each rfl rfl hF [_, _, _, _, _, _] rfl ⟨hS 0 _ rfl, hS 1 _ rfl, hS 2 _ rfl, hS 3 _ rfl, hS 4 _ rfl, hS 5 _ rfl, trivial⟩
    simp only [puts, Act.put, List.setIfInBounds_toArray, List.set_cons_succ, List.set_cons_zero] at ha
    subst ha
    clear hS hF
    have hb2 := hb1.trans (hB.mono hb1.size)
    have hA2 := hA.kept hB
    have hZ2 := hZ.kept hB
    clear hA hZ hb1 hB
    go_wp2
    go_loopw [14] (fun u wr => ∃ k : Nat, k ≤ n ∧ u = .int .i64 (k : Int) ∧ Arr .u8 wr w.heap.size 32 (NX k) ∧ Arr .u8 wr (w.heap.size + 1) 32 (fun _ => 0) ∧ Below w.heap.size w wr) (fun u _ => n - (intOf u).toNat)
    case atStart => exact ⟨0, Nat.zero_le _, rfl, hA2, hZ2, hb2⟩
    case round =>
      clear hA2 hZ2 hb2
      obtain ⟨k, hk, rfl, hA, hZ, hbel⟩ := hrel
      by_cases hlt : k < n
      · have HCON := Lib.hid (fun w => HNX.out k w)
        go_wp2_with (refine load_arr rfl 26 _ rfl .u8 w.heap.size 32 _ 5 Try.underlying26 Try.size26 rfl hA ?_)
        refine (HCON.out _).mono ?_
        rintro e w3 ⟨rfl, hb3⟩
        have hA3 := hA.kept hb3
        have hZ3 := hZ.kept hb3
        have hbel3 := hbel.trans (hb3.mono hbel.size)
        have hA4 := hA3.setRow 32 (NX (k + 1))
        have hZ4 := hZ3.setRowOther w.heap.size (by omega) (arr .u8 32 (NX (k + 1)))
        have hb4 := below_setRow' hbel3 (Nat.le_refl _) (arr .u8 32 (NX (k + 1)))
        have HA3 := Lib.hid hA3
        clear hA hZ hb3 hbel hA3 hZ3 hbel3
        go_wp2_with (refine store_arr rfl 26 _ _ rfl .u8 w.heap.size 32 _ (NX (k + 1)) Try.size26 rfl rfl HA3.out ?_)
        go_roundw
        case rel => first | exact ⟨k + 1, by omega, by go_num, hA4, hZ4, hb4⟩ | ((repeat apply Exists.intro); exact ⟨⟨k + 1, by omega, by go_num, hA4, hZ4, hb4⟩, rfl⟩)
        case measure => simp [intOf] <;> omega
      · obtain rfl : k = n := by omega
        go_wp2_with (first
          | (refine load_arr rfl 26 _ rfl .u8 w.heap.size 32 (NX k) 5 Try.underlying26 Try.size26 rfl hA ?_)
          | (refine store_arr rfl 26 _ _ rfl .u8 (w.heap.size + 1) 32 (fun _ => 0) (NX k) Try.size26 rfl rfl hZ ?_))
        exact bodyPost_ret (results_arr2 rfl _ _ .u8 (w.heap.size + 1) 32 _ 5 rfl (hZ.setRow 32 (NX k)) Try.underlying26 Try.size26) rfl ⟨rfl, below_setRow' hbel (by omega) _⟩
theorem build_s5 {a : Act} (w : World) : (Instr.build 26 ((#[(0, Operand.const (Value.int .u8 5))] : Array (Nat × Operand)).map fun (i, x) => (i, a.eval x))).run Try.prog w = .ok (.agg (arr .u8 32 key5)) w := by
  simp only [List.map_toArray, List.map_cons, List.map_nil, Act.eval]
  rw [Go.run_build w _ _ (arr .u8 32 key5) (by kernel_rfl)]

set_option maxRecDepth 100000 in
set_option maxHeartbeats 3200000 in
theorem drAwake_any (w : World) : Calls Try.prog 27 #[] w fun e w' => e = .returned (.bool true) ∧ Below w.heap.size w w' := by
  have hkb : ∀ i, i < 32 → 0 ≤ key5 i ∧ key5 i < 256 := fun i _ => by unfold key5; split <;> decide
  have HBK := Lib.hid (fun w => dBack_any key5 hkb 0 (by decide) w)
  have HNX := Lib.hid (fun w => dNext_any key5 hkb w)
  have HIT := Lib.hid (fun w => dItem_any key5 hkb w)
  obtain ⟨K, hK⟩ : ∃ K, K = key5 := ⟨_, rfl⟩
  have e0 : nextI key5 0 = key5 := rfl
  rw [e0] at HBK
  have HN : Hid (nextB key5 0 = 169) := tN_tag
  have HI : Hid (itemB key5 0 = 58) := tI_tag
  have HB5 : Hid (∀ (a : Act) w, (Instr.build 26 ((#[(0, Operand.const (Value.int .u8 5))] : Array (Nat × Operand)).map fun (i, x) => (i, a.eval x))).run Try.prog w = .ok (.agg (arr .u8 32 key5)) w) := fun a w => build_s5 w
  have HK0 : Hid (key5 0 = 5) := rfl
  rw [← hK] at HBK HNX HIT HN HI HB5 HK0
  obtain ⟨NB, hNB⟩ : ∃ NB, NB = nextB K := ⟨_, rfl⟩
  obtain ⟨IB, hIB⟩ : ∃ IB, IB = itemB K := ⟨_, rfl⟩
  rw [← hNB] at HNX HN
  rw [← hIB] at HIT HI
  clear hkb e0 hK hNB hIB
  go_enter Try.func27, Try.ntmps27
  go_wp2_with (refine step_val rfl (run_built rfl (HB5.out _ _)) ?_)
  refine (HBK.out _).mono ?_
  rintro e w2 ⟨rfl, hb2⟩
  go_upto_region 2 with (refine store_arr rfl 26 _ _ rfl .u8 w2.heap.size 32 (fun _ => 0) K Try.size26 rfl rfl (Arr.newAt rfl (by rfl)) ?_)
  refine wp_world (fun w3 => Arr .u8 w3 w2.heap.size 32 K ∧ Below w.heap.size w w3) ⟨(Arr.newAt rfl (by rfl) : Arr .u8 _ _ 32 (fun _ => 0)).setRow _ _, below_setRow' (hb2.alloc hb2.size _) hb2.size _⟩ ?_
  rintro w3 ⟨hA, hb3⟩
  obtain ⟨q, hq⟩ : ∃ q, q = w2.heap.size := ⟨_, rfl⟩
  rw [← hq] at hA ⊢
  clear hq hb2
  try simp only [Act.put, List.setIfInBounds_toArray, List.set_cons_succ, List.set_cons_zero]
  have HK32 := Lib.hid (fun (a : Act) w => build_k32 (a := a) w)
  refine region_flow (n := 27) (by kernel_rfl) (by kernel_rfl) (by kernel_rfl) rfl
    (fun ii vv _ => (match ii with | 0 => vv = .int .i64 (0) | 1 | 2 | 5 | 6 | 7 | 11 | 12 | 13 | 17 | 18 | 19 => vv = .bool true | 3 | 4 | 8 | 10 | 14 => vv = .agg (arr .u8 32 (K)) | 9 => vv = .agg (arr .u8 32 (NB)) | 15 => vv = .agg (arr .u8 32 (IB)) | 16 => vv = .agg (arr .u8 32 (fun _ => 0)) | _ => True))
    (fun w w' => Below w.heap.size w w') (fun _ _ h => h) (fun _ _ _ _ h _ => h) ?_ ?_
  · refine Each.all ?_
    refine ⟨?_, ?_, ?_, ?_, ?_, ?_, ?_, ?_, ?_, ?_, ?_, ?_, ?_, ?_, ?_, ?_, ?_, ?_, ?_, ?_, trivial⟩
    · intro a w2 hB hF hd
      rw [if_pos (wanted_none rfl)]
      exact flow_move _ (.inl rfl) (by simp) (hF.same 2 rfl)
    · intro a w2 hB hF hd
      rw [if_pos (wanted_none rfl)]
      refine flow_val (fun h => by cases h) (Go.Bas.run_eql_int rfl (hd 0 _ rfl (waits_spec rfl)) rfl) ?_
      exact rfl
    · intro a w2 hB hF hd
      rw [if_pos (wanted_none rfl)]
      exact flow_move _ (.inl rfl) (by simp) (hd 1 _ rfl (waits_spec rfl))
    · intro a w2 hB hF hd
      refine flow_wanted (wanted_yes rfl rfl (hd 2 _ rfl (waits_spec rfl)) rfl) ?_
      exact flow_val (fun h => by cases h) (run_load_str rfl Try.underlying26 rfl Try.size26 (hF.same 1 rfl) (hA.below hB hA.lt)) rfl
    · intro a w2 hB hF hd
      refine flow_wanted (wanted_yes rfl rfl (hd 2 _ rfl (waits_spec rfl)) rfl) ?_
      exact flow_val (fun h => by cases h) (run_built rfl (HB5.out _ _)) rfl
    · intro a w2 hB hF hd
      refine flow_wanted (wanted_yes rfl rfl (hd 2 _ rfl (waits_spec rfl)) rfl) ?_
      exact flow_val (fun h => by cases h) (run_eql_arr true rfl (hd 3 _ rfl (waits_spec rfl)) (hd 4 _ rfl (waits_spec rfl)) Try.underlying26 (by kernel_rfl) (by kernel_rfl) (by kernel_rfl) (by kernel_rfl) (by kernel_rfl) sameB_self) rfl
    · intro a w2 hB hF hd
      rw [if_pos (wanted_none rfl)]
      exact flow_val (fun h => by cases h) (run_pick rfl (hd 2 _ rfl (waits_spec rfl))) ((hd 5 _ rfl (waits_spec rfl)))
    · intro a w2 hB hF hd
      rw [if_pos (wanted_none rfl)]
      exact flow_move _ (.inl rfl) (by simp) (hd 6 _ rfl (waits_spec rfl))
    · intro a w2 hB hF hd
      refine flow_wanted (wanted_yes rfl rfl (hd 7 _ rfl (waits_spec rfl)) rfl) ?_
      exact flow_val (fun h => by cases h) (run_load_str rfl Try.underlying26 rfl Try.size26 (hF.same 1 rfl) (hA.below hB hA.lt)) rfl
    · intro a w2 hB hF hd
      refine flow_wanted (wanted_yes rfl rfl (hd 7 _ rfl (waits_spec rfl)) rfl) ?_
      refine flow_call _ _ _ rfl Try.call33 _ (args1 (hd 8 _ rfl (waits_spec rfl))) (by simp) ((HNX.out _).mono ?_)
      rintro e w3 ⟨rfl, hb⟩; exact ⟨_, rfl, rfl, hb⟩
    · intro a w2 hB hF hd
      refine flow_wanted (wanted_yes rfl rfl (hd 7 _ rfl (waits_spec rfl)) rfl) ?_
      exact flow_val (fun h => by cases h) (run_load_str rfl Try.underlying26 rfl Try.size26 (hF.same 1 rfl) (hA.below hB hA.lt)) rfl
    · intro a w2 hB hF hd
      refine flow_wanted (wanted_yes rfl rfl (hd 7 _ rfl (waits_spec rfl)) rfl) ?_
      exact flow_val (fun h => by cases h) (run_neq_arr false rfl (hd 9 _ rfl (waits_spec rfl)) (hd 10 _ rfl (waits_spec rfl)) Try.underlying26 (by kernel_rfl) (by kernel_rfl) (by kernel_rfl) (by kernel_rfl) (by kernel_rfl) (sameB_no fun h => by have := h 0 (by decide); rw [HN.out, HK0.out] at this; exact absurd this (by decide))) rfl
    · intro a w2 hB hF hd
      rw [if_pos (wanted_none rfl)]
      exact flow_val (fun h => by cases h) (run_pick rfl (hd 7 _ rfl (waits_spec rfl))) ((hd 11 _ rfl (waits_spec rfl)))
    · intro a w2 hB hF hd
      rw [if_pos (wanted_none rfl)]
      exact flow_move _ (.inl rfl) (by simp) (hd 12 _ rfl (waits_spec rfl))
    · intro a w2 hB hF hd
      refine flow_wanted (wanted_yes rfl rfl (hd 13 _ rfl (waits_spec rfl)) rfl) ?_
      exact flow_val (fun h => by cases h) (run_load_str rfl Try.underlying26 rfl Try.size26 (hF.same 1 rfl) (hA.below hB hA.lt)) rfl
    · intro a w2 hB hF hd
      refine flow_wanted (wanted_yes rfl rfl (hd 13 _ rfl (waits_spec rfl)) rfl) ?_
      refine flow_call _ _ _ rfl Try.call32 _ (args1 (hd 14 _ rfl (waits_spec rfl))) (by simp) ((HIT.out _).mono ?_)
      rintro e w3 ⟨rfl, hb⟩; exact ⟨_, rfl, rfl, hb⟩
    · intro a w2 hB hF hd
      refine flow_wanted (wanted_yes rfl rfl (hd 13 _ rfl (waits_spec rfl)) rfl) ?_
      exact flow_val (fun h => by cases h) (run_built rfl (HK32.out _ _)) rfl
    · intro a w2 hB hF hd
      refine flow_wanted (wanted_yes rfl rfl (hd 13 _ rfl (waits_spec rfl)) rfl) ?_
      exact flow_val (fun h => by cases h) (run_neq_arr false rfl (hd 15 _ rfl (waits_spec rfl)) (hd 16 _ rfl (waits_spec rfl)) Try.underlying26 (by kernel_rfl) (by kernel_rfl) (by kernel_rfl) (by kernel_rfl) (by kernel_rfl) (sameB_no fun h => by have := h 0 (by decide); rw [HI.out] at this; exact absurd this (by decide))) rfl
    · intro a w2 hB hF hd
      rw [if_pos (wanted_none rfl)]
      exact flow_val (fun h => by cases h) (run_pick rfl (hd 13 _ rfl (waits_spec rfl))) ((hd 17 _ rfl (waits_spec rfl)))
    · intro a w2 hB hF hd
      rw [if_pos (wanted_none rfl)]
      exact flow_move _ (.inr rfl) (by simp) (hd 18 _ rfl (waits_spec rfl))
  · intro a w4 hB hF hS
    have ha := puts_each rfl rfl hF [_, _, _, _, _, _, _, _, _, _, _, _, _, _, _, _, _, _, _, _] rfl ⟨hS 0 _ rfl, hS 1 _ rfl, hS 2 _ rfl, hS 3 _ rfl, hS 4 _ rfl, hS 5 _ rfl, hS 6 _ rfl, hS 7 _ rfl, hS 8 _ rfl, hS 9 _ rfl, hS 10 _ rfl, hS 11 _ rfl, hS 12 _ rfl, hS 13 _ rfl, hS 14 _ rfl, hS 15 _ rfl, hS 16 _ rfl, hS 17 _ rfl, hS 18 _ rfl, hS 19 _ rfl, trivial⟩
    simp only [puts, Act.put, List.setIfInBounds_toArray, List.set_cons_succ, List.set_cons_zero] at ha
    subst ha
    clear hS hF
    have hb4 := hb3.trans (hB.mono hb3.size)
    go_wp2
    go_ret
    exact ⟨rfl, hb4⟩
end Go.Proofs.Ytgobodhcamgidaa
namespace Go.Proofs.Ytgobodhcamgidaa
open Go.RowKit Go.Bas
attribute [local go_sem ↓] Go.wp_at_zero Go.wp_at_succ

set_option maxRecDepth 100000 in
set_option maxHeartbeats 1600000 in
theorem dKey_none (vf : Value) (from_ : Nat → Int) (s : ByteArray) (vc : Value) (w : World) (hf : Rd .u8 w vf 0 from_) :
    Calls Try.prog 30 #[vf, .string s, vc] w fun e w' => e = .returned (.tuple #[.agg (arr .u8 32 (fun _ => 0)), .int .i64 20]) ∧ Below w.heap.size w w' := by
  obtain ⟨fa, fc, rfl, f1, f2, _, _⟩ := hf
  have HK32 := Lib.hid (fun (a : Act) w => build_k32 (a := a) w)
  go_enter Try.func30, Try.ntmps30
  go_upto_region 1 with (fail)
  refine wp_world (fun w1 => Arr .u8 w1 w.heap.size 32 (fun _ => 0) ∧ Below w.heap.size w w1) ⟨Arr.newAt rfl (by rfl), (Below.refl _ _).alloc (Nat.le_refl _) _⟩ ?_
  rintro w1 ⟨hZ, hb1⟩
  go_wp2_with (first
    | (refine step_val rfl (run_built rfl (HK32.out _ _)) ?_)
    | (refine store_arr rfl 26 _ _ rfl .u8 w.heap.size 32 (fun _ => 0) (fun _ => 0) Try.size26 rfl rfl hZ ?_))
  exact bodyPost_ret (results_arr2 rfl _ _ .u8 w.heap.size 32 _ 5 rfl (hZ.setRow 32 (fun _ => 0)) Try.underlying26 Try.size26) rfl ⟨rfl, below_setRow' hb1 (Nat.le_refl _) _⟩

set_option maxRecDepth 100000 in
set_option maxHeartbeats 1600000 in
theorem rdKey_none (vf : Value) (from_ : Nat → Int) (s : ByteArray) (vc : Value) (w : World) (hf : Rd .u8 w vf 0 from_) :
    Calls Try.prog 31 #[vf, .string s, vc] w fun e w' => e = .returned (.tuple #[.agg (arr .u8 32 (fun _ => 0)), .int .i64 20]) ∧ Below w.heap.size w w' := by
  obtain ⟨fa, fc, rfl, f1, f2, _, _⟩ := hf
  go_enter Try.func31, Try.ntmps31
  go_upto_region 2 with (fail)
  refine wp_world (fun w1 => Arr .u8 w1 w.heap.size 32 (fun _ => 0) ∧ Arr .u8 w1 (w.heap.size + 1) 32 (fun _ => 0) ∧ Below w.heap.size w w1)
    ⟨Arr.alloc (Arr.newAt rfl (by rfl)) _, Arr.newAt (by simp) (by rfl), ((Below.refl _ _).alloc (Nat.le_refl _) _).alloc (by simp) _⟩ ?_
  rintro w1 ⟨hZ, hO, hb1⟩
  go_wp2_with (first
    | (refine load_arr rfl 26 _ rfl .u8 (w.heap.size + 1) 32 (fun _ => 0) 5 Try.underlying26 Try.size26 rfl hO ?_)
    | (refine store_arr rfl 26 _ _ rfl .u8 w.heap.size 32 (fun _ => 0) (fun _ => 0) Try.size26 rfl rfl hZ ?_))
  exact bodyPost_ret (results_arr2 rfl _ _ .u8 w.heap.size 32 _ 5 rfl (hZ.setRow 32 (fun _ => 0)) Try.underlying26 Try.size26) rfl ⟨rfl, below_setRow' hb1 (Nat.le_refl _) _⟩

set_option maxRecDepth 100000 in
set_option maxHeartbeats 3200000 in
theorem dKey_lim (vf : Value) (nf : Nat) (from_ : Nat → Int) (s : ByteArray) (vc : Value) (m : Nat) (lens : Nat → Nat) (g : Nat → Nat → Int) (w : World) (hf : Rd .u8 w vf nf from_) (hf0 : 0 < nf) (hc : Txt w vc m lens g) (h : 64 < s.size ∨ 16 < m) :
    Calls Try.prog 30 #[vf, .string s, vc] w fun e w' => e = .returned (.tuple #[.agg (arr .u8 32 (fun _ => 0)), .int .i64 3]) ∧ Below w.heap.size w w' := by
  have hcase : 64 < s.size ∨ (s.size ≤ 64 ∧ 16 < m) := by omega
  clear h
  obtain ⟨fa, fc, rfl, f1, f2, _, _⟩ := hf
  obtain ⟨ca, cc, rfl, c1, c2, _⟩ := hc
  have HK32 := Lib.hid (fun (a : Act) w => build_k32 (a := a) w)
  have hnf : ((nf : Int) == 0) = false := by simp; omega
  rcases hcase with h | h
  case' inl => have B1 : Hid (decide ((64 : Int) < (s.size : Int)) = true) := decide_eq_true (by omega)
  case' inr => have B1 : Hid (decide ((64 : Int) < (s.size : Int)) = false) := decide_eq_false (by omega)
  case' inr => have B2 : Hid (decide ((16 : Int) < (m : Int)) = true) := decide_eq_true (by omega)
  case inl =>
    clear h
    go_enter Try.func30, Try.ntmps30
    go_upto_region 1 with (fail)
    refine wp_world (fun w1 => Arr .u8 w1 w.heap.size 32 (fun _ => 0) ∧ Below w.heap.size w w1) ⟨Arr.newAt rfl (by rfl), (Below.refl _ _).alloc (Nat.le_refl _) _⟩ ?_
    rintro w1 ⟨hZ, hb1⟩
    go_upto_region 4 with (fail)
    refine region_flow (n := 64) (by kernel_rfl) (by kernel_rfl) (by kernel_rfl) rfl
      (fun ii vv _ => (match ii with | 0 => vv = .string s | 1 => vv = .int .i64 ((s.size : Int)) | 2 | 3 | 7 | 8 | 12 => vv = .bool true | 4 | 5 | 6 | 9 | 10 | 11 => vv = undef | _ => True))
      (fun w w' => Below w.heap.size w w') (fun _ _ h => h) (fun _ _ _ _ h _ => h) ?_ ?_
    · refine Each.all ?_
      refine ⟨?_, ?_, ?_, ?_, ?_, ?_, ?_, ?_, ?_, ?_, ?_, ?_, ?_, trivial⟩
      · intro a w2 hB hF hd
        rw [if_pos (wanted_none rfl)]
        exact flow_move _ (.inl rfl) (by simp) (hF.same 1 rfl)
      · intro a w2 hB hF hd
        rw [if_pos (wanted_none rfl)]
        exact flow_val (fun h => by cases h) (run_len_str rfl (hd 0 _ rfl (waits_spec rfl)) Try.underlying9) rfl
      · intro a w2 hB hF hd
        rw [if_pos (wanted_none rfl)]
        exact flow_val (fun h => by cases h) (Go.Bas.run_gtr rfl (hd 1 _ rfl (waits_spec rfl)) rfl) (congrArg Value.bool (B1.out))
      · intro a w2 hB hF hd
        rw [if_pos (wanted_none rfl)]
        exact flow_move _ (.inl rfl) (by simp) (hd 2 _ rfl (waits_spec rfl))
      · intro a w2 hB hF hd
        rw [if_neg (by rw [wanted_some rfl rfl (hd 3 _ rfl (waits_spec rfl))]; decide)]
        exact rfl
      · intro a w2 hB hF hd
        rw [if_neg (by rw [wanted_some rfl rfl (hd 3 _ rfl (waits_spec rfl))]; decide)]
        exact rfl
      · intro a w2 hB hF hd
        rw [if_neg (by rw [wanted_some rfl rfl (hd 3 _ rfl (waits_spec rfl))]; decide)]
        exact rfl
      · intro a w2 hB hF hd
        rw [if_pos (wanted_none rfl)]
        exact flow_val (fun h => by cases h) (run_pick rfl (hd 3 _ rfl (waits_spec rfl))) (rfl)
      · intro a w2 hB hF hd
        rw [if_pos (wanted_none rfl)]
        exact flow_move _ (.inl rfl) (by simp) (hd 7 _ rfl (waits_spec rfl))
      · intro a w2 hB hF hd
        rw [if_neg (by rw [wanted_some rfl rfl (hd 8 _ rfl (waits_spec rfl))]; decide)]
        exact rfl
      · intro a w2 hB hF hd
        rw [if_neg (by rw [wanted_some rfl rfl (hd 8 _ rfl (waits_spec rfl))]; decide)]
        exact rfl
      · intro a w2 hB hF hd
        rw [if_neg (by rw [wanted_some rfl rfl (hd 8 _ rfl (waits_spec rfl))]; decide)]
        exact rfl
      · intro a w2 hB hF hd
        rw [if_pos (wanted_none rfl)]
        exact flow_val (fun h => by cases h) (run_pick rfl (hd 8 _ rfl (waits_spec rfl))) (rfl)
    · intro a w2 hB hF hS
      have ha := puts_each rfl rfl hF [_, _, _, _, _, _, _, _, _, _, _, _, _] rfl ⟨hS 0 _ rfl, hS 1 _ rfl, hS 2 _ rfl, hS 3 _ rfl, hS 4 _ rfl, hS 5 _ rfl, hS 6 _ rfl, hS 7 _ rfl, hS 8 _ rfl, hS 9 _ rfl, hS 10 _ rfl, hS 11 _ rfl, hS 12 _ rfl, trivial⟩
      simp only [puts, Act.put, List.setIfInBounds_toArray, List.set_cons_succ, List.set_cons_zero] at ha
      subst ha
      clear hS hF
      have hb2 := hb1.trans (hB.mono hb1.size)
      have hZ2 := hZ.kept hB
      clear hB hZ hb1
      go_wp2_with (first
        | (refine step_val rfl (run_built rfl (HK32.out _ _)) ?_)
        | (refine store_arr rfl 26 _ _ rfl .u8 w.heap.size 32 (fun _ => 0) (fun _ => 0) Try.size26 rfl rfl hZ2 ?_))
      exact bodyPost_ret (results_arr2 rfl _ _ .u8 w.heap.size 32 _ 5 rfl (hZ2.setRow 32 (fun _ => 0)) Try.underlying26 Try.size26) rfl ⟨rfl, below_setRow' hb2 (Nat.le_refl _) _⟩
  case inr =>
    clear h
    go_enter Try.func30, Try.ntmps30
    go_upto_region 1 with (fail)
    refine wp_world (fun w1 => Arr .u8 w1 w.heap.size 32 (fun _ => 0) ∧ Below w.heap.size w w1) ⟨Arr.newAt rfl (by rfl), (Below.refl _ _).alloc (Nat.le_refl _) _⟩ ?_
    rintro w1 ⟨hZ, hb1⟩
    go_upto_region 4 with (fail)
    refine region_flow (n := 64) (by kernel_rfl) (by kernel_rfl) (by kernel_rfl) rfl
      (fun ii vv _ => (match ii with | 0 => vv = .string s | 1 => vv = .int .i64 ((s.size : Int)) | 2 | 3 => vv = .bool false | 4 => vv = .slice ca m cc | 5 => vv = .int .i64 ((m : Int)) | 6 | 7 | 8 | 12 => vv = .bool true | 9 | 10 | 11 => vv = undef | _ => True))
      (fun w w' => Below w.heap.size w w') (fun _ _ h => h) (fun _ _ _ _ h _ => h) ?_ ?_
    · refine Each.all ?_
      refine ⟨?_, ?_, ?_, ?_, ?_, ?_, ?_, ?_, ?_, ?_, ?_, ?_, ?_, trivial⟩
      · intro a w2 hB hF hd
        rw [if_pos (wanted_none rfl)]
        exact flow_move _ (.inl rfl) (by simp) (hF.same 1 rfl)
      · intro a w2 hB hF hd
        rw [if_pos (wanted_none rfl)]
        exact flow_val (fun h => by cases h) (run_len_str rfl (hd 0 _ rfl (waits_spec rfl)) Try.underlying9) rfl
      · intro a w2 hB hF hd
        rw [if_pos (wanted_none rfl)]
        exact flow_val (fun h => by cases h) (Go.Bas.run_gtr rfl (hd 1 _ rfl (waits_spec rfl)) rfl) (congrArg Value.bool (B1.out))
      · intro a w2 hB hF hd
        rw [if_pos (wanted_none rfl)]
        exact flow_move _ (.inl rfl) (by simp) (hd 2 _ rfl (waits_spec rfl))
      · intro a w2 hB hF hd
        refine flow_wanted (wanted_yes rfl rfl (hd 3 _ rfl (waits_spec rfl)) rfl) ?_
        exact flow_move _ (.inl rfl) (by simp) (hF.same 2 rfl)
      · intro a w2 hB hF hd
        refine flow_wanted (wanted_yes rfl rfl (hd 3 _ rfl (waits_spec rfl)) rfl) ?_
        exact flow_val (fun h => by cases h) (run_len_sl rfl (hd 4 _ rfl (waits_spec rfl)) Try.underlying52) rfl
      · intro a w2 hB hF hd
        refine flow_wanted (wanted_yes rfl rfl (hd 3 _ rfl (waits_spec rfl)) rfl) ?_
        exact flow_val (fun h => by cases h) (Go.Bas.run_gtr rfl (hd 5 _ rfl (waits_spec rfl)) rfl) (congrArg Value.bool (B2.out))
      · intro a w2 hB hF hd
        rw [if_pos (wanted_none rfl)]
        exact flow_val (fun h => by cases h) (run_pick rfl (hd 3 _ rfl (waits_spec rfl))) ((hd 6 _ rfl (waits_spec rfl)))
      · intro a w2 hB hF hd
        rw [if_pos (wanted_none rfl)]
        exact flow_move _ (.inl rfl) (by simp) (hd 7 _ rfl (waits_spec rfl))
      · intro a w2 hB hF hd
        rw [if_neg (by rw [wanted_some rfl rfl (hd 8 _ rfl (waits_spec rfl))]; decide)]
        exact rfl
      · intro a w2 hB hF hd
        rw [if_neg (by rw [wanted_some rfl rfl (hd 8 _ rfl (waits_spec rfl))]; decide)]
        exact rfl
      · intro a w2 hB hF hd
        rw [if_neg (by rw [wanted_some rfl rfl (hd 8 _ rfl (waits_spec rfl))]; decide)]
        exact rfl
      · intro a w2 hB hF hd
        rw [if_pos (wanted_none rfl)]
        exact flow_val (fun h => by cases h) (run_pick rfl (hd 8 _ rfl (waits_spec rfl))) (rfl)
    · intro a w2 hB hF hS
      have ha := puts_each rfl rfl hF [_, _, _, _, _, _, _, _, _, _, _, _, _] rfl ⟨hS 0 _ rfl, hS 1 _ rfl, hS 2 _ rfl, hS 3 _ rfl, hS 4 _ rfl, hS 5 _ rfl, hS 6 _ rfl, hS 7 _ rfl, hS 8 _ rfl, hS 9 _ rfl, hS 10 _ rfl, hS 11 _ rfl, hS 12 _ rfl, trivial⟩
      simp only [puts, Act.put, List.setIfInBounds_toArray, List.set_cons_succ, List.set_cons_zero] at ha
      subst ha
      clear hS hF
      have hb2 := hb1.trans (hB.mono hb1.size)
      have hZ2 := hZ.kept hB
      clear hB hZ hb1
      go_wp2_with (first
        | (refine step_val rfl (run_built rfl (HK32.out _ _)) ?_)
        | (refine store_arr rfl 26 _ _ rfl .u8 w.heap.size 32 (fun _ => 0) (fun _ => 0) Try.size26 rfl rfl hZ2 ?_))
      exact bodyPost_ret (results_arr2 rfl _ _ .u8 w.heap.size 32 _ 5 rfl (hZ2.setRow 32 (fun _ => 0)) Try.underlying26 Try.size26) rfl ⟨rfl, below_setRow' hb2 (Nat.le_refl _) _⟩

set_option maxRecDepth 100000 in
set_option maxHeartbeats 3200000 in
theorem rdKey_lim (vf : Value) (nf : Nat) (from_ : Nat → Int) (s : ByteArray) (vc : Value) (m : Nat) (lens : Nat → Nat) (g : Nat → Nat → Int) (w : World) (hf : Rd .u8 w vf nf from_) (hf0 : 0 < nf) (hc : Txt w vc m lens g) (h : 64 < s.size ∨ 16 < m) :
    Calls Try.prog 31 #[vf, .string s, vc] w fun e w' => e = .returned (.tuple #[.agg (arr .u8 32 (fun _ => 0)), .int .i64 3]) ∧ Below w.heap.size w w' := by
  have hcase : 64 < s.size ∨ (s.size ≤ 64 ∧ 16 < m) := by omega
  clear h
  obtain ⟨fa, fc, rfl, f1, f2, _, _⟩ := hf
  obtain ⟨ca, cc, rfl, c1, c2, _⟩ := hc
  have hnf : ((nf : Int) == 0) = false := by simp; omega
  rcases hcase with h | h
  case' inl => have B1 : Hid (decide ((64 : Int) < (s.size : Int)) = true) := decide_eq_true (by omega)
  case' inr => have B1 : Hid (decide ((64 : Int) < (s.size : Int)) = false) := decide_eq_false (by omega)
  case' inr => have B2 : Hid (decide ((16 : Int) < (m : Int)) = true) := decide_eq_true (by omega)
  case inl =>
    clear h
    go_enter Try.func31, Try.ntmps31
    go_upto_region 2 with (fail)
    refine wp_world (fun w1 => Arr .u8 w1 w.heap.size 32 (fun _ => 0) ∧ Arr .u8 w1 (w.heap.size + 1) 32 (fun _ => 0) ∧ Below w.heap.size w w1)
      ⟨Arr.alloc (Arr.newAt rfl (by rfl)) _, Arr.newAt (by simp) (by rfl), ((Below.refl _ _).alloc (Nat.le_refl _) _).alloc (by simp) _⟩ ?_
    rintro w1 ⟨hZ, hO, hb1⟩
    go_upto_region 4 with (fail)
    refine region_flow (n := 82) (by kernel_rfl) (by kernel_rfl) (by kernel_rfl) rfl
      (fun ii vv _ => (match ii with | 0 => vv = .string s | 1 => vv = .int .i64 ((s.size : Int)) | 2 | 3 | 7 => vv = .bool true | 4 | 5 | 6 => vv = undef | _ => True))
      (fun w w' => Below w.heap.size w w') (fun _ _ h => h) (fun _ _ _ _ h _ => h) ?_ ?_
    · refine Each.all ?_
      refine ⟨?_, ?_, ?_, ?_, ?_, ?_, ?_, ?_, trivial⟩
      · intro a w2 hB hF hd
        rw [if_pos (wanted_none rfl)]
        exact flow_move _ (.inl rfl) (by simp) (hF.same 1 rfl)
      · intro a w2 hB hF hd
        rw [if_pos (wanted_none rfl)]
        exact flow_val (fun h => by cases h) (run_len_str rfl (hd 0 _ rfl (waits_spec rfl)) Try.underlying9) rfl
      · intro a w2 hB hF hd
        rw [if_pos (wanted_none rfl)]
        exact flow_val (fun h => by cases h) (Go.Bas.run_gtr rfl (hd 1 _ rfl (waits_spec rfl)) rfl) (congrArg Value.bool (B1.out))
      · intro a w2 hB hF hd
        rw [if_pos (wanted_none rfl)]
        exact flow_move _ (.inl rfl) (by simp) (hd 2 _ rfl (waits_spec rfl))
      · intro a w2 hB hF hd
        rw [if_neg (by rw [wanted_some rfl rfl (hd 3 _ rfl (waits_spec rfl))]; decide)]
        exact rfl
      · intro a w2 hB hF hd
        rw [if_neg (by rw [wanted_some rfl rfl (hd 3 _ rfl (waits_spec rfl))]; decide)]
        exact rfl
      · intro a w2 hB hF hd
        rw [if_neg (by rw [wanted_some rfl rfl (hd 3 _ rfl (waits_spec rfl))]; decide)]
        exact rfl
      · intro a w2 hB hF hd
        rw [if_pos (wanted_none rfl)]
        exact flow_val (fun h => by cases h) (run_pick rfl (hd 3 _ rfl (waits_spec rfl))) (rfl)
    · intro a w2 hB hF hS
      have ha := puts_each rfl rfl hF [_, _, _, _, _, _, _, _] rfl ⟨hS 0 _ rfl, hS 1 _ rfl, hS 2 _ rfl, hS 3 _ rfl, hS 4 _ rfl, hS 5 _ rfl, hS 6 _ rfl, hS 7 _ rfl, trivial⟩
      simp only [puts, Act.put, List.setIfInBounds_toArray, List.set_cons_succ, List.set_cons_zero] at ha
      subst ha
      clear hS hF
      have hb2 := hb1.trans (hB.mono hb1.size)
      have hZ2 := hZ.kept hB
      have hO2 := hO.kept hB
      clear hB hZ hO hb1
      go_wp2_with (first
        | (refine load_arr rfl 26 _ rfl .u8 (w.heap.size + 1) 32 (fun _ => 0) 5 Try.underlying26 Try.size26 rfl hO2 ?_)
        | (refine store_arr rfl 26 _ _ rfl .u8 w.heap.size 32 (fun _ => 0) (fun _ => 0) Try.size26 rfl rfl hZ2 ?_))
      exact bodyPost_ret (results_arr2 rfl _ _ .u8 w.heap.size 32 _ 5 rfl (hZ2.setRow 32 (fun _ => 0)) Try.underlying26 Try.size26) rfl ⟨rfl, below_setRow' hb2 (Nat.le_refl _) _⟩
  case inr =>
    clear h
    go_enter Try.func31, Try.ntmps31
    go_upto_region 2 with (fail)
    refine wp_world (fun w1 => Arr .u8 w1 w.heap.size 32 (fun _ => 0) ∧ Arr .u8 w1 (w.heap.size + 1) 32 (fun _ => 0) ∧ Below w.heap.size w w1)
      ⟨Arr.alloc (Arr.newAt rfl (by rfl)) _, Arr.newAt (by simp) (by rfl), ((Below.refl _ _).alloc (Nat.le_refl _) _).alloc (by simp) _⟩ ?_
    rintro w1 ⟨hZ, hO, hb1⟩
    go_upto_region 4 with (fail)
    refine region_flow (n := 82) (by kernel_rfl) (by kernel_rfl) (by kernel_rfl) rfl
      (fun ii vv _ => (match ii with | 0 => vv = .string s | 1 => vv = .int .i64 ((s.size : Int)) | 2 | 3 => vv = .bool false | 4 => vv = .slice ca m cc | 5 => vv = .int .i64 ((m : Int)) | 6 | 7 => vv = .bool true | _ => True))
      (fun w w' => Below w.heap.size w w') (fun _ _ h => h) (fun _ _ _ _ h _ => h) ?_ ?_
    · refine Each.all ?_
      refine ⟨?_, ?_, ?_, ?_, ?_, ?_, ?_, ?_, trivial⟩
      · intro a w2 hB hF hd
        rw [if_pos (wanted_none rfl)]
        exact flow_move _ (.inl rfl) (by simp) (hF.same 1 rfl)
      · intro a w2 hB hF hd
        rw [if_pos (wanted_none rfl)]
        exact flow_val (fun h => by cases h) (run_len_str rfl (hd 0 _ rfl (waits_spec rfl)) Try.underlying9) rfl
      · intro a w2 hB hF hd
        rw [if_pos (wanted_none rfl)]
        exact flow_val (fun h => by cases h) (Go.Bas.run_gtr rfl (hd 1 _ rfl (waits_spec rfl)) rfl) (congrArg Value.bool (B1.out))
      · intro a w2 hB hF hd
        rw [if_pos (wanted_none rfl)]
        exact flow_move _ (.inl rfl) (by simp) (hd 2 _ rfl (waits_spec rfl))
      · intro a w2 hB hF hd
        refine flow_wanted (wanted_yes rfl rfl (hd 3 _ rfl (waits_spec rfl)) rfl) ?_
        exact flow_move _ (.inl rfl) (by simp) (hF.same 2 rfl)
      · intro a w2 hB hF hd
        refine flow_wanted (wanted_yes rfl rfl (hd 3 _ rfl (waits_spec rfl)) rfl) ?_
        exact flow_val (fun h => by cases h) (run_len_sl rfl (hd 4 _ rfl (waits_spec rfl)) Try.underlying52) rfl
      · intro a w2 hB hF hd
        refine flow_wanted (wanted_yes rfl rfl (hd 3 _ rfl (waits_spec rfl)) rfl) ?_
        exact flow_val (fun h => by cases h) (Go.Bas.run_gtr rfl (hd 5 _ rfl (waits_spec rfl)) rfl) (congrArg Value.bool (B2.out))
      · intro a w2 hB hF hd
        rw [if_pos (wanted_none rfl)]
        exact flow_val (fun h => by cases h) (run_pick rfl (hd 3 _ rfl (waits_spec rfl))) ((hd 6 _ rfl (waits_spec rfl)))
    · intro a w2 hB hF hS
      have ha := puts_each rfl rfl hF [_, _, _, _, _, _, _, _] rfl ⟨hS 0 _ rfl, hS 1 _ rfl, hS 2 _ rfl, hS 3 _ rfl, hS 4 _ rfl, hS 5 _ rfl, hS 6 _ rfl, hS 7 _ rfl, trivial⟩
      simp only [puts, Act.put, List.setIfInBounds_toArray, List.set_cons_succ, List.set_cons_zero] at ha
      subst ha
      clear hS hF
      have hb2 := hb1.trans (hB.mono hb1.size)
      have hZ2 := hZ.kept hB
      have hO2 := hO.kept hB
      clear hB hZ hO hb1
      go_wp2_with (first
        | (refine load_arr rfl 26 _ rfl .u8 (w.heap.size + 1) 32 (fun _ => 0) 5 Try.underlying26 Try.size26 rfl hO2 ?_)
        | (refine store_arr rfl 26 _ _ rfl .u8 w.heap.size 32 (fun _ => 0) (fun _ => 0) Try.size26 rfl rfl hZ2 ?_))
      exact bodyPost_ret (results_arr2 rfl _ _ .u8 w.heap.size 32 _ 5 rfl (hZ2.setRow 32 (fun _ => 0)) Try.underlying26 Try.size26) rfl ⟨rfl, below_setRow' hb2 (Nat.le_refl _) _⟩
/-- both answer alike. -/
theorem keys_alike (nf : Nat) (from_ : Nat → Int) (s : ByteArray) (m : Nat) (lens : Nat → Nat) (g : Nat → Nat → Int) (hf1 : nf ≤ 1000000) (hfb : ∀ i, i < nf → 0 ≤ from_ i ∧ from_ i < 256) (hl : ∀ j, j < m → lens j ≤ 4000) (hg : ∀ j, j < m → ∀ i, i < lens j → 0 ≤ g j i ∧ g j i < 256) :
    ∃ (K : Nat → Int) (er : Int), (∀ i, i < 32 → 0 ≤ K i ∧ K i < 256) ∧
      (∀ vf vc w, Rd .u8 w vf nf from_ → Txt w vc m lens g → Calls Try.prog 30 #[vf, .string s, vc] w fun e w' => e = .returned (.tuple #[.agg (arr .u8 32 K), .int .i64 er]) ∧ Below w.heap.size w w') ∧
      (∀ vf vc w, Rd .u8 w vf nf from_ → Txt w vc m lens g → Calls Try.prog 31 #[vf, .string s, vc] w fun e w' => e = .returned (.tuple #[.agg (arr .u8 32 K), .int .i64 er]) ∧ Below w.heap.size w w') := by
  by_cases h0 : nf = 0
  · subst h0
    exact ⟨fun _ => 0, 20, fun _ _ => (by decide : (0 : Int) ≤ 0 ∧ (0 : Int) < 256), fun vf vc w h _ => dKey_none vf from_ s vc w h, fun vf vc w h _ => rdKey_none vf from_ s vc w h⟩
  · by_cases hlim : 64 < s.size ∨ 16 < m
    · exact ⟨fun _ => 0, 3, fun _ _ => (by decide : (0 : Int) ≤ 0 ∧ (0 : Int) < 256), fun vf vc w h h' => dKey_lim vf nf from_ s vc m lens g w h (by omega) h' hlim, fun vf vc w h h' => rdKey_lim vf nf from_ s vc m lens g w h (by omega) h' hlim⟩
    · exact ⟨_, 0, fun i _ => tagB_bound _ _ _ _ i, fun vf vc w h h' => dKey_any vf nf from_ s vc m lens g w h (by omega) hf1 hfb (by omega) h' (by omega) hl hg, fun vf vc w h h' => rdKey_any vf nf from_ s vc m lens g w h (by omega) hf1 hfb (by omega) h' (by omega) hl hg⟩
end Go.Proofs.Ytgobodhcamgidaa
