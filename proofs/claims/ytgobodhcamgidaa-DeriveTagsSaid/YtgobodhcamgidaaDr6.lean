/-
  derive.Next, derive.Item, derive.Back, bastilleref12.Next: what each answers. Conditions: named in each theorem.
-/
import Derived.Test.YtgobodhcamgidaaDr4
import Derived.Test.YtgobodhcamgidaaDr5
import Derived.Test.YtgobodhcamgidaaDrT
set_option linter.unusedVariables false
set_option linter.unusedSimpArgs false
namespace Go.Bas
def regS : ByteArray := ⟨#[114, 101, 103, 114, 101, 115, 115]⟩
def itemS : ByteArray := ⟨#[105, 116, 101, 109]⟩
theorem regS_info : ∀ i : Fin 8, catF 1 (fun _ => (7 : Int)) (strB regS) i.val = infoN i.val := by decide +kernel
theorem itemS_info : ∀ i : Fin 5, catF 1 (fun _ => (4 : Int)) (strB itemS) i.val = infoI i.val := by decide +kernel
/-- the state one older, and what items are sealed with. -/
def nextB (f : Nat → Int) : Nat → Int := tagB 32 f 8 infoN
def itemB (f : Nat → Int) : Nat → Int := tagB 32 f 5 infoI
theorem nextB_eq (f : Nat → Int) (lens : Nat → Nat) (g : Nat → Nat → Int) : tagB 32 f (infN regS.size lens 0) (infF regS.size (strB regS) lens g 0) = nextB f :=
  tagB_congr (fun _ _ => rfl) fun i hi => regS_info ⟨i, hi⟩
theorem itemB_eq (f : Nat → Int) (lens : Nat → Nat) (g : Nat → Nat → Int) : tagB 32 f (infN itemS.size lens 0) (infF itemS.size (strB itemS) lens g 0) = itemB f :=
  tagB_congr (fun _ _ => rfl) fun i hi => itemS_info ⟨i, hi⟩
theorem nextB_bound (f : Nat → Int) (i : Nat) : 0 ≤ nextB f i ∧ nextB f i < 256 := tagB_bound _ _ _ _ i
theorem itemB_bound (f : Nat → Int) (i : Nat) : 0 ≤ itemB f i ∧ itemB f i < 256 := tagB_bound _ _ _ _ i
end Go.Bas
namespace Go.Proofs.Ytgobodhcamgidaa
open Go.RowKit Go.Bas
attribute [local go_sem ↓] Go.wp_at_zero Go.wp_at_succ
theorem dKeyN (v : Value) (f : Nat → Int) (hf : ∀ i, i < 32 → 0 ≤ f i ∧ f i < 256) (w : World) (h : Rd .u8 w v 32 f) :
    Calls Try.prog 30 #[v, .string regS, .slice none 0 0] w fun e w' => e = .returned (.tuple #[.agg (arr .u8 32 (nextB f)), .int .i64 0]) ∧ Below w.heap.size w w' := by
  have := dKey_any v 32 f regS _ 0 (fun _ => 0) (fun _ _ => 0) w h (by decide) (by decide) hf (by decide) (Txt.nil _ _ _) (by decide) (fun j hj => by omega) (fun j hj => by omega)
  rwa [nextB_eq] at this
theorem dKeyI (v : Value) (f : Nat → Int) (hf : ∀ i, i < 32 → 0 ≤ f i ∧ f i < 256) (w : World) (h : Rd .u8 w v 32 f) :
    Calls Try.prog 30 #[v, .string itemS, .slice none 0 0] w fun e w' => e = .returned (.tuple #[.agg (arr .u8 32 (itemB f)), .int .i64 0]) ∧ Below w.heap.size w w' := by
  have := dKey_any v 32 f itemS _ 0 (fun _ => 0) (fun _ _ => 0) w h (by decide) (by decide) hf (by decide) (Txt.nil _ _ _) (by decide) (fun j hj => by omega) (fun j hj => by omega)
  rwa [itemB_eq] at this
theorem rdKeyN (v : Value) (f : Nat → Int) (hf : ∀ i, i < 32 → 0 ≤ f i ∧ f i < 256) (w : World) (h : Rd .u8 w v 32 f) :
    Calls Try.prog 31 #[v, .string regS, .slice none 0 0] w fun e w' => e = .returned (.tuple #[.agg (arr .u8 32 (nextB f)), .int .i64 0]) ∧ Below w.heap.size w w' := by
  have := rdKey_any v 32 f regS _ 0 (fun _ => 0) (fun _ _ => 0) w h (by decide) (by decide) hf (by decide) (Txt.nil _ _ _) (by decide) (fun j hj => by omega) (fun j hj => by omega)
  rwa [nextB_eq] at this
theorem rdKeyI (v : Value) (f : Nat → Int) (hf : ∀ i, i < 32 → 0 ≤ f i ∧ f i < 256) (w : World) (h : Rd .u8 w v 32 f) :
    Calls Try.prog 31 #[v, .string itemS, .slice none 0 0] w fun e w' => e = .returned (.tuple #[.agg (arr .u8 32 (itemB f)), .int .i64 0]) ∧ Below w.heap.size w w' := by
  have := rdKey_any v 32 f itemS _ 0 (fun _ => 0) (fun _ _ => 0) w h (by decide) (by decide) hf (by decide) (Txt.nil _ _ _) (by decide) (fun j hj => by omega) (fun j hj => by omega)
  rwa [itemB_eq] at this

set_option maxRecDepth 100000 in
set_option maxHeartbeats 1600000 in
theorem dNext_any (f : Nat → Int) (hf : ∀ i, i < 32 → 0 ≤ f i ∧ f i < 256) (w : World) :
    Calls Try.prog 33 #[.agg (arr .u8 32 f)] w fun e w' => e = .returned (.agg (arr .u8 32 (nextB f))) ∧ Below w.heap.size w w' := by
  obtain ⟨R, hR⟩ : ∃ R, R = nextB f := ⟨_, rfl⟩
  have HK := Lib.hid (fun v w h => dKeyN v f hf w h)
  rw [← hR] at HK ⊢
  clear hf hR
  go_enter Try.func33, Try.ntmps33
  go_upto_region 1 with (fail)
  refine wp_world (fun w1 => Arr .u8 w1 w.heap.size 32 f ∧ Arr .u8 w1 (w.heap.size + 1) 32 (fun _ => 0) ∧ Below w.heap.size w w1)
    ⟨Arr.alloc (Arr.newAt rfl rfl) _, Arr.newAt (by simp) (by rfl), ((Below.refl _ _).alloc (Nat.le_refl _) _).alloc (by simp) _⟩ ?_
  rintro w1 ⟨hA, hZ, hb1⟩
  go_wp2_with fail
  refine (HK.out _ _ (hA.rd (by decide))).mono ?_
  rintro e w2 ⟨rfl, hb2⟩
  have hZ2 := hZ.kept hb2
  have hbel := hb1.trans (hb2.mono hb1.size)
  have hzl := hZ2.lt
  clear hA hZ hb1 hb2
  go_upto_region 2 with (refine store_arr rfl 26 _ _ rfl .u8 w2.heap.size 32 (fun _ => 0) R Try.size26 rfl rfl (Arr.newAt rfl (by rfl)) ?_)
  refine wp_world (fun w3 => Arr .u8 w3 w2.heap.size 32 R ∧ Arr .u8 w3 (w.heap.size + 1) 32 (fun _ => 0) ∧ Below w.heap.size w w3)
    ⟨(Arr.newAt rfl (by rfl) : Arr .u8 _ _ 32 (fun _ => 0)).setRow _ _, Arr.setRowOther (Arr.alloc hZ2 _) _ (by omega) _, below_setRow' (hbel.alloc hbel.size _) hbel.size _⟩ ?_
  rintro w3 ⟨hA3, hZ3, hb3⟩
  obtain ⟨q, hq⟩ : ∃ q, q = w2.heap.size := ⟨_, rfl⟩
  rw [← hq] at hA3 ⊢
  clear hq hbel hZ2 hzl
  try simp only [Act.put, List.setIfInBounds_toArray, List.set_cons_succ, List.set_cons_zero]
  go_wp2_with (first
    | (refine load_arr rfl 26 _ rfl .u8 q 32 R 5 Try.underlying26 Try.size26 rfl hA3 ?_)
    | (refine store_arr rfl 26 _ _ rfl .u8 (w.heap.size + 1) 32 (fun _ => 0) R Try.size26 rfl rfl hZ3 ?_))
  exact bodyPost_ret (results_arr rfl _ _ .u8 (w.heap.size + 1) 32 _ 5 rfl (hZ3.setRow 32 R) Try.underlying26 Try.size26) rfl ⟨rfl, below_setRow' hb3 (by omega) _⟩

set_option maxRecDepth 100000 in
set_option maxHeartbeats 1600000 in
theorem dItem_any (f : Nat → Int) (hf : ∀ i, i < 32 → 0 ≤ f i ∧ f i < 256) (w : World) :
    Calls Try.prog 32 #[.agg (arr .u8 32 f)] w fun e w' => e = .returned (.agg (arr .u8 32 (itemB f))) ∧ Below w.heap.size w w' := by
  obtain ⟨R, hR⟩ : ∃ R, R = itemB f := ⟨_, rfl⟩
  have HK := Lib.hid (fun v w h => dKeyI v f hf w h)
  rw [← hR] at HK ⊢
  clear hf hR
  go_enter Try.func32, Try.ntmps32
  go_upto_region 1 with (fail)
  refine wp_world (fun w1 => Arr .u8 w1 w.heap.size 32 f ∧ Arr .u8 w1 (w.heap.size + 1) 32 (fun _ => 0) ∧ Below w.heap.size w w1)
    ⟨Arr.alloc (Arr.newAt rfl rfl) _, Arr.newAt (by simp) (by rfl), ((Below.refl _ _).alloc (Nat.le_refl _) _).alloc (by simp) _⟩ ?_
  rintro w1 ⟨hA, hZ, hb1⟩
  go_wp2_with fail
  refine (HK.out _ _ (hA.rd (by decide))).mono ?_
  rintro e w2 ⟨rfl, hb2⟩
  have hZ2 := hZ.kept hb2
  have hbel := hb1.trans (hb2.mono hb1.size)
  have hzl := hZ2.lt
  clear hA hZ hb1 hb2
  go_upto_region 2 with (refine store_arr rfl 26 _ _ rfl .u8 w2.heap.size 32 (fun _ => 0) R Try.size26 rfl rfl (Arr.newAt rfl (by rfl)) ?_)
  refine wp_world (fun w3 => Arr .u8 w3 w2.heap.size 32 R ∧ Arr .u8 w3 (w.heap.size + 1) 32 (fun _ => 0) ∧ Below w.heap.size w w3)
    ⟨(Arr.newAt rfl (by rfl) : Arr .u8 _ _ 32 (fun _ => 0)).setRow _ _, Arr.setRowOther (Arr.alloc hZ2 _) _ (by omega) _, below_setRow' (hbel.alloc hbel.size _) hbel.size _⟩ ?_
  rintro w3 ⟨hA3, hZ3, hb3⟩
  obtain ⟨q, hq⟩ : ∃ q, q = w2.heap.size := ⟨_, rfl⟩
  rw [← hq] at hA3 ⊢
  clear hq hbel hZ2 hzl
  try simp only [Act.put, List.setIfInBounds_toArray, List.set_cons_succ, List.set_cons_zero]
  go_wp2_with (first
    | (refine load_arr rfl 26 _ rfl .u8 q 32 R 5 Try.underlying26 Try.size26 rfl hA3 ?_)
    | (refine store_arr rfl 26 _ _ rfl .u8 (w.heap.size + 1) 32 (fun _ => 0) R Try.size26 rfl rfl hZ3 ?_))
  exact bodyPost_ret (results_arr rfl _ _ .u8 (w.heap.size + 1) 32 _ 5 rfl (hZ3.setRow 32 R) Try.underlying26 Try.size26) rfl ⟨rfl, below_setRow' hb3 (by omega) _⟩

set_option maxRecDepth 100000 in
set_option maxHeartbeats 1600000 in
theorem rNext_any (f : Nat → Int) (hf : ∀ i, i < 32 → 0 ≤ f i ∧ f i < 256) (w : World) :
    Calls Try.prog 34 #[.agg (arr .u8 32 f)] w fun e w' => e = .returned (.agg (arr .u8 32 (nextB f))) ∧ Below w.heap.size w w' := by
  obtain ⟨R, hR⟩ : ∃ R, R = nextB f := ⟨_, rfl⟩
  have HK := Lib.hid (fun v w h => rdKeyN v f hf w h)
  have HBY := Lib.hid (fun w => rBytes32_any f hf w)
  rw [← hR] at HK ⊢
  clear hf hR
  go_enter Try.func34, Try.ntmps34
  go_upto_region 1 with (fail)
  refine wp_world (fun w1 => Arr .u8 w1 w.heap.size 32 f ∧ Arr .u8 w1 (w.heap.size + 1) 32 (fun _ => 0) ∧ Below w.heap.size w w1)
    ⟨Arr.alloc (Arr.newAt rfl rfl) _, Arr.newAt (by simp) (by rfl), ((Below.refl _ _).alloc (Nat.le_refl _) _).alloc (by simp) _⟩ ?_
  rintro w1 ⟨hA, hZ, hb1⟩
  go_wp2_with (refine load_arr rfl 26 _ rfl .u8 w.heap.size 32 f 5 Try.underlying26 Try.size26 rfl hA ?_)
  refine (HBY.out _).mono ?_
  rintro e wx ⟨v, rfl, hov, hbx⟩
  go_wp2_with fail
  refine (HK.out _ _ hov.rd).mono ?_
  rintro e w2 ⟨rfl, hb2x⟩
  have hb2 : Below w1.heap.size w1 w2 := hbx.trans (hb2x.mono hbx.size)
  clear hbx hb2x hov
  have hZ2 := hZ.kept hb2
  have hbel := hb1.trans (hb2.mono hb1.size)
  have hzl := hZ2.lt
  clear hA hZ hb1 hb2
  go_upto_region 2 with (refine store_arr rfl 26 _ _ rfl .u8 w2.heap.size 32 (fun _ => 0) R Try.size26 rfl rfl (Arr.newAt rfl (by rfl)) ?_)
  refine wp_world (fun w3 => Arr .u8 w3 w2.heap.size 32 R ∧ Arr .u8 w3 (w.heap.size + 1) 32 (fun _ => 0) ∧ Below w.heap.size w w3)
    ⟨(Arr.newAt rfl (by rfl) : Arr .u8 _ _ 32 (fun _ => 0)).setRow _ _, Arr.setRowOther (Arr.alloc hZ2 _) _ (by omega) _, below_setRow' (hbel.alloc hbel.size _) hbel.size _⟩ ?_
  rintro w3 ⟨hA3, hZ3, hb3⟩
  obtain ⟨q, hq⟩ : ∃ q, q = w2.heap.size := ⟨_, rfl⟩
  rw [← hq] at hA3 ⊢
  clear hq hbel hZ2 hzl
  try simp only [Act.put, List.setIfInBounds_toArray, List.set_cons_succ, List.set_cons_zero]
  go_wp2_with (first
    | (refine load_arr rfl 26 _ rfl .u8 q 32 R 5 Try.underlying26 Try.size26 rfl hA3 ?_)
    | (refine store_arr rfl 26 _ _ rfl .u8 (w.heap.size + 1) 32 (fun _ => 0) R Try.size26 rfl rfl hZ3 ?_))
  exact bodyPost_ret (results_arr rfl _ _ .u8 (w.heap.size + 1) 32 _ 5 rfl (hZ3.setRow 32 R) Try.underlying26 Try.size26) rfl ⟨rfl, below_setRow' hb3 (by omega) _⟩
end Go.Proofs.Ytgobodhcamgidaa
