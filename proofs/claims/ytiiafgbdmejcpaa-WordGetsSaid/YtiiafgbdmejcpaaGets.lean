/-
  The law WordGets returns true for every input. Conditions: the bytes can be read.
-/
import Derived.Test.YtiiafgbdmejcpaaRows
import Derived.Test.YtiiafgbdmejcpaaKit
import Derived.Test.YtiiafgbdmejcpaaOpen
import Derived.Test.YtiiafgbdmejcpaaGet
import Derived.Test.YtiiafgbdmejcpaaPuts
namespace Go.Proofs.Ytiiafgbdmejcpaa
open Go.RowKit Go.Bas

set_option maxRecDepth 100000 in
set_option maxHeartbeats 400000 in
theorem wordGets_core (va : Value) (n : Nat) (f : Nat → Int) (w : World) (ha : Rd .u8 w va n f) (hf : ∀ i, i < n → 0 ≤ f i ∧ f i < 256) :
    Calls Try.prog 4 #[va] w fun e w' => e = .returned (.bool true) ∧ Below w.heap.size w w' := by
  have HA := Lib.hid ha
  have HF := Lib.hid hf
  obtain ⟨a1, c1, rfl, l1, m1, z1, h1⟩ := ha
  clear h1 z1 hf
  by_cases hn : 100 < n
  · have hn' : (100 : Int) < n := by omega
    go_enter Try.func4, Try.ntmps4
    go_wp2_with fail
    refine (awake_any _).mono ?_
    rintro e w0 ⟨rfl, hbel0⟩
    go_wp2_with fail
    go_ret
    exact ⟨rfl, hbel0⟩
  have hn' : ¬ (100 : Int) < n := by omega
  go_enter Try.func4, Try.ntmps4
  go_wp2_with fail
  refine (awake_any _).mono ?_
  rintro e w0 ⟨rfl, hbel0⟩
  go_wp2_with fail
  refine (get_any _ n f _ (HA.out.below hbel0) HF.out).mono ?_
  rintro e w1 ⟨rfl, hbel1⟩
  go_wp2_with fail
  refine (getLow_any _ n f _ ((HA.out.below hbel0).below hbel1) HF.out).mono ?_
  rintro e w2 ⟨rfl, hbel2⟩
  go_wp2_with fail
  refine (Get_any _ n f _ (((HA.out.below hbel0).below hbel1).below hbel2) HF.out).mono ?_
  rintro e w3 ⟨rfl, hbel3⟩
  go_wp2_with fail
  refine (Turned_any _ n f _ ((((HA.out.below hbel0).below hbel1).below hbel2).below hbel3) (by omega)).mono ?_
  rintro e w4 ⟨v4, rfl, hown4, hbel4⟩
  have HO := Lib.hid hown4
  clear hown4
  go_wp2_with fail
  refine (Get_any _ n _ _ HO.out.rd (fun i hi => HF.out _ (by omega))).mono ?_
  rintro e w5 ⟨rfl, hbel5⟩
  go_wp2_with fail
  go_ret
  have h4 := hbel4.size
  have h3 := hbel3.size
  have h2 := hbel2.size
  have h1 := hbel1.size
  have h0 := hbel0.size
  exact ⟨rfl, ((((hbel0.trans (hbel1.mono (by omega))).trans (hbel2.mono (by omega))).trans (hbel3.mono (by omega))).trans (hbel4.mono (by omega))).trans (hbel5.mono (by omega))⟩

theorem wordGets_law (w : World) (va : Value) (n : Nat) (f : Nat → Int) (ha : Rd .u8 w va n f) (hb : ∀ i, i < n → (Lit.int .u8 (f i)).wf = true) :
    Calls Try.prog 4 #[va] w fun e w' => e = .returned (.bool true) ∧ Below w.heap.size w w' :=
  wordGets_core va n f w ha (fun i hi => by have := bounds_u8 (hb i hi); omega)
end Go.Proofs.Ytiiafgbdmejcpaa
