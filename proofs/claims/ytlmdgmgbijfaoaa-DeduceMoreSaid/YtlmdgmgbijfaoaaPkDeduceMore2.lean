/-
  Part 2 of the texts that the proof of DeduceMore rests on, one after the other. Conditions: named in each theorem.
-/
import Derived.BigQuiet
import Derived.Deep.QuietTactic
import Derived.Lib.Hide
import Derived.Test.YtlmdgmgbijfaoaaKit
import Derived.Test.YtlmdgmgbijfaoaaRows
import Derived.WalkKit
import Derived.WalkLawsBesides
import Derived.WalkSmall
import Derived.WalkSpells
set_option linter.unusedVariables false
set_option linter.unusedSimpArgs false
set_option maxRecDepth 100000
set_option maxHeartbeats 400000
namespace Go.Proofs.Ytlmdgmgbijfaoaa
theorem Try.info5:(Try.prog.info? 5).map (fun i=> (i.zero,i.size,i.bytes))=some (some (.int .u8 0),1,1):=by kernel_rfl
theorem Try.info3:(Try.prog.info? 3).map (fun i=> (i.zero,i.size,i.bytes))=some (some (.int .i64 0),1,8):=by kernel_rfl
end Go.Proofs.Ytlmdgmgbijfaoaa
namespace Go.Proofs.Ytlmdgmgbijfaoaa
open Go.RowKit Go.Bas
theorem clone_any (va:Value) (n:Nat) (f:Nat→Int) (w:World) (ha:Rd .u8 w va n f) (hn:n≤140737488355328):
  Calls Try.prog 109 #[va] w fun e w'=> ∃v,e=.returned v∧Own .u8 5 w.heap.size w' v n f∧Below w.heap.size w w':=by
 have hrd:=Lib.hid ha
 obtain ⟨a1,c1,rfl,l1,m1,z1,h1⟩:=ha
 clear h1
 have hnil:=fun (w:World) (a:Option Addr) (n c:Nat)=> Lib.run_eql_slice_nil (P:=Try.prog) w 23 5 a n c 0 0 Try.underlying23
 cases a1 with
 | none=>
  obtain rfl:c1=0:=z1 rfl
  obtain rfl:n=0:=by omega
  clear z1
  go_enter Try.func109,Try.ntmps109
  go_wp2
  go_ret
  exact ⟨_,rfl,Own.nil _ _ _ _ _,Below.refl _ _⟩
 | some a=>
  clear z1
  go_enter Try.func109,Try.ntmps109
  go_wp2_with (at_builtin;refine append_rd rfl _ _ 23 rfl w.heap.size 5 .u8 1 Try.underlying23 Try.info5 _ 0 f ?_ rfl _ n f (hrd.out.below ((Below.refl _ _).alloc (Nat.le_refl _) _)) rfl (fun i _=> by rw [Nat.zero_add]) (by omega) (by omega) (by simp) ?_;rotate_right;intro v' w1 hown hgrow)
  ·go_ret
   rw [Nat.zero_add] at hown
   exact ⟨_,rfl,hown,below_grown ((Below.refl _ _).alloc (Nat.le_refl _) _) hgrow (Own.new .u8 5 w #[] 0 f (Nat.le_refl _) (by omega) rfl (fun i hi=> by omega)) (by simp) (Nat.le_refl _)⟩
  ·exact Own.new _ _ _ _ _ _ (Nat.le_refl _) (by omega) rfl (fun i hi=> by omega)
end Go.Proofs.Ytlmdgmgbijfaoaa
namespace Go.Proofs.Ytlmdgmgbijfaoaa
open Go.RowKit Go.Bas
theorem same_len (va vb:Value) (n m:Nat) (f g:Nat→Int) (w:World) (ha:Rd .u8 w va n f) (hb:Rd .u8 w vb m g) (h:n≠m):
  Calls Try.prog 24 #[va,vb] w fun e w'=> e=.returned (.bool false)∧Below w.heap.size w w':=by
 obtain ⟨a1,c1,rfl,l1,m1,z1,h1⟩:=ha
 obtain ⟨a2,c2,rfl,l2,m2,z2,h2⟩:=hb
 clear h1 h2 z1 z2
 have hl':((n:Int) !=(m:Int))=true:=by simp;omega
 go_enter Try.func24,Try.ntmps24
 go_wp2
 go_ret
 exact ⟨rfl,Below.refl _ _⟩
theorem same_yes (va vb:Value) (n:Nat) (f g:Nat→Int) (w:World) (ha:Rd .u8 w va n f) (hb:Rd .u8 w vb n g) (h:∀i,i<n→f i=g i):
  Calls Try.prog 24 #[va,vb] w fun e w'=> e=.returned (.bool true)∧Below w.heap.size w w':=by
 obtain ⟨a1,c1,rfl,l1,m1,z1,h1⟩:=ha
 obtain ⟨a2,c2,rfl,l2,m2,z2,h2⟩:=hb
 have H:=Lib.hid h
 have H1:=Lib.hid h1
 have H2:=Lib.hid h2
 clear h1 h2 z1 z2 h
 go_enter Try.func24,Try.ntmps24
 go_wp2
 go_loopw [5] (fun i wr=> ∃k:Nat,k≤n∧i=.int .i64 k∧Below w.heap.size w wr) (fun i _=> n - (intOf i).toNat)
 case atStart=> exact ⟨0,Nat.zero_le _,rfl,Below.refl _ _⟩
 case round=>
  obtain ⟨k,hk,rfl,hnx⟩:=hrel
  by_cases hlt:k<n
  ·obtain ⟨b1,o1,rfl,s1,e1⟩:=H1.out (by omega)
   obtain ⟨b2,o2,rfl,s2,e2⟩:=H2.out (by omega)
   replace e1:=(hnx.cell s1).trans (e1 k hlt)
   replace e2:=(hnx.cell s2).trans (e2 k hlt)
   have hb:(f k !=g k)=false:=by simpa using H.out k hlt
   go_wp2
   go_quiet (fail)
   go_wp2
   go_roundw
   case rel=> exact ⟨k+1,by omega,by go_num,below_drewN hnx _⟩
   case measure=> simp [intOf] <;> omega
  ·go_wp2
   go_ret
   exact ⟨rfl,hnx⟩
theorem same_no (va vb:Value) (n:Nat) (f g:Nat→Int) (w:World) (ha:Rd .u8 w va n f) (hb:Rd .u8 w vb n g) (j:Nat) (hj:j<n) (h:f j≠g j):
  Calls Try.prog 24 #[va,vb] w fun e w'=> e=.returned (.bool false)∧Below w.heap.size w w':=by
 obtain ⟨a1,c1,rfl,l1,m1,z1,h1⟩:=ha
 obtain ⟨a2,c2,rfl,l2,m2,z2,h2⟩:=hb
 have H:=Lib.hid h
 have H1:=Lib.hid h1
 have H2:=Lib.hid h2
 clear h1 h2 z1 z2 h
 go_enter Try.func24,Try.ntmps24
 go_wp2
 go_loopw [5] (fun i wr=> ∃k:Nat,k≤j∧i=.int .i64 k∧Below w.heap.size w wr) (fun i _=> n - (intOf i).toNat)
 case atStart=> exact ⟨0,Nat.zero_le _,rfl,Below.refl _ _⟩
 case round=>
  obtain ⟨k,hk,rfl,hnx⟩:=hrel
  have hlt:k<n:=by omega
  obtain ⟨b1,o1,rfl,s1,e1⟩:=H1.out (by omega)
  obtain ⟨b2,o2,rfl,s2,e2⟩:=H2.out (by omega)
  replace e1:=(hnx.cell s1).trans (e1 k hlt)
  replace e2:=(hnx.cell s2).trans (e2 k hlt)
  by_cases hfg:f k=g k
  ·have hb:(f k !=g k)=false:=by simpa using hfg
   have hkj:k≠j:=fun e=> H.out (e▸hfg)
   clear hfg
   go_wp2
   go_quiet (fail)
   go_wp2
   go_roundw
   case rel=> exact ⟨k+1,by omega,by go_num,below_drewN hnx _⟩
   case measure=> simp [intOf] <;> omega
  ·have hb:(f k !=g k)=true:=by simpa using hfg
   clear hfg
   go_wp2
   go_quiet (fail)
   go_wp2
   go_ret
   exact ⟨rfl,below_drewN hnx _⟩
end Go.Proofs.Ytlmdgmgbijfaoaa
