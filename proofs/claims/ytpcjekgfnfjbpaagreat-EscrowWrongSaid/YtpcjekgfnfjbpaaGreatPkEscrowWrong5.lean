/-
  Part 5 of the texts that the proof of EscrowWrong rests on, one after the other. Conditions: named in each theorem.
-/
import Derived.Test.YtpcjekgfnfjbpaaGreatPkEscrowWrong4
import Derived.Great.BuildSlice
set_option linter.unusedVariables false
set_option linter.unusedSimpArgs false
namespace Go.aG
open Go.RowKit
def Ai (w:World) (v:Value) (m:Nat) (lens:Nat→Nat) (g:Nat→Nat→Int):Prop:=
 ∃a c,v=.slice a m c∧m≤c∧c≤9223372036854775807∧(0<m→∃b o,a=some ⟨b,o,none⟩∧b<w.heap.size∧∀j,j<m→∃u,w.cell? ⟨b,o+j,none⟩=some u∧Rd .u8 w u (lens j) (g j))
theorem Ai.nil (w:World) (lens:Nat→Nat) (g:Nat→Nat→Int):Ai w (.slice none 0 0) 0 lens g:=
 ⟨none,0,rfl,Nat.le_refl _,by omega,fun h=> by omega⟩
section
variable {P : Program} {a : Act} {w : World} {o : Oper}
end
end Go.aG
namespace Go.aG
open Go.RowKit
def nA (n:Nat) (f g:Nat→Int) (i:Nat):Int:=if i<n then f i else g (i - n)
theorem rY {n i:Nat} {f g:Nat→Int}:nA n f g (n+i)=g i:=by unfold nA;rw [if_neg (by omega),Nat.add_sub_cancel_left]
theorem gH {n m:Nat} {f g:Nat→Int} (hf:∀i,i<n→0≤f i∧f i<256) (hg:∀i,i<m→0≤g i∧g i<256):∀i,i<n+m→0≤nA n f g i∧nA n f g i<256:=by
 intro i hi
 unfold nA
 split
 ·exact hf i (by omega)
 ·exact hg _ (by omega)
def FE (w:World) (v:Value) (m:Nat) (us:Nat→Value) (lens:Nat→Nat) (g:Nat→Nat→Int):Prop:=
 ∃a c,v=.slice a m c∧m≤c∧c≤9223372036854775807∧(a=none→m=0)∧(0<m→∃b o,a=some ⟨b,o,none⟩∧b<w.heap.size∧∀j,j<m→w.cell? ⟨b,o+j,none⟩=some (us j)∧Rd .u8 w (us j) (lens j) (g j))
theorem Ai.Bz {w:World} {v:Value} {m:Nat} {lens:Nat→Nat} {g:Nat→Nat→Int} (h:Ai w v m lens g):∃us,FE w v m us lens g:=by
 obtain ⟨a,c,rfl,h1,h2,h3⟩:=h
 by_cases hm:0<m
 ·obtain ⟨b,o,rfl,hb,hc⟩:=h3 hm
  refine ⟨fun j=> ((w.cell? ⟨b,o+j,none⟩).getD undef),_,_,rfl,h1,h2,fun e=> (by cases e),fun _=> ⟨b,o,rfl,hb,fun j hj=> ?_⟩⟩
  obtain ⟨u,hu,hr⟩:=hc j hj
  have e1:((w.cell? ⟨b,o+j,none⟩).getD undef)=u:=by rw [hu];rfl
  exact ⟨by show _=some ((w.cell? ⟨b,o+j,none⟩).getD undef);rw [e1,hu],by show Rd .u8 w ((w.cell? ⟨b,o+j,none⟩).getD undef) _ _;rw [e1];exact hr⟩
 ·exact ⟨fun _=> undef,_,_,rfl,h1,h2,fun _=> by omega,fun h=> absurd h hm⟩
end Go.aG
