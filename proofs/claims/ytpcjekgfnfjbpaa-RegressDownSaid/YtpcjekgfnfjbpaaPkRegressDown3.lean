/-
  Part 3 of the texts that the proof of RegressDown rests on, one after the other. Conditions: named in each theorem.
-/
import Derived.BigQuiet
import Derived.Deep.DrawnRows
import Derived.Deep.QuietTactic
import Derived.Deep.RegionHeld3
import Derived.Deep.WholeRow
import Derived.Laws.CopyOwn
import Derived.Lib.Hide
import Derived.Test.YtpcjekgfnfjbpaaArr
import Derived.Test.YtpcjekgfnfjbpaaKit
import Derived.WalkKit
import Derived.WalkLawsBesides
import Derived.WalkSmall
import Derived.WalkSpells
set_option linter.unusedVariables false
set_option linter.unusedSimpArgs false
namespace Go.Bas
open Go.RowKit
structure Chg (F:Nat→Prop) (w w':World):Prop where
 os:w'.os=w.os
 tape:w'.tape=w.tape
 output:w'.output=w.output
 size:w.heap.size≤w'.heap.size
 block:∀b,b<w.heap.size→¬ F b→w'.heap[b]? =w.heap[b]?
variable {F G : Nat → Prop} {w w' w'' : World}
theorem Chg.refl (F:Nat→Prop) (w:World):Chg F w w:=⟨rfl,rfl,rfl,Nat.le_refl _,fun _ _ _=> rfl⟩
theorem Chg.mono (h:Chg F w w') (hs:∀b,b<w.heap.size→F b→G b):Chg G w w':=⟨h.os,h.tape,h.output,h.size,fun b hb hn=> h.block b hb fun hf=> hn (hs b hb hf)⟩
theorem Chg.trans (h:Chg F w w') (h':Chg G w' w'') (hs:∀b,b<w.heap.size→G b→F b):Chg F w w'':=
 ⟨h'.os.trans h.os,h'.tape.trans h.tape,h'.output.trans h.output,Nat.le_trans h.size h'.size,fun b hb hn=> (h'.block b (Nat.lt_of_lt_of_le hb h.size) fun hg=> hn (hs b hb hg)).trans (h.block b hb hn)⟩
theorem Chg.of_below (h:Below w.heap.size w w') (F:Nat→Prop):Chg F w w':=⟨h.os,h.tape,h.output,h.size,fun b hb _=> h.block b hb⟩
theorem Chg.below (h:Chg F w w') {B:Nat} (hB:B≤w.heap.size) (hF:∀b,F b→B≤b):Below B w w':=⟨h.os,h.tape,h.output,h.size,fun b hb=> h.block b (Nat.lt_of_lt_of_le hb hB) fun hf=> by have:=hF b hf;omega⟩
theorem Chg.of_grown {row:Option Nat} (h:w.grownBy w' row) (hF:∀b,row=some b→F b):Chg F w w':=⟨h.os,h.tape,h.output,h.size,fun b hb hn=> h.block b hb fun e=> hn (hF b e.symm)⟩
theorem Chg.set (F:Nat→Prop) (w:World) (p:Addr) (v:Value) (hF:F p.block):Chg F w (w.setCell p v):=
 ⟨rfl,rfl,rfl,by rw [size_setCell];exact Nat.le_refl _,fun b hb hn=> by rw [Below.heap_setCell _ _ _ _ (fun e=> hn (by rw [e];exact hF))]⟩
theorem Chg.cell (h:Chg F w w') {p:Addr} (hp:p.block<w.heap.size) (hn:¬ F p.block):w'.cell? p=w.cell? p:=World.cell?_of_block (h.block _ hp hn)
theorem Arr.chg {k:IntKind} {b n:Nat} {f:Nat→Int} (h:Arr k w b n f) (hg:Chg F w w') (hn:¬ F b):Arr k w' b n f:=by
 have hlt:=h.lt
 obtain ⟨T,h⟩:=h
 exact ⟨T,by rw [hg.block b hlt hn];exact h⟩
end Go.Bas
