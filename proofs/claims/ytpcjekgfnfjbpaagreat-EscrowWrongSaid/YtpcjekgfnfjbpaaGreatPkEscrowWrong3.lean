/-
  Part 3 of the texts that the proof of EscrowWrong rests on, one after the other. Conditions: named in each theorem.
-/
import Derived.Test.YtpcjekgfnfjbpaaGreatPkEscrowWrong1
import Derived.Deep.DrawnRows
import Derived.Deep.RegionHeld3
import Derived.Deep.WholeRow
import Derived.Laws.CopyOwn
set_option linter.unusedVariables false
set_option linter.unusedSimpArgs false
namespace Go.aG
open Go.RowKit
def dH (k:IntKind) (w:World) (b n:Nat) (f:Nat→Int):Prop:=∃T,w.heap[b]? =some (.cells (arr k n f) T (0,0))
theorem dH.lt {k:IntKind} {w:World} {b n:Nat} {f:Nat→Int} (h:dH k w b n f):b<w.heap.size:=by
 obtain ⟨T,h⟩:=h;exact (Array.getElem?_eq_some_iff.1 h).1
theorem dH.cell {k:IntKind} {w:World} {b n:Nat} {f:Nat→Int} (h:dH k w b n f) (i:Nat) (hi:i<n):w.cell? ⟨b,i,none⟩=some (.int k (f i)):=by
 obtain ⟨T,h⟩:=h
 rw [cell_of_row w b i _ T (0,0) h,xY hi]
theorem dH.drew {k:IntKind} {w:World} {b n:Nat} {f:Nat→Int} (h:dH k w b n f):dH k w.drew b n f:=h
theorem dH.alloc {k:IntKind} {w:World} {b n:Nat} {f:Nat→Int} (h:dH k w b n f) (o:Obj):dH k (w.alloc o) b n f:=by
 have hlt:=h.lt
 obtain ⟨T,h⟩:=h
 exact ⟨T,by rw [Below.heap_alloc _ _ _ hlt];exact h⟩
theorem dH.new (k:IntKind) (w:World) (T:TypeId) (n:Nat) (f:Nat→Int):dH k (w.alloc (.cells (arr k n f) T)) w.heap.size n f:=⟨T,heap_alloc_new w _⟩
theorem dH.newAt {k:IntKind} {w:World} {T:TypeId} {n b:Nat} {f:Nat→Int} {cs:Array Value} (hb:b=w.heap.size) (h:cs=arr k n f):dH k (w.alloc (.cells cs T)) b n f:=by subst hb;subst h;exact dH.new k w T n f
theorem dH.below {k:IntKind} {w w':World} {b n B:Nat} {f:Nat→Int} (h:dH k w b n f) (hb:Below B w w') (hB:b<B):dH k w' b n f:=by
 obtain ⟨T,h⟩:=h
 exact ⟨T,by rw [hb.block b hB];exact h⟩
theorem dH.kept {k:IntKind} {w w':World} {b n:Nat} {f:Nat→Int} (h:dH k w b n f) (hb:Below w.heap.size w w'):dH k w' b n f:=h.below hb h.lt
theorem dH.setRow {k:IntKind} {w:World} {b n:Nat} {f:Nat→Int} (h:dH k w b n f) (m:Nat) (g:Nat→Int):dH k (w.setRow b (arr k m g)) b m g:=by
 obtain ⟨T,h⟩:=h
 exact ⟨T,setRow_heap w b _ _ T _ h⟩
theorem dH.iN {k:IntKind} {w:World} {b n:Nat} {f:Nat→Int} (h:dH k w b n f) (b':Nat) (hb:b≠b') (cs:Array Value):dH k (w.setRow b' cs) b n f:=by
 obtain ⟨T,h⟩:=h
 exact ⟨T,by rw [setRow_other w b' b cs hb];exact h⟩
theorem jk (k:IntKind) (n:Nat) (f:Nat→Int):(arr k n f).all (·.oneCell')=true:=by
 unfold arr
 rw [List.all_toArray,List.all_eq_true]
 intro v hv
 obtain ⟨_,_,rfl⟩:=List.mem_map.1 hv
 rfl
section
variable {P : Program} {ops : Array Oper} {rest : List Oper} {o : Oper} {a : Act} {w : World} {Q : Exit → Act → World → Prop}
theorem eH {K:Act→World→Prop} (T:TypeId) (x y:Operand) (ho:o.op=.store T x y) (k:IntKind) (b n:Nat) (f g:Nat→Int)
  (hi:(P.info? T).map (·.size)=some n) (hx:a.eval x=.pointer (some ⟨b,0,none⟩)) (hy:a.eval y=.agg (arr k n g)) (h:dH k w b n f)
  (hK:K (a.put o.dst undef) (w.setRow b (arr k n g))):o.wp P a w K Q:=by
 obtain ⟨t,ht⟩:=h
 have hr:=run_storeVar_row (P:=P) w b t T (arr k n f) (arr k n g) ht (by rw [hi,gY]) (by simp) (jk k n g)
 unfold Oper.wp execOp
 simp only [ho,hx,hy,Instr.storeAt,Instr.sureAddr,Sem.run_bind,Sem.run_pure,Result.andThen_ok,hr]
 exact hK
theorem lG (hg:o.guard=none) (T:TypeId) (x y:Operand) (ho:o.op=.store T x y) (k:IntKind) (b n:Nat) (f g:Nat→Int)
  (hi:(P.info? T).map (·.size)=some n) (hx:a.eval x=.pointer (some ⟨b,0,none⟩)) (hy:a.eval y=.agg (arr k n g)) (h:dH k w b n f)
  (hK:wpList P ops Q rest (a.put o.dst undef) (w.setRow b (arr k n g))):wpList P ops Q (o::rest) a w:=
 wpList_plain hg fun _ hK'=> eH T x y ho k b n f g hi hx hy h (hK' _ _ hK)
end
theorem aH {B g:Nat} {w0 w:World} (hb:Below B w0 w) (hBg:B≤g) (cs:Array Value):Below B w0 (w.setRow g cs):=below_setRow hb hBg cs
end Go.aG
namespace Go.aG
open Go.RowKit
structure bB (F:Nat→Prop) (w w':World):Prop where
 os:w'.os=w.os
 tape:w'.tape=w.tape
 output:w'.output=w.output
 size:w.heap.size≤w'.heap.size
 block:∀b,b<w.heap.size→¬ F b→w'.heap[b]? =w.heap[b]?
variable {F G : Nat → Prop} {w w' w'' : World}
theorem bB.refl (F:Nat→Prop) (w:World):bB F w w:=⟨rfl,rfl,rfl,Nat.le_refl _,fun _ _ _=> rfl⟩
theorem bB.mono (h:bB F w w') (hs:∀b,b<w.heap.size→F b→G b):bB G w w':=⟨h.os,h.tape,h.output,h.size,fun b hb hn=> h.block b hb fun hf=> hn (hs b hb hf)⟩
theorem bB.trans (h:bB F w w') (h':bB G w' w'') (hs:∀b,b<w.heap.size→G b→F b):bB F w w'':=
 ⟨h'.os.trans h.os,h'.tape.trans h.tape,h'.output.trans h.output,Nat.le_trans h.size h'.size,fun b hb hn=> (h'.block b (Nat.lt_of_lt_of_le hb h.size) fun hg=> hn (hs b hb hg)).trans (h.block b hb hn)⟩
theorem bB.of_below (h:Below w.heap.size w w') (F:Nat→Prop):bB F w w':=⟨h.os,h.tape,h.output,h.size,fun b hb _=> h.block b hb⟩
theorem bB.below (h:bB F w w') {B:Nat} (hB:B≤w.heap.size) (hF:∀b,F b→B≤b):Below B w w':=⟨h.os,h.tape,h.output,h.size,fun b hb=> h.block b (Nat.lt_of_lt_of_le hb hB) fun hf=> by have:=hF b hf;omega⟩
theorem bB.jO {row:Option Nat} (h:w.grownBy w' row) (hF:∀b,row=some b→F b):bB F w w':=⟨h.os,h.tape,h.output,h.size,fun b hb hn=> h.block b hb fun e=> hn (hF b e.symm)⟩
theorem bB.set (F:Nat→Prop) (w:World) (p:Addr) (v:Value) (hF:F p.block):bB F w (w.setCell p v):=
 ⟨rfl,rfl,rfl,by rw [size_setCell];exact Nat.le_refl _,fun b hb hn=> by rw [Below.heap_setCell _ _ _ _ (fun e=> hn (by rw [e];exact hF))]⟩
theorem bB.cell (h:bB F w w') {p:Addr} (hp:p.block<w.heap.size) (hn:¬ F p.block):w'.cell? p=w.cell? p:=World.cell?_of_block (h.block _ hp hn)
end Go.aG
