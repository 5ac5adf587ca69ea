/-
  Part 25 of SuiteHides. Conditions: named in each theorem.
-/
import Derived.Test.YtpcjekgfnfjbpaaGreatPkSuiteHides24
import Derived.Test.YtpcjekgfnfjbpaaGreatPkSuiteHides14
import Derived.Laws.IdiomStrings
set_option linter.unusedVariables false
set_option linter.unusedSimpArgs false
namespace Go.aQ
open Go.RowKit
def Bv (n:Nat) (i:Nat):Int:=(n:Int) / 2 ^ (8 * (4 - 1 - i)) % 256
theorem Lb (n i:Nat):0<=Bv n i/\Bv n i<256:=by unfold Bv;omega
def oM (L:Nat) (lens:Nat->Nat):Nat->Nat
 | 0=> 1+L
 | k+1=> oM L lens k+(4+lens k)
def sF (L:Nat) (lab:Nat->Int) (lens:Nat->Nat) (g:Nat->Nat->Int):Nat->Nat->Int
 | 0=> gK 1 (fun _=> (L:Int)) lab
 | k+1=> gK (oM L lens k) (sF L lab lens g k) (gK 4 (Bv (lens k)) (g k))
theorem zY {L:Nat} {lab:Nat->Int} {lens:Nat->Nat} {g:Nat->Nat->Int} {m:Nat} (hL:L<=255) (hl:∀i,i<L->0<=lab i/\lab i<256) (hg:∀j,j<m->∀i,i<lens j->0<=g j i/\g j i<256):
  ∀k,k<=m->∀i,i<oM L lens k->0<=sF L lab lens g k i/\sF L lab lens g k i<256:=by
 intro k
 induction k with
 | zero=> exact fun _=> fO (fun _ _=> by omega) hl
 | succ k ih=> exact fun h=> fO (ih (by omega)) (fO (fun _ _=> Lb _ _) (hg k (by omega)))
theorem NK {L:Nat} {lens:Nat->Nat} {m c:Nat} (h:∀j,j<m->lens j<=c):∀k,k<=m->oM L lens k<=1+L+k * (4+c):=by
 intro k
 induction k with
 | zero=> intro _;simp [oM]
 | succ k ih=>
  intro hk;have h1:=ih (by omega);have h2:=h k (by omega);rw [oM,Nat.succ_mul];omega
theorem dF.block {e:TypeId} {base:Nat} {w:World} {v:Value} {m:Nat} {lens:Nat->Nat} {g:Nat->Nat->Int} (h:dF e base w v m lens g):∀b,v.ownBlock=some b->base<=b/\b<w.heap.size:=by
 obtain ⟨us,h1,_⟩:=h;exact fun b hb=> World.ownsRow.lt h1 b hb
theorem dF.aaY {e:TypeId} {base:Nat} {w:World} {u v:Value} {n m:Nat} {f g:Nat->Int} (hb:base<=w.heap.size) (h:Rd .u8 w u n f) (h':Rd .u8 w v m g):
  dF e base (w.alloc (.cells [u,v].toArray e)) (.slice (some ⟨w.heap.size,0,none⟩) 2 2) 2 (jw 1 (fun _=> n) (fun _=> m)) (lF 1 (fun _=> f) (fun _=> g)):=
 dF.lit hb (by decide) rfl fun j hj=> by
  rcases (by omega:j=0\/j=1) with rfl | rfl
  ·exact ⟨u,rfl,h⟩
  ·exact ⟨v,rfl,h'⟩
theorem AQ.aaY {e:TypeId} {w:World} {u v:Value} {n m:Nat} {f g:Nat->Int} (h:Rd .u8 w u n f) (h':Rd .u8 w v m g):
  AQ (w.alloc (.cells #[u,v] e)) (.slice (some ⟨w.heap.size,0,none⟩) 2 2) 2 (fun j=> if j=0 then u else v) (jw 1 (fun _=> n) (fun _=> m)) (lF 1 (fun _=> f) (fun _=> g)):=by
 have hb:Below w.heap.size w (w.alloc (.cells #[u,v] e)):=(bA _ _).alloc (aP _) _;refine ⟨_,_,rfl,aP _,by decide,(fun h=> by cases h),fun _=> ⟨w.heap.size,0,rfl,by simp,fun j hj=> ?_⟩⟩;rw [lH,cell_of_row _ _ j _ e (0,0) (heap_alloc_new w _)];rcases (by omega:j=0\/j=1) with rfl | rfl
 ·exact ⟨rfl,h.below hb⟩
 ·exact ⟨rfl,h'.below hb⟩
def Parts (e:TypeId) (base:Nat) (w:World) (v:Value) (k N:Nat) (F:Nat->Int):Prop:=
 ∃(lens:Nat->Nat) (g:Nat->Nat->Int),dF e base w v (2+2 * k) lens g/\(∀j,j<2+2 * k->∀i,i<lens j->F (bV lens j+i)=g j i)/\bV lens (2+2 * k)=N
theorem Parts.start {e:TypeId} {base:Nat} {w:World} {v:Value} {L:Nat} {lab:Nat->Int} {lens:Nat->Nat} {g:Nat->Nat->Int} (h:dF e base w v 2 (jw 1 (fun _=> 1) (fun _=> L)) (lF 1 (fun _=> fun _=> (L:Int)) (fun _=> lab))):
  Parts e base w v 0 (oM L lens 0) (sF L lab lens g 0):=by
 have h1:bV (fun _=> 1) 1=1:=by simp [bV]
 refine ⟨_,_,h,?_,by rw [show 2+2 * 0=1+1 from rfl,qQ,h1];simp [bV,oM]⟩;have:=rP (F1:=fun _=> (L:Int)) (F2:=lab) (l1:=fun _=> 1) (l2:=fun _=> L) (m:=1) (m2:=1) (Fg (f:=fun _=> (L:Int)) (n:=1)).1 (Fg (f:=lab) (n:=L)).1;rw [h1] at this;exact this
theorem Parts.step {e:TypeId} {base:Nat} {w w':World} {v v':Value} {L:Nat} {lab:Nat->Int} {lens:Nat->Nat} {g:Nat->Nat->Int} {k:Nat} {l1:Nat->Nat} {g1:Nat->Nat->Int}
  (h1:∀j,j<2+2 * k->∀i,i<l1 j->sF L lab lens g k (bV l1 j+i)=g1 j i) (h2:bV l1 (2+2 * k)=oM L lens k)
  (ho:dF e base w' v' (2+2 * k+2) (jw (2+2 * k) l1 (jw 1 (fun _=> 4) (fun _=> lens k))) (lF (2+2 * k) g1 (lF 1 (fun _=> Bv (lens k)) (fun _=> g k)))):
  Parts e base w' v' (k+1) (oM L lens (k+1)) (sF L lab lens g (k+1)):=by
 have h4:bV (fun _=> 4) 1=4:=by simp [bV]
 have IJ:=rP (F1:=Bv (lens k)) (F2:=g k) (l1:=fun _=> 4) (l2:=fun _=> lens k) (m:=1) (m2:=1) (Fg (f:=Bv (lens k)) (n:=4)).1 (Fg (f:=g k) (n:=lens k)).1;rw [h4] at IJ;have:=rP h1 IJ;rw [h2] at this;refine ⟨_,_,ho,this,?_⟩;rw [show 2+2 * (k+1)=2+2 * k+(1+1) by omega,qQ,h2,qQ,h4];simp [bV,oM]
variable {P : Program} {a : Act} {w : World} {o : Oper}
theorem Jo (w:World) (src dst e:TypeId) (s:ByteArray) (hs:P.underlying src=some .string) (hd:P.underlying dst=some (.slice e)) (he:P.underlying e=some (.int .u8)) (hl:s.size<=1000000):
  ∃v w',(convert src dst (.string s)).run P w=.ok v w'/\Rd .u8 w' v s.size (pz s)/\Below w.heap.size w w':=by
 refine ⟨_,_,run_bytes_of_string w src dst e s hs hd he,⟨_,_,rfl,grownCap_ge w s.size 0 e,?_,(fun h=> by cases h),fun _=> ⟨w.heap.size,0,rfl,by simp,fun i hi=> ?_⟩⟩,(below_drewN (bA w.heap.size w) 1).alloc (aP _) _⟩
 ·have:=grownCap_le_maxLen w s.size 0 e (by unfold maxLen;omega);unfold maxLen at this;omega
 ·rw [lH,show (w.drew.alloc (.cells (bytesRow s (grownCap w s.size 0 e)) e ((bytesRow s (grownCap w s.size 0 e)).size,(bytesRow s (grownCap w s.size 0 e)).size+1))).cell? ⟨w.heap.size,i,none⟩=(bytesRow s (grownCap w s.size 0 e))[i]? from World.cell?_alloc_mark w.drew _ e _ i,bytesRow_at s _ i (by simpa using hi)];unfold pz;rw [Rb,vL (by simpa using hi)]
  rfl
theorem BI {S:Value->World->Prop} {Q:Exit->Act->World->Prop} {src dst e:TypeId} {x:Operand} {s:ByteArray} (hd0:¬ o.dst=none) (ho:o.op=.convert src dst x) (hx:a.eval x=.string s) (hs:P.underlying src=some .string) (hd:P.underlying dst=some (.slice e)) (he:P.underlying e=some (.int .u8)) (hl:s.size<=1000000)
  (hS:∀v w',Rd .u8 w' v s.size (pz s)->S v w'):
  o.wp P a w (fun a' w'=> ∃v,a'=a.put o.dst v/\(o.dst=none->v=undef)/\S v w'/\Below w.heap.size w w') Q:=by
 obtain ⟨v,w',hr,h1,h2⟩:=Jo (P:=P) w src dst e s hs hd he hl;have hr':(execOp a.eval o).run P w=.ok (.value v) w':=by
  unfold execOp;simp only [ho,hx,Sem.run_bind,hr,Result.andThen_ok,Sem.run_pure]
 unfold Oper.wp;rw [hr'];exact ⟨v,rfl,(fun h=> absurd h hd0),hS v w' h1,h2⟩
end Go.aQ
