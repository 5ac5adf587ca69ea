/- Part 28 of SuiteBytes; conditions: in each theorem. -/
import Derived.Test.YtpcjekgfnfjbpaaGreatPkSuiteBytes27
import Derived.Test.YtpcjekgfnfjbpaaGreatPkSuiteBytes15
import Derived.Laws.IdiomStrings
set_option linter.unusedVariables false
set_option linter.unusedSimpArgs false
namespace Go.bC
open Go.RowKit
def Dw (n:Nat) (i:Nat):Int:=(n:Int) / 2 ^ (8 * (4 - 1 - i)) % 256
theorem Mk (n i:Nat):0<=Dw n i/\Dw n i<256:=by unfold Dw;omega
def pz (L:Nat) (lens:Nat->Nat):Nat->Nat
 | 0=>1+L
 | k+1=>pz L lens k+(4+lens k)
def sU (L:Nat) (lab:Nat->Int) (lens:Nat->Nat) (g:Nat->Nat->Int):Nat->Nat->Int
 | 0=>fO 1 (fun _=>(L:Int)) lab
 | k+1=>fO (pz L lens k) (sU L lab lens g k) (fO 4 (Dw (lens k)) (g k))
theorem BD {L:Nat} {lab:Nat->Int} {lens:Nat->Nat} {g:Nat->Nat->Int} {m:Nat} (hL:L<=255) (hl:∀i,i<L->0<=lab i/\lab i<256) (hg:∀j,j<m->∀i,i<lens j->0<=g j i/\g j i<256):
  ∀k,k<=m->∀i,i<pz L lens k->0<=sU L lab lens g k i/\sU L lab lens g k i<256:=by
 intro k
 induction k with
 | zero=>exact fun _=>fU (fun _ _=>by omega) hl
 | succ k ih=>exact fun h=>fU (ih aH) (fU (fun _ _=>Mk _ _) (hg k aH))
theorem OG {L:Nat} {lens:Nat->Nat} {m c:Nat} (h:∀j,j<m->lens j<=c):∀k,k<=m->pz L lens k<=1+L+k * (4+c):=by
 intro k
 induction k with
 | zero=>intro _;simp[pz]
 | succ k ih=>
  intro hk;have h1:=ih aH;have h2:=h k aH;rw[pz,Nat.succ_mul];omega
theorem fF.block {e:TypeId} {base:Nat} {w:World} {v:Value} {m:Nat} {lens:Nat->Nat} {g:Nat->Nat->Int} (h:fF e base w v m lens g):∀b,v.ownBlock=some b->base<=b/\b<w.heap.size:=by
 obtain⟨us,h1,_⟩:=h;exact fun b hb=>World.ownsRow.lt h1 b hb
theorem fF.abZ {e:TypeId} {base:Nat} {w:World} {u v:Value} {n m:Nat} {f g:Nat->Int} (hb:base<=w.heap.size) (h:Rd .u8 w u n f) (h':Rd .u8 w v m g):
  fF e base (w.alloc (.cells [u,v].toArray e)) (.slice (some ⟨w.heap.size,0,none⟩) 2 2) 2 (iV 1 (fun _=>n) (fun _=>m)) (jP 1 (fun _=>f) (fun _=>g)):=
 fF.lit hb aN rfl fun j hj=>by
  rcases(by omega:j=0\/j=1) with rfl | rfl
  ·exact⟨u,rfl,h⟩
  ·exact⟨v,rfl,h'⟩
theorem Cu.abZ {e:TypeId} {w:World} {u v:Value} {n m:Nat} {f g:Nat->Int} (h:Rd .u8 w u n f) (h':Rd .u8 w v m g):
  Cu (w.alloc (.cells #[u,v] e)) (.slice (some ⟨w.heap.size,0,none⟩) 2 2) 2 (fun j=>if j=0 then u else v) (iV 1 (fun _=>n) (fun _=>m)) (jP 1 (fun _=>f) (fun _=>g)):=by
 have hb:Below w.heap.size w (w.alloc (.cells #[u,v] e)):=(bT _ _).alloc (bB _) _;refine⟨_,_,rfl,bB _,by decide,(fun h=>by cases h),fun _=>⟨w.heap.size,0,rfl,by simp,fun j hj=>?_⟩⟩;rw[oD,cell_of_row _ _ j _ e (0,0) (heap_alloc_new w _)];rcases(by omega:j=0\/j=1) with rfl | rfl
 ·exact⟨rfl,h.below hb⟩
 ·exact⟨rfl,h'.below hb⟩
def Parts (e:TypeId) (base:Nat) (w:World) (v:Value) (k N:Nat) (F:Nat->Int):Prop:=
 ∃(lens:Nat->Nat) (g:Nat->Nat->Int),fF e base w v (2+2 * k) lens g/\(∀j,j<2+2 * k->∀i,i<lens j->F (fq lens j+i)=g j i)/\fq lens (2+2 * k)=N
theorem Parts.start {e:TypeId} {base:Nat} {w:World} {v:Value} {L:Nat} {lab:Nat->Int} {lens:Nat->Nat} {g:Nat->Nat->Int} (h:fF e base w v 2 (iV 1 (fun _=>1) (fun _=>L)) (jP 1 (fun _=>fun _=>(L:Int)) (fun _=>lab))):
  Parts e base w v 0 (pz L lens 0) (sU L lab lens g 0):=by
 have h1:fq (fun _=>1) 1=1:=by simp[fq]
 refine⟨_,_,h,?_,by rw[show 2+2 * 0=1+1 from rfl,mo,h1];simp[fq,pz]⟩;have:=lI (F1:=fun _=>(L:Int)) (F2:=lab) (l1:=fun _=>1) (l2:=fun _=>L) (m:=1) (m2:=1) (uz (f:=fun _=>(L:Int)) (n:=1)).1 (uz (f:=lab) (n:=L)).1;rw[h1] at this;exact this
theorem Parts.step {e:TypeId} {base:Nat} {w w':World} {v v':Value} {L:Nat} {lab:Nat->Int} {lens:Nat->Nat} {g:Nat->Nat->Int} {k:Nat} {l1:Nat->Nat} {g1:Nat->Nat->Int}
  (h1:∀j,j<2+2 * k->∀i,i<l1 j->sU L lab lens g k (fq l1 j+i)=g1 j i) (h2:fq l1 (2+2 * k)=pz L lens k)
  (ho:fF e base w' v' (2+2 * k+2) (iV (2+2 * k) l1 (iV 1 (fun _=>4) (fun _=>lens k))) (jP (2+2 * k) g1 (jP 1 (fun _=>Dw (lens k)) (fun _=>g k)))):
  Parts e base w' v' (k+1) (pz L lens (k+1)) (sU L lab lens g (k+1)):=by
 have h4:fq (fun _=>4) 1=4:=by simp[fq]
 have Ku:=lI (F1:=Dw (lens k)) (F2:=g k) (l1:=fun _=>4) (l2:=fun _=>lens k) (m:=1) (m2:=1) (uz (f:=Dw (lens k)) (n:=4)).1 (uz (f:=g k) (n:=lens k)).1;rw[h4] at Ku;have:=lI h1 Ku;rw[h2] at this;refine⟨_,_,ho,this,?_⟩;rw[show 2+2 * (k+1)=2+2 * k+(1+1) by omega,mo,h2,mo,h4];simp[fq,pz]
variable {P : Program} {a : Act} {w : World} {o : Oper}
theorem KO (w:World) (src dst e:TypeId) (s:ByteArray) (hs:P.underlying src=some .string) (hd:P.underlying dst=some (.slice e)) (he:P.underlying e=some (.int .u8)) (hl:s.size<=1000000):
  ∃v w',(convert src dst (.string s)).run P w=.ok v w'/\Rd .u8 w' v s.size (jJ s)/\Below w.heap.size w w':=by
 refine⟨_,_,run_bytes_of_string w src dst e s hs hd he,⟨_,_,rfl,grownCap_ge w s.size 0 e,?_,(fun h=>by cases h),fun _=>⟨w.heap.size,0,rfl,by simp,fun i hi=>?_⟩⟩,(below_drewN (bT w.heap.size w) 1).alloc (bB _) _⟩
 ·have:=grownCap_le_maxLen w s.size 0 e (by unfold maxLen;omega);unfold maxLen at this;omega
 ·rw[oD,show (w.drew.alloc (.cells (bytesRow s (grownCap w s.size 0 e)) e ((bytesRow s (grownCap w s.size 0 e)).size,(bytesRow s (grownCap w s.size 0 e)).size+1))).cell? ⟨w.heap.size,i,none⟩=(bytesRow s (grownCap w s.size 0 e))[i]? from World.cell?_alloc_mark w.drew _ e _ i,bytesRow_at s _ i (by simpa using hi)];unfold jJ;rw[IK,tO (by simpa using hi)]
  rfl
theorem DR {S:Value->World->Prop} {Q:Exit->Act->World->Prop} {src dst e:TypeId} {x:Operand} {s:ByteArray} (hd0:¬ o.dst=none) (ho:o.op=.convert src dst x) (hx:a.eval x=.string s) (hs:P.underlying src=some .string) (hd:P.underlying dst=some (.slice e)) (he:P.underlying e=some (.int .u8)) (hl:s.size<=1000000)
  (hS:∀v w',Rd .u8 w' v s.size (jJ s)->S v w'):
  o.wp P a w (fun a' w'=> ∃v,a'=a.put o.dst v/\(o.dst=none->v=undef)/\S v w'/\Below w.heap.size w w') Q:=by
 obtain⟨v,w',hr,h1,h2⟩:=KO (P:=P) w src dst e s hs hd he hl;have hr':(execOp a.eval o).run P w=.ok (.value v) w':=by
  unfold execOp;simp only[ho,hx,uD,hr,vG,xI]
 unfold Oper.wp;rw[hr'];exact⟨v,rfl,(fun h=>absurd h hd0),hS v w' h1,h2⟩
end Go.bC
