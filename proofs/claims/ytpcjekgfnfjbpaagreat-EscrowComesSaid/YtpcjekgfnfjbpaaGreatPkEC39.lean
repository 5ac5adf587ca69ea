/- Part 39 of EscrowComes; conditions: in each theorem. -/
import Derived.Test.YtpcjekgfnfjbpaaGreatPkEC38
import Derived.Test.YtpcjekgfnfjbpaaGreatPkEC18
import Derived.Laws.IdiomStrings
set_option linter.unusedVariables false
set_option linter.unusedSimpArgs false
namespace Go.bI
open Go.RowKit
def KA (n:Nat) (i:Nat):Int:=(n:Int) / 2 ^ (8 * (4 - 1 - i)) % 256
theorem Oj (n i:Nat):0<=KA n i/\KA n i<256:=by unfold KA;omega
def vg (L:Nat) (lens:Nat->Nat):Nat->Nat
 | 0=>1+L
 | k+1=>vg L lens k+(4+lens k)
def CO (L:Nat) (lab:Nat->Int) (lens:Nat->Nat) (g:Nat->Nat->Int):Nat->Nat->Int
 | 0=>nN 1 (fun _=>(L:Int)) lab
 | k+1=>nN (vg L lens k) (CO L lab lens g k) (nN 4 (KA (lens k)) (g k))
theorem OV {L:Nat} {lab:Nat->Int} {lens:Nat->Nat} {g:Nat->Nat->Int} {m:Nat} (hL:L<=255) (hl:∀i,i<L->0<=lab i/\lab i<256) (hg:∀j,j<m->∀i,i<lens j->0<=g j i/\g j i<256):
  ∀k,k<=m->∀i,i<vg L lens k->0<=CO L lab lens g k i/\CO L lab lens g k i<256:=by
 intro k
 induction k with
 | zero=>exact fun _=>mJ (fun _ _=>by omega) hl
 | succ k ih=>exact fun h=>mJ (ih aH) (mJ (fun _ _=>Oj _ _) (hg k aH))
theorem acK {L:Nat} {lens:Nat->Nat} {m c:Nat} (h:∀j,j<m->lens j<=c):∀k,k<=m->vg L lens k<=1+L+k * (4+c):=by
 intro k
 induction k with
 | zero=>intro _;simp[vg]
 | succ k ih=>
  intro hk;have h1:=ih aH;have h2:=h k aH;rw[vg,Nat.succ_mul];omega
theorem fH.block {e:TypeId} {base:Nat} {w:World} {v:Value} {m:Nat} {lens:Nat->Nat} {g:Nat->Nat->Int} (h:fH e base w v m lens g):∀b,v.ownBlock=some b->base<=b/\b<w.heap.size:=by
 obtain⟨us,h1,_⟩:=h;exact fun b hb=>World.ownsRow.lt h1 b hb
theorem fH.agh {e:TypeId} {base:Nat} {w:World} {u v:Value} {n m:Nat} {f g:Nat->Int} (hb:base<=w.heap.size) (h:Rd .u8 w u n f) (h':Rd .u8 w v m g):
  fH e base (w.alloc (.cells [u,v].toArray e)) (.slice (some ⟨w.heap.size,0,none⟩) 2 2) 2 (kM 1 (fun _=>n) (fun _=>m)) (nL 1 (fun _=>f) (fun _=>g)):=
 fH.lit hb aM rfl fun j hj=>by
  rcases(by omega:j=0\/j=1) with rfl | rfl
  ·exact⟨u,rfl,h⟩
  ·exact⟨v,rfl,h'⟩
theorem DR.agh {e:TypeId} {w:World} {u v:Value} {n m:Nat} {f g:Nat->Int} (h:Rd .u8 w u n f) (h':Rd .u8 w v m g):
  DR (w.alloc (.cells #[u,v] e)) (.slice (some ⟨w.heap.size,0,none⟩) 2 2) 2 (fun j=>if j=0 then u else v) (kM 1 (fun _=>n) (fun _=>m)) (nL 1 (fun _=>f) (fun _=>g)):=by
 have hb:Below w.heap.size w (w.alloc (.cells #[u,v] e)):=(bT _ _).alloc (bH _) _;refine⟨_,_,rfl,bH _,by decide,(fun h=>by cases h),fun _=>⟨w.heap.size,0,rfl,by simp,fun j hj=>?_⟩⟩;rw[qY,cell_of_row _ _ j _ e (0,0) (heap_alloc_new w _)];rcases(by omega:j=0\/j=1) with rfl | rfl
 ·exact⟨rfl,h.below hb⟩
 ·exact⟨rfl,h'.below hb⟩
def Parts (e:TypeId) (base:Nat) (w:World) (v:Value) (k N:Nat) (F:Nat->Int):Prop:=
 ∃(lens:Nat->Nat) (g:Nat->Nat->Int),fH e base w v (2+2 * k) lens g/\(∀j,j<2+2 * k->∀i,i<lens j->F (dQ lens j+i)=g j i)/\dQ lens (2+2 * k)=N
theorem Parts.start {e:TypeId} {base:Nat} {w:World} {v:Value} {L:Nat} {lab:Nat->Int} {lens:Nat->Nat} {g:Nat->Nat->Int} (h:fH e base w v 2 (kM 1 (fun _=>1) (fun _=>L)) (nL 1 (fun _=>fun _=>(L:Int)) (fun _=>lab))):
  Parts e base w v 0 (vg L lens 0) (CO L lab lens g 0):=by
 have h1:dQ (fun _=>1) 1=1:=by simp[dQ]
 refine⟨_,_,h,?_,by rw[show 2+2 * 0=1+1 from rfl,tF,h1];simp[dQ,vg]⟩;have:=uQ (F1:=fun _=>(L:Int)) (F2:=lab) (l1:=fun _=>1) (l2:=fun _=>L) (m:=1) (m2:=1) (Dj (f:=fun _=>(L:Int)) (n:=1)).1 (Dj (f:=lab) (n:=L)).1;rw[h1] at this;exact this
theorem Parts.step {e:TypeId} {base:Nat} {w w':World} {v v':Value} {L:Nat} {lab:Nat->Int} {lens:Nat->Nat} {g:Nat->Nat->Int} {k:Nat} {l1:Nat->Nat} {g1:Nat->Nat->Int}
  (h1:∀j,j<2+2 * k->∀i,i<l1 j->CO L lab lens g k (dQ l1 j+i)=g1 j i) (h2:dQ l1 (2+2 * k)=vg L lens k)
  (ho:fH e base w' v' (2+2 * k+2) (kM (2+2 * k) l1 (kM 1 (fun _=>4) (fun _=>lens k))) (nL (2+2 * k) g1 (nL 1 (fun _=>KA (lens k)) (fun _=>g k)))):
  Parts e base w' v' (k+1) (vg L lens (k+1)) (CO L lab lens g (k+1)):=by
 have h4:dQ (fun _=>4) 1=4:=by simp[dQ]
 have LM:=uQ (F1:=KA (lens k)) (F2:=g k) (l1:=fun _=>4) (l2:=fun _=>lens k) (m:=1) (m2:=1) (Dj (f:=KA (lens k)) (n:=4)).1 (Dj (f:=g k) (n:=lens k)).1;rw[h4] at LM;have:=uQ h1 LM;rw[h2] at this;refine⟨_,_,ho,this,?_⟩;rw[show 2+2 * (k+1)=2+2 * k+(1+1) by omega,tF,h2,tF,h4];simp[dQ,vg]
variable {P : Program} {a : Act} {w : World} {o : Oper}
theorem Mw (w:World) (src dst e:TypeId) (s:ByteArray) (hs:P.underlying src=some .string) (hd:P.underlying dst=some (.slice e)) (he:P.underlying e=some (.int .u8)) (hl:s.size<=1000000):
  ∃v w',(convert src dst (.string s)).run P w=.ok v w'/\Rd .u8 w' v s.size (pX s)/\Below w.heap.size w w':=by
 refine⟨_,_,run_bytes_of_string w src dst e s hs hd he,⟨_,_,rfl,grownCap_ge w s.size 0 e,?_,(fun h=>by cases h),fun _=>⟨w.heap.size,0,rfl,by simp,fun i hi=>?_⟩⟩,(below_drewN (bT w.heap.size w) 1).alloc (bH _) _⟩
 ·have:=grownCap_le_maxLen w s.size 0 e (by unfold maxLen;omega);unfold maxLen at this;omega
 ·rw[qY,show (w.drew.alloc (.cells (bytesRow s (grownCap w s.size 0 e)) e ((bytesRow s (grownCap w s.size 0 e)).size,(bytesRow s (grownCap w s.size 0 e)).size+1))).cell? ⟨w.heap.size,i,none⟩=(bytesRow s (grownCap w s.size 0 e))[i]? from World.cell?_alloc_mark w.drew _ e _ i,bytesRow_at s _ i (by simpa using hi)];unfold pX;rw[Na,kP (by simpa using hi)]
  rfl
theorem EI {S:Value->World->Prop} {Q:Exit->Act->World->Prop} {src dst e:TypeId} {x:Operand} {s:ByteArray} (hd0:¬ o.dst=none) (ho:o.op=.convert src dst x) (hx:a.eval x=.string s) (hs:P.underlying src=some .string) (hd:P.underlying dst=some (.slice e)) (he:P.underlying e=some (.int .u8)) (hl:s.size<=1000000)
  (hS:∀v w',Rd .u8 w' v s.size (pX s)->S v w'):
  o.wp P a w (fun a' w'=> ∃v,a'=a.put o.dst v/\(o.dst=none->v=undef)/\S v w'/\Below w.heap.size w w') Q:=by
 obtain⟨v,w',hr,h1,h2⟩:=Mw (P:=P) w src dst e s hs hd he hl;have hr':(execOp a.eval o).run P w=.ok (.value v) w':=by
  unfold execOp;simp only[ho,hx,uV,hr,vS,wL]
 unfold Oper.wp;rw[hr'];exact⟨v,rfl,(fun h=>absurd h hd0),hS v w' h1,h2⟩
end Go.bI
