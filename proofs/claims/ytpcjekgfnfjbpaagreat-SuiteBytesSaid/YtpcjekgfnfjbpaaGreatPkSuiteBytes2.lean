/- Part 2 of SuiteBytes; conditions: in each theorem. -/
import Derived.Test.YtpcjekgfnfjbpaaGreatPkSuiteBytes1
import Derived.BigQuiet
import Derived.Deep.QuietTactic
import Derived.Lib.Hide
import Derived.WalkKit
import Derived.WalkLawsBesides
import Derived.WalkSmall
import Derived.WalkSpells
set_option linter.unusedVariables false
set_option linter.unusedSimpArgs false
namespace Go.bC
open Go.RowKit
def Rd (k:IntKind) (w:World) (v:Value) (n:Nat) (f:Nat->Int):Prop:=
 ∃a c,v=.slice a n c/\n<=c/\c<=9223372036854775807/\(a=none->c=0)/\
  (0<n->∃b o,a=some ⟨b,o,none⟩/\b<w.heap.size/\∀i,i<n->w.cell? ⟨b,o+i,none⟩=some (.int k (f i)))
theorem Rd.below {k:IntKind} {w w':World} {v:Value} {n:Nat} {f:Nat->Int} (h:Rd k w v n f) (hb:Below w.heap.size w w'):Rd k w' v n f:=by
 obtain⟨a,c,rfl,h1,h2,h3,h4⟩:=h;refine⟨a,c,rfl,h1,h2,h3,fun hn=>?_⟩;obtain⟨b,o,rfl,hlt,hc⟩:=h4 hn;have:=hb.size;exact⟨b,o,rfl,by omega,fun i hi=>(hb.cell (p:=⟨b,o+i,none⟩) hlt).trans (hc i hi)⟩
theorem Rd.congr {k:IntKind} {w:World} {v:Value} {n:Nat} {f g:Nat->Int} (h:Rd k w v n f) (e:∀i,i<n->f i=g i):Rd k w v n g:=by
 obtain⟨a,c,rfl,h1,h2,h3,h4⟩:=h;refine⟨a,c,rfl,h1,h2,h3,fun hn=>?_⟩;obtain⟨b,o,rfl,hlt,hc⟩:=h4 hn;exact⟨b,o,rfl,hlt,fun i hi=>by rw[hc i hi,e i hi]⟩
theorem Rd.nil (k:IntKind) (w:World) (f:Nat->Int):Rd k w (.slice none 0 0) 0 f:=
 ⟨none,0,rfl,Nat.le_refl _,by omega,fun _=>rfl,fun h=>by omega⟩
def vals (k:IntKind) (n:Nat) (f:Nat->Int):List Value:=(List.range n).map fun i=>.int k (f i)
@[simp] theorem dO (k:IntKind) (n:Nat) (f:Nat->Int):(vals k n f).length=n:=by simp[vals]
theorem qA {k:IntKind} {n:Nat} {f g:Nat->Int} (e:∀i,i<n->f i=g i):vals k n f=vals k n g:=by
 unfold vals;exact List.map_congr_left fun i hi=>by rw[e i (List.mem_range.1 hi)]
theorem dS {k:IntKind} {n:Nat} {f:Nat->Int} {i:Nat} (h:i<n):(vals k n f)[i]? =some (.int k (f i)):=by
 simp[vals,h]
def arr (k:IntKind) (n:Nat) (f:Nat->Int):Array Value:=(vals k n f).toArray
@[simp] theorem gW (k:IntKind) (n:Nat) (f:Nat->Int):(arr k n f).size=n:=by simp[arr]
theorem rA {k:IntKind} {n:Nat} {f:Nat->Int} {i:Nat} (h:i<n):(arr k n f)[i]? =some (.int k (f i)):=by
 simpa [arr] using dS h
theorem gP {k:IntKind} {n:Nat} {f g:Nat->Int} (e:∀i,i<n->f i=g i):arr k n f=arr k n g:=by rw[arr,arr,qA e]
def Own (k:IntKind) (e:TypeId) (base:Nat) (w:World) (v:Value) (n:Nat) (f:Nat->Int):Prop:=
 w.ownsRow base e 1 v n (vals k n f)
theorem Own.rd {k:IntKind} {e:TypeId} {base:Nat} {w:World} {v:Value} {n:Nat} {f:Nat->Int} (h:Own k e base w v n f):Rd k w v n f:=by
 obtain⟨_,h2⟩:=h;rcases h2 with⟨rfl,rfl⟩ | ⟨g,cap,cur,rfl,hb,hg,hn,hc,hs,ht⟩
 ·exact Rd.nil _ _ _
 ·unfold maxLen at hc;refine⟨_,_,rfl,hn,by omega,(fun h=>by cases h),fun _=>⟨g,0,rfl,(Array.getElem?_eq_some_iff.1 hg).1,fun i hi=>?_⟩⟩;rw[Nat.zero_add,cell_of_row w g i cur e (0,0) hg];have:=dS (k:=k) (f:=f) hi;rw[<-ht,List.getElem?_take] at this
  simpa [hi] using this
theorem Own.new (k:IntKind) (e:TypeId) {base:Nat} (w:World) (cs:Array Value) (n:Nat) (f:Nat->Int) (hb:base<=w.heap.size) (hn:n<=9223372036854775807) (hs:cs.size=n) (hc:∀i,i<n->cs[i]? =some (.int k (f i))):
  Own k e base (w.alloc (.cells cs e)) (.slice (some ⟨w.heap.size,0,none⟩) n n) n f:=by
 have hl:cs.toList=vals k n f:=by
  apply List.ext_getElem?
  intro i;by_cases h:i<n
  ·rw[Array.getElem?_toList,hc i h,dS h]
  ·rw[Array.getElem?_toList];simp[h,hs,vals]
 unfold Own;rw[<-hl];exact World.ownsRow_lit w cs n hb (by unfold maxLen;omega) (by simp[hs])
theorem Own.congr {k:IntKind} {e:TypeId} {base:Nat} {w:World} {v:Value} {n:Nat} {f g:Nat->Int} (h:Own k e base w v n f) (q:∀i,i<n->f i=g i):Own k e base w v n g:=by
 unfold Own at *
 rwa [qA q] at h
theorem Own.nil (k:IntKind) (e:TypeId) (base:Nat) (w:World) (f:Nat->Int):Own k e base w (.slice none 0 0) 0 f:=World.ownsRow_nil _ _ _ _
theorem below_drewN {B:Nat} {a w:World} (h:Below B a w) (n:Nat):Below B a (w.drewN n):=h.trans ⟨rfl,rfl,rfl,Nat.le_refl _,fun _ _=>rfl⟩
theorem Ic {P:Program} {t e:TypeId} (ht:P.underlying t=some (.slice e)):P.elem t=e:=by simp[Program.elem,ht]
theorem lN {P:Program} {e:TypeId} {z:Option Value} {bytes size:Nat} (h:(P.info? e).map (fun i=>(i.zero,i.size,i.bytes))=some (z,size,bytes)) (w:World):(sizeOf e).run P w=.ok size w:=by
 obtain⟨i,hi,hx⟩:=Option.map_eq_some_iff.1 h;simp only[Prod.mk.injEq] at hx;simp[sizeOf,typeInfo,hi,hx.2.1]
theorem Rd.cut {P:Program} {t e:TypeId} {k:IntKind} {bytes:Nat} (ht:P.underlying t=some (.slice e)) (hinfo:(P.info? e).map (fun i=>(i.zero,i.size,i.bytes))=some (some (.int k 0),1,bytes))
  (a:Option Addr) (n c lo hi:Nat) (h1:lo<=hi) (h2:hi<=n) (h3:n<=c):
  ∃a',(∀w,(Instr.sliceAt t (.slice a n c) (some (.int .i64 (lo:Int))) (some (.int .i64 (hi:Int))) none).run P w=.ok (.slice a' (hi - lo) (c - lo)) w)/\
   (∀w,(Instr.sliceAt t (.slice a n c) (some (.int .i64 (lo:Int))) none none).run P w=.ok (.slice a' (n - lo) (c - lo)) w)/\
   ∀(w:World) (f:Nat->Int),Rd k w (.slice a n c) n f->(Rd k w (.slice a' (hi - lo) (c - lo)) (hi - lo) (fun i=>f (lo+i))/\Rd k w (.slice a' (n - lo) (c - lo)) (n - lo) (fun i=>f (lo+i))):=by
 have hel:=Ic ht;have ht':P.underlying t=some (.slice (P.elem t)):=by rw[hel];exact ht
 refine⟨if c=lo then a else a.map (·.add (lo * 1)),fun w=>?_,fun w=>?_,fun w f hr=>?_⟩
 ·rw[run_sliceAt_slice w t _ _ _ _ ht',run_slice_lh w t a n c ht' .i64 .i64 lo hi (by omega) (by omega) (by omega),hel,lN hinfo];simp[Result.andThen,sliced]
 ·rw[run_sliceAt_slice w t _ _ _ _ ht',run_slice_l w t a n c ht' .i64 lo (by omega) (by omega),hel,lN hinfo];simp[Result.andThen,sliced]
 ·obtain⟨a0,c0,he,l1,l2,l3,l4⟩:=hr;simp only[Value.slice.injEq,true_and] at he;obtain⟨rfl,rfl⟩:=he;have key:∀m,m<=n - lo->Rd k w (.slice (if c=lo then a else a.map (·.add (lo * 1))) m (c - lo)) m (fun i=>f (lo+i)):=by
   intro m hm;refine⟨_,_,rfl,by omega,by omega,fun hn=>?_,fun hm0=>?_⟩
   ·by_cases hc:c=lo
    ·omega
    ·rw[if_neg hc] at hn
     cases a with
     | none=>have:=l3 rfl;omega
     | some x=>simp at hn
   ·obtain⟨b,o,rfl,hlt,hcell⟩:=l4 (by omega);rw[if_neg (by omega)];have hadd:(⟨b,o,none⟩:Addr).add (lo * 1)=⟨b,o+lo,none⟩:=by unfold Addr.add;split<;> simp_all
    refine⟨b,o+lo,by simpa using hadd,hlt,fun i hi=>?_⟩;rw[Nat.add_assoc];exact hcell _ (by omega)
  exact⟨key _ (by omega),key _ (Nat.le_refl _)⟩
theorem Rd.cutAt {k:IntKind} {w:World} {b o n c:Nat} {f:Nat->Int} (h:Rd k w (.slice (some ⟨b,o,none⟩) n c) n f) (lo m:Nat) (hm:lo+m<=n):
  Rd k w (.slice (if c=lo then some ⟨b,o,none⟩ else some ⟨b,o+lo,none⟩) m (c - lo)) m (fun i=>f (lo+i)):=by
 obtain⟨a0,c0,he,l1,l2,l3,l4⟩:=h;simp only[Value.slice.injEq,true_and] at he;obtain⟨rfl,rfl⟩:=he;refine⟨_,_,rfl,by omega,by omega,fun hn=>?_,fun hm0=>?_⟩
 ·by_cases hc:c=lo
  ·omega
  ·rw[if_neg hc] at hn;cases hn
 ·obtain⟨b',o',he,hlt,hcell⟩:=l4 (by omega);simp only[Option.some.injEq,Addr.mk.injEq,and_true] at he;obtain⟨rfl,rfl⟩:=he;rw[if_neg (by omega)];refine⟨b,o+lo,rfl,hlt,fun i hi=>?_⟩;rw[Nat.add_assoc];exact hcell _ (by omega)
theorem ER {w0 w1:World} {o:Obj} {row:Option Nat} {p:Addr} {v:Value} (hg:(w0.alloc o).drew.grownBy w1 row) (gB:some p.block≠row) (h:w0.cell? p=some v):w1.cell? p=some v:=by
 refine hg.cell ?_ gB;have hlt:=World.block_lt_of_cell? _ _ h;have:(w0.alloc o).drew.heap[p.block]? =w0.heap[p.block]?:=Below.heap_alloc w0 o p.block hlt;exact(World.cell?_of_block this).trans h
theorem rX {x:Int} (h0:0<=x) (h1:x<4294967296):IntKind.u32.wrap x=x:=by rw[IntKind.wrap_u32'];omega
theorem iY {x:Int} (h0:0<=x) (h1:x<18446744073709551616):IntKind.u64.wrap x=x:=by rw[IntKind.wrap_u64];omega
theorem bI {x:Int} (h0: -9223372036854775808<=x) (h1:x<9223372036854775808):IntKind.i64.wrap x=x:=by rw[IntKind.wrap_i64];omega
theorem Own.far {k:IntKind} {e:TypeId} {base:Nat} {w:World} {v:Value} {n:Nat} {f:Nat->Int} (h:Own k e base w v n f) {b:Nat} (hb:b<base):some b≠v.ownBlock:=fun e=>by have:=(World.ownsRow.lt h b e.symm).1;omega
theorem jU {i:Nat} {k:IntKind} {x y:Int} (hi:i<1) (h:x=y):(#[Value.int k x])[i]? =some (.int k y):=by
 obtain rfl:i=0:=by omega
 rw[h];rfl
theorem afc {i j:Nat} {f:Nat->Int} (hi:i<1):f (j+i)=f j:=by
 obtain rfl:i=0:=by omega
 rfl
theorem Lu (k:IntKind) (n:Nat) (x:Int):List.replicate n (Value.int k x)=vals k n (fun _=>x):=by
 apply List.ext_getElem?
 intro i;by_cases h:i<n
 ·rw[dS h];simp[h]
 ·simp[h,vals]
theorem iB {P:Program} {w:World} {ops:Array Oper} {rest:List Oper} {o:Oper} {a:Act} {Q:Exit->Act->World->Prop}
  (hg:o.guard=none) (l c:Operand) (t:TypeId) (hop:o.op=Op.makeSlice t l c) (base:Nat) (e:TypeId) (k:IntKind) (bytes:Nat)
  (h1:P.underlying t=some (.slice e)) (hinfo:(P.info? e).map (fun i=>(i.zero,i.size,i.bytes))=some (some (.int k 0),1,bytes))
  (kl kc:IntKind) (n:Nat) (hl:a.eval l=.int kl (n:Int)) (hc:a.eval c=.int kc (n:Int)) (b2:bytes * n<=281474976710656) (b3:n<=9223372036854775807) (b4:base<=w.heap.size)
  (hK:∀w',Own k e base w' (.slice (some ⟨w.heap.size,0,none⟩) n n) n (fun _=>0)->w.grownBy w' none->wpList P ops Q rest (a.put o.dst (.slice (some ⟨w.heap.size,0,none⟩) n n)) w'):
  wpList P ops Q (o::rest) a w:=by
 obtain⟨i,hi,hz0,hz1,hz2⟩:=info_parts hinfo;refine wpList_make_full w hg l c t hop base e i (.int k 0) 1 h1 hi hz0 hz1 kl kc n n n hl hc rfl rfl (by rw[hz2];exact b2) (by unfold maxLen;omega) b4 ?_;intro w' bM bA;refine hK w' ?_ bA;unfold Own
 simpa [toList_madeCells_one,Value.cells,Lu] using bM
theorem cO {P:Program} {w:World} {ops:Array Oper} {rest:List Oper} {o:Oper} {a:Act} {Q:Exit->Act->World->Prop}
  (hg:o.guard=none) (s x:Operand) (t:TypeId) (hop:o.op=.call { callee:=.builtin .append,args:=#[s,x],argTypes:=#[t,t] })
  (base:Nat) (e:TypeId) (k:IntKind) (bytes:Nat)
  (h1:P.underlying t=some (.slice e)) (hinfo:(P.info? e).map (fun i=>(i.zero,i.size,i.bytes))=some (some (.int k 0),1,bytes))
  (v:Value) (n:Nat) (f:Nat->Int) (w0:World) (cs:Array Value) (hw:w=w0.alloc (.cells cs e)) (bM:Own k e base w0 v n f) (hs:a.eval s=v)
  (m:Nat) (hx:a.eval x=.slice (some ⟨w0.heap.size,0,none⟩) m m) (hm:cs.size=m) (hc:∀i,i<m->cs[i]? =some (.int k (f (n+i))))
  (b2:(n+m) * bytes<=140737488355328) (b3:n+m<=9223372036854775807) (b4:base<=w0.heap.size)
  (hK:∀v' w',Own k e base w' v' (n+m) f->w.grownBy w' v.ownBlock->wpList P ops Q rest (a.put o.dst v') w'):
  wpList P ops Q (o::rest) a w:=by
 subst hw;obtain⟨i,hi,hz0,hz1,hz2⟩:=info_parts hinfo;have hnews:cs.toList=(List.range m).map fun i=>Value.int k (f (n+i)):=by
  apply List.ext_getElem?
  intro i;by_cases h:i<m
  ·rw[Array.getElem?_toList,hc i h];simp[h]
  ·rw[Array.getElem?_toList];simp[h,hm]
 have hv:vals k n f++cs.toList=vals k (n+m) f:=by
  rw[hnews];unfold vals;rw[List.range_add];simp
 refine wpList_append_own _ hg s x t hop base e i (.int k 0) 1 bytes h1 hi hz0 hz1 hz2 rfl (by decide) v n (vals k n f) hs (World.ownsRow.alloc bM _) ⟨w0.heap.size,0,none⟩ m m cs.toList hx (by simp[hm]) ?_ ?_ (by unfold maxLen;omega) b2 (by simp;omega) ?_
 ·intro j u hu;have hadd:(⟨w0.heap.size,0,none⟩:Addr).add j=⟨w0.heap.size,j,none⟩:=by unfold Addr.add;split<;> simp_all
  rw[hadd,cell_of_row (w0.alloc (.cells cs e)) w0.heap.size j cs e (0,0) (heap_alloc_new w0 _)]
  simpa using hu
 ·intro u hu;rw[hnews] at hu;obtain⟨_,_,rfl⟩:=List.mem_map.1 hu
  rfl
 ·intro v' w' hown' bA _;refine hK v' w' ?_ bA;unfold Own;rw[<-hv];exact hown'
theorem kP {P:Program} {w:World} {o:Oper} {a:Act} {K:Act->World->Prop} {Q:Exit->Act->World->Prop}
  (s x:Operand) (t:TypeId) (hop:o.op=.call { callee:=.builtin .append,args:=#[s,x],argTypes:=#[t,t] })
  (base:Nat) (e:TypeId) (k:IntKind) (bytes:Nat)
  (h1:P.underlying t=some (.slice e)) (hinfo:(P.info? e).map (fun i=>(i.zero,i.size,i.bytes))=some (some (.int k 0),1,bytes))
  (v:Value) (n:Nat) (f:Nat->Int) (bM:Own k e base w v n f) (hs:a.eval s=v)
  (u:Value) (m:Nat) (g:Nat->Int) (hrd:Rd k w u m g) (hx:a.eval x=u) (hf:∀i,i<m->f (n+i)=g i)
  (b2:(n+m) * bytes<=140737488355328) (b3:n+m<=9223372036854775807) (b4:base<=w.heap.size)
  (hK:∀v' w',Own k e base w' v' (n+m) f->w.grownBy w' v.ownBlock->K (a.put o.dst v') w'):
  o.wp P a w K Q:=by
 obtain⟨i,hi,hz0,hz1,hz2⟩:=info_parts hinfo;have hv:vals k n f++vals k m g=vals k (n+m) f:=by
  unfold vals;rw[List.range_add];simp only[List.map_append,List.map_map]
  congr 1
  exact List.map_congr_left fun i hi=>by simp[hf i (List.mem_range.1 hi)]
 obtain⟨ao,c,rfl,l1,l2,l3,l4⟩:=hrd
 cases ao with
 | none=>
  have hm:m=0:=by have:=l3 rfl;omega
  subst hm;have hr:=run_append_owned_none (P:=P) w base t o.type e i 1 h1 hi v n _ bM;have hc0:=l3 rfl;subst hc0;unfold Oper.wp execOp;simp only[hop,resolve,invoke,builtin,Sem.run_bind,Sem.run_pure,Result.andThen_ok,List.map_toArray,List.map_cons,List.map_nil,hs,hx,hr];exact hK v w (by simpa using bM) (World.grownBy.refl _ _)
 | some ad=>
  refine wp_append_own w s x t hop base e i (.int k 0) 1 bytes h1 hi hz0 hz1 hz2 rfl (by decide) v n (vals k n f) hs bM ad m c (vals k m g) hx (by simp) ?_ ?_ (by unfold maxLen;omega) b2 b4 ?_
  ·intro j u hu;have hj:j<m:=by
    have:=(List.getElem?_eq_some_iff.1 hu).1
    simpa using this
   obtain⟨b,of,hb,_,hcell⟩:=l4 (by omega);obtain rfl:=Option.some.inj hb;have hadd:(⟨b,of,none⟩:Addr).add j=⟨b,of+j,none⟩:=by unfold Addr.add;split<;> simp_all
   rw[hadd,hcell j hj,←dS (k:=k) (f:=g) hj];exact hu
  ·intro u hu;obtain⟨_,_,rfl⟩:=List.mem_map.1 hu
   rfl
  ·intro v' w' hown' bA _;refine hK v' w' ?_ bA;unfold Own;rw[<-hv];exact hown'
theorem fH {P:Program} {w:World} {ops:Array Oper} {rest:List Oper} {o:Oper} {a:Act} {Q:Exit->Act->World->Prop}
  (hg:o.guard=none) (s x:Operand) (t:TypeId) (hop:o.op=.call { callee:=.builtin .append,args:=#[s,x],argTypes:=#[t,t] })
  (base:Nat) (e:TypeId) (k:IntKind) (bytes:Nat)
  (h1:P.underlying t=some (.slice e)) (hinfo:(P.info? e).map (fun i=>(i.zero,i.size,i.bytes))=some (some (.int k 0),1,bytes))
  (v:Value) (n:Nat) (f:Nat->Int) (bM:Own k e base w v n f) (hs:a.eval s=v)
  (u:Value) (m:Nat) (g:Nat->Int) (hrd:Rd k w u m g) (hx:a.eval x=u) (hf:∀i,i<m->f (n+i)=g i)
  (b2:(n+m) * bytes<=140737488355328) (b3:n+m<=9223372036854775807) (b4:base<=w.heap.size)
  (hK:∀v' w',Own k e base w' v' (n+m) f->w.grownBy w' v.ownBlock->wpList P ops Q rest (a.put o.dst v') w'):
  wpList P ops Q (o::rest) a w:=
 wpList_plain hg fun _ hK'=>kP s x t hop base e k bytes h1 hinfo v n f bM hs u m g hrd hx hf b2 b3 b4 fun v' w' q1 q2=>hK' _ _ (hK v' w' q1 q2)
theorem Ay {P:Program} {w:World} {ops:Array Oper} {o:Oper} {a:Act} {K:Act->World->Prop} {Q:Exit->Act->World->Prop} {E:Prop}
  (hg:o.guard=none) (s x:Operand) (t:TypeId) (hop:o.op=.call { callee:=.builtin .append,args:=#[s,x],argTypes:=#[t,t] })
  (base:Nat) (e:TypeId) (k:IntKind) (bytes:Nat)
  (h1:P.underlying t=some (.slice e)) (hinfo:(P.info? e).map (fun i=>(i.zero,i.size,i.bytes))=some (some (.int k 0),1,bytes))
  (v:Value) (n:Nat) (f:Nat->Int) (bM:Own k e base w v n f) (hs:a.eval s=v)
  (u:Value) (m:Nat) (g:Nat->Int) (hrd:Rd k w u m g) (hx:a.eval x=u) (hf:∀i,i<m->f (n+i)=g i)
  (b2:(n+m) * bytes<=140737488355328) (b3:n+m<=9223372036854775807) (b4:base<=w.heap.size)
  (hK:∀v' w',Own k e base w' v' (n+m) f->w.grownBy w' v.ownBlock->K (a.put o.dst v') w'):
  if Region.wanted o (yielded ops a.tmps)=true then Oper.wp P o a w K Q else E:=by
 have hw:Region.wanted o (yielded ops a.tmps)=true:=by simp[Region.wanted,hg]
 rw[if_pos hw];exact kP s x t hop base e k bytes h1 hinfo v n f bM hs u m g hrd hx hf b2 b3 b4 hK
def upd (f:Nat->Int) (j:Nat) (x:Int):Nat->Int:=fun i=>if i=j then x else f i
theorem VO (n:Int) (i:Nat):n / 2 ^ (8 * (i+1))=n / 2 ^ (8 * i) / 256:=by
 rw[Int.ediv_ediv_of_nonneg (Int.le_of_lt (Int.pow_pos (by decide))),show 8 * (i+1)=8 * i+8 from rfl,Int.pow_add]
 rfl
theorem Rb {n:Int} (h:0<=n) (i:Nat):0<=n / 2 ^ i/\n / 2 ^ i<=n:=
 ⟨Int.ediv_nonneg h (Int.le_of_lt (Int.pow_pos (by decide))),Int.ediv_le_self _ h⟩
def big (f:Nat->Int):Nat->Int
 | 0=>0
 | k+1=>256 * big f k+f k
theorem nQ {f:Nat->Int} {n:Nat} (hf:∀i,i<n->0<=f i/\f i<256):∀k,k<=n->0<=big f k/\big f k<256 ^ k:=by
 intro k
 induction k with
 | zero=>intro _;simp[big]
 | succ k ih=>
  intro hk;have h1:=ih (by omega);have h2:=hf k (by omega);rw[big,Int.pow_succ];omega
theorem jg (b:Int) (hb:1<=b) (k m:Nat) (h:k<=m):b ^ k<=b ^ m:=by
 obtain⟨d,rfl⟩:=Nat.exists_eq_add_of_le h;clear h
 induction d with
 | zero=>exact Int.le_refl _
 | succ d ih=>
  rw[<-Nat.add_assoc,Int.pow_succ];have h0:0<b ^ (k+d):=Int.pow_pos (by omega);have:=Int.mul_le_mul_of_nonneg_left hb (Int.le_of_lt h0);omega
theorem Il {f:Nat->Int} {n:Nat} (hf:∀i,i<n->0<=f i/\f i<256) (k m:Nat) (hk:k<=n) (hm:k<=m):big f k<256 ^ m:=
 Int.lt_of_lt_of_le (nQ hf k hk).2 (jg 256 (by decide) k m hm)
def mV (f:Nat->Int) (n:Nat):Int:=if n=0\/8<n\/4611686018427387904<big f n then 0 else big f n
def qR (f:Nat->Int) (n:Nat):Int:=if n=0 then 10 else if 8<n then 2 else if 4611686018427387904<big f n then 11 else 0
theorem Rt {f g:Nat->Int} {n:Nat} (h:∀i,i<n->f i=g i):∀k,k<=n->big f k=big g k:=by
 intro k
 induction k with
 | zero=>intro _;rfl
 | succ k ih=>intro hk;rw[big,big,ih (by omega),h k (by omega)]
theorem TW {x c:Int} (h0:0<=x) (h1:x<72057594037927936) (h2:0<=c) (h3:c<256):bits .or .u64 (x * 256) c=256 * x+c:=by
 rw[u64_or _ _ (by omega) (by omega) (by omega) (by omega),nat_join 8 _ _ (by omega) (by omega)];omega
theorem yP {x:Int} (h0:0<=x) (h1:x<4294967296):bits .and .u32 x 65535=x % 65536:=by
 rw[u32_and _ _ h0 h1 (by decide) (by decide),show (65535:Int).toNat=65535 from rfl,nat_mask16];omega
theorem Yo {a b:Int} (h0:0<=a) (h1:a<256) (h2:0<=b) (h3:b<256):bits .or .u32 a (b * 256)=a+b * 256:=by
 rw[u32_or a _ h0 (by omega) (by omega) (by omega),Nat.or_comm,nat_join 8 _ _ (by omega) (by omega)];omega
theorem or_bit {x c:Int} (h0:0<=x) (h1:x<2147483648) (h2:0<=c) (h3:c<=1):bits .or .u32 (x * 2) c=x * 2+c:=by
 rw[u32_or _ _ (by omega) (by omega) (by omega) (by omega),nat_join 1 _ _ (by omega) (by omega)];omega
def upto (j:Nat) (g f:Nat->Int):Nat->Int:=fun i=>if i<j then g i else f i
theorem dH (g f:Nat->Int):upto 0 g f=f:=by funext i;simp[upto]
theorem bW {j:Nat} {g f:Nat->Int} {x:Int} (h:x=g j):upd (upto j g f) j x=upto (j+1) g f:=by
 funext i
 unfold upd upto;by_cases e:i=j
 ·subst e;simp[h]
 ·by_cases e':i<j
  ·rw[if_neg e,if_pos e',if_pos (by omega)]
  ·rw[if_neg e,if_neg e',if_neg (by omega)]
theorem dQ {j n:Nat} (g f:Nat->Int) (h:n<=j):∀i,i<n->upto j g f i=g i:=fun i hi=>if_pos (by omega)
theorem upto_at {j:Nat} (g f:Nat->Int):upto j g f j=f j:=if_neg (by omega)
theorem Own.form {k:IntKind} {e:TypeId} {base:Nat} {w:World} {v:Value} {n:Nat} {f:Nat->Int} (h:Own k e base w v n f) (hn:0<n):
  ∃g c,v=.slice (some ⟨g,0,none⟩) n c/\base<=g/\g<w.heap.size/\n<=c/\c<=9223372036854775807/\(∀i,i<n->w.cell? ⟨g,i,none⟩=some (.int k (f i)))/\∀i,w.frozen? ⟨g,i,none⟩=false:=by
 have hr:=h.rd;have h0:=h;obtain⟨_,h2⟩:=h;rcases h2 with⟨rfl,rfl⟩ | ⟨g,cap,cur,rfl,hb,hg,hn',hc,hs,ht⟩
 ·omega
 ·unfold maxLen at hc;refine⟨g,cap,rfl,hb,(Array.getElem?_eq_some_iff.1 hg).1,hn',by omega,fun i hi=>?_,fun i=>frozen_of_row w g i cur e hg⟩;obtain⟨a,c,he,_,_,_,h4⟩:=hr;obtain⟨b,o,rfl,_,hcell⟩:=h4 hn;simp only[Value.slice.injEq,Option.some.injEq,Addr.mk.injEq,and_true,true_and] at he;obtain⟨⟨rfl,rfl⟩,_⟩:=he
  simpa using hcell i hi
theorem IW {k:IntKind} {n:Nat} {f:Nat->Int} (j:Nat) (x:Int):(vals k n f).set j (.int k x)=vals k n (upd f j x):=by
 apply List.ext_getElem?
 intro i;rw[List.getElem?_set];by_cases hi:i<n
 ·rw[dS hi,dS hi];unfold upd;by_cases jw:j=i
  ·subst jw;simp[hi]
  ·rw[if_neg jw,if_neg (fun e=>jw e.symm)]
 ·have:(vals k n f)[i]? =none:=by simp;omega
  rw[this];have:(vals k n (upd f j x))[i]? =none:=by simp;omega
  rw[this];by_cases jw:j=i
  ·subst jw;simp;omega
  ·simp[jw]
theorem Own.store {k:IntKind} {e:TypeId} {base:Nat} {w:World} {g n c:Nat} {f:Nat->Int} (h:Own k e base w (.slice (some ⟨g,0,none⟩) n c) n f) (j:Nat) (x:Int):
  Own k e base (w.setCell ⟨g,j,none⟩ (.int k x)) (.slice (some ⟨g,0,none⟩) n c) n (upd f j x):=by
 have:=(World.ownsRow.stored h j (.int k x)).1;unfold Own
 rwa [IW] at this
theorem Own.alloc {k:IntKind} {e:TypeId} {base:Nat} {w:World} {v:Value} {n:Nat} {f:Nat->Int} (h:Own k e base w v n f) (o:Obj):Own k e base (w.alloc o) v n f:=World.ownsRow.alloc h o
theorem Own.drew {k:IntKind} {e:TypeId} {base:Nat} {w:World} {v:Value} {n:Nat} {f:Nat->Int} (h:Own k e base w v n f):Own k e base w.drew v n f:=h
theorem size_setCell (w:World) (a:Addr) (v:Value):(w.setCell a v).heap.size=w.heap.size:=by simp[World.setCell]
theorem Own.drewN {k:IntKind} {e:TypeId} {base:Nat} {w:World} {v:Value} {n:Nat} {f:Nat->Int} (h:Own k e base w v n f) (m:Nat):Own k e base (w.drewN m) v n f:=h
theorem Own.below {k:IntKind} {e:TypeId} {base:Nat} {w w':World} {v:Value} {n:Nat} {f:Nat->Int} (h:Own k e base w v n f) (hb:Below w.heap.size w w'):Own k e base w' v n f:=by
 refine⟨h.1,?_⟩;rcases h.2 with hn | ⟨g,cap,cur,rfl,hb',hgg,rest⟩
 ·exact .inl hn
 ·refine .inr ⟨g,cap,cur,rfl,hb',?_,rest⟩;rw[hb.block g (Array.getElem?_eq_some_iff.1 hgg).1];exact hgg
theorem Own.mono {k:IntKind} {e:TypeId} {base base':Nat} {w:World} {v:Value} {n:Nat} {f:Nat->Int} (h:Own k e base w v n f) (hb:base'<=base):Own k e base' w v n f:=by
 refine⟨h.1,?_⟩;rcases h.2 with hn | ⟨g,cap,cur,rfl,hb',rest⟩
 ·exact .inl hn
 ·exact .inr ⟨g,cap,cur,rfl,by omega,rest⟩
theorem Own.block {k:IntKind} {e:TypeId} {base:Nat} {w:World} {v:Value} {n:Nat} {f:Nat->Int} (h:Own k e base w v n f):∀b,v.ownBlock=some b->base<=b:=
 fun b hb=>(World.ownsRow.lt h b hb).1
theorem below_grown {B:Nat} {a w w':World} {k:IntKind} {e:TypeId} {base:Nat} {v:Value} {n:Nat} {f:Nat->Int} {w0:World} (h:Below B a w) (hg:w.grownBy w' v.ownBlock) (ho:Own k e base w0 v n f) (hB:B<=w.heap.size) (hbase:B<=base):Below B a w':=
 h.grown hg hB fun b hb=>Nat.le_trans hbase (ho.block b hb)
theorem dW {B:Nat} {a w w':World} (h:Below B a w) (hg:w.grownBy w' none) (hB:B<=w.heap.size):Below B a w':=
 h.grown hg hB fun b hb=>by cases hb
theorem _root_.bB:type_of% @Nat.le_refl:=@Nat.le_refl
theorem _root_.bT:type_of% @Below.refl:=@Below.refl
theorem _root_.dK:type_of% @List.setIfInBounds_toArray:=@List.setIfInBounds_toArray
theorem _root_.dM:type_of% @List.set_cons_zero:=@List.set_cons_zero
theorem _root_.dL:type_of% @List.set_cons_succ:=@List.set_cons_succ
theorem _root_.iy:type_of% @Option.some.inj:=@Option.some.inj
theorem _root_.ZqG:type_of% @Array.getElem?_eq_some_iff:=@Array.getElem?_eq_some_iff
theorem _root_.tO:type_of% @List.getElem?_eq_getElem:=@List.getElem?_eq_getElem
theorem _root_.ZqI:type_of% @List.getElem?_eq_some_iff:=@List.getElem?_eq_some_iff
theorem _root_.mP:type_of% @Bool.or_eq_true:=@Bool.or_eq_true
theorem _root_.jS:type_of% @Nat.le_trans:=@Nat.le_trans
theorem _root_.gX:type_of% @Nat.zero_le:=@Nat.zero_le
theorem _root_.IQ:type_of% @List.getElem?_append_right:=@List.getElem?_append_right
theorem _root_.NM:type_of% @List.getElem?_append_left:=@List.getElem?_append_left
theorem _root_.IL:type_of% @Int.eq_ofNat_of_zero_le:=@Int.eq_ofNat_of_zero_le
theorem _root_.uO:type_of% @Int.emod_eq_of_lt:=@Int.emod_eq_of_lt
theorem _root_.zO:type_of% @Nat.lt_of_lt_of_le:=@Nat.lt_of_lt_of_le
theorem _root_.zw:type_of% @List.map_toArray:=@List.map_toArray
theorem _root_.DW:type_of% @Int.emod_add_mul_ediv:=@Int.emod_add_mul_ediv
theorem _root_.IK:type_of% @List.getD_eq_getElem?_getD:=@List.getD_eq_getElem?_getD
theorem _root_.FC:type_of% @Int.emod_lt_of_pos:=@Int.emod_lt_of_pos
theorem _root_.WQ:type_of% @Nat.add_sub_cancel_left:=@Nat.add_sub_cancel_left
theorem _root_.Ct:type_of% @Int.toNat_natCast:=@Int.toNat_natCast
theorem _root_.oD:type_of% @Nat.zero_add:=@Nat.zero_add
theorem _root_.CQ:type_of% @List.all_eq_true:=@List.all_eq_true
theorem _root_.NK:type_of% @Bool.and_eq_true:=@Bool.and_eq_true
theorem _root_.Zqa:type_of% @List.mem_range:=@List.mem_range
theorem _root_.Zqb:type_of% @Option.map_eq_some_iff:=@Option.map_eq_some_iff
theorem _root_.vG:type_of% @Result.andThen_ok:=@Result.andThen_ok
theorem _root_.uD:type_of% @Sem.run_bind:=@Sem.run_bind
theorem _root_.xI:type_of% @Sem.run_pure:=@Sem.run_pure
theorem _root_.vF:type_of% @Int.le_of_lt:=@Int.le_of_lt
theorem _root_.Pg:type_of% @Int.tdiv_eq_ediv_of_nonneg:=@Int.tdiv_eq_ediv_of_nonneg
theorem _root_.CP:type_of% @Int.ediv_eq_zero_of_lt:=@Int.ediv_eq_zero_of_lt
theorem _root_.zN:type_of% @Int.emod_nonneg:=@Int.emod_nonneg
theorem _root_.DV:type_of% @Value.slice.injEq:=@Value.slice.injEq
theorem _root_.CO:type_of% @Option.some.injEq:=@Option.some.injEq
end Go.bC
namespace Go.bC
theorem _root_.ak {p:Prop} (h:p):Go.RowKit.Hid p:=h
theorem _root_.aL {p q:Prop} (h:¬p:=by decide):p->q:=fun hp=>absurd hp h
theorem _root_.aN {p:Prop} (h:p:=by decide):p:=h
theorem _root_.aH {p:Prop} (h:p:=by omega):p:=h
theorem _root_.aS {p:Prop} (h:p:=by kernel_rfl):p:=h
theorem _root_.aR {p:Prop} (h:p:=by simp):p:=h
def sm (B:Int) (f:Nat->Int):Nat->Int
 | 0=>0
 | n+1=>sm B f n+f n * B ^ n
def dg (B X:Int) (i:Nat):Int:=X / B ^ i % B
theorem eG {B:Int} (hB:0<B) (n:Nat):0<B ^ n:=Int.pow_pos hB
theorem OW (B X:Int):dg B X 0=X % B:=by simp[dg]
theorem dJ {B:Int} (hB:0<B) (X:Int) (i:Nat):X / B ^ (i+1)=X / B ^ i / B:=by
 rw[Int.pow_succ,Int.ediv_ediv_of_nonneg (vF (eG hB i))]
theorem aV {B:Int} (hB:0<B) (X:Int) (i:Nat):0<=dg B X i/\dg B X i<B:=⟨zN _ aH,FC _ hB⟩
theorem pO {B:Int} {f g:Nat->Int} {n:Nat} (h:∀i,i<n->f i=g i):sm B f n=sm B g n:=by
 induction n with
 | zero=>rfl
 | succ n ih=>rw[sm,sm,ih fun i hi=>h i aH,h n aH]
theorem lW {B:Int} (hB:0<B) {f:Nat->Int} {n:Nat} (h:∀i,i<n->0<=f i/\f i<B):0<=sm B f n/\sm B f n<B ^ n:=by
 induction n with
 | zero=>simp[sm]
 | succ n ih=>
  have h1:=ih fun i hi=>h i aH;have h2:=h n aH;have hp:=eG hB n;rw[sm,Int.pow_succ]
  constructor
  ·have:=Int.mul_nonneg h2.1 (vF hp);omega
  ·have h3:f n * B ^ n<=(B - 1) * B ^ n:=Int.mul_le_mul_of_nonneg_right aH (vF hp);rw[Int.sub_mul,Int.one_mul] at h3;rw[Int.mul_comm (B ^ n) B];omega
theorem Jr {B:Int} (X:Int) (n:Nat):X=X % B ^ n+X / B ^ n * B ^ n:=by
 have:=DW X (B ^ n);rw[Int.mul_comm] at this;omega
theorem mod_succ {B:Int} (hB:0<B) (X:Int) (n:Nat):X % B ^ (n+1)=X % B ^ n+dg B X n * B ^ n:=by
 have h1:=Jr (B:=B) X n;have h2:=Jr (B:=B) X (n+1);have h3:=DW (X / B ^ n) B;rw[dJ hB] at h2;unfold dg
 generalize X / B ^ n=q at *
 have:q * B ^ n=q % B * B ^ n+q / B * B ^ (n+1):=by
  rw[Int.pow_succ]
  calc q * B ^ n=(q % B+B * (q / B)) * B ^ n:=by rw[h3]
   _=q % B * B ^ n+q / B * (B ^ n * B):=by rw[Int.add_mul];congr 1;rw[Int.mul_comm B,Int.mul_assoc,Int.mul_comm B]
 omega
theorem rF {B:Int} (hB:0<B) (X:Int) (n:Nat):sm B (dg B X) n=X % B ^ n:=by
 induction n with
 | zero=>simp[sm,Int.emod_one]
 | succ n ih=>rw[sm,ih,mod_succ hB]
theorem VQ {B:Int} (hB:0<B) (X Y:Int) (n i:Nat) (h:i<n):dg B (X+Y * B ^ n) i=dg B X i:=by
 unfold dg;obtain⟨d,rfl⟩:=Nat.exists_eq_add_of_le h;have hp:=eG hB i;rw[show B ^ (i.succ+d)=B ^ i * (B * B ^ d) by rw[<-Int.pow_succ',←Int.pow_add];congr 1;omega];rw[show Y * (B ^ i * (B * B ^ d))=Y * B ^ d * B * B ^ i by
  rw[Int.mul_comm (B ^ i),←Int.mul_assoc,Int.mul_comm B,←Int.mul_assoc]]
 rw[Int.add_mul_ediv_right _ _ aH,Int.add_mul_emod_self_right]
theorem tJ {B:Int} (hB:0<B) {f:Nat->Int} {n:Nat} (h:∀i,i<n->0<=f i/\f i<B):∀i,i<n->dg B (sm B f n) i=f i:=by
 induction n with
 | zero=>intro i hi;omega
 | succ n ih=>
  intro i hi;by_cases e:i=n
  ·subst e;have hb:=lW hB fun j hj=>h j (Nat.lt_succ_of_lt hj);have hp:=eG hB i;rw[sm,dg,Int.add_mul_ediv_right _ _ aH,CP hb.1 hb.2,Int.zero_add];exact uO (h i hi).1 (h i hi).2
  ·rw[sm,VQ hB _ _ _ _ aH];exact ih (fun j hj=>h j aH) i aH
theorem VN {B:Int} (hB:0<B) {X Y:Int} {n:Nat} (hX:0<=X/\X<B ^ n) (hY:0<=Y/\Y<B ^ n) (h:∀i,i<n->dg B X i=dg B Y i):X=Y:=by
 have h1:=rF hB X n;have h2:=rF hB Y n;rw[pO h,h2,uO hY.1 hY.2,uO hX.1 hX.2] at h1;exact h1.symm
theorem Zk {B:Int} (hB:0<B) (X:Int) (i:Nat):dg (B * B) X i=dg B X (2 * i)+dg B X (2 * i+1) * B:=by
 unfold dg;rw[show (B * B) ^ i=B ^ (2 * i) by rw[show B * B=B ^ 2 by rw[Int.pow_succ,Int.pow_succ,Int.pow_zero,Int.one_mul],←Int.pow_mul],dJ hB X (2 * i)]
 generalize X / B ^ (2 * i)=q
 have h1:=DW q (B * B);have h2:=DW q B;have h3:=DW (q / B) B;have h4:q / (B * B)=q / B / B:=(Int.ediv_ediv_of_nonneg (vF hB)).symm;rw[h4,Int.mul_assoc] at h1;have h5:B * (q / B)=B * (q / B % B+B * (q / B / B)):=by rw[h3]
 rw[Int.mul_add] at h5;rw[Int.mul_comm (q / B % B) B];omega
theorem yt (X:Int) (i:Nat):dg 65536 X i=dg 256 X (2 * i)+dg 256 X (2 * i+1) * 256:=Zk (B:=256) aN X i
theorem WB (X:Int) (i:Nat):dg 65536 X i % 256=dg 256 X (2 * i):=by
 have h1:=yt X i;have h2:=aV (by decide:(0:Int)<256) X (2 * i);omega
theorem WA (X:Int) (i:Nat):dg 65536 X i / 256=dg 256 X (2 * i+1):=by
 have h1:=yt X i;have h2:=aV (by decide:(0:Int)<256) X (2 * i);omega
theorem mJ {B X:Int} {i:Nat} (h:0<=X/\X<B ^ i):dg B X i=0:=by
 unfold dg;rw[CP h.1 h.2];rfl
theorem adz (B:Int) (i:Nat):dg B 0 i=0:=by simp[dg]
def Ce (X b:Int) (k:Nat):Int:=(2 * X+b) / 65536 ^ k - 2 * (X / 65536 ^ k)
theorem Fx (X b:Int):Ce X b 0=b:=by simp[Ce];omega
theorem Fy (X b:Int) (k:Nat):(dg 65536 X k * 2+Ce X b k) % 65536=dg 65536 (2 * X+b) k/\(dg 65536 X k * 2+Ce X b k) / 65536=Ce X b (k+1):=by
 unfold Ce dg;rw[dJ aN X,dJ aN (2 * X+b)];omega
theorem Ns (X b:Int) (k:Nat):(2 * dg 65536 X k+Ce X b k) % 65536=dg 65536 (2 * X+b) k/\(2 * dg 65536 X k+Ce X b k) / 65536=Ce X b (k+1):=by
 rw[Int.mul_comm 2 (dg 65536 X k)];exact Fy X b k
def qY (X Y:Int) (k:Nat):Int:=X / 65536 ^ k - Y / 65536 ^ k - (X - Y) / 65536 ^ k
theorem yO (X Y:Int):qY X Y 0=0:=by simp[qY]
theorem Ro (X Y:Int) (k:Nat) (c N:Int) (hc:c=qY X Y k) (h0:0<=c) (h1:c<=1) (hN:N=(dg 65536 X k - dg 65536 Y k - c) % 4294967296):
  (dg 65536 X k - dg 65536 Y k - c) % 65536=dg 65536 (X - Y) k/\N / 2147483648=qY X Y (k+1)/\0<=N / 2147483648/\N / 2147483648<=1:=by
 subst hc hN;unfold qY dg at *;rw[dJ aN X,dJ aN Y,dJ aN (X - Y)];omega
theorem WH {X Y c:Int} (hX:0<=X/\X<65536 ^ 17) (hY:0<=Y/\Y<65536 ^ 17) (hc:c=qY X Y 17):(c==0)=decide (Y<=X):=by
 unfold qY at hc;rw[CP hX.1 hX.2,CP hY.1 hY.2] at hc;by_cases h:Y<=X
 ·rw[CP aH aH] at hc;subst hc;simp[h]
 ·have:(X - Y) / 65536 ^ 17= -1:=by omega
  rw[this] at hc;subst hc;simp[h]
def yM (X Y:Int) (k:Nat):Int:=(X+Y) / 65536 ^ k - X / 65536 ^ k - Y / 65536 ^ k
theorem yK (X Y:Int):yM X Y 0=0:=by simp[yM];omega
theorem yL (X Y:Int) (k:Nat):(dg 65536 X k+dg 65536 Y k+yM X Y k) % 65536=dg 65536 (X+Y) k/\(dg 65536 X k+dg 65536 Y k+yM X Y k) / 65536=yM X Y (k+1):=by
 unfold yM dg;rw[dJ aN X,dJ aN Y,dJ aN (X+Y)];omega
theorem Rs (Y:Int) (r:Nat) (h:r<8):Y / 2 ^ r % 2=Y % 256 / 2 ^ r % 2:=by
 rcases(by omega:r=0\/r=1\/r=2\/r=3\/r=4\/r=5\/r=6\/r=7) with rfl | rfl | rfl | rfl | rfl | rfl | rfl | rfl<;> simp<;> omega
theorem Yg (m:Nat):(2:Int) ^ m=256 ^ (m / 8) * 2 ^ (m % 8):=by
 rw[show (256:Int)=2 ^ 8 from rfl,←Int.pow_mul,←Int.pow_add];congr 1;omega
theorem vC (X:Int) (m:Nat):X / 2 ^ m % 2=dg 256 X (m / 8) / 2 ^ (m % 8) % 2:=by
 rw[Yg,←Int.ediv_ediv_of_nonneg (vF (eG aN _)),Rs _ _ (Nat.mod_lt _ aN)]
 rfl
theorem half (X:Int) (m:Nat):X / 2 ^ m=2 * (X / 2 ^ (m+1))+X / 2 ^ m % 2:=by
 rw[dJ aN];omega
theorem kQ (f:Nat->Int) (p:Nat) (v:Int):upd f p v p=v:=if_pos rfl
theorem upd_ne (f:Nat->Int) {p i:Nat} (v:Int) (h:i≠p):upd f p v i=f i:=if_neg h
theorem FT (f:Nat->Int) (p:Nat) (u v:Int) (i:Nat):upd (upd f p u) p v i=upd f p v i:=by
 unfold upd;split<;> rfl
theorem oK (B:Int) (f:Nat->Int) (p:Nat) (v:Int):∀n,sm B (upd f p v) n=sm B f n+(if p<n then (v - f p) * B ^ p else 0)
 | 0=>by simp[sm]
 | n+1=>by
  rw[sm,sm,oK B f p v n];by_cases e:n=p
  ·subst e;rw[if_neg aH,if_pos aH,show upd f n v n=v from if_pos rfl,Int.sub_mul];omega
  ·rw[show upd f p v n=f n from if_neg aH];by_cases h:p<n
   ·rw[if_pos h,if_pos aH];omega
   ·rw[if_neg h,if_neg aH];omega
theorem sH (B:Int):∀n,sm B (fun _=>0) n=0
 | 0=>rfl
 | n+1=>by rw[sm,sH B n];simp
theorem Gb (B:Int) (f g:Nat->Int) (a b:Int):∀n,sm B (fun i=>a * f i+b * g i) n=a * sm B f n+b * sm B g n
 | 0=>by simp[sm]
 | n+1=>by
  rw[sm,sm,sm,Gb B f g a b n]
  generalize B ^ n=p
  grind
theorem Js (B:Int) (f:Nat->Int) (m:Nat):∀n,sm B f (m+n)=sm B f m+B ^ m * sm B (fun i=>f (m+i)) n
 | 0=>by simp[sm]
 | n+1=>by
  rw[<-Nat.add_assoc,sm,sm,Js B f m n,Int.pow_add]
  grind
def jq (la lb:Nat) (A B:Int) (g:Nat->Int) (i k:Nat) (c:Int):Prop:=
 (∀j,0<=g j/\g j<65536)/\(∀j,i+lb<=j->g j=0)/\0<=c/\c<65536/\
 sm 65536 g (la+lb)+c * 65536 ^ (i+k)=(A % 65536 ^ i) * B+dg 65536 A i * (B % 65536 ^ k) * 65536 ^ i
theorem jq.zero (la lb:Nat) (A B:Int):jq la lb A B (fun _=>0) 0 0 0:=
 ⟨fun _=>by simp,fun _ _=>rfl,by decide,by decide,by rw[sH];simp[Int.emod_one]⟩
theorem Yz {a b:Int} (h0:0<=a) (h1:a<=65535) (h2:0<=b) (h3:b<=65535):0<=a * b/\a * b<=4294836225:=by
 refine⟨Int.mul_nonneg h0 h2,?_⟩;have:=Int.mul_le_mul h1 h3 h2 (by decide:(0:Int)<=65535);omega
theorem jq.bound {la lb:Nat} {A B:Int} {g:Nat->Int} {i k:Nat} {c:Int} (h:jq la lb A B g i k c):
  0<=dg 65536 A i * dg 65536 B k/\dg 65536 A i * dg 65536 B k<=4294836225/\0<=g (i+k)+dg 65536 A i * dg 65536 B k/\g (i+k)+dg 65536 A i * dg 65536 B k<4294967296/\0<=g (i+k)+dg 65536 A i * dg 65536 B k+c/\g (i+k)+dg 65536 A i * dg 65536 B k+c<4294967296:=by
 have h1:=aV (by decide:(0:Int)<65536) A i;have h2:=aV (by decide:(0:Int)<65536) B k;have h3:=Yz h1.1 aH h2.1 aH;have h4:=h.1 (i+k);have h5:=h.2.2.1;have h6:=h.2.2.2.1;omega
theorem jq.step {la lb:Nat} {A B:Int} {g:Nat->Int} {i k:Nat} {c:Int} (h:jq la lb A B g i k c) (hi:i<la) (hk:k<lb):
  jq la lb A B (upd g (i+k) ((g (i+k)+dg 65536 A i * dg 65536 B k+c) % 65536)) i (k+1) ((g (i+k)+dg 65536 A i * dg 65536 B k+c) / 65536):=by
 obtain⟨b1,b2,b3,b4,b5,b6⟩:=h.bound;obtain⟨h1,h2,h3,h4,h5⟩:=h;refine⟨fun j=>?_,fun j hj=>?_,by omega,by omega,?_⟩
 ·by_cases e:j=i+k
  ·subst e;rw[kQ];omega
  ·rw[upd_ne _ _ e];exact h1 j
 ·rw[upd_ne _ _ aH];exact h2 j hj
 ·rw[oK,if_pos aH,mod_succ aN B k,show i+(k+1)=(i+k)+1 by omega,Int.pow_succ,Int.pow_add] at *
  generalize hn:g (i+k)+dg 65536 A i * dg 65536 B k+c=n at *
  generalize hxy:dg 65536 A i * dg 65536 B k=xy at *
  have e1:=DW n 65536
  generalize n % 65536=r at *
  generalize n / 65536=q at *
  generalize sm 65536 g (la+lb)=S at *
  generalize (65536:Int) ^ i=p at *
  generalize (65536:Int) ^ k=s at *
  have e2:dg 65536 A i * (B % s+dg 65536 B k * s) * p=dg 65536 A i * (B % s) * p+xy * (p * s):=by
   rw[<-hxy];grind
  rw[e2];have e3:(r - g (i+k)) * (p * s)+q * (p * s * 65536)=(xy+c) * (p * s):=by
   have:r - g (i+k)+q * 65536=xy+c:=by omega
   rw[<-this];grind
  rw[Int.add_mul] at e3;omega
theorem jq.row {la lb:Nat} {A B:Int} {g:Nat->Int} {i:Nat} {c:Int} (h:jq la lb A B g i lb c) (hi:i<la) (hB:0<=B/\B<65536 ^ lb):
  g (i+lb)=0/\jq la lb A B (upd g (i+lb) (g (i+lb)+c)) (i+1) 0 0:=by
 obtain⟨h1,h2,h3,h4,h5⟩:=h;have h0:=h2 (i+lb) (bB _);refine⟨h0,fun j=>?_,fun j hj=>?_,by decide,by decide,?_⟩
 ·by_cases e:j=i+lb
  ·subst e;rw[kQ,h0];omega
  ·rw[upd_ne _ _ e];exact h1 j
 ·rw[upd_ne _ _ aH];exact h2 j aH
 ·rw[oK,if_pos aH,mod_succ aN A i,h0];rw[uO hB.1 hB.2] at h5;have e1:(A % 65536 ^ i+dg 65536 A i * 65536 ^ i) * B=(A % 65536 ^ i) * B+dg 65536 A i * B * 65536 ^ i:=by
   generalize (65536:Int) ^ i=p
   grind
  rw[e1];simp[Int.emod_one];exact h5
theorem jq.done {la lb:Nat} {A B:Int} {g:Nat->Int} (h:jq la lb A B g la 0 0) (hA:0<=A/\A<65536 ^ la):∀i,i<la+lb->g i=dg 65536 (A * B) i:=by
 obtain⟨h1,h2,h3,h4,h5⟩:=h;have h6:sm 65536 g (la+lb)=A * B:=by
  rw[uO hA.1 hA.2] at h5;simp[Int.emod_one] at h5;exact h5
 intro i hi;rw[<-h6,tJ aN (fun j _=>h1 j) i hi]
theorem EM {la lb:Nat} {A B:Int} (hA:0<=A/\A<65536 ^ la) (hB:0<=B/\B<65536 ^ lb):0<=A * B/\A * B<65536 ^ (la+lb):=by
 refine⟨Int.mul_nonneg hA.1 hB.1,?_⟩;rw[Int.pow_add];have h1:A * B<=A * 65536 ^ lb:=Int.mul_le_mul_of_nonneg_left aH hA.1;have h2:A * 65536 ^ lb<65536 ^ la * 65536 ^ lb:=Int.mul_lt_mul_of_pos_right hA.2 (eG aN _);omega
end Go.bC
namespace Go.bC
open Go.RowKit
def Placed (w:World) (v v':Value):Prop:=v'.ownBlock=v.ownBlock\/∀b,v'.ownBlock=some b->w.heap.size<=b
theorem lD {P:Program} (w:World) (base:Nat) (t ty e:TypeId) (i:TypeInfo) (z:Value) (size bytes:Nat) (ht:P.underlying t=some (.slice e)) (hi:P.info? e=some i) (hz:i.zero=some z)
  (hsize:i.size=size) (hby:i.bytes=bytes) (hzs:z.cells.size=size) (fD:0<size)
  (v:Value) (n:Nat) (xs:List Value) (bM:w.ownsRow base e size v n xs)
  (a:Addr) (m c:Nat) (news:List Value) (hl:news.length=m * size) (hnews:∀j u,news[j]? =some u->w.cell? (a.add j)=some u) (h1:∀u ∈ news,u.oneCell'=true)
  (h63:n+m<=maxLen) (hbytes:(n+m) * bytes<=140737488355328) (v':Value) (w':World) (hrun:(Builtin.append_ #[t,t] ty #[v,.slice (some a) m c]).run P w=.ok v' w'):Placed w v v':=by
 subst hsize;subst hby;have hsmall:n+m<=9223372036854775807:=by simp only[maxLen] at h63;omega
 rcases bM.2 with⟨rfl,rfl⟩ | ⟨g,cap,cur,rfl,hbg,hg,hnc,hcm,hcs,htake⟩
 ·have hx:xs= [] :=List.eq_nil_of_length_eq_zero (by simpa using bM.1);subst hx;by_cases hm:m=0
  ·subst hm;have hn:news= [] :=List.eq_nil_of_length_eq_zero (by simpa using hl);subst hn;have hr:(Builtin.append_ #[t,t] ty #[.slice none 0 0,.slice (some a) 0 c]).run P w=.ok (.slice none 0 0) w:=by
    simp[Builtin.append_,run_underlying ht,sizeOf,typeInfo,hi,Builtin.lenOf,Builtin.firstCells,loadCells,loadCellsFrom]
   rw[hr] at hrun;cases hrun
   exact .inl rfl
  ·have hr:=run_append_nil (P:=P) w t ty e i z ht hi hz a m c news hl hnews aH aH (by have hb:=hbytes;simp only[oD] at hb;omega);rw[hr] at hrun;cases hrun
   refine .inr fun b hb=>?_;simp[Value.ownBlock] at hb;omega
 ·by_cases hroom:n+m<=cap
  ·have hfit:n * i.size+news.length<=cur.size:=by rw[hl,hcs,←Nat.add_mul];exact Nat.mul_le_mul_right _ hroom
   have hr:=run_append_room (P:=P) w t ty e i ht hi g n cap cur hg a m c news hl hnews h1 hroom hfit;rw[hr] at hrun;cases hrun
   exact .inl rfl
  ·have holds:∀j u,xs[j]? =some u->w.cell? ((⟨g,0,none⟩:Addr).add j)=some u:=bM.cells (g:=g) rfl;have hr:=run_append_grow (P:=P) w t ty e i z ht hi hz ⟨g,0,none⟩ n cap xs bM.1 holds a m c news hl hnews aH aH (growslice_fits aH hbytes);rw[hr] at hrun;cases hrun
   refine .inr fun b hb=>?_;simp[Value.ownBlock] at hb;omega
theorem tL {P:Program} {w:World} {ops:Array Oper} {rest:List Oper} {o:Oper} {a:Act} {Q:Exit->Act->World->Prop}
  (hg:o.guard=none) (s x:Operand) (t:TypeId) (hop:o.op=.call { callee:=.builtin .append,args:=#[s,x],argTypes:=#[t,t] })
  (base:Nat) (e:TypeId) (k:IntKind) (bytes:Nat)
  (h1:P.underlying t=some (.slice e)) (hinfo:(P.info? e).map (fun i=>(i.zero,i.size,i.bytes))=some (some (.int k 0),1,bytes))
  (v:Value) (n:Nat) (f:Nat->Int) (w0:World) (cs:Array Value) (hw:w=w0.alloc (.cells cs e)) (bM:Own k e base w0 v n f) (hs:a.eval s=v)
  (m:Nat) (hx:a.eval x=.slice (some ⟨w0.heap.size,0,none⟩) m m) (hm:cs.size=m) (hc:∀i,i<m->cs[i]? =some (.int k (f (n+i))))
  (b2:(n+m) * bytes<=140737488355328) (b3:n+m<=9223372036854775807) (b4:base<=w0.heap.size)
  (hK:∀v' w',Own k e base w' v' (n+m) f->w.grownBy w' v.ownBlock->Placed w v v'->wpList P ops Q rest (a.put o.dst v') w'):
  wpList P ops Q (o::rest) a w:=by
 subst hw;obtain⟨i,hi,hz0,hz1,hz2⟩:=info_parts hinfo;have hnews:cs.toList=(List.range m).map fun i=>Value.int k (f (n+i)):=by
  apply List.ext_getElem?
  intro i;by_cases h:i<m
  ·rw[Array.getElem?_toList,hc i h];simp[h]
  ·rw[Array.getElem?_toList];simp[h,hm]
 have hv:vals k n f++cs.toList=vals k (n+m) f:=by
  rw[hnews];unfold vals;rw[List.range_add];simp
 have hown':=World.ownsRow.alloc bM (.cells cs e);have hl:cs.toList.length=m * 1:=by simp[hm]
 have hn:∀j u,cs.toList[j]? =some u->(w0.alloc (.cells cs e)).cell? ((⟨w0.heap.size,0,none⟩:Addr).add j)=some u:=by
  intro j u hu;have hadd:(⟨w0.heap.size,0,none⟩:Addr).add j=⟨w0.heap.size,j,none⟩:=by unfold Addr.add;split<;> simp_all
  rw[hadd,cell_of_row (w0.alloc (.cells cs e)) w0.heap.size j cs e (0,0) (heap_alloc_new w0 _)]
  simpa using hu
 have h1':∀u ∈ cs.toList,u.oneCell'=true:=by
  intro u hu;rw[hnews] at hu;obtain⟨_,_,rfl⟩:=List.mem_map.1 hu
  rfl
 obtain⟨v',w',hr,q1,q2,q3⟩:=run_append_own (P:=P) _ base t o.type e i (.int k 0) 1 bytes h1 hi hz0 hz1 hz2 rfl aN v n (vals k n f) hown' ⟨w0.heap.size,0,none⟩ m m cs.toList hl hn h1' (by unfold maxLen;omega) b2 (by simp;omega);have hpl:=lD (P:=P) _ base t o.type e i (.int k 0) 1 bytes h1 hi hz0 hz1 hz2 rfl aN v n (vals k n f) hown' ⟨w0.heap.size,0,none⟩ m m cs.toList hl hn h1' (by unfold maxLen;omega) b2 v' w' hr;refine wpList_plain hg fun _ hK'=>?_;unfold Oper.wp execOp;simp only[hop,resolve,invoke,builtin,uD,xI,vG,zw,List.map_cons,List.map_nil,hs,hx,hr];exact hK' _ _ (hK v' w' (by unfold Own;rw[<-hv];exact q1) q2 hpl)
def OwnAt (k:IntKind) (e:TypeId) (base:Nat) (w:World) (v:Value) (n:Nat) (f:Nat->Int):Prop:=
 (v=.slice none 0 0/\n=0)\/∃g o c cur,v=.slice (some ⟨g,o,none⟩) n c/\base<=g/\w.heap[g]? =some (.cells cur e (0,0))/\n<=c/\c<=9223372036854775807/\o+c<=cur.size/\(cur.toList.drop o).take n=vals k n f
variable {k : IntKind} {e : TypeId} {base : Nat} {w w' : World} {v : Value} {n : Nat} {f g : Nat -> Int}
theorem OwnAt.nil (k:IntKind) (e:TypeId) (base:Nat) (w:World) (f:Nat->Int):OwnAt k e base w (.slice none 0 0) 0 f:=.inl ⟨rfl,rfl⟩
theorem OwnAt.rd (h:OwnAt k e base w v n f):Rd k w v n f:=by
 rcases h with⟨rfl,rfl⟩ | ⟨g,o,c,cur,rfl,hb,hg,hn,hc,hs,ht⟩
 ·exact Rd.nil _ _ _
 ·refine⟨_,_,rfl,hn,hc,(fun h=>by cases h),fun _=>⟨g,o,rfl,(Array.getElem?_eq_some_iff.1 hg).1,fun i hi=>?_⟩⟩;rw[cell_of_row w g (o+i) cur e (0,0) hg];have:=dS (k:=k) (f:=f) hi;rw[<-ht,List.getElem?_take,if_pos hi,List.getElem?_drop] at this
  simpa using this
theorem OwnAt.congr (h:OwnAt k e base w v n f) (q:∀i,i<n->f i=g i):OwnAt k e base w v n g:=by
 unfold OwnAt at *
 rwa [qA q] at h
theorem OwnAt.lt (h:OwnAt k e base w v n f):∀b,v.ownBlock=some b->base<=b/\b<w.heap.size:=by
 intro b hb;rcases h with⟨rfl,_⟩ | ⟨g,o,c,cur,rfl,hb',hg,_⟩
 ·simp[Value.ownBlock] at hb
 ·simp[Value.ownBlock] at hb;subst hb;exact⟨hb',(Array.getElem?_eq_some_iff.1 hg).1⟩
theorem OwnAt.below (h:OwnAt k e base w v n f) (hb:Below w.heap.size w w'):OwnAt k e base w' v n f:=by
 rcases h with h | ⟨g,o,c,cur,rfl,hb',hgg,rest⟩
 ·exact .inl h
 ·refine .inr ⟨g,o,c,cur,rfl,hb',?_,rest⟩;rw[hb.block g (Array.getElem?_eq_some_iff.1 hgg).1];exact hgg
theorem Pv (k:IntKind) (n lo:Nat) (f:Nat->Int):(vals k n f).drop lo=vals k (n - lo) (fun i=>f (lo+i)):=by
 apply List.ext_getElem?
 intro i;rw[List.getElem?_drop];by_cases hi:lo+i<n
 ·rw[dS hi,dS aH]
 ·have h1:(vals k n f)[lo+i]? =none:=by simp;omega
  have h2:(vals k (n - lo) (fun i=>f (lo+i)))[i]? =none:=by simp;omega
  rw[h1,h2]
theorem OwnAt.cut {b o c:Nat} (h:OwnAt k e base w (.slice (some ⟨b,o,none⟩) n c) n f) (lo:Nat) (hlo:lo<=n):
  OwnAt k e base w (.slice (if c=lo then some ⟨b,o,none⟩ else some ⟨b,o+lo,none⟩) (n - lo) (c - lo)) (n - lo) (fun i=>f (lo+i)):=by
 rcases h with⟨h,_⟩ | ⟨g',o',c',cur,he,hb,hg,hn,hc,hs,ht⟩
 ·cases h
 ·simp only[DV,CO,Addr.mk.injEq,and_true,true_and] at he;obtain⟨⟨rfl,rfl⟩,rfl⟩:=he;by_cases hcl:c=lo
  ·subst hcl;obtain rfl:n=c:=by omega
   rw[if_pos rfl,Nat.sub_self];exact .inr ⟨b,o,0,cur,rfl,hb,hg,bB _,by omega,by omega,by simp[vals]⟩
  ·rw[if_neg hcl];refine .inr ⟨b,o+lo,c - lo,cur,rfl,hb,hg,by omega,by omega,by omega,?_⟩;rw[<-Pv,←ht,List.drop_take,List.drop_drop]
theorem Sw {x:Value} (h:x ∈ vals k n f):x.oneCell'=true:=by
 obtain⟨_,_,rfl⟩:=List.mem_map.1 h
 rfl
theorem IX {m:Nat} (hf:∀i,i<m->f (n+i)=g i):vals k n f++vals k m g=vals k (n+m) f:=by
 unfold vals;rw[List.range_add];simp only[List.map_append,List.map_map]
 congr 1
 exact List.map_congr_left fun i hi=>by simp[hf i (List.mem_range.1 hi)]
theorem addr_add (b o j:Nat):(⟨b,o,none⟩:Addr).add j=⟨b,o+j,none⟩:=by unfold Addr.add;split<;> simp_all
theorem OwnAt.whole (hb:base<=w.heap.size) {m c:Nat} (hmc:m<=c) (hc:c<=9223372036854775807) {cur:Array Value} (hs:cur.size=c) (ht:cur.toList.take m=vals k m f):
  OwnAt k e base (w.drew.alloc (.cells cur e)) (.slice (some ⟨w.heap.size,0,none⟩) m c) m f:=
 .inr ⟨w.heap.size,0,c,cur,rfl,hb,heap_alloc_new w.drew _,hmc,hc,by omega,by simpa using ht⟩
theorem Du {P:Program} (w:World) (t ty e:TypeId) (k:IntKind) (bytes:Nat) (h1:P.underlying t=some (.slice e)) (hinfo:(P.info? e).map (fun i=>(i.zero,i.size,i.bytes))=some (some (.int k 0),1,bytes))
  (base:Nat) (v:Value) (n:Nat) (f:Nat->Int) (bM:OwnAt k e base w v n f) (u:Value) (m:Nat) (g:Nat->Int) (hrd:Rd k w u m g) (hf:∀i,i<m->f (n+i)=g i)
  (b2:(n+m) * bytes<=140737488355328) (b3:n+m<=9223372036854775807) (b4:base<=w.heap.size):
  ∃v' w',(Builtin.append_ #[t,t] ty #[v,u]).run P w=.ok v' w'/\OwnAt k e base w' v' (n+m) f/\w.grownBy w' v.ownBlock/\(0<n+m->v'≠.slice none 0 0):=by
 obtain⟨i,hi,hz0,hz1,hz2⟩:=info_parts hinfo;obtain⟨ao,c,rfl,l1,l2,l3,l4⟩:=hrd;have hvm:(vals k m g).length=m * i.size:=by rw[hz1];simp
 by_cases hm:m=0
 ·subst hm;rcases bM with⟨rfl,rfl⟩ | ⟨gg,o,c',cur,rfl,hb,hg,hn,hc,hs,ht⟩
  ·refine⟨.slice none 0 0,w,?_,OwnAt.nil _ _ _ _ _,World.grownBy.refl _ _,aL⟩;cases ao<;> simp[Builtin.append_,run_underlying h1,sizeOf,typeInfo,hi,Builtin.lenOf,Builtin.firstCells,loadCells,loadCellsFrom]
  ·refine⟨.slice (some ⟨gg,o,none⟩) n c',w,?_,.inr ⟨gg,o,c',cur,rfl,hb,hg,hn,hc,hs,ht⟩,World.grownBy.refl _ _,fun _ h=>by cases h⟩;cases ao<;> simp[Builtin.append_,run_underlying h1,sizeOf,typeInfo,hi,Builtin.lenOf,Builtin.firstCells,loadCells,loadCellsFrom,hn,storeCells]
 ·obtain⟨b,of,rfl,_,hcell⟩:=l4 aH;have hnews:∀j x,(vals k m g)[j]? =some x->w.cell? ((⟨b,of,none⟩:Addr).add j)=some x:=by
   intro j x hx;have hj:j<m:=by
    have:=(List.getElem?_eq_some_iff.1 hx).1
    simpa using this
   rw[addr_add,hcell j hj,←dS (k:=k) (f:=g) hj];exact hx
  have hnews1:∀x ∈ vals k m g,x.oneCell'=true:=fun x hx=>Sw hx;rcases bM with⟨rfl,rfl⟩ | ⟨gg,o,c',cur,rfl,hb,hg,hn,hc,hs,ht⟩
  ·have hr:=run_append_nil (P:=P) w t ty e i _ h1 hi hz0 ⟨b,of,none⟩ m c (vals k m g) hvm hnews aH aH (by rw[hz2];simp only[oD] at b2;omega);have hge:=grownCap_ge w m 0 e;have hcm:grownCap w m 0 e<=maxLen:=grownCap_le_maxLen w m 0 e (by unfold maxLen;omega);unfold maxLen at hcm;rw[oD];refine⟨_,_,hr,?_,⟨rfl,rfl,rfl,by simp,fun q hq _=>((bT w.heap.size w.drew).alloc (bB _) _).block q hq⟩,fun _ h=>by cases h⟩;refine OwnAt.whole b4 hge aH ?_ ?_
   ·have hz:(Value.int k 0).cells=#[.int k 0] :=rfl;simp only[Array.size_append,List.size_toArray,size_zeroCells,hz,dO];simp;omega
   ·rw[Array.toList_append];have:vals k m f=vals k m g:=qA fun i hi=>by have:=hf i hi;rwa [oD] at this
    rw[this];simp[List.take_append_of_le_length]
  ·by_cases hroom:n+m<=c'
   ·have hfm:=run_firstCells_some (P:=P) w i.size m ⟨b,of,none⟩ m c (vals k m g) hvm hnews;have gF:=run_storeCells_at P gg (o+n) e (vals k m g) 0 cur w hg (by simp;omega) hnews1;refine⟨.slice (some ⟨gg,o,none⟩) (n+m) c',w.setRow gg (cur.toList.take (o+n)++vals k m g++cur.toList.drop (o+n+(vals k m g).length)).toArray,?_,?_,?_,fun _ h=>by cases h⟩
    ·simp only[Nat.add_zero] at gF;simp[Builtin.append_,run_underlying h1,sizeOf,typeInfo,hi,Builtin.lenOf,hroom,hfm,hz1,addr_add];simp[hz1] at hfm;simp[hfm,gF]
    ·refine .inr ⟨gg,o,c',_,rfl,hb,setRow_heap w gg cur _ e _ hg,hroom,hc,?_,?_⟩
     ·simp only[List.size_toArray,List.length_append,List.length_take,List.length_drop,Array.length_toList,dO];omega
     ·rw[<-IX hf,←ht,List.append_assoc,List.drop_append_of_le_length (by simp;omega),List.drop_take];rw[show o+n - o=n by omega,←List.append_assoc];rw[List.take_append_of_le_length (by simp;omega),List.take_of_length_le (by simp;omega)]
    ·exact⟨rfl,rfl,rfl,by simp,fun k _ hk=>setRow_other w gg k _ (fun e=>hk (by simp[Value.ownBlock,e]))⟩
   ·have holds:∀j x,(vals k n f)[j]? =some x->w.cell? ((⟨gg,o,none⟩:Addr).add j)=some x:=by
     intro j x hx;have hj:j<n:=by
      have:=(List.getElem?_eq_some_iff.1 hx).1
      simpa using this
     rw[addr_add,cell_of_row w gg (o+j) cur e (0,0) hg];rw[<-ht,List.getElem?_take,if_pos hj,List.getElem?_drop] at hx
     simpa using hx
    have hr:=run_append_grow (P:=P) w t ty e i _ h1 hi hz0 ⟨gg,o,none⟩ n c' (vals k n f) (by rw[hz1];simp) holds ⟨b,of,none⟩ m c (vals k m g) hvm hnews aH aH (growslice_fits aH (by rw[hz2];exact b2));have hge:=grownCap_ge w (n+m) c' e;have hcm:grownCap w (n+m) c' e<=maxLen:=grownCap_le_maxLen w (n+m) c' e (by unfold maxLen;omega);unfold maxLen at hcm;refine⟨_,_,hr,?_,⟨rfl,rfl,rfl,by simp,fun q hq _=>((bT w.heap.size w.drew).alloc (bB _) _).block q hq⟩,fun _ h=>by cases h⟩;refine OwnAt.whole b4 hge aH ?_ ?_
    ·have hz:(Value.int k 0).cells=#[.int k 0] :=rfl;simp only[Array.size_append,List.size_toArray,size_zeroCells,hz,dO];simp;omega
    ·rw[Array.toList_append,Array.toList_append,←IX hf];rw[List.take_append_of_le_length aR,List.take_of_length_le aR]
theorem FQ {P:Program} {w:World} {o:Oper} {a:Act} {K:Act->World->Prop} {Q:Exit->Act->World->Prop}
  (s x:Operand) (t:TypeId) (hop:o.op=.call { callee:=.builtin .append,args:=#[s,x],argTypes:=#[t,t] })
  (base:Nat) (e:TypeId) (k:IntKind) (bytes:Nat)
  (h1:P.underlying t=some (.slice e)) (hinfo:(P.info? e).map (fun i=>(i.zero,i.size,i.bytes))=some (some (.int k 0),1,bytes))
  (v:Value) (n:Nat) (f:Nat->Int) (bM:OwnAt k e base w v n f) (hs:a.eval s=v)
  (u:Value) (m:Nat) (g:Nat->Int) (hrd:Rd k w u m g) (hx:a.eval x=u) (hf:∀i,i<m->f (n+i)=g i)
  (b2:(n+m) * bytes<=140737488355328) (b3:n+m<=9223372036854775807) (b4:base<=w.heap.size)
  (hK:∀v' w',OwnAt k e base w' v' (n+m) f->w.grownBy w' v.ownBlock->(0<n+m->v'≠.slice none 0 0)->K (a.put o.dst v') w'):
  o.wp P a w K Q:=by
 obtain⟨v',w',hr,h2,h3,h4⟩:=Du (P:=P) w t o.type e k bytes h1 hinfo base v n f bM u m g hrd hf b2 b3 b4;unfold Oper.wp execOp;simp only[hop,resolve,invoke,builtin,uD,xI,vG,zw,List.map_cons,List.map_nil,hs,hx,hr];exact hK v' w' h2 h3 h4
theorem Rx {P:Program} {w:World} {ops:Array Oper} {rest:List Oper} {o:Oper} {a:Act} {Q:Exit->Act->World->Prop}
  (hg:o.guard=none) (s x:Operand) (t:TypeId) (hop:o.op=.call { callee:=.builtin .append,args:=#[s,x],argTypes:=#[t,t] })
  (base:Nat) (e:TypeId) (k:IntKind) (bytes:Nat)
  (h1:P.underlying t=some (.slice e)) (hinfo:(P.info? e).map (fun i=>(i.zero,i.size,i.bytes))=some (some (.int k 0),1,bytes))
  (v:Value) (n:Nat) (f:Nat->Int) (bM:OwnAt k e base w v n f) (hs:a.eval s=v)
  (u:Value) (m:Nat) (g:Nat->Int) (hrd:Rd k w u m g) (hx:a.eval x=u) (hf:∀i,i<m->f (n+i)=g i)
  (b2:(n+m) * bytes<=140737488355328) (b3:n+m<=9223372036854775807) (b4:base<=w.heap.size)
  (hK:∀v' w',OwnAt k e base w' v' (n+m) f->w.grownBy w' v.ownBlock->(0<n+m->v'≠.slice none 0 0)->wpList P ops Q rest (a.put o.dst v') w'):
  wpList P ops Q (o::rest) a w:=
 wpList_plain hg fun _ hK'=>FQ s x t hop base e k bytes h1 hinfo v n f bM hs u m g hrd hx hf b2 b3 b4 fun v' w' q1 q2 q3=>hK' _ _ (hK v' w' q1 q2 q3)
end Go.bC
namespace Go.bC
open Go.RowKit
def ajv:Value->Nat
 | .slice _ n _=>n
 | _=>0
theorem zF {P:Program} (w:World) (t u ty e:TypeId) (k:IntKind) (bytes:Nat) (h1:P.underlying t=some (.slice e)) (hu:P.underlying u=some (.int .i64)) (hinfo:(P.info? e).map (fun i=>(i.zero,i.size,i.bytes))=some (some (.int k 0),1,bytes))
  (base:Nat) (g n c:Nat) (f:Nat->Int) (bM:Own k e base w (.slice (some ⟨g,0,none⟩) n c) n f) (m:Nat) (hc:c<n+m) (hf:∀i,i<m->f (n+i)=0)
  (b2:(n+m) * bytes<=140737488355328) (b3:n+m<=9223372036854775807) (b4:base<=w.heap.size):
  ∃v' w',(Builtin.append_ #[t,u] ty #[.slice (some ⟨g,0,none⟩) n c,.int .i64 (m:Int)]).run P w=.ok v' w'/\Own k e base w' v' (n+m) f/\w.grownBy w' none:=by
 obtain⟨i,hi,hz0,hz1,hz2⟩:=info_parts hinfo;have hcell:=bM.cells (g:=g) rfl;have hlen:=bM.1;have hnc:n<=c:=by
  rcases bM.2 with⟨h,_⟩ | ⟨g',cap,cur,he,_,_,hn,_⟩
  ·cases h
  ·simp only[DV,true_and] at he;obtain⟨_,rfl⟩:=he;exact hn
 have hm0:0<m:=by omega
 have hn:¬ (n+m<=c):=by omega
 have h63':¬ (9223372036854775807<((n:Int)+(m:Int))):=by omega
 have hfit:Builtin.nextslicecap (n+m) c * i.bytes<=281474976710656:=growslice_fits aH (by rw[hz2];exact b2);have h48':¬ (281474976710656<Builtin.nextslicecap (n+m) c * i.bytes):=by omega
 have hfo:=run_firstCells_some (P:=P) w.drew i.size n ⟨g,0,none⟩ n c (vals k n f) (by rw[hz1];simp) (by simpa using hcell);have hw:IntKind.i64.wrap (m:Int)=(m:Int):=bI aH aH;have hneg:¬ ((m:Int)<0):=by omega
 have hmb:m * i.bytes<=140737488355328:=jS (Nat.mul_le_mul_right i.bytes (show m<=n+m by omega)) (by rw[hz2];exact b2);have hbig:¬ (281474976710656<(m:Int) * (i.bytes:Int)):=by
  rw[<-Int.natCast_mul];omega
 have hge:=grownCap_ge w (n+m) c e;have hcm:grownCap w (n+m) c e<=maxLen:=grownCap_le_maxLen w (n+m) c e (by unfold maxLen;omega)
 have hrun:(Builtin.append_ #[t,u] ty #[.slice (some ⟨g,0,none⟩) n c,.int .i64 (m:Int)]).run P w=
   .ok (.slice (some ⟨w.heap.size,0,none⟩) (n+m) (grownCap w (n+m) c e)) (w.drew.alloc (.cells ((vals k n f).toArray++Builtin.zeroCells (Value.int k 0).cells m++Builtin.zeroCells (Value.int k 0).cells (grownCap w (n+m) c e - (n+m))) e)):=by
  rw[hz1] at hfo;have hmz:¬ m=0:=by omega
  simp[Builtin.append_,run_underlying h1,run_underlying hu,sizeOf,typeInfo,zeroValue,hi,hz0,hz1,asInt,asIntOf,hw,hneg,hbig,hn,h63',h48',Question.forced,hfo,hmz,newRow,grownCap]
 refine⟨_,_,hrun,?_,⟨rfl,rfl,rfl,by simp,fun q hq _=>((bT w.heap.size w.drew).alloc (bB _) _).block q hq⟩⟩;have hz:(Value.int k 0).cells=#[.int k 0] :=rfl;have hvz:(Builtin.zeroCells (Value.int k 0).cells m).toList=vals k m (fun _=>0):=by
  apply List.ext_getElem?
  intro j;by_cases hj:j<m
  ·rw[dS hj];simp[Builtin.zeroCells,hz,hj,Nat.mod_one]
  ·simp[Builtin.zeroCells,hz,hj,vals]
 have hva:vals k n f++vals k m (fun _=>0)=vals k (n+m) f:=by
  unfold vals;rw[List.range_add];simp only[List.map_append,List.map_map]
  congr 1
  exact List.map_congr_left fun i hi=>by simp[hf i (List.mem_range.1 hi)]
 refine⟨by simp,.inr ⟨w.heap.size,_,_,rfl,b4,heap_alloc_new w.drew _,hge,hcm,?_,?_⟩⟩
 ·simp only[Array.size_append,List.size_toArray,size_zeroCells,hz,dO];simp;omega
 ·rw[Array.toList_append,Array.toList_append,hvz,List.append_assoc];rw[<-List.append_assoc];simp only[List.toList_toArray];rw[hva,List.take_append_of_le_length aR,List.take_of_length_le aR]
theorem KW {P:Program} {w:World} {ops:Array Oper} {rest:List Oper} {o:Oper} {a:Act} {Q:Exit->Act->World->Prop}
  (hg:o.guard=none) (s x:Operand) (t u:TypeId) (hop:o.op=.call { callee:=.builtin .append,args:=#[s,x],argTypes:=#[t,u] })
  (base:Nat) (e:TypeId) (k:IntKind) (bytes:Nat)
  (h1:P.underlying t=some (.slice e)) (hu:P.underlying u=some (.int .i64)) (hinfo:(P.info? e).map (fun i=>(i.zero,i.size,i.bytes))=some (some (.int k 0),1,bytes))
  (b n c:Nat) (f:Nat->Int) (bM:Own k e base w (.slice (some ⟨b,0,none⟩) n c) n f) (hs:a.eval s=.slice (some ⟨b,0,none⟩) n c) (m:Nat) (hx:a.eval x=.int .i64 (m:Int)) (hc:c<n+m) (hf:∀i,i<m->f (n+i)=0)
  (b2:(n+m) * bytes<=140737488355328) (b3:n+m<=9223372036854775807) (b4:base<=w.heap.size)
  (hK:∀v' w',Own k e base w' v' (n+m) f->w.grownBy w' none->wpList P ops Q rest (a.put o.dst v') w'):
  wpList P ops Q (o::rest) a w:=by
 refine wpList_plain hg fun K hK'=>?_;obtain⟨v',w',hr,h2,h3⟩:=zF (P:=P) w t u o.type e k bytes h1 hu hinfo base b n c f bM m hc hf b2 b3 b4;unfold Oper.wp execOp;simp only[hop,resolve,invoke,builtin,uD,xI,vG,zw,List.map_cons,List.map_nil,hs,hx,hr];exact hK' _ _ (hK v' w' h2 h3)
end Go.bC
namespace Go.bC
def Pr:Int:=2 ^ 255 - 19
theorem WV:(65536:Int) ^ 16=2 * Pr+38:=by decide
theorem WU:(0:Int)<Pr:=by decide
theorem WW:(0:Int)<=Pr/\Pr<65536 ^ 16:=by decide
def cin (f:Nat->Int):Nat->Int
 | 0=>0
 | i+1=>(f i+cin f i) / 65536
def ow (f:Nat->Int):Nat->Int:=fun i=>if i=0 then f 0 % 65536+38 * cin f 16 else (f i+cin f i) % 65536
def DU (f:Nat->Int) (k:Nat):Nat->Int:=if k=16 then ow f else fun i=>if i<k then (f i+cin f i) % 65536 else if i=k then f k+cin f k else f i
theorem Wn (f:Nat->Int):∀i,i<16->f i=DU f 0 i:=by
 intro i hi;unfold DU;rw[if_neg aN,if_neg aH];by_cases e:i=0
 ·subst e;simp[cin]
 ·rw[if_neg e]
theorem Wt (f:Nat->Int) {k:Nat} (h:k<16):DU f k k=f k+cin f k:=by
 unfold DU;rw[if_neg aH,if_neg aH,if_pos rfl]
theorem Ri (f:Nat->Int) {k:Nat} (h:k<15):DU f k (k+1)=f (k+1):=by
 unfold DU;rw[if_neg aH,if_neg aH,if_neg aH]
theorem Wq (f:Nat->Int):DU f 15 0=f 0 % 65536:=by
 unfold DU;rw[if_neg aN,if_pos aN];simp[cin]
theorem Wo (f:Nat->Int) {k:Nat} (h:k<15):∀i,i<16->upd (upd (DU f k) k ((f k+cin f k) % 65536)) (k+1) (f (k+1)+(f k+cin f k) / 65536) i=DU f (k+1) i:=by
 intro i hi;by_cases e1:i=k+1
 ·subst e1;rw[kQ,Wt f aH];rfl
 ·rw[upd_ne _ _ e1];by_cases e:i=k
  ·subst e;rw[kQ];unfold DU;rw[if_neg aH,if_pos aH]
  ·rw[upd_ne _ _ e];unfold DU;rw[if_neg (show ¬ k=16 by omega),if_neg (show ¬ k+1=16 by omega)];by_cases h1:i<k
   ·rw[if_pos h1,if_pos aH]
   ·rw[if_neg h1,if_neg e,if_neg aH,if_neg aH]
theorem Wp (f:Nat->Int):∀i,i<16->upd (upd (DU f 15) 15 ((f 15+cin f 15) % 65536)) 0 (f 0 % 65536+38 * ((f 15+cin f 15) / 65536)) i=DU f 16 i:=by
 intro i hi;have e:DU f 16=ow f:=if_pos rfl;rw[e];unfold ow;by_cases e1:i=0
 ·subst e1;rw[kQ,if_pos rfl];rfl
 ·rw[upd_ne _ _ e1,if_neg e1];by_cases e:i=15
  ·subst e;rw[kQ]
  ·rw[upd_ne _ _ e];unfold DU;rw[if_neg aN,if_pos aH]
theorem Ws (f:Nat->Int):DU f 16=ow f:=if_pos rfl
theorem uj {f:Nat->Int} {lo hi cl ch:Int} (hf:∀i,i<16->lo<=f i/\f i<=hi) (h0:cl<=0) (h1:0<=ch) (h2:cl<=(lo+cl) / 65536) (h3:(hi+ch) / 65536<=ch):
  ∀i,i<=16->cl<=cin f i/\cin f i<=ch:=by
 intro i
 induction i with
 | zero=>intro _;exact⟨h0,h1⟩
 | succ i ih=>
  intro hi';have a:=ih aH;have b:=hf i aH;unfold cin;omega
theorem Td (f:Nat->Int):∀n,sm 65536 (fun i=>(f i+cin f i) % 65536) n=sm 65536 f n - cin f n * 65536 ^ n
 | 0=>by simp[sm,cin]
 | n+1=>by
  rw[sm,sm,Td f n,Int.pow_succ];have e:cin f (n+1)=(f n+cin f n) / 65536:=rfl;rw[e];have h:=DW (f n+cin f n) 65536
  generalize (f n+cin f n) / 65536=q at *
  generalize (f n+cin f n) % 65536=r at *
  generalize (65536:Int) ^ n=p at *
  have h2:(r+65536 * q) * p=(f n+cin f n) * p:=by rw[h]
  grind
theorem abz (f:Nat->Int):sm 65536 (ow f) 16=sm 65536 f 16 - 2 * Pr * cin f 16:=by
 have e:ow f=upd (fun i=>(f i+cin f i) % 65536) 0 (f 0 % 65536+38 * cin f 16):=by
  funext i;unfold ow upd;rfl
 rw[e,oK,if_pos aN,Td,WV];simp only[cin,Int.add_zero,Int.pow_zero,Int.mul_one]
 generalize Pr=p
 grind
def Ea (f:Nat->Int):Prop:=(∀i,i<16->0<i->0<=f i/\f i<=65535)/\ -100<=f 0/\f 0<=65700
def Fe (f:Nat->Int) (X:Int):Prop:=Ea f/\sm 65536 f 16 % Pr=X % Pr
theorem Ea.bound {f:Nat->Int} (h:Ea f):∀i,i<16-> -100<=f i/\f i<=65700:=by
 intro i hi;by_cases e:i=0
 ·subst e;exact h.2
 ·have:=h.1 i hi aH;omega
theorem Bu {f:Nat->Int} (c0: -2<=cin f 16) (c1:cin f 16<=3):Ea (ow f):=by
 refine⟨fun i hi h0=>?_,?_,?_⟩
 ·unfold ow;rw[if_neg aH];omega
 ·unfold ow;rw[if_pos rfl];omega
 ·unfold ow;rw[if_pos rfl];omega
theorem kH {a b c:Int} (h:a=b+Pr * c):a % Pr=b % Pr:=by rw[h,Int.add_mul_emod_self_left]
theorem xB (f:Nat->Int):sm 65536 (ow f) 16 % Pr=sm 65536 f 16 % Pr:=
 kH (c:= -(2 * cin f 16)) (by rw[abz];generalize Pr=p;grind)
theorem Fe.add {f g:Nat->Int} {X Y:Int} (hf:Fe f X) (hg:Fe g Y):Fe (ow (fun i=>f i+g i)) (X+Y):=by
 have hb:=uj (f:=fun i=>f i+g i) (lo:= -200) (hi:=131400) (cl:= -2) (ch:=3) (fun i hi=>by have:=hf.1.bound i hi;have:=hg.1.bound i hi;omega) aN aN aN aN 16 (bB _);refine⟨Bu hb.1 hb.2,?_⟩;rw[xB];have e:=Gb 65536 f g 1 1 16;simp only[Int.one_mul] at e;rw[e,Int.add_emod,hf.2,hg.2,←Int.add_emod]
theorem Fe.sub {f g:Nat->Int} {X Y:Int} (hf:Fe f X) (hg:Fe g Y):Fe (ow (fun i=>f i - g i)) (X - Y):=by
 have hb:=uj (f:=fun i=>f i - g i) (lo:= -65800) (hi:=65800) (cl:= -2) (ch:=2) (fun i hi=>by have:=hf.1.bound i hi;have:=hg.1.bound i hi;omega) aN aN aN aN 16 (bB _);refine⟨Bu hb.1 aH,?_⟩;rw[xB];have e:=Gb 65536 f g 1 (-1) 16;have e2:(fun i=>f i - g i)=fun i=>1 * f i+ -1 * g i:=by funext i;omega
 rw[e2,e,show (1:Int) * sm 65536 f 16+ -1 * sm 65536 g 16=sm 65536 f 16 - sm 65536 g 16 by omega,Int.sub_emod,hf.2,hg.2,←Int.sub_emod]
theorem XT {X:Int} (h:0<=X/\X<65536 ^ 16):sm 65536 (dg 65536 X) 16=X:=by rw[rF aN,uO h.1 h.2]
theorem Fe.canon {f:Nat->Int} {X:Int} (h:Fe f X):∃Y:Int,0<=Y/\Y<65536 ^ 16/\Y % Pr=X % Pr/\∀i,i<16->ow f i=dg 65536 Y i:=by
 have hd:∀i,i<16->0<=ow f i/\ow f i<65536:=by
  have hc:∀i,i<=16->0<i->(cin f i=0)\/(cin f i= -1/\ -100<=f 0/\f 0<0)\/(cin f i=1/\65536<=f 0/\f 0<=65700):=by
   intro i
   induction i with
   | zero=>intro _ h;omega
   | succ i ih=>
    intro hi _;unfold cin;by_cases e:i=0
    ·subst e;have:=h.1.2;simp only[cin];omega
    ·have a:=ih aH aH;have b:=h.1.1 i aH aH;omega
  intro i hi;unfold ow;by_cases e:i=0
  ·subst e;rw[if_pos rfl];have:=hc 16 aN aN;omega
  ·rw[if_neg e];omega
 refine⟨sm 65536 (ow f) 16,(lW aN hd).1,(lW aN hd).2,?_,fun i hi=>(tJ aN hd i hi).symm⟩;rw[xB,h.2]
theorem Ww {f:Nat->Int} (h:∀i,i<16->0<=f i/\f i<65536):∀i,i<=16->cin f i=0:=by
 intro i
 induction i with
 | zero=>intro _;rfl
 | succ i ih=>
  intro hi;unfold cin;rw[ih aH];have:=h i aH;omega
theorem Wu {f:Nat->Int} (h:∀i,i<16->0<=f i/\f i<65536):∀i,i<16->ow f i=f i:=by
 intro i hi;unfold ow;rw[Ww h i aH,Ww h 16 aH];have:=h i hi
 split
 ·rename_i e;subst e;omega
 ·omega
theorem Fe.dg {X Y:Int} (h0:0<=Y) (h1:Y<65536 ^ 16) (h:Y % Pr=X % Pr):Fe (dg 65536 Y) X:=by
 refine⟨⟨fun i _ _=>by have:=aV (by decide:(0:Int)<65536) Y i;omega,by have:=aV (by decide:(0:Int)<65536) Y 0;omega,by have:=aV (by decide:(0:Int)<65536) Y 0;omega⟩,?_⟩;rw[XT ⟨h0,h1⟩,h]
def vR (Y:Int):Int:=if Pr<=Y then Y - Pr else Y
theorem LG {Y:Int} (h0:0<=Y) (h1:Y<65536 ^ 16):vR (vR Y)=Y % Pr:=by
 rw[WV] at h1;unfold vR;have hp:(38:Int)<Pr:=by decide
 have key:∀q r:Int,Y=Pr * q+r->0<=r->r<Pr->Y % Pr=r:=by
  intro q r e a b;rw[e,Int.add_comm,Int.add_mul_emod_self_left,uO a b]
 generalize Pr=p at *
 split
 ·split
  ·exact(key 2 _ aH aH aH).symm
  ·exact(key 1 _ aH aH aH).symm
 ·exact(key 0 _ aH aH aH).symm
theorem LH {Y:Int} (h0:0<=Y) (h1:Y<65536 ^ 16):0<=vR Y/\vR Y<65536 ^ 16:=by
 have:=WU;unfold vR
 split<;> omega
def jH (t x y:Nat->Int) (i j:Nat):Prop:=
 sm 65536 t 31=sm 65536 x i * sm 65536 y 16+x i * 65536 ^ i * sm 65536 y j/\
 ∀k,(k<i+j-> -((i+1) * 4316490000)<=t k/\t k<=(i+1) * 4316490000)/\(i+j<=k-> -(i * 4316490000)<=t k/\t k<=i * 4316490000)
theorem jH.zero (x y:Nat->Int):jH (fun _=>0) x y 0 0:=by
 refine⟨?_,fun k=>⟨fun h=>by simp,fun h=>by simp⟩⟩;rw[sH,show sm 65536 x 0=0 from rfl,show sm 65536 y 0=0 from rfl];simp
theorem jH.row {t x y:Nat->Int} {i:Nat} (h:jH t x y i 16):jH t x y (i+1) 0:=by
 refine⟨?_,fun k=>⟨fun hk=>?_,fun hk=>?_⟩⟩
 ·rw[h.1,show sm 65536 x (i+1)=sm 65536 x i+x i * 65536 ^ i from rfl,show sm 65536 y 0=0 from rfl,Int.add_mul,Int.mul_zero,Int.add_zero]
 ·have:=(h.2 k).1 aH;push_cast;omega
 ·rcases Nat.lt_or_ge k (i+16) with h' | h'
  ·have:=(h.2 k).1 h';push_cast;omega
  ·have:=(h.2 k).2 h';push_cast;omega
theorem Kc {a b:Int} (h0: -100<=a) (h1:a<=65700) (h2: -100<=b) (h3:b<=65700): -4316490000<=a * b/\a * b<=4316490000:=by
 have e:a * b=(a+100) * (b+100) - 100 * a - 100 * b - 10000:=by grind
 have m0:0<=(a+100) * (b+100):=Int.mul_nonneg aH aH;by_cases ha:0<=a
 ·by_cases hb:0<=b
  ·have:=Int.mul_nonneg ha hb;have:=Int.mul_le_mul h1 h3 hb (by decide:(0:Int)<=65700);omega
  ·have h4:0<=a * (-b):=Int.mul_nonneg ha aH;have h5:a * (-b)<=65700 * 100:=Int.mul_le_mul h1 aH aH aN;rw[Int.mul_neg] at h4 h5;omega
 ·by_cases hb:0<=b
  ·have h4:0<=(-a) * b:=Int.mul_nonneg aH hb;have h5:(-a) * b<=100 * 65700:=Int.mul_le_mul aH h3 hb aN;rw[Int.neg_mul] at h4 h5;omega
  ·have h4:0<=(-a) * (-b):=Int.mul_nonneg aH aH;have h5:(-a) * (-b)<=100 * 100:=Int.mul_le_mul aH aH aH aN;rw[Int.neg_mul_neg] at h4 h5;omega
theorem jH.bound {t x y:Nat->Int} {i j:Nat} (h:jH t x y i j) (hi:i<=16) (k:Nat): -73380330000<=t k/\t k<=73380330000:=by
 rcases Nat.lt_or_ge k (i+j) with h' | h'
 ·have:=(h.2 k).1 h';omega
 ·have:=(h.2 k).2 h';omega
theorem jH.step {t x y:Nat->Int} {i j:Nat} (h:jH t x y i j) (hi:i<16) (hj:j<16) (hx:Ea x) (hy:Ea y):jH (upd t (i+j) (t (i+j)+x i * y j)) x y i (j+1):=by
 have bx:=hx.bound i hi;have by':=hy.bound j hj
 have hm:=Kc bx.1 bx.2 by'.1 by'.2
 refine⟨?_,fun k=>?_⟩
 ·rw[oK,if_pos aH,h.1,show sm 65536 y (j+1)=sm 65536 y j+y j * 65536 ^ j from rfl,show t (i+j)+x i * y j - t (i+j)=x i * y j by omega,Int.pow_add]
  generalize (65536:Int) ^ i=p
  generalize (65536:Int) ^ j=q
  grind
 ·by_cases e:k=i+j
  ·subst e;have h2:=(h.2 (i+j)).2 (bB _);rw[kQ];exact⟨fun _=>by omega,fun hk=>by omega⟩
  ·rw[upd_ne _ _ e];exact⟨fun hk=>(h.2 k).1 aH,fun hk=>(h.2 k).2 aH⟩
theorem Fe.mul {t f g:Nat->Int} {X Y:Int} (h:jH t f g 16 0) (hf:Fe f X) (hg:Fe g Y):Fe (ow (ow (fun i=>if i<15 then t i+38 * t (16+i) else t i))) (X * Y):=by
 have ho:∀i,i<16-> -3000000000000<=(if i<15 then t i+38 * t (16+i) else t i)/\(if i<15 then t i+38 * t (16+i) else t i)<=3000000000000:=by
  intro i hi;have a:=h.bound (bB _) i;have b:=h.bound (bB _) (16+i)
  split<;> omega
 have c1:=uj ho (cl:= -46000000) (ch:=46000000) aN aN aN aN
 generalize ho':(fun i=>if i<15 then t i+38 * t (16+i) else t i)=o at *
 have hco:∀i,i<16-> -1750000000<=ow o i/\ow o i<=1750000000:=by
  intro i hi;have:=c1 16 (bB _);unfold ow
  split<;> omega
 have hnn:∀i,i<16->0<i->0<=ow o i/\ow o i<=65535:=by
  intro i hi h0;unfold ow;rw[if_neg aH];omega
 have c2:∀i,1<i->i<=16-> -1<=cin (ow o) i/\cin (ow o) i<=1:=by
  intro i
  induction i with
  | zero=>intro h;omega
  | succ i ih=>
   intro h1 h2;have e:cin (ow o) (i+1)=(ow o i+cin (ow o) i) / 65536:=rfl;rw[e];have a:=hnn i aH aH;by_cases e1:i=1
   ·subst e1;have e2:cin (ow o) 1=(ow o 0+0) / 65536:=rfl;have b:=hco 0 aN;omega
   ·have b:=ih aH aH;omega
 have c3:=c2 16 aN aN;refine⟨Bu aH aH,?_⟩;rw[xB,xB,←ho'];have e1:sm 65536 (fun i=>if i<15 then t i+38 * t (16+i) else t i) 16=sm 65536 t 16+38 * sm 65536 (fun i=>t (16+i)) 15:=by
  have e2:sm 65536 (fun i=>if i<15 then t i+38 * t (16+i) else t i) 15=sm 65536 (fun i=>1 * t i+38 * t (16+i)) 15:=pO fun i hi=>by rw[if_pos hi];omega
  rw[sm,e2,Gb,show sm 65536 t 16=sm 65536 t 15+t 15 * 65536 ^ 15 from rfl,if_neg aN];omega
 have e3:=Js 65536 t 16 15;have e4:=h.1;rw[show (16:Nat)+15=31 from rfl] at e3;rw[e4,show sm 65536 g 0=0 from rfl,Int.mul_zero,Int.add_zero,WV] at e3;rw[e1];have e5:sm 65536 t 16+38 * sm 65536 (fun i=>t (16+i)) 15=sm 65536 f 16 * sm 65536 g 16+Pr * (-2 * sm 65536 (fun i=>t (16+i)) 15):=by
  generalize Pr=p at *
  generalize sm 65536 (fun i=>t (16+i)) 15=s at *
  generalize sm 65536 t 16=u at *
  rw[e3]
  grind
 rw[kH e5,Int.mul_emod,hf.2,hg.2,←Int.mul_emod]
theorem zU (X:Int):∀i,i<16->upd (dg 65536 X) 15 (dg 65536 X 15 % 32768) i=dg 65536 (X % 2 ^ 255) i:=by
 intro i hi;have hM:(2:Int) ^ 255=65536 ^ 15 * 32768:=by decide
 rw[hM];have h1:=DW X (65536 ^ 15 * 32768);by_cases e:i=15
 ·subst e;rw[kQ];unfold dg;have h2:(X % (65536 ^ 15 * 32768)) / 65536 ^ 15=X / 65536 ^ 15 % 32768:=by
   have hp:(0:Int)<65536 ^ 15:=by decide
   generalize (65536:Int) ^ 15=p at *
   have h3:=DW X p;have h4:=DW (X / p) 32768;have h5:=zN X (show p≠0 by omega);have h6:=FC X hp;have h7:X / (p * 32768)=X / p / 32768:=(Int.ediv_ediv_of_nonneg aH).symm;rw[h7] at h1;have h8:X % (p * 32768)=X % p+X / p % 32768 * p:=by
    have:p * (X / p)=p * (X / p % 32768)+p * 32768 * (X / p / 32768):=by
     conv=>lhs;rw[<-h4]
     rw[Int.mul_add,Int.mul_assoc]
    rw[Int.mul_comm (X / p % 32768)];omega
   rw[h8,Int.add_mul_ediv_right _ _ aH,CP h5 h6,Int.zero_add]
  rw[h2];omega
 ·rw[upd_ne _ _ e]
  conv=>lhs;rw[<-h1]
  rw[show (65536:Int) ^ 15 * 32768 * (X / (65536 ^ 15 * 32768))=32768 * (X / (65536 ^ 15 * 32768)) * 65536 ^ 15 by
   generalize X / (65536 ^ 15 * 32768)=q
   rw[Int.mul_assoc,Int.mul_comm],VQ aN _ _ _ _ aH]
theorem GK (X:Int):0<=X % 2 ^ 255/\X % 2 ^ 255<65536 ^ 16:=by
 have h:=FC X (show (0:Int)<2 ^ 255 by decide);exact⟨zN _ aN,Int.lt_trans h aN⟩
theorem ajs:(2:Int) ^ 255=65536 ^ 15 * 32768:=by decide
theorem Vk (X:Int) (j:Nat):dg 65536 X (15+j) / 32768+dg 65536 X (16+j) % 32768 * 2=dg 65536 (X / 2 ^ 255) j:=by
 have e:X / 2 ^ 255 / 65536 ^ j=X / 65536 ^ (15+j) / 32768:=by
  rw[ajs,Int.ediv_ediv_of_nonneg aN,Int.ediv_ediv_of_nonneg (vF (eG aN _)),Int.pow_add]
  congr 1
  rw[Int.mul_assoc,Int.mul_comm 32768,←Int.mul_assoc]
 unfold dg;rw[e,show 16+j=(15+j)+1 by omega,dJ aN];omega
theorem Ux (X:Int) {i:Nat} (h:i<15):dg 65536 X i=dg 65536 (X % 2 ^ 255) i:=by
 have:=zU X i aH
 rwa [upd_ne _ _ aH] at this
theorem MG (X:Int):dg 65536 X 15 % 32768=dg 65536 (X % 2 ^ 255) 15:=by
 have:=zU X 15 aH
 rwa [kQ] at this
theorem OL {H:Int} {i:Nat}:H % 65536 ^ (i+1)=0 ↔ H % 65536 ^ i=0/\dg 65536 H i=0:=by
 rw[mod_succ aN];have hp:=eG (by decide:(0:Int)<65536) i;have h1:=zN H (show (65536:Int) ^ i≠0 by omega);have h2:=aV (by decide:(0:Int)<65536) H i
 constructor
 ·intro h;have h3:0<=dg 65536 H i * 65536 ^ i:=Int.mul_nonneg h2.1 aH;refine⟨by omega,?_⟩;have h4:dg 65536 H i * 65536 ^ i=0:=by omega
  rcases Int.mul_eq_zero.1 h4 with h | h
  ·exact h
  ·omega
 ·rintro⟨h3,h4⟩;rw[h3,h4];simp
theorem Vl {X:Int} {n:Nat} (hX:0<=X/\X<65536 ^ n) (hn:17<=n):0<=X / 2 ^ 255/\X / 2 ^ 255<65536 ^ (n - 15):=by
 refine⟨Int.ediv_nonneg hX.1 aN,Int.ediv_lt_of_lt_mul aN ?_⟩;have h1:(65536:Int) ^ n=65536 ^ (n - 15) * 65536 ^ 15:=by rw[<-Int.pow_add];congr 1;omega
 have h2:(65536:Int) ^ (n - 15) * 65536 ^ 15<=65536 ^ (n - 15) * 2 ^ 255:=Int.mul_le_mul_of_nonneg_left aN (vF (eG aN _));omega
def vg (X:Int):Int:=X % 2 ^ 255+19 * (X / 2 ^ 255)
theorem BL (X:Int):vg X % Pr=X % Pr:=by
 unfold vg;have h:=DW X (2 ^ 255);refine kH (c:= -(X / 2 ^ 255)) ?_;have e:(2:Int) ^ 255=Pr+19:=by decide
 rw[e] at h ⊢
 generalize X / (Pr+19)=q at *
 generalize X % (Pr+19)=r at *
 rw[Int.mul_neg];rw[Int.add_mul] at h;omega
theorem KG {X:Int} (h0:0<=X) (h1:X / 2 ^ 255≠0):0<=vg X/\vg X<X:=by
 unfold vg;have h:=DW X (2 ^ 255);have h2:=Int.ediv_nonneg h0 (show (0:Int)<=2 ^ 255 by decide);have h3:=zN X (show (2:Int) ^ 255≠0 by decide);omega
def oQ (L H:Int) (k:Nat):Int:=(L+19 * H) / 65536 ^ k - L / 65536 ^ k - 19 * (H / 65536 ^ k)
theorem Nt (L H:Int):oQ L H 0=0:=by simp[oQ];omega
theorem Nu (L H:Int) (k:Nat):(dg 65536 L k+oQ L H k+19 * dg 65536 H k) % 65536=dg 65536 (L+19 * H) k/\(dg 65536 L k+oQ L H k+19 * dg 65536 H k) / 65536=oQ L H (k+1):=by
 unfold oQ dg;rw[dJ aN L,dJ aN H,dJ aN (L+19 * H)];omega
theorem zq (L H:Int) (k:Nat):0<=oQ L H k/\oQ L H k<=19:=by
 unfold oQ;have hp:=eG (by decide:(0:Int)<65536) k
 generalize (65536:Int) ^ k=p at *
 have a:=DW L p;have b:=DW H p;have c:=DW (L+19 * H) p;have a1:=zN L (show p≠0 by omega);have a2:=FC L hp;have b1:=zN H (show p≠0 by omega);have b2:=FC H hp;have c1:=zN (L+19 * H) (show p≠0 by omega);have c2:=FC (L+19 * H) hp;have e:p * ((L+19 * H) / p - L / p - 19 * (H / p))=L % p+19 * (H % p) - (L+19 * H) % p:=by
  rw[Int.mul_sub,Int.mul_sub,show p * (19 * (H / p))=19 * (p * (H / p)) by rw[<-Int.mul_assoc,Int.mul_comm p,Int.mul_assoc]];omega
 generalize (L+19 * H) / p - L / p - 19 * (H / p)=t at *
 have u:p * t<p * 20:=by omega
 have l:p * (-1)<p * t:=by omega
 have:=Int.lt_of_mul_lt_mul_left u aH;have:=Int.lt_of_mul_lt_mul_left l aH;omega
theorem Rm {L H:Int} {l:Nat} (hL:0<=L/\L<65536 ^ l) (hH:0<=H/\H<65536 ^ l):oQ L H l=(L+19 * H) / 65536 ^ l/\oQ L H l=dg 65536 (L+19 * H) l/\L+19 * H<65536 ^ (l+1):=by
 have hb:=zq L H l;have e:oQ L H l=(L+19 * H) / 65536 ^ l:=by
  unfold oQ;rw[CP hL.1 hL.2,CP hH.1 hH.2];omega
 refine⟨e,?_,?_⟩
 ·unfold dg;rw[<-e];omega
 ·rw[Int.pow_succ];omega
theorem Ur {X:Int} (h:X / 2 ^ 255=0) (h0:0<=X):X % 2 ^ 255=X/\vR X=X % Pr:=by
 have h1:=DW X (2 ^ 255);rw[h] at h1;have h2:=FC X (show (0:Int)<2 ^ 255 by decide);have h3:X % 2 ^ 255=X:=by omega
 refine⟨h3,?_⟩;rw[h3] at h2;have hp:(38:Int)<Pr:=by decide
 have he:(2:Int) ^ 255=Pr+19:=by decide
 rw[he] at h2;unfold vR
 split
 ·rw[show X=X - Pr+Pr * 1 by omega,Int.add_mul_emod_self_left,uO aH aH];omega
 ·rw[uO h0 aH]
def dD (f g:Nat->Int):Nat->Int:=ow (fun i=>f i+g i)
def fE (f g:Nat->Int):Nat->Int:=ow (fun i=>f i - g i)
def iJ (f:Nat->Int):Nat->Int:=fE (fun _=>0) f
def Qe (f g:Nat->Int) (t:Nat->Int) (i:Nat):Nat->Nat->Int
 | 0=>t
 | j+1=>upd (Qe f g t i j) (i+j) (Qe f g t i j (i+j)+f i * g j)
def KP (f g:Nat->Int):Nat->Nat->Int
 | 0=>fun _=>0
 | i+1=>Qe f g (KP f g i) i 16
def aU (f g:Nat->Int):Nat->Int:=ow (ow (fun i=>if i<15 then KP f g 16 i+38 * KP f g 16 (16+i) else KP f g 16 i))
def sG (n:Int):Int:=if 0<=n/\n<65536 then n else 0
def aW (n:Int):Nat->Int:=if 0<=n/\n<65536 then upd (fun _=>0) 0 n else fun _=>0
theorem Fe.dD {f g:Nat->Int} {X Y:Int} (hf:Fe f X) (hg:Fe g Y):Fe (dD f g) (X+Y):=hf.add hg
theorem Fe.fE {f g:Nat->Int} {X Y:Int} (hf:Fe f X) (hg:Fe g Y):Fe (fE f g) (X - Y):=hf.sub hg
theorem Ad:Fe (fun _=>0) 0:=⟨⟨fun _ _ _=>by simp,by decide,by decide⟩,by rw[sH]⟩
theorem Fe.iJ {f:Nat->Int} {X:Int} (hf:Fe f X):Fe (iJ f) (-X):=by
 have:=Ad.sub hf
 rwa [Int.zero_sub] at this
theorem Ez {f g:Nat->Int} (hf:Ea f) (hg:Ea g) {t:Nat->Int} {i:Nat} (hi:i<16) (h:jH t f g i 0):∀j,j<=16->jH (Qe f g t i j) f g i j:=by
 intro j
 induction j with
 | zero=>intro _;exact h
 | succ j ih=>intro hj;exact(ih aH).step hi aH hf hg
theorem yH {f g:Nat->Int} (hf:Ea f) (hg:Ea g):∀i,i<=16->jH (KP f g i) f g i 0:=by
 intro i
 induction i with
 | zero=>intro _;exact jH.zero f g
 | succ i ih=>intro hi;exact(Ez hf hg aH (ih aH) 16 (bB _)).row
theorem Fe.aU {f g:Nat->Int} {X Y:Int} (hf:Fe f X) (hg:Fe g Y):Fe (aU f g) (X * Y):=Fe.mul (yH hf.1 hg.1 16 (bB _)) hf hg
theorem VH {n:Int} (h0:0<=n) (h1:n<65536):Fe (upd (fun _=>0) 0 n) n:=by
 refine⟨⟨fun i _ h=>by rw[upd_ne _ _ aH];simp,by rw[kQ];omega,by rw[kQ];omega⟩,?_⟩;rw[oK,sH];simp
theorem nN (n:Int):Fe (aW n) (sG n):=by
 unfold aW sG;by_cases h:0<=n/\n<65536
 ·rw[if_pos h,if_pos h];exact VH h.1 h.2
 ·rw[if_neg h,if_neg h];exact Ad
theorem MB {l:Int} (h0:1<=l) (h1:l<=255):∀i,i<32->upd (upd (fun _=>255) 0 (256 - l)) 31 127 i=dg 256 (2 ^ 255 - l) i:=by
 have hb:∀i,i<32->0<=upd (upd (fun _=>255) 0 (256 - l)) 31 127 i/\upd (upd (fun _=>255) 0 (256 - l)) 31 127 i<256:=by
  intro i _;unfold upd
  split
  ·omega
  ·split
   ·omega
   ·show (0:Int)<=255/\(255:Int)<256;decide
 have hs:sm 256 (upd (upd (fun _=>255) 0 (256 - l)) 31 127) 32=2 ^ 255 - l:=by
  rw[oK,oK,if_pos aN,if_pos aN,upd_ne _ _ aN];rw[show sm 256 (fun _=>255) 32=2 ^ 256 - 1 by decide];rw[show (256:Int) ^ 31=2 ^ 248 by decide];omega
 intro i hi;rw[<-hs,tJ aN hb i hi]
theorem MX (X:Int) (i:Nat):dg 256 (X / 2) i=dg 256 X i / 2+dg 256 X (i+1) % 2 * 128:=by
 unfold dg;rw[dJ aN X i,Int.ediv_ediv_of_nonneg aN,Int.mul_comm 2,←Int.ediv_ediv_of_nonneg (vF (eG aN _))];omega
def sM (X N:Int) (i:Nat):Int:=X ^ (N % 2 ^ i).toNat
theorem Mg (X N:Int):sM X N 0=1:=by unfold sM;rw[Int.pow_zero,Int.emod_one,show (0:Int).toNat=0 from rfl,Int.pow_zero]
theorem QB (N:Int) (i:Nat):N % 2 ^ (i+1)=N % 2 ^ i+N / 2 ^ i % 2 * 2 ^ i:=mod_succ (B:=2) aN N i
theorem Mh (X N:Int) (i:Nat):sM X N (i+1)=if N / 2 ^ i % 2=1 then sM X N i * X ^ (2 ^ i) else sM X N i:=by
 unfold sM;have hp:=eG (by decide:(0:Int)<2) i;have h0:=zN N (show (2:Int) ^ i≠0 by omega);rw[QB];by_cases e:N / 2 ^ i % 2=1
 ·rw[if_pos e,e,Int.one_mul,←Int.pow_add]
  congr 1
  have:((2:Int) ^ i)=((2 ^ i:Nat):Int):=by simp
  omega
 ·rw[if_neg e,show N / 2 ^ i % 2=0 by omega,Int.zero_mul,Int.add_zero]
theorem Ta (X:Int) (i:Nat):X ^ (2 ^ (i+1))=X ^ (2 ^ i) * X ^ (2 ^ i):=by rw[<-Int.pow_add];congr 1;rw[Nat.pow_succ];omega
theorem Mi {X N:Int} (h0:0<=N) (h1:N<2 ^ 256):sM X N 256=X ^ N.toNat:=by unfold sM;rw[uO h0 h1]
theorem Wz (N:Int) (i k:Nat) (hk:k<8):dg 256 N i / 2 ^ k % 2=N / 2 ^ (8 * i+k) % 2:=by
 rw[vC N (8 * i+k),show (8 * i+k) / 8=i by omega,show (8 * i+k) % 8=k by omega]
def IG (f:Nat->Int) (N:Int):Nat->Nat->Int
 | 0=>aW 1
 | k+1=>if N / 2 ^ (255 - k) % 2=1 then aU (aU (IG f N k) (IG f N k)) f else aU (IG f N k) (IG f N k)
theorem pow_even (X:Int) {a m:Nat} (h:a=2 * m):X ^ a=X ^ m * X ^ m:=by rw[h,←Int.pow_add];congr 1;omega
theorem Fe.IG {f:Nat->Int} {X N:Int} (hf:Fe f X) (h0:0<=N) (h1:N<2 ^ 256):∀k,k<=256->Fe (IG f N k) (X ^ (N / 2 ^ (256 - k)).toNat):=by
 intro k
 induction k with
 | zero=>
  intro _;rw[Nat.sub_zero,CP h0 h1,show (0:Int).toNat=0 from rfl,Int.pow_zero];have h:=nN 1
  rwa [show sG 1=1 by decide] at h
 | succ k ih=>
  intro hk;have h:=ih aH;have hh:=half N (255 - k);rw[show 255 - k+1=256 - k by omega] at hh;have hm:0<=N / 2 ^ (256 - k):=Int.ediv_nonneg h0 (vF (eG aN _));rw[show 256 - (k+1)=255 - k by omega];unfold Go.bC.IG;by_cases e:N / 2 ^ (255 - k) % 2=1
  ·rw[if_pos e];rw[e] at hh;rw[show (N / 2 ^ (255 - k)).toNat=2 * (N / 2 ^ (256 - k)).toNat+1 by omega,Int.pow_succ,pow_even X rfl];exact(h.aU h).aU hf
  ·rw[if_neg e];rw[pow_even X (show (N / 2 ^ (255 - k)).toNat=2 * (N / 2 ^ (256 - k)).toNat by omega)];exact h.aU h
def Gx (f:Nat->Int) (N:Int):Nat->Int:=Go.bC.IG f N 256
theorem Fe.Gx {f:Nat->Int} {X N:Int} (hf:Fe f X) (h0:0<=N) (h1:N<2 ^ 256):Fe (Gx f N) (X ^ N.toNat):=by
 have h:=hf.IG h0 h1 256 (bB _)
 rwa [Nat.sub_self,Int.pow_zero,Int.ediv_one] at h
theorem qz:Pr=(PN:Int):=by decide
theorem mq (X:Int) (n:Nat):X ^ n % Pr=(X % Pr) ^ n % Pr:=by
 induction n with
 | zero=>rw[Int.pow_zero,Int.pow_zero]
 | succ n ih=>rw[Int.pow_succ,Int.pow_succ,Int.mul_emod,ih,Int.mul_emod ((X % Pr) ^ n),Int.emod_emod_of_dvd _ (Int.dvd_refl Pr)]
theorem sS (x n:Nat):((x:Int) ^ n) % Pr=((x ^ n % PN:Nat):Int):=by rw[qz,Int.natCast_emod,Int.natCast_pow]
theorem AV (X:Int):∃x:Nat,X % Pr=(x:Int)/\x<PN/\(X % Pr≠0->¬ PN ∣ x):=by
 have h0:0<=X % Pr:=zN _ aN;have h1:X % Pr<Pr:=FC _ aN;refine⟨(X % Pr).toNat,by omega,by rw[qz] at *;omega,fun gB hd=>?_⟩;have hlt:(X % Pr).toNat<PN:=by rw[qz] at *;omega
 have:=Nat.eq_zero_of_dvd_of_lt hd hlt;omega
theorem Fj {X:Int} (h:X % Pr≠0):X ^ (PN - 1) % Pr=1:=by
 obtain⟨x,hx,hlt,hd⟩:=AV X;rw[mq,hx,sS,JL.OQ (hd h)]
 rfl
theorem zk {X Y:Int} (h:X * Y % Pr=0):X % Pr=0\/Y % Pr=0:=by
 obtain⟨x,hx,hlt,hd⟩:=AV X;obtain⟨y,hy,hlt2,hd2⟩:=AV Y;have h1:PN ∣ x * y:=by
  rw[Int.mul_emod,hx,hy,qz,←Int.natCast_mul,←Int.natCast_emod] at h;exact Nat.dvd_of_mod_eq_zero aH
 rcases JL.dvd_mul h1 with h2 | h2
 ·left
  by_cases e:X % Pr=0
  ·exact e
  ·exact absurd h2 (hd e)
 ·right
  by_cases e:Y % Pr=0
  ·exact e
  ·exact absurd h2 (hd2 e)
theorem oI {A B:Int} (h:(A - B) % Pr=0):A % Pr=B % Pr:=by
 have h1:=DW (A - B) Pr;rw[h] at h1;exact kH (c:=(A - B) / Pr) aH
theorem zero_of_eq {A B:Int} (h:A % Pr=B % Pr):(A - B) % Pr=0:=by
 rw[Int.sub_emod,h,Int.sub_self];rfl
theorem ach {X:Int} (h:X % Pr≠0):X ^ (PN - 2) * X % Pr=1:=by
 rw[<-Int.pow_succ,show (PN - 2).succ=PN - 1 by decide];exact Fj h
theorem inv_zero {X:Int} (h:X % Pr=0):X ^ (PN - 2) % Pr=0:=by
 rw[mq,h,Int.zero_pow aN];rfl
theorem SC:(2:Int) ^ ((PN - 1) / 2) % Pr=Pr - 1:=by
 have h:=sS 2 ((PN - 1) / 2);have h2:2 ^ ((PN - 1) / 2) % PN=PN - 1:=by
  have h3:=pY PN 256 2 ((PN - 1) / 2) 1 aN;rw[Nat.one_mul] at h3;rw[<-h3]
  decide+kernel
 rw[h2] at h;rw[show ((2:Nat):Int)=2 from rfl] at h;rw[h,qz]
 decide
def sqN (X:Int):Int:=X ^ ((PN - 1) / 2)
def je (X:Int):Int:=X ^ ((PN+3) / 8)
def rV:Int:=2 ^ ((PN - 1) / 4)
def qQ (X:Int):Bool:=decide (X % Pr=0) || decide (sqN X % Pr=1)
theorem JN (X:Int) (a b:Nat) (h:b=a+a):X ^ b=X ^ a * X ^ a:=by rw[h,Int.pow_add]
theorem UK:rV * rV % Pr=Pr - 1:=by
 have h:=SC;rw[JN 2 ((PN - 1) / 4) ((PN - 1) / 2) aN] at h;exact h
theorem MC {A B C:Int} (h:A % Pr=B % Pr):A * C % Pr=B * C % Pr:=by rw[Int.mul_emod,h,←Int.mul_emod]
theorem Ke {A B C:Int} (h:A % Pr=B % Pr):C * A % Pr=C * B % Pr:=by rw[Int.mul_emod,h,←Int.mul_emod]
theorem Ya (X:Int):je X * je X * (je X * je X)=X * X * sqN X:=by
 have e1:je X * je X=X ^ ((PN+3) / 8+(PN+3) / 8):=by unfold je;rw[Int.pow_add]
 have e2:X * X * sqN X=X ^ (2+(PN - 1) / 2):=by
  unfold sqN;rw[Int.pow_add,Int.pow_succ,Int.pow_succ,Int.pow_zero,Int.one_mul]
 rw[e1,e2,←Int.pow_add]
 congr 1
theorem Jz {X:Int} (h:qQ X=true):je X * je X % Pr=X % Pr\/je X * rV * (je X * rV) % Pr=X % Pr:=by
 unfold qQ at h;rw[mP,decide_eq_true_eq,decide_eq_true_eq] at h;rcases h with h | h
 ·left
  have h1:je X % Pr=0:=by unfold je;rw[mq,h,Int.zero_pow aN];rfl
  rw[Int.mul_emod,h1,h];rfl
 ·have h4:=Ya X
  generalize je X=R at *
  have h5:(R * R * (R * R)) % Pr=(X * X) % Pr:=by
   rw[h4,Int.mul_emod,h,Int.mul_one,Int.emod_emod_of_dvd _ (Int.dvd_refl Pr)]
  have h6:((R * R - X) * (R * R+X)) % Pr=0:=by
   rw[show (R * R - X) * (R * R+X)=R * R * (R * R) - X * X by grind];exact zero_of_eq h5
  rcases zk h6 with h7 | h7
  ·exact .inl (oI h7)
  ·right
   have h8:(R * R) % Pr=(-X) % Pr:=oI (by rw[show R * R - -X=R * R+X by omega];exact h7);have h9:rV * rV % Pr=(-1) % Pr:=UK.trans aN;rw[show R * rV * (R * rV)=R * R * (rV * rV) by grind,MC h8,Ke h9,show -X * -1=X by omega]
theorem Gp {X:Int} (h:qQ X=false) (R:Int):¬ R * R % Pr=X % Pr:=by
 intro hR;unfold qQ at h;rw[Bool.or_eq_false_iff,decide_eq_false_iff_not,decide_eq_false_iff_not] at h;have hR0:R % Pr≠0:=by
  intro h0
  apply h.1
  rw[<-hR,Int.mul_emod,h0];rfl
 apply h.2
 unfold sqN;rw[mq,←hR,←mq];have e:(R * R) ^ ((PN - 1) / 2)=R ^ (PN - 1):=by
  rw[show R * R=R ^ 2 by rw[Int.pow_succ,Int.pow_succ,Int.pow_zero,Int.one_mul],←Int.pow_mul]
  congr 1
 rw[e];exact Fj hR0
theorem Oc {X R:Int} (h:R * R % Pr=X % Pr):qQ X=true:=by
 cases hs:qQ X with
 | true=>rfl
 | false=>exact absurd h (Gp hs R)
theorem Ka {R:Int} (h:R % Pr % 2=1): -R % Pr % 2=0:=by
 have h0:0<=R % Pr:=zN _ aN;have h1:R % Pr<Pr:=FC _ aN;have kM:Pr % 2=1:=by decide
 have e: -R % Pr=Pr - R % Pr:=by
  have h2:=DW R Pr;rw[show -R=Pr - R % Pr+Pr * (-(R / Pr) - 1) by rw[Int.mul_sub,Int.mul_neg];omega,Int.add_mul_emod_self_left];exact uO aH aH
 rw[e];omega
theorem Py {R X:Int} (h:R * R % Pr=X * X % Pr):R % Pr=X % Pr\/R % Pr= -X % Pr:=by
 have h6:((R - X) * (R+X)) % Pr=0:=by
  rw[show (R - X) * (R+X)=R * R - X * X by grind];exact zero_of_eq h
 rcases zk h6 with h7 | h7
 ·exact .inl (oI h7)
 ·exact .inr (oI (by rw[show R - -X=R+X by omega];exact h7))
def dX (x z:Int):Int:=(x+z) * (x+z) * ((x - z) * (x - z))
def dZ (x z:Int):Int:=((x+z) * (x+z) - (x - z) * (x - z)) * ((x+z) * (x+z)+121665 * ((x+z) * (x+z) - (x - z) * (x - z)))
def sX (a b c d:Int):Int:=((c - d) * (a+b)+(c+d) * (a - b)) * ((c - d) * (a+b)+(c+d) * (a - b))
def sZ (u a b c d:Int):Int:=u * (((c - d) * (a+b) - (c+d) * (a - b)) * ((c - d) * (a+b) - (c+d) * (a - b)))
theorem XW (a b c d:Int):sX c d a b=sX a b c d:=by unfold sX;grind
theorem XV (u a b c d:Int):sZ u c d a b=sZ u a b c d:=by unfold sZ;grind
structure Two where
 a:Int
 b:Int
 c:Int
 d:Int
def Two.turn (s:Two):Two:=⟨s.c,s.d,s.a,s.b⟩
def Two.rung (u:Int) (bit:Int) (s:Two):Two:=
 if bit=1 then ⟨sX s.a s.b s.c s.d,sZ u s.a s.b s.c s.d,dX s.c s.d,dZ s.c s.d⟩ else ⟨dX s.a s.b,dZ s.a s.b,sX s.a s.b s.c s.d,sZ u s.a s.b s.c s.d⟩
def Aa (n u:Int):Nat->Two
 | 0=>⟨1,0,u,1⟩
 | k+1=>(Aa n u k).rung u (n / 2 ^ (254 - k) % 2)
def Two.flip (q:Bool) (s:Two):Two:=if q then s.turn else s
theorem Two.Qc (u:Int) (b:Int) (hb:b=0\/b=1) (s:Two):⟨dX (s.flip (b==1)).a (s.flip (b==1)).b,dZ (s.flip (b==1)).a (s.flip (b==1)).b,sX (s.flip (b==1)).a (s.flip (b==1)).b (s.flip (b==1)).c (s.flip (b==1)).d,sZ u (s.flip (b==1)).a (s.flip (b==1)).b (s.flip (b==1)).c (s.flip (b==1)).d⟩=((s.rung u b).flip (b==1)):=by
 rcases hb with rfl | rfl
 ·rfl
 ·show (⟨dX s.c s.d,dZ s.c s.d,sX s.c s.d s.a s.b,sZ u s.c s.d s.a s.b⟩:Two)=⟨dX s.c s.d,dZ s.c s.d,sX s.a s.b s.c s.d,sZ u s.a s.b s.c s.d⟩;rw[XW,XV]
def yB (n u:Int):Int:=(Aa n u 255).a * (Aa n u 255).b ^ (PN - 2)
def gV (s:Int):Int:=s % 2 ^ 254 / 8 * 8+2 ^ 254
def Cg (X Y:Int):Prop:=X % Pr=Y % Pr
theorem Cg.refl (X:Int):Cg X X:=rfl
theorem Cg.symm {X Y:Int} (h:Cg X Y):Cg Y X:=Eq.symm h
theorem Cg.trans {X Y Z:Int} (h:Cg X Y) (h':Cg Y Z):Cg X Z:=Eq.trans h h'
theorem Cg.add {X Y X' Y':Int} (h:Cg X Y) (h':Cg X' Y'):Cg (X+X') (Y+Y'):=by
 unfold Cg at *;rw[Int.add_emod,h,h',←Int.add_emod]
theorem Cg.sub {X Y X' Y':Int} (h:Cg X Y) (h':Cg X' Y'):Cg (X - X') (Y - Y'):=by
 unfold Cg at *;rw[Int.sub_emod,h,h',←Int.sub_emod]
theorem Cg.mul {X Y X' Y':Int} (h:Cg X Y) (h':Cg X' Y'):Cg (X * X') (Y * Y'):=by
 unfold Cg at *;rw[Int.mul_emod,h,h',←Int.mul_emod]
theorem Cg.pow {X Y:Int} (h:Cg X Y):∀n:Nat,Cg (X ^ n) (Y ^ n)
 | 0=>by rw[Int.pow_zero,Int.pow_zero];exact Cg.refl 1
 | n+1=>by rw[Int.pow_succ,Int.pow_succ];exact(Cg.pow h n).mul h
theorem Cg.mod (X:Int):Cg (X % Pr) X:=Int.emod_emod_of_dvd _ (Int.dvd_refl Pr)
def nA (x y:Nat):Nat:=(x+y) % PN
def nS (x y:Nat):Nat:=(x+(PN - y)) % PN
def nM (x y:Nat):Nat:=x * y % PN
def jW (n:Nat) (X:Int):Prop:=n<PN/\Cg (n:Int) X
theorem NQ:0<PN:=by decide
theorem Cc (n:Nat):Cg ((n % PN:Nat):Int) (n:Int):=by rw[Int.natCast_emod,←qz];exact Cg.mod _
theorem jW.add {m n:Nat} {X Y:Int} (h:jW m X) (h':jW n Y):jW (nA m n) (X+Y):=
 ⟨Nat.mod_lt _ NQ,(Cc _).trans (by rw[Int.natCast_add];exact h.2.add h'.2)⟩
theorem jW.mul {m n:Nat} {X Y:Int} (h:jW m X) (h':jW n Y):jW (nM m n) (X * Y):=
 ⟨Nat.mod_lt _ NQ,(Cc _).trans (by rw[Int.natCast_mul];exact h.2.mul h'.2)⟩
theorem jW.sub {m n:Nat} {X Y:Int} (h:jW m X) (h':jW n Y):jW (nS m n) (X - Y):=by
 refine⟨Nat.mod_lt _ NQ,(Cc _).trans (Cg.trans (Y:=(m:Int) - (n:Int)) ?_ (h.2.sub h'.2))⟩;have e:((m+(PN - n):Nat):Int)=(m:Int) - (n:Int)+Pr * 1:=by rw[qz];have:=h'.1;omega
 unfold Cg;rw[e,Int.add_mul_emod_self_left]
theorem UJ {X:Int} (Y:Int) (h:X % Pr≠0):Cg ((Y * X) * X ^ (PN - 2)) Y:=by
 have h1:=ach h;have e:(Y * X) * X ^ (PN - 2)=Y * (X ^ (PN - 2) * X):=by
  generalize X ^ (PN - 2)=I
  grind
 unfold Cg;rw[e,Int.mul_emod,h1,Int.mul_one,Int.emod_emod_of_dvd _ (Int.dvd_refl Pr)]
instance ams:NeZero PN:=⟨by decide⟩
abbrev Fp:Type:=Fin PN
def toF (X:Int):Fp:=⟨(X % Pr).toNat,by have h:=FC X WU;have h0:=zN X (show Pr≠0 by decide);rw[qz] at *;omega⟩
theorem gY (X:Int):(((toF X).val:Nat):Int)=X % Pr:=by
 show (((X % Pr).toNat:Nat):Int)=X % Pr;exact Int.toNat_of_nonneg (zN X aN)
theorem oG {x y:Fp} (h:((x.val:Nat):Int)=((y.val:Nat):Int)):x=y:=Fin.ext aH
theorem iA {X Y:Int}:toF X=toF Y ↔ Cg X Y:=by
 constructor
 ·intro h;unfold Cg;rw[<-gY,←gY,h]
 ·intro h;exact oG (by rw[gY,gY];exact h)
theorem xW (x:Fp):toF ((x.val:Nat):Int)=x:=oG (by rw[gY,qz,←Int.natCast_emod,Nat.mod_eq_of_lt x.isLt])
theorem oH (X Y:Int):toF (X+Y)=toF X+toF Y:=by
 refine oG ?_;rw[gY,Fin.val_add,Int.natCast_emod,Int.natCast_add,gY,gY,←qz,←Int.add_emod]
theorem fG (X Y:Int):toF (X * Y)=toF X * toF Y:=by
 refine oG ?_;rw[gY,Fin.val_mul,Int.natCast_emod,Int.natCast_mul,gY,gY,←qz,←Int.mul_emod]
theorem gQ:toF 0=0:=oG (by rw[gY];rfl)
theorem fI:toF 1=1:=oG (by rw[gY];decide)
theorem tY (X Y:Int):toF (X - Y)=toF X - toF Y:=by
 have h:toF (X - Y)+toF Y=toF X:=by rw[<-oH];congr 1;omega
 grind
theorem ny (X:Int):toF (-X)= -toF X:=by
 have h:toF (-X)+toF X=0:=by rw[<-oH,←gQ];congr 1;omega
 grind
theorem rY {X:Int}:toF X≠0 ↔ X % Pr≠0:=by
 rw[<-gQ,Ne,iA];exact Iff.rfl
theorem jN:(1:Fp)≠0:=by rw[<-fI];exact rY.2 aN
theorem Fb:(2:Fp)≠0:=by
 have:(2:Fp)=toF 2:=by rw[show (2:Int)=1+1 from rfl,oH,fI];rfl
 rw[this];exact rY.2 aN
theorem BJ {x:Fp} (h:x≠0):∃y:Fp,x * y=1:=by
 obtain⟨X,rfl⟩:∃X,x=toF X:=⟨_,(xW x).symm⟩
 refine⟨toF (X ^ (PN - 2)),?_⟩;have h1:=UJ 1 (rY.1 h);rw[Int.one_mul] at h1;rw[<-fG,←fI];exact iA.2 h1
theorem mG {x y:Fp} (h:x * y=0):x=0\/y=0:=by
 by_cases hx:x=0
 ·exact .inl hx
 ·obtain⟨z,hz⟩:=BJ hx
  right
  grind
theorem eX {x y:Fp} (hx:x≠0) (hy:y≠0):x * y≠0:=fun h=>(mG h).elim hx hy
theorem jO {x y z:Fp} (hz:z≠0) (h:x * z=y * z):x=y:=by
 obtain⟨w,hw⟩:=BJ hz
 grind
noncomputable def inv (x:Fp):Fp:=open Classical in if h:∃y:Fp,x * y=1 then Classical.choose h else 0
theorem inv_mul {x:Fp} (h:x≠0):x * inv x=1:=by
 unfold inv;rw[dif_pos (BJ h)];exact Classical.choose_spec (BJ h)
theorem UH:inv 0=0:=by
 unfold inv;rw[dif_neg];rintro⟨y,hy⟩;exact jN (by grind)
theorem UG {x y:Fp} (h:x * y=1):y=inv x:=by
 have hx:x≠0:=by intro e;subst e;exact jN (by grind)
 have:=inv_mul hx
 grind
theorem qC (X:Int):toF (X ^ (PN - 2))=inv (toF X):=by
 by_cases h:X % Pr=0
 ·have h1:toF X=0:=by rw[<-gQ];exact iA.2 h
  rw[h1,UH,←gQ];exact iA.2 (show X ^ (PN - 2) % Pr=0 % Pr by rw[inv_zero h];rfl)
 ·refine UG ?_;have h1:=UJ 1 h;rw[Int.one_mul] at h1;rw[<-fG,←fI];exact iA.2 h1
def iE:Fp:=toF rV
theorem OH:iE * iE= -1:=by
 unfold iE;rw[<-fG,←fI,←ny];exact iA.2 (show rV * rV % Pr= -1 % Pr by rw[UK];decide)
structure NS where
 d:Fp
 no:∀r:Fp,r * r≠d
structure Ed (E:NS) where
 x:Fp
 y:Fp
 on:y ^ 2 - x ^ 2=1+E.d * x ^ 2 * y ^ 2
section
variable {E : NS}
theorem Ed.ext {p q:Ed E} (h1:p.x=q.x) (h2:p.y=q.y):p=q:=by cases p;cases q;simp_all
theorem VR {x1 y1 x2 y2 d i e:Fp} (hd:∀r:Fp,r * r≠d) (hi:i * i= -1) (h1:y1 ^ 2 - x1 ^ 2=1+d * x1 ^ 2 * y1 ^ 2) (h2:y2 ^ 2 - x2 ^ 2=1+d * x2 ^ 2 * y2 ^ 2) (he:e * e=1):d * (x1 * x2 * (y1 * y2))≠e:=by
 intro hm;have he0:e≠0:=by intro h;exact jN (by grind)
 have hx1:x1≠0:=by intro h;exact he0 (by grind)
 have hy1:y1≠0:=by intro h;exact he0 (by grind)
 have hy2:y2≠0:=by intro h;exact he0 (by grind)
 have key:∀s t:Fp,t * t=d * (s * s)->s≠0->False:=by
  intro s t h hs;obtain⟨w,hw⟩:=BJ hs;exact hd (t * w) (by grind)
 have a1:(i * x1+e * y1) * (i * x1+e * y1)=d * ((x1 * y1 * (i * x2+y2)) * (x1 * y1 * (i * x2+y2))):=by grind
 have a2:(i * x1 - e * y1) * (i * x1 - e * y1)=d * ((x1 * y1 * (i * x2 - y2)) * (x1 * y1 * (i * x2 - y2))):=by grind
 by_cases hs:i * x2+y2=0
 ·refine key _ _ a2 (eX (eX hx1 hy1) ?_);intro ht;have h2y:2 * y2=0:=by grind
  rcases mG h2y with h | h
  ·exact Fb h
  ·exact hy2 h
 ·exact key _ _ a1 (eX (eX hx1 hy1) hs)
theorem Ed.jZ (p q:Ed E):1+E.d * (p.x * q.x * (p.y * q.y))≠0:=by
 intro h;exact VR E.no OH p.on q.on (e:= -1) (by grind) (by grind)
theorem Ed.jh (p q:Ed E):1 - E.d * (p.x * q.x * (p.y * q.y))≠0:=by
 intro h;exact VR E.no OH p.on q.on (e:=1) (by grind) (by grind)
theorem Ra {x1 y1 x2 y2 d:Fp} (h1:y1 ^ 2 - x1 ^ 2=1+d * x1 ^ 2 * y1 ^ 2) (h2:y2 ^ 2 - x2 ^ 2=1+d * x2 ^ 2 * y2 ^ 2):
  ((y1 * y2+x1 * x2) * (1+d * (x1 * x2 * (y1 * y2)))) ^ 2 - ((x1 * y2+x2 * y1) * (1 - d * (x1 * x2 * (y1 * y2)))) ^ 2=((1+d * (x1 * x2 * (y1 * y2))) * (1 - d * (x1 * x2 * (y1 * y2)))) ^ 2+d * ((x1 * y2+x2 * y1) * (y1 * y2+x1 * x2)) ^ 2:=by
 grind
theorem Zj {A B C D u v d:Fp} (hv:B * v=1) (hu:D * u=1) (h:(C * B) ^ 2 - (A * D) ^ 2=(B * D) ^ 2+d * (A * C) ^ 2):(C * u) ^ 2 - (A * v) ^ 2=1+d * (A * v) ^ 2 * (C * u) ^ 2:=by
 have h':((C * B) ^ 2 - (A * D) ^ 2) * (u * v) ^ 2=((B * D) ^ 2+d * (A * C) ^ 2) * (u * v) ^ 2:=by rw[h]
 grind
noncomputable def Ed.add (p q:Ed E):Ed E where
 x:=(p.x * q.y+q.x * p.y) * inv (1+E.d * (p.x * q.x * (p.y * q.y)))
 y:=(p.y * q.y+p.x * q.x) * inv (1 - E.d * (p.x * q.x * (p.y * q.y)))
 on:=Zj (inv_mul (p.jZ q)) (inv_mul (p.jh q)) (Ra p.on q.on)
theorem Ed.nu (p q:Ed E):(p.add q).x * (1+E.d * (p.x * q.x * (p.y * q.y)))=p.x * q.y+q.x * p.y:=by
 have h:=inv_mul (p.jZ q);show (p.x * q.y+q.x * p.y) * inv (1+E.d * (p.x * q.x * (p.y * q.y))) * (1+E.d * (p.x * q.x * (p.y * q.y)))= _
 grind
theorem Ed.ni (p q:Ed E):(p.add q).y * (1 - E.d * (p.x * q.x * (p.y * q.y)))=p.y * q.y+p.x * q.x:=by
 have h:=inv_mul (p.jh q);show (p.y * q.y+p.x * q.x) * inv (1 - E.d * (p.x * q.x * (p.y * q.y))) * (1 - E.d * (p.x * q.x * (p.y * q.y)))= _
 grind
theorem Ed.add_comm (p q:Ed E):p.add q=q.add p:=by
 apply Ed.ext
 ·refine jO (p.jZ q) ?_;rw[Ed.nu];have h:=q.nu p;rw[show q.x * p.x * (q.y * p.y)=p.x * q.x * (p.y * q.y) by grind] at h;rw[h];grind
 ·refine jO (p.jh q) ?_;rw[Ed.ni];have h:=q.ni p;rw[show q.x * p.x * (q.y * p.y)=p.x * q.x * (p.y * q.y) by grind] at h;rw[h];grind
def Ed.zero:Ed E:=⟨0,1,by grind⟩
theorem Ed.add_zero (p:Ed E):p.add .zero=p:=by
 have h1:(p.add .zero).x * (1+E.d * (p.x * 0 * (p.y * 1)))=p.x * 1+0 * p.y:=p.nu .zero;have h2:(p.add .zero).y * (1 - E.d * (p.x * 0 * (p.y * 1)))=p.y * 1+p.x * 0:=p.ni .zero
 apply Ed.ext
 ·generalize (p.add .zero).x=s at *
  grind
 ·generalize (p.add .zero).y=s at *
  grind
theorem Ed.zero_add (p:Ed E):(Ed.zero:Ed E).add p=p:=by rw[Ed.add_comm,Ed.add_zero]
def Ed.neg (p:Ed E):Ed E:=⟨-p.x,p.y,by have:=p.on;grind⟩
theorem Ed.add_neg (p:Ed E):p.add p.neg=.zero:=by
 have h1:=p.nu p.neg;have h2:=p.ni p.neg;have ho:=p.on;have n1:=p.jZ p.neg;have n2:=p.jh p.neg;simp only[Ed.neg] at h1 h2 n1 n2
 apply Ed.ext
 ·refine jO n1 ?_;have e1:(p.add p.neg).x * (1+E.d * (p.x * -p.x * (p.y * p.y)))=0:=by rw[show (p.add p.neg).x=(p.add ⟨-p.x,p.y,p.neg.on⟩).x from rfl,h1];grind
  rw[e1];show (0:Fp)=0 * _;grind
 ·refine jO n2 ?_;have e2:(p.add p.neg).y * (1 - E.d * (p.x * -p.x * (p.y * p.y)))=p.y * p.y+p.x * -p.x:=by rw[show (p.add p.neg).y=(p.add ⟨-p.x,p.y,p.neg.on⟩).y from rfl,h2]
  rw[e2];show _=(1:Fp) * _;grind
theorem Io {x1 y1 x2 y2 x3 y3 d:Fp} (h1:y1 ^ 2 - x1 ^ 2=1+d * x1 ^ 2 * y1 ^ 2) (h2:y2 ^ 2 - x2 ^ 2=1+d * x2 ^ 2 * y2 ^ 2) (h3:y3 ^ 2 - x3 ^ 2=1+d * x3 ^ 2 * y3 ^ 2):
  ((x1*y2+x2*y1)*(1-d*(x1*x2*(y1*y2)))*y3+(1+d*(x1*x2*(y1*y2)))*(y1*y2+x1*x2)*x3) * ((1+d*(x2*x3*(y2*y3)))*(1-d*(x2*x3*(y2*y3)))+d*((x2*y3+x3*y2)*(y2*y3+x2*x3)*(x1*y1)))
  =((x2*y3+x3*y2)*(1-d*(x2*x3*(y2*y3)))*y1+(1+d*(x2*x3*(y2*y3)))*(y2*y3+x2*x3)*x1) * ((1+d*(x1*x2*(y1*y2)))*(1-d*(x1*x2*(y1*y2)))+d*((x1*y2+x2*y1)*(y1*y2+x1*x2)*(x3*y3))):=by
 grind
theorem Im {x1 y1 x2 y2 x3 y3 d:Fp} (h1:y1 ^ 2 - x1 ^ 2=1+d * x1 ^ 2 * y1 ^ 2) (h2:y2 ^ 2 - x2 ^ 2=1+d * x2 ^ 2 * y2 ^ 2) (h3:y3 ^ 2 - x3 ^ 2=1+d * x3 ^ 2 * y3 ^ 2):
  ((1+d*(x1*x2*(y1*y2)))*(y1*y2+x1*x2)*y3+(x1*y2+x2*y1)*(1-d*(x1*x2*(y1*y2)))*x3) * ((1+d*(x2*x3*(y2*y3)))*(1-d*(x2*x3*(y2*y3))) - d*((x2*y3+x3*y2)*(y2*y3+x2*x3)*(x1*y1)))
  =((1+d*(x2*x3*(y2*y3)))*(y2*y3+x2*x3)*y1+(x2*y3+x3*y2)*(1-d*(x2*x3*(y2*y3)))*x1) * ((1+d*(x1*x2*(y1*y2)))*(1-d*(x1*x2*(y1*y2))) - d*((x1*y2+x2*y1)*(y1*y2+x1*x2)*(x3*y3))):=by
 grind
theorem VD {a b A B C D x3 y3 d s:Fp} (ha:a * B=A) (hb:b * D=C) (hs:s * (1+d * (a * x3 * (b * y3)))=a * y3+x3 * b):s * (B * D+d * (A * C * (x3 * y3)))=A * D * y3+B * C * x3:=by
 subst ha;subst hb;have:s * (B * D+d * (a * B * (b * D) * (x3 * y3)))=s * (1+d * (a * x3 * (b * y3))) * (B * D):=by grind
 rw[this,hs];grind
theorem VA {a b A B C D x3 y3 d s:Fp} (ha:a * B=A) (hb:b * D=C) (hs:s * (1 - d * (a * x3 * (b * y3)))=b * y3+a * x3):s * (B * D - d * (A * C * (x3 * y3)))=B * C * y3+A * D * x3:=by
 subst ha;subst hb;have:s * (B * D - d * (a * B * (b * D) * (x3 * y3)))=s * (1 - d * (a * x3 * (b * y3))) * (B * D):=by grind
 rw[this,hs];grind
theorem Fa {a b A B C D x3 y3 d:Fp} (ha:a * B=A) (hb:b * D=C) (hB:B≠0) (hD:D≠0) (h:1+d * (a * x3 * (b * y3))≠0):B * D+d * (A * C * (x3 * y3))≠0:=by
 subst ha;subst hb;have:B * D+d * (a * B * (b * D) * (x3 * y3))=B * D * (1+d * (a * x3 * (b * y3))):=by grind
 rw[this];exact eX (eX hB hD) h
theorem EZ {a b A B C D x3 y3 d:Fp} (ha:a * B=A) (hb:b * D=C) (hB:B≠0) (hD:D≠0) (h:1 - d * (a * x3 * (b * y3))≠0):B * D - d * (A * C * (x3 * y3))≠0:=by
 subst ha;subst hb;have:B * D - d * (a * B * (b * D) * (x3 * y3))=B * D * (1 - d * (a * x3 * (b * y3))):=by grind
 rw[this];exact eX (eX hB hD) h
theorem KM {s t n1 d1 n2 d2:Fp} (hd1:d1≠0) (hd2:d2≠0) (h1:s * d1=n1) (h2:t * d2=n2) (h:n1 * d2=n2 * d1):s=t:=by
 refine jO (eX hd1 hd2) ?_
 grind
theorem Ed.add_assoc (p q r:Ed E):(p.add q).add r=p.add (q.add r):=by
 rw[Ed.add_comm p (q.add r)]
 apply Ed.ext
 ·exact KM (Fa (p.nu q) (p.ni q) (p.jZ q) (p.jh q) ((p.add q).jZ r)) (Fa (q.nu r) (q.ni r) (q.jZ r) (q.jh r) ((q.add r).jZ p))
   (VD (p.nu q) (p.ni q) ((p.add q).nu r)) (VD (q.nu r) (q.ni r) ((q.add r).nu p)) (Io p.on q.on r.on)
 ·exact KM (EZ (p.nu q) (p.ni q) (p.jZ q) (p.jh q) ((p.add q).jh r)) (EZ (q.nu r) (q.ni r) (q.jZ r) (q.jh r) ((q.add r).jh p))
   (VA (p.nu q) (p.ni q) ((p.add q).ni r)) (VA (q.nu r) (q.ni r) ((q.add r).ni p)) (Im p.on q.on r.on)
noncomputable def Ed.mul (p:Ed E):Nat->Ed E
 | 0=>.zero
 | n+1=>(p.mul n).add p
theorem Ed.mul_one (p:Ed E):p.mul 1=p:=p.zero_add
theorem Ed.mul_add (p:Ed E) (m:Nat):∀n,p.mul (m+n)=(p.mul m).add (p.mul n)
 | 0=>(Ed.add_zero _).symm
 | n+1=>by rw[<-Nat.add_assoc,Ed.mul,Ed.mul_add p m n,Ed.add_assoc];rfl
theorem Ed.GI (p:Ed E) (m:Nat):∀n,p.mul (m * n)=(p.mul m).mul n
 | 0=>rfl
 | n+1=>by rw[Nat.mul_succ,Ed.mul_add,Ed.GI p m n];rfl
end
noncomputable def dE:Fp:= -(toF 121665 * inv (toF 121666))
theorem TK {a b c:Fp} (h:b * c=1): -(a * c) * b= -a:=by grind
theorem Wi:dE * toF 121666= - toF 121665:=TK (inv_mul (rY.2 aN))
theorem aby:uW PN 256 (PN - 121665 * 121666) ((PN - 1) / 2) 1 % PN≠1:=by decide+kernel
theorem Yx:Cg (-(121665 * 121666)) ((PN - 121665 * 121666:Nat):Int):=by
 have h:((PN - 121665 * 121666:Nat):Int)=(PN:Int) - 121665 * 121666:=by
  have:121665 * 121666<=PN:=by decide
  omega
 unfold Cg;rw[h,←qz];exact kH (c:= -1) aH
theorem Qx (R:Int):¬ Cg (R * R) (-(121665 * 121666)):=by
 intro h;have h1:=Oc (R:=R) (X:= -(121665 * 121666)) h;unfold qQ at h1;simp only[mP,decide_eq_true_eq] at h1;rcases h1 with h1 | h1
 ·exact absurd h1 (by decide+kernel)
 ·have h2:sqN (-(121665 * 121666)) % Pr=(((PN - 121665 * 121666:Nat):Int) ^ ((PN - 1) / 2)) % Pr:=Yx.pow _;rw[h2,sS] at h1;have h3:=pY PN 256 (PN - 121665 * 121666) ((PN - 1) / 2) 1 (by decide+kernel);rw[Nat.one_mul] at h3;have h4:=aby;rw[h3] at h4;omega
theorem Wh (r:Fp):r * r≠dE:=by
 intro h;obtain⟨R,rfl⟩:∃R,r=toF R:=⟨_,(xW r).symm⟩
 have h0:=Wi;have key:∀a b r d:Fp,d * b= -a->r * r=d->(r * b) * (r * b)= -(a * b):=by intro a b r d h h';grind
 have h1:=key _ _ _ _ h0 h;rw[<-fG,←fG,←fG,←ny] at h1;exact Qx (R * 121666) (iA.1 h1)
noncomputable def C7:NS:=⟨dE,Wh⟩
def qx (X c:Int) (k:Nat):Int:=(10 * (X % 65536 ^ k)+c) / 65536 ^ k
theorem Nv (X c:Int):qx X c 0=c:=by unfold qx;rw[Int.pow_zero,Int.ediv_one,Int.emod_one];omega
theorem KU {X c:Int} (h0:0<=c) (h1:c<=9) (k:Nat):0<=qx X c k/\qx X c k<=9:=by
 have hp:(0:Int)<65536 ^ k:=Int.pow_pos aN;have hm:=zN X (Int.ne_of_gt hp);have hl:=FC X hp;unfold qx
 generalize (65536:Int) ^ k=B at *
 generalize X % B=r at *
 refine⟨Int.ediv_nonneg aH aH,?_⟩;have:(10 * r+c) / B<10:=Int.ediv_lt_of_lt_mul hp aH;omega
theorem Nw (X c:Int) (k:Nat):(10 * dg 65536 X k+qx X c k) % 65536=dg 65536 (10 * X+c) k/\(10 * dg 65536 X k+qx X c k) / 65536=qx X c (k+1):=by
 have hp:(0:Int)<65536 ^ k:=Int.pow_pos aN;have hms:=mod_succ (B:=65536) aN X k
 constructor
 ·show _=(10 * X+c) / 65536 ^ k % 65536;have e:10 * X+c=(10 * (X % 65536 ^ k)+c)+(10 * (X / 65536 ^ k)) * 65536 ^ k:=by
   have:=Int.mul_ediv_add_emod X (65536 ^ k)
   generalize (65536:Int) ^ k=B at *
   generalize X / B=q at *
   generalize X % B=r at *
   subst this
   grind
  rw[e,Int.add_mul_ediv_right _ _ (Int.ne_of_gt hp)];show (10 * (X / 65536 ^ k % 65536)+qx X c k) % 65536= _;unfold qx;omega
 ·unfold qx;have e:10 * (X % 65536 ^ (k+1))+c=(10 * (X % 65536 ^ k)+c)+(10 * dg 65536 X k) * 65536 ^ k:=by
   rw[hms]
   generalize (65536:Int) ^ k=B at *
   generalize dg 65536 X k=d at *
   generalize X % B=r at *
   grind
  rw[e,Int.pow_succ,←Int.ediv_ediv_of_nonneg (vF hp),Int.add_mul_ediv_right _ _ (Int.ne_of_gt hp),Int.add_comm]
end Go.bC
