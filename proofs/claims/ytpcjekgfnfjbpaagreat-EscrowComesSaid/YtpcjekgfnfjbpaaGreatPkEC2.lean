/- Part 2 of EscrowComes; conditions: in each theorem. -/
import Derived.Test.YtpcjekgfnfjbpaaGreatPkEC1
import Derived.BigQuiet
import Derived.Deep.QuietTactic
import Derived.Lib.Hide
import Derived.WalkKit
import Derived.WalkLawsBesides
import Derived.WalkSmall
import Derived.WalkSpells
set_option linter.unusedVariables false
set_option linter.unusedSimpArgs false
namespace Go.bI
open Go.RowKit
def Rd (k:IntKind) (w:World) (v:Value) (n:Nat) (f:Nat->Int):Prop:=
 ∃a c,v=.slice a n c/\n<=c/\c<=9223372036854775807/\(a=none->c=0)/\
  (0<n->∃b o,a=some ⟨b,o,none⟩/\b<w.heap.size/\∀i,i<n->w.cell? ⟨b,o+i,none⟩=some (.int k (f i)))
theorem Rd.below {k:IntKind} {w w':World} {v:Value} {n:Nat} {f:Nat->Int} (h:Rd k w v n f) (hb:Below w.heap.size w w'):Rd k w' v n f:=by
 obtain⟨a,c,rfl,h1,h2,h3,h4⟩:=h;refine⟨a,c,rfl,h1,h2,h3,fun hn=>?_⟩;obtain⟨b,o,rfl,hlt,hc⟩:=h4 hn;have:=hb.size;exact⟨b,o,rfl,by omega,fun i hi=>(hb.cell (p:=⟨b,o+i,none⟩) hlt).trans (hc i hi)⟩
theorem Rd.congr {k:IntKind} {w:World} {v:Value} {n:Nat} {f g:Nat->Int} (h:Rd k w v n f) (e:∀i,i<n->f i=g i):Rd k w v n g:=by
 obtain⟨a,c,rfl,h1,h2,h3,h4⟩:=h;refine⟨a,c,rfl,h1,h2,h3,fun hn=>?_⟩;obtain⟨b,o,rfl,hlt,hc⟩:=h4 hn;exact⟨b,o,rfl,hlt,fun i hi=>by rw[hc i hi,e i hi]⟩
theorem Rd.nil (k:IntKind) (w:World) (f:Nat->Int):Rd k w (.slice none 0 0) 0 f:=
 ⟨none,0,rfl,Nat.le_refl _,by omega,fun _=>rfl,fun h=>by omega⟩
def vals (k:IntKind) (n:Nat) (f:Nat->Int):List Value:=(List.range n).map fun i=>.int k (f i)
@[simp] theorem dH (k:IntKind) (n:Nat) (f:Nat->Int):(vals k n f).length=n:=by simp[vals]
theorem ru {k:IntKind} {n:Nat} {f g:Nat->Int} (e:∀i,i<n->f i=g i):vals k n f=vals k n g:=by
 unfold vals;exact List.map_congr_left fun i hi=>by rw[e i (List.mem_range.1 hi)]
theorem dF {k:IntKind} {n:Nat} {f:Nat->Int} {i:Nat} (h:i<n):(vals k n f)[i]? =some (.int k (f i)):=by
 simp[vals,h]
def arr (k:IntKind) (n:Nat) (f:Nat->Int):Array Value:=(vals k n f).toArray
@[simp] theorem iZ (k:IntKind) (n:Nat) (f:Nat->Int):(arr k n f).size=n:=by simp[arr]
theorem yC {k:IntKind} {n:Nat} {f:Nat->Int} {i:Nat} (h:i<n):(arr k n f)[i]? =some (.int k (f i)):=by
 simpa [arr] using dF h
theorem iQ {k:IntKind} {n:Nat} {f g:Nat->Int} (e:∀i,i<n->f i=g i):arr k n f=arr k n g:=by rw[arr,arr,ru e]
def Own (k:IntKind) (e:TypeId) (base:Nat) (w:World) (v:Value) (n:Nat) (f:Nat->Int):Prop:=
 w.ownsRow base e 1 v n (vals k n f)
theorem Own.rd {k:IntKind} {e:TypeId} {base:Nat} {w:World} {v:Value} {n:Nat} {f:Nat->Int} (h:Own k e base w v n f):Rd k w v n f:=by
 obtain⟨_,h2⟩:=h;rcases h2 with⟨rfl,rfl⟩ | ⟨g,cap,cur,rfl,hb,hg,hn,hc,hs,ht⟩
 ·exact Rd.nil _ _ _
 ·unfold maxLen at hc;refine⟨_,_,rfl,hn,by omega,(fun h=>by cases h),fun _=>⟨g,0,rfl,(Array.getElem?_eq_some_iff.1 hg).1,fun i hi=>?_⟩⟩;rw[Nat.zero_add,cell_of_row w g i cur e (0,0) hg];have:=dF (k:=k) (f:=f) hi;rw[<-ht,List.getElem?_take] at this
  simpa [hi] using this
theorem Own.new (k:IntKind) (e:TypeId) {base:Nat} (w:World) (cs:Array Value) (n:Nat) (f:Nat->Int) (hb:base<=w.heap.size) (hn:n<=9223372036854775807) (hs:cs.size=n) (hc:∀i,i<n->cs[i]? =some (.int k (f i))):
  Own k e base (w.alloc (.cells cs e)) (.slice (some ⟨w.heap.size,0,none⟩) n n) n f:=by
 have hl:cs.toList=vals k n f:=by
  apply List.ext_getElem?
  intro i;by_cases h:i<n
  ·rw[Array.getElem?_toList,hc i h,dF h]
  ·rw[Array.getElem?_toList];simp[h,hs,vals]
 unfold Own;rw[<-hl];exact World.ownsRow_lit w cs n hb (by unfold maxLen;omega) (by simp[hs])
theorem Own.congr {k:IntKind} {e:TypeId} {base:Nat} {w:World} {v:Value} {n:Nat} {f g:Nat->Int} (h:Own k e base w v n f) (q:∀i,i<n->f i=g i):Own k e base w v n g:=by
 unfold Own at *
 rwa [ru q] at h
theorem Own.nil (k:IntKind) (e:TypeId) (base:Nat) (w:World) (f:Nat->Int):Own k e base w (.slice none 0 0) 0 f:=World.ownsRow_nil _ _ _ _
theorem below_drewN {B:Nat} {a w:World} (h:Below B a w) (n:Nat):Below B a (w.drewN n):=h.trans ⟨rfl,rfl,rfl,Nat.le_refl _,fun _ _=>rfl⟩
theorem IK {P:Program} {t e:TypeId} (ht:P.underlying t=some (.slice e)):P.elem t=e:=by simp[Program.elem,ht]
theorem mP {P:Program} {e:TypeId} {z:Option Value} {bytes size:Nat} (h:(P.info? e).map (fun i=>(i.zero,i.size,i.bytes))=some (z,size,bytes)) (w:World):(sizeOf e).run P w=.ok size w:=by
 obtain⟨i,hi,hx⟩:=Option.map_eq_some_iff.1 h;simp only[Prod.mk.injEq] at hx;simp[sizeOf,typeInfo,hi,hx.2.1]
theorem Rd.cut {P:Program} {t e:TypeId} {k:IntKind} {bytes:Nat} (ht:P.underlying t=some (.slice e)) (hinfo:(P.info? e).map (fun i=>(i.zero,i.size,i.bytes))=some (some (.int k 0),1,bytes))
  (a:Option Addr) (n c lo hi:Nat) (h1:lo<=hi) (h2:hi<=n) (h3:n<=c):
  ∃a',(∀w,(Instr.sliceAt t (.slice a n c) (some (.int .i64 (lo:Int))) (some (.int .i64 (hi:Int))) none).run P w=.ok (.slice a' (hi - lo) (c - lo)) w)/\
   (∀w,(Instr.sliceAt t (.slice a n c) (some (.int .i64 (lo:Int))) none none).run P w=.ok (.slice a' (n - lo) (c - lo)) w)/\
   ∀(w:World) (f:Nat->Int),Rd k w (.slice a n c) n f->(Rd k w (.slice a' (hi - lo) (c - lo)) (hi - lo) (fun i=>f (lo+i))/\Rd k w (.slice a' (n - lo) (c - lo)) (n - lo) (fun i=>f (lo+i))):=by
 have hel:=IK ht;have ht':P.underlying t=some (.slice (P.elem t)):=by rw[hel];exact ht
 refine⟨if c=lo then a else a.map (·.add (lo * 1)),fun w=>?_,fun w=>?_,fun w f hr=>?_⟩
 ·rw[run_sliceAt_slice w t _ _ _ _ ht',run_slice_lh w t a n c ht' .i64 .i64 lo hi (by omega) (by omega) (by omega),hel,mP hinfo];simp[Result.andThen,sliced]
 ·rw[run_sliceAt_slice w t _ _ _ _ ht',run_slice_l w t a n c ht' .i64 lo (by omega) (by omega),hel,mP hinfo];simp[Result.andThen,sliced]
 ·obtain⟨a0,c0,he,l1,l2,l3,l4⟩:=hr;simp only[Value.slice.injEq,true_and] at he;obtain⟨rfl,rfl⟩:=he;have key:∀m,m<=n - lo->Rd k w (.slice (if c=lo then a else a.map (·.add (lo * 1))) m (c - lo)) m (fun i=>f (lo+i)):=by
   intro m hm;refine⟨_,_,rfl,by omega,by omega,fun hn=>?_,fun hm0=>?_⟩
   ·by_cases hc:c=lo
    ·omega
    ·rw[if_neg hc] at hn
     cases a with
     | none=>have:=l3 rfl;omega
     | some x=>simp at hn
   ·obtain⟨b,o,rfl,hlt,hcell⟩:=l4 (by omega);rw[if_neg (by omega)];have hadd:(⟨b,o,none⟩:Addr).add (lo * 1)=⟨b,o+lo,none⟩:=by unfold Addr.add;split<;> simp_all
    refine⟨b,o+lo,by simpa using hadd,hlt,fun i hi=>?_⟩;rw[Nat.add_assoc];exact hcell _ (by omega)
  exact⟨key _ (by omega),key _ (Nat.le_refl _)⟩
theorem Rd.cutAt {k:IntKind} {w:World} {b o n c:Nat} {f:Nat->Int} (h:Rd k w (.slice (some ⟨b,o,none⟩) n c) n f) (lo m:Nat) (hm:lo+m<=n):
  Rd k w (.slice (if c=lo then some ⟨b,o,none⟩ else some ⟨b,o+lo,none⟩) m (c - lo)) m (fun i=>f (lo+i)):=by
 obtain⟨a0,c0,he,l1,l2,l3,l4⟩:=h;simp only[Value.slice.injEq,true_and] at he;obtain⟨rfl,rfl⟩:=he;refine⟨_,_,rfl,by omega,by omega,fun hn=>?_,fun hm0=>?_⟩
 ·by_cases hc:c=lo
  ·omega
  ·rw[if_neg hc] at hn;cases hn
 ·obtain⟨b',o',he,hlt,hcell⟩:=l4 (by omega);simp only[Option.some.injEq,Addr.mk.injEq,and_true] at he;obtain⟨rfl,rfl⟩:=he;rw[if_neg (by omega)];refine⟨b,o+lo,rfl,hlt,fun i hi=>?_⟩;rw[Nat.add_assoc];exact hcell _ (by omega)
theorem uP {w0 w1:World} {o:Obj} {row:Option Nat} {p:Addr} {v:Value} (hg:(w0.alloc o).drew.grownBy w1 row) (gW:some p.block≠row) (h:w0.cell? p=some v):w1.cell? p=some v:=by
 refine hg.cell ?_ gW;have hlt:=World.block_lt_of_cell? _ _ h;have:(w0.alloc o).drew.heap[p.block]? =w0.heap[p.block]?:=Below.heap_alloc w0 o p.block hlt;exact(World.cell?_of_block this).trans h
theorem jK {x:Int} (h0:0<=x) (h1:x<4294967296):IntKind.u32.wrap x=x:=by rw[IntKind.wrap_u32'];omega
theorem sG {x:Int} (h0:0<=x) (h1:x<18446744073709551616):IntKind.u64.wrap x=x:=by rw[IntKind.wrap_u64];omega
theorem jq {x:Int} (h0: -9223372036854775808<=x) (h1:x<9223372036854775808):IntKind.i64.wrap x=x:=by rw[IntKind.wrap_i64];omega
theorem Own.far {k:IntKind} {e:TypeId} {base:Nat} {w:World} {v:Value} {n:Nat} {f:Nat->Int} (h:Own k e base w v n f) {b:Nat} (hb:b<base):some b≠v.ownBlock:=fun e=>by have:=(World.ownsRow.lt h b e.symm).1;omega
theorem Tw {i:Nat} {k:IntKind} {x y:Int} (hi:i<1) (h:x=y):(#[Value.int k x])[i]? =some (.int k y):=by
 obtain rfl:i=0:=by omega
 rw[h];rfl
theorem ajU {i j:Nat} {f:Nat->Int} (hi:i<1):f (j+i)=f j:=by
 obtain rfl:i=0:=by omega
 rfl
theorem Nz (k:IntKind) (n:Nat) (x:Int):List.replicate n (Value.int k x)=vals k n (fun _=>x):=by
 apply List.ext_getElem?
 intro i;by_cases h:i<n
 ·rw[dF h];simp[h]
 ·simp[h,vals]
theorem uN {P:Program} {w:World} {ops:Array Oper} {rest:List Oper} {o:Oper} {a:Act} {Q:Exit->Act->World->Prop}
  (hg:o.guard=none) (l c:Operand) (t:TypeId) (hop:o.op=Op.makeSlice t l c) (base:Nat) (e:TypeId) (k:IntKind) (bytes:Nat)
  (h1:P.underlying t=some (.slice e)) (hinfo:(P.info? e).map (fun i=>(i.zero,i.size,i.bytes))=some (some (.int k 0),1,bytes))
  (kl kc:IntKind) (n:Nat) (hl:a.eval l=.int kl (n:Int)) (hc:a.eval c=.int kc (n:Int)) (b2:bytes * n<=281474976710656) (b3:n<=9223372036854775807) (b4:base<=w.heap.size)
  (hK:∀w',Own k e base w' (.slice (some ⟨w.heap.size,0,none⟩) n n) n (fun _=>0)->w.grownBy w' none->wpList P ops Q rest (a.put o.dst (.slice (some ⟨w.heap.size,0,none⟩) n n)) w'):
  wpList P ops Q (o::rest) a w:=by
 obtain⟨i,hi,hz0,hz1,hz2⟩:=info_parts hinfo;refine wpList_make_full w hg l c t hop base e i (.int k 0) 1 h1 hi hz0 hz1 kl kc n n n hl hc rfl rfl (by rw[hz2];exact b2) (by unfold maxLen;omega) b4 ?_;intro w' cK dL;refine hK w' ?_ dL;unfold Own
 simpa [toList_madeCells_one,Value.cells,Nz] using cK
theorem wQ {P:Program} {w:World} {o:Oper} {a:Act} {K:Act->World->Prop} {Q:Exit->Act->World->Prop}
  (s x:Operand) (t:TypeId) (hop:o.op=.call { callee:=.builtin .append,args:=#[s,x],argTypes:=#[t,t] })
  (base:Nat) (e:TypeId) (k:IntKind) (bytes:Nat)
  (h1:P.underlying t=some (.slice e)) (hinfo:(P.info? e).map (fun i=>(i.zero,i.size,i.bytes))=some (some (.int k 0),1,bytes))
  (v:Value) (n:Nat) (f:Nat->Int) (cK:Own k e base w v n f) (hs:a.eval s=v)
  (u:Value) (m:Nat) (g:Nat->Int) (hrd:Rd k w u m g) (hx:a.eval x=u) (hf:∀i,i<m->f (n+i)=g i)
  (b2:(n+m) * bytes<=140737488355328) (b3:n+m<=9223372036854775807) (b4:base<=w.heap.size)
  (hK:∀v' w',Own k e base w' v' (n+m) f->w.grownBy w' v.ownBlock->K (a.put o.dst v') w'):
  o.wp P a w K Q:=by
 obtain⟨i,hi,hz0,hz1,hz2⟩:=info_parts hinfo;have hv:vals k n f++vals k m g=vals k (n+m) f:=by
  unfold vals;rw[List.range_add];simp only[List.map_append,List.map_map]
  congr 1
  exact List.map_congr_left fun i hi=>by simp[hf i (List.mem_range.1 hi)]
 obtain⟨ao,c,rfl,l1,l2,l3,l4⟩:=hrd
 cases ao with
 | none=>
  have hm:m=0:=by have:=l3 rfl;omega
  subst hm;have hr:=run_append_owned_none (P:=P) w base t o.type e i 1 h1 hi v n _ cK;have hc0:=l3 rfl;subst hc0;unfold Oper.wp execOp;simp only[hop,resolve,invoke,builtin,Sem.run_bind,Sem.run_pure,Result.andThen_ok,List.map_toArray,List.map_cons,List.map_nil,hs,hx,hr];exact hK v w (by simpa using cK) (World.grownBy.refl _ _)
 | some ad=>
  refine wp_append_own w s x t hop base e i (.int k 0) 1 bytes h1 hi hz0 hz1 hz2 rfl (by decide) v n (vals k n f) hs cK ad m c (vals k m g) hx (by simp) ?_ ?_ (by unfold maxLen;omega) b2 b4 ?_
  ·intro j u hu;have hj:j<m:=by
    have:=(List.getElem?_eq_some_iff.1 hu).1
    simpa using this
   obtain⟨b,of,hb,_,hcell⟩:=l4 (by omega);obtain rfl:=Option.some.inj hb;have hadd:(⟨b,of,none⟩:Addr).add j=⟨b,of+j,none⟩:=by unfold Addr.add;split<;> simp_all
   rw[hadd,hcell j hj,←dF (k:=k) (f:=g) hj];exact hu
  ·intro u hu;obtain⟨_,_,rfl⟩:=List.mem_map.1 hu
   rfl
  ·intro v' w' hown' dL _;refine hK v' w' ?_ dL;unfold Own;rw[<-hv];exact hown'
theorem jE {P:Program} {w:World} {ops:Array Oper} {rest:List Oper} {o:Oper} {a:Act} {Q:Exit->Act->World->Prop}
  (hg:o.guard=none) (s x:Operand) (t:TypeId) (hop:o.op=.call { callee:=.builtin .append,args:=#[s,x],argTypes:=#[t,t] })
  (base:Nat) (e:TypeId) (k:IntKind) (bytes:Nat)
  (h1:P.underlying t=some (.slice e)) (hinfo:(P.info? e).map (fun i=>(i.zero,i.size,i.bytes))=some (some (.int k 0),1,bytes))
  (v:Value) (n:Nat) (f:Nat->Int) (cK:Own k e base w v n f) (hs:a.eval s=v)
  (u:Value) (m:Nat) (g:Nat->Int) (hrd:Rd k w u m g) (hx:a.eval x=u) (hf:∀i,i<m->f (n+i)=g i)
  (b2:(n+m) * bytes<=140737488355328) (b3:n+m<=9223372036854775807) (b4:base<=w.heap.size)
  (hK:∀v' w',Own k e base w' v' (n+m) f->w.grownBy w' v.ownBlock->wpList P ops Q rest (a.put o.dst v') w'):
  wpList P ops Q (o::rest) a w:=
 wpList_plain hg fun _ hK'=>wQ s x t hop base e k bytes h1 hinfo v n f cK hs u m g hrd hx hf b2 b3 b4 fun v' w' q1 q2=>hK' _ _ (hK v' w' q1 q2)
theorem BU {P:Program} {w:World} {ops:Array Oper} {o:Oper} {a:Act} {K:Act->World->Prop} {Q:Exit->Act->World->Prop} {E:Prop}
  (hg:o.guard=none) (s x:Operand) (t:TypeId) (hop:o.op=.call { callee:=.builtin .append,args:=#[s,x],argTypes:=#[t,t] })
  (base:Nat) (e:TypeId) (k:IntKind) (bytes:Nat)
  (h1:P.underlying t=some (.slice e)) (hinfo:(P.info? e).map (fun i=>(i.zero,i.size,i.bytes))=some (some (.int k 0),1,bytes))
  (v:Value) (n:Nat) (f:Nat->Int) (cK:Own k e base w v n f) (hs:a.eval s=v)
  (u:Value) (m:Nat) (g:Nat->Int) (hrd:Rd k w u m g) (hx:a.eval x=u) (hf:∀i,i<m->f (n+i)=g i)
  (b2:(n+m) * bytes<=140737488355328) (b3:n+m<=9223372036854775807) (b4:base<=w.heap.size)
  (hK:∀v' w',Own k e base w' v' (n+m) f->w.grownBy w' v.ownBlock->K (a.put o.dst v') w'):
  if Region.wanted o (yielded ops a.tmps)=true then Oper.wp P o a w K Q else E:=by
 have hw:Region.wanted o (yielded ops a.tmps)=true:=by simp[Region.wanted,hg]
 rw[if_pos hw];exact wQ s x t hop base e k bytes h1 hinfo v n f cK hs u m g hrd hx hf b2 b3 b4 hK
def upd (f:Nat->Int) (j:Nat) (x:Int):Nat->Int:=fun i=>if i=j then x else f i
theorem Zu (n:Int) (i:Nat):n / 2 ^ (8 * (i+1))=n / 2 ^ (8 * i) / 256:=by
 rw[Int.ediv_ediv_of_nonneg (Int.le_of_lt (Int.pow_pos (by decide))),show 8 * (i+1)=8 * i+8 from rfl,Int.pow_add]
 rfl
def big (f:Nat->Int):Nat->Int
 | 0=>0
 | k+1=>256 * big f k+f k
theorem qW {f:Nat->Int} {n:Nat} (hf:∀i,i<n->0<=f i/\f i<256):∀k,k<=n->0<=big f k/\big f k<256 ^ k:=by
 intro k
 induction k with
 | zero=>intro _;simp[big]
 | succ k ih=>
  intro hk;have h1:=ih (by omega);have h2:=hf k (by omega);rw[big,Int.pow_succ];omega
theorem Cv (b:Int) (hb:1<=b) (k m:Nat) (h:k<=m):b ^ k<=b ^ m:=by
 obtain⟨d,rfl⟩:=Nat.exists_eq_add_of_le h;clear h
 induction d with
 | zero=>exact Int.le_refl _
 | succ d ih=>
  rw[<-Nat.add_assoc,Int.pow_succ];have h0:0<b ^ (k+d):=Int.pow_pos (by omega);have:=Int.mul_le_mul_of_nonneg_left hb (Int.le_of_lt h0);omega
theorem Qe {f:Nat->Int} {n:Nat} (hf:∀i,i<n->0<=f i/\f i<256) (k m:Nat) (hk:k<=n) (hm:k<=m):big f k<256 ^ m:=
 Int.lt_of_lt_of_le (qW hf k hk).2 (Cv 256 (by decide) k m hm)
def lJ (f:Nat->Int) (n:Nat):Int:=if n=0\/8<n\/4611686018427387904<big f n then 0 else big f n
def oO (f:Nat->Int) (n:Nat):Int:=if n=0 then 10 else if 8<n then 2 else if 4611686018427387904<big f n then 11 else 0
theorem XI {x c:Int} (h0:0<=x) (h1:x<72057594037927936) (h2:0<=c) (h3:c<256):bits .or .u64 (x * 256) c=256 * x+c:=by
 rw[u64_or _ _ (by omega) (by omega) (by omega) (by omega),nat_join 8 _ _ (by omega) (by omega)];omega
theorem Jd {n:Int} {s:Nat} (h:n / 2 ^ (8 * s)=0):∀k,k<=s->big (fun i=>n / 2 ^ (8 * (s - 1 - i)) % 256) k=n / 2 ^ (8 * (s - k)):=by
 intro k
 induction k with
 | zero=>intro _;rw[Nat.sub_zero,h];rfl
 | succ k ih=>
  intro hk;rw[big,ih (by omega),show s - 1 - k=s - (k+1) by omega,show s - k=s - (k+1)+1 by omega,Zu];omega
def upto (j:Nat) (g f:Nat->Int):Nat->Int:=fun i=>if i<j then g i else f i
theorem dR (g f:Nat->Int):upto 0 g f=f:=by funext i;simp[upto]
theorem dh {j:Nat} {g f:Nat->Int} {x:Int} (h:x=g j):upd (upto j g f) j x=upto (j+1) g f:=by
 funext i
 unfold upd upto;by_cases e:i=j
 ·subst e;simp[h]
 ·by_cases e':i<j
  ·rw[if_neg e,if_pos e',if_pos (by omega)]
  ·rw[if_neg e,if_neg e',if_neg (by omega)]
theorem fJ {j n:Nat} (g f:Nat->Int) (h:n<=j):∀i,i<n->upto j g f i=g i:=fun i hi=>if_pos (by omega)
theorem upto_at {j:Nat} (g f:Nat->Int):upto j g f j=f j:=if_neg (by omega)
theorem Own.form {k:IntKind} {e:TypeId} {base:Nat} {w:World} {v:Value} {n:Nat} {f:Nat->Int} (h:Own k e base w v n f) (hn:0<n):
  ∃g c,v=.slice (some ⟨g,0,none⟩) n c/\base<=g/\g<w.heap.size/\n<=c/\c<=9223372036854775807/\(∀i,i<n->w.cell? ⟨g,i,none⟩=some (.int k (f i)))/\∀i,w.frozen? ⟨g,i,none⟩=false:=by
 have hr:=h.rd;have h0:=h;obtain⟨_,h2⟩:=h;rcases h2 with⟨rfl,rfl⟩ | ⟨g,cap,cur,rfl,hb,hg,hn',hc,hs,ht⟩
 ·omega
 ·unfold maxLen at hc;refine⟨g,cap,rfl,hb,(Array.getElem?_eq_some_iff.1 hg).1,hn',by omega,fun i hi=>?_,fun i=>frozen_of_row w g i cur e hg⟩;obtain⟨a,c,he,_,_,_,h4⟩:=hr;obtain⟨b,o,rfl,_,hcell⟩:=h4 hn;simp only[Value.slice.injEq,Option.some.injEq,Addr.mk.injEq,and_true,true_and] at he;obtain⟨⟨rfl,rfl⟩,_⟩:=he
  simpa using hcell i hi
theorem JF {k:IntKind} {n:Nat} {f:Nat->Int} (j:Nat) (x:Int):(vals k n f).set j (.int k x)=vals k n (upd f j x):=by
 apply List.ext_getElem?
 intro i;rw[List.getElem?_set];by_cases hi:i<n
 ·rw[dF hi,dF hi];unfold upd;by_cases gI:j=i
  ·subst gI;simp[hi]
  ·rw[if_neg gI,if_neg (fun e=>gI e.symm)]
 ·have:(vals k n f)[i]? =none:=by simp;omega
  rw[this];have:(vals k n (upd f j x))[i]? =none:=by simp;omega
  rw[this];by_cases gI:j=i
  ·subst gI;simp;omega
  ·simp[gI]
theorem Own.store {k:IntKind} {e:TypeId} {base:Nat} {w:World} {g n c:Nat} {f:Nat->Int} (h:Own k e base w (.slice (some ⟨g,0,none⟩) n c) n f) (j:Nat) (x:Int):
  Own k e base (w.setCell ⟨g,j,none⟩ (.int k x)) (.slice (some ⟨g,0,none⟩) n c) n (upd f j x):=by
 have:=(World.ownsRow.stored h j (.int k x)).1;unfold Own
 rwa [JF] at this
theorem Own.alloc {k:IntKind} {e:TypeId} {base:Nat} {w:World} {v:Value} {n:Nat} {f:Nat->Int} (h:Own k e base w v n f) (o:Obj):Own k e base (w.alloc o) v n f:=World.ownsRow.alloc h o
theorem Own.drew {k:IntKind} {e:TypeId} {base:Nat} {w:World} {v:Value} {n:Nat} {f:Nat->Int} (h:Own k e base w v n f):Own k e base w.drew v n f:=h
theorem size_setCell (w:World) (a:Addr) (v:Value):(w.setCell a v).heap.size=w.heap.size:=by simp[World.setCell]
theorem Own.below {k:IntKind} {e:TypeId} {base:Nat} {w w':World} {v:Value} {n:Nat} {f:Nat->Int} (h:Own k e base w v n f) (hb:Below w.heap.size w w'):Own k e base w' v n f:=by
 refine⟨h.1,?_⟩;rcases h.2 with hn | ⟨g,cap,cur,rfl,hb',hgg,rest⟩
 ·exact .inl hn
 ·refine .inr ⟨g,cap,cur,rfl,hb',?_,rest⟩;rw[hb.block g (Array.getElem?_eq_some_iff.1 hgg).1];exact hgg
theorem Own.mono {k:IntKind} {e:TypeId} {base base':Nat} {w:World} {v:Value} {n:Nat} {f:Nat->Int} (h:Own k e base w v n f) (hb:base'<=base):Own k e base' w v n f:=by
 refine⟨h.1,?_⟩;rcases h.2 with hn | ⟨g,cap,cur,rfl,hb',rest⟩
 ·exact .inl hn
 ·exact .inr ⟨g,cap,cur,rfl,by omega,rest⟩
theorem Own.block {k:IntKind} {e:TypeId} {base:Nat} {w:World} {v:Value} {n:Nat} {f:Nat->Int} (h:Own k e base w v n f):∀b,v.ownBlock=some b->base<=b:=
 fun b hb=>(World.ownsRow.lt h b hb).1
theorem below_grown {B:Nat} {a w w':World} {k:IntKind} {e:TypeId} {base:Nat} {v:Value} {n:Nat} {f:Nat->Int} {w0:World} (h:Below B a w) (hg:w.grownBy w' v.ownBlock) (ho:Own k e base w0 v n f) (hB:B<=w.heap.size) (hbase:B<=base):Below B a w':=
 h.grown hg hB fun b hb=>Nat.le_trans hbase (ho.block b hb)
theorem iq {B:Nat} {a w w':World} (h:Below B a w) (hg:w.grownBy w' none) (hB:B<=w.heap.size):Below B a w':=
 h.grown hg hB fun b hb=>by cases hb
theorem _root_.bH:type_of% @Nat.le_refl:=@Nat.le_refl
theorem _root_.bT:type_of% @Below.refl:=@Below.refl
theorem _root_.fB:type_of% @List.setIfInBounds_toArray:=@List.setIfInBounds_toArray
theorem _root_.fF:type_of% @List.set_cons_zero:=@List.set_cons_zero
theorem _root_.fD:type_of% @List.set_cons_succ:=@List.set_cons_succ
theorem _root_.gJ:type_of% @Option.some.inj:=@Option.some.inj
theorem _root_.ZqG:type_of% @Array.getElem?_eq_some_iff:=@Array.getElem?_eq_some_iff
theorem _root_.kP:type_of% @List.getElem?_eq_getElem:=@List.getElem?_eq_getElem
theorem _root_.ZqI:type_of% @List.getElem?_eq_some_iff:=@List.getElem?_eq_some_iff
theorem _root_.kZ:type_of% @Bool.or_eq_true:=@Bool.or_eq_true
theorem _root_.iw:type_of% @Nat.le_trans:=@Nat.le_trans
theorem _root_.jm:type_of% @Nat.zero_le:=@Nat.zero_le
theorem _root_.Ji:type_of% @List.getElem?_append_right:=@List.getElem?_append_right
theorem _root_.Jh:type_of% @List.getElem?_append_left:=@List.getElem?_append_left
theorem _root_.Gl:type_of% @Int.eq_ofNat_of_zero_le:=@Int.eq_ofNat_of_zero_le
theorem _root_.Nb:type_of% @Int.emod_eq_of_lt:=@Int.emod_eq_of_lt
theorem _root_.qZ:type_of% @Nat.lt_of_lt_of_le:=@Nat.lt_of_lt_of_le
theorem _root_.vT:type_of% @List.map_toArray:=@List.map_toArray
theorem _root_.EN:type_of% @Int.emod_add_mul_ediv:=@Int.emod_add_mul_ediv
theorem _root_.Na:type_of% @List.getD_eq_getElem?_getD:=@List.getD_eq_getElem?_getD
theorem _root_.Gj:type_of% @Int.emod_lt_of_pos:=@Int.emod_lt_of_pos
theorem _root_.Vi:type_of% @Nat.add_sub_cancel_left:=@Nat.add_sub_cancel_left
theorem _root_.MZ:type_of% @Int.toNat_natCast:=@Int.toNat_natCast
theorem _root_.qY:type_of% @Nat.zero_add:=@Nat.zero_add
theorem _root_.wM:type_of% @List.all_eq_true:=@List.all_eq_true
theorem _root_.Jg:type_of% @Bool.and_eq_true:=@Bool.and_eq_true
theorem _root_.Zqa:type_of% @List.mem_range:=@List.mem_range
theorem _root_.Zqb:type_of% @Option.map_eq_some_iff:=@Option.map_eq_some_iff
theorem _root_.vS:type_of% @Result.andThen_ok:=@Result.andThen_ok
theorem _root_.uV:type_of% @Sem.run_bind:=@Sem.run_bind
theorem _root_.wL:type_of% @Sem.run_pure:=@Sem.run_pure
theorem _root_.EM:type_of% @Int.le_of_lt:=@Int.le_of_lt
theorem _root_.Zqg:type_of% @Int.tdiv_eq_ediv_of_nonneg:=@Int.tdiv_eq_ediv_of_nonneg
theorem _root_.Zqh:type_of% @Int.ediv_eq_zero_of_lt:=@Int.ediv_eq_zero_of_lt
theorem _root_.Bu:type_of% @Int.emod_nonneg:=@Int.emod_nonneg
theorem _root_.VQ:type_of% @Value.slice.injEq:=@Value.slice.injEq
theorem _root_.Zqk:type_of% @Option.some.injEq:=@Option.some.injEq
end Go.bI
namespace Go.bI
theorem _root_.ay {p:Prop} (h:p):Go.RowKit.Hid p:=h
theorem _root_.aP {p q:Prop} (h:¬p:=by decide):p->q:=fun hp=>absurd hp h
theorem _root_.aM {p:Prop} (h:p:=by decide):p:=h
theorem _root_.aH {p:Prop} (h:p:=by omega):p:=h
theorem _root_.aQ {p:Prop} (h:p:=by kernel_rfl):p:=h
theorem _root_.aR {p:Prop} (h:p:=by simp):p:=h
theorem _root_.dO {p:Prop} (h:p:=by first | omega | (simp<;> omega)):p:=h
theorem _root_.iU {p:Prop} (h:p:=by(simp;omega)):p:=h
def sm (B:Int) (f:Nat->Int):Nat->Int
 | 0=>0
 | n+1=>sm B f n+f n * B ^ n
def dg (B X:Int) (i:Nat):Int:=X / B ^ i % B
theorem iH {B:Int} (hB:0<B) (n:Nat):0<B ^ n:=Int.pow_pos hB
theorem adi (B X:Int):dg B X 0=X % B:=by simp[dg]
theorem jU {B:Int} (hB:0<B) (X:Int) (i:Nat):X / B ^ (i+1)=X / B ^ i / B:=by
 rw[Int.pow_succ,Int.ediv_ediv_of_nonneg (EM (iH hB i))]
theorem bR {B:Int} (hB:0<B) (X:Int) (i:Nat):0<=dg B X i/\dg B X i<B:=⟨Bu _ aH,Gj _ hB⟩
theorem jA {B:Int} {f g:Nat->Int} {n:Nat} (h:∀i,i<n->f i=g i):sm B f n=sm B g n:=by
 induction n with
 | zero=>rfl
 | succ n ih=>rw[sm,sm,ih fun i hi=>h i aH,h n aH]
theorem qI {B:Int} (hB:0<B) {f:Nat->Int} {n:Nat} (h:∀i,i<n->0<=f i/\f i<B):0<=sm B f n/\sm B f n<B ^ n:=by
 induction n with
 | zero=>simp[sm]
 | succ n ih=>
  have h1:=ih fun i hi=>h i aH;have h2:=h n aH;have hp:=iH hB n;rw[sm,Int.pow_succ]
  constructor
  ·have:=Int.mul_nonneg h2.1 (EM hp);omega
  ·have h3:f n * B ^ n<=(B - 1) * B ^ n:=Int.mul_le_mul_of_nonneg_right aH (EM hp);rw[Int.sub_mul,Int.one_mul] at h3;rw[Int.mul_comm (B ^ n) B];omega
theorem Ca {B:Int} (X:Int) (n:Nat):X=X % B ^ n+X / B ^ n * B ^ n:=by
 have:=EN X (B ^ n);rw[Int.mul_comm] at this;omega
theorem mod_succ {B:Int} (hB:0<B) (X:Int) (n:Nat):X % B ^ (n+1)=X % B ^ n+dg B X n * B ^ n:=by
 have h1:=Ca (B:=B) X n;have h2:=Ca (B:=B) X (n+1);have h3:=EN (X / B ^ n) B;rw[jU hB] at h2;unfold dg
 generalize X / B ^ n=q at *
 have:q * B ^ n=q % B * B ^ n+q / B * B ^ (n+1):=by
  rw[Int.pow_succ]
  calc q * B ^ n=(q % B+B * (q / B)) * B ^ n:=by rw[h3]
   _=q % B * B ^ n+q / B * (B ^ n * B):=by rw[Int.add_mul];congr 1;rw[Int.mul_comm B,Int.mul_assoc,Int.mul_comm B]
 omega
theorem qH {B:Int} (hB:0<B) (X:Int) (n:Nat):sm B (dg B X) n=X % B ^ n:=by
 induction n with
 | zero=>simp[sm,Int.emod_one]
 | succ n ih=>rw[sm,ih,mod_succ hB]
theorem wG {B:Int} (hB:0<B) (X Y:Int) (n i:Nat) (h:i<n):dg B (X+Y * B ^ n) i=dg B X i:=by
 unfold dg;obtain⟨d,rfl⟩:=Nat.exists_eq_add_of_le h;have hp:=iH hB i;rw[show B ^ (i.succ+d)=B ^ i * (B * B ^ d) by rw[<-Int.pow_succ',←Int.pow_add];congr 1;omega];rw[show Y * (B ^ i * (B * B ^ d))=Y * B ^ d * B * B ^ i by
  rw[Int.mul_comm (B ^ i),←Int.mul_assoc,Int.mul_comm B,←Int.mul_assoc]]
 rw[Int.add_mul_ediv_right _ _ aH,Int.add_mul_emod_self_right]
theorem Af {B:Int} (hB:0<B) {f:Nat->Int} {n:Nat} (h:∀i,i<n->0<=f i/\f i<B):∀i,i<n->dg B (sm B f n) i=f i:=by
 induction n with
 | zero=>intro i hi;omega
 | succ n ih=>
  intro i hi;by_cases e:i=n
  ·subst e;have hb:=qI hB fun j hj=>h j (Nat.lt_succ_of_lt hj);have hp:=iH hB i;rw[sm,dg,Int.add_mul_ediv_right _ _ aH,Zqh hb.1 hb.2,Int.zero_add];exact Nb (h i hi).1 (h i hi).2
  ·rw[sm,wG hB _ _ _ _ aH];exact ih (fun j hj=>h j aH) i aH
theorem ahD {B:Int} (hB:0<B) (X:Int) (n i:Nat) (h:i<n):dg B (X % B ^ n) i=dg B X i:=by
 conv=>rhs;rw[Ca (B:=B) X n]
 rw[wG hB _ _ _ _ h]
theorem Zq {B:Int} (hB:0<B) {X Y:Int} {n:Nat} (hX:0<=X/\X<B ^ n) (hY:0<=Y/\Y<B ^ n) (h:∀i,i<n->dg B X i=dg B Y i):X=Y:=by
 have h1:=qH hB X n;have h2:=qH hB Y n;rw[jA h,h2,Nb hY.1 hY.2,Nb hX.1 hX.2] at h1;exact h1.symm
theorem adj {B:Int} (hB:0<B) (X:Int) (i:Nat):dg (B * B) X i=dg B X (2 * i)+dg B X (2 * i+1) * B:=by
 unfold dg;rw[show (B * B) ^ i=B ^ (2 * i) by rw[show B * B=B ^ 2 by rw[Int.pow_succ,Int.pow_succ,Int.pow_zero,Int.one_mul],←Int.pow_mul],jU hB X (2 * i)]
 generalize X / B ^ (2 * i)=q
 have h1:=EN q (B * B);have h2:=EN q B;have h3:=EN (q / B) B;have h4:q / (B * B)=q / B / B:=(Int.ediv_ediv_of_nonneg (EM hB)).symm;rw[h4,Int.mul_assoc] at h1;have h5:B * (q / B)=B * (q / B % B+B * (q / B / B)):=by rw[h3]
 rw[Int.mul_add] at h5;rw[Int.mul_comm (q / B % B) B];omega
theorem Ot (X:Int) (i:Nat):dg 65536 X i=dg 256 X (2 * i)+dg 256 X (2 * i+1) * 256:=adj (B:=256) aM X i
theorem alL (X:Int) (i:Nat):dg 65536 X i % 256=dg 256 X (2 * i):=by
 have h1:=Ot X i;have h2:=bR (by decide:(0:Int)<256) X (2 * i);omega
theorem alK (X:Int) (i:Nat):dg 65536 X i / 256=dg 256 X (2 * i+1):=by
 have h1:=Ot X i;have h2:=bR (by decide:(0:Int)<256) X (2 * i);omega
theorem Mj {B X:Int} {i:Nat} (h:0<=X/\X<B ^ i):dg B X i=0:=by
 unfold dg;rw[Zqh h.1 h.2];rfl
theorem ahC (B:Int) (i:Nat):dg B 0 i=0:=by simp[dg]
def MP (X Y:Int) (k:Nat):Int:=X / 65536 ^ k - Y / 65536 ^ k - (X - Y) / 65536 ^ k
theorem UR (X Y:Int):MP X Y 0=0:=by simp[MP]
theorem UY (Y:Int) (r:Nat) (h:r<8):Y / 2 ^ r % 2=Y % 256 / 2 ^ r % 2:=by
 rcases(by omega:r=0\/r=1\/r=2\/r=3\/r=4\/r=5\/r=6\/r=7) with rfl | rfl | rfl | rfl | rfl | rfl | rfl | rfl<;> simp<;> omega
theorem abR (m:Nat):(2:Int) ^ m=256 ^ (m / 8) * 2 ^ (m % 8):=by
 rw[show (256:Int)=2 ^ 8 from rfl,←Int.pow_mul,←Int.pow_add];congr 1;omega
theorem Qd (X:Int) (m:Nat):X / 2 ^ m % 2=dg 256 X (m / 8) / 2 ^ (m % 8) % 2:=by
 rw[abR,←Int.ediv_ediv_of_nonneg (EM (iH aM _)),UY _ _ (Nat.mod_lt _ aM)]
 rfl
theorem half (X:Int) (m:Nat):X / 2 ^ m=2 * (X / 2 ^ (m+1))+X / 2 ^ m % 2:=by
 rw[jU aM];omega
theorem mE (f:Nat->Int) (p:Nat) (v:Int):upd f p v p=v:=if_pos rfl
theorem upd_ne (f:Nat->Int) {p i:Nat} (v:Int) (h:i≠p):upd f p v i=f i:=if_neg h
theorem wV (f:Nat->Int) (p:Nat) (u v:Int) (i:Nat):upd (upd f p u) p v i=upd f p v i:=by
 unfold upd;split<;> rfl
theorem uF (B:Int) (f:Nat->Int) (p:Nat) (v:Int):∀n,sm B (upd f p v) n=sm B f n+(if p<n then (v - f p) * B ^ p else 0)
 | 0=>by simp[sm]
 | n+1=>by
  rw[sm,sm,uF B f p v n];by_cases e:n=p
  ·subst e;rw[if_neg aH,if_pos aH,show upd f n v n=v from if_pos rfl,Int.sub_mul];omega
  ·rw[show upd f p v n=f n from if_neg aH];by_cases h:p<n
   ·rw[if_pos h,if_pos aH];omega
   ·rw[if_neg h,if_neg aH];omega
theorem sO (B:Int):∀n,sm B (fun _=>0) n=0
 | 0=>rfl
 | n+1=>by rw[sm,sO B n];simp
theorem vY (B:Int) (f g:Nat->Int) (a b:Int):∀n,sm B (fun i=>a * f i+b * g i) n=a * sm B f n+b * sm B g n
 | 0=>by simp[sm]
 | n+1=>by
  rw[sm,sm,sm,vY B f g a b n]
  generalize B ^ n=p
  grind
theorem xq (B:Int) (f:Nat->Int) (m:Nat):∀n,sm B f (m+n)=sm B f m+B ^ m * sm B (fun i=>f (m+i)) n
 | 0=>by simp[sm]
 | n+1=>by
  rw[<-Nat.add_assoc,sm,sm,xq B f m n,Int.pow_add]
  grind
end Go.bI
namespace Go.bI
open Go.RowKit
def Placed (w:World) (v v':Value):Prop:=v'.ownBlock=v.ownBlock\/∀b,v'.ownBlock=some b->w.heap.size<=b
theorem qK {P:Program} (w:World) (base:Nat) (t ty e:TypeId) (i:TypeInfo) (z:Value) (size bytes:Nat) (ht:P.underlying t=some (.slice e)) (hi:P.info? e=some i) (hz:i.zero=some z)
  (hsize:i.size=size) (hby:i.bytes=bytes) (hzs:z.cells.size=size) (gP:0<size)
  (v:Value) (n:Nat) (xs:List Value) (cK:w.ownsRow base e size v n xs)
  (a:Addr) (m c:Nat) (news:List Value) (hl:news.length=m * size) (hnews:∀j u,news[j]? =some u->w.cell? (a.add j)=some u) (h1:∀u ∈ news,u.oneCell'=true)
  (h63:n+m<=maxLen) (hbytes:(n+m) * bytes<=140737488355328) (v':Value) (w':World) (hrun:(Builtin.append_ #[t,t] ty #[v,.slice (some a) m c]).run P w=.ok v' w'):Placed w v v':=by
 subst hsize;subst hby;have hsmall:n+m<=9223372036854775807:=by simp only[maxLen] at h63;omega
 rcases cK.2 with⟨rfl,rfl⟩ | ⟨g,cap,cur,rfl,hbg,hg,hnc,hcm,hcs,htake⟩
 ·have hx:xs= [] :=List.eq_nil_of_length_eq_zero (by simpa using cK.1);subst hx;by_cases hm:m=0
  ·subst hm;have hn:news= [] :=List.eq_nil_of_length_eq_zero (by simpa using hl);subst hn;have hr:(Builtin.append_ #[t,t] ty #[.slice none 0 0,.slice (some a) 0 c]).run P w=.ok (.slice none 0 0) w:=by
    simp[Builtin.append_,run_underlying ht,sizeOf,typeInfo,hi,Builtin.lenOf,Builtin.firstCells,loadCells,loadCellsFrom]
   rw[hr] at hrun;cases hrun
   exact .inl rfl
  ·have hr:=run_append_nil (P:=P) w t ty e i z ht hi hz a m c news hl hnews aH aH (by have hb:=hbytes;simp only[qY] at hb;omega);rw[hr] at hrun;cases hrun
   refine .inr fun b hb=>?_;simp[Value.ownBlock] at hb;omega
 ·by_cases hroom:n+m<=cap
  ·have hfit:n * i.size+news.length<=cur.size:=by rw[hl,hcs,←Nat.add_mul];exact Nat.mul_le_mul_right _ hroom
   have hr:=run_append_room (P:=P) w t ty e i ht hi g n cap cur hg a m c news hl hnews h1 hroom hfit;rw[hr] at hrun;cases hrun
   exact .inl rfl
  ·have holds:∀j u,xs[j]? =some u->w.cell? ((⟨g,0,none⟩:Addr).add j)=some u:=cK.cells (g:=g) rfl;have hr:=run_append_grow (P:=P) w t ty e i z ht hi hz ⟨g,0,none⟩ n cap xs cK.1 holds a m c news hl hnews aH aH (growslice_fits aH hbytes);rw[hr] at hrun;cases hrun
   refine .inr fun b hb=>?_;simp[Value.ownBlock] at hb;omega
end Go.bI
namespace Go.bI
def PP:Int:=2 ^ 130 - 5
theorem abX:(2:Int) ^ 130=256 ^ 16 * 4:=by decide
theorem Lm {a b c:Int} (h:a=b+PP * c):a % PP=b % PP:=by rw[h,Int.add_mul_emod_self_left]
def cu (f:Nat->Int):Nat->Int
 | 0=>0
 | i+1=>(f i+cu f i) / 256
theorem ZF (f:Nat->Int):∀k,cu f k=sm 256 f k / 256 ^ k
 | 0=>by simp[cu,sm]
 | k+1=>by
  rw[cu,ZF f k,sm,jU aM,Int.add_mul_ediv_right _ _ (by have:=iH (by decide:(0:Int)<256) k;omega)]
  congr 1;omega
theorem Ms (f:Nat->Int) {n k:Nat} (h:k<n):(f k+cu f k) % 256=dg 256 (sm 256 f n) k:=by
 obtain⟨d,rfl⟩:∃d,n=(k+1)+d:=⟨n - (k+1),by omega⟩
 rw[xq,Int.mul_comm (256 ^ (k+1)),wG aM _ _ _ _ aH];unfold dg;rw[sm,Int.add_mul_ediv_right _ _ (by have:=iH (by decide:(0:Int)<256) k;omega),ZF]
 congr 1;omega
theorem ZE (f:Nat->Int) (k:Nat):f k+cu f k=sm 256 f (k+1) / 256 ^ k:=by
 rw[sm,Int.add_mul_ediv_right _ _ (by have:=iH (by decide:(0:Int)<256) k;omega),ZF];omega
theorem Dk {f:Nat->Int} {M:Int} (n:Nat) (hf:∀i,i<n->0<=f i/\f i<=M) (hM:0<=M):∀k,k<=n->0<=cu f k/\cu f k<=M:=by
 intro k
 induction k with
 | zero=>intro _;exact⟨Int.le_refl _,hM⟩
 | succ k ih=>
  intro hk;have a:=ih aH;have b:=hf k aH;unfold cu;omega
def pd (V:Int):Nat->Int:=fun i=>if i<16 then dg 256 V i else V / 256 ^ 16
theorem Ia (V:Int) {i:Nat} (h:i<16):pd V i=dg 256 V i:=if_pos h
theorem Hz (V:Int):pd V 16=V / 256 ^ 16:=if_neg aM
theorem adV (V:Int):sm 256 (pd V) 17=V:=by
 rw[sm,Hz,jA (g:=dg 256 V) (fun i hi=>Ia V hi),qH aM];have:=EN V (256 ^ 16);rw[Int.mul_comm] at this;exact this
theorem ajQ {V:Int} (h0:0<=V) (h1:V<256 ^ 17):∀i,i<17->pd V i=dg 256 V i:=by
 intro i hi;by_cases e:i<16
 ·exact Ia V e
 ·obtain rfl:i=16:=by omega
  rw[Hz];unfold dg;have h2:V / 256 ^ 16<256:=Int.ediv_lt_of_lt_mul aM aH;have h3:0<=V / 256 ^ 16:=Int.ediv_nonneg h0 aM;omega
def iY (V:Int):Int:=V % 2 ^ 130+5 * (V / 2 ^ 130)
theorem zo (V:Int):iY V % PP=V % PP:=by
 unfold iY;have h:=EN V (2 ^ 130);refine Lm (c:= -(V / 2 ^ 130)) ?_;have e:(2:Int) ^ 130=PP+5:=by decide
 rw[e] at h ⊢
 generalize V / (PP+5)=q at *
 generalize V % (PP+5)=r at *
 rw[Int.mul_neg];rw[Int.add_mul] at h;omega
theorem Ab {V:Int} (h0:0<=V) (h1:V<2 ^ 130 * 1000000000):0<=iY V/\iY V<2 ^ 130+5000000000:=by
 unfold iY;have h2:=Bu V (show (2:Int) ^ 130≠0 by decide);have h3:=Gj V (show (0:Int)<2 ^ 130 by decide);have h4:V / 2 ^ 130<1000000000:=Int.ediv_lt_of_lt_mul aM aH;have h5:=Int.ediv_nonneg h0 (show (0:Int)<=2 ^ 130 by decide);omega
theorem LZ {V:Int} (h0:0<=V) (h1:V<2 ^ 130+5000000000):0<=iY V/\iY V<2 ^ 130:=by
 unfold iY;have hp:(10000000000:Int)<2 ^ 130:=by decide
 have h2:=Bu V (show (2:Int) ^ 130≠0 by decide);have h3:=Gj V (show (0:Int)<2 ^ 130 by decide);have h4:=EN V (2 ^ 130)
 generalize (2:Int) ^ 130=p at *
 have h5:0<=V / p:=Int.ediv_nonneg h0 aH;have h6:V / p<2:=Int.ediv_lt_of_lt_mul aH aH;rcases(by omega:V / p=0\/V / p=1) with h7 | h7<;> rw[h7] at h4 ⊢<;> omega
def Dq (X b:Int) (k:Nat):Int:=(X+b) / 256 ^ k - X / 256 ^ k
theorem Ga (X b:Int):Dq X b 0=b:=by simp[Dq];omega
theorem Gb (X b:Int) (k:Nat):(dg 256 X k+Dq X b k) % 256=dg 256 (X+b) k/\(dg 256 X k+Dq X b k) / 256=Dq X b (k+1):=by
 unfold Dq dg;rw[jU aM X,jU aM (X+b)];omega
theorem Dp {X b:Int} (hb:0<=b):∀k,0<=Dq X b k/\Dq X b k<=b
 | 0=>by rw[Ga];omega
 | k+1=>by
  have h:=Dp (X:=X) hb k;have h2:=(Gb X b k).2;have h3:=bR (by decide:(0:Int)<256) X k;omega
theorem Pp (V:Int):(∀i,i<16->dg 256 (V % 256 ^ 16+5 * (V / 256 ^ 16 / 4)) i=pd (iY V) i)/\V / 256 ^ 16 % 4+Dq (V % 256 ^ 16) (5 * (V / 256 ^ 16 / 4)) 16=pd (iY V) 16:=by
 have e1:V / 2 ^ 130=V / 256 ^ 16 / 4:=by rw[abX,Int.ediv_ediv_of_nonneg aM]
 have e2:V % 2 ^ 130=V % 256 ^ 16+V / 256 ^ 16 % 4 * 256 ^ 16:=by
  have h1:=EN V (2 ^ 130);have h2:=EN V (256 ^ 16);have h3:=EN (V / 256 ^ 16) 4;rw[e1,abX] at h1;rw[abX]
  generalize (256:Int) ^ 16=p at *
  generalize V / p=q at *
  have h4:p * q=p * (q % 4)+p * 4 * (q / 4):=by
   conv=>lhs;rw[<-h3]
   rw[Int.mul_add,Int.mul_assoc]
  rw[Int.mul_comm (q % 4)];omega
 have e3:iY V=V % 256 ^ 16+5 * (V / 256 ^ 16 / 4)+V / 256 ^ 16 % 4 * 256 ^ 16:=by unfold iY;rw[e1,e2];omega
 constructor
 ·intro i hi;rw[Ia _ hi,e3,wG aM _ _ _ _ hi]
 ·rw[Hz,e3,Int.add_mul_ediv_right _ _ aM];unfold Dq;have h2:=Bu V (show (256:Int) ^ 16≠0 by decide);have h3:=Gj V (show (0:Int)<256 ^ 16 by decide);rw[Zqh h2 h3];omega
def rowP (g:Nat->Int) (j i:Nat):Int:=if j<=i then g (i - j) else 320 * g (i+17 - j)
theorem Kj (B:Int) (f:Nat->Int) (x:Int):∀n,sm B (fun i=>if i=0 then x else f (i - 1)) (n+1)=x+B * sm B f n
 | 0=>by simp[sm]
 | n+1=>by
  rw[sm,Kj B f x n,sm,if_neg aH,Int.pow_succ,show n+1 - 1=n by omega]
  generalize B ^ n=p
  grind
theorem SY (g:Nat->Int) (j:Nat) (hj:j<=16):∀i,i<17->rowP g (j+1) i=if i=0 then 320 * rowP g j 16 else rowP g j (i - 1):=by
 intro i hi;unfold rowP;by_cases e:i=0
 ·subst e;rw[if_neg aH,if_pos rfl,if_pos hj,show 0+17 - (j+1)=16 - j by omega]
 ·rw[if_neg e];by_cases h:j+1<=i
  ·rw[if_pos h,if_pos aH,show i - (j+1)=i - 1 - j by omega]
  ·rw[if_neg h,if_neg aH,show i+17 - (j+1)=i - 1+17 - j by omega]
theorem abz (g:Nat->Int):∀j,j<=17->sm 256 (rowP g j) 17 % PP=256 ^ j * sm 256 g 17 % PP:=by
 intro j
 induction j with
 | zero=>
  intro _;rw[Int.pow_zero,Int.one_mul,jA (fun i _=>show rowP g 0 i=g i by unfold rowP;rw[if_pos (jm _),Nat.sub_zero])]
 | succ j ih=>
  intro hj;have h:=ih aH;rw[jA (SY g j aH),Kj];have e1:sm 256 (rowP g j) 17=sm 256 (rowP g j) 16+rowP g j 16 * 256 ^ 16:=rfl;have e2:320 * rowP g j 16+256 * sm 256 (rowP g j) 16=256 * sm 256 (rowP g j) 17+PP * (-64 * rowP g j 16):=by
   have h3:(256:Int) * 256 ^ 16=64 * PP+320:=by decide
   rw[e1,Int.mul_add];have h4:256 * (rowP g j 16 * 256 ^ 16)=rowP g j 16 * (64 * PP+320):=by rw[<-h3];generalize (256:Int) ^ 16=p;grind
   rw[h4]
   generalize PP=p
   grind
  rw[Lm e2,Int.mul_emod,h,←Int.mul_emod,Int.pow_succ]
  congr 1
  generalize (256:Int) ^ j=p
  grind
def iG (f g:Nat->Int) (i:Nat):Nat->Int
 | 0=>0
 | n+1=>iG f g i n+f n * rowP g n i
theorem Tg (f g:Nat->Int):∀n,n<=17->sm 256 (fun i=>iG f g i n) 17 % PP=sm 256 f n * sm 256 g 17 % PP:=by
 intro n
 induction n with
 | zero=>intro _;rw[show sm 256 f 0=0 from rfl,Int.zero_mul,show (fun i=>iG f g i 0)=fun _=>(0:Int) from rfl,sO 256 17]
 | succ n ih=>
  intro hn;have e1:sm 256 (fun i=>iG f g i (n+1)) 17=1 * sm 256 (fun i=>iG f g i n) 17+f n * sm 256 (rowP g n) 17:=by
   rw[<-vY];exact jA fun i _=>by rw[iG];omega
  rw[e1,Int.one_mul,Int.add_emod,ih aH,Int.mul_emod (f n),abz g n aH,←Int.mul_emod,←Int.add_emod,show sm 256 f (n+1)=sm 256 f n+f n * 256 ^ n from rfl]
  congr 1
  generalize (256:Int) ^ n=p
  grind
theorem zV {f g:Nat->Int} (hf:∀i,i<17->0<=f i/\f i<=600) (hg:∀i,i<17->0<=g i/\g i<=255) (i:Nat) (hi:i<17):∀n,n<=17->0<=iG f g i n/\iG f g i n<=n * 48960000:=by
 intro n
 induction n with
 | zero=>intro _;exact⟨Int.le_refl _,Int.le_refl _⟩
 | succ n ih=>
  intro hn;have h:=ih aH;have hfn:=hf n aH;have hr:0<=rowP g n i/\rowP g n i<=81600:=by
   unfold rowP
   split
   ·have:=hg (i - n) aH;omega
   ·have:=hg (i+17 - n) aH;omega
  have m0:=Int.mul_nonneg hfn.1 hr.1;have m1:f n * rowP g n i<=600 * 81600:=Int.mul_le_mul hfn.2 hr.2 hr.1 aM;rw[iG]
  push_cast
  omega
end Go.bI
namespace Go.bI
open Go.RowKit
def OwnAt (k:IntKind) (e:TypeId) (base:Nat) (w:World) (v:Value) (n:Nat) (f:Nat->Int):Prop:=
 (v=.slice none 0 0/\n=0)\/∃g o c cur,v=.slice (some ⟨g,o,none⟩) n c/\base<=g/\w.heap[g]? =some (.cells cur e (0,0))/\n<=c/\c<=9223372036854775807/\o+c<=cur.size/\(cur.toList.drop o).take n=vals k n f
variable {k : IntKind} {e : TypeId} {base : Nat} {w w' : World} {v : Value} {n : Nat} {f g : Nat -> Int}
theorem OwnAt.nil (k:IntKind) (e:TypeId) (base:Nat) (w:World) (f:Nat->Int):OwnAt k e base w (.slice none 0 0) 0 f:=.inl ⟨rfl,rfl⟩
theorem OwnAt.rd (h:OwnAt k e base w v n f):Rd k w v n f:=by
 rcases h with⟨rfl,rfl⟩ | ⟨g,o,c,cur,rfl,hb,hg,hn,hc,hs,ht⟩
 ·exact Rd.nil _ _ _
 ·refine⟨_,_,rfl,hn,hc,(fun h=>by cases h),fun _=>⟨g,o,rfl,(Array.getElem?_eq_some_iff.1 hg).1,fun i hi=>?_⟩⟩;rw[cell_of_row w g (o+i) cur e (0,0) hg];have:=dF (k:=k) (f:=f) hi;rw[<-ht,List.getElem?_take,if_pos hi,List.getElem?_drop] at this
  simpa using this
theorem OwnAt.congr (h:OwnAt k e base w v n f) (q:∀i,i<n->f i=g i):OwnAt k e base w v n g:=by
 unfold OwnAt at *
 rwa [ru q] at h
theorem OwnAt.lt (h:OwnAt k e base w v n f):∀b,v.ownBlock=some b->base<=b/\b<w.heap.size:=by
 intro b hb;rcases h with⟨rfl,_⟩ | ⟨g,o,c,cur,rfl,hb',hg,_⟩
 ·simp[Value.ownBlock] at hb
 ·simp[Value.ownBlock] at hb;subst hb;exact⟨hb',(Array.getElem?_eq_some_iff.1 hg).1⟩
theorem OwnAt.below (h:OwnAt k e base w v n f) (hb:Below w.heap.size w w'):OwnAt k e base w' v n f:=by
 rcases h with h | ⟨g,o,c,cur,rfl,hb',hgg,rest⟩
 ·exact .inl h
 ·refine .inr ⟨g,o,c,cur,rfl,hb',?_,rest⟩;rw[hb.block g (Array.getElem?_eq_some_iff.1 hgg).1];exact hgg
theorem Sl (k:IntKind) (n lo:Nat) (f:Nat->Int):(vals k n f).drop lo=vals k (n - lo) (fun i=>f (lo+i)):=by
 apply List.ext_getElem?
 intro i;rw[List.getElem?_drop];by_cases hi:lo+i<n
 ·rw[dF hi,dF aH]
 ·have h1:(vals k n f)[lo+i]? =none:=by simp;omega
  have h2:(vals k (n - lo) (fun i=>f (lo+i)))[i]? =none:=by simp;omega
  rw[h1,h2]
theorem OwnAt.cut {b o c:Nat} (h:OwnAt k e base w (.slice (some ⟨b,o,none⟩) n c) n f) (lo:Nat) (hlo:lo<=n):
  OwnAt k e base w (.slice (if c=lo then some ⟨b,o,none⟩ else some ⟨b,o+lo,none⟩) (n - lo) (c - lo)) (n - lo) (fun i=>f (lo+i)):=by
 rcases h with⟨h,_⟩ | ⟨g',o',c',cur,he,hb,hg,hn,hc,hs,ht⟩
 ·cases h
 ·simp only[VQ,Zqk,Addr.mk.injEq,and_true,true_and] at he;obtain⟨⟨rfl,rfl⟩,rfl⟩:=he;by_cases hcl:c=lo
  ·subst hcl;obtain rfl:n=c:=by omega
   rw[if_pos rfl,Nat.sub_self];exact .inr ⟨b,o,0,cur,rfl,hb,hg,bH _,by omega,by omega,by simp[vals]⟩
  ·rw[if_neg hcl];refine .inr ⟨b,o+lo,c - lo,cur,rfl,hb,hg,by omega,by omega,by omega,?_⟩;rw[<-Sl,←ht,List.drop_take,List.drop_drop]
theorem Ws {x:Value} (h:x ∈ vals k n f):x.oneCell'=true:=by
 obtain⟨_,_,rfl⟩:=List.mem_map.1 h
 rfl
theorem BJ {m:Nat} (hf:∀i,i<m->f (n+i)=g i):vals k n f++vals k m g=vals k (n+m) f:=by
 unfold vals;rw[List.range_add];simp only[List.map_append,List.map_map]
 congr 1
 exact List.map_congr_left fun i hi=>by simp[hf i (List.mem_range.1 hi)]
theorem addr_add (b o j:Nat):(⟨b,o,none⟩:Addr).add j=⟨b,o+j,none⟩:=by unfold Addr.add;split<;> simp_all
theorem OwnAt.whole (hb:base<=w.heap.size) {m c:Nat} (hmc:m<=c) (hc:c<=9223372036854775807) {cur:Array Value} (hs:cur.size=c) (ht:cur.toList.take m=vals k m f):
  OwnAt k e base (w.drew.alloc (.cells cur e)) (.slice (some ⟨w.heap.size,0,none⟩) m c) m f:=
 .inr ⟨w.heap.size,0,c,cur,rfl,hb,heap_alloc_new w.drew _,hmc,hc,by omega,by simpa using ht⟩
theorem Ev {P:Program} (w:World) (t ty e:TypeId) (k:IntKind) (bytes:Nat) (h1:P.underlying t=some (.slice e)) (hinfo:(P.info? e).map (fun i=>(i.zero,i.size,i.bytes))=some (some (.int k 0),1,bytes))
  (base:Nat) (v:Value) (n:Nat) (f:Nat->Int) (cK:OwnAt k e base w v n f) (u:Value) (m:Nat) (g:Nat->Int) (hrd:Rd k w u m g) (hf:∀i,i<m->f (n+i)=g i)
  (b2:(n+m) * bytes<=140737488355328) (b3:n+m<=9223372036854775807) (b4:base<=w.heap.size):
  ∃v' w',(Builtin.append_ #[t,t] ty #[v,u]).run P w=.ok v' w'/\OwnAt k e base w' v' (n+m) f/\w.grownBy w' v.ownBlock/\(0<n+m->v'≠.slice none 0 0):=by
 obtain⟨i,hi,hz0,hz1,hz2⟩:=info_parts hinfo;obtain⟨ao,c,rfl,l1,l2,l3,l4⟩:=hrd;have hvm:(vals k m g).length=m * i.size:=by rw[hz1];simp
 by_cases hm:m=0
 ·subst hm;rcases cK with⟨rfl,rfl⟩ | ⟨gg,o,c',cur,rfl,hb,hg,hn,hc,hs,ht⟩
  ·refine⟨.slice none 0 0,w,?_,OwnAt.nil _ _ _ _ _,World.grownBy.refl _ _,aP⟩;cases ao<;> simp[Builtin.append_,run_underlying h1,sizeOf,typeInfo,hi,Builtin.lenOf,Builtin.firstCells,loadCells,loadCellsFrom]
  ·refine⟨.slice (some ⟨gg,o,none⟩) n c',w,?_,.inr ⟨gg,o,c',cur,rfl,hb,hg,hn,hc,hs,ht⟩,World.grownBy.refl _ _,fun _ h=>by cases h⟩;cases ao<;> simp[Builtin.append_,run_underlying h1,sizeOf,typeInfo,hi,Builtin.lenOf,Builtin.firstCells,loadCells,loadCellsFrom,hn,storeCells]
 ·obtain⟨b,of,rfl,_,hcell⟩:=l4 aH;have hnews:∀j x,(vals k m g)[j]? =some x->w.cell? ((⟨b,of,none⟩:Addr).add j)=some x:=by
   intro j x hx;have hj:j<m:=by
    have:=(List.getElem?_eq_some_iff.1 hx).1
    simpa using this
   rw[addr_add,hcell j hj,←dF (k:=k) (f:=g) hj];exact hx
  have hnews1:∀x ∈ vals k m g,x.oneCell'=true:=fun x hx=>Ws hx;rcases cK with⟨rfl,rfl⟩ | ⟨gg,o,c',cur,rfl,hb,hg,hn,hc,hs,ht⟩
  ·have hr:=run_append_nil (P:=P) w t ty e i _ h1 hi hz0 ⟨b,of,none⟩ m c (vals k m g) hvm hnews aH aH (by rw[hz2];simp only[qY] at b2;omega);have hge:=grownCap_ge w m 0 e;have hcm:grownCap w m 0 e<=maxLen:=grownCap_le_maxLen w m 0 e (by unfold maxLen;omega);unfold maxLen at hcm;rw[qY];refine⟨_,_,hr,?_,⟨rfl,rfl,rfl,by simp,fun q hq _=>((bT w.heap.size w.drew).alloc (bH _) _).block q hq⟩,fun _ h=>by cases h⟩;refine OwnAt.whole b4 hge aH ?_ ?_
   ·have hz:(Value.int k 0).cells=#[.int k 0] :=rfl;simp only[Array.size_append,List.size_toArray,size_zeroCells,hz,dH];simp;omega
   ·rw[Array.toList_append];have:vals k m f=vals k m g:=ru fun i hi=>by have:=hf i hi;rwa [qY] at this
    rw[this];simp[List.take_append_of_le_length]
  ·by_cases hroom:n+m<=c'
   ·have hfm:=run_firstCells_some (P:=P) w i.size m ⟨b,of,none⟩ m c (vals k m g) hvm hnews;have iN:=run_storeCells_at P gg (o+n) e (vals k m g) 0 cur w hg iU hnews1;refine⟨.slice (some ⟨gg,o,none⟩) (n+m) c',w.setRow gg (cur.toList.take (o+n)++vals k m g++cur.toList.drop (o+n+(vals k m g).length)).toArray,?_,?_,?_,fun _ h=>by cases h⟩
    ·simp only[Nat.add_zero] at iN;simp[Builtin.append_,run_underlying h1,sizeOf,typeInfo,hi,Builtin.lenOf,hroom,hfm,hz1,addr_add];simp[hz1] at hfm;simp[hfm,iN]
    ·refine .inr ⟨gg,o,c',_,rfl,hb,setRow_heap w gg cur _ e _ hg,hroom,hc,?_,?_⟩
     ·simp only[List.size_toArray,List.length_append,List.length_take,List.length_drop,Array.length_toList,dH];omega
     ·rw[<-BJ hf,←ht,List.append_assoc,List.drop_append_of_le_length iU,List.drop_take];rw[show o+n - o=n by omega,←List.append_assoc];rw[List.take_append_of_le_length iU,List.take_of_length_le iU]
    ·exact⟨rfl,rfl,rfl,by simp,fun k _ hk=>setRow_other w gg k _ (fun e=>hk (by simp[Value.ownBlock,e]))⟩
   ·have holds:∀j x,(vals k n f)[j]? =some x->w.cell? ((⟨gg,o,none⟩:Addr).add j)=some x:=by
     intro j x hx;have hj:j<n:=by
      have:=(List.getElem?_eq_some_iff.1 hx).1
      simpa using this
     rw[addr_add,cell_of_row w gg (o+j) cur e (0,0) hg];rw[<-ht,List.getElem?_take,if_pos hj,List.getElem?_drop] at hx
     simpa using hx
    have hr:=run_append_grow (P:=P) w t ty e i _ h1 hi hz0 ⟨gg,o,none⟩ n c' (vals k n f) (by rw[hz1];simp) holds ⟨b,of,none⟩ m c (vals k m g) hvm hnews aH aH (growslice_fits aH (by rw[hz2];exact b2));have hge:=grownCap_ge w (n+m) c' e;have hcm:grownCap w (n+m) c' e<=maxLen:=grownCap_le_maxLen w (n+m) c' e (by unfold maxLen;omega);unfold maxLen at hcm;refine⟨_,_,hr,?_,⟨rfl,rfl,rfl,by simp,fun q hq _=>((bT w.heap.size w.drew).alloc (bH _) _).block q hq⟩,fun _ h=>by cases h⟩;refine OwnAt.whole b4 hge aH ?_ ?_
    ·have hz:(Value.int k 0).cells=#[.int k 0] :=rfl;simp only[Array.size_append,List.size_toArray,size_zeroCells,hz,dH];simp;omega
    ·rw[Array.toList_append,Array.toList_append,←BJ hf];rw[List.take_append_of_le_length aR,List.take_of_length_le aR]
theorem Gt {P:Program} {w:World} {o:Oper} {a:Act} {K:Act->World->Prop} {Q:Exit->Act->World->Prop}
  (s x:Operand) (t:TypeId) (hop:o.op=.call { callee:=.builtin .append,args:=#[s,x],argTypes:=#[t,t] })
  (base:Nat) (e:TypeId) (k:IntKind) (bytes:Nat)
  (h1:P.underlying t=some (.slice e)) (hinfo:(P.info? e).map (fun i=>(i.zero,i.size,i.bytes))=some (some (.int k 0),1,bytes))
  (v:Value) (n:Nat) (f:Nat->Int) (cK:OwnAt k e base w v n f) (hs:a.eval s=v)
  (u:Value) (m:Nat) (g:Nat->Int) (hrd:Rd k w u m g) (hx:a.eval x=u) (hf:∀i,i<m->f (n+i)=g i)
  (b2:(n+m) * bytes<=140737488355328) (b3:n+m<=9223372036854775807) (b4:base<=w.heap.size)
  (hK:∀v' w',OwnAt k e base w' v' (n+m) f->w.grownBy w' v.ownBlock->(0<n+m->v'≠.slice none 0 0)->K (a.put o.dst v') w'):
  o.wp P a w K Q:=by
 obtain⟨v',w',hr,h2,h3,h4⟩:=Ev (P:=P) w t o.type e k bytes h1 hinfo base v n f cK u m g hrd hf b2 b3 b4;unfold Oper.wp execOp;simp only[hop,resolve,invoke,builtin,uV,wL,vS,vT,List.map_cons,List.map_nil,hs,hx,hr];exact hK v' w' h2 h3 h4
theorem Vb {P:Program} {w:World} {ops:Array Oper} {rest:List Oper} {o:Oper} {a:Act} {Q:Exit->Act->World->Prop}
  (hg:o.guard=none) (s x:Operand) (t:TypeId) (hop:o.op=.call { callee:=.builtin .append,args:=#[s,x],argTypes:=#[t,t] })
  (base:Nat) (e:TypeId) (k:IntKind) (bytes:Nat)
  (h1:P.underlying t=some (.slice e)) (hinfo:(P.info? e).map (fun i=>(i.zero,i.size,i.bytes))=some (some (.int k 0),1,bytes))
  (v:Value) (n:Nat) (f:Nat->Int) (cK:OwnAt k e base w v n f) (hs:a.eval s=v)
  (u:Value) (m:Nat) (g:Nat->Int) (hrd:Rd k w u m g) (hx:a.eval x=u) (hf:∀i,i<m->f (n+i)=g i)
  (b2:(n+m) * bytes<=140737488355328) (b3:n+m<=9223372036854775807) (b4:base<=w.heap.size)
  (hK:∀v' w',OwnAt k e base w' v' (n+m) f->w.grownBy w' v.ownBlock->(0<n+m->v'≠.slice none 0 0)->wpList P ops Q rest (a.put o.dst v') w'):
  wpList P ops Q (o::rest) a w:=
 wpList_plain hg fun _ hK'=>Gt s x t hop base e k bytes h1 hinfo v n f cK hs u m g hrd hx hf b2 b3 b4 fun v' w' q1 q2 q3=>hK' _ _ (hK v' w' q1 q2 q3)
end Go.bI
namespace Go.bI
open Go.RowKit
theorem Au {P:Program} (w:World) (t u ty e:TypeId) (k:IntKind) (bytes:Nat) (h1:P.underlying t=some (.slice e)) (hu:P.underlying u=some (.int .i64)) (hinfo:(P.info? e).map (fun i=>(i.zero,i.size,i.bytes))=some (some (.int k 0),1,bytes))
  (base:Nat) (g n c:Nat) (f:Nat->Int) (cK:Own k e base w (.slice (some ⟨g,0,none⟩) n c) n f) (m:Nat) (hc:c<n+m) (hf:∀i,i<m->f (n+i)=0)
  (b2:(n+m) * bytes<=140737488355328) (b3:n+m<=9223372036854775807) (b4:base<=w.heap.size):
  ∃v' w',(Builtin.append_ #[t,u] ty #[.slice (some ⟨g,0,none⟩) n c,.int .i64 (m:Int)]).run P w=.ok v' w'/\Own k e base w' v' (n+m) f/\w.grownBy w' none:=by
 obtain⟨i,hi,hz0,hz1,hz2⟩:=info_parts hinfo;have hcell:=cK.cells (g:=g) rfl;have hlen:=cK.1;have hnc:n<=c:=by
  rcases cK.2 with⟨h,_⟩ | ⟨g',cap,cur,he,_,_,hn,_⟩
  ·cases h
  ·simp only[VQ,true_and] at he;obtain⟨_,rfl⟩:=he;exact hn
 have hm0:0<m:=by omega
 have hn:¬ (n+m<=c):=by omega
 have h63':¬ (9223372036854775807<((n:Int)+(m:Int))):=by omega
 have hfit:Builtin.nextslicecap (n+m) c * i.bytes<=281474976710656:=growslice_fits aH (by rw[hz2];exact b2);have h48':¬ (281474976710656<Builtin.nextslicecap (n+m) c * i.bytes):=by omega
 have hfo:=run_firstCells_some (P:=P) w.drew i.size n ⟨g,0,none⟩ n c (vals k n f) (by rw[hz1];simp) (by simpa using hcell);have hw:IntKind.i64.wrap (m:Int)=(m:Int):=jq aH aH;have hneg:¬ ((m:Int)<0):=by omega
 have hmb:m * i.bytes<=140737488355328:=iw (Nat.mul_le_mul_right i.bytes (show m<=n+m by omega)) (by rw[hz2];exact b2);have hbig:¬ (281474976710656<(m:Int) * (i.bytes:Int)):=by
  rw[<-Int.natCast_mul];omega
 have hge:=grownCap_ge w (n+m) c e;have hcm:grownCap w (n+m) c e<=maxLen:=grownCap_le_maxLen w (n+m) c e (by unfold maxLen;omega)
 have hrun:(Builtin.append_ #[t,u] ty #[.slice (some ⟨g,0,none⟩) n c,.int .i64 (m:Int)]).run P w=
   .ok (.slice (some ⟨w.heap.size,0,none⟩) (n+m) (grownCap w (n+m) c e)) (w.drew.alloc (.cells ((vals k n f).toArray++Builtin.zeroCells (Value.int k 0).cells m++Builtin.zeroCells (Value.int k 0).cells (grownCap w (n+m) c e - (n+m))) e)):=by
  rw[hz1] at hfo;have hmz:¬ m=0:=by omega
  simp[Builtin.append_,run_underlying h1,run_underlying hu,sizeOf,typeInfo,zeroValue,hi,hz0,hz1,asInt,asIntOf,hw,hneg,hbig,hn,h63',h48',Question.forced,hfo,hmz,newRow,grownCap]
 refine⟨_,_,hrun,?_,⟨rfl,rfl,rfl,by simp,fun q hq _=>((bT w.heap.size w.drew).alloc (bH _) _).block q hq⟩⟩;have hz:(Value.int k 0).cells=#[.int k 0] :=rfl;have hvz:(Builtin.zeroCells (Value.int k 0).cells m).toList=vals k m (fun _=>0):=by
  apply List.ext_getElem?
  intro j;by_cases hj:j<m
  ·rw[dF hj];simp[Builtin.zeroCells,hz,hj,Nat.mod_one]
  ·simp[Builtin.zeroCells,hz,hj,vals]
 have hva:vals k n f++vals k m (fun _=>0)=vals k (n+m) f:=by
  unfold vals;rw[List.range_add];simp only[List.map_append,List.map_map]
  congr 1
  exact List.map_congr_left fun i hi=>by simp[hf i (List.mem_range.1 hi)]
 refine⟨by simp,.inr ⟨w.heap.size,_,_,rfl,b4,heap_alloc_new w.drew _,hge,hcm,?_,?_⟩⟩
 ·simp only[Array.size_append,List.size_toArray,size_zeroCells,hz,dH];simp;omega
 ·rw[Array.toList_append,Array.toList_append,hvz,List.append_assoc];rw[<-List.append_assoc];simp only[List.toList_toArray];rw[hva,List.take_append_of_le_length aR,List.take_of_length_le aR]
theorem MS {P:Program} {w:World} {ops:Array Oper} {rest:List Oper} {o:Oper} {a:Act} {Q:Exit->Act->World->Prop}
  (hg:o.guard=none) (s x:Operand) (t u:TypeId) (hop:o.op=.call { callee:=.builtin .append,args:=#[s,x],argTypes:=#[t,u] })
  (base:Nat) (e:TypeId) (k:IntKind) (bytes:Nat)
  (h1:P.underlying t=some (.slice e)) (hu:P.underlying u=some (.int .i64)) (hinfo:(P.info? e).map (fun i=>(i.zero,i.size,i.bytes))=some (some (.int k 0),1,bytes))
  (b n c:Nat) (f:Nat->Int) (cK:Own k e base w (.slice (some ⟨b,0,none⟩) n c) n f) (hs:a.eval s=.slice (some ⟨b,0,none⟩) n c) (m:Nat) (hx:a.eval x=.int .i64 (m:Int)) (hc:c<n+m) (hf:∀i,i<m->f (n+i)=0)
  (b2:(n+m) * bytes<=140737488355328) (b3:n+m<=9223372036854775807) (b4:base<=w.heap.size)
  (hK:∀v' w',Own k e base w' v' (n+m) f->w.grownBy w' none->wpList P ops Q rest (a.put o.dst v') w'):
  wpList P ops Q (o::rest) a w:=by
 refine wpList_plain hg fun K hK'=>?_;obtain⟨v',w',hr,h2,h3⟩:=Au (P:=P) w t u o.type e k bytes h1 hu hinfo base b n c f cK m hc hf b2 b3 b4;unfold Oper.wp execOp;simp only[hop,resolve,invoke,builtin,uV,wL,vS,vT,List.map_cons,List.map_nil,hs,hx,hr];exact hK' _ _ (hK v' w' h2 h3)
end Go.bI
namespace Go.bI
def Pr:Int:=2 ^ 255 - 19
theorem aau:(65536:Int) ^ 16=2 * Pr+38:=by decide
theorem Jo:(0:Int)<Pr:=by decide
theorem aqw:(0:Int)<=Pr/\Pr<65536 ^ 16:=by decide
def cin (f:Nat->Int):Nat->Int
 | 0=>0
 | i+1=>(f i+cin f i) / 65536
def oZ (f:Nat->Int):Nat->Int:=fun i=>if i=0 then f 0 % 65536+38 * cin f 16 else (f i+cin f i) % 65536
def EK (f:Nat->Int) (k:Nat):Nat->Int:=if k=16 then oZ f else fun i=>if i<k then (f i+cin f i) % 65536 else if i=k then f k+cin f k else f i
theorem ZH (f:Nat->Int):∀i,i<16->f i=EK f 0 i:=by
 intro i hi;unfold EK;rw[if_neg aM,if_neg aH];by_cases e:i=0
 ·subst e;simp[cin]
 ·rw[if_neg e]
theorem ZM (f:Nat->Int) {k:Nat} (h:k<16):EK f k k=f k+cin f k:=by
 unfold EK;rw[if_neg aH,if_neg aH,if_pos rfl]
theorem UC (f:Nat->Int) {k:Nat} (h:k<15):EK f k (k+1)=f (k+1):=by
 unfold EK;rw[if_neg aH,if_neg aH,if_neg aH]
theorem ZK (f:Nat->Int):EK f 15 0=f 0 % 65536:=by
 unfold EK;rw[if_neg aM,if_pos aM];simp[cin]
theorem ZI (f:Nat->Int) {k:Nat} (h:k<15):∀i,i<16->upd (upd (EK f k) k ((f k+cin f k) % 65536)) (k+1) (f (k+1)+(f k+cin f k) / 65536) i=EK f (k+1) i:=by
 intro i hi;by_cases e1:i=k+1
 ·subst e1;rw[mE,ZM f aH];rfl
 ·rw[upd_ne _ _ e1];by_cases e:i=k
  ·subst e;rw[mE];unfold EK;rw[if_neg aH,if_pos aH]
  ·rw[upd_ne _ _ e];unfold EK;rw[if_neg (show ¬ k=16 by omega),if_neg (show ¬ k+1=16 by omega)];by_cases h1:i<k
   ·rw[if_pos h1,if_pos aH]
   ·rw[if_neg h1,if_neg e,if_neg aH,if_neg aH]
theorem ZJ (f:Nat->Int):∀i,i<16->upd (upd (EK f 15) 15 ((f 15+cin f 15) % 65536)) 0 (f 0 % 65536+38 * ((f 15+cin f 15) / 65536)) i=EK f 16 i:=by
 intro i hi;have e:EK f 16=oZ f:=if_pos rfl;rw[e];unfold oZ;by_cases e1:i=0
 ·subst e1;rw[mE,if_pos rfl];rfl
 ·rw[upd_ne _ _ e1,if_neg e1];by_cases e:i=15
  ·subst e;rw[mE]
  ·rw[upd_ne _ _ e];unfold EK;rw[if_neg aM,if_pos aH]
theorem ZL (f:Nat->Int):EK f 16=oZ f:=if_pos rfl
theorem uR {f:Nat->Int} {lo hi cl ch:Int} (hf:∀i,i<16->lo<=f i/\f i<=hi) (h0:cl<=0) (h1:0<=ch) (h2:cl<=(lo+cl) / 65536) (h3:(hi+ch) / 65536<=ch):
  ∀i,i<=16->cl<=cin f i/\cin f i<=ch:=by
 intro i
 induction i with
 | zero=>intro _;exact⟨h0,h1⟩
 | succ i ih=>
  intro hi';have a:=ih aH;have b:=hf i aH;unfold cin;omega
theorem WV (f:Nat->Int):∀n,sm 65536 (fun i=>(f i+cin f i) % 65536) n=sm 65536 f n - cin f n * 65536 ^ n
 | 0=>by simp[sm,cin]
 | n+1=>by
  rw[sm,sm,WV f n,Int.pow_succ];have e:cin f (n+1)=(f n+cin f n) / 65536:=rfl;rw[e];have h:=EN (f n+cin f n) 65536
  generalize (f n+cin f n) / 65536=q at *
  generalize (f n+cin f n) % 65536=r at *
  generalize (65536:Int) ^ n=p at *
  have h2:(r+65536 * q) * p=(f n+cin f n) * p:=by rw[h]
  grind
theorem afz (f:Nat->Int):sm 65536 (oZ f) 16=sm 65536 f 16 - 2 * Pr * cin f 16:=by
 have e:oZ f=upd (fun i=>(f i+cin f i) % 65536) 0 (f 0 % 65536+38 * cin f 16):=by
  funext i;unfold oZ upd;rfl
 rw[e,uF,if_pos aM,WV,aau];simp only[cin,Int.add_zero,Int.pow_zero,Int.mul_one]
 generalize Pr=p
 grind
def ER (f:Nat->Int):Prop:=(∀i,i<16->0<i->0<=f i/\f i<=65535)/\ -100<=f 0/\f 0<=65700
def Fe (f:Nat->Int) (X:Int):Prop:=ER f/\sm 65536 f 16 % Pr=X % Pr
theorem ER.bound {f:Nat->Int} (h:ER f):∀i,i<16-> -100<=f i/\f i<=65700:=by
 intro i hi;by_cases e:i=0
 ·subst e;exact h.2
 ·have:=h.1 i hi aH;omega
theorem CJ {f:Nat->Int} (c0: -2<=cin f 16) (c1:cin f 16<=3):ER (oZ f):=by
 refine⟨fun i hi h0=>?_,?_,?_⟩
 ·unfold oZ;rw[if_neg aH];omega
 ·unfold oZ;rw[if_pos rfl];omega
 ·unfold oZ;rw[if_pos rfl];omega
theorem ow {a b c:Int} (h:a=b+Pr * c):a % Pr=b % Pr:=by rw[h,Int.add_mul_emod_self_left]
theorem yt (f:Nat->Int):sm 65536 (oZ f) 16 % Pr=sm 65536 f 16 % Pr:=
 ow (c:= -(2 * cin f 16)) (by rw[afz];generalize Pr=p;grind)
theorem Fe.add {f g:Nat->Int} {X Y:Int} (hf:Fe f X) (hg:Fe g Y):Fe (oZ (fun i=>f i+g i)) (X+Y):=by
 have hb:=uR (f:=fun i=>f i+g i) (lo:= -200) (hi:=131400) (cl:= -2) (ch:=3) (fun i hi=>by have:=hf.1.bound i hi;have:=hg.1.bound i hi;omega) aM aM aM aM 16 (bH _);refine⟨CJ hb.1 hb.2,?_⟩;rw[yt];have e:=vY 65536 f g 1 1 16;simp only[Int.one_mul] at e;rw[e,Int.add_emod,hf.2,hg.2,←Int.add_emod]
theorem Fe.sub {f g:Nat->Int} {X Y:Int} (hf:Fe f X) (hg:Fe g Y):Fe (oZ (fun i=>f i - g i)) (X - Y):=by
 have hb:=uR (f:=fun i=>f i - g i) (lo:= -65800) (hi:=65800) (cl:= -2) (ch:=2) (fun i hi=>by have:=hf.1.bound i hi;have:=hg.1.bound i hi;omega) aM aM aM aM 16 (bH _);refine⟨CJ hb.1 aH,?_⟩;rw[yt];have e:=vY 65536 f g 1 (-1) 16;have e2:(fun i=>f i - g i)=fun i=>1 * f i+ -1 * g i:=by funext i;omega
 rw[e2,e,show (1:Int) * sm 65536 f 16+ -1 * sm 65536 g 16=sm 65536 f 16 - sm 65536 g 16 by omega,Int.sub_emod,hf.2,hg.2,←Int.sub_emod]
theorem abA {X:Int} (h:0<=X/\X<65536 ^ 16):sm 65536 (dg 65536 X) 16=X:=by rw[qH aM,Nb h.1 h.2]
theorem Fe.canon {f:Nat->Int} {X:Int} (h:Fe f X):∃Y:Int,0<=Y/\Y<65536 ^ 16/\Y % Pr=X % Pr/\∀i,i<16->oZ f i=dg 65536 Y i:=by
 have hd:∀i,i<16->0<=oZ f i/\oZ f i<65536:=by
  have hc:∀i,i<=16->0<i->(cin f i=0)\/(cin f i= -1/\ -100<=f 0/\f 0<0)\/(cin f i=1/\65536<=f 0/\f 0<=65700):=by
   intro i
   induction i with
   | zero=>intro _ h;omega
   | succ i ih=>
    intro hi _;unfold cin;by_cases e:i=0
    ·subst e;have:=h.1.2;simp only[cin];omega
    ·have a:=ih aH aH;have b:=h.1.1 i aH aH;omega
  intro i hi;unfold oZ;by_cases e:i=0
  ·subst e;rw[if_pos rfl];have:=hc 16 aM aM;omega
  ·rw[if_neg e];omega
 refine⟨sm 65536 (oZ f) 16,(qI aM hd).1,(qI aM hd).2,?_,fun i hi=>(Af aM hd i hi).symm⟩;rw[yt,h.2]
theorem ZQ {f:Nat->Int} (h:∀i,i<16->0<=f i/\f i<65536):∀i,i<=16->cin f i=0:=by
 intro i
 induction i with
 | zero=>intro _;rfl
 | succ i ih=>
  intro hi;unfold cin;rw[ih aH];have:=h i aH;omega
theorem ZN {f:Nat->Int} (h:∀i,i<16->0<=f i/\f i<65536):∀i,i<16->oZ f i=f i:=by
 intro i hi;unfold oZ;rw[ZQ h i aH,ZQ h 16 aH];have:=h i hi
 split
 ·rename_i e;subst e;omega
 ·omega
theorem Fe.dg {X Y:Int} (h0:0<=Y) (h1:Y<65536 ^ 16) (h:Y % Pr=X % Pr):Fe (dg 65536 Y) X:=by
 refine⟨⟨fun i _ _=>by have:=bR (by decide:(0:Int)<65536) Y i;omega,by have:=bR (by decide:(0:Int)<65536) Y 0;omega,by have:=bR (by decide:(0:Int)<65536) Y 0;omega⟩,?_⟩;rw[abA ⟨h0,h1⟩,h]
def Ej (Y:Int):Int:=if Pr<=Y then Y - Pr else Y
theorem NK {Y:Int} (h0:0<=Y) (h1:Y<65536 ^ 16):Ej (Ej Y)=Y % Pr:=by
 rw[aau] at h1;unfold Ej;have hp:(38:Int)<Pr:=by decide
 have key:∀q r:Int,Y=Pr * q+r->0<=r->r<Pr->Y % Pr=r:=by
  intro q r e a b;rw[e,Int.add_comm,Int.add_mul_emod_self_left,Nb a b]
 generalize Pr=p at *
 split
 ·split
  ·exact(key 2 _ aH aH aH).symm
  ·exact(key 1 _ aH aH aH).symm
 ·exact(key 0 _ aH aH aH).symm
theorem NM {Y:Int} (h0:0<=Y) (h1:Y<65536 ^ 16):0<=Ej Y/\Ej Y<65536 ^ 16:=by
 have:=Jo;unfold Ej
 split<;> omega
def jW (t x y:Nat->Int) (i j:Nat):Prop:=
 sm 65536 t 31=sm 65536 x i * sm 65536 y 16+x i * 65536 ^ i * sm 65536 y j/\
 ∀k,(k<i+j-> -((i+1) * 4316490000)<=t k/\t k<=(i+1) * 4316490000)/\(i+j<=k-> -(i * 4316490000)<=t k/\t k<=i * 4316490000)
theorem jW.zero (x y:Nat->Int):jW (fun _=>0) x y 0 0:=by
 refine⟨?_,fun k=>⟨fun h=>by simp,fun h=>by simp⟩⟩;rw[sO,show sm 65536 x 0=0 from rfl,show sm 65536 y 0=0 from rfl];simp
theorem jW.row {t x y:Nat->Int} {i:Nat} (h:jW t x y i 16):jW t x y (i+1) 0:=by
 refine⟨?_,fun k=>⟨fun hk=>?_,fun hk=>?_⟩⟩
 ·rw[h.1,show sm 65536 x (i+1)=sm 65536 x i+x i * 65536 ^ i from rfl,show sm 65536 y 0=0 from rfl,Int.add_mul,Int.mul_zero,Int.add_zero]
 ·have:=(h.2 k).1 aH;push_cast;omega
 ·rcases Nat.lt_or_ge k (i+16) with h' | h'
  ·have:=(h.2 k).1 h';push_cast;omega
  ·have:=(h.2 k).2 h';push_cast;omega
theorem Li {a b:Int} (h0: -100<=a) (h1:a<=65700) (h2: -100<=b) (h3:b<=65700): -4316490000<=a * b/\a * b<=4316490000:=by
 have e:a * b=(a+100) * (b+100) - 100 * a - 100 * b - 10000:=by grind
 have m0:0<=(a+100) * (b+100):=Int.mul_nonneg aH aH;by_cases ha:0<=a
 ·by_cases hb:0<=b
  ·have:=Int.mul_nonneg ha hb;have:=Int.mul_le_mul h1 h3 hb (by decide:(0:Int)<=65700);omega
  ·have h4:0<=a * (-b):=Int.mul_nonneg ha aH;have h5:a * (-b)<=65700 * 100:=Int.mul_le_mul h1 aH aH aM;rw[Int.mul_neg] at h4 h5;omega
 ·by_cases hb:0<=b
  ·have h4:0<=(-a) * b:=Int.mul_nonneg aH hb;have h5:(-a) * b<=100 * 65700:=Int.mul_le_mul aH h3 hb aM;rw[Int.neg_mul] at h4 h5;omega
  ·have h4:0<=(-a) * (-b):=Int.mul_nonneg aH aH;have h5:(-a) * (-b)<=100 * 100:=Int.mul_le_mul aH aH aH aM;rw[Int.neg_mul_neg] at h4 h5;omega
theorem jW.bound {t x y:Nat->Int} {i j:Nat} (h:jW t x y i j) (hi:i<=16) (k:Nat): -73380330000<=t k/\t k<=73380330000:=by
 rcases Nat.lt_or_ge k (i+j) with h' | h'
 ·have:=(h.2 k).1 h';omega
 ·have:=(h.2 k).2 h';omega
theorem jW.step {t x y:Nat->Int} {i j:Nat} (h:jW t x y i j) (hi:i<16) (hj:j<16) (hx:ER x) (hy:ER y):jW (upd t (i+j) (t (i+j)+x i * y j)) x y i (j+1):=by
 have bx:=hx.bound i hi;have by':=hy.bound j hj
 have hm:=Li bx.1 bx.2 by'.1 by'.2
 refine⟨?_,fun k=>?_⟩
 ·rw[uF,if_pos aH,h.1,show sm 65536 y (j+1)=sm 65536 y j+y j * 65536 ^ j from rfl,show t (i+j)+x i * y j - t (i+j)=x i * y j by omega,Int.pow_add]
  generalize (65536:Int) ^ i=p
  generalize (65536:Int) ^ j=q
  grind
 ·by_cases e:k=i+j
  ·subst e;have h2:=(h.2 (i+j)).2 (bH _);rw[mE];exact⟨fun _=>by omega,fun hk=>by omega⟩
  ·rw[upd_ne _ _ e];exact⟨fun hk=>(h.2 k).1 aH,fun hk=>(h.2 k).2 aH⟩
theorem Fe.mul {t f g:Nat->Int} {X Y:Int} (h:jW t f g 16 0) (hf:Fe f X) (hg:Fe g Y):Fe (oZ (oZ (fun i=>if i<15 then t i+38 * t (16+i) else t i))) (X * Y):=by
 have ho:∀i,i<16-> -3000000000000<=(if i<15 then t i+38 * t (16+i) else t i)/\(if i<15 then t i+38 * t (16+i) else t i)<=3000000000000:=by
  intro i hi;have a:=h.bound (bH _) i;have b:=h.bound (bH _) (16+i)
  split<;> omega
 have c1:=uR ho (cl:= -46000000) (ch:=46000000) aM aM aM aM
 generalize ho':(fun i=>if i<15 then t i+38 * t (16+i) else t i)=o at *
 have hco:∀i,i<16-> -1750000000<=oZ o i/\oZ o i<=1750000000:=by
  intro i hi;have:=c1 16 (bH _);unfold oZ
  split<;> omega
 have hnn:∀i,i<16->0<i->0<=oZ o i/\oZ o i<=65535:=by
  intro i hi h0;unfold oZ;rw[if_neg aH];omega
 have c2:∀i,1<i->i<=16-> -1<=cin (oZ o) i/\cin (oZ o) i<=1:=by
  intro i
  induction i with
  | zero=>intro h;omega
  | succ i ih=>
   intro h1 h2;have e:cin (oZ o) (i+1)=(oZ o i+cin (oZ o) i) / 65536:=rfl;rw[e];have a:=hnn i aH aH;by_cases e1:i=1
   ·subst e1;have e2:cin (oZ o) 1=(oZ o 0+0) / 65536:=rfl;have b:=hco 0 aM;omega
   ·have b:=ih aH aH;omega
 have c3:=c2 16 aM aM;refine⟨CJ aH aH,?_⟩;rw[yt,yt,←ho'];have e1:sm 65536 (fun i=>if i<15 then t i+38 * t (16+i) else t i) 16=sm 65536 t 16+38 * sm 65536 (fun i=>t (16+i)) 15:=by
  have e2:sm 65536 (fun i=>if i<15 then t i+38 * t (16+i) else t i) 15=sm 65536 (fun i=>1 * t i+38 * t (16+i)) 15:=jA fun i hi=>by rw[if_pos hi];omega
  rw[sm,e2,vY,show sm 65536 t 16=sm 65536 t 15+t 15 * 65536 ^ 15 from rfl,if_neg aM];omega
 have e3:=xq 65536 t 16 15;have e4:=h.1;rw[show (16:Nat)+15=31 from rfl] at e3;rw[e4,show sm 65536 g 0=0 from rfl,Int.mul_zero,Int.add_zero,aau] at e3;rw[e1];have e5:sm 65536 t 16+38 * sm 65536 (fun i=>t (16+i)) 15=sm 65536 f 16 * sm 65536 g 16+Pr * (-2 * sm 65536 (fun i=>t (16+i)) 15):=by
  generalize Pr=p at *
  generalize sm 65536 (fun i=>t (16+i)) 15=s at *
  generalize sm 65536 t 16=u at *
  rw[e3]
  grind
 rw[ow e5,Int.mul_emod,hf.2,hg.2,←Int.mul_emod]
theorem abn (X:Int):∀i,i<16->upd (dg 65536 X) 15 (dg 65536 X 15 % 32768) i=dg 65536 (X % 2 ^ 255) i:=by
 intro i hi;have hM:(2:Int) ^ 255=65536 ^ 15 * 32768:=by decide
 rw[hM];have h1:=EN X (65536 ^ 15 * 32768);by_cases e:i=15
 ·subst e;rw[mE];unfold dg;have h2:(X % (65536 ^ 15 * 32768)) / 65536 ^ 15=X / 65536 ^ 15 % 32768:=by
   have hp:(0:Int)<65536 ^ 15:=by decide
   generalize (65536:Int) ^ 15=p at *
   have h3:=EN X p;have h4:=EN (X / p) 32768;have h5:=Bu X (show p≠0 by omega);have h6:=Gj X hp;have h7:X / (p * 32768)=X / p / 32768:=(Int.ediv_ediv_of_nonneg aH).symm;rw[h7] at h1;have h8:X % (p * 32768)=X % p+X / p % 32768 * p:=by
    have:p * (X / p)=p * (X / p % 32768)+p * 32768 * (X / p / 32768):=by
     conv=>lhs;rw[<-h4]
     rw[Int.mul_add,Int.mul_assoc]
    rw[Int.mul_comm (X / p % 32768)];omega
   rw[h8,Int.add_mul_ediv_right _ _ aH,Zqh h5 h6,Int.zero_add]
  rw[h2];omega
 ·rw[upd_ne _ _ e]
  conv=>lhs;rw[<-h1]
  rw[show (65536:Int) ^ 15 * 32768 * (X / (65536 ^ 15 * 32768))=32768 * (X / (65536 ^ 15 * 32768)) * 65536 ^ 15 by
   generalize X / (65536 ^ 15 * 32768)=q
   rw[Int.mul_assoc,Int.mul_comm],wG aM _ _ _ _ aH]
theorem XZ (X:Int):0<=X % 2 ^ 255/\X % 2 ^ 255<65536 ^ 16:=by
 have h:=Gj X (show (0:Int)<2 ^ 255 by decide);exact⟨Bu _ aM,Int.lt_trans h aM⟩
def dw (f g:Nat->Int):Nat->Int:=oZ (fun i=>f i+g i)
def fG (f g:Nat->Int):Nat->Int:=oZ (fun i=>f i - g i)
def tJ (f:Nat->Int):Nat->Int:=fG (fun _=>0) f
def Ta (f g:Nat->Int) (t:Nat->Int) (i:Nat):Nat->Nat->Int
 | 0=>t
 | j+1=>upd (Ta f g t i j) (i+j) (Ta f g t i j (i+j)+f i * g j)
def Mx (f g:Nat->Int):Nat->Nat->Int
 | 0=>fun _=>0
 | i+1=>Ta f g (Mx f g i) i 16
def aS (f g:Nat->Int):Nat->Int:=oZ (oZ (fun i=>if i<15 then Mx f g 16 i+38 * Mx f g 16 (16+i) else Mx f g 16 i))
def sN (n:Int):Int:=if 0<=n/\n<65536 then n else 0
def aV (n:Int):Nat->Int:=if 0<=n/\n<65536 then upd (fun _=>0) 0 n else fun _=>0
theorem Fe.dw {f g:Nat->Int} {X Y:Int} (hf:Fe f X) (hg:Fe g Y):Fe (dw f g) (X+Y):=hf.add hg
theorem Fe.fG {f g:Nat->Int} {X Y:Int} (hf:Fe f X) (hg:Fe g Y):Fe (fG f g) (X - Y):=hf.sub hg
theorem IE:Fe (fun _=>0) 0:=⟨⟨fun _ _ _=>by simp,by decide,by decide⟩,by rw[sO]⟩
theorem Fe.tJ {f:Nat->Int} {X:Int} (hf:Fe f X):Fe (tJ f) (-X):=by
 have:=IE.sub hf
 rwa [Int.zero_sub] at this
theorem FB {f g:Nat->Int} (hf:ER f) (hg:ER g) {t:Nat->Int} {i:Nat} (hi:i<16) (h:jW t f g i 0):∀j,j<=16->jW (Ta f g t i j) f g i j:=by
 intro j
 induction j with
 | zero=>intro _;exact h
 | succ j ih=>intro hj;exact(ih aH).step hi aH hf hg
theorem zC {f g:Nat->Int} (hf:ER f) (hg:ER g):∀i,i<=16->jW (Mx f g i) f g i 0:=by
 intro i
 induction i with
 | zero=>intro _;exact jW.zero f g
 | succ i ih=>intro hi;exact(FB hf hg aH (ih aH) 16 (bH _)).row
theorem Fe.aS {f g:Nat->Int} {X Y:Int} (hf:Fe f X) (hg:Fe g Y):Fe (aS f g) (X * Y):=Fe.mul (zC hf.1 hg.1 16 (bH _)) hf hg
theorem Zh {n:Int} (h0:0<=n) (h1:n<65536):Fe (upd (fun _=>0) 0 n) n:=by
 refine⟨⟨fun i _ h=>by rw[upd_ne _ _ aH];simp,by rw[mE];omega,by rw[mE];omega⟩,?_⟩;rw[uF,sO];simp
theorem oD (n:Int):Fe (aV n) (sN n):=by
 unfold aV sN;by_cases h:0<=n/\n<65536
 ·rw[if_pos h,if_pos h];exact Zh h.1 h.2
 ·rw[if_neg h,if_neg h];exact IE
theorem OC {l:Int} (h0:1<=l) (h1:l<=255):∀i,i<32->upd (upd (fun _=>255) 0 (256 - l)) 31 127 i=dg 256 (2 ^ 255 - l) i:=by
 have hb:∀i,i<32->0<=upd (upd (fun _=>255) 0 (256 - l)) 31 127 i/\upd (upd (fun _=>255) 0 (256 - l)) 31 127 i<256:=by
  intro i _;unfold upd
  split
  ·omega
  ·split
   ·omega
   ·show (0:Int)<=255/\(255:Int)<256;decide
 have hs:sm 256 (upd (upd (fun _=>255) 0 (256 - l)) 31 127) 32=2 ^ 255 - l:=by
  rw[uF,uF,if_pos aM,if_pos aM,upd_ne _ _ aM];rw[show sm 256 (fun _=>255) 32=2 ^ 256 - 1 by decide];rw[show (256:Int) ^ 31=2 ^ 248 by decide];omega
 intro i hi;rw[<-hs,Af aM hb i hi]
theorem Pj (X:Int) (i:Nat):dg 256 (X / 2) i=dg 256 X i / 2+dg 256 X (i+1) % 2 * 128:=by
 unfold dg;rw[jU aM X i,Int.ediv_ediv_of_nonneg aM,Int.mul_comm 2,←Int.ediv_ediv_of_nonneg (EM (iH aM _))];omega
def Ju (f:Nat->Int) (N:Int):Nat->Nat->Int
 | 0=>aV 1
 | k+1=>if N / 2 ^ (255 - k) % 2=1 then aS (aS (Ju f N k) (Ju f N k)) f else aS (Ju f N k) (Ju f N k)
theorem pow_even (X:Int) {a m:Nat} (h:a=2 * m):X ^ a=X ^ m * X ^ m:=by rw[h,←Int.pow_add];congr 1;omega
theorem Fe.Ju {f:Nat->Int} {X N:Int} (hf:Fe f X) (h0:0<=N) (h1:N<2 ^ 256):∀k,k<=256->Fe (Ju f N k) (X ^ (N / 2 ^ (256 - k)).toNat):=by
 intro k
 induction k with
 | zero=>
  intro _;rw[Nat.sub_zero,Zqh h0 h1,show (0:Int).toNat=0 from rfl,Int.pow_zero];have h:=oD 1
  rwa [show sN 1=1 by decide] at h
 | succ k ih=>
  intro hk;have h:=ih aH;have hh:=half N (255 - k);rw[show 255 - k+1=256 - k by omega] at hh;have hm:0<=N / 2 ^ (256 - k):=Int.ediv_nonneg h0 (EM (iH aM _));rw[show 256 - (k+1)=255 - k by omega];unfold Go.bI.Ju;by_cases e:N / 2 ^ (255 - k) % 2=1
  ·rw[if_pos e];rw[e] at hh;rw[show (N / 2 ^ (255 - k)).toNat=2 * (N / 2 ^ (256 - k)).toNat+1 by omega,Int.pow_succ,pow_even X rfl];exact(h.aS h).aS hf
  ·rw[if_neg e];rw[pow_even X (show (N / 2 ^ (255 - k)).toNat=2 * (N / 2 ^ (256 - k)).toNat by omega)];exact h.aS h
def Hw (f:Nat->Int) (N:Int):Nat->Int:=Go.bI.Ju f N 256
theorem Fe.Hw {f:Nat->Int} {X N:Int} (hf:Fe f X) (h0:0<=N) (h1:N<2 ^ 256):Fe (Hw f N) (X ^ N.toNat):=by
 have h:=hf.Ju h0 h1 256 (bH _)
 rwa [Nat.sub_self,Int.pow_zero,Int.ediv_one] at h
theorem oU:Pr=(PN:Int):=by decide
theorem nC (X:Int) (n:Nat):X ^ n % Pr=(X % Pr) ^ n % Pr:=by
 induction n with
 | zero=>rw[Int.pow_zero,Int.pow_zero]
 | succ n ih=>rw[Int.pow_succ,Int.pow_succ,Int.mul_emod,ih,Int.mul_emod ((X % Pr) ^ n),Int.emod_emod_of_dvd _ (Int.dvd_refl Pr)]
theorem pQ (x n:Nat):((x:Int) ^ n) % Pr=((x ^ n % PN:Nat):Int):=by rw[oU,Int.natCast_emod,Int.natCast_pow]
theorem Cq (X:Int):∃x:Nat,X % Pr=(x:Int)/\x<PN/\(X % Pr≠0->¬ PN ∣ x):=by
 have h0:0<=X % Pr:=Bu _ aM;have h1:X % Pr<Pr:=Gj _ aM;refine⟨(X % Pr).toNat,by omega,by rw[oU] at *;omega,fun gW hd=>?_⟩;have hlt:(X % Pr).toNat<PN:=by rw[oU] at *;omega
 have:=Nat.eq_zero_of_dvd_of_lt hd hlt;omega
theorem zq {X:Int} (h:X % Pr≠0):X ^ (PN - 1) % Pr=1:=by
 obtain⟨x,hx,hlt,hd⟩:=Cq X;rw[nC,hx,pQ,KI.IC (hd h)]
 rfl
theorem tL {X Y:Int} (h:X * Y % Pr=0):X % Pr=0\/Y % Pr=0:=by
 obtain⟨x,hx,hlt,hd⟩:=Cq X;obtain⟨y,hy,hlt2,hd2⟩:=Cq Y;have h1:PN ∣ x * y:=by
  rw[Int.mul_emod,hx,hy,oU,←Int.natCast_mul,←Int.natCast_emod] at h;exact Nat.dvd_of_mod_eq_zero aH
 rcases KI.dvd_mul h1 with h2 | h2
 ·left
  by_cases e:X % Pr=0
  ·exact e
  ·exact absurd h2 (hd e)
 ·right
  by_cases e:Y % Pr=0
  ·exact e
  ·exact absurd h2 (hd2 e)
theorem pI {A B:Int} (h:(A - B) % Pr=0):A % Pr=B % Pr:=by
 have h1:=EN (A - B) Pr;rw[h] at h1;exact ow (c:=(A - B) / Pr) aH
theorem zero_of_eq {A B:Int} (h:A % Pr=B % Pr):(A - B) % Pr=0:=by
 rw[Int.sub_emod,h,Int.sub_self];rfl
theorem agk {X:Int} (h:X % Pr≠0):X ^ (PN - 2) * X % Pr=1:=by
 rw[<-Int.pow_succ,show (PN - 2).succ=PN - 1 by decide];exact zq h
theorem inv_zero {X:Int} (h:X % Pr=0):X ^ (PN - 2) % Pr=0:=by
 rw[nC,h,Int.zero_pow aM];rfl
theorem WC:(2:Int) ^ ((PN - 1) / 2) % Pr=Pr - 1:=by
 have h:=pQ 2 ((PN - 1) / 2);have h2:2 ^ ((PN - 1) / 2) % PN=PN - 1:=by
  have h3:=oq PN 256 2 ((PN - 1) / 2) 1 aM;rw[Nat.one_mul] at h3;rw[<-h3]
  decide+kernel
 rw[h2] at h;rw[show ((2:Nat):Int)=2 from rfl] at h;rw[h,oU]
 decide
def Ep (X:Int):Int:=X ^ ((PN - 1) / 2)
def kE (X:Int):Int:=X ^ ((PN+3) / 8)
def wK:Int:=2 ^ ((PN - 1) / 4)
def wD (X:Int):Bool:=decide (X % Pr=0) || decide (Ep X % Pr=1)
theorem KL (X:Int) (a b:Nat) (h:b=a+a):X ^ b=X ^ a * X ^ a:=by rw[h,Int.pow_add]
theorem Yv:wK * wK % Pr=Pr - 1:=by
 have h:=WC;rw[KL 2 ((PN - 1) / 4) ((PN - 1) / 2) aM] at h;exact h
theorem OH {A B C:Int} (h:A % Pr=B % Pr):A * C % Pr=B * C % Pr:=by rw[Int.mul_emod,h,←Int.mul_emod]
theorem Lj {A B C:Int} (h:A % Pr=B % Pr):C * A % Pr=C * B % Pr:=by rw[Int.mul_emod,h,←Int.mul_emod]
theorem abI (X:Int):kE X * kE X * (kE X * kE X)=X * X * Ep X:=by
 have e1:kE X * kE X=X ^ ((PN+3) / 8+(PN+3) / 8):=by unfold kE;rw[Int.pow_add]
 have e2:X * X * Ep X=X ^ (2+(PN - 1) / 2):=by
  unfold Ep;rw[Int.pow_add,Int.pow_succ,Int.pow_succ,Int.pow_zero,Int.one_mul]
 rw[e1,e2,←Int.pow_add]
 congr 1
theorem Co {X:Int} (h:wD X=true):kE X * kE X % Pr=X % Pr\/kE X * wK * (kE X * wK) % Pr=X % Pr:=by
 unfold wD at h;rw[kZ,decide_eq_true_eq,decide_eq_true_eq] at h;rcases h with h | h
 ·left
  have h1:kE X % Pr=0:=by unfold kE;rw[nC,h,Int.zero_pow aM];rfl
  rw[Int.mul_emod,h1,h];rfl
 ·have h4:=abI X
  generalize kE X=R at *
  have h5:(R * R * (R * R)) % Pr=(X * X) % Pr:=by
   rw[h4,Int.mul_emod,h,Int.mul_one,Int.emod_emod_of_dvd _ (Int.dvd_refl Pr)]
  have h6:((R * R - X) * (R * R+X)) % Pr=0:=by
   rw[show (R * R - X) * (R * R+X)=R * R * (R * R) - X * X by grind];exact zero_of_eq h5
  rcases tL h6 with h7 | h7
  ·exact .inl (pI h7)
  ·right
   have h8:(R * R) % Pr=(-X) % Pr:=pI (by rw[show R * R - -X=R * R+X by omega];exact h7);have h9:wK * wK % Pr=(-1) % Pr:=Yv.trans aM;rw[show R * wK * (R * wK)=R * R * (wK * wK) by grind,OH h8,Lj h9,show -X * -1=X by omega]
theorem abH {X:Int} (h:wD X=false) (R:Int):¬ R * R % Pr=X % Pr:=by
 intro hR;unfold wD at h;rw[Bool.or_eq_false_iff,decide_eq_false_iff_not,decide_eq_false_iff_not] at h;have hR0:R % Pr≠0:=by
  intro h0
  apply h.1
  rw[<-hR,Int.mul_emod,h0];rfl
 apply h.2
 unfold Ep;rw[nC,←hR,←nC];have e:(R * R) ^ ((PN - 1) / 2)=R ^ (PN - 1):=by
  rw[show R * R=R ^ 2 by rw[Int.pow_succ,Int.pow_succ,Int.pow_zero,Int.one_mul],←Int.pow_mul]
  congr 1
 rw[e];exact zq hR0
theorem Bc {X R:Int} (h:R * R % Pr=X % Pr):wD X=true:=by
 cases hs:wD X with
 | true=>rfl
 | false=>exact absurd h (abH hs R)
theorem Lh {R:Int} (h:R % Pr % 2=1): -R % Pr % 2=0:=by
 have h0:0<=R % Pr:=Bu _ aM;have h1:R % Pr<Pr:=Gj _ aM;have Ay:Pr % 2=1:=by decide
 have e: -R % Pr=Pr - R % Pr:=by
  have h2:=EN R Pr;rw[show -R=Pr - R % Pr+Pr * (-(R / Pr) - 1) by rw[Int.mul_sub,Int.mul_neg];omega,Int.add_mul_emod_self_left];exact Nb aH aH
 rw[e];omega
theorem Fa {R X:Int} (h:R * R % Pr=X * X % Pr):R % Pr=X % Pr\/R % Pr= -X % Pr:=by
 have h6:((R - X) * (R+X)) % Pr=0:=by
  rw[show (R - X) * (R+X)=R * R - X * X by grind];exact zero_of_eq h
 rcases tL h6 with h7 | h7
 ·exact .inl (pI h7)
 ·exact .inr (pI (by rw[show R - -X=R+X by omega];exact h7))
def dX (x z:Int):Int:=(x+z) * (x+z) * ((x - z) * (x - z))
def dZ (x z:Int):Int:=((x+z) * (x+z) - (x - z) * (x - z)) * ((x+z) * (x+z)+121665 * ((x+z) * (x+z) - (x - z) * (x - z)))
def sX (a b c d:Int):Int:=((c - d) * (a+b)+(c+d) * (a - b)) * ((c - d) * (a+b)+(c+d) * (a - b))
def sZ (u a b c d:Int):Int:=u * (((c - d) * (a+b) - (c+d) * (a - b)) * ((c - d) * (a+b) - (c+d) * (a - b)))
theorem abE (a b c d:Int):sX c d a b=sX a b c d:=by unfold sX;grind
theorem abD (u a b c d:Int):sZ u c d a b=sZ u a b c d:=by unfold sZ;grind
structure Two where
 a:Int
 b:Int
 c:Int
 d:Int
def Two.turn (s:Two):Two:=⟨s.c,s.d,s.a,s.b⟩
def Two.rung (u:Int) (bit:Int) (s:Two):Two:=
 if bit=1 then ⟨sX s.a s.b s.c s.d,sZ u s.a s.b s.c s.d,dX s.c s.d,dZ s.c s.d⟩ else ⟨dX s.a s.b,dZ s.a s.b,sX s.a s.b s.c s.d,sZ u s.a s.b s.c s.d⟩
def uZ (n u:Int):Nat->Two
 | 0=>⟨1,0,u,1⟩
 | k+1=>(uZ n u k).rung u (n / 2 ^ (254 - k) % 2)
def Two.flip (q:Bool) (s:Two):Two:=if q then s.turn else s
theorem Two.SQ (u:Int) (b:Int) (hb:b=0\/b=1) (s:Two):⟨dX (s.flip (b==1)).a (s.flip (b==1)).b,dZ (s.flip (b==1)).a (s.flip (b==1)).b,sX (s.flip (b==1)).a (s.flip (b==1)).b (s.flip (b==1)).c (s.flip (b==1)).d,sZ u (s.flip (b==1)).a (s.flip (b==1)).b (s.flip (b==1)).c (s.flip (b==1)).d⟩=((s.rung u b).flip (b==1)):=by
 rcases hb with rfl | rfl
 ·rfl
 ·show (⟨dX s.c s.d,dZ s.c s.d,sX s.c s.d s.a s.b,sZ u s.c s.d s.a s.b⟩:Two)=⟨dX s.c s.d,dZ s.c s.d,sX s.a s.b s.c s.d,sZ u s.a s.b s.c s.d⟩;rw[abE,abD]
def jI (n u:Int):Int:=(uZ n u 255).a * (uZ n u 255).b ^ (PN - 2)
def fq (s:Int):Int:=s % 2 ^ 254 / 8 * 8+2 ^ 254
def Cg (X Y:Int):Prop:=X % Pr=Y % Pr
theorem Cg.refl (X:Int):Cg X X:=rfl
theorem Cg.symm {X Y:Int} (h:Cg X Y):Cg Y X:=Eq.symm h
theorem Cg.trans {X Y Z:Int} (h:Cg X Y) (h':Cg Y Z):Cg X Z:=Eq.trans h h'
theorem Cg.add {X Y X' Y':Int} (h:Cg X Y) (h':Cg X' Y'):Cg (X+X') (Y+Y'):=by
 unfold Cg at *;rw[Int.add_emod,h,h',←Int.add_emod]
theorem Cg.sub {X Y X' Y':Int} (h:Cg X Y) (h':Cg X' Y'):Cg (X - X') (Y - Y'):=by
 unfold Cg at *;rw[Int.sub_emod,h,h',←Int.sub_emod]
theorem Cg.mul {X Y X' Y':Int} (h:Cg X Y) (h':Cg X' Y'):Cg (X * X') (Y * Y'):=by
 unfold Cg at *;rw[Int.mul_emod,h,h',←Int.mul_emod]
theorem Cg.pow {X Y:Int} (h:Cg X Y):∀n:Nat,Cg (X ^ n) (Y ^ n)
 | 0=>by rw[Int.pow_zero,Int.pow_zero];exact Cg.refl 1
 | n+1=>by rw[Int.pow_succ,Int.pow_succ];exact(Cg.pow h n).mul h
theorem Cg.mod (X:Int):Cg (X % Pr) X:=Int.emod_emod_of_dvd _ (Int.dvd_refl Pr)
theorem Cg.dX {x z x' z':Int} (h:Cg x x') (h':Cg z z'):Cg (dX x z) (dX x' z'):=((h.add h').mul (h.add h')).mul ((h.sub h').mul (h.sub h'))
theorem Cg.dZ {x z x' z':Int} (h:Cg x x') (h':Cg z z'):Cg (dZ x z) (dZ x' z'):=
 have e:=((h.add h').mul (h.add h')).sub ((h.sub h').mul (h.sub h'))
 e.mul (((h.add h').mul (h.add h')).add ((Cg.refl 121665).mul e))
theorem Cg.sX {a b c d a' b' c' d':Int} (ha:Cg a a') (hb:Cg b b') (hc:Cg c c') (hd:Cg d d'):Cg (sX a b c d) (sX a' b' c' d'):=
 have e:=((hc.sub hd).mul (ha.add hb)).add ((hc.add hd).mul (ha.sub hb))
 e.mul e
theorem Cg.sZ {u u' a b c d a' b' c' d':Int} (hu:Cg u u') (ha:Cg a a') (hb:Cg b b') (hc:Cg c c') (hd:Cg d d'):Cg (sZ u a b c d) (sZ u' a' b' c' d'):=
 have e:=((hc.sub hd).mul (ha.add hb)).sub ((hc.add hd).mul (ha.sub hb))
 hu.mul (e.mul e)
def Two.Cg (s t:Two):Prop:=bI.Cg s.a t.a/\bI.Cg s.b t.b/\bI.Cg s.c t.c/\bI.Cg s.d t.d
theorem Two.Cg.rung {u u':Int} {s t:Two} (hu:bI.Cg u u') (h:s.Cg t) (b:Int):(s.rung u b).Cg (t.rung u' b):=by
 obtain⟨ha,hb,hc,hd⟩:=h;unfold Two.rung
 split
 ·exact⟨ha.sX hb hc hd,hu.sZ ha hb hc hd,hc.dX hd,hc.dZ hd⟩
 ·exact⟨ha.dX hb,ha.dZ hb,ha.sX hb hc hd,hu.sZ ha hb hc hd⟩
theorem Yp {n u u':Int} (hu:Cg u u'):∀k,(uZ n u k).Cg (uZ n u' k)
 | 0=>⟨rfl,rfl,hu,rfl⟩
 | k+1=>(Yp hu k).rung hu _
def nA (x y:Nat):Nat:=(x+y) % PN
def nS (x y:Nat):Nat:=(x+(PN - y)) % PN
def nM (x y:Nat):Nat:=x * y % PN
def kI (n:Nat) (X:Int):Prop:=n<PN/\Cg (n:Int) X
theorem Qn:0<PN:=by decide
theorem Dn (n:Nat):Cg ((n % PN:Nat):Int) (n:Int):=by rw[Int.natCast_emod,←oU];exact Cg.mod _
theorem kI.add {m n:Nat} {X Y:Int} (h:kI m X) (h':kI n Y):kI (nA m n) (X+Y):=
 ⟨Nat.mod_lt _ Qn,(Dn _).trans (by rw[Int.natCast_add];exact h.2.add h'.2)⟩
theorem kI.mul {m n:Nat} {X Y:Int} (h:kI m X) (h':kI n Y):kI (nM m n) (X * Y):=
 ⟨Nat.mod_lt _ Qn,(Dn _).trans (by rw[Int.natCast_mul];exact h.2.mul h'.2)⟩
theorem kI.sub {m n:Nat} {X Y:Int} (h:kI m X) (h':kI n Y):kI (nS m n) (X - Y):=by
 refine⟨Nat.mod_lt _ Qn,(Dn _).trans (Cg.trans (Y:=(m:Int) - (n:Int)) ?_ (h.2.sub h'.2))⟩;have e:((m+(PN - n):Nat):Int)=(m:Int) - (n:Int)+Pr * 1:=by rw[oU];have:=h'.1;omega
 unfold Cg;rw[e,Int.add_mul_emod_self_left]
theorem Yu {X:Int} (Y:Int) (h:X % Pr≠0):Cg ((Y * X) * X ^ (PN - 2)) Y:=by
 have h1:=agk h;have e:(Y * X) * X ^ (PN - 2)=Y * (X ^ (PN - 2) * X):=by
  generalize X ^ (PN - 2)=I
  grind
 unfold Cg;rw[e,Int.mul_emod,h1,Int.mul_one,Int.emod_emod_of_dvd _ (Int.dvd_refl Pr)]
instance asb:NeZero PN:=⟨by decide⟩
abbrev Fp:Type:=Fin PN
def toF (X:Int):Fp:=⟨(X % Pr).toNat,by have h:=Gj X Jo;have h0:=Bu X (show Pr≠0 by decide);rw[oU] at *;omega⟩
theorem jh (X:Int):(((toF X).val:Nat):Int)=X % Pr:=by
 show (((X % Pr).toNat:Nat):Int)=X % Pr;exact Int.toNat_of_nonneg (Bu X aM)
theorem uz {x y:Fp} (h:((x.val:Nat):Int)=((y.val:Nat):Int)):x=y:=Fin.ext aH
theorem gY {X Y:Int}:toF X=toF Y ↔ Cg X Y:=by
 constructor
 ·intro h;unfold Cg;rw[<-jh,←jh,h]
 ·intro h;exact uz (by rw[jh,jh];exact h)
theorem Gw (x:Fp):toF ((x.val:Nat):Int)=x:=uz (by rw[jh,oU,←Int.natCast_emod,Nat.mod_eq_of_lt x.isLt])
theorem gq (X Y:Int):toF (X+Y)=toF X+toF Y:=by
 refine uz ?_;rw[jh,Fin.val_add,Int.natCast_emod,Int.natCast_add,jh,jh,←oU,←Int.add_emod]
theorem dK (X Y:Int):toF (X * Y)=toF X * toF Y:=by
 refine uz ?_;rw[jh,Fin.val_mul,Int.natCast_emod,Int.natCast_mul,jh,jh,←oU,←Int.mul_emod]
theorem jw:toF 0=0:=uz (by rw[jh];rfl)
theorem dP:toF 1=1:=uz (by rw[jh];decide)
theorem lu (X Y:Int):toF (X - Y)=toF X - toF Y:=by
 have h:toF (X - Y)+toF Y=toF X:=by rw[<-gq];congr 1;omega
 grind
theorem pG (X:Int):toF (-X)= -toF X:=by
 have h:toF (-X)+toF X=0:=by rw[<-gq,←jw];congr 1;omega
 grind
theorem jM {X:Int}:toF X≠0 ↔ X % Pr≠0:=by
 rw[<-jw,Ne,gY];exact Iff.rfl
theorem fM:(1:Fp)≠0:=by rw[<-dP];exact jM.2 aM
theorem iO:(2:Fp)≠0:=by
 have:(2:Fp)=toF 2:=by rw[show (2:Int)=1+1 from rfl,gq,dP];rfl
 rw[this];exact jM.2 aM
theorem nK {x:Fp} (h:x≠0):∃y:Fp,x * y=1:=by
 obtain⟨X,rfl⟩:∃X,x=toF X:=⟨_,(Gw x).symm⟩
 refine⟨toF (X ^ (PN - 2)),?_⟩;have h1:=Yu 1 (jM.1 h);rw[Int.one_mul] at h1;rw[<-dK,←dP];exact gY.2 h1
theorem jr {x y:Fp} (h:x * y=0):x=0\/y=0:=by
 by_cases hx:x=0
 ·exact .inl hx
 ·obtain⟨z,hz⟩:=nK hx
  right
  grind
theorem bE {x y:Fp} (hx:x≠0) (hy:y≠0):x * y≠0:=fun h=>(jr h).elim hx hy
theorem iC {x y z:Fp} (hz:z≠0) (h:x * z=y * z):x=y:=by
 obtain⟨w,hw⟩:=nK hz
 grind
noncomputable def inv (x:Fp):Fp:=open Classical in if h:∃y:Fp,x * y=1 then Classical.choose h else 0
theorem inv_mul {x:Fp} (h:x≠0):x * inv x=1:=by
 unfold inv;rw[dif_pos (nK h)];exact Classical.choose_spec (nK h)
theorem xU:inv 0=0:=by
 unfold inv;rw[dif_neg];rintro⟨y,hy⟩;exact fM (by grind)
theorem Yt {x y:Fp} (h:x * y=1):y=inv x:=by
 have hx:x≠0:=by intro e;subst e;exact fM (by grind)
 have:=inv_mul hx
 grind
theorem wX (X:Int):toF (X ^ (PN - 2))=inv (toF X):=by
 by_cases h:X % Pr=0
 ·have h1:toF X=0:=by rw[<-jw];exact gY.2 h
  rw[h1,xU,←jw];exact gY.2 (show X ^ (PN - 2) % Pr=0 % Pr by rw[inv_zero h];rfl)
 ·refine Yt ?_;have h1:=Yu 1 h;rw[Int.one_mul] at h1;rw[<-dK,←dP];exact gY.2 h1
def iE:Fp:=toF wK
theorem Ro:iE * iE= -1:=by
 unfold iE;rw[<-dK,←dP,←pG];exact gY.2 (show wK * wK % Pr= -1 % Pr by rw[Yv];decide)
structure NS where
 d:Fp
 no:∀r:Fp,r * r≠d
structure Ed (E:NS) where
 x:Fp
 y:Fp
 on:y ^ 2 - x ^ 2=1+E.d * x ^ 2 * y ^ 2
section
variable {E : NS}
theorem Ed.ext {p q:Ed E} (h1:p.x=q.x) (h2:p.y=q.y):p=q:=by cases p;cases q;simp_all
theorem Zx {x1 y1 x2 y2 d i e:Fp} (hd:∀r:Fp,r * r≠d) (hi:i * i= -1) (h1:y1 ^ 2 - x1 ^ 2=1+d * x1 ^ 2 * y1 ^ 2) (h2:y2 ^ 2 - x2 ^ 2=1+d * x2 ^ 2 * y2 ^ 2) (he:e * e=1):d * (x1 * x2 * (y1 * y2))≠e:=by
 intro hm;have he0:e≠0:=by intro h;exact fM (by grind)
 have hx1:x1≠0:=by intro h;exact he0 (by grind)
 have hy1:y1≠0:=by intro h;exact he0 (by grind)
 have hy2:y2≠0:=by intro h;exact he0 (by grind)
 have key:∀s t:Fp,t * t=d * (s * s)->s≠0->False:=by
  intro s t h hs;obtain⟨w,hw⟩:=nK hs;exact hd (t * w) (by grind)
 have a1:(i * x1+e * y1) * (i * x1+e * y1)=d * ((x1 * y1 * (i * x2+y2)) * (x1 * y1 * (i * x2+y2))):=by grind
 have a2:(i * x1 - e * y1) * (i * x1 - e * y1)=d * ((x1 * y1 * (i * x2 - y2)) * (x1 * y1 * (i * x2 - y2))):=by grind
 by_cases hs:i * x2+y2=0
 ·refine key _ _ a2 (bE (bE hx1 hy1) ?_);intro ht;have h2y:2 * y2=0:=by grind
  rcases jr h2y with h | h
  ·exact iO h
  ·exact hy2 h
 ·exact key _ _ a1 (bE (bE hx1 hy1) hs)
theorem Ed.kg (p q:Ed E):1+E.d * (p.x * q.x * (p.y * q.y))≠0:=by
 intro h;exact Zx E.no Ro p.on q.on (e:= -1) (by grind) (by grind)
theorem Ed.iX (p q:Ed E):1 - E.d * (p.x * q.x * (p.y * q.y))≠0:=by
 intro h;exact Zx E.no Ro p.on q.on (e:=1) (by grind) (by grind)
theorem Uv {x1 y1 x2 y2 d:Fp} (h1:y1 ^ 2 - x1 ^ 2=1+d * x1 ^ 2 * y1 ^ 2) (h2:y2 ^ 2 - x2 ^ 2=1+d * x2 ^ 2 * y2 ^ 2):
  ((y1 * y2+x1 * x2) * (1+d * (x1 * x2 * (y1 * y2)))) ^ 2 - ((x1 * y2+x2 * y1) * (1 - d * (x1 * x2 * (y1 * y2)))) ^ 2=((1+d * (x1 * x2 * (y1 * y2))) * (1 - d * (x1 * x2 * (y1 * y2)))) ^ 2+d * ((x1 * y2+x2 * y1) * (y1 * y2+x1 * x2)) ^ 2:=by
 grind
theorem adh {A B C D u v d:Fp} (hv:B * v=1) (hu:D * u=1) (h:(C * B) ^ 2 - (A * D) ^ 2=(B * D) ^ 2+d * (A * C) ^ 2):(C * u) ^ 2 - (A * v) ^ 2=1+d * (A * v) ^ 2 * (C * u) ^ 2:=by
 have h':((C * B) ^ 2 - (A * D) ^ 2) * (u * v) ^ 2=((B * D) ^ 2+d * (A * C) ^ 2) * (u * v) ^ 2:=by rw[h]
 grind
noncomputable def Ed.add (p q:Ed E):Ed E where
 x:=(p.x * q.y+q.x * p.y) * inv (1+E.d * (p.x * q.x * (p.y * q.y)))
 y:=(p.y * q.y+p.x * q.x) * inv (1 - E.d * (p.x * q.x * (p.y * q.y)))
 on:=adh (inv_mul (p.kg q)) (inv_mul (p.iX q)) (Uv p.on q.on)
theorem Ed.nE (p q:Ed E):(p.add q).x * (1+E.d * (p.x * q.x * (p.y * q.y)))=p.x * q.y+q.x * p.y:=by
 have h:=inv_mul (p.kg q);show (p.x * q.y+q.x * p.y) * inv (1+E.d * (p.x * q.x * (p.y * q.y))) * (1+E.d * (p.x * q.x * (p.y * q.y)))= _
 grind
theorem Ed.kY (p q:Ed E):(p.add q).y * (1 - E.d * (p.x * q.x * (p.y * q.y)))=p.y * q.y+p.x * q.x:=by
 have h:=inv_mul (p.iX q);show (p.y * q.y+p.x * q.x) * inv (1 - E.d * (p.x * q.x * (p.y * q.y))) * (1 - E.d * (p.x * q.x * (p.y * q.y)))= _
 grind
theorem Ed.add_comm (p q:Ed E):p.add q=q.add p:=by
 apply Ed.ext
 ·refine iC (p.kg q) ?_;rw[Ed.nE];have h:=q.nE p;rw[show q.x * p.x * (q.y * p.y)=p.x * q.x * (p.y * q.y) by grind] at h;rw[h];grind
 ·refine iC (p.iX q) ?_;rw[Ed.kY];have h:=q.kY p;rw[show q.x * p.x * (q.y * p.y)=p.x * q.x * (p.y * q.y) by grind] at h;rw[h];grind
def Ed.zero:Ed E:=⟨0,1,by grind⟩
theorem Ed.add_zero (p:Ed E):p.add .zero=p:=by
 have h1:(p.add .zero).x * (1+E.d * (p.x * 0 * (p.y * 1)))=p.x * 1+0 * p.y:=p.nE .zero;have h2:(p.add .zero).y * (1 - E.d * (p.x * 0 * (p.y * 1)))=p.y * 1+p.x * 0:=p.kY .zero
 apply Ed.ext
 ·generalize (p.add .zero).x=s at *
  grind
 ·generalize (p.add .zero).y=s at *
  grind
theorem Ed.zero_add (p:Ed E):(Ed.zero:Ed E).add p=p:=by rw[Ed.add_comm,Ed.add_zero]
def Ed.neg (p:Ed E):Ed E:=⟨-p.x,p.y,by have:=p.on;grind⟩
theorem Ed.add_neg (p:Ed E):p.add p.neg=.zero:=by
 have h1:=p.nE p.neg;have h2:=p.kY p.neg;have ho:=p.on;have n1:=p.kg p.neg;have n2:=p.iX p.neg;simp only[Ed.neg] at h1 h2 n1 n2
 apply Ed.ext
 ·refine iC n1 ?_;have e1:(p.add p.neg).x * (1+E.d * (p.x * -p.x * (p.y * p.y)))=0:=by rw[show (p.add p.neg).x=(p.add ⟨-p.x,p.y,p.neg.on⟩).x from rfl,h1];grind
  rw[e1];show (0:Fp)=0 * _;grind
 ·refine iC n2 ?_;have e2:(p.add p.neg).y * (1 - E.d * (p.x * -p.x * (p.y * p.y)))=p.y * p.y+p.x * -p.x:=by rw[show (p.add p.neg).y=(p.add ⟨-p.x,p.y,p.neg.on⟩).y from rfl,h2]
  rw[e2];show _=(1:Fp) * _;grind
theorem Jf {x1 y1 x2 y2 x3 y3 d:Fp} (h1:y1 ^ 2 - x1 ^ 2=1+d * x1 ^ 2 * y1 ^ 2) (h2:y2 ^ 2 - x2 ^ 2=1+d * x2 ^ 2 * y2 ^ 2) (h3:y3 ^ 2 - x3 ^ 2=1+d * x3 ^ 2 * y3 ^ 2):
  ((x1*y2+x2*y1)*(1-d*(x1*x2*(y1*y2)))*y3+(1+d*(x1*x2*(y1*y2)))*(y1*y2+x1*x2)*x3) * ((1+d*(x2*x3*(y2*y3)))*(1-d*(x2*x3*(y2*y3)))+d*((x2*y3+x3*y2)*(y2*y3+x2*x3)*(x1*y1)))
  =((x2*y3+x3*y2)*(1-d*(x2*x3*(y2*y3)))*y1+(1+d*(x2*x3*(y2*y3)))*(y2*y3+x2*x3)*x1) * ((1+d*(x1*x2*(y1*y2)))*(1-d*(x1*x2*(y1*y2)))+d*((x1*y2+x2*y1)*(y1*y2+x1*x2)*(x3*y3))):=by
 grind
theorem Je {x1 y1 x2 y2 x3 y3 d:Fp} (h1:y1 ^ 2 - x1 ^ 2=1+d * x1 ^ 2 * y1 ^ 2) (h2:y2 ^ 2 - x2 ^ 2=1+d * x2 ^ 2 * y2 ^ 2) (h3:y3 ^ 2 - x3 ^ 2=1+d * x3 ^ 2 * y3 ^ 2):
  ((1+d*(x1*x2*(y1*y2)))*(y1*y2+x1*x2)*y3+(x1*y2+x2*y1)*(1-d*(x1*x2*(y1*y2)))*x3) * ((1+d*(x2*x3*(y2*y3)))*(1-d*(x2*x3*(y2*y3))) - d*((x2*y3+x3*y2)*(y2*y3+x2*x3)*(x1*y1)))
  =((1+d*(x2*x3*(y2*y3)))*(y2*y3+x2*x3)*y1+(x2*y3+x3*y2)*(1-d*(x2*x3*(y2*y3)))*x1) * ((1+d*(x1*x2*(y1*y2)))*(1-d*(x1*x2*(y1*y2))) - d*((x1*y2+x2*y1)*(y1*y2+x1*x2)*(x3*y3))):=by
 grind
theorem Za {a b A B C D x3 y3 d s:Fp} (ha:a * B=A) (hb:b * D=C) (hs:s * (1+d * (a * x3 * (b * y3)))=a * y3+x3 * b):s * (B * D+d * (A * C * (x3 * y3)))=A * D * y3+B * C * x3:=by
 subst ha;subst hb;have:s * (B * D+d * (a * B * (b * D) * (x3 * y3)))=s * (1+d * (a * x3 * (b * y3))) * (B * D):=by grind
 rw[this,hs];grind
theorem YZ {a b A B C D x3 y3 d s:Fp} (ha:a * B=A) (hb:b * D=C) (hs:s * (1 - d * (a * x3 * (b * y3)))=b * y3+a * x3):s * (B * D - d * (A * C * (x3 * y3)))=B * C * y3+A * D * x3:=by
 subst ha;subst hb;have:s * (B * D - d * (a * B * (b * D) * (x3 * y3)))=s * (1 - d * (a * x3 * (b * y3))) * (B * D):=by grind
 rw[this,hs];grind
theorem FT {a b A B C D x3 y3 d:Fp} (ha:a * B=A) (hb:b * D=C) (hB:B≠0) (hD:D≠0) (h:1+d * (a * x3 * (b * y3))≠0):B * D+d * (A * C * (x3 * y3))≠0:=by
 subst ha;subst hb;have:B * D+d * (a * B * (b * D) * (x3 * y3))=B * D * (1+d * (a * x3 * (b * y3))):=by grind
 rw[this];exact bE (bE hB hD) h
theorem FR {a b A B C D x3 y3 d:Fp} (ha:a * B=A) (hb:b * D=C) (hB:B≠0) (hD:D≠0) (h:1 - d * (a * x3 * (b * y3))≠0):B * D - d * (A * C * (x3 * y3))≠0:=by
 subst ha;subst hb;have:B * D - d * (a * B * (b * D) * (x3 * y3))=B * D * (1 - d * (a * x3 * (b * y3))):=by grind
 rw[this];exact bE (bE hB hD) h
theorem Mt {s t n1 d1 n2 d2:Fp} (hd1:d1≠0) (hd2:d2≠0) (h1:s * d1=n1) (h2:t * d2=n2) (h:n1 * d2=n2 * d1):s=t:=by
 refine iC (bE hd1 hd2) ?_
 grind
theorem Ed.add_assoc (p q r:Ed E):(p.add q).add r=p.add (q.add r):=by
 rw[Ed.add_comm p (q.add r)]
 apply Ed.ext
 ·exact Mt (FT (p.nE q) (p.kY q) (p.kg q) (p.iX q) ((p.add q).kg r)) (FT (q.nE r) (q.kY r) (q.kg r) (q.iX r) ((q.add r).kg p))
   (Za (p.nE q) (p.kY q) ((p.add q).nE r)) (Za (q.nE r) (q.kY r) ((q.add r).nE p)) (Jf p.on q.on r.on)
 ·exact Mt (FR (p.nE q) (p.kY q) (p.kg q) (p.iX q) ((p.add q).iX r)) (FR (q.nE r) (q.kY r) (q.kg r) (q.iX r) ((q.add r).iX p))
   (YZ (p.nE q) (p.kY q) ((p.add q).kY r)) (YZ (q.nE r) (q.kY r) ((q.add r).kY p)) (Je p.on q.on r.on)
noncomputable def Ed.mul (p:Ed E):Nat->Ed E
 | 0=>.zero
 | n+1=>(p.mul n).add p
theorem Ed.mul_one (p:Ed E):p.mul 1=p:=p.zero_add
theorem Ed.mul_add (p:Ed E) (m:Nat):∀n,p.mul (m+n)=(p.mul m).add (p.mul n)
 | 0=>(Ed.add_zero _).symm
 | n+1=>by rw[<-Nat.add_assoc,Ed.mul,Ed.mul_add p m n,Ed.add_assoc];rfl
theorem Ed.uL (p:Ed E) (m:Nat):∀n,p.mul (m * n)=(p.mul m).mul n
 | 0=>rfl
 | n+1=>by rw[Nat.mul_succ,Ed.mul_add,Ed.uL p m n];rfl
end
noncomputable def dE:Fp:= -(toF 121665 * inv (toF 121666))
theorem Kz {a b c:Fp} (h:b * c=1): -(a * c) * b= -a:=by grind
theorem RJ:dE * toF 121666= - toF 121665:=Kz (inv_mul (jM.2 aM))
theorem afy:nI PN 256 (PN - 121665 * 121666) ((PN - 1) / 2) 1 % PN≠1:=by decide+kernel
theorem acw:Cg (-(121665 * 121666)) ((PN - 121665 * 121666:Nat):Int):=by
 have h:((PN - 121665 * 121666:Nat):Int)=(PN:Int) - 121665 * 121666:=by
  have:121665 * 121666<=PN:=by decide
  omega
 unfold Cg;rw[h,←oU];exact ow (c:= -1) aH
theorem FK (R:Int):¬ Cg (R * R) (-(121665 * 121666)):=by
 intro h;have h1:=Bc (R:=R) (X:= -(121665 * 121666)) h;unfold wD at h1;simp only[kZ,decide_eq_true_eq] at h1;rcases h1 with h1 | h1
 ·exact absurd h1 (by decide+kernel)
 ·have h2:Ep (-(121665 * 121666)) % Pr=(((PN - 121665 * 121666:Nat):Int) ^ ((PN - 1) / 2)) % Pr:=acw.pow _;rw[h2,pQ] at h1;have h3:=oq PN 256 (PN - 121665 * 121666) ((PN - 1) / 2) 1 (by decide+kernel);rw[Nat.one_mul] at h3;have h4:=afy;rw[h3] at h4;omega
theorem aeB (r:Fp):r * r≠dE:=by
 intro h;obtain⟨R,rfl⟩:∃R,r=toF R:=⟨_,(Gw r).symm⟩
 have h0:=RJ;have key:∀a b r d:Fp,d * b= -a->r * r=d->(r * b) * (r * b)= -(a * b):=by intro a b r d h h';grind
 have h1:=key _ _ _ _ h0 h;rw[<-dK,←dK,←dK,←pG] at h1;exact FK (R * 121666) (gY.1 h1)
noncomputable def C7:NS:=⟨dE,aeB⟩
def Rel (s y X Z:Fp):Prop:=∃l:Fp,l≠0/\X=l * (1+y)/\Z=s * l * (1 - y)
structure Kind where
 E:NS
 s:Fp
 f:Fp
 hs:s * s=1
 h1:s=1->E.d * (1+f)= -f
 h2:s= -1->E.d * f= -(1+f)
 hk:s=1\/s= -1
 hf0:f≠0
 hf1:1+f≠0
section
variable {K : Kind}
theorem FW (p:Ed K.E):1+K.E.d * p.y ^ 2≠0:=by
 intro h;have ho:=p.on;have hy:p.y ^ 2=1:=by grind
 have hd:K.E.d= -1:=by grind
 exact K.E.no iE (by rw[Ro,hd])
theorem aez (p:Ed K.E):p.x ^ 2 * (1+K.E.d * p.y ^ 2)=p.y ^ 2 - 1:=by
 have ho:=p.on
 grind
theorem alz {x y d y':Fp} (ho:y ^ 2 - x ^ 2=1+d * x ^ 2 * y ^ 2) (h:y' * (1 - d * (x * x * (y * y)))=y * y+x * x):
  y' * (1+2 * d * y ^ 2 - d * y ^ 4)=d * y ^ 4+2 * y ^ 2 - 1:=by
 have hx:x ^ 2 * (1+d * y ^ 2)=y ^ 2 - 1:=by grind
 have e1:(1 - d * (x * x * (y * y))) * (1+d * y ^ 2)=1+2 * d * y ^ 2 - d * y ^ 4:=by grind
 have e2:(y * y+x * x) * (1+d * y ^ 2)=d * y ^ 4+2 * y ^ 2 - 1:=by grind
 rw[<-e1,←e2,←h]
 grind
theorem adk (p:Ed K.E):1+2 * K.E.d * p.y ^ 2 - K.E.d * p.y ^ 4≠0:=by
 have h1:=p.iX p;have h2:=FW p;have hx:=aez p;have e1:(1 - K.E.d * (p.x * p.x * (p.y * p.y))) * (1+K.E.d * p.y ^ 2)=1+2 * K.E.d * p.y ^ 2 - K.E.d * p.y ^ 4:=by grind
 rw[<-e1];exact bE h1 h2
end
def fdX (x z:Fp):Fp:=(x+z) * (x+z) * ((x - z) * (x - z))
def fdZ (f x z:Fp):Fp:=((x+z) * (x+z) - (x - z) * (x - z)) * ((x+z) * (x+z)+f * ((x+z) * (x+z) - (x - z) * (x - z)))
def fsX (a b c d:Fp):Fp:=((c - d) * (a+b)+(c+d) * (a - b)) * ((c - d) * (a+b)+(c+d) * (a - b))
def fsZ (u a b c d:Fp):Fp:=u * (((c - d) * (a+b) - (c+d) * (a - b)) * ((c - d) * (a+b) - (c+d) * (a - b)))
theorem Xk {l y d f y' den:Fp} (hf:d * (1+f)= -f) (hy:y' * den=d * y ^ 4+2 * y ^ 2 - 1) (hden:den=1+2 * d * y ^ 2 - d * y ^ 4):
  fdX (l * (1+y)) (1 * l * (1 - y))=(8 * l ^ 4 * den * (1+f)) * (1+y')/\fdZ f (l * (1+y)) (1 * l * (1 - y))=1 * (8 * l ^ 4 * den * (1+f)) * (1 - y'):=by
 unfold fdX fdZ
 constructor<;> grind
theorem Xj {l y d f y' den:Fp} (hf:d * f= -(1+f)) (hy:y' * den=d * y ^ 4+2 * y ^ 2 - 1) (hden:den=1+2 * d * y ^ 2 - d * y ^ 4):
  fdX (l * (1+y)) (-1 * l * (1 - y))=(-(8 * l ^ 4 * den * f)) * (1+y')/\fdZ f (l * (1+y)) (-1 * l * (1 - y))= -1 * (-(8 * l ^ 4 * den * f)) * (1 - y'):=by
 unfold fdX fdZ
 constructor<;> grind
theorem akc {b d x1 y1 x2 y2:Fp} (h:b * (1 - d * (x2 * -x1 * (y2 * y1)))=y2 * y1+x2 * -x1):b * (1+d * (x1 * x2 * (y1 * y2)))=y1 * y2 - x1 * x2:=by grind
theorem afi {b d x1 x2:Fp} (o1:(0:Fp) ^ 2 - x1 ^ 2=1+d * x1 ^ 2 * 0 ^ 2) (o2:(0:Fp) ^ 2 - x2 ^ 2=1+d * x2 ^ 2 * 0 ^ 2) (e0:b * (1+d * (x1 * x2 * (0 * 0)))=0 * 0 - x1 * x2):(1 - b) * (1+b)=0:=by grind
theorem UQ {a b:Fp} (h:a+b=0) (h':a - b=0):a=0/\b=0:=by
 have h2:2 * a=0:=by grind
 have:=(jr h2).resolve_left iO
 grind
theorem afX {a:Fp} (h:a≠0): -a≠0:=by intro e;exact h (by grind)
theorem aak {s u y:Fp} (h:s * u * (1 - y)=1+y):s * u * (1 - y)=1 * (1+y):=by grind
theorem XO {s y i:Fp} (hs:s * s=1) (hi:(1 - y) * i=1):s * (s * (1+y) * i) * (1 - y)=1+y:=by grind
theorem XM {s l y i j:Fp} (hs:s * s=1) (hi:s * l * (1 - y) * i=1) (hj:(1 - y) * j=1):l * (1+y) * i=s * (1+y) * j:=by
 have h1:s * l * i=j:=by grind
 grind
theorem Wh {s y i:Fp} (hs:s * s=1) (hi:(1 - y) * i=1) (h:s * (1+y) * i=0):(1+y) * (1 - y)=0:=by
 have:s * (s * (1+y) * i * (1 - y)) * (1 - y)=0:=by rw[h];grind
 grind
theorem x_zero {d x y:Fp} (h:(1+y) * (1 - y)=0) (hx:x ^ 2 * (1+d * y ^ 2)=y ^ 2 - 1) (gW:1+d * y ^ 2≠0):x=0:=by
 have h2:x ^ 2 * (1+d * y ^ 2)=0:=by grind
 rcases jr h2 with h3 | h3
 ·rcases jr (show x * x=0 by grind) with h | h<;> exact h
 ·exact absurd h3 gW
theorem Zy {d y a b:Fp} (h:(1+y) * (1 - y)=0) (h1:a * (1+d * (0 * 0 * (y * y)))=0 * y+0 * y) (h2:b * (1 - d * (0 * 0 * (y * y)))=y * y+0 * 0):a=0/\b=1:=by
 constructor<;> grind
theorem Uy {x1 y1 x2 y2 d:Fp} (h1:y1 ^ 2 - x1 ^ 2=1+d * x1 ^ 2 * y1 ^ 2) (h2:y2 ^ 2 - x2 ^ 2=1+d * x2 ^ 2 * y2 ^ 2):
  ((1 - d * (x1 * x2 * (y1 * y2)))+(y1 * y2+x1 * x2)) * ((1+d * (x1 * x2 * (y1 * y2)))+(y1 * y2 - x1 * x2)) * (y1 - y2) ^ 2=((1 - d * (x1 * x2 * (y1 * y2))) - (y1 * y2+x1 * x2)) * ((1+d * (x1 * x2 * (y1 * y2))) - (y1 * y2 - x1 * x2)) * (y1+y2) ^ 2:=by
 grind
theorem Uz {A B C D a b g h:Fp} (ha:a * A=C) (hb:b * B=D) (hA:A≠0) (hB:B≠0) (hp:(A+C) * (B+D) * g=(A - C) * (B - D) * h):(1+a) * (1+b) * g=(1 - a) * (1 - b) * h:=by
 refine iC (bE hA hB) ?_;subst ha;subst hb;have e1:(1+a) * (1+b) * g * (A * B)=(A+a * A) * (B+b * B) * g:=by grind
 have e2:(1 - a) * (1 - b) * h * (A * B)=(A - a * A) * (B - b * B) * h:=by grind
 rw[e1,e2,hp]
theorem Xi {s y X Z:Fp} (hs:s * s=1) (gW:X≠0\/Z≠0) (h:s * X * (1 - y)=Z * (1+y)):Rel s y X Z:=by
 have hs0:s≠0:=by intro e;exact fM (by grind)
 by_cases hy:1+y=0
 ·have hX:X=0:=by
   have h2:s * X * 2=0:=by grind
   rcases jr h2 with h3 | h3
   ·rcases jr h3 with h4 | h4
    ·exact absurd h4 hs0
    ·exact h4
   ·exact absurd h3 iO
  have hZ:Z≠0:=gW.resolve_left (fun e=>e hX);obtain⟨w,hw⟩:=nK iO;have hw0:w≠0:=by intro e;exact fM (by grind)
  exact⟨s * w * Z,bE (bE hs0 hw0) hZ,by grind,by grind⟩
 ·obtain⟨w,hw⟩:=nK hy;have hw0:w≠0:=by intro e;exact fM (by grind)
  have hX:X≠0:=by
   intro e;have h2:Z * (1+y)=0:=by grind
   rcases jr h2 with h3 | h3
   ·exact gW.elim (fun h=>h e) (fun h=>h h3)
   ·exact hy h3
  exact⟨X * w,bE hX hw0,by grind,by grind⟩
theorem abJ {l m s u y1 y2 y0 yp:Fp} (hs:s=1\/s= -1) (hu:s * u * (1 - y0)=1+y0) (hl:l≠0) (hm:m≠0) (hy:(1+yp) * (1+y0) * (y1 - y2) ^ 2=(1 - yp) * (1 - y0) * (y1+y2) ^ 2) (h1:1 - y0≠0):
  fsX (l * (1+y1)) (s * l * (1 - y1)) (m * (1+y2)) (s * m * (1 - y2))=16 * (l * m) ^ 2 * (y1+y2) ^ 2/\fsZ u (l * (1+y1)) (s * l * (1 - y1)) (m * (1+y2)) (s * m * (1 - y2))=u * (16 * (l * m) ^ 2 * (y1 - y2) ^ 2)/\
   s * (16 * (l * m) ^ 2 * (y1+y2) ^ 2) * (1 - yp)=u * (16 * (l * m) ^ 2 * (y1 - y2) ^ 2) * (1+yp):=by
 unfold fsX fsZ;have key:s * (y1+y2) ^ 2 * (1 - yp)=u * (y1 - y2) ^ 2 * (1+yp):=by
  refine iC h1 ?_;rcases hs with rfl | rfl
  ·grind
  ·grind
 refine⟨?_,?_,?_⟩
 ·rcases hs with rfl | rfl<;> grind
 ·rcases hs with rfl | rfl<;> grind
 ·grind
section
variable {K : Kind}
theorem BM (n:Nat):(2:Fp) ^ n≠0:=by
 induction n with
 | zero=>intro h;exact fM (by grind)
 | succ n ih=>intro h;exact bE ih iO (by grind)
theorem yZ {x:Fp} (hx:x≠0):∀n:Nat,x ^ n≠0
 | 0=>by intro h;exact fM (by grind)
 | n+1=>by intro h;exact bE (yZ hx n) hx (by grind)
theorem Mh:(8:Fp)≠0:=by have h:=BM 3;intro e;exact h (by grind)
theorem Cb:(16:Fp)≠0:=by have h:=BM 4;intro e;exact h (by grind)
theorem QU (p:Ed K.E) {X Z:Fp} (h:Rel K.s p.y X Z):Rel K.s (p.add p).y (fdX X Z) (fdZ K.f X Z):=by
 obtain⟨l,hl,rfl,rfl⟩:=h;have hden:=adk p;have hy:=alz p.on (p.kY p);have hl4:=yZ hl 4;rcases K.hk with hs | hs
 ·obtain⟨e1,e2⟩:=Xk (l:=l) (K.h1 hs) hy rfl;rw[hs];exact⟨_,bE (bE (bE Mh hl4) hden) K.hf1,e1,e2⟩
 ·obtain⟨e1,e2⟩:=Xj (l:=l) (K.h2 hs) hy rfl;rw[hs];exact⟨_,afX (bE (bE (bE Mh hl4) hden) K.hf0),e1,e2⟩
structure oW (K:Kind) (p:Ed K.E) (u:Fp):Prop where
 hu:K.s * u * (1 - p.y)=1+p.y
 hm:1 - p.y≠0
 hp:1+p.y≠0
theorem oW.aoG {p:Ed K.E} {u:Fp} (h:oW K p u):u≠0:=by
 intro e;have:=h.hu;exact h.hp (by grind)
theorem abK (p q b:Ed K.E) {u a z c d:Fp} (hb:oW K b u) (hq:q=p.add b) (h1:Rel K.s p.y a z) (h2:Rel K.s q.y c d):Rel K.s (p.add q).y (fsX a z c d) (fsZ u a z c d):=by
 obtain⟨l,hl,rfl,rfl⟩:=h1;obtain⟨m,hm,rfl,rfl⟩:=h2;have hd:q.add p.neg=b:=by rw[hq,Ed.add_comm p b,Ed.add_assoc,Ed.add_neg,Ed.add_zero]
 have ey:=p.kY q;have e0:b.y * (1+K.E.d * (p.x * q.x * (p.y * q.y)))=p.y * q.y - p.x * q.x:=by
  have h:=q.kY p.neg;rw[hd] at h;exact akc h
 have akN:=Uz ey e0 (p.iX q) (p.kg q) (Uy p.on q.on);obtain⟨r1,r2,r3⟩:=abJ (l:=l) (m:=m) (y1:=p.y) (y2:=q.y) (yp:=(p.add q).y) K.hk hb.hu hl hm akN hb.hm;rw[r1,r2];refine Xi K.hs ?_ r3;by_cases hs:p.y+q.y=0
 ·right
  refine bE hb.aoG (bE (bE Cb (yZ (bE hl hm) 2)) (yZ ?_ 2));intro ht;obtain⟨hy1,hy2⟩:=UQ hs ht;have o1:=p.on;have o2:=q.on;rw[hy1] at o1 e0;rw[hy2] at o2 e0;exact bE hb.hm hb.hp (afi o1 o2 e0)
 ·left
  exact bE (bE Cb (yZ (bE hl hm) 2)) (yZ hs 2)
end
theorem WH (x z:Int):toF (dX x z)=fdX (toF x) (toF z):=by
 unfold dX fdX;simp only[dK,gq,lu]
theorem WG (x z:Int):toF (dZ x z)=fdZ (toF 121665) (toF x) (toF z):=by
 unfold dZ fdZ;simp only[dK,gq,lu]
theorem afl (a b c d:Int):toF (sX a b c d)=fsX (toF a) (toF b) (toF c) (toF d):=by
 unfold sX fsX;simp only[dK,gq,lu]
theorem afk (u a b c d:Int):toF (sZ u a b c d)=fsZ (toF u) (toF a) (toF b) (toF c) (toF d):=by
 unfold sZ fsZ;simp only[dK,gq,lu]
section
variable {K : Kind}
theorem Xh {f:Fp} (hK:K.f=f):Rel K.s (Ed.zero:Ed K.E).y 1 0:=by
 obtain⟨w,hw⟩:=nK iO;have hw0:w≠0:=by intro e;exact fM (by grind)
 refine⟨w,hw0,?_,?_⟩
 ·show (1:Fp)=w * (1+1);grind
 ·show (0:Fp)=K.s * w * (1 - 1);grind
theorem Xl {p:Ed K.E} {u:Fp} (h:oW K p u):Rel K.s p.y u 1:=Xi K.hs (.inr fM) (aak h.hu)
theorem Rl (hf:K.f=toF 121665) (p:Ed K.E) (n:Nat) (hn:n<2 ^ 255) {u:Int} (hb:oW K p (toF u)):∀k,k<=255->
  Rel K.s (p.mul (n / 2 ^ (255 - k))).y (toF (uZ n u k).a) (toF (uZ n u k).b)/\Rel K.s (p.mul (n / 2 ^ (255 - k)+1)).y (toF (uZ n u k).c) (toF (uZ n u k).d)
 | 0,_=>by
  rw[show n / 2 ^ (255 - 0)=0 by rw[Nat.sub_zero];exact Nat.div_eq_of_lt hn];refine⟨?_,?_⟩
  ·show Rel K.s (Ed.zero:Ed K.E).y (toF 1) (toF 0);rw[dP,jw];exact Xh rfl
  ·rw[qY,Ed.mul_one];show Rel K.s p.y (toF u) (toF 1);rw[dP];exact Xl hb
 | k+1,hk=>by
  obtain⟨h1,h2⟩:=Rl hf p n hn hb k aH;have hbit:(n:Int) / 2 ^ (254 - k) % 2=((n / 2 ^ (254 - k) % 2:Nat):Int):=by simp
  have iN:uZ n u (k+1)=(uZ n u k).rung u ((n / 2 ^ (254 - k) % 2:Nat):Int):=by rw[<-hbit];rfl
  have hN:n / 2 ^ (255 - k)=n / 2 ^ (254 - k) / 2:=by
   rw[show 255 - k=254 - k+1 by omega,Nat.pow_succ,Nat.div_div_eq_div_mul]
  rw[show 255 - (k+1)=254 - k by omega,iN];obtain⟨N,hNN⟩:∃N,N=n / 2 ^ (254 - k):=⟨_,rfl⟩
  rw[<-hNN] at hN ⊢;rw[hN] at h1 h2;obtain⟨s,hs⟩:∃s,s=uZ n u k:=⟨_,rfl⟩
  rw[<-hs] at h1 h2 ⊢;obtain⟨M,hM⟩:∃M,M=N / 2:=⟨_,rfl⟩
  rw[<-hM] at h1 h2;have hq:p.mul (M+1)=(p.mul M).add p:=rfl;have hsum:p.mul (M+(M+1))=(p.mul M).add (p.mul (M+1)):=p.mul_add _ _;have r1:=abK _ _ _ hb hq h1 h2;rw[<-hsum,←afl,←afk] at r1;rcases(by omega:N % 2=0\/N % 2=1) with hb0 | hb0
  ·rw[hb0];have r2:=QU _ h1;rw[<-p.mul_add,hf,←WH,←WG] at r2;refine⟨?_,?_⟩
   ·rw[show N=M+M by omega];exact r2
   ·rw[show N+1=M+(M+1) by omega];exact r1
  ·rw[hb0];have r2:=QU _ h2;rw[<-p.mul_add,hf,←WH,←WG] at r2;refine⟨?_,?_⟩
   ·rw[show N=M+(M+1) by omega];exact r1
   ·rw[show N+1=M+1+(M+1) by omega];exact r2
noncomputable def Kind.num (K:Kind) (y:Fp):Fp:=K.s * (1+y) * inv (1 - y)
theorem LD (hf:K.f=toF 121665) (p:Ed K.E) (n:Nat) (hn:n<2 ^ 255) {u:Int} (hb:oW K p (toF u)):toF (jI n u)=K.num (p.mul n).y:=by
 obtain⟨h1,_⟩:=Rl hf p n hn hb 255 (bH _);rw[Nat.sub_self,Nat.pow_zero,Nat.div_one] at h1;unfold jI Kind.num;rw[dK,wX];obtain⟨l,hl,e1,e2⟩:=h1;rw[e1,e2]
 generalize (p.mul n).y=y
 have hs:=K.hs;have hs0:K.s≠0:=by intro e;exact fM (by grind)
 by_cases hy:1 - y=0
 ·rw[hy,show K.s * l * (0:Fp)=0 by grind,xU];grind
 ·exact XM hs (inv_mul (bE (bE hs0 hl) hy)) (inv_mul hy)
theorem aam {p:Ed K.E} (y1:1 - p.y≠0) (y2:1+p.y≠0):oW K p (K.num p.y):=by
 exact⟨XO K.hs (inv_mul y1),y1,y2⟩
theorem Lf {p:Ed K.E} (h:K.num p.y=0):p.add p=.zero:=by
 have hy:(1+p.y) * (1 - p.y)=0:=by
  by_cases h1:1 - p.y=0
  ·rw[h1];generalize 1+p.y=z;grind
  ·exact Wh K.hs (inv_mul h1) h
 have hx0:=x_zero hy (aez p) (FW p);have a1:=p.nE p;have a2:=p.kY p;rw[hx0] at a1 a2;obtain⟨r1,r2⟩:=Zy hy a1 a2;exact Ed.ext r1 r2
theorem tK:∀n:Nat,(Ed.zero:Ed K.E).mul n=.zero
 | 0=>rfl
 | n+1=>by rw[Ed.mul,tK n,Ed.add_zero]
theorem ajY:K.num (Ed.zero:Ed K.E).y=0:=by
 unfold Kind.num;show K.s * (1+1) * inv (1 - 1)=0;have e:∀a:Fp,a - a=0:=by intro a;grind
 rw[e 1,xU]
 generalize K.s * (1+1)=z
 grind
end
theorem CK {n:Int} (hn:n / 2 ^ 254 % 2=1):∀k,(uZ n 0 (k+1)).a=0/\(uZ n 0 (k+1)).b=0/\(uZ n 0 (k+1)).d=0
 | 0=>by
  have e:uZ n 0 1=(⟨1,0,0,1⟩:Two).rung 0 (n / 2 ^ 254 % 2):=rfl;rw[e,hn];unfold Two.rung;rw[if_pos rfl];exact⟨rfl,rfl,rfl⟩
 | k+1=>by
  obtain⟨h1,h2,h3⟩:=CK hn k;have e:uZ n 0 (k+1+1)=(uZ n 0 (k+1)).rung 0 (n / 2 ^ (254 - (k+1)) % 2):=rfl;rw[e]
  generalize uZ n 0 (k+1)=s at *
  obtain⟨a,b,c,d⟩:=s;simp only at h1 h2 h3;subst h1;subst h2;subst h3;unfold Two.rung
  split
  ·exact⟨by unfold sX;simp,by unfold sZ;simp,by unfold dZ;simp⟩
  ·exact⟨by unfold dX;simp,by unfold dZ;simp,by unfold sZ;simp⟩
theorem ny {n:Int} (hn:n / 2 ^ 254 % 2=1) {u:Int} (hu:u % Pr=0):jI n u % Pr=0:=by
 have h:=Yp (n:=n) (u:=u) (u':=0) (show u % Pr=0 % Pr by rw[hu];rfl) 255;have h0:=(CK hn 254).1;have h1:Cg (jI n u) (0 * (uZ n u 255).b ^ (PN - 2)):=by
  unfold jI;have ha:Cg (uZ n u 255).a 0:=h0▸h.1;exact ha.mul (Cg.refl _)
 rw[Int.zero_mul] at h1;rw[h1];rfl
theorem afV {K:Kind} {y:Fp} (h:K.num y≠0):1 - y≠0/\1+y≠0:=by
 constructor
 ·intro e
  apply h
  unfold Kind.num;rw[e,xU];generalize K.s * (1+y)=z;grind
 ·intro e
  apply h
  unfold Kind.num;rw[e];generalize inv (1 - y)=z;generalize K.s=s;grind
theorem Ih {E:NS} {p:Ed E} (h:p.add p=.zero) (t:Nat):p.mul (2 * t)=.zero:=by
 rw[Ed.uL,show p.mul 2=p.add p by show (p.mul 1).add p= _;rw[Ed.mul_one],h];have key:∀n:Nat,(Ed.zero:Ed E).mul n=.zero:=by
  intro n
  induction n with
  | zero=>rfl
  | succ n ih=>rw[Ed.mul,ih,Ed.add_zero]
 exact key t
theorem Il {K:Kind} (hf:K.f=toF 121665) (p:Ed K.E) {u:Int} (hb:oW K p (toF u)) (m n:Nat) (hm:m<2 ^ 255) (hn:n<2 ^ 255) (h2:m % 2=0) (ht:(m:Int) / 2 ^ 254 % 2=1):
  toF (jI m (jI n u % Pr))=K.num (p.mul (n * m)).y:=by
 have h1:=LD hf p n hn hb;have e1:toF (jI n u % Pr)=K.num (p.mul n).y:=by rw[<-h1];exact gY.2 (Cg.mod _)
 rw[Ed.uL];by_cases h0:K.num (p.mul n).y=0
 ·have hz:=Lf h0;rw[show m=2 * (m / 2) by omega,Ih hz,ajY,←jw];rw[h0,←jw] at e1;refine gY.2 ?_;have:(2 * (m / 2))=m:=by omega
  rw[this];exact ny ht (show jI n u % Pr % Pr=0 from gY.1 e1)
 ·obtain⟨y1,y2⟩:=afV h0;have hb':oW K (p.mul n) (toF (jI n u % Pr)):=by rw[e1];exact aam y1 y2
  exact LD hf (p.mul n) m hm hb'
def fE:Fp:=toF 121665
theorem PD:toF 121666=1+fE:=by
 unfold fE;rw[<-dP,←gq];rfl
theorem RH:fE≠0:=jM.2 aM
theorem PE:1+fE≠0:=by rw[<-PD];exact jM.2 aM
theorem alA:dE * (1+fE)= -fE:=by have h:=RJ;rwa [PD] at h
theorem acZ {d f r:Fp} (h:d * f= -(1+f)) (hr:r * r=d):(r * f) * (r * f)= -(f * (1+f)):=by grind
noncomputable def d2:Fp:= -((1+fE) * inv fE)
theorem ahF:d2 * fE= -(1+fE):=Kz (inv_mul RH)
theorem alF (r:Fp):r * r≠d2:=by
 intro h;have h1:=acZ ahF h;obtain⟨R,rfl⟩:∃R,r=toF R:=⟨_,(Gw r).symm⟩
 rw[<-PD] at h1;unfold fE at h1;rw[<-dK,←dK,←dK,←pG] at h1;exact FK (R * 121665) (gY.1 h1)
theorem PU {a:Fp} (h:a= -a):2 * a=0:=by grind
theorem QY:(1:Fp)≠ -1:=fun h=>bE iO fM (PU h)
noncomputable def K1:Kind:=⟨C7,1,fE,by grind,fun _=>alA,fun h=>absurd h QY,.inl rfl,RH,PE⟩
noncomputable def K2:Kind:=⟨⟨d2,alF⟩,-1,fE,by grind,fun h=>absurd h.symm QY,fun _=>ahF,.inr rfl,RH,PE⟩
theorem akg {d f U w v t r:Fp} (hd:d * (1+f)= -f) (hf:1+f≠0) (hw:w * w=U * (U * U+(4 * f+2) * U+1)) (hv:w * v=1) (ht:(U+1) * t=1) (hr:r * r= -(4 * f+4)):
  ((U - 1) * t) ^ 2 - (r * U * v) ^ 2=1+d * (r * U * v) ^ 2 * ((U - 1) * t) ^ 2:=by
 refine iC hf ?_;have hv2:U * (U * U+(4 * f+2) * U+1) * (v * v)=1:=by grind
 have hx:(r * U * v) ^ 2= -(4 * f+4) * U ^ 2 * (v * v):=by grind
 rw[hx]
 generalize v * v=q at *
 have e:(1+d * (-(4 * f+4) * U ^ 2 * q) * ((U - 1) * t) ^ 2) * (1+f)=(1+f)+f * (4 * f+4) * U ^ 2 * q * ((U - 1) * t) ^ 2:=by grind
 rw[e]
 grind
theorem akf {d f U w v t m:Fp} (hd:d * f= -(1+f)) (hf:f≠0) (hm:m=U * (U * U+(4 * f+2) * U+1)) (hw:w * w= -(4 * f) * m) (hv:m * v=1) (ht:(U - 1) * t=1):
  ((U+1) * t) ^ 2 - (U * w * v) ^ 2=1+d * (U * w * v) ^ 2 * ((U+1) * t) ^ 2:=by
 refine iC hf ?_;have hx:(U * w * v) ^ 2= -(4 * f) * U ^ 2 * v:=by grind
 rw[hx];have e:(1+d * (-(4 * f) * U ^ 2 * v) * ((U+1) * t) ^ 2) * f=f+(1+f) * (4 * f) * U ^ 2 * v * ((U+1) * t) ^ 2:=by grind
 rw[e];subst hm
 grind
theorem aby (X Y:Int):Ep (X * Y)=Ep X * Ep Y:=by unfold Ep;exact Int.mul_pow ..
theorem abx {X:Int} (h:X % Pr≠0):Ep X % Pr=1 % Pr\/Ep X % Pr= -1 % Pr:=by
 have e:Ep X * Ep X=X ^ (PN - 1):=by
  unfold Ep;rw[<-Int.pow_add];congr 1
 exact Fa (by rw[e,zq h];decide)
theorem QM {X:Int} (h:Ep X % Pr=1):∃R:Int,Cg (R * R) X:=by
 have h1:wD X=true:=by unfold wD;rw[kZ];exact .inr (decide_eq_true h)
 rcases Co h1 with h2 | h2
 ·exact⟨_,h2⟩
 ·exact⟨_,h2⟩
theorem QI {n:Nat} {e:Nat} (h:nI PN 256 n ((PN - 1) / 2) 1 % PN=e):Ep (n:Int) % Pr=(e:Int):=by
 have h3:=oq PN 256 n ((PN - 1) / 2) 1 (by decide+kernel);rw[Nat.one_mul] at h3;unfold Ep;rw[pQ,←h3,h]
theorem WT:nI PN 256 (PN - 486660) ((PN - 1) / 2) 1 % PN=PN - 1:=by decide+kernel
theorem abw:nI PN 256 (486660 * 486664) ((PN - 1) / 2) 1 % PN=PN - 1:=by decide+kernel
theorem ajz:nI PN 256 486660 ((PN - 1) / 2) 1 % PN=PN - 1:=by decide+kernel
theorem XP {n:Nat} (h:nI PN 256 n ((PN - 1) / 2) 1 % PN=PN - 1) (hn:n % PN≠0) (R:Int):¬ Cg (R * R) (n:Int):=by
 intro hR;have h1:=Bc (R:=R) (X:=n) hR;unfold wD at h1;rw[QI h] at h1;simp only[kZ,decide_eq_true_eq] at h1;rcases h1 with h1 | h1
 ·rw[oU,←Int.natCast_emod] at h1;omega
 ·have:PN - 1=1:=by omega
  exact absurd this aM
theorem TJ:((PN - 486660:Nat):Int)=Pr - 486660:=by
 rw[oU];have:486660<=PN:=by decide
 omega
def mont (u:Int):Int:=u * (u * u+486662 * u+1)
theorem acA {u:Int} (h:u % Pr≠0):mont u % Pr≠0:=by
 intro h0;unfold mont at h0;rcases tL h0 with h1 | h1
 ·exact h h1
 ·have h2:Cg ((2 * u+486662) * (2 * u+486662)) (((486660 * 486664:Nat)):Int):=by
   have e:(2 * u+486662) * (2 * u+486662)=4 * (u * u+486662 * u+1)+((486660 * 486664:Nat):Int):=by
    rw[show ((486660 * 486664:Nat):Int)=486660 * 486664 by rfl];grind
   rw[e];have h3:Cg (4 * (u * u+486662 * u+1)) (4 * 0):=(Cg.refl 4).mul (show _ % Pr=0 % Pr by rw[h1];rfl);have h4:=h3.add (Cg.refl ((486660 * 486664:Nat):Int))
   rwa [Int.mul_zero,Int.zero_add] at h4
  exact XP abw aM _ h2
def r1:Int:=6853475219497561581579357271197624642482790079785650197046958215289687604742
theorem ajK:Cg (r1 * r1) (-486664):=by unfold Cg r1;decide+kernel
theorem afm:toF (-486664)= -(4 * fE+4):=by
 have e:(-486664:Int)= -((1+1+1+1) * 121665+(1+1+1+1)):=by decide
 rw[e,pG,gq,dK,gq,gq,gq,dP];show -((1+1+1+1) * fE+(1+1+1+1))= -(4 * fE+4)
 grind
theorem WE (u:Int):toF (mont u)=toF u * (toF u * toF u+(4 * fE+2) * toF u+1):=by
 unfold mont;have e:(486662:Int)=(1+1+1+1) * 121665+(1+1):=by decide
 rw[e];simp only[dK,gq,dP];show toF u * (toF u * toF u+((1+1+1+1) * fE+(1+1)) * toF u+1)= _
 generalize toF u=U
 generalize fE=f
 grind
theorem abo:toF (-486660)= -(4 * fE):=by
 have e:(-486660:Int)= -((1+1+1+1) * 121665):=by decide
 rw[e,pG,dK,gq,gq,gq,dP];show -((1+1+1+1) * fE)= -(4 * fE)
 generalize fE=f
 grind
theorem ahQ {U t:Fp} (ht:(U+1) * t=1) (hU:U≠0):1 * U * (1 - (U - 1) * t)=1+(U - 1) * t/\1 - (U - 1) * t≠0/\1+(U - 1) * t≠0:=by
 have ht0:t≠0:=by intro e;exact fM (by grind)
 refine⟨by grind,?_,?_⟩
 ·intro e;exact bE iO ht0 (by grind)
 ·intro e;exact bE iO (bE hU ht0) (by grind)
theorem base_2 {U t:Fp} (ht:(U - 1) * t=1) (hU:U≠0): -1 * U * (1 - (U+1) * t)=1+(U+1) * t/\1 - (U+1) * t≠0/\1+(U+1) * t≠0:=by
 have ht0:t≠0:=by intro e;exact fM (by grind)
 refine⟨by grind,?_,?_⟩
 ·intro e;exact bE iO ht0 (by grind)
 ·intro e;exact bE iO (bE hU ht0) (by grind)
theorem alv:(0:Fp) * 0=0:=by grind
theorem Cg.mont {u v:Int} (h:Cg u v):Cg (mont u) (mont v):=h.mul (((h.mul h).add ((Cg.refl 486662).mul h)).add (Cg.refl 1))
def r2:Int:=48802004052532134862652268456126542835229456083994414501085850622543968879637
theorem ajJ:Cg (r2 * r2) 486664:=by unfold Cg r2;decide+kernel
theorem Mf {u:Int} (h:u % Pr≠0):∃(K:Kind) (p:Ed K.E),K.f=toF 121665/\oW K p (toF u):=by
 have hU:toF u≠0:=jM.2 h;have hm:=acA h;have hM:=WE u;rcases abx hm with hs | hs
 ·obtain⟨W,hW⟩:=QM (X:=mont u) (by rw[hs];decide);have hw:toF W * toF W=toF u * (toF u * toF u+(4 * fE+2) * toF u+1):=by rw[<-dK,←hM];exact gY.2 hW
  have hw0:toF W≠0:=by
   intro e;rw[e,alv,←hM] at hw;exact jM.2 hm hw.symm
  have hu1:toF u+1≠0:=by
   rw[<-dP,←gq];refine jM.2 fun e=>?_;have e1:Cg u (-1):=by
    have:=(show Cg (u+1) 0 from e).sub (Cg.refl 1)
    rwa [show u+1 - 1=u by omega] at this
   have e2:=hW.trans e1.mont;exact XP (n:=486660) ajz aM W e2
  obtain⟨t,ht⟩:=nK hu1;obtain⟨v,hv⟩:=nK hw0;have hr:toF r1 * toF r1= -(4 * fE+4):=by rw[<-dK,←afm];exact gY.2 ajK
  obtain⟨b1,b2,b3⟩:=ahQ ht hU;exact⟨K1,⟨toF r1 * toF u * v,(toF u - 1) * t,akg alA PE hw hv ht hr⟩,rfl,b1,b2,b3⟩
 ·have h4:Ep (-486660) % Pr= -1 % Pr:=by
   have e:Ep (-486660) % Pr=Ep ((PN - 486660:Nat):Int) % Pr:=by
    refine Cg.pow ?_ _;rw[TJ];exact ow (c:= -1) aH
   rw[e,QI WT]
   decide+kernel
  obtain⟨W,hW⟩:=QM (X:= -486660 * mont u) (by
   rw[aby,Int.mul_emod,h4,hs];decide+kernel)
  have hw:toF W * toF W= -(4 * fE) * toF (mont u):=by rw[<-dK,←abo,←dK];exact gY.2 hW
  have hm0:toF (mont u)≠0:=jM.2 hm;have hu1:toF u - 1≠0:=by
   rw[<-dP,←lu];refine jM.2 fun e=>?_;have e1:Cg u 1:=by
    have:=(show Cg (u - 1) 0 from e).add (Cg.refl 1)
    rwa [show u - 1+1=u by omega] at this
   have e2:Cg (r2 * r2) (mont u):=ajJ.trans (show Cg 486664 (mont u) from(e1.mont).symm);have e3:=Bc e2;unfold wD at e3;simp only[kZ,decide_eq_true_eq] at e3;rcases e3 with e3 | e3
   ·exact hm e3
   ·rw[e3] at hs;exact absurd hs (by decide+kernel)
  obtain⟨t,ht⟩:=nK hu1;obtain⟨v,hv⟩:=nK hm0;obtain⟨b1,b2,b3⟩:=base_2 ht hU;exact⟨K2,⟨toF u * toF W * v,(toF u+1) * t,akf ahF RH hM hw hv ht⟩,rfl,b1,b2,b3⟩
theorem meets (m n:Nat) (hm:m<2 ^ 255) (hn:n<2 ^ 255) (hm2:m % 2=0) (hn2:n % 2=0) (hmt:(m:Int) / 2 ^ 254 % 2=1) (hnt:(n:Int) / 2 ^ 254 % 2=1) (u:Int):
  jI m (jI n u % Pr) % Pr=jI n (jI m u % Pr) % Pr:=by
 by_cases hu:u % Pr=0
 ·have h1:=ny hnt hu;have h2:=ny hmt hu;rw[ny hmt (by rw[h1];rfl),ny hnt (by rw[h2];rfl)]
 ·obtain⟨K,p,hf,hb⟩:=Mf hu;have h1:=Il hf p hb m n hm hn hm2 hmt;have h2:=Il hf p hb n m hn hm hn2 hnt;rw[Nat.mul_comm m n,←h1] at h2;exact(gY.1 h2).symm
theorem zD (S:Int):∃m:Nat,fq S=(m:Int)/\m<2 ^ 255/\m % 2=0/\(m:Int) / 2 ^ 254 % 2=1:=by
 have h0:0<=fq S/\fq S<2 ^ 255/\fq S % 2=0/\fq S / 2 ^ 254 % 2=1:=by unfold fq;omega
 obtain⟨h0,h1,h2,h3⟩:=h0;obtain⟨m,hm⟩:=Gl h0;refine⟨m,hm,?_,?_,by rw[<-hm];exact h3⟩
 ·rw[hm] at h1;omega
 ·rw[hm] at h2;omega
theorem tN (n u:Int):jI n (u % Pr % 2 ^ 255) % Pr=jI n (u % Pr) % Pr:=by
 have h:u % Pr % 2 ^ 255=u % Pr:=by
  have h0:=Bu u (show Pr≠0 by decide);have h1:=Gj u Jo;have h2:Pr<2 ^ 255:=by decide
  exact Nb h0 aH
 rw[h]
theorem MC (S T u:Int):jI (fq S) (jI (fq T) u % Pr % 2 ^ 255) % Pr=jI (fq T) (jI (fq S) u % Pr % 2 ^ 255) % Pr:=by
 rw[tN,tN];obtain⟨m,e1,a1,a2,a3⟩:=zD S;obtain⟨n,e2,b1,b2,b3⟩:=zD T;rw[e1,e2];exact meets m n a1 b1 a2 b2 a3 b3 u
end Go.bI
