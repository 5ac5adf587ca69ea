/- Part 42 of SuiteBytes; conditions: in each theorem. -/
import Derived.Test.YtpcjekgfnfjbpaaGreatPkSuiteBytes37
import Derived.Test.YtpcjekgfnfjbpaaGreatPkSuiteBytes26
import Derived.Test.YtpcjekgfnfjbpaaGreatPkSuiteBytes41
set_option linter.unusedVariables false
set_option linter.unusedSimpArgs false
set_option maxRecDepth 100000
set_option maxHeartbeats 12800000
namespace Go.bC
open Go.RowKit
def fB (w:World) (b:Nat) (cs:Array Value):Prop:=∃T,w.heap[b]? =some (.cells cs T (0,0))
theorem fB.lt {w:World} {b:Nat} {cs:Array Value} (h:fB w b cs):b<w.heap.size:=by obtain⟨T,h⟩:=h;exact(Array.getElem?_eq_some_iff.1 h).1
theorem fB.newAt {w:World} {T:TypeId} {b:Nat} {cs:Array Value} (hb:b=w.heap.size):fB (w.alloc (.cells cs T)) b cs:=by subst hb;exact⟨T,heap_alloc_new w _⟩
theorem fB.alloc {w:World} {b:Nat} {cs:Array Value} (h:fB w b cs) (o:Obj):fB (w.alloc o) b cs:=by
 have hlt:=h.lt;obtain⟨T,h⟩:=h;exact⟨T,by rw[Below.heap_alloc _ _ _ hlt];exact h⟩
theorem fB.kept {w w':World} {b:Nat} {cs:Array Value} (h:fB w b cs) (hb:Below w.heap.size w w'):fB w' b cs:=by
 have hlt:=h.lt;obtain⟨T,h⟩:=h;exact⟨T,by rw[hb.block b hlt];exact h⟩
theorem fB.setRow {w:World} {b:Nat} {cs:Array Value} (h:fB w b cs) (cs':Array Value):fB (w.setRow b cs') b cs':=by
 obtain⟨T,h⟩:=h;exact⟨T,setRow_heap w b _ _ T _ h⟩
theorem fB.aG {w:World} {b:Nat} {cs:Array Value} (h:fB w b cs) (b':Nat) (hb:b≠b') (cs':Array Value):fB (w.setRow b' cs') b cs:=by
 obtain⟨T,h⟩:=h;exact⟨T,by rw[setRow_other w b' b cs' hb];exact h⟩
theorem fB.cell {w:World} {b:Nat} {cs:Array Value} (h:fB w b cs) (i:Nat) {v:Value} (hv:cs[i]? =some v):w.cell? ⟨b,i,none⟩=some v:=by
 obtain⟨T,h⟩:=h;rw[cell_of_row w b i _ T (0,0) h,hv]
section
variable {P : Program} {ops : Array Oper} {rest : List Oper} {o : Oper} {a : Act} {w : World} {Q : Exit -> Act -> World -> Prop}
theorem qc (hg:o.guard=none) (T:TypeId) (x:Operand) (ho:o.op=.load T x) (b:Nat) (cs:Array Value) {d:TypeDesc} (hu:P.underlying T=some d) (hd:Cr d=true) (hi:(P.info? T).map (·.size)=some cs.size) (hx:a.eval x=.pointer (some ⟨b,0,none⟩)) (h:fB w b cs)
  (hK:wpList P ops Q rest (a.put o.dst (.agg cs)) w):wpList P ops Q (o::rest) a w:=by
 obtain⟨t,ht⟩:=h;exact wpList_load_row hg T x ho b hx t cs (0,0) _ ht hu (by cases d<;> first | rfl | cases hd) hi hK
theorem CY {K:Act->World->Prop} (T:TypeId) (x y:Operand) (ho:o.op=.store T x y) (b:Nat) (cs cs':Array Value) (hs:cs.size=cs'.size) (h1:cs'.all (·.oneCell')=true)
  (hi:(P.info? T).map (·.size)=some cs'.size) (hx:a.eval x=.pointer (some ⟨b,0,none⟩)) (hy:a.eval y=.agg cs') (h:fB w b cs) (hK:K (a.put o.dst undef) (w.setRow b cs')):o.wp P a w K Q:=by
 obtain⟨t,ht⟩:=h;have hr:=run_storeVar_row (P:=P) w b t T cs cs' ht hi hs h1;unfold Oper.wp execOp;simp only[ho,hx,hy,Instr.storeAt,Instr.sureAddr,uD,xI,vG,hr];exact hK
theorem nU (hg:o.guard=none) (T:TypeId) (x y:Operand) (ho:o.op=.store T x y) (b:Nat) (cs cs':Array Value) (hs:cs.size=cs'.size) (h1:cs'.all (·.oneCell')=true)
  (hi:(P.info? T).map (·.size)=some cs'.size) (hx:a.eval x=.pointer (some ⟨b,0,none⟩)) (hy:a.eval y=.agg cs') (h:fB w b cs) (hK:wpList P ops Q rest (a.put o.dst undef) (w.setRow b cs')):wpList P ops Q (o::rest) a w:=
 wpList_plain hg fun _ hK'=>CY T x y ho b cs cs' hs h1 hi hx hy h (hK' _ _ hK)
theorem nD {fn:Func} {p:Tmp} {T:TypeId} (h:fn.results=#[.cell p T]) (tmps:Array Value) (w:World) (b:Nat) (cs:Array Value) {d:TypeDesc}
  (hp:tmps.getD p undef=.pointer (some ⟨b,0,none⟩)) (ha:fB w b cs) (hu:P.underlying T=some d) (hd:Cr d=true) (hi:(P.info? T).map (·.size)=some cs.size):(results fn tmps).run P w=.ok (.agg cs) w:=by
 obtain⟨t,ht⟩:=ha;exact results_cell_row h tmps w b t cs (0,0) _ hp ht hu (by cases d<;> first | rfl | cases hd) hi
end
theorem fB.free {w:World} {b:Nat} {cs:Array Value} (h:fB w b cs) (i:Nat):w.frozen? ⟨b,i,none⟩=false:=by
 obtain⟨T,h⟩:=h;exact frozen_of_row w b i _ T h
theorem fB.set {w:World} {b:Nat} {cs:Array Value} (h:fB w b cs) (j:Nat) (v:Value):fB (w.setCell ⟨b,j,none⟩ v) b (cs.setIfInBounds j v):=by
 obtain⟨T,h⟩:=h;exact⟨T,heap_setCell_same w b j _ T _ h⟩
theorem fB.AJ {w:World} {b:Nat} {x y z:Value} (h:fB w b #[x,y,z]) (v1 v2 v3:Value):fB (((w.setCell ⟨b,0,none⟩ v1).setCell ⟨b,1,none⟩ v2).setCell ⟨b,2,none⟩ v3) b #[v1,v2,v3] :=by
 have h1:=((h.set 0 v1).set 1 v2).set 2 v3
 simpa using h1
theorem Rd.abC {k:IntKind} {w:World} {v:Value} {n:Nat} {f:Nat->Int} {b:Nat} {cs:Array Value} (h:Rd k w v n f) (hr:fB w b cs) (hcs:∀(i:Nat) (x:Value),cs[i]? =some x->∃a n c,x=Value.slice a n c) (j:Nat) (u:Value):Rd k (w.setCell ⟨b,j,none⟩ u) v n f:=by
 obtain⟨a,c,rfl,h1,h2,h3,h4⟩:=h;refine⟨a,c,rfl,h1,h2,h3,fun hn=>?_⟩;obtain⟨b',o,rfl,hlt,hc⟩:=h4 hn;have gB:b'≠b:=by
  rintro rfl;obtain⟨T,hT⟩:=hr;have h0:=hc 0 hn;rw[cell_of_row w b' _ _ T (0,0) hT] at h0;obtain⟨_,_,_,e⟩:=hcs _ _ h0;cases e
 refine⟨b',o,rfl,by simpa using hlt,fun i hi=>?_⟩;rw[<-hc i hi];exact World.cell?_of_block (heap_setCell_other w ⟨b,j,none⟩ b' u gB)
theorem kR {v1 v2 v3:Value} (h1:∃a n c,v1=.slice a n c) (h2:∃a n c,v2=.slice a n c) (h3:∃a n c,v3=.slice a n c):∀(i:Nat) (x:Value),(#[v1,v2,v3] :Array Value)[i]? =some x->∃a n c,x=Value.slice a n c:=by
 intro i x hx;rcases i with _ | _ | _ | i
 ·obtain rfl:=iy hx;exact h1
 ·obtain rfl:=iy hx;exact h2
 ·obtain rfl:=iy hx;exact h3
 ·simp at hx
theorem Rd.AJ {k:IntKind} {w:World} {v:Value} {n:Nat} {f:Nat->Int} {b:Nat} {x y z v1 v2 v3:Value} (h:Rd k w v n f) (hr:fB w b #[x,y,z]) (hx:∃a n c,x=.slice a n c) (hy:∃a n c,y=.slice a n c) (hz:∃a n c,z=.slice a n c) (h1:∃a n c,v1=.slice a n c) (h2:∃a n c,v2=.slice a n c):
  Rd k (((w.setCell ⟨b,0,none⟩ v1).setCell ⟨b,1,none⟩ v2).setCell ⟨b,2,none⟩ v3) v n f:=by
 have r1:fB (w.setCell ⟨b,0,none⟩ v1) b #[v1,y,z] :=by simpa using hr.set 0 v1
 have r2:fB ((w.setCell ⟨b,0,none⟩ v1).setCell ⟨b,1,none⟩ v2) b #[v1,v2,z] :=by simpa using r1.set 1 v2
 exact((h.abC hr (kR hx hy hz) 0 v1).abC r1 (kR h1 hy hz) 1 v2).abC r2 (kR h1 h2 hz) 2 v3
theorem vD {B b:Nat} {w0 w:World} (hB:B<=b) (h:Below B w0 w) (v1 v2 v3:Value):Below B w0 (((w.setCell ⟨b,0,none⟩ v1).setCell ⟨b,1,none⟩ v2).setCell ⟨b,2,none⟩ v3):=((h.setCell hB _).setCell hB _).setCell hB _
theorem Rd.isSlice {k:IntKind} {w:World} {v:Value} {n:Nat} {f:Nat->Int} (h:Rd k w v n f):∃a n c,v=.slice a n c:=by
 obtain⟨a,c,h,_⟩:=h;exact⟨a,n,c,h⟩
theorem TY {v1 v2 v3:Value} (h1:∃a n c,v1=.slice a n c) (h2:∃a n c,v2=.slice a n c) (h3:∃a n c,v3=.slice a n c):(#[v1,v2,v3] :Array Value).all (·.oneCell')=true:=by
 obtain⟨_,_,_,rfl⟩:=h1;obtain⟨_,_,_,rfl⟩:=h2;obtain⟨_,_,_,rfl⟩:=h3;show ([_,_,_] :List Value).toArray.all _=true;rw[List.all_toArray];rfl
end Go.bC
namespace Go.bC
def raL (X Y Z U V R D:Int):Int:=(Z * R) * (Z * R) - D * ((X * U) * (Y * V))
def raM (X Y Z U V R D:Int):Int:=(Z * R) * (Z * R)+D * ((X * U) * (Y * V))
def raC (X Y U V:Int):Int:=(X+Y) * (U+V) - X * U - Y * V
def raX (X Y Z U V R D:Int):Int:=(Z * R) * (raL X Y Z U V R D * raC X Y U V)
def raY (X Y Z U V R D:Int):Int:=(Z * R) * (raM X Y Z U V R D * (Y * V+X * U))
def raZ (X Y Z U V R D:Int):Int:=raL X Y Z U V R D * raM X Y Z U V R D
end Go.bC
namespace Go.bC
open Go.RowKit
theorem Kl (f g h e x:Nat->Int) (i:Nat) (_:i<64):laid (pt f g h e) 0 16 x i=pt x g h e i:=by
 unfold laid pt
 repeat' split
 all_goals first | rfl | (exfalso;omega) | (congr 1;omega)
theorem Kk (f g h e x:Nat->Int) (i:Nat) (_:i<64):laid (pt f g h e) 16 16 x i=pt f x h e i:=by
 unfold laid pt
 repeat' split
 all_goals first | rfl | (exfalso;omega) | (congr 1;omega)
theorem Kj (f g h e x:Nat->Int) (i:Nat) (_:i<64):laid (pt f g h e) 32 16 x i=pt f g x e i:=by
 unfold laid pt
 repeat' split
 all_goals first | rfl | (exfalso;omega) | (congr 1;omega)
theorem Ki (f g h e x:Nat->Int) (i:Nat) (_:i<64):laid (pt f g h e) 48 16 x i=pt f g h x i:=by
 unfold laid pt
 repeat' split
 all_goals first | rfl | (exfalso;omega) | (congr 1;omega)
theorem Fh {P:Program} {o:Oper} {a:Act} {w:World} {v:Value} {S:Value->World->Prop} {E:World->Prop} {Q:Exit->Act->World->Prop} (hd:∀h:o.dst=none,v=undef) (hr:(execOp a.eval o).run P w=.ok (.value v) w) (hs:S v w) (hE:E w):
  o.wp P a w (fun a' w'=> ∃v,a'=a.put o.dst v/\(o.dst=none->v=undef)/\S v w'/\E w') Q:=by
 unfold Oper.wp;rw[hr];exact⟨v,rfl,fun h=>hd h,hs,hE⟩
theorem gD {P:Program} {w:World} {k:IntKind} {b off n m:Nat} {f:Nat->Int} (h:aQ k w b n f) (hm:off+m<=n) (g:Nat->Int):(storeCells ⟨b,off,none⟩ (arr k m g).toList).run P w=.ok () (w.setCells b off (vals k m g)):=by
 have hv:(arr k m g).toList=vals k m g:=rfl;rw[hv];have h1:=run_storeCells_cells (P:=P) b off (vals k m g) 0 w (fun j hj=>by rw[dO] at hj;rw[Nat.add_zero,h.cell (off+j) aH];rfl) (fun j hj=>h.free _) (fun v hv=>by obtain⟨_,_,rfl⟩:=List.mem_map.1 hv;rfl)
 simpa using h1
end Go.bC
namespace Go.Proofs.YtpcjekgfnfjbpaaGreat
open Go.RowKit Go.bC Go.ChangeShapes
attribute [local go_sem ↓] Go.wp_at_zero Go.wp_at_succ
theorem Tryz.size144:(Tryz.prog.info? 144).map (·.size)=some 3:=by kernel_rfl
theorem Oo (vx vy:Value) (X Y:Int) (w:World) (hx:Rd .i64 w vx 16 (dg 65536 X)) (hy:Rd .i64 w vy 16 (dg 65536 Y)):
  Calls Tryz.prog 149 #[vx,vy] w fun e w'=> ∃vz,e=.returned (.agg #[vx,vy,vz])/\Rd .i64 w' vz 16 (dg 65536 (1 % Pr))/\Below w.heap.size w w':=by
 obtain⟨a1,n1,c1,e1⟩:=hx.isSlice;obtain⟨a2,n2,c2,e2⟩:=hy.isSlice;subst e1;subst e2;clear hx hy
 go_enter Tryz.func149,Tryz.ntmps149
 go_upto_region 1 with(fail);refine aJ (fun w1=>fB w1 w.heap.size #[.slice none 0 0,.slice none 0 0,.slice none 0 0] /\Below w.heap.size w w1) ⟨fB.newAt rfl,(bT _ _).alloc (bB _) _⟩ ?_;rintro w1 ⟨hR,aA⟩;go_wp2_with fail;refine(nK 1 aN aN aN _).mono ?_;rintro e wa ⟨vz,rfl,hv,hb⟩;have Hz:=ak hv;replace hR:=hR.kept hb;replace aA:=aA.trans (hb.mono aA.size);clear hv hb;obtain⟨a3,n3,c3,e3⟩:=Hz.out.isSlice;subst e3;have e0:=hR.cell 0 rfl;have e1:=hR.cell 1 rfl;have e2:=hR.cell 2 rfl;have f0:=hR.free 0;have f1:=hR.free 1;have f2:=hR.free 2;have HR:=ak hR;clear hR;go_wp2;have mO:=HR.out.AJ (Value.slice a1 n1 c1) (Value.slice a2 n2 c2) (Value.slice a3 n3 c3);have hz3:=Hz.out.AJ (v1:=Value.slice a1 n1 c1) (v2:=Value.slice a2 n2 c2) (v3:=Value.slice a3 n3 c3) HR.out ⟨_,_,_,rfl⟩ ⟨_,_,_,rfl⟩ ⟨_,_,_,rfl⟩ ⟨_,_,_,rfl⟩ ⟨_,_,_,rfl⟩;exact bodyPost_ret (nD rfl _ _ w.heap.size _ rfl mO Tryz.underlying144 rfl Tryz.size144) rfl ⟨_,rfl,hz3,vD (bB _) aA _ _ _⟩
theorem TI (x y z u v r d:Value) (X Y Z U V R D:Int) (w:World) (hx:Rd .i64 w x 16 (dg 65536 (X % Pr))) (hy:Rd .i64 w y 16 (dg 65536 (Y % Pr))) (hz:Rd .i64 w z 16 (dg 65536 (Z % Pr)))
  (hu:Rd .i64 w u 16 (dg 65536 (U % Pr))) (hv:Rd .i64 w v 16 (dg 65536 (V % Pr))) (hr:Rd .i64 w r 16 (dg 65536 (R % Pr))) (hd:Rd .i64 w d 16 (dg 65536 (D % Pr))):
  Calls Tryz.prog 150 #[.agg #[x,y,z],.agg #[u,v,r],d] w fun e w'=> ∃a b c,e=.returned (.agg #[a,b,c])/\(Rd .i64 w' a 16 (dg 65536 (raX X Y Z U V R D % Pr))/\Rd .i64 w' b 16 (dg 65536 (raY X Y Z U V R D % Pr))/\Rd .i64 w' c 16 (dg 65536 (raZ X Y Z U V R D % Pr)))/\Below w.heap.size w w':=by
 obtain⟨x1,x2,x3,ex⟩:=hx.isSlice;subst ex;obtain⟨y1,y2,y3,ey⟩:=hy.isSlice;subst ey;obtain⟨z1,z2,z3,ez⟩:=hz.isSlice;subst ez;obtain⟨u1,u2,u3,eu⟩:=hu.isSlice;subst eu;obtain⟨v1,v2,v3,ev⟩:=hv.isSlice;subst ev;obtain⟨r1,r2,r3,er⟩:=hr.isSlice;subst er;have Hx:=ak hx;have Hy:=ak hy;have Hz:=ak hz;have Hu:=ak hu;have Hv:=ak hv;have Hr:=ak hr;have Hd:=ak hd;clear hx hy hz hu hv hr hd
 go_enter Tryz.func150,Tryz.ntmps150
 go_upto_region 1 with(fail);refine aJ (fun w1=>fB w1 w.heap.size #[(.slice x1 x2 x3),(.slice y1 y2 y3),(.slice z1 z2 z3)] /\fB w1 (w.heap.size+1) #[(.slice u1 u2 u3),(.slice v1 v2 v3),(.slice r1 r2 r3)] /\fB w1 (w.heap.size+2) #[.slice none 0 0,.slice none 0 0,.slice none 0 0] /\Below w.heap.size w w1) ⟨.alloc (.alloc (fB.newAt rfl) _) _,.alloc (fB.newAt (by first | omega | (simp<;> omega))) _,fB.newAt (by first | omega | (simp<;> omega)),(((bT _ _).alloc (bB _) _).alloc (by first | omega | (simp<;> omega)) _).alloc (by first | omega | (simp<;> omega)) _⟩ ?_;rintro w1 ⟨fQ,gI,mO,aA⟩;replace Hx:=ak (Hx.out.below aA);replace Hy:=ak (Hy.out.below aA);replace Hz:=ak (Hz.out.below aA);replace Hu:=ak (Hu.out.below aA);replace Hv:=ak (Hv.out.below aA);replace Hr:=ak (Hr.out.below aA);replace Hd:=ak (Hd.out.below aA);have e10:=fQ.cell 0 rfl;have e20:=gI.cell 0 rfl;have e11:=fQ.cell 1 rfl;have e21:=gI.cell 1 rfl;have e12:=fQ.cell 2 rfl;have e22:=gI.cell 2 rfl;go_wp2_with fail;refine(dF Z R _ _ _ Hz.out Hr.out).mono ?_;rintro e apA ⟨va,rfl,hv,hb⟩;have Ha:=ak hv;replace Hx:=ak (Hx.out.below hb);replace Hy:=ak (Hy.out.below hb);replace Hz:=ak (Hz.out.below hb);replace Hu:=ak (Hu.out.below hb);replace Hv:=ak (Hv.out.below hb);replace Hr:=ak (Hr.out.below hb);replace Hd:=ak (Hd.out.below hb);replace fQ:=fQ.kept hb;replace gI:=gI.kept hb;replace mO:=mO.kept hb;replace e10:=fQ.cell 0 rfl;replace e20:=gI.cell 0 rfl;replace e11:=fQ.cell 1 rfl;replace e21:=gI.cell 1 rfl;replace e12:=fQ.cell 2 rfl;replace e22:=gI.cell 2 rfl;replace aA:=aA.trans (hb.mono aA.size);clear hv hb;go_wp2_with fail;refine(dF (Z * R) (Z * R) _ _ _ Ha.out Ha.out).mono ?_;rintro e apz ⟨vb,rfl,hv,hb⟩;have Hb:=ak hv;replace Hx:=ak (Hx.out.below hb);replace Hy:=ak (Hy.out.below hb);replace Hz:=ak (Hz.out.below hb);replace Hu:=ak (Hu.out.below hb);replace Hv:=ak (Hv.out.below hb);replace Hr:=ak (Hr.out.below hb);replace Hd:=ak (Hd.out.below hb);replace Ha:=ak (Ha.out.below hb);replace fQ:=fQ.kept hb;replace gI:=gI.kept hb;replace mO:=mO.kept hb;replace e10:=fQ.cell 0 rfl;replace e20:=gI.cell 0 rfl;replace e11:=fQ.cell 1 rfl;replace e21:=gI.cell 1 rfl;replace e12:=fQ.cell 2 rfl;replace e22:=gI.cell 2 rfl;replace aA:=aA.trans (hb.mono aA.size);clear hv hb;go_wp2_with fail;refine(dF X U _ _ _ Hx.out Hu.out).mono ?_;rintro e apy ⟨vc,rfl,hv,hb⟩;have Hc:=ak hv;replace Hx:=ak (Hx.out.below hb);replace Hy:=ak (Hy.out.below hb);replace Hz:=ak (Hz.out.below hb);replace Hu:=ak (Hu.out.below hb);replace Hv:=ak (Hv.out.below hb);replace Hr:=ak (Hr.out.below hb);replace Hd:=ak (Hd.out.below hb);replace Ha:=ak (Ha.out.below hb);replace Hb:=ak (Hb.out.below hb);replace fQ:=fQ.kept hb;replace gI:=gI.kept hb;replace mO:=mO.kept hb;replace e10:=fQ.cell 0 rfl;replace e20:=gI.cell 0 rfl;replace e11:=fQ.cell 1 rfl;replace e21:=gI.cell 1 rfl;replace e12:=fQ.cell 2 rfl;replace e22:=gI.cell 2 rfl;replace aA:=aA.trans (hb.mono aA.size);clear hv hb;go_wp2_with fail;refine(dF Y V _ _ _ Hy.out Hv.out).mono ?_;rintro e apx ⟨ve,rfl,hv,hb⟩;have He:=ak hv;replace Hx:=ak (Hx.out.below hb);replace Hy:=ak (Hy.out.below hb);replace Hz:=ak (Hz.out.below hb);replace Hu:=ak (Hu.out.below hb);replace Hv:=ak (Hv.out.below hb);replace Hr:=ak (Hr.out.below hb);replace Hd:=ak (Hd.out.below hb);replace Ha:=ak (Ha.out.below hb);replace Hb:=ak (Hb.out.below hb);replace Hc:=ak (Hc.out.below hb);replace fQ:=fQ.kept hb;replace gI:=gI.kept hb;replace mO:=mO.kept hb;replace e10:=fQ.cell 0 rfl;replace e20:=gI.cell 0 rfl;replace e11:=fQ.cell 1 rfl;replace e21:=gI.cell 1 rfl;replace e12:=fQ.cell 2 rfl;replace e22:=gI.cell 2 rfl;replace aA:=aA.trans (hb.mono aA.size);clear hv hb;go_wp2_with fail;refine(dF (X * U) (Y * V) _ _ _ Hc.out He.out).mono ?_;rintro e amk ⟨vce,rfl,hv,hb⟩;have Hce:=ak hv;replace Hx:=ak (Hx.out.below hb);replace Hy:=ak (Hy.out.below hb);replace Hz:=ak (Hz.out.below hb);replace Hu:=ak (Hu.out.below hb);replace Hv:=ak (Hv.out.below hb);replace Hr:=ak (Hr.out.below hb);replace Hd:=ak (Hd.out.below hb);replace Ha:=ak (Ha.out.below hb);replace Hb:=ak (Hb.out.below hb);replace Hc:=ak (Hc.out.below hb);replace He:=ak (He.out.below hb);replace fQ:=fQ.kept hb;replace gI:=gI.kept hb;replace mO:=mO.kept hb;replace e10:=fQ.cell 0 rfl;replace e20:=gI.cell 0 rfl;replace e11:=fQ.cell 1 rfl;replace e21:=gI.cell 1 rfl;replace e12:=fQ.cell 2 rfl;replace e22:=gI.cell 2 rfl;replace aA:=aA.trans (hb.mono aA.size);clear hv hb;go_wp2_with fail;refine(dF D ((X * U) * (Y * V)) _ _ _ Hd.out Hce.out).mono ?_;rintro e apw ⟨vf,rfl,hv,hb⟩;have Hf:=ak hv;replace Hx:=ak (Hx.out.below hb);replace Hy:=ak (Hy.out.below hb);replace Hz:=ak (Hz.out.below hb);replace Hu:=ak (Hu.out.below hb);replace Hv:=ak (Hv.out.below hb);replace Hr:=ak (Hr.out.below hb);replace Hd:=ak (Hd.out.below hb);replace Ha:=ak (Ha.out.below hb);replace Hb:=ak (Hb.out.below hb);replace Hc:=ak (Hc.out.below hb);replace He:=ak (He.out.below hb);replace Hce:=ak (Hce.out.below hb);replace fQ:=fQ.kept hb;replace gI:=gI.kept hb;replace mO:=mO.kept hb;replace e10:=fQ.cell 0 rfl;replace e20:=gI.cell 0 rfl;replace e11:=fQ.cell 1 rfl;replace e21:=gI.cell 1 rfl;replace e12:=fQ.cell 2 rfl;replace e22:=gI.cell 2 rfl;replace aA:=aA.trans (hb.mono aA.size);clear hv hb;go_wp2_with fail;refine(jA ((Z * R) * (Z * R)) (D * ((X * U) * (Y * V))) _ _ _ Hb.out Hf.out).mono ?_;rintro e apv ⟨vl,rfl,hv,hb⟩;have Hl:=ak hv;replace Hx:=ak (Hx.out.below hb);replace Hy:=ak (Hy.out.below hb);replace Hz:=ak (Hz.out.below hb);replace Hu:=ak (Hu.out.below hb);replace Hv:=ak (Hv.out.below hb);replace Hr:=ak (Hr.out.below hb);replace Hd:=ak (Hd.out.below hb);replace Ha:=ak (Ha.out.below hb);replace Hb:=ak (Hb.out.below hb);replace Hc:=ak (Hc.out.below hb);replace He:=ak (He.out.below hb);replace Hf:=ak (Hf.out.below hb);replace fQ:=fQ.kept hb;replace gI:=gI.kept hb;replace mO:=mO.kept hb;replace e10:=fQ.cell 0 rfl;replace e20:=gI.cell 0 rfl;replace e11:=fQ.cell 1 rfl;replace e21:=gI.cell 1 rfl;replace e12:=fQ.cell 2 rfl;replace e22:=gI.cell 2 rfl;replace aA:=aA.trans (hb.mono aA.size);clear hv hb;go_wp2_with fail;refine(jB ((Z * R) * (Z * R)) (D * ((X * U) * (Y * V))) _ _ _ Hb.out Hf.out).mono ?_;rintro e apu ⟨vm,rfl,hv,hb⟩;have Hm:=ak hv;replace Hx:=ak (Hx.out.below hb);replace Hy:=ak (Hy.out.below hb);replace Hz:=ak (Hz.out.below hb);replace Hu:=ak (Hu.out.below hb);replace Hv:=ak (Hv.out.below hb);replace Hr:=ak (Hr.out.below hb);replace Hd:=ak (Hd.out.below hb);replace Ha:=ak (Ha.out.below hb);replace Hb:=ak (Hb.out.below hb);replace Hc:=ak (Hc.out.below hb);replace He:=ak (He.out.below hb);replace Hf:=ak (Hf.out.below hb);replace Hl:=ak (Hl.out.below hb);replace fQ:=fQ.kept hb;replace gI:=gI.kept hb;replace mO:=mO.kept hb;replace e10:=fQ.cell 0 rfl;replace e20:=gI.cell 0 rfl;replace e11:=fQ.cell 1 rfl;replace e21:=gI.cell 1 rfl;replace e12:=fQ.cell 2 rfl;replace e22:=gI.cell 2 rfl;replace aA:=aA.trans (hb.mono aA.size);clear hv hb;have hl1:=fQ.lt;have hl2:=gI.lt;go_upto_region 8 with(fail)
 refine aX (n:=75) aS aS aS rfl
  (fun ii vv ww=>(match ii with | 0=>vv=.pointer (some ⟨w.heap.size,0,none⟩) | 1=>vv=.slice x1 x2 x3 | 2=>vv=.pointer (some ⟨w.heap.size,1,none⟩) | 3=>vv=.slice y1 y2 y3 | 5=>vv=.pointer (some ⟨(w.heap.size+1),0,none⟩) | 6=>vv=.slice u1 u2 u3 | 7=>vv=.pointer (some ⟨(w.heap.size+1),1,none⟩) | 8=>vv=.slice v1 v2 v3 | 11=>vv=vc | 13=>vv=ve | _=>True)/\(ii=4->Rd .i64 ww vv 16 (dg 65536 (((X+Y)) % Pr)))/\(ii=9->Rd .i64 ww vv 16 (dg 65536 (((U+V)) % Pr)))/\(ii=10->Rd .i64 ww vv 16 (dg 65536 ((((X+Y) * (U+V))) % Pr)))/\(ii=12->Rd .i64 ww vv 16 (dg 65536 (((((X+Y) * (U+V)) - (X * U))) % Pr)))/\(ii=14->Rd .i64 ww vv 16 (dg 65536 ((((((X+Y) * (U+V)) - (X * U)) - (Y * V))) % Pr)))/\(ii=15->Rd .i64 ww vv 16 (dg 65536 ((((((X+Y) * (U+V)) - (X * U)) - (Y * V))) % Pr))))
  (fun w w'=>Below w.heap.size w w') (fun _ _ h=>h) (fun i v w w' h hE=>⟨h.1,fun e=>Rd.below (h.2.1 e) hE,fun e=>Rd.below (h.2.2.1 e) hE,fun e=>Rd.below (h.2.2.2.1 e) hE,fun e=>Rd.below (h.2.2.2.2.1 e) hE,fun e=>Rd.below (h.2.2.2.2.2.1 e) hE,fun e=>Rd.below (h.2.2.2.2.2.2 e) hE⟩) ?_ ?_
 ·refine cB ?_;refine⟨?_,?_,?_,?_,?_,?_,?_,?_,?_,?_,?_,?_,?_,?_,?_,?_,trivial⟩
  ·intro a w2 hB hF hd;refine aO <| aT (bP (m:=0) (k:=0) rfl (hF.same 3 rfl) aS) ?_;exact⟨rfl,aL,aL,aL,aL,aL,aL⟩
  ·intro a w2 hB hF hd;exact aO <| aT (jD rfl ((hd 0 _ rfl (aj rfl)).1) uP ((hB.cell (p:=⟨w.heap.size,0,none⟩) hl1).trans e10)) ⟨rfl,aL,aL,aL,aL,aL,aL⟩
  ·intro a w2 hB hF hd;refine aO <| aT (bP (m:=0) (k:=1) rfl (hF.same 3 rfl) aS) ?_;exact⟨rfl,aL,aL,aL,aL,aL,aL⟩
  ·intro a w2 hB hF hd;exact aO <| aT (jD rfl ((hd 2 _ rfl (aj rfl)).1) uP ((hB.cell (p:=⟨w.heap.size,1,none⟩) hl1).trans e11)) ⟨rfl,aL,aL,aL,aL,aL,aL⟩
  ·intro a w2 hB hF hd;refine aO <| aD _ _ _ rfl Tryz.call124 _ (args2 ((hd 1 _ rfl (aj rfl)).1) ((hd 3 _ rfl (aj rfl)).1)) aR ((jB X Y _ _ w2 (Hx.out.below hB) (Hy.out.below hB)).mono ?_);rintro e w3 ⟨u,rfl,hr,hb⟩;exact⟨u,rfl,⟨trivial,fun _=>hr,aL,aL,aL,aL,aL⟩,hb⟩
  ·intro a w2 hB hF hd;refine aO <| aT (bP (m:=0) (k:=0) rfl (hF.same 4 rfl) aS) ?_;exact⟨rfl,aL,aL,aL,aL,aL,aL⟩
  ·intro a w2 hB hF hd;exact aO <| aT (jD rfl ((hd 5 _ rfl (aj rfl)).1) uP ((hB.cell (p:=⟨(w.heap.size+1),0,none⟩) hl2).trans e20)) ⟨rfl,aL,aL,aL,aL,aL,aL⟩
  ·intro a w2 hB hF hd;refine aO <| aT (bP (m:=0) (k:=1) rfl (hF.same 4 rfl) aS) ?_;exact⟨rfl,aL,aL,aL,aL,aL,aL⟩
  ·intro a w2 hB hF hd;exact aO <| aT (jD rfl ((hd 7 _ rfl (aj rfl)).1) uP ((hB.cell (p:=⟨(w.heap.size+1),1,none⟩) hl2).trans e21)) ⟨rfl,aL,aL,aL,aL,aL,aL⟩
  ·intro a w2 hB hF hd;refine aO <| aD _ _ _ rfl Tryz.call124 _ (args2 ((hd 6 _ rfl (aj rfl)).1) ((hd 8 _ rfl (aj rfl)).1)) aR ((jB U V _ _ w2 (Hu.out.below hB) (Hv.out.below hB)).mono ?_);rintro e w3 ⟨u,rfl,hr,hb⟩;exact⟨u,rfl,⟨trivial,aL,fun _=>hr,aL,aL,aL,aL⟩,hb⟩
  ·intro a w2 hB hF hd;refine aO <| aD _ _ _ rfl Tryz.call126 _ (args2 rfl rfl) aR ((dF (X+Y) (U+V) _ _ w2 ((hd 4 _ rfl (aj rfl)).2.1 rfl) ((hd 9 _ rfl (aj rfl)).2.2.1 rfl)).mono ?_);rintro e w3 ⟨u,rfl,hr,hb⟩;exact⟨u,rfl,⟨trivial,aL,aL,fun _=>hr,aL,aL,aL⟩,hb⟩
  ·intro a w2 hB hF hd;exact aO <| aB _ (.inl rfl) aR ⟨(hF.same 9 rfl),aL,aL,aL,aL,aL,aL⟩
  ·intro a w2 hB hF hd;refine aO <| aD _ _ _ rfl Tryz.call125 _ (args2 rfl ((hd 11 _ rfl (aj rfl)).1)) aR ((jA ((X+Y) * (U+V)) (X * U) _ _ w2 ((hd 10 _ rfl (aj rfl)).2.2.2.1 rfl) (Hc.out.below hB)).mono ?_);rintro e w3 ⟨u,rfl,hr,hb⟩;exact⟨u,rfl,⟨trivial,aL,aL,aL,fun _=>hr,aL,aL⟩,hb⟩
  ·intro a w2 hB hF hd;exact aO <| aB _ (.inl rfl) aR ⟨(hF.same 10 rfl),aL,aL,aL,aL,aL,aL⟩
  ·intro a w2 hB hF hd;refine aO <| aD _ _ _ rfl Tryz.call125 _ (args2 rfl ((hd 13 _ rfl (aj rfl)).1)) aR ((jA (((X+Y) * (U+V)) - (X * U)) (Y * V) _ _ w2 ((hd 12 _ rfl (aj rfl)).2.2.2.2.1 rfl) (He.out.below hB)).mono ?_);rintro e w3 ⟨u,rfl,hr,hb⟩;exact⟨u,rfl,⟨trivial,aL,aL,aL,aL,fun _=>hr,aL⟩,hb⟩
  ·intro a w2 hB hF hd;exact aO <| aB _ (.inr rfl) aR ⟨trivial,aL,aL,aL,aL,aL,fun _=>((hd 14 _ rfl (aj rfl)).2.2.2.2.2.1 rfl)⟩
 ·intro a w8 hB hF hS;obtain⟨x48,acz⟩:∃x,x=a.tmps.getD 48 undef:=⟨_,rfl⟩
  have P48:Rd .i64 w8 x48 16 (dg 65536 (((X+Y)) % Pr)):=by rw[acz];exact(hS 4 _ rfl).2.1 rfl
  obtain⟨x53,acy⟩:∃x,x=a.tmps.getD 53 undef:=⟨_,rfl⟩
  have P53:Rd .i64 w8 x53 16 (dg 65536 (((U+V)) % Pr)):=by rw[acy];exact(hS 9 _ rfl).2.2.1 rfl
  obtain⟨x54,acw⟩:∃x,x=a.tmps.getD 54 undef:=⟨_,rfl⟩
  have P54:Rd .i64 w8 x54 16 (dg 65536 ((((X+Y) * (U+V))) % Pr)):=by rw[acw];exact(hS 10 _ rfl).2.2.2.1 rfl
  obtain⟨x56,acv⟩:∃x,x=a.tmps.getD 56 undef:=⟨_,rfl⟩
  have P56:Rd .i64 w8 x56 16 (dg 65536 (((((X+Y) * (U+V)) - (X * U))) % Pr)):=by rw[acv];exact(hS 12 _ rfl).2.2.2.2.1 rfl
  obtain⟨x58,acs⟩:∃x,x=a.tmps.getD 58 undef:=⟨_,rfl⟩
  have P58:Rd .i64 w8 x58 16 (dg 65536 ((((((X+Y) * (U+V)) - (X * U)) - (Y * V))) % Pr)):=by rw[acs];exact(hS 14 _ rfl).2.2.2.2.2.1 rfl
  obtain⟨x14,acF⟩:∃x,x=a.tmps.getD 14 undef:=⟨_,rfl⟩
  have P14:Rd .i64 w8 x14 16 (dg 65536 ((((((X+Y) * (U+V)) - (X * U)) - (Y * V))) % Pr)):=by rw[acF];exact(hS 15 _ rfl).2.2.2.2.2.2 rfl
  have ha:=aP rfl rfl hF [_,_,_,_,x48,_,_,_,_,x53,x54,_,x56,_,x58,x14] rfl ⟨(hS 0 _ rfl).1,(hS 1 _ rfl).1,(hS 2 _ rfl).1,(hS 3 _ rfl).1,acz.symm,(hS 5 _ rfl).1,(hS 6 _ rfl).1,(hS 7 _ rfl).1,(hS 8 _ rfl).1,acy.symm,acw.symm,(hS 11 _ rfl).1,acv.symm,(hS 13 _ rfl).1,acs.symm,acF.symm,trivial⟩;simp only[puts,Act.put,dK,dL,dM] at ha;subst ha;clear acz acy acw acv acs acF;clear hS hF;replace Hx:=ak (Hx.out.below hB);replace Hy:=ak (Hy.out.below hB);replace Hz:=ak (Hz.out.below hB);replace Hu:=ak (Hu.out.below hB);replace Hv:=ak (Hv.out.below hB);replace Hr:=ak (Hr.out.below hB);replace Hd:=ak (Hd.out.below hB);replace Ha:=ak (Ha.out.below hB);replace Hb:=ak (Hb.out.below hB);replace Hc:=ak (Hc.out.below hB);replace He:=ak (He.out.below hB);replace Hf:=ak (Hf.out.below hB);replace Hl:=ak (Hl.out.below hB);replace Hm:=ak (Hm.out.below hB);replace fQ:=fQ.kept hB;replace gI:=gI.kept hB;replace mO:=mO.kept hB;replace e10:=fQ.cell 0 rfl;replace e20:=gI.cell 0 rfl;replace e11:=fQ.cell 1 rfl;replace e21:=gI.cell 1 rfl;replace e12:=fQ.cell 2 rfl;replace e22:=gI.cell 2 rfl;replace aA:=aA.trans (hB.mono aA.size);have RL:Hid (Rd .i64 w8 x14 16 (dg 65536 (raC X Y U V % Pr))):=P14;clear hB hl1 hl2 P48 P53 P54 P56 P58 P14;go_wp2_with fail;refine(dF ((Z * R) * (Z * R) - D * ((X * U) * (Y * V))) (raC X Y U V) _ _ _ Hl.out RL.out).mono ?_;rintro e amj ⟨vk1,rfl,hv,hb⟩;have Xa:=ak hv;replace Ha:=ak (Ha.out.below hb);replace Hb:=ak (Hb.out.below hb);replace Hc:=ak (Hc.out.below hb);replace He:=ak (He.out.below hb);replace Hf:=ak (Hf.out.below hb);replace Hl:=ak (Hl.out.below hb);replace Hm:=ak (Hm.out.below hb);replace RL:=ak (RL.out.below hb);replace fQ:=fQ.kept hb;replace gI:=gI.kept hb;replace mO:=mO.kept hb;replace e10:=fQ.cell 0 rfl;replace e20:=gI.cell 0 rfl;replace e11:=fQ.cell 1 rfl;replace e21:=gI.cell 1 rfl;replace e12:=fQ.cell 2 rfl;replace e22:=gI.cell 2 rfl;replace aA:=aA.trans (hb.mono aA.size);clear hv hb;go_wp2_with fail;refine(dF (Z * R) (((Z * R) * (Z * R) - D * ((X * U) * (Y * V))) * raC X Y U V) _ _ _ Ha.out Xa.out).mono ?_;rintro e ami ⟨vk2,rfl,hv,hb⟩;have Xz:=ak hv;replace Ha:=ak (Ha.out.below hb);replace Hb:=ak (Hb.out.below hb);replace Hc:=ak (Hc.out.below hb);replace He:=ak (He.out.below hb);replace Hf:=ak (Hf.out.below hb);replace Hl:=ak (Hl.out.below hb);replace Hm:=ak (Hm.out.below hb);replace RL:=ak (RL.out.below hb);replace Xa:=ak (Xa.out.below hb);replace fQ:=fQ.kept hb;replace gI:=gI.kept hb;replace mO:=mO.kept hb;replace e10:=fQ.cell 0 rfl;replace e20:=gI.cell 0 rfl;replace e11:=fQ.cell 1 rfl;replace e21:=gI.cell 1 rfl;replace e12:=fQ.cell 2 rfl;replace e22:=gI.cell 2 rfl;replace aA:=aA.trans (hb.mono aA.size);clear hv hb;go_wp2_with fail;refine(jB (Y * V) (X * U) _ _ _ He.out Hc.out).mono ?_;rintro e amh ⟨vk3,rfl,hv,hb⟩;have Hk3:=ak hv;replace Ha:=ak (Ha.out.below hb);replace Hb:=ak (Hb.out.below hb);replace Hc:=ak (Hc.out.below hb);replace He:=ak (He.out.below hb);replace Hf:=ak (Hf.out.below hb);replace Hl:=ak (Hl.out.below hb);replace Hm:=ak (Hm.out.below hb);replace RL:=ak (RL.out.below hb);replace Xa:=ak (Xa.out.below hb);replace Xz:=ak (Xz.out.below hb);replace fQ:=fQ.kept hb;replace gI:=gI.kept hb;replace mO:=mO.kept hb;replace e10:=fQ.cell 0 rfl;replace e20:=gI.cell 0 rfl;replace e11:=fQ.cell 1 rfl;replace e21:=gI.cell 1 rfl;replace e12:=fQ.cell 2 rfl;replace e22:=gI.cell 2 rfl;replace aA:=aA.trans (hb.mono aA.size);clear hv hb;go_wp2_with fail;refine(dF ((Z * R) * (Z * R)+D * ((X * U) * (Y * V))) (Y * V+X * U) _ _ _ Hm.out Hk3.out).mono ?_;rintro e amg ⟨vk4,rfl,hv,hb⟩;have Hk4:=ak hv;replace Ha:=ak (Ha.out.below hb);replace Hb:=ak (Hb.out.below hb);replace Hc:=ak (Hc.out.below hb);replace He:=ak (He.out.below hb);replace Hf:=ak (Hf.out.below hb);replace Hl:=ak (Hl.out.below hb);replace Hm:=ak (Hm.out.below hb);replace RL:=ak (RL.out.below hb);replace Xa:=ak (Xa.out.below hb);replace Xz:=ak (Xz.out.below hb);replace Hk3:=ak (Hk3.out.below hb);replace fQ:=fQ.kept hb;replace gI:=gI.kept hb;replace mO:=mO.kept hb;replace e10:=fQ.cell 0 rfl;replace e20:=gI.cell 0 rfl;replace e11:=fQ.cell 1 rfl;replace e21:=gI.cell 1 rfl;replace e12:=fQ.cell 2 rfl;replace e22:=gI.cell 2 rfl;replace aA:=aA.trans (hb.mono aA.size);clear hv hb;go_wp2_with fail;refine(dF (Z * R) (((Z * R) * (Z * R)+D * ((X * U) * (Y * V))) * (Y * V+X * U)) _ _ _ Ha.out Hk4.out).mono ?_;rintro e amf ⟨vk5,rfl,hv,hb⟩;have Hk5:=ak hv;replace Ha:=ak (Ha.out.below hb);replace Hb:=ak (Hb.out.below hb);replace Hc:=ak (Hc.out.below hb);replace He:=ak (He.out.below hb);replace Hf:=ak (Hf.out.below hb);replace Hl:=ak (Hl.out.below hb);replace Hm:=ak (Hm.out.below hb);replace RL:=ak (RL.out.below hb);replace Xa:=ak (Xa.out.below hb);replace Xz:=ak (Xz.out.below hb);replace Hk3:=ak (Hk3.out.below hb);replace Hk4:=ak (Hk4.out.below hb);replace fQ:=fQ.kept hb;replace gI:=gI.kept hb;replace mO:=mO.kept hb;replace e10:=fQ.cell 0 rfl;replace e20:=gI.cell 0 rfl;replace e11:=fQ.cell 1 rfl;replace e21:=gI.cell 1 rfl;replace e12:=fQ.cell 2 rfl;replace e22:=gI.cell 2 rfl;replace aA:=aA.trans (hb.mono aA.size);clear hv hb;go_wp2_with fail;refine(dF ((Z * R) * (Z * R) - D * ((X * U) * (Y * V))) ((Z * R) * (Z * R)+D * ((X * U) * (Y * V))) _ _ _ Hl.out Hm.out).mono ?_;rintro e ame ⟨vk6,rfl,hv,hb⟩;have Hk6:=ak hv;replace Ha:=ak (Ha.out.below hb);replace Hb:=ak (Hb.out.below hb);replace Hc:=ak (Hc.out.below hb);replace He:=ak (He.out.below hb);replace Hf:=ak (Hf.out.below hb);replace Hl:=ak (Hl.out.below hb);replace Hm:=ak (Hm.out.below hb);replace RL:=ak (RL.out.below hb);replace Xa:=ak (Xa.out.below hb);replace Xz:=ak (Xz.out.below hb);replace Hk3:=ak (Hk3.out.below hb);replace Hk4:=ak (Hk4.out.below hb);replace Hk5:=ak (Hk5.out.below hb);replace fQ:=fQ.kept hb;replace gI:=gI.kept hb;replace mO:=mO.kept hb;replace e10:=fQ.cell 0 rfl;replace e20:=gI.cell 0 rfl;replace e11:=fQ.cell 1 rfl;replace e21:=gI.cell 1 rfl;replace e12:=fQ.cell 2 rfl;replace e22:=gI.cell 2 rfl;replace aA:=aA.trans (hb.mono aA.size);clear hv hb;obtain⟨k2a,k2b,k2c,ek2⟩:=Xz.out.isSlice;subst ek2;obtain⟨k5a,k5b,k5c,ek5⟩:=Hk5.out.isSlice;subst ek5;obtain⟨k6a,k6b,k6c,ek6⟩:=Hk6.out.isSlice;subst ek6;have e30:=mO.cell 0 rfl;have e31:=mO.cell 1 rfl;have e32:=mO.cell 2 rfl;have f30:=mO.free 0;have f31:=mO.free 1;have f32:=mO.free 2;have HR3:=ak mO;clear mO fQ gI e10 e11 e12 e20 e21 e22;go_wp2;have hrow:=HR3.out.AJ (Value.slice k2a k2b k2c) (Value.slice k5a k5b k5c) (Value.slice k6a k6b k6c);have rk2:=Xz.out.AJ (v1:=(Value.slice k2a k2b k2c)) (v2:=(Value.slice k5a k5b k5c)) (v3:=(Value.slice k6a k6b k6c)) HR3.out ⟨_,_,_,rfl⟩ ⟨_,_,_,rfl⟩ ⟨_,_,_,rfl⟩ ⟨_,_,_,rfl⟩ ⟨_,_,_,rfl⟩;have rk5:=Hk5.out.AJ (v1:=(Value.slice k2a k2b k2c)) (v2:=(Value.slice k5a k5b k5c)) (v3:=(Value.slice k6a k6b k6c)) HR3.out ⟨_,_,_,rfl⟩ ⟨_,_,_,rfl⟩ ⟨_,_,_,rfl⟩ ⟨_,_,_,rfl⟩ ⟨_,_,_,rfl⟩;have rk6:=Hk6.out.AJ (v1:=(Value.slice k2a k2b k2c)) (v2:=(Value.slice k5a k5b k5c)) (v3:=(Value.slice k6a k6b k6c)) HR3.out ⟨_,_,_,rfl⟩ ⟨_,_,_,rfl⟩ ⟨_,_,_,rfl⟩ ⟨_,_,_,rfl⟩ ⟨_,_,_,rfl⟩;exact bodyPost_ret (nD rfl _ _ (w.heap.size+2) _ rfl hrow Tryz.underlying144 rfl Tryz.size144) rfl ⟨_,_,_,rfl,⟨rk2,rk5,rk6⟩,vD aH aA _ _ _⟩
abbrev Pt (f g h e:Nat->Int):Value:=.agg (arr .i64 64 (pt f g h e))
theorem Tryz.size193:(Tryz.prog.info? 193).map (·.size)=some 64:=by kernel_rfl
theorem Cj (f g h e:Nat->Int) (w:World):(Instr.build 193 #[(0,.agg (arr .i64 16 f)),(1,.agg (arr .i64 16 g)),(2,.agg (arr .i64 16 h)),(3,.agg (arr .i64 16 e))]).run Tryz.prog w=.ok (Pt f g h e) w:=
 Go.run_build w _ _ (arr .i64 64 (pt f g h e)) aS
def iU:Nat->Int:=iJ (aU (dD (aW 60832) (aW 60833)) (jL (dD (aW 60833) (aW 60833))))
def dN:Int:= -((60832+60833) * wY (60833+60833))
theorem nO (n:Int) (h:sG n=n):Fe (aW n) n:=by have:=nN n;rwa [h] at this
theorem oP:Fe (aW 60833) 60833:=nO _ aN
theorem OU:Fe (aW 60832) 60832:=nO _ aN
theorem KH:Fe (aW 0) 0:=nO _ aN
theorem rM:Fe (aW 1) 1:=nO _ aN
theorem jF:Fe iU dN:=((OU.dD oP).aU (ku (oP.dD oP))).iJ
theorem LB:toF dN=dE:=by
 unfold dN wY dE;rw[show (60832+60833:Int)=121665 by decide,show (60833+60833:Int)=121666 by decide,ny,fG,qC]
def sA (f g u v:Nat->Int):Nat->Int:=aU (fE g f) (fE v u)
def sB (f g u v:Nat->Int):Nat->Int:=aU (dD g f) (dD v u)
def sC (e s d:Nat->Int):Nat->Int:=aU (aU e s) d
def sD (h r:Nat->Int):Nat->Int:=dD (aU h r) (aU h r)
def sumX (f g h e u v r s d:Nat->Int):Nat->Int:=aU (fE (sB f g u v) (sA f g u v)) (fE (sD h r) (sC e s d))
def Jd (f g h e u v r s d:Nat->Int):Nat->Int:=aU (dD (sD h r) (sC e s d)) (dD (sB f g u v) (sA f g u v))
def sumZ (f g h e u v r s d:Nat->Int):Nat->Int:=aU (fE (sD h r) (sC e s d)) (dD (sD h r) (sC e s d))
def Je (f g h e u v r s d:Nat->Int):Nat->Int:=aU (fE (sB f g u v) (sA f g u v)) (dD (sB f g u v) (sA f g u v))
theorem tV.sum {f g h e u v r s d:Nat->Int} {X Y Z T U V W S D:Int} (hp:tV f g h e X Y Z T) (hq:tV u v r s U V W S) (hd:Fe d D):
  tV (sumX f g h e u v r s d) (Jd f g h e u v r s d) (sumZ f g h e u v r s d) (Je f g h e u v r s d) (smE X Y U V * smF Z T W S D) (smG Z T W S D * smH X Y U V) (smF Z T W S D * smG Z T W S D) (smE X Y U V * smH X Y U V):=by
 obtain⟨p1,p2,p3,p4⟩:=hp;obtain⟨q1,q2,q3,q4⟩:=hq;have a:=(p2.fE p1).aU (q2.fE q1);have b:=(p2.dD p1).aU (q2.dD q1);have c:=(p4.aU q4).aU hd;have dd:=(p3.aU q3).dD (p3.aU q3);exact⟨(b.fE a).aU (dd.fE c),(dd.dD c).aU (b.dD a),(dd.fE c).aU (dd.dD c),(b.fE a).aU (b.dD a)⟩
theorem sN (w:World):Calls Tryz.prog 217 #[] w fun e w'=>e=.returned (El iU)/\Below w.heap.size w w':=by
 have HS:Hid (∀n w,Calls Tryz.prog 200 #[.int .i64 n] w fun e w'=>e=.returned (.agg (arr .i64 16 (aW n)))/\Below w.heap.size w w'):=fun n w=>eO n w;unfold El
 go_enter Tryz.func217,Tryz.ntmps217
 go_upto_region 1 with(fail);refine aJ (fun w1=>aQ .i64 w1 w.heap.size 16 (fun _=>0)/\Below w.heap.size w w1) ⟨bU rfl (by rfl),(bT _ _).alloc (bB _) _⟩ ?_;rintro w1 ⟨hZ,aA⟩
 refine bG (n:=14) aS aS aS rfl
  (gZ [(4,2),(5,3)]) (eZ [(4,2),(5,3)]) (fun _=>arr .i64 16 (fun _=>0)) (fun i=>match i with | 2=>(arr .i64 16 (aW 60833)) | 3=>(arr .i64 16 (aW 60832)) | _=> #[]) (fun _=>191) (fun i=>match i with | 2=>1 | 3=>2 | _=>0)
  (fun ii vv _=>(match ii with | 0=>vv=.agg (arr .i64 16 (aW 60833)) | 1=>vv=.agg (arr .i64 16 (aW 60832)) | _=>True)) (fun _ _=>True) (fun _ _ _=>trivial) (fun _ _ _ _ _ _ _=>trivial) (fun _ _ _ _ h _=>h)
  (fJ rfl) (dU rfl) ?_ ?_ ?_ ?_
 ·refine cB ?_;refine⟨?_,?_,(fun h=>by cases h),(fun h=>by cases h),(fun _ h=>by cases h),(fun _ h=>by cases h),trivial⟩
  ·intro _ _ a w2 hB hF hd;refine aO <| aD _ _ _ rfl Tryz.call200 _ (args1 rfl) aR ((eO 60833 w2).mono ?_);rintro e w3 ⟨rfl,hb⟩;exact⟨_,rfl,rfl,hb⟩
  ·intro _ _ a w2 hB hF hd;refine aO <| aD _ _ _ rfl Tryz.call200 _ (args1 rfl) aR ((eO 60832 w2).mono ?_);rintro e w3 ⟨rfl,hb⟩;exact⟨_,rfl,rfl,hb⟩
 ·refine cB ?_;refine⟨(fun h=>by cases h),(fun h=>by cases h),?_,?_,(fun h=>by cases h),(fun h=>by cases h),trivial⟩
  ·exact fun _=>⟨rfl,rfl,fun a w2 K h=>aZ rfl rfl Tryz.zeroValue191 aR h⟩
  ·exact fun _=>⟨rfl,rfl,fun a w2 K h=>aZ rfl rfl Tryz.zeroValue191 aR h⟩
 ·refine cB ?_;refine⟨(fun _ h=>by cases h),(fun _ h=>by cases h),(fun _ h=>by cases h),(fun _ h=>by cases h),?_,?_,trivial⟩
  ·intro p hp;obtain rfl:2=p:=iy hp;exact⟨rfl,rfl,⟨_,rfl⟩,aj rfl,fun a w2 b K hB hF hd hx hb h=>bJ rfl rfl bQ hx (hd 0 _ rfl rfl rfl (aj rfl)) hb h⟩
  ·intro p hp;obtain rfl:3=p:=iy hp;exact⟨rfl,rfl,⟨_,rfl⟩,aj rfl,fun a w2 b K hB hF hd hx hb h=>bJ rfl rfl bQ hx (hd 1 _ rfl rfl rfl (aj rfl)) hb h⟩
 ·intro a w2 blk hB hF hS hv hfin dw;obtain⟨v2,Px,XJ⟩:=hv 2 _ rfl rfl;obtain⟨v3,Ah,Le⟩:=hv 3 _ rfl rfl;have ha:=aP rfl rfl hF [_,_,_,_,undef,undef] rfl ⟨hS 0 _ rfl rfl rfl,hS 1 _ rfl rfl rfl,v2,v3,trivial,trivial,trivial⟩;have f2:=hfin 4 _ 2 rfl rfl;have f3:=hfin 5 _ 3 rfl rfl;have KL:=dw 2 3 _ _ rfl rfl rfl rfl aN;simp only[puts,Act.put,dK,dL,dM] at ha;subst ha;have V2:aQ .i64 w2 (blk 2) 16 (aW 60833):=⟨_,f2⟩
  have V3:aQ .i64 w2 (blk 3) 16 (aW 60832):=⟨_,f3⟩
  clear hS hv hfin dw hF v2 v3 f2 f3;have hz:=hZ.lt;replace hZ:=hZ.kept hB;replace aA:=aA.trans (hB.mono aA.size);obtain⟨x,hx⟩:∃x,x=blk 2:=⟨_,rfl⟩
  obtain⟨y,hy⟩:∃x,x=blk 3:=⟨_,rfl⟩
  rw[<-hx] at V2 ⊢;rw[<-hy] at V3 ⊢;have h1:=V2;have h2:=V3;clear hB V2 V3 hx hy;go_upto_region 2 with(fail)
  refine dz (n:=14) (fun i=>i==9) aS aS aS aS rfl
   (fun ii vv _=>(match ii with | 0=>vv=.agg (arr .i64 16 (aW 60832)) | 1 | 3 | 4=>vv=.agg (arr .i64 16 (aW 60833)) | 2=>vv=.agg (arr .i64 16 (dD (aW 60832) (aW 60833))) | 5=>vv=.agg (arr .i64 16 (dD (aW 60833) (aW 60833))) | 6=>vv=.agg (arr .i64 16 (jL (dD (aW 60833) (aW 60833)))) | 7=>vv=.agg (arr .i64 16 (aU (dD (aW 60832) (aW 60833)) (jL (dD (aW 60833) (aW 60833))))) | 8=>vv=.agg (arr .i64 16 (iJ (aU (dD (aW 60832) (aW 60833)) (jL (dD (aW 60833) (aW 60833)))))) | _=>True))
   (fun w w'=>Below w.heap.size w w') (fun _ _ h=>h) (fun _ _ _ _ h _=>h)
   (fun _=>w.heap.size) (fun _=>(arr .i64 16 (fun _=>0))) (fun _=>(arr .i64 16 (iJ (aU (dD (aW 60832) (aW 60833)) (jL (dD (aW 60833) (aW 60833)))))))
   (by intro i j _ _ dx kL gB;simp only[beq_iff_eq] at dx kL;omega)
   (by intro i _ dx;exact(hZ).row)
   ?_ ?_ ?_
  ·refine cB ?_;refine⟨?_,?_,?_,?_,?_,?_,?_,?_,?_,(aL),trivial⟩
   ·intro _ a w2 hB hF hd;exact aO <| aT (aF rfl cZ rfl bQ (hF.same 2 rfl) (h2.below hB h2.lt)) rfl
   ·intro _ a w2 hB hF hd;exact aO <| aT (aF rfl cZ rfl bQ (hF.same 1 rfl) (h1.below hB h1.lt)) rfl
   ·intro _ a w2 hB hF hd;refine aO <| aD _ _ _ rfl Tryz.call218 _ (args2 (hd 0 _ rfl rfl (aj rfl)) (hd 1 _ rfl rfl (aj rfl))) aR ((gG _ _ _ _ OU oP w2).mono ?_);rintro e w3 ⟨rfl,hb⟩;exact⟨_,rfl,rfl,hb⟩
   ·intro _ a w2 hB hF hd;exact aO <| aT (aF rfl cZ rfl bQ (hF.same 1 rfl) (h1.below hB h1.lt)) rfl
   ·intro _ a w2 hB hF hd;exact aO <| aT (aF rfl cZ rfl bQ (hF.same 1 rfl) (h1.below hB h1.lt)) rfl
   ·intro _ a w2 hB hF hd;refine aO <| aD _ _ _ rfl Tryz.call218 _ (args2 (hd 3 _ rfl rfl (aj rfl)) (hd 4 _ rfl rfl (aj rfl))) aR ((gG _ _ _ _ oP oP w2).mono ?_);rintro e w3 ⟨rfl,hb⟩;exact⟨_,rfl,rfl,hb⟩
   ·intro _ a w2 hB hF hd;refine aO <| aD _ _ _ rfl Tryz.call204 _ (args1 (hd 5 _ rfl rfl (aj rfl))) aR ((jY _ _ ((oP).dD oP) w2).mono ?_);rintro e w3 ⟨rfl,hb⟩;exact⟨_,rfl,rfl,hb⟩
   ·intro _ a w2 hB hF hd;refine aO <| aD _ _ _ rfl Tryz.call203 _ (args2 (hd 2 _ rfl rfl (aj rfl)) (hd 6 _ rfl rfl (aj rfl))) aR ((bV _ _ _ _ ((OU).dD oP) (ku ((oP).dD oP)) w2).mono ?_);rintro e w3 ⟨rfl,hb⟩;exact⟨_,rfl,rfl,hb⟩
   ·intro _ a w2 hB hF hd;refine aO <| aD _ _ _ rfl Tryz.call211 _ (args1 (hd 7 _ rfl rfl (aj rfl))) aR ((nP _ _ ((((OU).dD oP)).aU (ku ((oP).dD oP))) w2).mono ?_);rintro e w3 ⟨rfl,hb⟩;exact⟨_,rfl,rfl,hb⟩
  ·refine cB ?_;refine⟨(aL),(aL),(aL),(aL),(aL),(aL),(aL),(aL),(aL),?_,trivial⟩
   ·intro _ a w1 w2 K hB hF hS hr hK;exact bE 191 _ _ rfl .i64 (w.heap.size) 16 (fun _=>0) (iJ (aU (dD (aW 60832) (aW 60833)) (jL (dD (aW 60833) (aW 60833))))) bQ (hF.same 0 rfl) (hS 8 _ rfl rfl) hr hK
  ·intro a wf w3 hB hF hS hfil;have other:∀{k:IntKind} {qb n:Nat} {f:Nat->Int},qb≠w.heap.size->aQ k wf qb n f->aQ k w3 qb n f:=fun {k qb n f} e0 hA=>hfil.arr (by intro i _ dx;simp only[mP,beq_iff_eq] at dx;subst dx<;> ((try simp only[]);(try dsimp only);omega)) hA;have dI:∀{B:Nat} {w0:World},B<=w.heap.size->Below B w0 wf->Below B w0 w3:=fun {B w0} e0 hA=>hfil.below (by intro i _ dx;simp only[mP,beq_iff_eq] at dx;subst dx<;> ((try simp only[]);(try dsimp only);omega)) hA;have V9:aQ .i64 w3 (w.heap.size) 16 (iJ (aU (dD (aW 60832) (aW 60833)) (jL (dD (aW 60833) (aW 60833))))):=hfil.at 9 aN rfl;have qh:=hfil.size;clear hfil;have ha:=aP rfl rfl hF [_,_,_,_,_,_,_,_,_,undef] rfl ⟨hS 0 _ rfl rfl,hS 1 _ rfl rfl,hS 2 _ rfl rfl,hS 3 _ rfl rfl,hS 4 _ rfl rfl,hS 5 _ rfl rfl,hS 6 _ rfl rfl,hS 7 _ rfl rfl,hS 8 _ rfl rfl,trivial,trivial⟩;simp only[puts,Act.put,dK,dL,dM] at ha;subst ha;clear hS hF;have hb:=dI (bB _) (aA.trans (hB.mono aA.size));go_wp2;exact bodyPost_ret (dG rfl _ _ .i64 w.heap.size 16 _ rfl V9 cZ rfl bQ) rfl ⟨rfl,hb⟩
theorem nX (f g:Nat->Int) (X Y:Int) (hf:Fe f X) (hg:Fe g Y) (w:World):Calls Tryz.prog 212 #[El f,El g] w fun e w'=>e=.returned (Pt f g (aW 1) (aU f g))/\Below w.heap.size w w':=by
 have HF:=ak hf;have HG:=ak hg;clear hf hg;unfold El Pt
 go_enter Tryz.func212,Tryz.ntmps212
 go_upto_region 1 with(fail);refine aJ (fun w1=>aQ .i64 w1 w.heap.size 16 f/\aQ .i64 w1 (w.heap.size+1) 16 g/\aQ .i64 w1 (w.heap.size+2) 64 (fun _=>0)/\Below w.heap.size w w1) ⟨.alloc (.alloc (bU rfl rfl) _) _,.alloc (bU (by first | omega | (simp<;> omega)) rfl) _,bU (by first | omega | (simp<;> omega)) (by rfl),(((bT _ _).alloc (bB _) _).alloc (by first | omega | (simp<;> omega)) _).alloc (by first | omega | (simp<;> omega)) _⟩ ?_;rintro w1 ⟨hA,hC,hZ,aA⟩
 refine dz (n:=12) (fun i=>i==7) aS aS aS aS rfl
  (fun ii vv _=>(match ii with | 0 | 3=>vv=.agg (arr .i64 16 (f)) | 1 | 4=>vv=.agg (arr .i64 16 (g)) | 2=>vv=.agg (arr .i64 16 (aW 1)) | 5=>vv=.agg (arr .i64 16 (aU (f) (g))) | 6=>vv=.agg (arr .i64 64 (pt (f) (g) (aW 1) (aU (f) (g)))) | _=>True))
  (fun w w'=>Below w.heap.size w w') (fun _ _ h=>h) (fun _ _ _ _ h _=>h)
  (fun _=>(w.heap.size+2)) (fun _=>(arr .i64 64 (fun _=>0))) (fun _=>(arr .i64 64 (pt (f) (g) (aW 1) (aU (f) (g)))))
  (by intro i j _ _ dx kL gB;simp only[beq_iff_eq] at dx kL;omega)
  (by intro i _ dx;exact(hZ).row)
  ?_ ?_ ?_
 ·refine cB ?_;refine⟨?_,?_,?_,?_,?_,?_,?_,(aL),trivial⟩
  ·intro _ a w2 hB hF hd;exact aO <| aT (aF rfl cZ rfl bQ (hF.same 2 rfl) (hA.below hB hA.lt)) rfl
  ·intro _ a w2 hB hF hd;exact aO <| aT (aF rfl cZ rfl bQ (hF.same 3 rfl) (hC.below hB hC.lt)) rfl
  ·intro _ a w2 hB hF hd;refine aO <| aD _ _ _ rfl Tryz.call200 _ (args1 rfl) aR ((eO 1 w2).mono ?_);rintro e w3 ⟨rfl,hb⟩;exact⟨_,rfl,rfl,hb⟩
  ·intro _ a w2 hB hF hd;exact aO <| aT (aF rfl cZ rfl bQ (hF.same 2 rfl) (hA.below hB hA.lt)) rfl
  ·intro _ a w2 hB hF hd;exact aO <| aT (aF rfl cZ rfl bQ (hF.same 3 rfl) (hC.below hB hC.lt)) rfl
  ·intro _ a w2 hB hF hd;refine aO <| aD _ _ _ rfl Tryz.call203 _ (args2 (hd 3 _ rfl rfl (aj rfl)) (hd 4 _ rfl rfl (aj rfl))) aR ((bV _ _ _ _ HF.out HG.out w2).mono ?_);rintro e w3 ⟨rfl,hb⟩;exact⟨_,rfl,rfl,hb⟩
  ·intro _ a w2 hB hF hd;exact aO <| aT (gN rfl (by simp only[zw,List.map_cons,List.map_nil,show a.eval (Operand.tmp 5)=.agg (arr .i64 16 (f)) from(hd 0 _ rfl rfl (aj rfl)),show a.eval (Operand.tmp 6)=.agg (arr .i64 16 (g)) from(hd 1 _ rfl rfl (aj rfl)),show a.eval (Operand.tmp 7)=.agg (arr .i64 16 (aW 1)) from(hd 2 _ rfl rfl (aj rfl)),show a.eval (Operand.tmp 10)=.agg (arr .i64 16 (aU (f) (g))) from(hd 5 _ rfl rfl (aj rfl))];exact Cj _ _ _ _ _)) rfl
 ·refine cB ?_;refine⟨(aL),(aL),(aL),(aL),(aL),(aL),(aL),?_,trivial⟩
  ·intro _ a w1 w2 K hB hF hS hr hK;exact bE 193 _ _ rfl .i64 ((w.heap.size+2)) 64 (fun _=>0) (pt (f) (g) (aW 1) (aU (f) (g))) Tryz.size193 (hF.same 4 rfl) (hS 6 _ rfl rfl) hr hK
 ·intro a wf w3 hB hF hS hfil;have other:∀{k:IntKind} {qb n:Nat} {f:Nat->Int},qb≠(w.heap.size+2)->aQ k wf qb n f->aQ k w3 qb n f:=fun {k qb n f} e0 hA=>hfil.arr (by intro i _ dx;simp only[mP,beq_iff_eq] at dx;subst dx<;> ((try simp only[]);(try dsimp only);omega)) hA;have dI:∀{B:Nat} {w0:World},B<=(w.heap.size+2)->Below B w0 wf->Below B w0 w3:=fun {B w0} e0 hA=>hfil.below (by intro i _ dx;simp only[mP,beq_iff_eq] at dx;subst dx<;> ((try simp only[]);(try dsimp only);omega)) hA;have V7:aQ .i64 w3 ((w.heap.size+2)) 64 (pt (f) (g) (aW 1) (aU (f) (g))):=hfil.at 7 aN rfl;have qh:=hfil.size;clear hfil;have ha:=aP rfl rfl hF [_,_,_,_,_,_,_,undef] rfl ⟨hS 0 _ rfl rfl,hS 1 _ rfl rfl,hS 2 _ rfl rfl,hS 3 _ rfl rfl,hS 4 _ rfl rfl,hS 5 _ rfl rfl,hS 6 _ rfl rfl,trivial,trivial⟩;simp only[puts,Act.put,dK,dL,dM] at ha;subst ha;clear hS hF;have hb:=dI aH (aA.trans (hB.mono aA.size));go_wp2;exact bodyPost_ret (dG rfl _ _ .i64 (w.heap.size+2) 64 _ rfl V7 vH rfl Tryz.size193) rfl ⟨rfl,hb⟩
theorem Gy (w:World):Calls Tryz.prog 219 #[] w fun e w'=>e=.returned (Pt (aW 0) (aW 1) (aW 1) (aU (aW 0) (aW 1)))/\Below w.heap.size w w':=by
 unfold Pt
 go_enter Tryz.func219,Tryz.ntmps219
 go_upto_region 1 with(fail);refine aJ (fun w1=>aQ .i64 w1 w.heap.size 64 (fun _=>0)/\Below w.heap.size w w1) ⟨bU rfl (by rfl),(bT _ _).alloc (bB _) _⟩ ?_;rintro w1 ⟨hZ,aA⟩
 refine dz (n:=4) (fun i=>i==3) aS aS aS aS rfl
  (fun ii vv _=>(match ii with | 0=>vv=.agg (arr .i64 16 (aW 0)) | 1=>vv=.agg (arr .i64 16 (aW 1)) | 2=>vv=.agg (arr .i64 64 (pt (aW 0) (aW 1) (aW 1) (aU (aW 0) (aW 1)))) | _=>True))
  (fun w w'=>Below w.heap.size w w') (fun _ _ h=>h) (fun _ _ _ _ h _=>h)
  (fun _=>w.heap.size) (fun _=>(arr .i64 64 (fun _=>0))) (fun _=>(arr .i64 64 (pt (aW 0) (aW 1) (aW 1) (aU (aW 0) (aW 1)))))
  (by intro i j _ _ dx kL gB;simp only[beq_iff_eq] at dx kL;omega)
  (by intro i _ dx;exact(hZ).row)
  ?_ ?_ ?_
 ·refine cB ?_;refine⟨?_,?_,?_,(aL),trivial⟩
  ·intro _ a w2 hB hF hd;refine aO <| aD _ _ _ rfl Tryz.call200 _ (args1 rfl) aR ((eO 0 w2).mono ?_);rintro e w3 ⟨rfl,hb⟩;exact⟨_,rfl,rfl,hb⟩
  ·intro _ a w2 hB hF hd;refine aO <| aD _ _ _ rfl Tryz.call200 _ (args1 rfl) aR ((eO 1 w2).mono ?_);rintro e w3 ⟨rfl,hb⟩;exact⟨_,rfl,rfl,hb⟩
  ·intro _ a w2 hB hF hd;refine aO <| aD _ _ _ rfl Tryz.call212 _ (args2 (hd 0 _ rfl rfl (aj rfl)) (hd 1 _ rfl rfl (aj rfl))) aR ((nX _ _ _ _ KH rM w2).mono ?_);rintro e w3 ⟨rfl,hb⟩;exact⟨_,rfl,rfl,hb⟩
 ·refine cB ?_;refine⟨(aL),(aL),(aL),?_,trivial⟩
  ·intro _ a w1 w2 K hB hF hS hr hK;exact bE 193 _ _ rfl .i64 (w.heap.size) 64 (fun _=>0) (pt (aW 0) (aW 1) (aW 1) (aU (aW 0) (aW 1))) Tryz.size193 (hF.same 0 rfl) (hS 2 _ rfl rfl) hr hK
 ·intro a wf w3 hB hF hS hfil;have other:∀{k:IntKind} {qb n:Nat} {f:Nat->Int},qb≠w.heap.size->aQ k wf qb n f->aQ k w3 qb n f:=fun {k qb n f} e0 hA=>hfil.arr (by intro i _ dx;simp only[mP,beq_iff_eq] at dx;subst dx<;> ((try simp only[]);(try dsimp only);omega)) hA;have dI:∀{B:Nat} {w0:World},B<=w.heap.size->Below B w0 wf->Below B w0 w3:=fun {B w0} e0 hA=>hfil.below (by intro i _ dx;simp only[mP,beq_iff_eq] at dx;subst dx<;> ((try simp only[]);(try dsimp only);omega)) hA;have V3:aQ .i64 w3 (w.heap.size) 64 (pt (aW 0) (aW 1) (aW 1) (aU (aW 0) (aW 1))):=hfil.at 3 aN rfl;have qh:=hfil.size;clear hfil;have ha:=aP rfl rfl hF [_,_,_,undef] rfl ⟨hS 0 _ rfl rfl,hS 1 _ rfl rfl,hS 2 _ rfl rfl,trivial,trivial⟩;simp only[puts,Act.put,dK,dL,dM] at ha;subst ha;clear hS hF;have hb:=dI (bB _) (aA.trans (hB.mono aA.size));go_wp2;exact bodyPost_ret (dG rfl _ _ .i64 w.heap.size 64 _ rfl V3 vH rfl Tryz.size193) rfl ⟨rfl,hb⟩
theorem Qm (f g h e:Nat->Int) (X Y Z T:Int) (hp:tV f g h e X Y Z T) (w:World):Calls Tryz.prog 160 #[Pt f g h e] w fun e_ w'=>e_=.returned (Pt (iJ f) g h (iJ e))/\Below w.heap.size w w':=by
 have HP:=ak hp;clear hp;unfold Pt
 go_enter Tryz.func160,Tryz.ntmps160
 go_upto_region 1 with(fail);refine aJ (fun w1=>aQ .i64 w1 w.heap.size 64 (pt f g h e)/\aQ .i64 w1 (w.heap.size+1) 64 (fun _=>0)/\Below w.heap.size w w1) ⟨.alloc (bU rfl rfl) _,bU (by first | omega | (simp<;> omega)) (by rfl),((bT _ _).alloc (bB _) _).alloc (by first | omega | (simp<;> omega)) _⟩ ?_;rintro w1 ⟨hA,hZ,aA⟩
 refine dz (n:=14) (fun i=>i==11) aS aS aS aS rfl
  (fun ii vv _=>(match ii with | 0=>vv=.pointer (some ⟨w.heap.size,0,none⟩) | 1=>vv=.agg (arr .i64 16 (f)) | 2=>vv=.agg (arr .i64 16 (iJ (f))) | 3=>vv=.pointer (some ⟨w.heap.size,16,none⟩) | 4=>vv=.agg (arr .i64 16 (g)) | 5=>vv=.pointer (some ⟨w.heap.size,32,none⟩) | 6=>vv=.agg (arr .i64 16 (h)) | 7=>vv=.pointer (some ⟨w.heap.size,48,none⟩) | 8=>vv=.agg (arr .i64 16 (e)) | 9=>vv=.agg (arr .i64 16 (iJ (e))) | 10=>vv=.agg (arr .i64 64 (pt (iJ (f)) (g) (h) (iJ (e)))) | _=>True))
  (fun w w'=>Below w.heap.size w w') (fun _ _ h=>h) (fun _ _ _ _ h _=>h)
  (fun _=>(w.heap.size+1)) (fun _=>(arr .i64 64 (fun _=>0))) (fun _=>(arr .i64 64 (pt (iJ (f)) (g) (h) (iJ (e)))))
  (by intro i j _ _ dx kL gB;simp only[beq_iff_eq] at dx kL;omega)
  (by intro i _ dx;exact(hZ).row)
  ?_ ?_ ?_
 ·refine cB ?_;refine⟨?_,?_,?_,?_,?_,?_,?_,?_,?_,?_,?_,(aL),trivial⟩
  ·intro _ a w2 hB hF hd;refine aO <| aT (bP (m:=15) (k:=0) rfl (hF.same 1 rfl) aS) ?_;exact rfl
  ·intro _ a w2 hB hF hd;exact aO <| aT (bR rfl (hd 0 _ rfl rfl (aj rfl)) cZ rfl bQ (fun i hi=>(hB.cell (p:=⟨w.heap.size,0+i,none⟩) hA.lt).trans (Gv hA i hi))) rfl
  ·intro _ a w2 hB hF hd;refine aO <| aD _ _ _ rfl Tryz.call211 _ (args1 (hd 1 _ rfl rfl (aj rfl))) aR ((nP _ _ HP.out.1 w2).mono ?_);rintro e w3 ⟨rfl,hb⟩;exact⟨_,rfl,rfl,hb⟩
  ·intro _ a w2 hB hF hd;refine aO <| aT (bP (m:=15) (k:=16) rfl (hF.same 1 rfl) aS) ?_;exact rfl
  ·intro _ a w2 hB hF hd;exact aO <| aT (bR rfl (hd 3 _ rfl rfl (aj rfl)) cZ rfl bQ (fun i hi=>(hB.cell (p:=⟨w.heap.size,16+i,none⟩) hA.lt).trans (JI hA i hi))) rfl
  ·intro _ a w2 hB hF hd;refine aO <| aT (bP (m:=15) (k:=32) rfl (hF.same 1 rfl) aS) ?_;exact rfl
  ·intro _ a w2 hB hF hd;exact aO <| aT (bR rfl (hd 5 _ rfl rfl (aj rfl)) cZ rfl bQ (fun i hi=>(hB.cell (p:=⟨w.heap.size,32+i,none⟩) hA.lt).trans (Ml hA i hi))) rfl
  ·intro _ a w2 hB hF hd;refine aO <| aT (bP (m:=15) (k:=48) rfl (hF.same 1 rfl) aS) ?_;exact rfl
  ·intro _ a w2 hB hF hd;exact aO <| aT (bR rfl (hd 7 _ rfl rfl (aj rfl)) cZ rfl bQ (fun i hi=>(hB.cell (p:=⟨w.heap.size,48+i,none⟩) hA.lt).trans (TQ hA i hi))) rfl
  ·intro _ a w2 hB hF hd;refine aO <| aD _ _ _ rfl Tryz.call211 _ (args1 (hd 8 _ rfl rfl (aj rfl))) aR ((nP _ _ HP.out.2.2.2 w2).mono ?_);rintro e w3 ⟨rfl,hb⟩;exact⟨_,rfl,rfl,hb⟩
  ·intro _ a w2 hB hF hd;exact aO <| aT (gN rfl (by simp only[zw,List.map_cons,List.map_nil,show a.eval (Operand.tmp 5)=.agg (arr .i64 16 (iJ (f))) from(hd 2 _ rfl rfl (aj rfl)),show a.eval (Operand.tmp 7)=.agg (arr .i64 16 (g)) from(hd 4 _ rfl rfl (aj rfl)),show a.eval (Operand.tmp 9)=.agg (arr .i64 16 (h)) from(hd 6 _ rfl rfl (aj rfl)),show a.eval (Operand.tmp 12)=.agg (arr .i64 16 (iJ (e))) from(hd 9 _ rfl rfl (aj rfl))];exact Cj _ _ _ _ _)) rfl
 ·refine cB ?_;refine⟨(aL),(aL),(aL),(aL),(aL),(aL),(aL),(aL),(aL),(aL),(aL),?_,trivial⟩
  ·intro _ a w1 w2 K hB hF hS hr hK;exact bE 193 _ _ rfl .i64 ((w.heap.size+1)) 64 (fun _=>0) (pt (iJ (f)) (g) (h) (iJ (e))) Tryz.size193 (hF.same 2 rfl) (hS 10 _ rfl rfl) hr hK
 ·intro a wf w3 hB hF hS hfil;have other:∀{k:IntKind} {qb n:Nat} {f:Nat->Int},qb≠(w.heap.size+1)->aQ k wf qb n f->aQ k w3 qb n f:=fun {k qb n f} e0 hA=>hfil.arr (by intro i _ dx;simp only[mP,beq_iff_eq] at dx;subst dx<;> ((try simp only[]);(try dsimp only);omega)) hA;have dI:∀{B:Nat} {w0:World},B<=(w.heap.size+1)->Below B w0 wf->Below B w0 w3:=fun {B w0} e0 hA=>hfil.below (by intro i _ dx;simp only[mP,beq_iff_eq] at dx;subst dx<;> ((try simp only[]);(try dsimp only);omega)) hA;have Rz:aQ .i64 w3 ((w.heap.size+1)) 64 (pt (iJ (f)) (g) (h) (iJ (e))):=hfil.at 11 aN rfl;have qh:=hfil.size;clear hfil;have ha:=aP rfl rfl hF [_,_,_,_,_,_,_,_,_,_,_,undef] rfl ⟨hS 0 _ rfl rfl,hS 1 _ rfl rfl,hS 2 _ rfl rfl,hS 3 _ rfl rfl,hS 4 _ rfl rfl,hS 5 _ rfl rfl,hS 6 _ rfl rfl,hS 7 _ rfl rfl,hS 8 _ rfl rfl,hS 9 _ rfl rfl,hS 10 _ rfl rfl,trivial,trivial⟩;simp only[puts,Act.put,dK,dL,dM] at ha;subst ha;clear hS hF;have hb:=dI aH (aA.trans (hB.mono aA.size));go_wp2;exact bodyPost_ret (dG rfl _ _ .i64 (w.heap.size+1) 64 _ rfl Rz vH rfl Tryz.size193) rfl ⟨rfl,hb⟩
theorem EB (f g h e u v r s d:Nat->Int) (X Y Z T U V W S D:Int) (hp:tV f g h e X Y Z T) (hq:tV u v r s U V W S) (hd:Fe d D) (w:World):
  Calls Tryz.prog 221 #[Pt f g h e,Pt u v r s,El d] w fun e_ w'=>e_=.returned (Pt (sumX f g h e u v r s d) (Jd f g h e u v r s d) (sumZ f g h e u v r s d) (Je f g h e u v r s d))/\Below w.heap.size w w':=by
 have HP:=ak hp;have HQ:=ak hq;have HD:=ak hd;clear hp hq hd;unfold Pt El
 go_enter Tryz.func221,Tryz.ntmps221
 go_upto_region 1 with(fail)
 refine aJ (fun w1=>aQ .i64 w1 w.heap.size 64 (pt f g h e)/\aQ .i64 w1 (w.heap.size+1) 64 (pt u v r s)/\aQ .i64 w1 (w.heap.size+2) 16 d/\aQ .i64 w1 (w.heap.size+3) 64 (fun _=>0)/\Below w.heap.size w w1)
  ⟨.alloc (.alloc (.alloc (bU rfl rfl) _) _) _,.alloc (.alloc (bU (by first | omega | (simp<;> omega)) rfl) _) _,.alloc (bU (by first | omega | (simp<;> omega)) rfl) _,bU (by first | omega | (simp<;> omega)) (by rfl),((((bT _ _).alloc (bB _) _).alloc (by first | omega | (simp<;> omega)) _).alloc (by first | omega | (simp<;> omega)) _).alloc (by first | omega | (simp<;> omega)) _⟩ ?_
 rintro w1 ⟨hA,hC,hE,hZ,aA⟩;have fD:w.heap.size+4<=w1.heap.size:=by have:=hZ.lt;omega
 refine bG (n:=77) aS aS aS rfl
  (gZ [(12,11)]) (eZ [(12,11)]) (fun _=>arr .i64 16 (fun _=>0)) (fun _=>(arr .i64 16 (aU (fE (g) (f)) (fE (v) (u))))) (fun _=>191) (fun _=>7)
  (fun ii vv _=>(match ii with | 0=>vv=.pointer (some ⟨w.heap.size,16,none⟩) | 1=>vv=.agg (arr .i64 16 (g)) | 2=>vv=.pointer (some ⟨w.heap.size,0,none⟩) | 3=>vv=.agg (arr .i64 16 (f)) | 4=>vv=.agg (arr .i64 16 (fE (g) (f))) | 5=>vv=.pointer (some ⟨(w.heap.size+1),16,none⟩) | 6=>vv=.agg (arr .i64 16 (v)) | 7=>vv=.pointer (some ⟨(w.heap.size+1),0,none⟩) | 8=>vv=.agg (arr .i64 16 (u)) | 9=>vv=.agg (arr .i64 16 (fE (v) (u))) | 10=>vv=.agg (arr .i64 16 (aU (fE (g) (f)) (fE (v) (u)))) | _=>True)) (fun _ _=>True) (fun _ _ _=>trivial) (fun _ _ _ _ _ _ _=>trivial) (fun _ _ _ _ h _=>h)
  (fJ rfl) (dU rfl) ?_ ?_ ?_ ?_
 ·refine cB ?_;refine⟨?_,?_,?_,?_,?_,?_,?_,?_,?_,?_,?_,(fun h=>by cases h),(fun _ h=>by cases h),trivial⟩
  ·intro _ _ a w2 hB hF hd;refine aO <| aT (bP (m:=15) (k:=16) rfl (hF.same 3 rfl) aS) ?_;exact rfl
  ·intro _ _ a w2 hB hF hd;exact aO <| aT (bR rfl (hd 0 _ rfl rfl rfl (aj rfl)) cZ rfl bQ (fun i hi=>(hB.cell (p:=⟨w.heap.size,16+i,none⟩) hA.lt).trans (JI hA i hi))) rfl
  ·intro _ _ a w2 hB hF hd;refine aO <| aT (bP (m:=15) (k:=0) rfl (hF.same 3 rfl) aS) ?_;exact rfl
  ·intro _ _ a w2 hB hF hd;exact aO <| aT (bR rfl (hd 2 _ rfl rfl rfl (aj rfl)) cZ rfl bQ (fun i hi=>(hB.cell (p:=⟨w.heap.size,0+i,none⟩) hA.lt).trans (Gv hA i hi))) rfl
  ·intro _ _ a w2 hB hF hd;refine aO <| aD _ _ _ rfl Tryz.call244 _ (args2 (hd 1 _ rfl rfl rfl (aj rfl)) (hd 3 _ rfl rfl rfl (aj rfl))) aR ((jk _ _ _ _ HP.out.2.1 HP.out.1 w2).mono ?_);rintro e w3 ⟨rfl,hb⟩;exact⟨_,rfl,rfl,hb⟩
  ·intro _ _ a w2 hB hF hd;refine aO <| aT (bP (m:=15) (k:=16) rfl (hF.same 4 rfl) aS) ?_;exact rfl
  ·intro _ _ a w2 hB hF hd;exact aO <| aT (bR rfl (hd 5 _ rfl rfl rfl (aj rfl)) cZ rfl bQ (fun i hi=>(hB.cell (p:=⟨(w.heap.size+1),16+i,none⟩) hC.lt).trans (JI hC i hi))) rfl
  ·intro _ _ a w2 hB hF hd;refine aO <| aT (bP (m:=15) (k:=0) rfl (hF.same 4 rfl) aS) ?_;exact rfl
  ·intro _ _ a w2 hB hF hd;exact aO <| aT (bR rfl (hd 7 _ rfl rfl rfl (aj rfl)) cZ rfl bQ (fun i hi=>(hB.cell (p:=⟨(w.heap.size+1),0+i,none⟩) hC.lt).trans (Gv hC i hi))) rfl
  ·intro _ _ a w2 hB hF hd;refine aO <| aD _ _ _ rfl Tryz.call244 _ (args2 (hd 6 _ rfl rfl rfl (aj rfl)) (hd 8 _ rfl rfl rfl (aj rfl))) aR ((jk _ _ _ _ HQ.out.2.1 HQ.out.1 w2).mono ?_);rintro e w3 ⟨rfl,hb⟩;exact⟨_,rfl,rfl,hb⟩
  ·intro _ _ a w2 hB hF hd;refine aO <| aD _ _ _ rfl Tryz.call203 _ (args2 (hd 4 _ rfl rfl rfl (aj rfl)) (hd 9 _ rfl rfl rfl (aj rfl))) aR ((bV _ _ _ _ ((HP.out.2.1).fE HP.out.1) ((HQ.out.2.1).fE HQ.out.1) w2).mono ?_);rintro e w3 ⟨rfl,hb⟩;exact⟨_,rfl,rfl,hb⟩
 ·refine cB ?_;refine⟨(fun h=>by cases h),(fun h=>by cases h),(fun h=>by cases h),(fun h=>by cases h),(fun h=>by cases h),(fun h=>by cases h),(fun h=>by cases h),(fun h=>by cases h),(fun h=>by cases h),(fun h=>by cases h),(fun h=>by cases h),?_,(fun h=>by cases h),trivial⟩
  ·exact fun _=>⟨rfl,rfl,fun a w2 K h=>aZ rfl rfl Tryz.zeroValue191 aR h⟩
 ·refine cB ?_;refine⟨(fun _ h=>by cases h),(fun _ h=>by cases h),(fun _ h=>by cases h),(fun _ h=>by cases h),(fun _ h=>by cases h),(fun _ h=>by cases h),(fun _ h=>by cases h),(fun _ h=>by cases h),(fun _ h=>by cases h),(fun _ h=>by cases h),(fun _ h=>by cases h),(fun _ h=>by cases h),?_,trivial⟩
  ·intro p hp;obtain rfl:11=p:=iy hp;exact⟨rfl,rfl,⟨_,rfl⟩,aj rfl,fun a w2 b K hB hF hd hx hb h=>bJ rfl rfl bQ hx (hd 10 _ rfl rfl rfl (aj rfl)) hb h⟩
 ·intro a w2 blk hB hF hS hv hfin dw;obtain⟨v11,Ai,SA⟩:=hv 11 _ rfl rfl;have ha:=aP rfl rfl hF [_,_,_,_,_,_,_,_,_,_,_,_,undef] rfl ⟨hS 0 _ rfl rfl rfl,hS 1 _ rfl rfl rfl,hS 2 _ rfl rfl rfl,hS 3 _ rfl rfl rfl,hS 4 _ rfl rfl rfl,hS 5 _ rfl rfl rfl,hS 6 _ rfl rfl rfl,hS 7 _ rfl rfl rfl,hS 8 _ rfl rfl rfl,hS 9 _ rfl rfl rfl,hS 10 _ rfl rfl rfl,v11,trivial,trivial⟩;have f11:=hfin 12 _ 11 rfl rfl;simp only[puts,Act.put,dK,dL,dM] at ha;subst ha;have Rz:aQ .i64 w2 (blk 11) 16 (aU (fE (g) (f)) (fE (v) (u))):=⟨_,f11⟩
  clear hS hv hfin dw hF v11 f11;replace hA:=hA.kept hB;replace hC:=hC.kept hB;replace hE:=hE.kept hB;replace hZ:=hZ.kept hB;obtain⟨baa,MV⟩:∃x,x=blk 11:=⟨_,rfl⟩
  obtain⟨aa,haa,Xaa,pJ⟩:∃x,x=aU (fE g f) (fE v u)/\∃N,Hid (Fe x N):=⟨_,rfl,_,(HP.out.2.1.fE HP.out.1).aU (HQ.out.2.1.fE HQ.out.1)⟩
  rw[<-haa,←MV] at Rz;rw[<-MV] at Ai ⊢;have laa:w.heap.size+4<=baa:=jS fD Ai;have Kaa:=ak haa;replace aA:=aA.trans (hB.mono aA.size);replace fD:=jS fD hB.size;clear hB haa MV;have lq:=Rz;clear Rz Ai SA;go_upto_region 2 with(fail)
  refine bG (n:=77) aS aS aS rfl
   (gZ [(12,11)]) (eZ [(12,11)]) (fun _=>arr .i64 16 (fun _=>0)) (fun _=>(arr .i64 16 (aU (dD (g) (f)) (dD (v) (u))))) (fun _=>191) (fun _=>8)
   (fun ii vv _=>(match ii with | 0=>vv=.pointer (some ⟨w.heap.size,16,none⟩) | 1=>vv=.agg (arr .i64 16 (g)) | 2=>vv=.pointer (some ⟨w.heap.size,0,none⟩) | 3=>vv=.agg (arr .i64 16 (f)) | 4=>vv=.agg (arr .i64 16 (dD (g) (f))) | 5=>vv=.pointer (some ⟨(w.heap.size+1),16,none⟩) | 6=>vv=.agg (arr .i64 16 (v)) | 7=>vv=.pointer (some ⟨(w.heap.size+1),0,none⟩) | 8=>vv=.agg (arr .i64 16 (u)) | 9=>vv=.agg (arr .i64 16 (dD (v) (u))) | 10=>vv=.agg (arr .i64 16 (aU (dD (g) (f)) (dD (v) (u)))) | _=>True)) (fun _ _=>True) (fun _ _ _=>trivial) (fun _ _ _ _ _ _ _=>trivial) (fun _ _ _ _ h _=>h)
   (fJ rfl) (dU rfl) ?_ ?_ ?_ ?_
  ·refine cB ?_;refine⟨?_,?_,?_,?_,?_,?_,?_,?_,?_,?_,?_,(fun h=>by cases h),(fun _ h=>by cases h),trivial⟩
   ·intro _ _ a w2 hB hF hd;refine aO <| aT (bP (m:=15) (k:=16) rfl (hF.same 3 rfl) aS) ?_;exact rfl
   ·intro _ _ a w2 hB hF hd;exact aO <| aT (bR rfl (hd 0 _ rfl rfl rfl (aj rfl)) cZ rfl bQ (fun i hi=>(hB.cell (p:=⟨w.heap.size,16+i,none⟩) hA.lt).trans (JI hA i hi))) rfl
   ·intro _ _ a w2 hB hF hd;refine aO <| aT (bP (m:=15) (k:=0) rfl (hF.same 3 rfl) aS) ?_;exact rfl
   ·intro _ _ a w2 hB hF hd;exact aO <| aT (bR rfl (hd 2 _ rfl rfl rfl (aj rfl)) cZ rfl bQ (fun i hi=>(hB.cell (p:=⟨w.heap.size,0+i,none⟩) hA.lt).trans (Gv hA i hi))) rfl
   ·intro _ _ a w2 hB hF hd;refine aO <| aD _ _ _ rfl Tryz.call218 _ (args2 (hd 1 _ rfl rfl rfl (aj rfl)) (hd 3 _ rfl rfl rfl (aj rfl))) aR ((gG _ _ _ _ HP.out.2.1 HP.out.1 w2).mono ?_);rintro e w3 ⟨rfl,hb⟩;exact⟨_,rfl,rfl,hb⟩
   ·intro _ _ a w2 hB hF hd;refine aO <| aT (bP (m:=15) (k:=16) rfl (hF.same 4 rfl) aS) ?_;exact rfl
   ·intro _ _ a w2 hB hF hd;exact aO <| aT (bR rfl (hd 5 _ rfl rfl rfl (aj rfl)) cZ rfl bQ (fun i hi=>(hB.cell (p:=⟨(w.heap.size+1),16+i,none⟩) hC.lt).trans (JI hC i hi))) rfl
   ·intro _ _ a w2 hB hF hd;refine aO <| aT (bP (m:=15) (k:=0) rfl (hF.same 4 rfl) aS) ?_;exact rfl
   ·intro _ _ a w2 hB hF hd;exact aO <| aT (bR rfl (hd 7 _ rfl rfl rfl (aj rfl)) cZ rfl bQ (fun i hi=>(hB.cell (p:=⟨(w.heap.size+1),0+i,none⟩) hC.lt).trans (Gv hC i hi))) rfl
   ·intro _ _ a w2 hB hF hd;refine aO <| aD _ _ _ rfl Tryz.call218 _ (args2 (hd 6 _ rfl rfl rfl (aj rfl)) (hd 8 _ rfl rfl rfl (aj rfl))) aR ((gG _ _ _ _ HQ.out.2.1 HQ.out.1 w2).mono ?_);rintro e w3 ⟨rfl,hb⟩;exact⟨_,rfl,rfl,hb⟩
   ·intro _ _ a w2 hB hF hd;refine aO <| aD _ _ _ rfl Tryz.call203 _ (args2 (hd 4 _ rfl rfl rfl (aj rfl)) (hd 9 _ rfl rfl rfl (aj rfl))) aR ((bV _ _ _ _ ((HP.out.2.1).dD HP.out.1) ((HQ.out.2.1).dD HQ.out.1) w2).mono ?_);rintro e w3 ⟨rfl,hb⟩;exact⟨_,rfl,rfl,hb⟩
  ·refine cB ?_;refine⟨(fun h=>by cases h),(fun h=>by cases h),(fun h=>by cases h),(fun h=>by cases h),(fun h=>by cases h),(fun h=>by cases h),(fun h=>by cases h),(fun h=>by cases h),(fun h=>by cases h),(fun h=>by cases h),(fun h=>by cases h),?_,(fun h=>by cases h),trivial⟩
   ·exact fun _=>⟨rfl,rfl,fun a w2 K h=>aZ rfl rfl Tryz.zeroValue191 aR h⟩
  ·refine cB ?_;refine⟨(fun _ h=>by cases h),(fun _ h=>by cases h),(fun _ h=>by cases h),(fun _ h=>by cases h),(fun _ h=>by cases h),(fun _ h=>by cases h),(fun _ h=>by cases h),(fun _ h=>by cases h),(fun _ h=>by cases h),(fun _ h=>by cases h),(fun _ h=>by cases h),(fun _ h=>by cases h),?_,trivial⟩
   ·intro p hp;obtain rfl:11=p:=iy hp;exact⟨rfl,rfl,⟨_,rfl⟩,aj rfl,fun a w2 b K hB hF hd hx hb h=>bJ rfl rfl bQ hx (hd 10 _ rfl rfl rfl (aj rfl)) hb h⟩
  ·intro a w3 blk hB hF hS hv hfin dw;obtain⟨v11,Ai,SA⟩:=hv 11 _ rfl rfl;have ha:=aP rfl rfl hF [_,_,_,_,_,_,_,_,_,_,_,_,undef] rfl ⟨hS 0 _ rfl rfl rfl,hS 1 _ rfl rfl rfl,hS 2 _ rfl rfl rfl,hS 3 _ rfl rfl rfl,hS 4 _ rfl rfl rfl,hS 5 _ rfl rfl rfl,hS 6 _ rfl rfl rfl,hS 7 _ rfl rfl rfl,hS 8 _ rfl rfl rfl,hS 9 _ rfl rfl rfl,hS 10 _ rfl rfl rfl,v11,trivial,trivial⟩;have f11:=hfin 12 _ 11 rfl rfl;simp only[puts,Act.put,dK,dL,dM] at ha;subst ha;have Rz:aQ .i64 w3 (blk 11) 16 (aU (dD (g) (f)) (dD (v) (u))):=⟨_,f11⟩
   clear hS hv hfin dw hF v11 f11;replace hA:=hA.kept hB;replace hC:=hC.kept hB;replace hE:=hE.kept hB;replace hZ:=hZ.kept hB;replace lq:=lq.kept hB;obtain⟨bbb,MU⟩:∃x,x=blk 11:=⟨_,rfl⟩
   obtain⟨bb,hbb,Xbb,zS⟩:∃x,x=aU (dD g f) (dD v u)/\∃N,Hid (Fe x N):=⟨_,rfl,_,(HP.out.2.1.dD HP.out.1).aU (HQ.out.2.1.dD HQ.out.1)⟩
   rw[<-hbb,←MU] at Rz;rw[<-MU] at Ai ⊢;have lbb:w.heap.size+4<=bbb:=jS fD Ai;have Kbb:=ak hbb;replace aA:=aA.trans (hB.mono aA.size);replace fD:=jS fD hB.size;clear hB hbb MU;have nE:=Rz;clear Rz Ai SA;go_upto_region 3 with(fail)
   refine bG (n:=77) aS aS aS rfl
    (gZ [(8,7)]) (eZ [(8,7)]) (fun _=>arr .i64 16 (fun _=>0)) (fun _=>(arr .i64 16 (aU (aU (e) (s)) (d)))) (fun _=>191) (fun _=>9)
    (fun ii vv _=>(match ii with | 0=>vv=.pointer (some ⟨w.heap.size,48,none⟩) | 1=>vv=.agg (arr .i64 16 (e)) | 2=>vv=.pointer (some ⟨(w.heap.size+1),48,none⟩) | 3=>vv=.agg (arr .i64 16 (s)) | 4=>vv=.agg (arr .i64 16 (aU (e) (s))) | 5=>vv=.agg (arr .i64 16 (d)) | 6=>vv=.agg (arr .i64 16 (aU (aU (e) (s)) (d))) | _=>True)) (fun _ _=>True) (fun _ _ _=>trivial) (fun _ _ _ _ _ _ _=>trivial) (fun _ _ _ _ h _=>h)
    (fJ rfl) (dU rfl) ?_ ?_ ?_ ?_
   ·refine cB ?_;refine⟨?_,?_,?_,?_,?_,?_,?_,(fun h=>by cases h),(fun _ h=>by cases h),trivial⟩
    ·intro _ _ a w2 hB hF hd;refine aO <| aT (bP (m:=15) (k:=48) rfl (hF.same 3 rfl) aS) ?_;exact rfl
    ·intro _ _ a w2 hB hF hd;exact aO <| aT (bR rfl (hd 0 _ rfl rfl rfl (aj rfl)) cZ rfl bQ (fun i hi=>(hB.cell (p:=⟨w.heap.size,48+i,none⟩) hA.lt).trans (TQ hA i hi))) rfl
    ·intro _ _ a w2 hB hF hd;refine aO <| aT (bP (m:=15) (k:=48) rfl (hF.same 4 rfl) aS) ?_;exact rfl
    ·intro _ _ a w2 hB hF hd;exact aO <| aT (bR rfl (hd 2 _ rfl rfl rfl (aj rfl)) cZ rfl bQ (fun i hi=>(hB.cell (p:=⟨(w.heap.size+1),48+i,none⟩) hC.lt).trans (TQ hC i hi))) rfl
    ·intro _ _ a w2 hB hF hd;refine aO <| aD _ _ _ rfl Tryz.call203 _ (args2 (hd 1 _ rfl rfl rfl (aj rfl)) (hd 3 _ rfl rfl rfl (aj rfl))) aR ((bV _ _ _ _ HP.out.2.2.2 HQ.out.2.2.2 w2).mono ?_);rintro e w3 ⟨rfl,hb⟩;exact⟨_,rfl,rfl,hb⟩
    ·intro _ _ a w2 hB hF hd;exact aO <| aT (aF rfl cZ rfl bQ (hF.same 5 rfl) (hE.below hB hE.lt)) rfl
    ·intro _ _ a w2 hB hF hd;refine aO <| aD _ _ _ rfl Tryz.call203 _ (args2 (hd 4 _ rfl rfl rfl (aj rfl)) (hd 5 _ rfl rfl rfl (aj rfl))) aR ((bV _ _ _ _ ((HP.out.2.2.2).aU HQ.out.2.2.2) HD.out w2).mono ?_);rintro e w3 ⟨rfl,hb⟩;exact⟨_,rfl,rfl,hb⟩
   ·refine cB ?_;refine⟨(fun h=>by cases h),(fun h=>by cases h),(fun h=>by cases h),(fun h=>by cases h),(fun h=>by cases h),(fun h=>by cases h),(fun h=>by cases h),?_,(fun h=>by cases h),trivial⟩
    ·exact fun _=>⟨rfl,rfl,fun a w2 K h=>aZ rfl rfl Tryz.zeroValue191 aR h⟩
   ·refine cB ?_;refine⟨(fun _ h=>by cases h),(fun _ h=>by cases h),(fun _ h=>by cases h),(fun _ h=>by cases h),(fun _ h=>by cases h),(fun _ h=>by cases h),(fun _ h=>by cases h),(fun _ h=>by cases h),?_,trivial⟩
    ·intro p hp;obtain rfl:7=p:=iy hp;exact⟨rfl,rfl,⟨_,rfl⟩,aj rfl,fun a w2 b K hB hF hd hx hb h=>bJ rfl rfl bQ hx (hd 6 _ rfl rfl rfl (aj rfl)) hb h⟩
   ·intro a w4 blk hB hF hS hv hfin dw;obtain⟨v7,Dc,Sz⟩:=hv 7 _ rfl rfl;have ha:=aP rfl rfl hF [_,_,_,_,_,_,_,_,undef] rfl ⟨hS 0 _ rfl rfl rfl,hS 1 _ rfl rfl rfl,hS 2 _ rfl rfl rfl,hS 3 _ rfl rfl rfl,hS 4 _ rfl rfl rfl,hS 5 _ rfl rfl rfl,hS 6 _ rfl rfl rfl,v7,trivial,trivial⟩;have f7:=hfin 8 _ 7 rfl rfl;simp only[puts,Act.put,dK,dL,dM] at ha;subst ha;have V7:aQ .i64 w4 (blk 7) 16 (aU (aU (e) (s)) (d)):=⟨_,f7⟩
    clear hS hv hfin dw hF v7 f7;replace hA:=hA.kept hB;replace hC:=hC.kept hB;replace hE:=hE.kept hB;replace hZ:=hZ.kept hB;replace lq:=lq.kept hB;replace nE:=nE.kept hB;obtain⟨bcc,ada⟩:∃x,x=blk 7:=⟨_,rfl⟩
    obtain⟨cc,hcc,Xcc,Hcc⟩:∃x,x=aU (aU e s) d/\∃N,Hid (Fe x N):=⟨_,rfl,_,(HP.out.2.2.2.aU HQ.out.2.2.2).aU HD.out⟩
    rw[<-hcc,←ada] at V7;rw[<-ada] at Dc ⊢;have lcc:w.heap.size+4<=bcc:=jS fD Dc;have Kcc:=ak hcc;replace aA:=aA.trans (hB.mono aA.size);replace fD:=jS fD hB.size;clear hB hcc ada;have BG:=V7;clear V7 Dc Sz;go_upto_region 4 with(fail)
    refine bG (n:=77) aS aS aS rfl
     (gZ [(6,5)]) (eZ [(6,5)]) (fun _=>arr .i64 16 (fun _=>0)) (fun _=>(arr .i64 16 (aU (h) (r)))) (fun _=>191) (fun _=>10)
     (fun ii vv _=>(match ii with | 0=>vv=.pointer (some ⟨w.heap.size,32,none⟩) | 1=>vv=.agg (arr .i64 16 (h)) | 2=>vv=.pointer (some ⟨(w.heap.size+1),32,none⟩) | 3=>vv=.agg (arr .i64 16 (r)) | 4=>vv=.agg (arr .i64 16 (aU (h) (r))) | _=>True)) (fun _ _=>True) (fun _ _ _=>trivial) (fun _ _ _ _ _ _ _=>trivial) (fun _ _ _ _ h _=>h)
     (fJ rfl) (dU rfl) ?_ ?_ ?_ ?_
    ·refine cB ?_;refine⟨?_,?_,?_,?_,?_,(fun h=>by cases h),(fun _ h=>by cases h),trivial⟩
     ·intro _ _ a w2 hB hF hd;refine aO <| aT (bP (m:=15) (k:=32) rfl (hF.same 3 rfl) aS) ?_;exact rfl
     ·intro _ _ a w2 hB hF hd;exact aO <| aT (bR rfl (hd 0 _ rfl rfl rfl (aj rfl)) cZ rfl bQ (fun i hi=>(hB.cell (p:=⟨w.heap.size,32+i,none⟩) hA.lt).trans (Ml hA i hi))) rfl
     ·intro _ _ a w2 hB hF hd;refine aO <| aT (bP (m:=15) (k:=32) rfl (hF.same 4 rfl) aS) ?_;exact rfl
     ·intro _ _ a w2 hB hF hd;exact aO <| aT (bR rfl (hd 2 _ rfl rfl rfl (aj rfl)) cZ rfl bQ (fun i hi=>(hB.cell (p:=⟨(w.heap.size+1),32+i,none⟩) hC.lt).trans (Ml hC i hi))) rfl
     ·intro _ _ a w2 hB hF hd;refine aO <| aD _ _ _ rfl Tryz.call203 _ (args2 (hd 1 _ rfl rfl rfl (aj rfl)) (hd 3 _ rfl rfl rfl (aj rfl))) aR ((bV _ _ _ _ HP.out.2.2.1 HQ.out.2.2.1 w2).mono ?_);rintro e w3 ⟨rfl,hb⟩;exact⟨_,rfl,rfl,hb⟩
    ·refine cB ?_;refine⟨(fun h=>by cases h),(fun h=>by cases h),(fun h=>by cases h),(fun h=>by cases h),(fun h=>by cases h),?_,(fun h=>by cases h),trivial⟩
     ·exact fun _=>⟨rfl,rfl,fun a w2 K h=>aZ rfl rfl Tryz.zeroValue191 aR h⟩
    ·refine cB ?_;refine⟨(fun _ h=>by cases h),(fun _ h=>by cases h),(fun _ h=>by cases h),(fun _ h=>by cases h),(fun _ h=>by cases h),(fun _ h=>by cases h),?_,trivial⟩
     ·intro p hp;obtain rfl:5=p:=iy hp;exact⟨rfl,rfl,⟨_,rfl⟩,aj rfl,fun a w2 b K hB hF hd hx hb h=>bJ rfl rfl bQ hx (hd 4 _ rfl rfl rfl (aj rfl)) hb h⟩
    ·intro a w5 blk hB hF hS hv hfin dw;obtain⟨v5,xQ,FR⟩:=hv 5 _ rfl rfl;have ha:=aP rfl rfl hF [_,_,_,_,_,_,undef] rfl ⟨hS 0 _ rfl rfl rfl,hS 1 _ rfl rfl rfl,hS 2 _ rfl rfl rfl,hS 3 _ rfl rfl rfl,hS 4 _ rfl rfl rfl,v5,trivial,trivial⟩;have f5:=hfin 6 _ 5 rfl rfl;simp only[puts,Act.put,dK,dL,dM] at ha;subst ha;have V5:aQ .i64 w5 (blk 5) 16 (aU (h) (r)):=⟨_,f5⟩
     clear hS hv hfin dw hF v5 f5;have aai:=lq.lt;have aah:=nE.lt;have aag:=BG.lt;replace hA:=hA.kept hB;replace hC:=hC.kept hB;replace hE:=hE.kept hB;replace hZ:=hZ.kept hB;replace lq:=lq.kept hB;replace nE:=nE.kept hB;replace BG:=BG.kept hB;obtain⟨Zt,acY⟩:∃x,x=blk 5:=⟨_,rfl⟩
     obtain⟨dd,hdd,Xdd,FJ⟩:∃x,x=aU h r/\∃N,Hid (Fe x N):=⟨_,rfl,_,HP.out.2.2.1.aU HQ.out.2.2.1⟩
     rw[<-hdd,←acY] at V5;rw[<-acY] at xQ ⊢;have ldd:w.heap.size+4<=Zt:=jS fD xQ;have Kdd:=ak hdd;have zaa:baa<Zt:=zO aai xQ;have zbb:bbb<Zt:=zO aah xQ;have zcc:bcc<Zt:=zO aag xQ;clear aai aah aag;replace aA:=aA.trans (hB.mono aA.size);replace fD:=jS fD hB.size;clear hB hdd acY;have QK:=V5;clear V5 xQ FR;go_upto_region 5 with(fail)
     refine dz (n:=77) (fun i=>i==3) aS aS aS aS rfl
      (fun ii vv _=>(match ii with | 0 | 1=>vv=.agg (arr .i64 16 (dd)) | 2=>vv=.agg (arr .i64 16 (dD (dd) (dd))) | _=>True))
      (fun w w'=>Below w.heap.size w w') (fun _ _ h=>h) (fun _ _ _ _ h _=>h)
      (fun _=>Zt) (fun _=>(arr .i64 16 (dd))) (fun _=>(arr .i64 16 (dD (dd) (dd))))
      (by intro i j _ _ dx kL gB;simp only[beq_iff_eq] at dx kL;omega)
      (by intro i _ dx;exact(QK).row)
      ?_ ?_ ?_
     ·refine cB ?_;refine⟨?_,?_,?_,(aL),trivial⟩
      ·intro _ a w2 hB hF hd;exact aO <| aT (aF rfl cZ rfl bQ (hF.same 10 rfl) (QK.below hB QK.lt)) rfl
      ·intro _ a w2 hB hF hd;exact aO <| aT (aF rfl cZ rfl bQ (hF.same 10 rfl) (QK.below hB QK.lt)) rfl
      ·intro _ a w2 hB hF hd;refine aO <| aD _ _ _ rfl Tryz.call218 _ (args2 (hd 0 _ rfl rfl (aj rfl)) (hd 1 _ rfl rfl (aj rfl))) aR ((gG _ _ _ _ FJ.out FJ.out w2).mono ?_);rintro e w3 ⟨rfl,hb⟩;exact⟨_,rfl,rfl,hb⟩
     ·refine cB ?_;refine⟨(aL),(aL),(aL),?_,trivial⟩
      ·intro _ a w1 w2 K hB hF hS hr hK;exact bE 191 _ _ rfl .i64 (Zt) 16 (dd) (dD (dd) (dd)) bQ (hF.same 10 rfl) (hS 2 _ rfl rfl) hr hK
     ·intro a wf w6 hB hF hS hfil;have other:∀{k:IntKind} {qb n:Nat} {f:Nat->Int},qb≠Zt->aQ k wf qb n f->aQ k w6 qb n f:=fun {k qb n f} e0 hA=>hfil.arr (by intro i _ dx;simp only[mP,beq_iff_eq] at dx;subst dx<;> ((try simp only[]);(try dsimp only);omega)) hA;have dI:∀{B:Nat} {w0:World},B<=Zt->Below B w0 wf->Below B w0 w6:=fun {B w0} e0 hA=>hfil.below (by intro i _ dx;simp only[mP,beq_iff_eq] at dx;subst dx<;> ((try simp only[]);(try dsimp only);omega)) hA;have V3:aQ .i64 w6 (Zt) 16 (dD (dd) (dd)):=hfil.at 3 aN rfl;have qh:=hfil.size;clear hfil;have ha:=aP rfl rfl hF [_,_,_,undef] rfl ⟨hS 0 _ rfl rfl,hS 1 _ rfl rfl,hS 2 _ rfl rfl,trivial,trivial⟩;simp only[puts,Act.put,dK,dL,dM] at ha;subst ha;clear hS hF;replace hA:=other aH (hA.kept hB);replace hC:=other aH (hC.kept hB);replace hE:=other aH (hE.kept hB);replace hZ:=other aH (hZ.kept hB);replace lq:=other aH (lq.kept hB);replace nE:=other aH (nE.kept hB);replace BG:=other aH (BG.kept hB);replace aA:=dI aH (aA.trans (hB.mono aA.size));obtain⟨d2,hd2,Xd2,Ph⟩:∃x,x=dD dd dd/\∃N,Hid (Fe x N):=⟨_,rfl,_,FJ.out.dD FJ.out⟩
      rw[<-hd2] at V3;have Kd2:=ak hd2;have QM:=V3;replace fD:w.heap.size+4<=w6.heap.size:=by have:=hZ.lt;omega
      clear hB other dI qh QK V3 hd2;go_upto_region 6 with(fail)
      refine bG (n:=77) aS aS aS rfl
       (gZ [(16,12),(17,13),(18,14),(19,15)]) (eZ [(16,12),(17,13),(18,14),(19,15)]) (fun _=>arr .i64 16 (fun _=>0)) (fun i=>match i with | 12=>(arr .i64 16 (fE (bb) (aa))) | 13=>(arr .i64 16 (fE (d2) (cc))) | 14=>(arr .i64 16 (dD (d2) (cc))) | 15=>(arr .i64 16 (dD (bb) (aa))) | _=> #[]) (fun _=>191) (fun i=>match i with | 12=>11 | 13=>12 | 14=>13 | 15=>14 | _=>0)
       (fun ii vv _=>(match ii with | 0 | 9=>vv=.agg (arr .i64 16 (bb)) | 1 | 10=>vv=.agg (arr .i64 16 (aa)) | 2=>vv=.agg (arr .i64 16 (fE (bb) (aa))) | 3 | 6=>vv=.agg (arr .i64 16 (d2)) | 4 | 7=>vv=.agg (arr .i64 16 (cc)) | 5=>vv=.agg (arr .i64 16 (fE (d2) (cc))) | 8=>vv=.agg (arr .i64 16 (dD (d2) (cc))) | 11=>vv=.agg (arr .i64 16 (dD (bb) (aa))) | _=>True)) (fun _ _=>True) (fun _ _ _=>trivial) (fun _ _ _ _ _ _ _=>trivial) (fun _ _ _ _ h _=>h)
       (fJ rfl) (dU rfl) ?_ ?_ ?_ ?_
      ·refine cB ?_;refine⟨?_,?_,?_,?_,?_,?_,?_,?_,?_,?_,?_,?_,(fun h=>by cases h),(fun h=>by cases h),(fun h=>by cases h),(fun h=>by cases h),(fun _ h=>by cases h),(fun _ h=>by cases h),(fun _ h=>by cases h),(fun _ h=>by cases h),trivial⟩
       ·intro _ _ a w2 hB hF hd;exact aO <| aT (aF rfl cZ rfl bQ (hF.same 8 rfl) (nE.below hB nE.lt)) rfl
       ·intro _ _ a w2 hB hF hd;exact aO <| aT (aF rfl cZ rfl bQ (hF.same 7 rfl) (lq.below hB lq.lt)) rfl
       ·intro _ _ a w2 hB hF hd;refine aO <| aD _ _ _ rfl Tryz.call244 _ (args2 (hd 0 _ rfl rfl rfl (aj rfl)) (hd 1 _ rfl rfl rfl (aj rfl))) aR ((jk _ _ _ _ zS.out pJ.out w2).mono ?_);rintro e w3 ⟨rfl,hb⟩;exact⟨_,rfl,rfl,hb⟩
       ·intro _ _ a w2 hB hF hd;exact aO <| aT (aF rfl cZ rfl bQ (hF.same 10 rfl) (QM.below hB QM.lt)) rfl
       ·intro _ _ a w2 hB hF hd;exact aO <| aT (aF rfl cZ rfl bQ (hF.same 9 rfl) (BG.below hB BG.lt)) rfl
       ·intro _ _ a w2 hB hF hd;refine aO <| aD _ _ _ rfl Tryz.call244 _ (args2 (hd 3 _ rfl rfl rfl (aj rfl)) (hd 4 _ rfl rfl rfl (aj rfl))) aR ((jk _ _ _ _ Ph.out Hcc.out w2).mono ?_);rintro e w3 ⟨rfl,hb⟩;exact⟨_,rfl,rfl,hb⟩
       ·intro _ _ a w2 hB hF hd;exact aO <| aT (aF rfl cZ rfl bQ (hF.same 10 rfl) (QM.below hB QM.lt)) rfl
       ·intro _ _ a w2 hB hF hd;exact aO <| aT (aF rfl cZ rfl bQ (hF.same 9 rfl) (BG.below hB BG.lt)) rfl
       ·intro _ _ a w2 hB hF hd;refine aO <| aD _ _ _ rfl Tryz.call218 _ (args2 (hd 6 _ rfl rfl rfl (aj rfl)) (hd 7 _ rfl rfl rfl (aj rfl))) aR ((gG _ _ _ _ Ph.out Hcc.out w2).mono ?_);rintro e w3 ⟨rfl,hb⟩;exact⟨_,rfl,rfl,hb⟩
       ·intro _ _ a w2 hB hF hd;exact aO <| aT (aF rfl cZ rfl bQ (hF.same 8 rfl) (nE.below hB nE.lt)) rfl
       ·intro _ _ a w2 hB hF hd;exact aO <| aT (aF rfl cZ rfl bQ (hF.same 7 rfl) (lq.below hB lq.lt)) rfl
       ·intro _ _ a w2 hB hF hd;refine aO <| aD _ _ _ rfl Tryz.call218 _ (args2 (hd 9 _ rfl rfl rfl (aj rfl)) (hd 10 _ rfl rfl rfl (aj rfl))) aR ((gG _ _ _ _ zS.out pJ.out w2).mono ?_);rintro e w3 ⟨rfl,hb⟩;exact⟨_,rfl,rfl,hb⟩
      ·refine cB ?_;refine⟨(fun h=>by cases h),(fun h=>by cases h),(fun h=>by cases h),(fun h=>by cases h),(fun h=>by cases h),(fun h=>by cases h),(fun h=>by cases h),(fun h=>by cases h),(fun h=>by cases h),(fun h=>by cases h),(fun h=>by cases h),(fun h=>by cases h),?_,?_,?_,?_,(fun h=>by cases h),(fun h=>by cases h),(fun h=>by cases h),(fun h=>by cases h),trivial⟩
       ·exact fun _=>⟨rfl,rfl,fun a w2 K h=>aZ rfl rfl Tryz.zeroValue191 aR h⟩
       ·exact fun _=>⟨rfl,rfl,fun a w2 K h=>aZ rfl rfl Tryz.zeroValue191 aR h⟩
       ·exact fun _=>⟨rfl,rfl,fun a w2 K h=>aZ rfl rfl Tryz.zeroValue191 aR h⟩
       ·exact fun _=>⟨rfl,rfl,fun a w2 K h=>aZ rfl rfl Tryz.zeroValue191 aR h⟩
      ·refine cB ?_;refine⟨(fun _ h=>by cases h),(fun _ h=>by cases h),(fun _ h=>by cases h),(fun _ h=>by cases h),(fun _ h=>by cases h),(fun _ h=>by cases h),(fun _ h=>by cases h),(fun _ h=>by cases h),(fun _ h=>by cases h),(fun _ h=>by cases h),(fun _ h=>by cases h),(fun _ h=>by cases h),(fun _ h=>by cases h),(fun _ h=>by cases h),(fun _ h=>by cases h),(fun _ h=>by cases h),?_,?_,?_,?_,trivial⟩
       ·intro p hp;obtain rfl:12=p:=iy hp;exact⟨rfl,rfl,⟨_,rfl⟩,aj rfl,fun a w2 b K hB hF hd hx hb h=>bJ rfl rfl bQ hx (hd 2 _ rfl rfl rfl (aj rfl)) hb h⟩
       ·intro p hp;obtain rfl:13=p:=iy hp;exact⟨rfl,rfl,⟨_,rfl⟩,aj rfl,fun a w2 b K hB hF hd hx hb h=>bJ rfl rfl bQ hx (hd 5 _ rfl rfl rfl (aj rfl)) hb h⟩
       ·intro p hp;obtain rfl:14=p:=iy hp;exact⟨rfl,rfl,⟨_,rfl⟩,aj rfl,fun a w2 b K hB hF hd hx hb h=>bJ rfl rfl bQ hx (hd 8 _ rfl rfl rfl (aj rfl)) hb h⟩
       ·intro p hp;obtain rfl:15=p:=iy hp;exact⟨rfl,rfl,⟨_,rfl⟩,aj rfl,fun a w2 b K hB hF hd hx hb h=>bJ rfl rfl bQ hx (hd 11 _ rfl rfl rfl (aj rfl)) hb h⟩
      ·intro a w7 blk hB hF hS hv hfin dw;obtain⟨v12,abo,ajh⟩:=hv 12 _ rfl rfl;obtain⟨v13,abn,ajg⟩:=hv 13 _ rfl rfl;obtain⟨v14,abm,ajf⟩:=hv 14 _ rfl rfl;obtain⟨v15,abl,aje⟩:=hv 15 _ rfl rfl;have ha:=aP rfl rfl hF [_,_,_,_,_,_,_,_,_,_,_,_,_,_,_,_,undef,undef,undef,undef] rfl ⟨hS 0 _ rfl rfl rfl,hS 1 _ rfl rfl rfl,hS 2 _ rfl rfl rfl,hS 3 _ rfl rfl rfl,hS 4 _ rfl rfl rfl,hS 5 _ rfl rfl rfl,hS 6 _ rfl rfl rfl,hS 7 _ rfl rfl rfl,hS 8 _ rfl rfl rfl,hS 9 _ rfl rfl rfl,hS 10 _ rfl rfl rfl,hS 11 _ rfl rfl rfl,v12,v13,v14,v15,trivial,trivial,trivial,trivial,trivial⟩;have f12:=hfin 16 _ 12 rfl rfl;have f13:=hfin 17 _ 13 rfl rfl;have f14:=hfin 18 _ 14 rfl rfl;have f15:=hfin 19 _ 15 rfl rfl;have akD:=dw 12 13 _ _ rfl rfl rfl rfl aN;have akC:=dw 12 14 _ _ rfl rfl rfl rfl aN;have akB:=dw 12 15 _ _ rfl rfl rfl rfl aN;have akA:=dw 13 14 _ _ rfl rfl rfl rfl aN;have akz:=dw 13 15 _ _ rfl rfl rfl rfl aN;have aky:=dw 14 15 _ _ rfl rfl rfl rfl aN;simp only[puts,Act.put,dK,dL,dM] at ha;subst ha;have V12:aQ .i64 w7 (blk 12) 16 (fE (bb) (aa)):=⟨_,f12⟩
       have V13:aQ .i64 w7 (blk 13) 16 (fE (d2) (cc)):=⟨_,f13⟩
       have V14:aQ .i64 w7 (blk 14) 16 (dD (d2) (cc)):=⟨_,f14⟩
       have V15:aQ .i64 w7 (blk 15) 16 (dD (bb) (aa)):=⟨_,f15⟩
       clear hS hv hfin dw hF v12 v13 v14 v15 f12 f13 f14 f15;replace hA:=hA.kept hB;replace hC:=hC.kept hB;replace hE:=hE.kept hB;replace hZ:=hZ.kept hB;replace lq:=lq.kept hB;replace nE:=nE.kept hB;replace BG:=BG.kept hB;replace QM:=QM.kept hB;obtain⟨bee,MS⟩:∃x,x=blk 12:=⟨_,rfl⟩
       obtain⟨ee,hee,Xee,uH⟩:∃x,x=fE bb aa/\∃N,Hid (Fe x N):=⟨_,rfl,_,zS.out.fE pJ.out⟩
       rw[<-hee,←MS] at V12;rw[<-MS] at abo ⊢;have lee:w.heap.size+4<=bee:=jS fD abo;have Kee:=ak hee;obtain⟨bff,acW⟩:∃x,x=blk 13:=⟨_,rfl⟩
       obtain⟨ff,hff,Xff,Hff⟩:∃x,x=fE d2 cc/\∃N,Hid (Fe x N):=⟨_,rfl,_,Ph.out.fE Hcc.out⟩
       rw[<-hff,←acW] at V13;rw[<-acW] at abn ⊢;have lff:w.heap.size+4<=bff:=jS fD abn;have Kff:=ak hff;obtain⟨bgg,acV⟩:∃x,x=blk 14:=⟨_,rfl⟩
       obtain⟨gg,hgg,Xgg,Hgg⟩:∃x,x=dD d2 cc/\∃N,Hid (Fe x N):=⟨_,rfl,_,Ph.out.dD Hcc.out⟩
       rw[<-hgg,←acV] at V14;rw[<-acV] at abm ⊢;have lgg:w.heap.size+4<=bgg:=jS fD abm;have Kgg:=ak hgg;obtain⟨bhh,acU⟩:∃x,x=blk 15:=⟨_,rfl⟩
       obtain⟨hh,hhh,Xhh,Hhh⟩:∃x,x=dD bb aa/\∃N,Hid (Fe x N):=⟨_,rfl,_,zS.out.dD pJ.out⟩
       rw[<-hhh,←acU] at V15;rw[<-acU] at abl ⊢;have lhh:w.heap.size+4<=bhh:=jS fD abl;have Khh:=ak hhh;replace aA:=aA.trans (hB.mono aA.size);replace fD:=jS fD hB.size;clear hB hee MS hff acW hgg acV hhh acU;have yD:=V12;clear V12 abo ajh;have YU:=V13;clear V13 abn ajg;have YT:=V14;clear V14 abm ajf;have YR:=V15;clear V15 abl aje;go_upto_region 7 with(fail)
       refine dz (n:=77) (fun i=>i==13) aS aS aS aS rfl
        (fun ii vv _=>(match ii with | 0 | 9=>vv=.agg (arr .i64 16 (ee)) | 1 | 6=>vv=.agg (arr .i64 16 (ff)) | 2=>vv=.agg (arr .i64 16 (aU (ee) (ff))) | 3 | 7=>vv=.agg (arr .i64 16 (gg)) | 4 | 10=>vv=.agg (arr .i64 16 (hh)) | 5=>vv=.agg (arr .i64 16 (aU (gg) (hh))) | 8=>vv=.agg (arr .i64 16 (aU (ff) (gg))) | 11=>vv=.agg (arr .i64 16 (aU (ee) (hh))) | 12=>vv=.agg (arr .i64 64 (pt (aU (ee) (ff)) (aU (gg) (hh)) (aU (ff) (gg)) (aU (ee) (hh)))) | _=>True))
        (fun w w'=>Below w.heap.size w w') (fun _ _ h=>h) (fun _ _ _ _ h _=>h)
        (fun _=>(w.heap.size+3)) (fun _=>(arr .i64 64 (fun _=>0))) (fun _=>(arr .i64 64 (pt (aU (ee) (ff)) (aU (gg) (hh)) (aU (ff) (gg)) (aU (ee) (hh)))))
        (by intro i j _ _ dx kL gB;simp only[beq_iff_eq] at dx kL;omega)
        (by intro i _ dx;exact(hZ).row)
        ?_ ?_ ?_
       ·refine cB ?_;refine⟨?_,?_,?_,?_,?_,?_,?_,?_,?_,?_,?_,?_,?_,(aL),trivial⟩
        ·intro _ a w2 hB hF hd;exact aO <| aT (aF rfl cZ rfl bQ (hF.same 11 rfl) (yD.below hB yD.lt)) rfl
        ·intro _ a w2 hB hF hd;exact aO <| aT (aF rfl cZ rfl bQ (hF.same 12 rfl) (YU.below hB YU.lt)) rfl
        ·intro _ a w2 hB hF hd;refine aO <| aD _ _ _ rfl Tryz.call203 _ (args2 (hd 0 _ rfl rfl (aj rfl)) (hd 1 _ rfl rfl (aj rfl))) aR ((bV _ _ _ _ uH.out Hff.out w2).mono ?_);rintro e w3 ⟨rfl,hb⟩;exact⟨_,rfl,rfl,hb⟩
        ·intro _ a w2 hB hF hd;exact aO <| aT (aF rfl cZ rfl bQ (hF.same 13 rfl) (YT.below hB YT.lt)) rfl
        ·intro _ a w2 hB hF hd;exact aO <| aT (aF rfl cZ rfl bQ (hF.same 14 rfl) (YR.below hB YR.lt)) rfl
        ·intro _ a w2 hB hF hd;refine aO <| aD _ _ _ rfl Tryz.call203 _ (args2 (hd 3 _ rfl rfl (aj rfl)) (hd 4 _ rfl rfl (aj rfl))) aR ((bV _ _ _ _ Hgg.out Hhh.out w2).mono ?_);rintro e w3 ⟨rfl,hb⟩;exact⟨_,rfl,rfl,hb⟩
        ·intro _ a w2 hB hF hd;exact aO <| aT (aF rfl cZ rfl bQ (hF.same 12 rfl) (YU.below hB YU.lt)) rfl
        ·intro _ a w2 hB hF hd;exact aO <| aT (aF rfl cZ rfl bQ (hF.same 13 rfl) (YT.below hB YT.lt)) rfl
        ·intro _ a w2 hB hF hd;refine aO <| aD _ _ _ rfl Tryz.call203 _ (args2 (hd 6 _ rfl rfl (aj rfl)) (hd 7 _ rfl rfl (aj rfl))) aR ((bV _ _ _ _ Hff.out Hgg.out w2).mono ?_);rintro e w3 ⟨rfl,hb⟩;exact⟨_,rfl,rfl,hb⟩
        ·intro _ a w2 hB hF hd;exact aO <| aT (aF rfl cZ rfl bQ (hF.same 11 rfl) (yD.below hB yD.lt)) rfl
        ·intro _ a w2 hB hF hd;exact aO <| aT (aF rfl cZ rfl bQ (hF.same 14 rfl) (YR.below hB YR.lt)) rfl
        ·intro _ a w2 hB hF hd;refine aO <| aD _ _ _ rfl Tryz.call203 _ (args2 (hd 9 _ rfl rfl (aj rfl)) (hd 10 _ rfl rfl (aj rfl))) aR ((bV _ _ _ _ uH.out Hhh.out w2).mono ?_);rintro e w3 ⟨rfl,hb⟩;exact⟨_,rfl,rfl,hb⟩
        ·intro _ a w2 hB hF hd;exact aO <| aT (gN rfl (by simp only[zw,List.map_cons,List.map_nil,show a.eval (Operand.tmp 66)=.agg (arr .i64 16 (aU (ee) (ff))) from(hd 2 _ rfl rfl (aj rfl)),show a.eval (Operand.tmp 69)=.agg (arr .i64 16 (aU (gg) (hh))) from(hd 5 _ rfl rfl (aj rfl)),show a.eval (Operand.tmp 72)=.agg (arr .i64 16 (aU (ff) (gg))) from(hd 8 _ rfl rfl (aj rfl)),show a.eval (Operand.tmp 75)=.agg (arr .i64 16 (aU (ee) (hh))) from(hd 11 _ rfl rfl (aj rfl))];exact Cj _ _ _ _ _)) rfl
       ·refine cB ?_;refine⟨(aL),(aL),(aL),(aL),(aL),(aL),(aL),(aL),(aL),(aL),(aL),(aL),(aL),?_,trivial⟩
        ·intro _ a w1 w2 K hB hF hS hr hK;exact bE 193 _ _ rfl .i64 ((w.heap.size+3)) 64 (fun _=>0) (pt (aU (ee) (ff)) (aU (gg) (hh)) (aU (ff) (gg)) (aU (ee) (hh))) Tryz.size193 (hF.same 6 rfl) (hS 12 _ rfl rfl) hr hK
       ·intro a wf w8 hB hF hS hfil;have other:∀{k:IntKind} {qb n:Nat} {f:Nat->Int},qb≠(w.heap.size+3)->aQ k wf qb n f->aQ k w8 qb n f:=fun {k qb n f} e0 hA=>hfil.arr (by intro i _ dx;simp only[mP,beq_iff_eq] at dx;subst dx<;> ((try simp only[]);(try dsimp only);omega)) hA;have dI:∀{B:Nat} {w0:World},B<=(w.heap.size+3)->Below B w0 wf->Below B w0 w8:=fun {B w0} e0 hA=>hfil.below (by intro i _ dx;simp only[mP,beq_iff_eq] at dx;subst dx<;> ((try simp only[]);(try dsimp only);omega)) hA;have V13:aQ .i64 w8 ((w.heap.size+3)) 64 (pt (aU (ee) (ff)) (aU (gg) (hh)) (aU (ff) (gg)) (aU (ee) (hh))):=hfil.at 13 aN rfl;have qh:=hfil.size;clear hfil;have ha:=aP rfl rfl hF [_,_,_,_,_,_,_,_,_,_,_,_,_,undef] rfl ⟨hS 0 _ rfl rfl,hS 1 _ rfl rfl,hS 2 _ rfl rfl,hS 3 _ rfl rfl,hS 4 _ rfl rfl,hS 5 _ rfl rfl,hS 6 _ rfl rfl,hS 7 _ rfl rfl,hS 8 _ rfl rfl,hS 9 _ rfl rfl,hS 10 _ rfl rfl,hS 11 _ rfl rfl,hS 12 _ rfl rfl,trivial,trivial⟩;simp only[puts,Act.put,dK,dL,dM] at ha;subst ha;clear hS hF;have hb:=dI aH (aA.trans (hB.mono aA.size));go_wp2;have hfin:pt (aU ee ff) (aU gg hh) (aU ff gg) (aU ee hh)=pt (sumX f g h e u v r s d) (Jd f g h e u v r s d) (sumZ f g h e u v r s d) (Je f g h e u v r s d):=by
         rw[Kee.out,Kff.out,Kgg.out,Khh.out,Kd2.out,Kdd.out,Kcc.out,Kbb.out,Kaa.out];rfl
        rw[hfin] at V13;exact bodyPost_ret (dG rfl _ _ .i64 (w.heap.size+3) 64 _ rfl V13 vH rfl Tryz.size193) rfl ⟨rfl,hb⟩
def zK:Nat->Int:=dD iU iU
theorem OT:Fe zK (dN+dN):=jF.dD jF
theorem SI:toF (dN+dN)=dE+dE:=by rw[oH,LB]
theorem Qn (f g h e u v r s:Nat->Int) (X Y Z T U V W S:Int) (hp:tV f g h e X Y Z T) (hq:tV u v r s U V W S) (w:World):
  Calls Tryz.prog 159 #[Pt f g h e,Pt u v r s] w fun e_ w'=>e_=.returned (Pt (sumX f g h e u v r s zK) (Jd f g h e u v r s zK) (sumZ f g h e u v r s zK) (Je f g h e u v r s zK))/\Below w.heap.size w w':=by
 have HP:=ak hp;have HQ:=ak hq;clear hp hq;unfold Pt
 go_enter Tryz.func159,Tryz.ntmps159
 go_upto_region 1 with(fail)
 refine aJ (fun w1=>aQ .i64 w1 w.heap.size 64 (pt f g h e)/\aQ .i64 w1 (w.heap.size+1) 64 (pt u v r s)/\aQ .i64 w1 (w.heap.size+2) 64 (fun _=>0)/\Below w.heap.size w w1)
  ⟨.alloc (.alloc (bU rfl rfl) _) _,.alloc (bU (by first | omega | (simp<;> omega)) rfl) _,bU (by first | omega | (simp<;> omega)) (by rfl),(((bT _ _).alloc (bB _) _).alloc (by first | omega | (simp<;> omega)) _).alloc (by first | omega | (simp<;> omega)) _⟩ ?_
 rintro w1 ⟨hA,hC,hZ,aA⟩
 refine bG (n:=13) aS aS aS rfl
  (gZ [(2,1)]) (eZ [(2,1)]) (fun _=>arr .i64 16 (fun _=>0)) (fun _=>(arr .i64 16 (iU))) (fun _=>191) (fun _=>5)
  (fun ii vv _=>(match ii with | 0=>vv=.agg (arr .i64 16 (iU)) | _=>True)) (fun _ _=>True) (fun _ _ _=>trivial) (fun _ _ _ _ _ _ _=>trivial) (fun _ _ _ _ h _=>h)
  (fJ rfl) (dU rfl) ?_ ?_ ?_ ?_
 ·refine cB ?_;refine⟨?_,(fun h=>by cases h),(fun _ h=>by cases h),trivial⟩
  ·intro _ _ a w2 hB hF hd;refine aO <| aD _ _ _ rfl Tryz.call217 _ mZ aR ((sN w2).mono ?_);rintro e w3 ⟨rfl,hb⟩;exact⟨_,rfl,rfl,hb⟩
 ·refine cB ?_;refine⟨(fun h=>by cases h),?_,(fun h=>by cases h),trivial⟩
  ·exact fun _=>⟨rfl,rfl,fun a w2 K h=>aZ rfl rfl Tryz.zeroValue191 aR h⟩
 ·refine cB ?_;refine⟨(fun _ h=>by cases h),(fun _ h=>by cases h),?_,trivial⟩
  ·intro p hp;obtain rfl:1=p:=iy hp;exact⟨rfl,rfl,⟨_,rfl⟩,aj rfl,fun a w2 b K hB hF hd hx hb h=>bJ rfl rfl bQ hx (hd 0 _ rfl rfl rfl (aj rfl)) hb h⟩
 ·intro a w2 blk hB hF hS hv hfin dw;obtain⟨v1,v1l,v1u⟩:=hv 1 _ rfl rfl;have ha:=aP rfl rfl hF [_,_,undef] rfl ⟨hS 0 _ rfl rfl rfl,v1,trivial,trivial⟩;have f1:=hfin 2 _ 1 rfl rfl;simp only[puts,Act.put,dK,dL,dM] at ha;subst ha;have V1:aQ .i64 w2 (blk 1) 16 (iU):=⟨_,f1⟩
  clear hS hv hfin dw hF v1 f1;replace hA:=hA.kept hB;replace hC:=hC.kept hB;replace hZ:=hZ.kept hB;replace aA:=aA.trans (hB.mono aA.size);obtain⟨x,hx⟩:∃x,x=blk 1:=⟨_,rfl⟩
  rw[<-hx] at V1 ⊢;have h1:=V1;clear hB V1 hx;go_upto_region 2 with(fail)
  refine dz (n:=13) (fun i=>i==6) aS aS aS aS rfl
   (fun ii vv _=>(match ii with | 0=>vv=.agg (arr .i64 64 (pt f g h e)) | 1=>vv=.agg (arr .i64 64 (pt u v r s)) | 2 | 3=>vv=.agg (arr .i64 16 (iU)) | 4=>vv=.agg (arr .i64 16 (zK)) | 5=>vv=.agg (arr .i64 64 (pt (sumX (f) (g) (h) (e) (u) (v) (r) (s) (zK)) (Jd (f) (g) (h) (e) (u) (v) (r) (s) (zK)) (sumZ (f) (g) (h) (e) (u) (v) (r) (s) (zK)) (Je (f) (g) (h) (e) (u) (v) (r) (s) (zK)))) | _=>True))
   (fun w w'=>Below w.heap.size w w') (fun _ _ h=>h) (fun _ _ _ _ h _=>h)
   (fun _=>(w.heap.size+2)) (fun _=>(arr .i64 64 (fun _=>0))) (fun _=>(arr .i64 64 (pt (sumX (f) (g) (h) (e) (u) (v) (r) (s) (zK)) (Jd (f) (g) (h) (e) (u) (v) (r) (s) (zK)) (sumZ (f) (g) (h) (e) (u) (v) (r) (s) (zK)) (Je (f) (g) (h) (e) (u) (v) (r) (s) (zK)))))
   (by intro i j _ _ dx kL gB;simp only[beq_iff_eq] at dx kL;omega)
   (by intro i _ dx;exact(hZ).row)
   ?_ ?_ ?_
  ·refine cB ?_;refine⟨?_,?_,?_,?_,?_,?_,(aL),trivial⟩
   ·intro _ a w2 hB hF hd;exact aO <| aT (aF rfl vH rfl Tryz.size193 (hF.same 2 rfl) (hA.below hB hA.lt)) rfl
   ·intro _ a w2 hB hF hd;exact aO <| aT (aF rfl vH rfl Tryz.size193 (hF.same 3 rfl) (hC.below hB hC.lt)) rfl
   ·intro _ a w2 hB hF hd;exact aO <| aT (aF rfl cZ rfl bQ (hF.same 5 rfl) (h1.below hB h1.lt)) rfl
   ·intro _ a w2 hB hF hd;exact aO <| aT (aF rfl cZ rfl bQ (hF.same 5 rfl) (h1.below hB h1.lt)) rfl
   ·intro _ a w2 hB hF hd;refine aO <| aD _ _ _ rfl Tryz.call218 _ (args2 (hd 2 _ rfl rfl (aj rfl)) (hd 3 _ rfl rfl (aj rfl))) aR ((gG _ _ _ _ jF jF w2).mono ?_);rintro e w3 ⟨rfl,hb⟩;exact⟨_,rfl,rfl,hb⟩
   ·intro _ a w2 hB hF hd;refine aO <| aD _ _ _ rfl Tryz.call221 _ (Cn (hd 0 _ rfl rfl (aj rfl)) (hd 1 _ rfl rfl (aj rfl)) (hd 4 _ rfl rfl (aj rfl))) aR ((EB _ _ _ _ _ _ _ _ _ _ _ _ _ _ _ _ _ _ HP.out HQ.out OT w2).mono ?_);rintro e w3 ⟨rfl,hb⟩;exact⟨_,rfl,rfl,hb⟩
  ·refine cB ?_;refine⟨(aL),(aL),(aL),(aL),(aL),(aL),?_,trivial⟩
   ·intro _ a w1 w2 K hB hF hS hr hK;exact bE 193 _ _ rfl .i64 ((w.heap.size+2)) 64 (fun _=>0) (pt (sumX (f) (g) (h) (e) (u) (v) (r) (s) (zK)) (Jd (f) (g) (h) (e) (u) (v) (r) (s) (zK)) (sumZ (f) (g) (h) (e) (u) (v) (r) (s) (zK)) (Je (f) (g) (h) (e) (u) (v) (r) (s) (zK))) Tryz.size193 (hF.same 4 rfl) (hS 5 _ rfl rfl) hr hK
  ·intro a wf w3 hB hF hS hfil;have other:∀{k:IntKind} {qb n:Nat} {f:Nat->Int},qb≠(w.heap.size+2)->aQ k wf qb n f->aQ k w3 qb n f:=fun {k qb n f} e0 hA=>hfil.arr (by intro i _ dx;simp only[mP,beq_iff_eq] at dx;subst dx<;> ((try simp only[]);(try dsimp only);omega)) hA;have dI:∀{B:Nat} {w0:World},B<=(w.heap.size+2)->Below B w0 wf->Below B w0 w3:=fun {B w0} e0 hA=>hfil.below (by intro i _ dx;simp only[mP,beq_iff_eq] at dx;subst dx<;> ((try simp only[]);(try dsimp only);omega)) hA;have V6:aQ .i64 w3 ((w.heap.size+2)) 64 (pt (sumX (f) (g) (h) (e) (u) (v) (r) (s) (zK)) (Jd (f) (g) (h) (e) (u) (v) (r) (s) (zK)) (sumZ (f) (g) (h) (e) (u) (v) (r) (s) (zK)) (Je (f) (g) (h) (e) (u) (v) (r) (s) (zK))):=hfil.at 6 aN rfl;have qh:=hfil.size;clear hfil;have ha:=aP rfl rfl hF [_,_,_,_,_,_,undef] rfl ⟨hS 0 _ rfl rfl,hS 1 _ rfl rfl,hS 2 _ rfl rfl,hS 3 _ rfl rfl,hS 4 _ rfl rfl,hS 5 _ rfl rfl,trivial,trivial⟩;simp only[puts,Act.put,dK,dL,dM] at ha;subst ha;clear hS hF;have hb:=dI aH (aA.trans (hB.mono aA.size));go_wp2;exact bodyPost_ret (dG rfl _ _ .i64 (w.heap.size+2) 64 _ rfl V6 vH rfl Tryz.size193) rfl ⟨rfl,hb⟩
theorem Dz (p:Bool) (f g h e u v r s:Nat->Int) (X Y Z T U V W S:Int) (hp:tV f g h e X Y Z T) (hq:tV u v r s U V W S) (w:World):
  Calls Tryz.prog 220 #[Pt f g h e,Pt u v r s,.bool p] w fun e_ w'=>e_=.returned (.tuple #[Pt (bD p f u) (bD p g v) (bD p h r) (bD p e s),Pt (bD p u f) (bD p v g) (bD p r h) (bD p s e)])/\Below w.heap.size w w':=by
 have HP:=ak hp;have HQ:=ak hq;clear hp hq;unfold Pt
 go_enter Tryz.func220,Tryz.ntmps220
 go_upto_region 1 with(fail)
 refine aJ (fun w1=>aQ .i64 w1 w.heap.size 64 (pt f g h e)/\aQ .i64 w1 (w.heap.size+1) 64 (pt u v r s)/\aQ .i64 w1 (w.heap.size+2) 64 (fun _=>0)/\aQ .i64 w1 (w.heap.size+3) 64 (fun _=>0)/\Below w.heap.size w w1)
  ⟨.alloc (.alloc (.alloc (bU rfl rfl) _) _) _,.alloc (.alloc (bU (by first | omega | (simp<;> omega)) rfl) _) _,.alloc (bU (by first | omega | (simp<;> omega)) (by rfl)) _,bU (by first | omega | (simp<;> omega)) (by rfl),((((bT _ _).alloc (bB _) _).alloc (by first | omega | (simp<;> omega)) _).alloc (by first | omega | (simp<;> omega)) _).alloc (by first | omega | (simp<;> omega)) _⟩ ?_
 rintro w1 ⟨hA,hC,hZ,hY,aA⟩
 try simp only[Act.put,dK,dL,dM]
 go_wp2_with (first | (refine gq rfl (bP (m:=15) (k:=0) rfl rfl aS) ?_) | (refine gq rfl (bR rfl rfl cZ rfl bQ (fun i hi=>Gv hA i hi)) ?_) | (refine gq rfl (bR rfl rfl cZ rfl bQ (fun i hi=>Gv hC i hi)) ?_));refine(jG p f u _ _ HP.out.1 HQ.out.1 _).mono ?_;rintro e_ v0 ⟨rfl,hb⟩;replace hA:=hA.kept hb;replace hC:=hC.kept hb;replace hZ:=hZ.kept hb;replace hY:=hY.kept hb;replace aA:=aA.trans (hb.mono aA.size);have s2:=hC.eH (b':=w.heap.size) aH (vals .i64 16 (bD p f u)) 0;have t1:=gD (P:=Tryz.prog) hA (off:=0) (m:=16) aN (bD p f u);have t2:=gD (P:=Tryz.prog) s2 (off:=0) (m:=16) aN (bD p u f);go_upto_region 2 with(fail);clear t1 t2
 refine aJ (fun w1=>aQ .i64 w1 w.heap.size 64 (pt (bD p f u) g h e)/\aQ .i64 w1 (w.heap.size+1) 64 (pt (bD p u f) v r s)/\aQ .i64 w1 (w.heap.size+2) 64 (fun _=>0)/\aQ .i64 w1 (w.heap.size+3) 64 (fun _=>0)/\Below w.heap.size w w1)
  ⟨((hA.mid 16 0 (bD p f u)).congr (Kl _ _ _ _ _)).eH (b':=w.heap.size+1) aH _ _,(s2.mid 16 0 (bD p u f)).congr (Kl _ _ _ _ _),(hZ.eH (b':=w.heap.size) aH (vals .i64 16 (bD p f u)) 0).eH (b':=w.heap.size+1) aH (vals .i64 16 (bD p u f)) 0,(hY.eH (b':=w.heap.size) aH (vals .i64 16 (bD p f u)) 0).eH (b':=w.heap.size+1) aH (vals .i64 16 (bD p u f)) 0,jR aH _ _ _ (jR (bB _) _ _ _ aA)⟩ ?_
 clear s2 hA hC hZ hY aA hb;rintro w2 ⟨hA,hC,hZ,hY,aA⟩
 try simp only[Act.put,dK,dL,dM]
 go_wp2_with (first | (refine gq rfl (bP (m:=15) (k:=16) rfl rfl aS) ?_) | (refine gq rfl (bR rfl rfl cZ rfl bQ (fun i hi=>JI hA i hi)) ?_) | (refine gq rfl (bR rfl rfl cZ rfl bQ (fun i hi=>JI hC i hi)) ?_));refine(jG p g v _ _ HP.out.2.1 HQ.out.2.1 _).mono ?_;rintro e_ v1 ⟨rfl,hb⟩;replace hA:=hA.kept hb;replace hC:=hC.kept hb;replace hZ:=hZ.kept hb;replace hY:=hY.kept hb;replace aA:=aA.trans (hb.mono aA.size);have s2:=hC.eH (b':=w.heap.size) aH (vals .i64 16 (bD p g v)) 16;have t1:=gD (P:=Tryz.prog) hA (off:=16) (m:=16) aN (bD p g v);have t2:=gD (P:=Tryz.prog) s2 (off:=16) (m:=16) aN (bD p v g);go_upto_region 3 with(fail);clear t1 t2
 refine aJ (fun w1=>aQ .i64 w1 w.heap.size 64 (pt (bD p f u) (bD p g v) h e)/\aQ .i64 w1 (w.heap.size+1) 64 (pt (bD p u f) (bD p v g) r s)/\aQ .i64 w1 (w.heap.size+2) 64 (fun _=>0)/\aQ .i64 w1 (w.heap.size+3) 64 (fun _=>0)/\Below w.heap.size w w1)
  ⟨((hA.mid 16 16 (bD p g v)).congr (Kk _ _ _ _ _)).eH (b':=w.heap.size+1) aH _ _,(s2.mid 16 16 (bD p v g)).congr (Kk _ _ _ _ _),(hZ.eH (b':=w.heap.size) aH (vals .i64 16 (bD p g v)) 16).eH (b':=w.heap.size+1) aH (vals .i64 16 (bD p v g)) 16,(hY.eH (b':=w.heap.size) aH (vals .i64 16 (bD p g v)) 16).eH (b':=w.heap.size+1) aH (vals .i64 16 (bD p v g)) 16,jR aH _ _ _ (jR (bB _) _ _ _ aA)⟩ ?_
 clear s2 hA hC hZ hY aA hb;rintro w3 ⟨hA,hC,hZ,hY,aA⟩
 try simp only[Act.put,dK,dL,dM]
 go_wp2_with (first | (refine gq rfl (bP (m:=15) (k:=32) rfl rfl aS) ?_) | (refine gq rfl (bR rfl rfl cZ rfl bQ (fun i hi=>Ml hA i hi)) ?_) | (refine gq rfl (bR rfl rfl cZ rfl bQ (fun i hi=>Ml hC i hi)) ?_));refine(jG p h r _ _ HP.out.2.2.1 HQ.out.2.2.1 _).mono ?_;rintro e_ v2 ⟨rfl,hb⟩;replace hA:=hA.kept hb;replace hC:=hC.kept hb;replace hZ:=hZ.kept hb;replace hY:=hY.kept hb;replace aA:=aA.trans (hb.mono aA.size);have s2:=hC.eH (b':=w.heap.size) aH (vals .i64 16 (bD p h r)) 32;have t1:=gD (P:=Tryz.prog) hA (off:=32) (m:=16) aN (bD p h r);have t2:=gD (P:=Tryz.prog) s2 (off:=32) (m:=16) aN (bD p r h);go_upto_region 4 with(fail);clear t1 t2
 refine aJ (fun w1=>aQ .i64 w1 w.heap.size 64 (pt (bD p f u) (bD p g v) (bD p h r) e)/\aQ .i64 w1 (w.heap.size+1) 64 (pt (bD p u f) (bD p v g) (bD p r h) s)/\aQ .i64 w1 (w.heap.size+2) 64 (fun _=>0)/\aQ .i64 w1 (w.heap.size+3) 64 (fun _=>0)/\Below w.heap.size w w1)
  ⟨((hA.mid 16 32 (bD p h r)).congr (Kj _ _ _ _ _)).eH (b':=w.heap.size+1) aH _ _,(s2.mid 16 32 (bD p r h)).congr (Kj _ _ _ _ _),(hZ.eH (b':=w.heap.size) aH (vals .i64 16 (bD p h r)) 32).eH (b':=w.heap.size+1) aH (vals .i64 16 (bD p r h)) 32,(hY.eH (b':=w.heap.size) aH (vals .i64 16 (bD p h r)) 32).eH (b':=w.heap.size+1) aH (vals .i64 16 (bD p r h)) 32,jR aH _ _ _ (jR (bB _) _ _ _ aA)⟩ ?_
 clear s2 hA hC hZ hY aA hb;rintro w4 ⟨hA,hC,hZ,hY,aA⟩
 try simp only[Act.put,dK,dL,dM]
 go_wp2_with (first | (refine gq rfl (bP (m:=15) (k:=48) rfl rfl aS) ?_) | (refine gq rfl (bR rfl rfl cZ rfl bQ (fun i hi=>TQ hA i hi)) ?_) | (refine gq rfl (bR rfl rfl cZ rfl bQ (fun i hi=>TQ hC i hi)) ?_));refine(jG p e s _ _ HP.out.2.2.2 HQ.out.2.2.2 _).mono ?_;rintro e_ v3 ⟨rfl,hb⟩;replace hA:=hA.kept hb;replace hC:=hC.kept hb;replace hZ:=hZ.kept hb;replace hY:=hY.kept hb;replace aA:=aA.trans (hb.mono aA.size);have s2:=hC.eH (b':=w.heap.size) aH (vals .i64 16 (bD p e s)) 48;have t1:=gD (P:=Tryz.prog) hA (off:=48) (m:=16) aN (bD p e s);have t2:=gD (P:=Tryz.prog) s2 (off:=48) (m:=16) aN (bD p s e);go_upto_region 5 with(fail);clear t1 t2
 refine aJ (fun w1=>aQ .i64 w1 w.heap.size 64 (pt (bD p f u) (bD p g v) (bD p h r) (bD p e s))/\aQ .i64 w1 (w.heap.size+1) 64 (pt (bD p u f) (bD p v g) (bD p r h) (bD p s e))/\aQ .i64 w1 (w.heap.size+2) 64 (fun _=>0)/\aQ .i64 w1 (w.heap.size+3) 64 (fun _=>0)/\Below w.heap.size w w1)
  ⟨((hA.mid 16 48 (bD p e s)).congr (Ki _ _ _ _ _)).eH (b':=w.heap.size+1) aH _ _,(s2.mid 16 48 (bD p s e)).congr (Ki _ _ _ _ _),(hZ.eH (b':=w.heap.size) aH (vals .i64 16 (bD p e s)) 48).eH (b':=w.heap.size+1) aH (vals .i64 16 (bD p s e)) 48,(hY.eH (b':=w.heap.size) aH (vals .i64 16 (bD p e s)) 48).eH (b':=w.heap.size+1) aH (vals .i64 16 (bD p s e)) 48,jR aH _ _ _ (jR (bB _) _ _ _ aA)⟩ ?_
 clear s2 hA hC hZ hY aA hb;rintro w5 ⟨hA,hC,hZ,hY,aA⟩
 try simp only[Act.put,dK,dL,dM]
 obtain⟨fa,hfa⟩:∃x,x=pt (bD p f u) (bD p g v) (bD p h r) (bD p e s):=⟨_,rfl⟩
 obtain⟨fb,Vn⟩:∃x,x=pt (bD p u f) (bD p v g) (bD p r h) (bD p s e):=⟨_,rfl⟩
 rw[<-hfa] at hA;rw[<-Vn] at hC
 refine oW (n:=54) 3 rfl aN aS aS aS aS rfl
  (fun ii vv ww=>(match ii with | 0=>vv=.agg (arr .i64 64 fa) | 1=>vv=.agg (arr .i64 64 fb) | _=>True)/\(ii=2->aQ .i64 ww (w.heap.size+2) 64 fa)) 2
  (fun b ww=>(aQ .i64 ww w.heap.size 64 fa/\aQ .i64 ww (w.heap.size+1) 64 fb/\aQ .i64 ww (w.heap.size+3) 64 (fun _=>0)/\Below w.heap.size w ww)/\(b=false->aQ .i64 ww (w.heap.size+2) 64 (fun _=>0))) ⟨⟨hA.drew,hC.drew,hY.drew,aA.drew⟩,fun _=>hZ.drew⟩
  (fun i ww w'=>match i with | 2=>((aQ .i64 ww w.heap.size 64 fa/\aQ .i64 ww (w.heap.size+1) 64 fb/\aQ .i64 ww (w.heap.size+3) 64 (fun _=>0)/\Below w.heap.size w ww)->(aQ .i64 w' w.heap.size 64 fa/\aQ .i64 w' (w.heap.size+1) 64 fb/\aQ .i64 w' (w.heap.size+3) 64 (fun _=>0)/\Below w.heap.size w w')) | _=>w'=ww) ?_ ?_ ?_ ?_ rfl ?_ ?_
 ·intro i ww;(try dsimp only);split
  ·exact id
  ·rfl
 ·intro i b ww w' hi hR hE;have hE':w'=ww:=by(try dsimp only at hE);split at hE;(· exact absurd rfl hi);exact hE
  rw[hE'];exact hR
 ·intro ww w' hR hE;exact⟨hE hR.1,fun h=>by cases h⟩
 ·intro i j b v ww w' jw hjb hR hS hE;refine⟨hS.1,fun e=>?_⟩;subst e;have hE':w'=ww:=by(try dsimp only at hE);split at hE;(· exact absurd rfl jw);exact hE
  rw[hE'];exact hS.2 rfl
 ·refine cB ?_;refine⟨?_,?_,?_,(fun h=>absurd rfl h),trivial⟩
  ·intro _ b a w2 hcb hB hF hd;exact aO <| Fh (fun h=>by cases h) (aF rfl vH rfl Tryz.size193 (hF.same 3 rfl) hB.1.1) ⟨rfl,aL⟩ rfl
  ·intro _ b a w2 hcb hB hF hd;exact aO <| Fh (fun h=>by cases h) (aF rfl vH rfl Tryz.size193 (hF.same 4 rfl) hB.1.2.1) ⟨rfl,aL⟩ rfl
  ·intro _ b a w2 hcb hB hF hd;refine aO <| bE 193 _ _ rfl .i64 (w.heap.size+2) 64 (fun _=>0) fa Tryz.size193 (hF.same 6 rfl) (hd 0 _ rfl (aj rfl)).1 (hB.2 (hcb rfl)) ?_;exact⟨_,rfl,fun _=>rfl,⟨trivial,fun _=>(hB.2 (hcb rfl)).setRow _ _⟩,fun h=>⟨h.1.aG _ aH _,h.2.1.aG _ aH _,h.2.2.1.aG _ aH _,aC h.2.2.2 aH _⟩⟩
 ·intro b a w3 hB hF hS;have hV:=(hS 2 _ rfl aN).2 rfl;obtain⟨⟨_,_,hY3,fP⟩,_⟩:=hB;have ha:=aP rfl rfl hF [_,_,undef,undef] rfl ⟨(hS 0 _ rfl aN).1,(hS 1 _ rfl aN).1,trivial,trivial,trivial⟩;simp only[puts,Act.put,dK,dL,dM] at ha;subst ha;clear hS hF hA hC hZ hY aA;refine bE 193 _ _ rfl .i64 (w.heap.size+3) 64 (fun _=>0) _ Tryz.size193 rfl rfl hY3 ?_;have r1:=hV.aG (w.heap.size+3) aH (arr .i64 64 fb);have r2:=hY3.setRow 64 fb;have r3:=aC fP (by omega:w.heap.size<=w.heap.size+3) (arr .i64 64 fb);go_wp2;exact bodyPost_ret (qK rfl _ _ .i64 (w.heap.size+2) 64 _ .i64 (w.heap.size+3) 64 _ rfl r1 vH rfl Tryz.size193 rfl r2 vH rfl Tryz.size193) rfl ⟨by rw[hfa,Vn],r3⟩
end Go.Proofs.YtpcjekgfnfjbpaaGreat
