/-
  Part 42 of EscrowTake. Conditions: named in each theorem.
-/
import Derived.Test.YtpcjekgfnfjbpaaGreatPkEscrowTake23
import Derived.Test.YtpcjekgfnfjbpaaGreatPkEscrowTake35
import Derived.Test.YtpcjekgfnfjbpaaGreatPkEscrowTake41
import Derived.Test.YtpcjekgfnfjbpaaGreatPkEscrowTake37
set_option linter.unusedVariables false
set_option linter.unusedSimpArgs false
set_option maxRecDepth 100000
set_option maxHeartbeats 6400000
namespace Go.aZ
open Go.RowKit
structure nT where
 nm:ByteArray
 pb:List Int
 vf:List Int
structure AL where
 fr:ByteArray
 ta:ByteArray
 b:List Int
structure Fy where
 nm:ByteArray
 sc:List Int
structure Df (F:Nat->Prop) (w:World) (z:Nat->Value) (a:nT):Prop where
 z0:z 0=.string a.nm
 z1:dK F w (z 1) a.pb
 z2:dK F w (z 2) a.vf
structure Wn (F:Nat->Prop) (w:World) (z:Nat->Value) (a:AL):Prop where
 z0:z 0=.string a.fr
 z1:z 1=.string a.ta
 z2:dK F w (z 2) a.b
structure Wv (F:Nat->Prop) (w:World) (z:Nat->Value) (a:Fy):Prop where
 z0:z 0=.string a.nm
 z1:dK F w (z 1) a.sc
section
variable {F F' : Nat -> Prop} {w w' : World} {z : Nat -> Value} {p : Nat}
theorem Df.below {a:nT} (h:Df F w z a) (hb:Below w.heap.size w w'):Df F w' z a:=⟨h.z0,h.z1.below hb,h.z2.below hb⟩
theorem Wn.below {a:AL} (h:Wn F w z a) (hb:Below w.heap.size w w'):Wn F w' z a:=⟨h.z0,h.z1,h.z2.below hb⟩
theorem Wv.below {a:Fy} (h:Wv F w z a) (hb:Below w.heap.size w w'):Wv F w' z a:=⟨h.z0,h.z1.below hb⟩
theorem Df.xD {a:nT} (h:Df F w z a) (hc:ku p F w w') (hF:∀b,F' b->F b\/w.heap.size<=b):Df F' w' z a:=⟨h.z0,h.z1.xD hc hF,h.z2.xD hc hF⟩
theorem Wn.xD {a:AL} (h:Wn F w z a) (hc:ku p F w w') (hF:∀b,F' b->F b\/w.heap.size<=b):Wn F' w' z a:=⟨h.z0,h.z1,h.z2.xD hc hF⟩
theorem Wv.xD {a:Fy} (h:Wv F w z a) (hc:ku p F w w') (hF:∀b,F' b->F b\/w.heap.size<=b):Wv F' w' z a:=⟨h.z0,h.z1.xD hc hF⟩
theorem Df.one {a:nT} (h:Df F w z a):∀i,i<3->(z i).oneCell'=true:=fun i hi=> by
 rcases (by omega:i=0\/i=1\/i=2) with rfl | rfl | rfl
 ·rw [h.z0];rfl
 ·obtain ⟨_,_,e⟩:=h.z1.slice;rw [e];rfl
 ·obtain ⟨_,_,e⟩:=h.z2.slice;rw [e];rfl
theorem Wn.one {a:AL} (h:Wn F w z a):∀i,i<3->(z i).oneCell'=true:=fun i hi=> by
 rcases (by omega:i=0\/i=1\/i=2) with rfl | rfl | rfl
 ·rw [h.z0];rfl
 ·rw [h.z1];rfl
 ·obtain ⟨_,_,e⟩:=h.z2.slice;rw [e];rfl
end
structure vC {A:Type} (R:World->(Nat->Value)->A->Prop) (e:TypeId) (c:Nat) (w:World) (v:Value) (L:List A) (q:Nat->Nat->Value):Prop where
 os:xI e c w v L.length q
 bs:∀(j:Nat) (a:A),L[j]? =some a->R w (q j) a
theorem VJ (a b:ByteArray):(a.toList==b.toList)=decide (a=b):=by
 by_cases h:a=b
 ·rw [Vr h,decide_eq_true h]
 ·rw [Yz h,decide_eq_false h]
def CG (ns:List ByteArray) (nm:ByteArray):Nat:=ns.findIdx fun a=> decide (a=nm)
theorem Nw {ns:List ByteArray} {nm:ByteArray} {k:Nat} (h:ns[k]? =some nm) (hb:∀(j:Nat) a,j<k->ns[j]? =some a->a≠nm):CG ns nm=k:=by
 obtain ⟨hk,e⟩:=List.getElem?_eq_some_iff.1 h;unfold CG;rw [List.findIdx_eq hk];refine ⟨by simpa using e,fun j hj=> ?_⟩
 simpa using hb j _ hj (oG (Nat.lt_trans hj hk))
theorem Uy {ns:List ByteArray} {nm:ByteArray} (hb:∀(j:Nat) a,ns[j]? =some a->a≠nm):CG ns nm=ns.length:=by
 unfold CG;rw [List.findIdx_eq_length];intro a ha;obtain ⟨j,hj⟩:=List.getElem?_of_mem ha
 simpa using hb j a hj
def vZ (ns:List ByteArray) (nm:ByteArray):Int:=if CG ns nm<ns.length then CG ns nm else -1
theorem xC {A:Type} {p q:A->Bool} (h:∀x,p x=true->q x=true):∀{l:List A} {d:A},d ∈ l->q d=true->p d=false->l.countP p+1<=l.countP q
 | [],d,hd,_,_=> by cases hd
 | a::l,d,hd,h1,h2=> by
  have hle:l.countP p<=l.countP q:=List.countP_mono_left fun x _=> h x;rw [List.countP_cons,List.countP_cons];rcases List.mem_cons.1 hd with rfl | hd
  ·rw [h1,h2];simp;omega
  ·have:=xC h hd h1 h2;by_cases hp:p a=true
   ·rw [if_pos hp,if_pos (h a hp)];omega
   ·rw [if_neg hp];omega
theorem Yp {ns:List ByteArray} {nm:ByteArray}:CG ns nm<ns.length ↔ nm ∈ ns:=by
 unfold CG;rw [List.findIdx_lt_length]
 constructor
 ·rintro ⟨x,hx,h⟩;have h:x=nm:=by simpa using h
  exact h▸hx
 ·intro h;exact ⟨nm,h,by simp⟩
def Li (o:List Fy) (nm:ByteArray):Bool:=decide (CG (o.map (·.nm)) nm<o.length)
theorem Iu {o:List Fy} {nm:ByteArray}:Li o nm=true ↔ nm ∈ o.map (·.nm):=by
 unfold Li;rw [decide_eq_true_iff,←Yp,List.length_map]
section
variable {P : Program} {o : Oper} {a : Act} {w : World}
theorem oN {T:TypeId} {x:Operand} {b i:Nat} {v:Value} (ho:o.op=.load T x) (hx:a.eval x=.pointer (some ⟨b,i,none⟩)) (hu:P.underlying T=some .string) (hc:w.cell? ⟨b,i,none⟩=some v):(execOp a.eval o).run P w=.ok (.value v) w:=by
 unfold execOp;simp only [ho,hx];simp [Instr.loadAt,Instr.sureAddr,loadVar,isAgg,run_underlying hu,go_sem,hc]
theorem Gh {T U:TypeId} {x y:Operand} {s t:ByteArray} (ho:o.op=.binOp .neq T x y U) (hx:a.eval x=.string s) (hy:a.eval y=.string t) (hu:P.underlying T=some .string):
  (execOp a.eval o).run P w=.ok (.value (.bool (!decide (s=t)))) w:=by
 have e:=VJ s t;unfold execOp;simp only [ho,hx,hy];simp [go_sem,hu,e]
end
section
variable {A : Type} {p : Nat} {F F' G : Nat -> Prop} {w w' : World} {v v' : Value} {l : List Int} {z y : Nat -> Value} {e : TypeId} {c : Nat} {L : List A} {q : Nat -> Nat -> Value} {a : A}
def BsR (F:Nat->Prop) (w:World) (z:Nat->Value) (a:List Int):Prop:=dK F w (z 0) a
def KpS (R:(Nat->Prop)->World->(Nat->Value)->A->Prop):Prop:=∀{p:Nat} {F F':Nat->Prop} {w w':World} {z:Nat->Value} {a:A},R F w z a->ku p F w w'->(∀b,F' b->F b\/w.heap.size<=b)->R F' w' z a
def KpU (R:(Nat->Prop)->World->(Nat->Value)->A->Prop):Prop:=∀{F G:Nat->Prop} {w w':World} {z:Nat->Value} {a:A},R F w z a->gY G w w'->(∀b,G b->Dh w b)->R F w' z a
theorem dK.Nf (h:dK F w v l) (hc:gY G w w') (hG:∀b,G b->Dh w b):dK F w' v l:=⟨h.ok,h.rd.agt hc fun hn b hb hg=> (hG b hg).ne h.rd hn b hb rfl,h.off⟩
theorem psS:KpS Df:=fun h hc hF=> h.xD hc hF
theorem bsS:KpS BsR:=fun h hc hF=> dK.xD h hc hF
theorem psU:KpU Df:=fun h hc hG=> ⟨h.z0,h.z1.Nf hc hG,h.z2.Nf hc hG⟩
theorem bsU:KpU BsR:=fun h hc hG=> dK.Nf h hc hG
variable {R : (Nat -> Prop) -> World -> (Nat -> Value) -> A -> Prop}
theorem vC.Ze (h:vC (R F) e c w v L q) (hk:KpS R) (hc:ku p F w w') (hF:∀b,F' b->F b\/w.heap.size<=b) (hn:∀b,v.ownBlock=some b->¬ (b=p\/F b)):vC (R F') e c w' v L q:=⟨h.os.kV hc.kV hn,fun j a ha=> hk (h.bs j a ha) hc hF⟩
theorem vC.Rt (h:vC (R F) e c w v L q) (hk:KpU R) (hc:gY G w w') (hG:∀b,G b->Dh w b) (hn:∀b,v.ownBlock=some b->¬ G b):vC (R F) e c w' v L q:=⟨h.os.kV hc hn,fun j a ha=> hk (h.bs j a ha) hc hG⟩
theorem vC.below (h:vC (R F) e c w v L q) (hk:KpU R) (hb:Below w.heap.size w w'):vC (R F) e c w' v L q:=h.Rt hk (.of_below hb fun _=> False) (fun _ h=> h.elim) fun _ _ h=> h
theorem vC.nil:vC (R F) e c w (.slice none 0 0) [] q:=⟨xI.nil _ _ _ _,fun j a h=> by simp at h⟩
theorem vC.app (h:vC (R F) e c w v L q) (hk:KpU R) (ho:xI e c w' v' (L.length+1) (rO L.length q (fun _=> y))) (hc:gY (fun b=> v.ownBlock=some b) w w') (ha:R F w y a):vC (R F) e c w' v' (L++ [a]) (fun j=> if j=L.length then y else q j):=by
 refine ⟨?_,fun j a' ha'=> ?_⟩
 ·rw [List.length_append,List.length_singleton];refine ho.congr fun j hj i hi=> ?_;by_cases hjl:j<L.length
  ·rw [yE hjl,if_neg (by omega)]
  ·obtain rfl:j=L.length:=by omega
   rw [EO,if_pos rfl]
 ·by_cases hj:j<L.length
  ·rw [JI hj] at ha';rw [if_neg (by omega)];exact hk (h.bs j a' ha') hc h.os.z
  ·have:=(List.getElem?_eq_some_iff.1 ha').1;rw [List.length_append,List.length_singleton] at this;obtain rfl:j=L.length:=by omega
   rw [Fx (bA _),Nat.sub_self] at ha';rw [if_pos rfl,←fO ha'];exact hk ha hc h.os.z
end
section
variable {P : Program} {o : Oper} {a : Act} {w : World} {K : Act -> World -> Prop} {Q' : Exit -> Act -> World -> Prop}
end
end Go.aZ
namespace Go.Proofs.YtpcjekgfnfjbpaaGreat
open Go.RowKit Go.aZ Go.ChangeShapes Go.Maps
attribute [local go_sem ↓] Go.wp_at_zero Go.wp_at_succ
section
variable {B : Nat} {w w' w1 w2 w3 : World} {p q : Nat} {F G G' : Nat -> Prop} {S S' : TS} {kd n : Int} {sd : Nat -> Int} {s : Value} {v u v' : Value} {l l' : List Int}
theorem wK (h:mX B w p F S) (hb:dK F w v l) (hb':dK F w v' l') (hl:S.l.length<=1000):Calls Tryz.prog 22 #[.pointer (some ⟨p,0,none⟩),v,v'] w fun e w'=> ∃u,e=.returned (.tuple #[u,.int .i64 (cB S l l').2])/\dK F w' u (cB S l l').1/\Below w.heap.size w w':=by
 have HW:=ak h.which;obtain ⟨q,G,hq,hF⟩:=id h;have HQ:=ak hq;have HO:=ak (pW h hb (by omega));have HO':=ak (fun w1 (b1:Below w.heap.size w w1)=> pW (h.below b1) (hb'.below b1) (by omega));have Fj:=ak hb.ok;have ads:=ak hb'.ok;have HSO:=ak h.ok;have YX:Hid (∀b,F b->b<w.heap.size):=ak fun b hb=> h.lt hb;have HL:=ak hl;obtain ⟨R,hR⟩:∃x,x=cB S l l':=⟨_,rfl⟩
 rw [<-hR];have HR:=ak hR;obtain ⟨av,cv,rfl,_⟩:=hb.rd;obtain ⟨av',cv',rfl,_⟩:=hb'.rd;clear hR h hb hb' hl hq hF
 go_enter Tryz.func22,Tryz.ntmps22
 go_wp2_with fail;refine HW.out.mono ?_;rintro e w0 ⟨rfl,rfl⟩;go_wp2_with fail;refine HO.out.mono ?_;rintro e w1 ⟨rfl,b1⟩;have B1:=ak b1;clear b1;obtain ⟨A,hA⟩:∃x,x=Bt S l:=⟨_,rfl⟩
 rw [<-hA];have HA:=ak hA;clear hA;go_upto_region 9 with (fail);refine aD (fun w2=> Below w0.heap.size w0 w2) (B1.out.alloc B1.out.size _) ?_;rintro w2 b2;have B2:=ak b2;clear b2;go_wp2_with fail;refine (HO'.out w2 B2.out).mono ?_;rintro e w3 ⟨rfl,b3⟩;have B3:=ak (B2.out.trans (b3.mono B2.out.size));clear b3;obtain ⟨C,hC⟩:∃x,x=Bt S l':=⟨_,rfl⟩
 rw [<-hC];have HC:=ak hC;clear hC;go_upto_region 10 with (fail);refine aD (fun w4=> w4.cell? ⟨w3.heap.size,0,none⟩=some (.int .i64 C.2.1.1)/\w4.cell? ⟨w3.heap.size,1,none⟩=some (.int .i64 C.2.1.2.1)/\w4.cell? ⟨w3.heap.size,2,none⟩=some (.int .i64 C.2.1.2.2)/\Below w0.heap.size w0 w4) ⟨cell_of_row _ _ 0 _ _ (0,0) (heap_alloc_new w3 _),cell_of_row _ _ 1 _ _ (0,0) (heap_alloc_new w3 _),cell_of_row _ _ 2 _ _ (0,0) (heap_alloc_new w3 _),B3.out.alloc B3.out.size _⟩ ?_;rintro w4 ⟨c0,c1,c2,b4⟩;have B4:=ak b4;clear b4
 cases hm:jV S l with
 | none=>
  have HE:Hid (R=([],11)):=ak (by rw [HR.out];unfold cB;rw [hm]);obtain rfl:A=(0,(0,0,0),11):=HA.out.trans (Hl hm);clear hm HA c0 c1 c2;go_wp2;go_ret2;rw [HE.out];exact ⟨_,rfl,dK.nil _ _,B4.out⟩
 | some n=>
  have HM:=ak hm;have HN:=ak (qY Fj.out hm);obtain ⟨t,ht⟩:∃t,t=mV S.l n:=⟨_,rfl⟩
  obtain rfl:A=((n:Int),t,0):=HA.out.trans (ht▸Hg hm);clear hm HA ht
  cases hm:jV S l' with
  | none=>
   have HE:Hid (R=([],11)):=ak (by rw [HR.out];unfold cB;rw [HM.out,hm]);obtain rfl:C=(0,(0,0,0),11):=HC.out.trans (Hl hm);clear hm HC c0 c1 c2;go_wp2;go_ret2;rw [HE.out];exact ⟨_,rfl,dK.nil _ _,B4.out⟩
  | some m=>
   have HN':=ak (qY ads.out hm);have Wy:Hid (R=if JG S m=4/\(xW S (mV S.l m).2.1).1.2.1=n then (dO (mV S.l m).2.2,0) else ([],20)):=ak (by rw [HR.out];unfold cB;rw [HM.out,hm]);have HB:=ak (fun hk=> XD HSO.out HN'.out hk);obtain rfl:C=((m:Int),mV S.l m,0):=HC.out.trans (Hg hm);have hkd:JG S m=(mV S.l m).1:=rfl;rw [hkd] at Wy HB;obtain ⟨u,hu⟩:∃t,t=mV S.l m:=⟨_,rfl⟩
   rw [<-hu] at Wy HB c0 c1 c2 ⊢;have HG:=ak (fun w' (b:Below w0.heap.size w0 w')=> FT (HQ.out.st.below b) u.2.1);obtain ⟨z,hz⟩:∃z,z=(xW S u.2.1).1:=⟨_,rfl⟩
   obtain ⟨zb,hzb⟩:∃z,z=(xW S u.2.1).2:=⟨_,rfl⟩
   rw [<-hz,←hzb] at HG;rw [<-hz] at Wy;have cp:=(HQ.out.r.below B4.out).cp;have ZY:=ak cp;have HC0:=ak c0;have yH:=ak c1;have Mj:=ak c2;have HPL:Hid (p<w4.heap.size):=ak (pJ HQ.out.r.row.lt B4.out.size);have JJ:Hid (w3.heap.size<w4.heap.size):=ak (World.block_lt_of_cell? _ _ c0);clear hm HC hkd hu hz hzb c0 c2;obtain ⟨x3,hx3⟩:∃x,x=w3.heap.size:=⟨_,rfl⟩
   rw [<-hx3] at HC0 yH Mj JJ c1 ⊢;clear hx3;go_upto_region 12 with (fail)
   refine bB (n:=81) (by kernel_rfl) (by kernel_rfl) (by kernel_rfl) rfl
    (jh [(11,10)]) (fJ [(11,10)]) (fun _=> arr .i64 3 (tf (0,0,0))) (fun _=> (arr .i64 3 (tf z))) (fun _=> 96) (fun _=> 16)
    (fun ii vv _=> (match ii with | 0 | 1=> vv=.pointer (some ⟨p,0,none⟩) | 2=> vv=.pointer (some ⟨p,34,none⟩) | 3=> vv=.pointer (some ⟨q,0,none⟩) | 4=> vv=.pointer (some ⟨x3,1,none⟩) | 5=> vv=.int .i64 (u.2.1) | 6 | 7=> vv=.tuple #[.agg (arr .i64 3 (tf z)),.bool zb] | 8=> vv=.agg (arr .i64 3 (tf z)) | 9 | 12=> vv=.bool zb | _=> True)) (fun _ _=> True) (fun _ _ _=> trivial) (fun _ _ _ _ _ _ _=> trivial) (fun _ _ _ _ h _=> h)
    (gF rfl) (eG rfl) ?_ ?_ ?_ ?_
   ·refine cO ?_;refine ⟨?_,?_,?_,?_,?_,?_,?_,?_,?_,?_,(fun h=> by cases h),(fun _ h=> by cases h),?_,trivial⟩
    ·intro _ _ a w2 hB hF hd;exact aH <| dJ rfl (hF.same 0 rfl)
    ·intro _ _ a w2 hB hF hd;exact aH <| aP (uo rfl (hd 0 _ rfl rfl rfl (aj rfl))) rfl
    ·intro _ _ a w2 hB hF hd;refine aH <| aP (aW (m:=0) (k:=34) rfl (hd 1 _ rfl rfl rfl (aj rfl)) (by kernel_rfl)) ?_;exact rfl
    ·intro _ _ a w2 hB hF hd;exact aH <| aP (Gj rfl (hd 2 _ rfl rfl rfl (aj rfl)) Tryz.underlying43 ((hB.cell (p:=⟨p,34,none⟩) HPL.out).trans ZY.out)) rfl
    ·intro _ _ a w2 hB hF hd;refine aH <| aP (aW (m:=0) (k:=1) rfl (hF.same 14 rfl) (by kernel_rfl)) ?_;exact rfl
    ·intro _ _ a w2 hB hF hd;exact aH <| aP (aR rfl (hd 4 _ rfl rfl rfl (aj rfl)) Tryz.underlying3 ((hB.cell (p:=⟨x3,1,none⟩) JJ.out).trans yH.out)) rfl
    ·intro _ _ a w2 hB hF hd;refine aH <| aC _ _ _ rfl Tryz.call61 _ (args2 (hd 3 _ rfl rfl rfl (aj rfl)) (hd 5 _ rfl rfl rfl (aj rfl))) (by simp) ((HG.out w2 (B4.out.trans (hB.mono B4.out.size))).mono ?_);rintro e w3 ⟨rfl,hb⟩;exact ⟨_,rfl,rfl,hb⟩
    ·intro _ _ a w2 hB hF hd;exact aH <| dJ rfl (hd 6 _ rfl rfl rfl (aj rfl))
    ·intro _ _ a w2 hB hF hd;exact aH <| aP (bg rfl (hd 7 _ rfl rfl rfl (aj rfl)) rfl) rfl
    ·intro _ _ a w2 hB hF hd;exact aH <| aP (bg rfl (hd 7 _ rfl rfl rfl (aj rfl)) rfl) rfl
    ·intro _ _ a w2 hB hF hd;exact aH <| mH rfl (hd 9 _ rfl rfl rfl (aj rfl))
   ·refine cO ?_;refine ⟨(fun h=> by cases h),(fun h=> by cases h),(fun h=> by cases h),(fun h=> by cases h),(fun h=> by cases h),(fun h=> by cases h),(fun h=> by cases h),(fun h=> by cases h),(fun h=> by cases h),(fun h=> by cases h),?_,(fun h=> by cases h),(fun h=> by cases h),trivial⟩
    ·exact fun _=> ⟨rfl,rfl,fun a w2 K h=> aU rfl rfl Tryz.zeroValue96 (by simp) h⟩
   ·refine cO ?_;refine ⟨(fun _ h=> by cases h),(fun _ h=> by cases h),(fun _ h=> by cases h),(fun _ h=> by cases h),(fun _ h=> by cases h),(fun _ h=> by cases h),(fun _ h=> by cases h),(fun _ h=> by cases h),(fun _ h=> by cases h),(fun _ h=> by cases h),(fun _ h=> by cases h),?_,(fun _ h=> by cases h),trivial⟩
    ·intro p hp;obtain rfl:10=p:=fO hp;exact ⟨rfl,rfl,⟨_,rfl⟩,aj rfl,fun a w2 b K hB hF hd hx hb h=> bD rfl rfl Tryz.size96 hx (hd 8 _ rfl rfl rfl (aj rfl)) hb h⟩
   ·intro a w5 blk hB hF hS hv hfin dD;obtain ⟨v10,QW,aar⟩:=hv 10 _ rfl rfl;have ha:=aI rfl rfl hF [_,_,_,_,_,_,_,_,_,_,_,undef,_] rfl ⟨hS 0 _ rfl rfl rfl,hS 1 _ rfl rfl rfl,hS 2 _ rfl rfl rfl,hS 3 _ rfl rfl rfl,hS 4 _ rfl rfl rfl,hS 5 _ rfl rfl rfl,hS 6 _ rfl rfl rfl,hS 7 _ rfl rfl rfl,hS 8 _ rfl rfl rfl,hS 9 _ rfl rfl rfl,v10,trivial,hS 12 _ rfl rfl rfl,trivial⟩;have f10:=hfin 11 _ 10 rfl rfl;simp only [puts,Act.put,dQ,dR,dS] at ha;subst ha;have V10:aF .i64 w5 (blk 10) 3 (tf z):=⟨_,f10⟩
    clear hS hv hfin dD hF v10 f10;obtain ⟨xg,hxg⟩:∃x,x=blk 10:=⟨_,rfl⟩
    rw [<-hxg] at V10 ⊢;have cg:=V10.cell 1 (by decide);have B5:=ak (B4.out.trans (hB.mono B4.out.size));have c0:=(hB.cell (p:=⟨x3,0,none⟩) JJ.out).trans HC0.out;have c2:=(hB.cell (p:=⟨x3,2,none⟩) JJ.out).trans Mj.out;have hz1:tf z 1=z.2.1:=rfl;rw [hz1] at cg;clear hB hz1 hxg V10 QW aar c1;by_cases hk:u.1=4
    ·have hk':(u.1 !=4)=false:=by simpa using hk
     by_cases hn:z.2.1=n
     ·have hn':(z.2.1 !=(n:Int))=false:=by simpa using hn
      obtain ⟨b,hb1,hb2⟩:=HB.out (.inl hk);have HBL:=ak hb2;have HE:Hid (R=(dO (b:Int),0)):=ak (by rw [Wy.out,if_pos ⟨hk,hn⟩,hb1]);rw [hb1] at c2;clear hk hn hb1 hb2;go_wp2_with fail;refine (oL (b:Int) (by omega) (by have:=HBL.out;have:=HN'.out;have:=HL.out;omega) w5).mono ?_;rintro e w6 ⟨x,rfl,hx,b6⟩;have HX:=ak (dK.own hx (kH (n:=1) (m:=8) (fun _ _=> by decide) fun i _=> Kt _ i) fun b hb=> pJ (YX.out b hb) B5.out.size);have B6:=ak (B5.out.trans (b6.mono B5.out.size));clear hx b6;go_wp2;go_ret2;rw [HE.out];exact ⟨_,rfl,HX.out,B6.out⟩
     ·have hn':(z.2.1 !=(n:Int))=true:=by simpa using hn
      have HE:Hid (R=([],20)):=ak (by rw [Wy.out,if_neg (fun h=> hn h.2)]);clear hk hn;go_wp2;go_ret2;rw [HE.out];exact ⟨_,rfl,dK.nil _ _,B5.out⟩
    ·have hk':(u.1 !=4)=true:=by simpa using hk
     have HE:Hid (R=([],20)):=ak (by rw [Wy.out,if_neg (fun h=> hk h.1)]);clear hk;go_wp2;go_ret2;rw [HE.out];exact ⟨_,rfl,dK.nil _ _,B5.out⟩
end
structure Eng (B:Nat) where
 σ:Type
 M:World->Nat->(Nat->Prop)->σ->Prop
 sz:σ->Nat
 pub:σ->List Int->List Int × Int × σ
 ver:σ->List Int->List Int × Int × σ
 AO:σ->List Int->List Int->List Int × Int
 below:∀{w w' p F X},M w p F X->Below w.heap.size w w'->M w' p F X
 lt:∀{w p F X b},M w p F X->(b=p\/F b)->b<w.heap.size
 hi:∀{w p F X b},M w p F X->(b=p\/F b)->B<=b
 keep:∀{w w' p F X H},M w p F X->gY H w w'->¬ H p->(∀b,F b->¬ H b)->M w' p F X
 szP:∀X l,sz (pub X l).2.2<=sz X+1
 szV:∀X l,sz (ver X l).2.2<=sz X+1
 Yy:∀{w p F X v l},M w p F X->dK F w v l->sz X<=900->Calls Tryz.prog 33 #[.pointer (some ⟨p,0,none⟩),v] w fun e w'=> ∃u,e=.returned (.tuple #[u,.int .i64 (pub X l).2.1])/\∃F',M w' p F' (pub X l).2.2/\dK F' w' u (pub X l).1/\ku p F w w'/\∀b,F' b->F b\/w.heap.size<=b
 Yx:∀{w p F X v l},M w p F X->dK F w v l->sz X<=900->Calls Tryz.prog 34 #[.pointer (some ⟨p,0,none⟩),v] w fun e w'=> ∃u,e=.returned (.tuple #[u,.int .i64 (ver X l).2.1])/\∃F',M w' p F' (ver X l).2.2/\dK F' w' u (ver X l).1/\ku p F w w'/\∀b,F' b->F b\/w.heap.size<=b
 acW:∀{w p F X v l v' l'},M w p F X->dK F w v l->dK F w v' l'->l'.length<=400->sz X<=900->Calls Tryz.prog 22 #[.pointer (some ⟨p,0,none⟩),v,v'] w fun e w'=> ∃u,e=.returned (.tuple #[u,.int .i64 (AO X l l').2])/\dK F w' u (AO X l l').1/\Below w.heap.size w w'
section
variable {B : Nat} {E : Eng B} {w w' w1 w2 w3 : World} {p q : Nat} {F F' G G' : Nat -> Prop} {v u v' vp vv : Value} {l l' x : List Int} {X X' : E.σ} {P : nT}
def Eng.is (E:Eng B) (X:E.σ) (P:nT) (x:List Int):Bool × E.σ:=
 (decide ((E.pub X x).2.1=0/\(E.ver (E.pub X x).2.2 x).2.1=0/\(E.pub X x).1=P.pb/\(E.ver (E.pub X x).2.2 x).1=P.vf),(E.ver (E.pub X x).2.2 x).2.2)
def Eng.take (E:Eng B) (X:E.σ) (P:nT) (s b:List Int):List Int × Int × E.σ:=
 if (E.AO X s b).2=0 then if (E.is X P (E.AO X s b).1).1=true then ((E.AO X s b).1,0,(E.is X P (E.AO X s b).1).2) else ([],44,(E.is X P (E.AO X s b).1).2)
 else ([],(E.AO X s b).2,X)
def Eng.St (E:Eng B) (w:World) (p:Nat) (F:Nat->Prop) (X:E.σ) (w':World):Prop:=∃F',E.M w' p F' X/\ku p F w w'/\∀b,F' b->F b\/w.heap.size<=b
theorem Al (h:Rd .u8 w v l.length (bf l)) (h':Rd .u8 w v' l'.length (bf l')) (ho:okB l) (ho':okB l'):Calls Tryz.prog 166 #[v,v'] w fun e w'=> e=.returned (.bool (decide (l=l')))/\w'=w:=by
 have H:=ak h;have H':=ak h';have HO:=ak ho;have HO':=ak ho';have HE:((strOf l.length (bf l)).toList==(strOf l'.length (bf l')).toList)=decide (l=l'):=by
  rw [VJ];by_cases e:l=l'
  ·subst e;simp
  ·rw [decide_eq_false e,decide_eq_false fun h=> e (WK ho ho' (by unfold txV;rw [h]))]
 obtain ⟨av,cv,rfl,_⟩:=h;obtain ⟨av',cv',rfl,_⟩:=h';clear ho ho'
 go_enter Tryz.func166,Tryz.ntmps166
 go_wp2_with (first
  | (refine eB rfl (wQ (e:=5) (v:=.slice av l.length cv) rfl rfl H.out jI Tryz.underlying5 Tryz.underlying9 (fun i hi=> HO.out.at i hi)) ?_)
  | (refine eB rfl (wQ (e:=5) (v:=.slice av' l'.length cv') rfl rfl H'.out jI Tryz.underlying5 Tryz.underlying9 (fun i hi=> HO'.out.at i hi)) ?_))
 go_ret;exact ⟨rfl,rfl⟩
theorem UE (h:E.M w p F X) (hb:dK F w v x) (hp:dK F w vp P.pb) (hv:dK F w vv P.vf) (hs:E.sz X<=890):Calls Tryz.prog 110 #[.pointer (some ⟨p,0,none⟩),.agg #[.string P.nm,vp,vv],v] w fun e w'=> e=.returned (.bool (E.is X P x).1)/\E.St w p F (E.is X P x).2 w':=by
 obtain ⟨A,hA⟩:∃A,A=E.pub X x:=⟨_,rfl⟩
 obtain ⟨C,hC⟩:∃C,C=E.ver A.2.2 x:=⟨_,rfl⟩
 have HR:Hid (E.is X P x=(decide (A.2.1=0/\C.2.1=0/\A.1=P.pb/\C.1=P.vf),C.2.2)):=ak (by rw [hC,hA];rfl);rw [HR.out];have Jy:Hid (E.sz A.2.2<=891):=ak (by have:=E.szP X x;rw [hA];omega);have ZY:=ak (fun (w1:World) (b1:Below w.heap.size w w1)=> E.Yy (E.below h b1) (hb.below b1) (by omega:E.sz X<=900));have HCV:=ak (fun (w1:World) (F1:Nat->Prop) (v1:Value) (m1:E.M w1 p F1 A.2.2) (b1:dK F1 w1 v1 x)=> E.Yx m1 b1 (gQ Jy.out (by decide)));rw [<-hA] at ZY;rw [<-hC] at HCV;obtain ⟨a1,a2,A3⟩:=A;obtain ⟨c1,c2,C3⟩:=C
 dsimp only at ZY HCV Jy ⊢
 have H:=ak h;have HB:=ak hb;have HP:=ak hp;have HV:=ak hv;obtain ⟨av,cv,rfl⟩:=hb.slice;obtain ⟨ap,cp,rfl⟩:=hp.slice;obtain ⟨aw,cw,rfl⟩:=hv.slice;obtain ⟨nm,hnm⟩:∃n,n=P.nm:=⟨_,rfl⟩
 obtain ⟨pb,hpb⟩:∃n,n=P.pb:=⟨_,rfl⟩
 obtain ⟨vf,hvf⟩:∃n,n=P.vf:=⟨_,rfl⟩
 rw [<-hpb] at HP ⊢;rw [<-hvf] at HV ⊢;rw [<-hnm];obtain ⟨DB,hDB⟩:∃D,D=decide (a2=0/\c2=0/\a1=pb/\c1=vf):=⟨_,rfl⟩
 have Wm:=ak hDB;rw [<-hDB];clear hA hC HR h hb hp hv hs hnm hpb hvf hDB
 go_enter Tryz.func110,Tryz.ntmps110
 go_upto_region 1 with (fail);refine aD (fun w1=> w1.cell? ⟨w.heap.size,1,none⟩=some (.slice ap pb.length cp)/\w1.cell? ⟨w.heap.size,2,none⟩=some (.slice aw vf.length cw)/\w.heap.size<w1.heap.size/\Below w.heap.size w w1) ⟨cell_of_row _ _ 1 _ _ (0,0) (heap_alloc_new w _),cell_of_row _ _ 2 _ _ (0,0) (heap_alloc_new w _),by simp,(bN _ _).alloc (bA _) _⟩ ?_;rintro w1 ⟨k1,k2,s1,b1⟩;have K1:=ak k1;have K2:=ak k2;have Jz:=ak s1;have B1:=ak b1;have HN4:Hid (¬ (w.heap.size=p\/F w.heap.size)):=ak fun hh=> absurd (E.lt H.out hh) (Nat.lt_irrefl _);obtain ⟨x4,hx4⟩:∃x,x=w.heap.size:=⟨_,rfl⟩
 have NJ:=ak hx4;rw [<-hx4] at K1 K2 Jz HN4 ⊢;clear k1 k2 s1 b1 hx4;go_wp2_with fail;refine (ZY.out w1 (NJ.out▸B1.out)).mono ?_;rintro e w2 ⟨u2,rfl,F2,m2,y2,ch2,f2⟩;have M2:=ak m2;have Y2:=ak y2;have CH2:=ak ch2;have FF2:=ak f2;obtain ⟨au,cu,rfl⟩:=y2.slice;clear m2 y2 ch2 f2;go_wp2_with fail;refine (HCV.out w2 F2 _ M2.out ((HB.out.below (NJ.out▸B1.out)).xD CH2.out FF2.out)).mono ?_;rintro e w3 ⟨u3,rfl,F3,m3,y3,JH,f3⟩;obtain ⟨az,cz,rfl⟩:=y3.slice;have HM3:=ak m3;have HPB:=ak (((HP.out.below (NJ.out▸B1.out)).xD CH2.out FF2.out).xD JH f3);have HVF:=ak (((HV.out.below (NJ.out▸B1.out)).xD CH2.out FF2.out).xD JH f3);have Y3:=ak y3;have Y2':=ak (Y2.out.xD JH f3);have HS2:=CH2.out.kV.size;have AA:=B1.out.size;have HN2:¬ (x4=p\/F2 x4):=fun hh=> hh.elim (fun e=> HN4.out (.inl e)) fun e=> (FF2.out _ e).elim (fun e=> HN4.out (.inr e)) fun e=> absurd Jz.out (Nat.not_lt.2 e);have k1:=(JH.kV.cell (p:=⟨x4,1,none⟩) (pJ Jz.out HS2) HN2).trans ((CH2.out.kV.cell (p:=⟨x4,1,none⟩) Jz.out HN4.out).trans K1.out);have k2:=(JH.kV.cell (p:=⟨x4,2,none⟩) (pJ Jz.out HS2) HN2).trans ((CH2.out.kV.cell (p:=⟨x4,2,none⟩) Jz.out HN4.out).trans K2.out);have HST:Hid (E.St w p F C3 w3):=ak ⟨F3,HM3.out,((ku.of_below (NJ.out▸B1.out) F).trans CH2.out fun b hb=> .inl hb).trans JH fun b hb=> (FF2.out b hb).imp id fun h=> gQ (NJ.out▸AA) h,fun b hb=> (f3 b hb).elim (fun h=> (FF2.out b h).imp id fun h=> gQ (NJ.out▸AA) h) fun h=> .inr (gQ (NJ.out▸AA) (gQ HS2 h))⟩;have Wj:=ak (Al Y2'.out.rd HPB.out.rd Y2'.out.ok HPB.out.ok);have HE2:=ak (Al Y3.out.rd HVF.out.rd Y3.out.ok HVF.out.ok);clear m3 y3 JH f3 HS2 AA HN2;by_cases e1:a2=0
 ·have q1:(a2==0)=true:=by simpa using e1
  by_cases e2:c2=0
  ·have q2:(c2==0)=true:=by simpa using e2
   by_cases e3:a1=pb
   ·rw [decide_eq_true e3] at Wj;obtain rfl:DB=decide (c1=vf):=Wm.out.trans (decide_eq_decide.2 ⟨fun h=> h.2.2.2,fun h=> ⟨e1,e2,e3,h⟩⟩);clear e1 e2 e3;go_wp2_with fail;refine Wj.out.mono ?_;rintro e w4 ⟨rfl,rfl⟩;go_wp2_with fail;refine HE2.out.mono ?_;rintro e w5 ⟨rfl,rfl⟩;go_wp2;go_ret;exact ⟨rfl,HST.out⟩
   ·rw [decide_eq_false e3] at Wj;obtain rfl:DB=false:=Wm.out.trans (decide_eq_false fun h=> e3 h.2.2.1);clear e1 e2 e3;go_wp2_with fail;refine Wj.out.mono ?_;rintro e w4 ⟨rfl,rfl⟩;go_wp2;go_ret;exact ⟨rfl,HST.out⟩
  ·have q2:(c2==0)=false:=by simpa using e2
   obtain rfl:DB=false:=Wm.out.trans (decide_eq_false fun h=> e2 h.2.1);clear e1 e2;go_wp2;go_ret;exact ⟨rfl,HST.out⟩
 ·have q1:(a2==0)=false:=by simpa using e1
  obtain rfl:DB=false:=Wm.out.trans (decide_eq_false fun h=> e1 h.1);clear e1;go_wp2;go_ret;exact ⟨rfl,HST.out⟩
end
theorem Tryz.sizePs:(Tryz.prog.info? 78).map (·.size)=some 3:=by kernel_rfl
section
variable {B : Nat} {E : Eng B} {w w' w1 w2 w3 : World} {p q : Nat} {F F' G G' : Nat -> Prop} {v u v' vs vb vp vv : Value} {l l' x s b : List Int} {X X' : E.σ} {P : nT} {z : Nat -> Value}
def Eng.ZO (E:Eng B) (w:World) (p:Nat) (F:Nat->Prop) (u:Value) (r:List Int × Int × E.σ) (w':World):Prop:=∃F',E.M w' p F' r.2.2/\dK F' w' u r.1/\ku p F w w'/\∀b,F' b->F b\/w.heap.size<=b
theorem sV (h:E.M w p F X) (hP:Df F w z P) (hs:dK F w vs s) (hb:dK F w vb b) (hl:b.length<=400) (hz:E.sz X<=890):Calls Tryz.prog 51 #[.pointer (some ⟨p,0,none⟩),.agg (fC 3 z),vs,vb] w fun e w'=> ∃u,e=.returned (.tuple #[u,.int .i64 (E.take X P s b).2.1])/\E.ZO w p F u (E.take X P s b) w':=by
 obtain ⟨U,hU⟩:∃U,U=E.AO X s b:=⟨_,rfl⟩
 obtain ⟨I,hI⟩:∃I,I=E.is X P U.1:=⟨_,rfl⟩
 obtain ⟨R,hR⟩:∃R,R=E.take X P s b:=⟨_,rfl⟩
 have HR:Hid (R=if U.2=0 then if I.1=true then (U.1,0,I.2) else ([],44,I.2) else ([],U.2,X)):=ak (by rw [hR,hI,hU];rfl);have HCU:=ak (fun (w1:World) (b1:Below w.heap.size w w1)=> E.acW (E.below h b1) (hs.below b1) (hb.below b1) hl (by omega:E.sz X<=900));rw [<-hU] at HCU;rw [<-hR];have HCI:Hid (∀(w1:World),Below w.heap.size w w1->∀v,dK F w1 v U.1->Calls Tryz.prog 110 #[.pointer (some ⟨p,0,none⟩),.agg (fC 3 z),v] w1 fun e w'=> e=.returned (.bool I.1)/\E.St w1 p F I.2 w'):=ak fun w1 b1 v hv=> by
  have:=UE (E.below h b1) hv (hP.z1.below b1) (hP.z2.below b1) hz;rw [<-hI] at this;rw [show (fC 3 z)=#[.string P.nm,z 1,z 2] from by rw [<-hP.z0];rfl];exact this
 obtain ⟨U1,U2⟩:=U;obtain ⟨I1,I2⟩:=I
 dsimp only at HCU HCI HR
 have H:=ak h;have HZ:=ak hP.one;obtain ⟨a1,c1,rfl⟩:=hs.slice;obtain ⟨a2,c2,rfl⟩:=hb.slice;clear hU hI hR h hP hs hb hl hz
 go_enter Tryz.func51,Tryz.ntmps51
 go_upto_region 1 with (fail);refine aD (fun w1=> iW w1 w.heap.size 3 78 z/\Below w.heap.size w w1) ⟨iW.new,(bN _ _).alloc (bA _) _⟩ ?_;rintro w1 ⟨r1,b1⟩;have R1:=ak r1;have B1:=ak b1;obtain ⟨x5,hx5⟩:∃x,x=w.heap.size:=⟨_,rfl⟩
 rw [<-hx5] at R1 ⊢;clear r1 b1 hx5;go_wp2_with fail;refine (HCU.out w1 B1.out).mono ?_;rintro e w2 ⟨u2,rfl,y2,b2⟩;have Y2:=ak y2;have B2:=ak (B1.out.trans (b2.mono B1.out.size));have R2:Hid (∀i,i<3->w2.cell? ⟨x5,0+i,none⟩=some (z i)):=ak fun i hi=> by rw [pz];exact (R1.out.below b2).2 i hi
 obtain ⟨a3,c3,rfl⟩:=y2.slice;clear y2 b2;by_cases e2:U2=0
 ·have q1:(U2 !=0)=false:=by simpa using e2
  rw [if_pos e2] at HR;clear e2;go_wp2_with (refine jQ rfl rfl rfl Tryz.underlying78 rfl Tryz.sizePs R2.out ?_);refine (HCI.out w2 B2.out _ Y2.out).mono ?_;rintro e w3 ⟨rfl,hst⟩;have HST:=ak hst;clear hst
  cases I1 with
  | true=>
   obtain rfl:=HR.out.trans (if_pos rfl);go_wp2;go_ret2;obtain ⟨F3,m3,JH,f3⟩:=HST.out;exact ⟨_,rfl,F3,m3,Y2.out.xD JH f3,(ku.of_below B2.out F).trans JH fun b hb=> .inl hb,fun b hb=> (f3 b hb).imp id fun h=> gQ B2.out.size h⟩
  | false=>
   obtain rfl:=HR.out.trans (if_neg (by decide));go_wp2;go_ret2;obtain ⟨F3,m3,JH,f3⟩:=HST.out;exact ⟨_,rfl,F3,m3,dK.nil _ _,(ku.of_below B2.out F).trans JH fun b hb=> .inl hb,fun b hb=> (f3 b hb).imp id fun h=> gQ B2.out.size h⟩
 ·have q1:(U2 !=0)=true:=by simpa using e2
  rw [if_neg e2] at HR;clear e2;obtain rfl:=HR.out;go_wp2;go_ret2;exact ⟨_,rfl,F,E.below H.out B2.out,dK.nil _ _,ku.of_below B2.out F,fun b hb=> .inl hb⟩
end
section
variable {w w' w1 w2 w3 : World} {p : Nat} {F : Nat -> Prop} {v : Value} {z : Nat -> Value} {q : Nat -> Nat -> Value}
theorem Tryz.sizePsC:(Tryz.prog.info? 78).map (·.size)=some 3:=by kernel_rfl
theorem UD {c:Nat} {a nm:ByteArray} (hz:z 0=.string a) (hc:w.cell? ⟨c,0,none⟩=some (.string nm)) (hl:c<w.heap.size):Calls Tryz.prog 163 #[.agg (fC 3 z),.pointer (some ⟨c,0,none⟩)] w fun e w'=> e=.returned (.bool (decide (a=nm)))/\Below w.heap.size w w':=by
 have HZ:=ak hz;have HQ:=ak (VJ a nm)
 go_enter Tryz.func163,Tryz.ntmps163
 go_upto_region 1 with (fail);refine aD (fun w1=> w1.cell? ⟨w.heap.size,0,none⟩=some (.string a)/\w1.cell? ⟨c,0,none⟩=some (.string nm)/\Below w.heap.size w w1) ⟨((iW.new (n:=3) (z:=z)).2 0 (by decide)).trans (by rw [hz]),(((bN w.heap.size w).alloc (bA _) (.cells (fC 3 z) 78)).cell (p:=⟨c,0,none⟩) hl).trans hc,(bN _ _).alloc (bA _) _⟩ ?_;rintro w1 ⟨k0,k1,b1⟩;have B1:=ak b1;clear hz hc hl b1;go_wp2;go_ret;exact ⟨by rw [HQ.out];rfl,B1.out⟩
theorem UC {c:Nat} {nm:ByteArray} {L:List nT} (hR:vC (Df F) 78 3 w v L q) (hc:w.cell? ⟨c,0,none⟩=some (.string nm)) (hl:c<w.heap.size):Calls Tryz.prog 162 #[v,.func (.func 163) #[] #[.pointer (some ⟨c,0,none⟩)]] w fun e w'=> e=.returned (.int .i64 (vZ (L.map (·.nm)) nm))/\Below w.heap.size w w':=by
 have HB:=ak hR.bs;have Wi:=ak hR.os.m;have HC:=ak hc;have HL:=ak hl;obtain ⟨m,hm⟩:∃m,m=L.length:=⟨_,rfl⟩
 have HM:=ak hm;rw [<-hm] at Wi;obtain ⟨a,cap,rfl,hcap,hcap2⟩:=Wi.out.slice;obtain ⟨RI,Lm⟩:∃r,r=vZ (L.map (·.nm)) nm:=⟨_,rfl⟩
 have ZR:=ak Lm;rw [<-Lm];clear hR hm hc hl Lm
 go_enter Tryz.func162,Tryz.ntmps162
 go_wp2
 go_loopw [8] (fun i wr=> ∃k:Nat,k<=m/\i=.int .i64 k/\(∀(j:Nat) a,j<k->(L.map (·.nm))[j]? =some a->a≠nm)/\Below w.heap.size w wr) (fun i _=> m - (intOf i).toNat)
 case atStart=> exact ⟨0,iY _,rfl,fun j d hj=> absurd hj (Nat.not_lt_zero _),bN _ _⟩
 case round=>
  obtain ⟨k,hk,rfl,hle,ZC⟩:=hrel;have HLE:=ak hle;have QA:=ak ZC;clear hle ZC;by_cases hlt:k<m
  ·obtain ⟨g,cap',e,hrow,_,_,hcell⟩:=Wi.out.form (by omega);cases e
   have hgl:g<w.heap.size:=hrow.lt;have AJ:Hid (∀i,i<3->wr.cell? ⟨g,k * 3+i,none⟩=some (q k i)):=fun i hi=> (QA.out.cell (p:=⟨g,k * 3+i,none⟩) hgl).trans (hcell k hlt i hi);obtain ⟨d,hd⟩:∃d,L[k]? =some d:=⟨_,oG (by rw [<-HM.out];exact hlt)⟩
   have HDK:=ak hd;have HCC:Hid (Calls Tryz.prog 163 #[.agg (fC 3 (q k)),.pointer (some ⟨c,0,none⟩)] wr fun e w'=> e=.returned (.bool (decide (d.nm=nm)))/\Below wr.heap.size wr w'):=ak (UD (HB.out k d hd).z0 ((QA.out.cell (p:=⟨c,0,none⟩) HL.out).trans HC.out) (pJ HL.out QA.out.size));clear hd hrow hcell hgl;go_wp2_with (refine jQ rfl rfl rfl Tryz.underlying78 rfl Tryz.sizePsC AJ.out ?_);refine HCC.out.mono ?_;rintro e w1 ⟨rfl,b1⟩;have HB1:=ak (QA.out.trans (b1.mono QA.out.size));clear b1 AJ HCC;by_cases hn:d.nm=nm
   ·rw [decide_eq_true hn];obtain rfl:RI=(k:Int):=ZR.out.trans (by
     have e:CG (L.map (·.nm)) nm=k:=Nw (by rw [List.getElem?_map,HDK.out];simp [hn]) HLE.out;unfold vZ;rw [e,List.length_map,←HM.out,if_pos hlt])
    clear hn;go_wp2;go_ret;exact ⟨rfl,HB1.out⟩
   ·rw [decide_eq_false hn];have Mi:=ak hn;clear hn;go_wp2;go_roundw
    case rel=> exact ⟨k+1,by omega,by go_num,fun j a' hj ha'=> by
     by_cases e:j=k
     ·subst e;rw [List.getElem?_map,HDK.out] at ha';cases ha';exact Mi.out
     ·exact HLE.out j a' (by omega) ha',HB1.out⟩
    case measure=> simp [intOf];omega
  ·obtain rfl:k=m:=by omega
   obtain rfl:RI= -1:=ZR.out.trans (by
    have e:CG (L.map (·.nm)) nm=(L.map (·.nm)).length:=Uy fun j a ha=> HLE.out j a (by have:=(List.getElem?_eq_some_iff.1 ha).1;rw [List.length_map,←HM.out] at this;exact this) ha;unfold vZ;rw [e,if_neg (Nat.lt_irrefl _)])
   clear hlt;go_wp2;go_ret;exact ⟨rfl,QA.out⟩
theorem Tryz.sizeHdC:(Tryz.prog.info? 71).map (·.size)=some 2:=by kernel_rfl
theorem UG {c:Nat} {a nm:ByteArray} (hz:z 0=.string a) (hc:w.cell? ⟨c,0,none⟩=some (.string nm)) (hl:c<w.heap.size):Calls Tryz.prog 165 #[.agg (fC 2 z),.pointer (some ⟨c,0,none⟩)] w fun e w'=> e=.returned (.bool (decide (a=nm)))/\Below w.heap.size w w':=by
 have HZ:=ak hz;have HQ:=ak (VJ a nm)
 go_enter Tryz.func165,Tryz.ntmps165
 go_upto_region 1 with (fail);refine aD (fun w1=> w1.cell? ⟨w.heap.size,0,none⟩=some (.string a)/\w1.cell? ⟨c,0,none⟩=some (.string nm)/\Below w.heap.size w w1) ⟨((iW.new (n:=2) (z:=z)).2 0 (by decide)).trans (by rw [hz]),(((bN w.heap.size w).alloc (bA _) (.cells (fC 2 z) 71)).cell (p:=⟨c,0,none⟩) hl).trans hc,(bN _ _).alloc (bA _) _⟩ ?_;rintro w1 ⟨k0,k1,b1⟩;have B1:=ak b1;clear hz hc hl b1;go_wp2;go_ret;exact ⟨by rw [HQ.out];rfl,B1.out⟩
theorem UF {c:Nat} {nm:ByteArray} {L:List Fy} (hR:vC (Wv F) 71 2 w v L q) (hc:w.cell? ⟨c,0,none⟩=some (.string nm)) (hl:c<w.heap.size):Calls Tryz.prog 223 #[v,.func (.func 165) #[] #[.pointer (some ⟨c,0,none⟩)]] w fun e w'=> e=.returned (.int .i64 (vZ (L.map (·.nm)) nm))/\Below w.heap.size w w':=by
 have HB:=ak hR.bs;have Wi:=ak hR.os.m;have HC:=ak hc;have HL:=ak hl;obtain ⟨m,hm⟩:∃m,m=L.length:=⟨_,rfl⟩
 have HM:=ak hm;rw [<-hm] at Wi;obtain ⟨a,cap,rfl,hcap,hcap2⟩:=Wi.out.slice;obtain ⟨RI,Lm⟩:∃r,r=vZ (L.map (·.nm)) nm:=⟨_,rfl⟩
 have ZR:=ak Lm;rw [<-Lm];clear hR hm hc hl Lm
 go_enter Tryz.func223,Tryz.ntmps223
 go_wp2
 go_loopw [8] (fun i wr=> ∃k:Nat,k<=m/\i=.int .i64 k/\(∀(j:Nat) a,j<k->(L.map (·.nm))[j]? =some a->a≠nm)/\Below w.heap.size w wr) (fun i _=> m - (intOf i).toNat)
 case atStart=> exact ⟨0,iY _,rfl,fun j d hj=> absurd hj (Nat.not_lt_zero _),bN _ _⟩
 case round=>
  obtain ⟨k,hk,rfl,hle,ZC⟩:=hrel;have HLE:=ak hle;have QA:=ak ZC;clear hle ZC;by_cases hlt:k<m
  ·obtain ⟨g,cap',e,hrow,_,_,hcell⟩:=Wi.out.form (by omega);cases e
   have hgl:g<w.heap.size:=hrow.lt;have AJ:Hid (∀i,i<2->wr.cell? ⟨g,k * 2+i,none⟩=some (q k i)):=fun i hi=> (QA.out.cell (p:=⟨g,k * 2+i,none⟩) hgl).trans (hcell k hlt i hi);obtain ⟨d,hd⟩:∃d,L[k]? =some d:=⟨_,oG (by rw [<-HM.out];exact hlt)⟩
   have HDK:=ak hd;have HCC:Hid (Calls Tryz.prog 165 #[.agg (fC 2 (q k)),.pointer (some ⟨c,0,none⟩)] wr fun e w'=> e=.returned (.bool (decide (d.nm=nm)))/\Below wr.heap.size wr w'):=ak (UG (HB.out k d hd).z0 ((QA.out.cell (p:=⟨c,0,none⟩) HL.out).trans HC.out) (pJ HL.out QA.out.size));clear hd hrow hcell hgl;go_wp2_with (refine jQ rfl rfl rfl Tryz.underlying71 rfl Tryz.sizeHdC AJ.out ?_);refine HCC.out.mono ?_;rintro e w1 ⟨rfl,b1⟩;have HB1:=ak (QA.out.trans (b1.mono QA.out.size));clear b1 AJ HCC;by_cases hn:d.nm=nm
   ·rw [decide_eq_true hn];obtain rfl:RI=(k:Int):=ZR.out.trans (by
     have e:CG (L.map (·.nm)) nm=k:=Nw (by rw [List.getElem?_map,HDK.out];simp [hn]) HLE.out;unfold vZ;rw [e,List.length_map,←HM.out,if_pos hlt])
    clear hn;go_wp2;go_ret;exact ⟨rfl,HB1.out⟩
   ·rw [decide_eq_false hn];have Mi:=ak hn;clear hn;go_wp2;go_roundw
    case rel=> exact ⟨k+1,by omega,by go_num,fun j a' hj ha'=> by
     by_cases e:j=k
     ·subst e;rw [List.getElem?_map,HDK.out] at ha';cases ha';exact Mi.out
     ·exact HLE.out j a' (by omega) ha',HB1.out⟩
    case measure=> simp [intOf];omega
  ·obtain rfl:k=m:=by omega
   obtain rfl:RI= -1:=ZR.out.trans (by
    have e:CG (L.map (·.nm)) nm=(L.map (·.nm)).length:=Uy fun j a ha=> HLE.out j a (by have:=(List.getElem?_eq_some_iff.1 ha).1;rw [List.length_map,←HM.out] at this;exact this) ha;unfold vZ;rw [e,if_neg (Nat.lt_irrefl _)])
   clear hlt;go_wp2;go_ret;exact ⟨rfl,QA.out⟩
def zPs:Nat->Value:=fun i=> if i=0 then .string .empty else .slice none 0 0
def uE (L:List nT) (nm:ByteArray):nT × Bool:=match L[CG (L.map (·.nm)) nm]? with
 | some a=> (a,true)
 | none=> (⟨.empty, [], []⟩,false)
theorem Mk (F:Nat->Prop) (w:World):Df F w zPs ⟨.empty, [], []⟩:=⟨rfl,dK.nil _ _,dK.nil _ _⟩
theorem aah:fC 3 zPs=#[.string ⟨#[]⟩,.slice none 0 0,.slice none 0 0] :=rfl
theorem iW.at {b n:Nat} {e:TypeId} (h:iW w b n e z):w.heap[b]? =some (.cells (fC n z) e (0,0)):=by
 obtain ⟨⟨cur,hc,hs⟩,h2⟩:=h;have:cur=fC n z:=Array.ext_getElem? fun i=> by
  by_cases hi:i<n
  ·rw [<-cell_of_row w b i cur e (0,0) hc,h2 i hi,uq hi]
  ·rw [Array.getElem?_eq_none (by omega),Array.getElem?_eq_none (by rw [jD];omega)]
 rw [hc,this]
theorem rX {P:Program} {fn:Func} {p q:Tmp} {T:TypeId} (h:fn.results=#[.cell p T,.tmp q]) (tmps:Array Value) (w:World) (b n:Nat) (z:Nat->Value) (e:TypeId) {d:TypeDesc}
  (hp:tmps.getD p undef=.pointer (some ⟨b,0,none⟩)) (ha:iW w b n e z) (hu:P.underlying T=some d) (hd:BH d=true) (hi:(P.info? T).map (·.size)=some n):
  (results fn tmps).run P w=.ok (.tuple #[.agg (fC n z),tmps.getD q undef]) w:=by
 have ht:=iW.at ha;have hp':tmps[p]?.getD undef=.pointer (some ⟨b,0,none⟩):=by simpa using hp
 simp [results,h,hp',asAddr,run_loadVar_row w b e T (fC n z) (0,0) _ ht hu (by cases d<;> first | rfl | cases hd) (by rw [hi,jD])]
theorem EH {nm:ByteArray} {L:List nT} (hR:vC (Df F) 78 3 w v L q):Calls Tryz.prog 108 #[v,.string nm] w fun e w'=> ∃z,e=.returned (.tuple #[.agg (fC 3 z),.bool (uE L nm).2])/\Df F w' z (uE L nm).1/\Below w.heap.size w w':=by
 have HB:=ak hR.bs;have Wi:=ak hR.os.m;obtain ⟨m,hm⟩:∃m,m=L.length:=⟨_,rfl⟩
 have HM:=ak hm;rw [<-hm] at Wi;obtain ⟨a,cap,rfl,hcap,hcap2⟩:=Wi.out.slice;have ZX:=ak (fun (w1:World) (b1:Below w.heap.size w w1) (c:Nat) (hc:w1.cell? ⟨c,0,none⟩=some (.string nm)) (hl:c<w1.heap.size)=> UC (nm:=nm) (⟨hR.os.below b1,fun j a ha=> (HB.out j a ha).below b1⟩:vC (Df F) 78 3 w1 _ L q) hc hl);obtain ⟨PA,Lp⟩:∃x,x=uE L nm:=⟨_,rfl⟩
 have AB:=ak Lp;rw [<-Lp];obtain ⟨RI,Lm⟩:∃r,r=vZ (L.map (·.nm)) nm:=⟨_,rfl⟩
 have ZR:=ak Lm;rw [<-Lm] at ZX;clear hR hm Lp Lm
 go_enter Tryz.func108,Tryz.ntmps108
 go_upto_region 1 with (fail);rw [<-aah];refine aD (fun w1=> w1.cell? ⟨w.heap.size,0,none⟩=some (.string nm)/\iW w1 (w.heap.size+1) 3 78 zPs/\w.heap.size<w1.heap.size/\Below w.heap.size w w1) ⟨?_,?_,?_,((bN _ _).alloc (bA _) _).alloc (by simp) _⟩ ?_
 ·exact (((bN (w.heap.size+1) (w.alloc (.cells #[.string nm] 9))).alloc (by simp) _).cell (p:=⟨w.heap.size,0,none⟩) (by simp)).trans (cell_of_row _ _ 0 _ _ (0,0) (heap_alloc_new w _))
 ·have:=iW.new (w:=w.alloc (.cells #[.string nm] 9)) (n:=3) (z:=zPs) (t:=78);rw [World.size_alloc] at this;exact this
 ·rw [World.size_alloc,World.size_alloc];omega
 rintro w1 ⟨k0,r1,s1,b1⟩;have K0:=ak k0;have R1:=ak r1;have S1:=ak s1;have B1:=ak b1;obtain ⟨x4,hx4⟩:∃x,x=w.heap.size+1:=⟨_,rfl⟩
 have NJ:Hid (w.heap.size<=x4):=ak (by omega);rw [<-hx4] at R1 ⊢;obtain ⟨x3,hx3⟩:∃x,x=w.heap.size:=⟨_,rfl⟩
 have JJ:=ak hx3;rw [<-hx3] at K0 S1 ⊢;clear k0 r1 s1 b1 hx3 hx4;go_wp2_with fail;refine (ZX.out w1 (JJ.out▸B1.out) x3 K0.out S1.out).mono ?_;rintro e w2 ⟨rfl,b2⟩;have R2:=ak (R1.out.below b2);have B2:=ak (B1.out.trans (b2.mono B1.out.size));clear b2 R1 K0;by_cases hf:CG (L.map (·.nm)) nm<L.length
 ·obtain ⟨k,hk⟩:∃k,k=CG (L.map (·.nm)) nm:=⟨_,rfl⟩
  obtain rfl:RI=(k:Int):=ZR.out.trans (by unfold vZ;rw [List.length_map,if_pos hf,hk]);obtain ⟨d,hd⟩:∃d,L[k]? =some d:=⟨_,oG (by rw [hk];exact hf)⟩
  obtain rfl:PA=(d,true):=AB.out.trans (by unfold uE;rw [<-hk,hd]);have hlt:k<m:=by rw [HM.out,hk];exact hf
  obtain ⟨g,cap',e,hrow,_,_,hcell⟩:=Wi.out.form (by omega);cases e
  have hgl:g<w.heap.size:=hrow.lt;have AJ:Hid (∀i,i<3->w2.cell? ⟨g,k * 3+i,none⟩=some (q k i)):=fun i hi=> (B2.out.cell (p:=⟨g,k * 3+i,none⟩) (JJ.out▸hgl)).trans (hcell k hlt i hi);have HOC:=ak (HB.out k d hd).one;have HDK:=ak hd;have q1:decide ((k:Int)<0)=false:=decide_eq_false (by omega);clear hf hk hd hrow hcell hgl
  go_wp2_with (first
   | (refine jQ rfl rfl rfl Tryz.underlying78 rfl Tryz.sizePsC AJ.out ?_)
   | (refine kD rfl 78 _ _ rfl x4 3 (q k) _ 78 (iW.at R2.out) (jD _ _) Tryz.sizePsC rfl rfl HOC.out ?_))
  exact bodyPost_ret (rX rfl _ _ x4 3 _ 78 rfl (iW.setRow (iW.at R2.out)) Tryz.underlying78 rfl Tryz.sizePsC) rfl ⟨_,rfl,(HB.out k d HDK.out).below (ay (JJ.out▸B2.out) NJ.out _),ay (JJ.out▸B2.out) NJ.out _⟩
 ·obtain rfl:RI= -1:=ZR.out.trans (by unfold vZ;rw [List.length_map,if_neg hf]);obtain rfl:PA=(⟨.empty, [], []⟩,false):=AB.out.trans (by unfold uE;rw [List.getElem?_eq_none (by omega)]);clear hf;go_wp2_with (refine kD rfl 78 _ _ rfl x4 3 zPs _ 78 (iW.at R2.out) (jD _ _) Tryz.sizePsC rfl rfl (Mk F w).one ?_);exact bodyPost_ret (rX rfl _ _ x4 3 _ 78 rfl (iW.setRow (iW.at R2.out)) Tryz.underlying78 rfl Tryz.sizePsC) rfl ⟨_,rfl,Mk F _,ay (JJ.out▸B2.out) NJ.out _⟩
theorem Py {nm:ByteArray} {L:List Fy} (hR:vC (Wv F) 71 2 w v L q):Calls Tryz.prog 109 #[v,.string nm] w fun e w'=> e=.returned (.bool (decide (CG (L.map (·.nm)) nm<L.length)))/\Below w.heap.size w w':=by
 have HB:=ak hR.bs;have ZX:=ak (fun (w1:World) (b1:Below w.heap.size w w1) (c:Nat) (hc:w1.cell? ⟨c,0,none⟩=some (.string nm)) (hl:c<w1.heap.size)=> UF (nm:=nm) (⟨hR.os.below b1,fun j a ha=> (HB.out j a ha).below b1⟩:vC (Wv F) 71 2 w1 _ L q) hc hl);obtain ⟨RI,Lm⟩:∃r,r=vZ (L.map (·.nm)) nm:=⟨_,rfl⟩
 obtain ⟨RB,hRB⟩:∃r,r=decide (CG (L.map (·.nm)) nm<L.length):=⟨_,rfl⟩
 have HRB:Hid (RB=decide (0<=RI)):=ak (by
  rw [hRB,Lm];unfold vZ;rw [List.length_map];by_cases h:CG (L.map (·.nm)) nm<L.length
  ·rw [if_pos h,decide_eq_true h,decide_eq_true (by omega)]
  ·rw [if_neg h,decide_eq_false h];rfl)
 rw [<-Lm] at ZX;rw [<-hRB];obtain ⟨m,hm⟩:∃m,m=L.length:=⟨_,rfl⟩
 obtain ⟨a,cap,rfl,hcap,hcap2⟩:=hR.os.m.slice;rw [<-hm] at ZX ⊢;clear hR HB hm Lm hRB;have HIC:Hid (∀(w1:World),Below w.heap.size w w1->∀(c:Nat),w1.cell? ⟨c,0,none⟩=some (.string nm)->c<w1.heap.size->Calls Tryz.prog 164 #[.slice a m cap,.func (.func 165) #[] #[.pointer (some ⟨c,0,none⟩)]] w1 fun e w'=> e=.returned (.bool (decide (0<=RI)))/\Below w1.heap.size w1 w'):=ak fun w1 b1 c hc hl=> by
  have HC:=ak (ZX.out w1 b1 c hc hl);clear ZX HRB hc hl b1
  go_enter Tryz.func164,Tryz.ntmps164
  go_wp2_with fail;refine HC.out.mono ?_;rintro e w2 ⟨rfl,b2⟩;have B2:=ak b2;clear b2;go_wp2;go_ret;exact ⟨rfl,B2.out⟩
 clear ZX
 go_enter Tryz.func109,Tryz.ntmps109
 go_upto_region 1 with (fail);refine aD (fun w1=> w1.cell? ⟨w.heap.size,0,none⟩=some (.string nm)/\w.heap.size<w1.heap.size/\Below w.heap.size w w1) ⟨cell_of_row _ _ 0 _ _ (0,0) (heap_alloc_new w _),by simp,(bN _ _).alloc (bA _) _⟩ ?_;rintro w1 ⟨k0,s1,b1⟩;have K0:=ak k0;have S1:=ak s1;have B1:=ak b1;clear k0 s1 b1;go_wp2_with fail;refine (HIC.out w1 B1.out _ K0.out S1.out).mono ?_;rintro e w2 ⟨rfl,b2⟩;have B2:=ak (B1.out.trans (b2.mono B1.out.size));have HE:=ak HRB.out.symm;clear b2;go_wp2;go_ret;exact ⟨by rw [HRB.out];rfl,B2.out⟩
end
structure JB (T:Type) where
 X:T
 out:List Fy
 bad:Bool
section
variable {B : Nat} {w w' w0 w1 w2 w3 : World} {p : Nat} {F F' F0 : Nat -> Prop} {v u vo vo' : Value} {x : List Int} {z : Nat -> Value} {q qo : Nat -> Nat -> Value}
def Eng.one (E:Eng B) (ro:List nT) (h:Fy) (s:JB E.σ) (d:AL):JB E.σ:=
 if d.ta=h.nm then
  if (uE ro d.fr).2=false\/(E.take s.X (uE ro d.fr).1 h.sc d.b).2.1≠0 then ⟨(E.take s.X (uE ro d.fr).1 h.sc d.b).2.2,s.out,true⟩
  else if Li s.out d.fr=true then ⟨(E.take s.X (uE ro d.fr).1 h.sc d.b).2.2,s.out,s.bad⟩
  else ⟨(E.take s.X (uE ro d.fr).1 h.sc d.b).2.2,s.out++ [⟨d.fr,(E.take s.X (uE ro d.fr).1 h.sc d.b).1⟩],s.bad⟩
 else s
def Eng.inn (E:Eng B) (ro:List nT) (D:List AL) (h:Fy) (s:JB E.σ):Nat->JB E.σ
 | 0=> s
 | k+1=> match D[k]? with
  | some d=> E.one ro h (E.inn ro D h s k) d
  | none=> E.inn ro D h s k
def Eng.all (E:Eng B) (ro:List nT) (D:List AL) (s:JB E.σ):Nat->JB E.σ
 | 0=> s
 | i+1=> match (E.all ro D s i).out[i]? with
  | some h=> E.inn ro D h (E.all ro D s i) D.length
  | none=> E.all ro D s i
variable {E : Eng B} {X : E.σ} {ro : List nT} {D : List AL} {s : JB E.σ} {h : Fy} {d : AL}
theorem Eng.Xz (E:Eng B) (ro:List nT) (h:Fy) (s:JB E.σ) (d:AL):s.out <+:(E.one ro h s d).out:=by
 unfold Eng.one
 split
 ·split
  ·exact List.prefix_refl _
  ·split
   ·exact List.prefix_refl _
   ·exact List.prefix_append _ _
 ·exact List.prefix_refl _
theorem Eng.Et (E:Eng B) (ro:List nT) (D:List AL) (h:Fy) (s:JB E.σ):∀k,s.out <+:(E.inn ro D h s k).out
 | 0=> List.prefix_refl _
 | k+1=> by
  show s.out <+:(match D[k]? with | some d=> E.one ro h (E.inn ro D h s k) d | none=> E.inn ro D h s k).out
  split
  ·exact (Eng.Et E ro D h s k).trans (E.Xz _ _ _ _)
  ·exact Eng.Et E ro D h s k
theorem sP {A:Type} {l l':List A} (h:l <+:l') {j:Nat} {a:A} (ha:l[j]? =some a):l'[j]? =some a:=by
 obtain ⟨t,rfl⟩:=h;rw [JI (List.getElem?_eq_some_iff.1 ha).1];exact ha
def uV (D:List AL) (o:List Fy):Nat:=D.countP fun d=> Li o d.fr
theorem Eng.XA (hd:d ∈ D) (hs:s.out.length<=1+uV D s.out):(E.one ro h s d).out.length<=1+uV D (E.one ro h s d).out:=by
 unfold Eng.one
 split
 ·split
  ·exact hs
  ·split
   ·exact hs
   ·rename_i hn
    have:uV D s.out+1<=uV D (s.out++ [⟨d.fr,(E.take s.X (uE ro d.fr).1 h.sc d.b).1⟩]):=xC (fun x hx=> by
     rw [Iu] at hx ⊢;rw [List.map_append,List.mem_append];exact .inl hx) hd (by rw [Iu];simp) (by simpa using hn)
    show (s.out++ [_]).length<=1+uV D (s.out++ [_]);rw [List.length_append,List.length_singleton];omega
 ·exact hs
theorem Eng.Eu (hs:s.out.length<=1+uV D s.out):∀k,(E.inn ro D h s k).out.length<=1+uV D (E.inn ro D h s k).out
 | 0=> hs
 | k+1=> by
  have:=Eng.Eu hs k;show (match D[k]? with | some d=> E.one ro h (E.inn ro D h s k) d | none=> E.inn ro D h s k).out.length<=1+uV D (match D[k]? with | some d=> E.one ro h (E.inn ro D h s k) d | none=> E.inn ro D h s k).out
  split
  ·rename_i d hd
   exact Eng.XA (List.mem_of_getElem? hd) this
  ·exact this
theorem Eng.NH (hs:s.out.length<=1+uV D s.out):∀i,(E.all ro D s i).out.length<=1+uV D (E.all ro D s i).out
 | 0=> hs
 | i+1=> by
  have:=Eng.NH hs i;show (match (E.all ro D s i).out[i]? with | some h=> E.inn ro D h (E.all ro D s i) D.length | none=> E.all ro D s i).out.length<=1+uV D (match (E.all ro D s i).out[i]? with | some h=> E.inn ro D h (E.all ro D s i) D.length | none=> E.all ro D s i).out
  split
  ·exact Eng.Eu this _
  ·exact this
theorem NA (D:List AL) (o:List Fy):uV D o<=D.length:=by unfold uV;exact List.countP_le_length
theorem Eng.szT (E:Eng B) (X:E.σ) (P:nT) (s b:List Int):E.sz (E.take X P s b).2.2<=E.sz X+2:=by
 have h1:=E.szP X (E.AO X s b).1;have h2:=E.szV (E.pub X (E.AO X s b).1).2.2 (E.AO X s b).1;unfold Eng.take
 split
 ·split
  ·show E.sz (E.ver (E.pub X (E.AO X s b).1).2.2 (E.AO X s b).1).2.2<=_;omega
  ·show E.sz (E.ver (E.pub X (E.AO X s b).1).2.2 (E.AO X s b).1).2.2<=_;omega
 ·show E.sz X<=_;omega
theorem Eng.aaX:E.sz (E.one ro h s d).X<=E.sz s.X+2:=by
 have:=E.szT s.X (uE ro d.fr).1 h.sc d.b;unfold Eng.one
 split
 ·split
  ·exact this
  ·split<;> exact this
 ·omega
theorem Eng.KY:∀k,E.sz (E.inn ro D h s k).X<=E.sz s.X+2 * k
 | 0=> bA _
 | k+1=> by
  have:=Eng.KY k;show E.sz (match D[k]? with | some d=> E.one ro h (E.inn ro D h s k) d | none=> E.inn ro D h s k).X<=_
  split
  ·rename_i d hd
   have:=Eng.aaX (E:=E) (ro:=ro) (h:=h) (s:=E.inn ro D h s k) (d:=d);omega
  ·omega
theorem Eng.VP:∀i,E.sz (E.all ro D s i).X<=E.sz s.X+2 * (i * D.length)
 | 0=> by simp [Eng.all]
 | i+1=> by
  have:=Eng.VP i;have e:(i+1) * D.length=i * D.length+D.length:=Nat.succ_mul i D.length;show E.sz (match (E.all ro D s i).out[i]? with | some h=> E.inn ro D h (E.all ro D s i) D.length | none=> E.all ro D s i).X<=_
  split
  ·rename_i h hh
   have:=Eng.KY (E:=E) (ro:=ro) (D:=D) (h:=h) (s:=E.all ro D s i) D.length;omega
  ·omega
structure Dj (E:Eng B) (w0:World) (p:Nat) (F0:Nat->Prop) (w:World) (vo:Value) (s:JB E.σ) (F:Nat->Prop) (qo:Nat->Nat->Value):Prop where
 m:E.M w p F s.X
 ou:vC (Wv F) 71 2 w vo s.out qo
 oo:∀b,vo.ownBlock=some b->¬ (b=p\/F b)/\w0.heap.size<=b
 ch:ku p F0 w0 w
 fo:∀b,F b->F0 b\/w0.heap.size<=b
theorem Dj.below (g:Dj E w0 p F0 w vo s F qo) (hb:Below w.heap.size w w'):Dj E w0 p F0 w' vo s F qo:=
 ⟨E.below g.m hb,⟨g.ou.os.below hb,fun j a ha=> (g.ou.bs j a ha).below hb⟩,g.oo,g.ch.trans (ku.of_below hb F) g.fo,g.fo⟩
theorem Dj.res {r:List Int × Int × E.σ} (g:Dj E w0 p F0 w vo s F qo) (hr:E.ZO w p F u r w'):∃F',Dj E w0 p F0 w' vo ⟨r.2.2,s.out,s.bad⟩ F' qo/\dK F' w' u r.1:=by
 obtain ⟨F',h1,h2,h3,h4⟩:=hr;have hs:=g.ch.kV.size;refine ⟨F',⟨h1,⟨g.ou.os.kV h3.kV fun b hb=> (g.oo b hb).1,fun j a ha=> (g.ou.bs j a ha).xD h3 h4⟩,fun b hb=> ⟨fun hf=> hf.elim (fun e=> (g.oo b hb).1 (.inl e)) fun hf=> (h4 b hf).elim (fun e=> (g.oo b hb).1 (.inr e)) fun h'=> by have:=g.ou.os.m.lt b hb;omega,(g.oo b hb).2⟩,g.ch.trans h3 g.fo,fun b hb=> (h4 b hb).elim (g.fo b) fun h=> .inr (gQ hs h)⟩,h2⟩
theorem Dj.bad (g:Dj E w0 p F0 w vo s F qo) (b:Bool):Dj E w0 p F0 w vo ⟨s.X,s.out,b⟩ F qo:=⟨g.m,g.ou,g.oo,g.ch,g.fo⟩
theorem Dj.app {nm:ByteArray} (g:Dj E w0 p F0 w vo s F qo) (hu:dK F w u x) (ho:xI 71 2 w' vo' (s.out.length+1) (rO s.out.length qo (fun _ i=> if i=0 then .string nm else u)))
  (hc:gY (fun b=> vo.ownBlock=some b) w w') (hp:∀b,vo'.ownBlock=some b->vo.ownBlock=some b\/w.heap.size<=b):Dj E w0 p F0 w' vo' ⟨s.X,s.out++ [⟨nm,x⟩],s.bad⟩ F (fun j=> if j=s.out.length then (fun i=> if i=0 then .string nm else u) else qo j):=by
 have hk:∀{v:Value} {l:List Int},dK F w v l->dK F w' v l:=fun g'=> ⟨g'.ok,g'.rd.agt hc fun hn b hb hg=> (g.ou.os.z b hg).ne g'.rd hn b hb rfl,g'.off⟩
 have hs:=g.ch.kV.size;refine ⟨E.keep g.m hc (fun e=> (g.oo p e).1 (.inl rfl)) fun b hb e=> (g.oo b e).1 (.inr hb),⟨?_,fun j a ha=> ?_⟩,fun b hb=> ?_,⟨g.ch.kV.trans hc fun b hb he=> by have:=(g.oo b he).2;omega,fun b hb hn i x hx=> (hc.cell (p:=⟨b,i,none⟩) (pJ hb hs) (fun he=> by have:=(g.oo b he).2;omega)).trans (g.ch.u8 b hb hn i x hx)⟩,g.fo⟩
 ·show xI _ _ _ _ (s.out++ [(⟨nm,x⟩:Fy)]).length _;rw [List.length_append,List.length_singleton];refine ho.congr fun j hj i hi=> ?_;by_cases hjl:j<s.out.length
  ·rw [yE hjl,if_neg (by omega)]
  ·obtain rfl:j=s.out.length:=by omega
   rw [EO,if_pos rfl]
 ·have ha:(s.out++ [⟨nm,x⟩])[j]? =some a:=ha;by_cases hj:j<s.out.length
  ·rw [JI hj] at ha;rw [if_neg (by omega)];have:=g.ou.bs j a ha;exact ⟨this.z0,hk this.z1⟩
  ·have:=(List.getElem?_eq_some_iff.1 ha).1;rw [List.length_append,List.length_singleton] at this;obtain rfl:j=s.out.length:=by omega
   rw [Fx (bA _),Nat.sub_self] at ha;rw [if_pos rfl,←fO ha];exact ⟨rfl,hk hu⟩
 ·rcases hp b hb with h' | h'
  ·exact g.oo b h'
  ·exact ⟨fun hf=> by have:=E.lt g.m hf;omega,gQ hs h'⟩
end
theorem Tryz.infoHeld:(Tryz.prog.info? 71).map (fun i=> (i.zero,i.size,i.bytes))=some (some (.agg #[.string ⟨#[]⟩,.slice none 0 0]),2,40):=by kernel_rfl
theorem Tryz.sizeDp:(Tryz.prog.info? 66).map (·.size)=some 3:=by kernel_rfl
section
variable {B : Nat} {w w' w0 w1 w2 w3 : World} {p : Nat} {F F' F0 : Nat -> Prop} {v u vo vo' vr vl vs : Value} {x sec : List Int} {z zd : Nat -> Value} {q qo qr qd : Nat -> Nat -> Value} {E : Eng B} {X : E.σ} {ro : List nT} {D : List AL} {s : JB E.σ} {R : List Int × Int × E.σ} {sJ : Nat}
def BK (E:Eng B) (w0:World) (p:Nat) (F0:Nat->Prop) (vo:Value) (s:JB E.σ) (qo:Nat->Nat->Value) (R:List Int × Int × E.σ) (sJ:Nat) (zd:Nat->Value) (w:World) (v:Value):Prop:=iW w sJ 3 66 zd/\∃F' u,v=.tuple #[u,.int .i64 R.2.1] /\Dj E w0 p F0 w vo ⟨R.2.2,s.out,s.bad⟩ F' qo/\dK F' w u R.1
theorem BK.below (h:BK E w0 p F0 vo s qo R sJ zd w v) (hb:Below w.heap.size w w'):BK E w0 p F0 vo s qo R sJ zd w' v:=by
 obtain ⟨h0,F',u,e,h1,h2⟩:=h;exact ⟨h0.below hb,F',u,e,h1.below hb,h2.below hb⟩
def Fa (E:Eng B) (w0:World) (p:Nat) (F0:Nat->Prop) (vo:Value) (s:JB E.σ) (qo:Nat->Nat->Value) (R:List Int × Int × E.σ) (sJ:Nat) (zd:Nat->Value) (w:World) (v:Value):Prop:=iW w sJ 3 66 zd/\∃F',Dj E w0 p F0 w vo ⟨R.2.2,s.out,s.bad⟩ F' qo/\dK F' w v R.1
theorem Fa.below (h:Fa E w0 p F0 vo s qo R sJ zd w v) (hb:Below w.heap.size w w'):Fa E w0 p F0 vo s qo R sJ zd w' v:=by
 obtain ⟨h0,F',h1,h2⟩:=h;exact ⟨h0.below hb,F',h1.below hb,h2.below hb⟩
theorem Dj.kept {A:Type} {Rw:(Nat->Prop)->World->(Nat->Value)->A->Prop} {e:TypeId} {c:Nat} {L:List A} (g:Dj E w0 p F0 w vo s F qo) (hc:∀{p F F' w w' z a},Rw F w z a->ku p F w w'->(∀b,F' b->F b\/w.heap.size<=b)->Rw F' w' z a) (h:vC (Rw F0) e c w0 v L q) (hn:∀b,v.ownBlock=some b->¬ (b=p\/F0 b)):vC (Rw F) e c w v L q:=
 ⟨h.os.kV g.ch.kV hn,fun j a ha=> hc (h.bs j a ha) g.ch g.fo⟩
theorem Pz {me:ByteArray} (h:E.M w p F X) (hR:vC (Df F) 78 3 w vr ro qr) (hRn:∀b,vr.ownBlock=some b->¬ (b=p\/F b)) (hD:vC (Wn F) 66 3 w vl D qd) (hDn:∀b,vl.ownBlock=some b->¬ (b=p\/F b)) (hs:dK F w vs sec) (hm:D.length<=10) (hb:∀(j:Nat) d,D[j]? =some d->d.b.length<=400) (hsl:sec.length<=1000) (hz:E.sz X<=600):
  Calls Tryz.prog 48 #[.pointer (some ⟨p,0,none⟩),vr,vl,.string me,vs] w fun e w'=> ∃i vo,e=.returned (.tuple #[vo,.bool (E.all ro D ⟨X, [⟨me,sec⟩],false⟩ i).bad])/\(E.all ro D ⟨X, [⟨me,sec⟩],false⟩ i).out.length=i/\∃F' qo,Dj E w p F w' vo (E.all ro D ⟨X, [⟨me,sec⟩],false⟩ i) F' qo:=by
 obtain ⟨ST,hST⟩:∃f,f=E.all ro D ⟨X, [⟨me,sec⟩],false⟩:=⟨_,rfl⟩
 have Ww:Hid (ST 0=⟨X, [⟨me,sec⟩],false⟩):=ak (by rw [hST];rfl);have HSS:Hid (∀i g,(ST i).out[i]? =some g->ST (i+1)=E.inn ro D g (ST i) D.length):=ak fun i g hg=> by
  rw [hST] at hg ⊢;show (match (E.all ro D ⟨X, [⟨me,sec⟩],false⟩ i).out[i]? with | some h=> E.inn ro D h (E.all ro D ⟨X, [⟨me,sec⟩],false⟩ i) D.length | none=> E.all ro D ⟨X, [⟨me,sec⟩],false⟩ i)= _;rw [hg]
 have HSN:Hid (∀i,(ST i).out.length<=1+uV D (ST i).out):=ak fun i=> by rw [hST];exact Eng.NH (by simp) i
 have AQ:Hid (∀i,E.sz (ST i).X<=600+20 * i):=ak fun i=> by
  rw [hST];have:=Eng.VP (E:=E) (ro:=ro) (D:=D) (s:=⟨X, [⟨me,sec⟩],false⟩) i;have h2:i * D.length<=i * 10:=Nat.mul_le_mul_left _ hm;have h3:E.sz (JB.mk X [⟨me,sec⟩] false).X<=600:=hz;omega
 rw [<-hST];have H:=ak h;have HR:=ak hR;have HD:=ak hD;have HRN:=ak hRn;have HDN:=ak hDn;have HS:=ak hs;have HB:=ak hb;have YW:=ak hm;obtain ⟨m,hm'⟩:∃m,m=D.length:=⟨_,rfl⟩
 have HM:=ak hm';have HSL:=ak hsl;obtain ⟨ar,cr,evr,_,_⟩:=hR.os.m.slice;obtain ⟨al,cl,evl,_,_⟩:=hD.os.m.slice;obtain ⟨as_,cs,evs⟩:=hs.slice;rw [<-hm'] at evl;subst evr;subst evl;subst evs;clear h hR hD hRn hDn hs hb hm hm' hz hST hsl
 go_enter Tryz.func48,Tryz.ntmps48
 go_wp2_with fail;refine (CP _ _ _ w HS.out.rd (by have:=HSL.out;omega)).mono ?_;rintro e w1 ⟨vc,rfl,hown,b1⟩;have YC:Hid (dK F w1 vc sec):=ak (by have:=dK.own (F:=F) hown (fun i hi=> HS.out.ok.at i hi) (fun b hb=> E.lt H.out (.inr hb));rwa [Tn] at this);have B1:=ak b1;obtain ⟨avc,cvc,evc⟩:=YC.out.slice;subst evc;clear hown b1;go_upto_region 3 with (fail);have HNB:Hid (¬ (w1.heap.size=p\/F w1.heap.size)):=ak fun hh=> by have:=E.lt H.out hh;have:=B1.out.size;omega
 refine aD (fun w2=> Dj E w p F w2 (.slice (some ⟨w1.heap.size,0,none⟩) 1 1) (ST 0) F (fun _ i=> if i=0 then .string me else .slice avc sec.length cvc)) ?_ ?_
 ·have ba:=(bN w1.heap.size w1).alloc (bA _) (.cells #[.string me,.slice avc sec.length cvc] 71);have bt:=B1.out.trans (ba.mono B1.out.size);rw [Ww.out];refine ⟨E.below H.out bt,⟨⟨jH.new w1 _ 2 (by unfold maxLen;decide) rfl fun j hj i hi=> ?_,fun b hb=> ?_⟩,fun j a ha=> ?_⟩,fun b hb=> ?_,ku.of_below bt F,fun b hb=> .inl hb⟩
  ·have hj:j<1:=hj;obtain rfl:j=0:=by omega
   rcases (by omega:i=0\/i=1) with rfl | rfl<;> rfl
  ·obtain rfl:w1.heap.size=b:=by simpa [Value.ownBlock] using hb
   refine Dh.row (heap_alloc_new w1 _) fun u hu=> ?_;have hu:u=.string me\/u=.slice avc sec.length cvc:=by simpa using hu
   rcases hu with rfl | rfl<;> exact fun x e=> by cases e
  ·have ha: [(⟨me,sec⟩:Fy)][j]? =some a:=ha
   cases j with
   | zero=> obtain rfl:=fO ha;exact ⟨rfl,YC.out.below ba⟩
   | succ j=> simp at ha
  ·obtain rfl:w1.heap.size=b:=by simpa [Value.ownBlock] using hb
   exact ⟨HNB.out,B1.out.size⟩
 rintro w2 ha2;have HA2:=ak ha2;clear ha2;go_wp2
 go_loopw [12,13,14] (fun vo bd i wr=> ∃k:Nat,i=.int .i64 (k:Int)/\bd=.bool (ST k).bad/\k<=(ST k).out.length/\∃F' qo,Dj E w p F wr vo (ST k) F' qo) (fun _ _ i _=> 20 - (intOf i).toNat)
 case atStart=> exact ⟨0,rfl,by rw [Ww.out],iY _,F,_,HA2.out⟩
 case round=>
  rename World=> wo
  obtain ⟨k,rfl,rfl,hk,Fo,qo,hA⟩:=hrel;have HA:=ak hA;have HLN:Hid ((ST k).out.length<=11):=ak (by have:=HSN.out k;have:=NA D (ST k).out;have:=YW.out;omega);obtain ⟨av,cv,evo,_,_⟩:=hA.ou.os.m.slice;subst evo;clear hA;by_cases hlt:k<(ST k).out.length
  ·obtain ⟨hh,hhd⟩:∃d,(ST k).out[k]? =some d:=⟨_,oG hlt⟩
   obtain ⟨IN,hIN⟩:∃f,f=E.inn ro D hh (ST k):=⟨_,rfl⟩
   have HI0:Hid (IN 0=ST k):=ak (by rw [hIN];rfl);have HIM:Hid (ST (k+1)=IN m):=ak (by rw [HSS.out k hh hhd,hIN,HM.out]);have HIS:Hid (∀j d,D[j]? =some d->IN (j+1)=E.one ro hh (IN j) d):=ak fun j d hd=> by
    rw [hIN];show (match D[j]? with | some d=> E.one ro hh (E.inn ro D hh (ST k) j) d | none=> E.inn ro D hh (ST k) j)= _;rw [hd]
   have HIL:Hid (∀j,(IN j).out.length<=11):=ak fun j=> by
    have h1:=Eng.Eu (E:=E) (ro:=ro) (h:=hh) (HSN.out k) j;rw [<-hIN] at h1;have:=NA D (IN j).out;have:=YW.out;omega
   have HIZ:Hid (∀j,j<=m->E.sz (IN j).X<=880):=ak fun j hj=> by
    have h1:=Eng.KY (E:=E) (ro:=ro) (D:=D) (h:=hh) (s:=ST k) j;rw [<-hIN] at h1;have:=AQ.out k;have:=YW.out;have:=HM.out;have:=HLN.out;omega
   have HIO:Hid (∀j,(IN j).out[k]? =some hh):=ak fun j=> by
    have:=sP (E.Et ro D hh (ST k) j) hhd
    rwa [<-hIN] at this
   have YX:=ak hlt;have q0:(k:Int)<((ST k).out.length:Int):=by omega
   clear hhd hIN hlt hk;go_wp2
   go_loopw [12,13,34] (fun vo bd i wr=> ∃j:Nat,j<=m/\i=.int .i64 (j:Int)/\bd=.bool (IN j).bad/\∃F' qo,Dj E w p F wr vo (IN j) F' qo) (fun _ _ i _=> m - (intOf i).toNat)
   case atStart=> exact ⟨0,iY _,rfl,by rw [HI0.out],Fo,_,by rw [HI0.out];exact HA.out⟩
   case round=>
    obtain ⟨j,hj,rfl,rfl,Fi,qi,hAi⟩:=hrel;have HAI:=ak hAi;have HKO:Hid (k<(IN j).out.length):=ak (List.getElem?_eq_some_iff.1 (HIO.out j)).1;obtain ⟨g,cap,evi,hrow,hle,hcap,hcell⟩:=hAi.ou.os.m.form (Nat.lt_of_le_of_lt (iY _) HKO.out);subst evi;have HGL:Hid (g<wr.heap.size):=ak hrow.lt;have HQ:=ak (hAi.ou.bs k hh (HIO.out j));have HO0:Hid (wr.cell? ⟨g,k * 2,none⟩=some (.string hh.nm)):=ak ((hcell k HKO.out 0 (by decide)).trans (by rw [HQ.out.z0]));obtain ⟨as2,cs2,es2⟩:=HQ.out.z1.slice;have YU:Hid (wr.cell? ⟨g,k * 2+1,none⟩=some (.slice as2 hh.sc.length cs2)):=ak ((hcell k HKO.out 1 (by decide)).trans (by rw [es2]));have AA:Hid (dK Fi wr (.slice as2 hh.sc.length cs2) hh.sc):=ak (by rw [<-es2];exact HQ.out.z1);obtain ⟨no,hno⟩:∃n,n=(IN j).out.length:=⟨_,rfl⟩
    have HNO:=ak hno;have HKN:Hid (k<no):=ak (hno▸HKO.out);rw [<-hno] at HAI ⊢;clear hAi hrow hle hcap hcell es2 HQ hno;by_cases hlt:j<m
    ·obtain ⟨gl,apN,e,Zp,_,_,TW⟩:=HD.out.os.m.form (by rw [<-HM.out];omega);rw [<-HM.out] at e;cases e
     have hgl:gl<w.heap.size:=Zp.lt;have hn:=HDN.out gl rfl;have AJ:Hid (∀i,i<3->wr.cell? ⟨gl,j * 3+i,none⟩=some (qd j i)):=ak fun i hi=> (HAI.out.ch.kV.cell (p:=⟨gl,j * 3+i,none⟩) hgl hn).trans (TW j (by rw [<-HM.out];exact hlt) i hi);obtain ⟨d,hd⟩:∃d,D[j]? =some d:=⟨_,oG (by rw [<-HM.out];exact hlt)⟩
     have HDL:=ak (HB.out j d hd);have HDR:Hid (Wn Fi wr (qd j) d):=ak ((HD.out.bs j d hd).xD HAI.out.ch HAI.out.fo);have HDO:=ak HDR.out.one;have HJS:Hid (IN (j+1)=E.one ro hh (IN j) d):=ak (HIS.out j d hd);have QK:=ak hlt;clear hd Zp TW hgl hn;go_upto_region 9 with (first | (refine jQ rfl rfl rfl Tryz.underlying66 rfl Tryz.sizeDp AJ.out ?_) | (refine kD rfl 66 _ _ rfl wr.heap.size 3 (qd j) _ 66 (heap_alloc_new _ _) rfl Tryz.sizeDp rfl rfl HDO.out ?_));refine aD (fun w4=> iW w4 wr.heap.size 3 66 (qd j)/\Below wr.heap.size wr w4) ⟨iW.setRow (heap_alloc_new _ _),ay ((bN _ _).alloc (bA _) _) (bA _) _⟩ ?_;rintro w4 ⟨hr4,hb4⟩;have R4:=ak hr4;have A4:=ak (HAI.out.below hb4);have HG4:Hid (g<w4.heap.size):=ak (pJ HGL.out hb4.size);have O0:Hid (w4.cell? ⟨g,k * 2,none⟩=some (.string hh.nm)):=ak ((hb4.cell (p:=⟨g,k * 2,none⟩) HGL.out).trans HO0.out);have O1:Hid (w4.cell? ⟨g,k * 2+1,none⟩=some (.slice as2 hh.sc.length cs2)):=ak ((hb4.cell (p:=⟨g,k * 2+1,none⟩) HGL.out).trans YU.out);have SB4:=ak (AA.out.below hb4);have DR4:=ak (HDR.out.below hb4);have YV:Hid (¬ (wr.heap.size=p\/Fi wr.heap.size)):=ak fun hf=> Nat.lt_irrefl _ (E.lt HAI.out.m hf);have YP:Hid (wr.heap.size<w4.heap.size):=ak hr4.1.lt;obtain ⟨sJ,hx16⟩:∃x,x=wr.heap.size:=⟨_,rfl⟩
     rw [<-hx16] at R4 YV YP ⊢;have D1:Hid (w4.cell? ⟨sJ,1,none⟩=some (.string d.ta)):=ak ((R4.out.2 1 (by decide)).trans (by rw [DR4.out.z1]));obtain ⟨bq,hbq⟩:∃b,b= !decide (d.ta=hh.nm):=⟨_,rfl⟩
     have HBQ:=ak hbq;clear hr4 hb4 hx16 hbq AJ HDR HDO
     refine aT (n:=89) (by kernel_rfl) (by kernel_rfl) (by kernel_rfl) rfl
      (fun ii vv _=> (match ii with | 0=> vv=.pointer (some ⟨sJ,1,none⟩) | 1=> vv=.string d.ta | 2=> vv=.slice (some ⟨g,0,none⟩) no cap | 3=> vv=.int .i64 ((k:Int)) | 4=> vv=.pointer (some ⟨g,k * 2,none⟩) | 5=> vv=.pointer (some ⟨g,k * 2+0,none⟩) | 6=> vv=.string hh.nm | 7=> vv=.bool bq | _=> True))
      (fun w w'=> Below w.heap.size w w') (fun _ _ h=> h) (fun _ _ _ _ h _=> h) ?_ ?_
     ·refine cO ?_;refine ⟨?_,?_,?_,?_,?_,?_,?_,?_,trivial⟩
      ·intro a w2 hB hF hd;refine aH <| aP (aW (m:=0) (k:=1) rfl (hF.same 16 rfl) (by kernel_rfl)) ?_;exact rfl
      ·intro a w2 hB hF hd;exact aH <| aP (oN rfl (hd 0 _ rfl (aj rfl)) Tryz.underlying9 ((hB.cell (p:=⟨sJ,1,none⟩) YP.out).trans D1.out)) rfl
      ·intro a w2 hB hF hd;exact aH <| dJ rfl (hF.same 12 rfl)
      ·intro a w2 hB hF hd;exact aH <| dJ rfl (hF.same 14 rfl)
      ·intro a w2 hB hF hd;exact aH <| aP (bQ (i:=k) (sz:=2) rfl (hd 2 _ rfl (aj rfl)) (hd 3 _ rfl (aj rfl)) Tryz.underlying67 Tryz.sizeHdC HKN.out) rfl
      ·intro a w2 hB hF hd;exact aH <| aP (aW (m:=0) (k:=0) rfl (hd 4 _ rfl (aj rfl)) (by kernel_rfl)) rfl
      ·intro a w2 hB hF hd;exact aH <| aP (oN rfl (hd 5 _ rfl (aj rfl)) Tryz.underlying9 ((hB.cell (p:=⟨g,k * 2,none⟩) HG4.out).trans O0.out)) rfl
      ·intro a w2 hB hF hd;exact aH <| aP (Gh rfl (hd 1 _ rfl (aj rfl)) (hd 6 _ rfl (aj rfl)) Tryz.underlying9) (congrArg Value.bool HBQ.out.symm)
     ·intro a w5 hB hF hS;have ha:=aI rfl rfl hF [_,_,_,_,_,_,_,_] rfl ⟨hS 0 _ rfl,hS 1 _ rfl,hS 2 _ rfl,hS 3 _ rfl,hS 4 _ rfl,hS 5 _ rfl,hS 6 _ rfl,hS 7 _ rfl,trivial⟩;simp only [puts,Act.put,dQ,dR,dS] at ha;subst ha;clear hS hF;have A5:=ak (A4.out.below hB);have R5:=ak (R4.out.below hB);have HX5:Hid (sJ<w5.heap.size):=ak (pJ YP.out hB.size);have O5:Hid (w5.cell? ⟨g,k * 2+1,none⟩=some (.slice as2 hh.sc.length cs2)):=ak ((hB.cell (p:=⟨g,k * 2+1,none⟩) HG4.out).trans O1.out);have HG5:Hid (g<w5.heap.size):=ak (pJ HG4.out hB.size);have SB5:=ak (SB4.out.below hB);have DR5:=ak (DR4.out.below hB);clear hB A4 R4 O0 O1 HG4 YP D1 SB4 DR4;have q9:(j:Int)<1000000:=by have:=QK.out;have:=YW.out;have:=HM.out;omega
      cases bq with
      | true=>
       have HE:Hid (IN (j+1)=IN j):=ak (HJS.out.trans (if_neg (by simpa using HBQ.out)));go_wp2;go_roundw
       case rel=> exact ⟨j+1,QK.out,by go_num,by rw [HE.out],Fi,qi,by rw [HE.out];exact A5.out⟩
       case measure=> have:=QK.out;simp [intOf] <;> omega
      | false=>
       have HT:Hid (d.ta=hh.nm):=ak (by simpa using HBQ.out);have c0:w5.cell? ⟨sJ,0,none⟩=some (.string d.fr):=(R5.out.2 0 (by decide)).trans (by rw [DR5.out.z0]);obtain ⟨⟨P1,P2⟩,Lp⟩:∃x,x=uE ro d.fr:=⟨_,rfl⟩
       have HPC:=ak (EH (nm:=d.fr) (A5.out.kept (fun h=> h.xD) HR.out HRN.out));rw [<-Lp] at HPC;have AB:=ak Lp
       dsimp only at HPC
       clear Lp;go_wp2_with fail;refine HPC.out.mono ?_;rintro e w6 ⟨zp,rfl,hzp,b6⟩;go_upto_region 11 with (refine kD rfl 78 _ _ rfl w6.heap.size 3 zp _ 78 (heap_alloc_new _ _) rfl Tryz.sizePs rfl rfl hzp.one ?_);refine aD (fun w7=> iW w7 w6.heap.size 3 78 zp/\Below w6.heap.size w6 w7) ⟨iW.setRow (heap_alloc_new _ _),ay ((bN _ _).alloc (bA _) _) (bA _) _⟩ ?_;rintro w7 ⟨hr7,Ua⟩;have B57:=b6.trans (Ua.mono b6.size);have A7:=ak (A5.out.below B57);have R16:=ak (R5.out.below B57);have HX7:Hid (sJ<w7.heap.size):=ak (pJ HX5.out B57.size);have O7:Hid (w7.cell? ⟨g,k * 2+1,none⟩=some (.slice as2 hh.sc.length cs2)):=ak ((B57.cell (p:=⟨g,k * 2+1,none⟩) HG5.out).trans O5.out);have HG7:Hid (g<w7.heap.size):=ak (pJ HG5.out B57.size);have SB7:=ak (SB5.out.below B57);have DR7:=ak (DR5.out.below B57);have ZP7:=ak (hzp.below Ua);have agG:Hid (w6.heap.size<w7.heap.size):=ak hr7.1.lt;have R17:Hid (∀i,i<3->w7.cell? ⟨w6.heap.size,0+i,none⟩=some (zp i)):=ak fun i hi=> by rw [pz];exact hr7.2 i hi
       obtain ⟨x17,aff⟩:∃x,x=w6.heap.size:=⟨_,rfl⟩
       rw [<-aff] at agG R17 ⊢;obtain ⟨ad,cd,ed⟩:=DR7.out.z2.slice;have D2:Hid (w7.cell? ⟨sJ,2,none⟩=some (.slice ad d.b.length cd)):=ak ((R16.out.2 2 (by decide)).trans (by rw [ed]));have YB7:Hid (dK Fi w7 (.slice ad d.b.length cd) d.b):=ak (by rw [<-ed];exact DR7.out.z2);obtain ⟨⟨R1,R2,R3⟩,hRT⟩:∃r,r=E.take (IN j).X P1 hh.sc d.b:=⟨_,rfl⟩
       have HRT:=ak hRT;have HTK:Hid (∀w',Below w7.heap.size w7 w'->Calls Tryz.prog 51 #[.pointer (some ⟨p,0,none⟩),.agg (fC 3 zp),.slice as2 hh.sc.length cs2,.slice ad d.b.length cd] w' fun e wz=> ∃x,e=.returned x/\BK E w p F (.slice (some ⟨g,0,none⟩) no cap) (IN j) qi (R1,R2,R3) sJ (qd j) wz x):=ak fun w' hb'=> by
        have hA':=A7.out.below hb';refine (sV hA'.m (ZP7.out.below hb') (SB7.out.below hb') (YB7.out.below hb') HDL.out (gQ (HIZ.out j (Nat.le_of_lt QK.out)) (by decide))).mono ?_;rw [<-hRT];rintro e wz ⟨u,rfl,hres⟩;obtain ⟨F',h1,h2⟩:=hA'.res hres;obtain ⟨_,_,_,hch,_⟩:=hres;exact ⟨_,rfl,(R16.out.below hb').keep hch.kV YV.out,F',u,rfl,h1,h2⟩
       clear hr7 Ua b6 B57 hzp aff ed c0 hRT A5 R5 O5 HG5 HX5 SB5 DR5
       refine jP (n:=89) 9 (by kernel_rfl) (by kernel_rfl) (by kernel_rfl) (by kernel_rfl) (by kernel_rfl) rfl
        (fun ii vv=> (match ii with | 0=> vv=.pointer (some ⟨p,0,none⟩) | 1=> vv=.agg (fC 3 zp) | 2=> vv=.slice (some ⟨g,0,none⟩) no cap | 3=> vv=.int .i64 ((k:Int)) | 4=> vv=.pointer (some ⟨g,k * 2,none⟩) | 5=> vv=.pointer (some ⟨g,k * 2+1,none⟩) | 6=> vv=.slice as2 hh.sc.length cs2 | 7=> vv=.pointer (some ⟨sJ,2,none⟩) | 8=> vv=.slice ad d.b.length cd | 12 | 14=> vv=.int .i64 (R2) | _=> True)) (fun ii vv ww=> (ii=9->BK E w p F (.slice (some ⟨g,0,none⟩) no cap) (IN j) qi (R1,R2,R3) sJ (qd j) ww vv)/\(ii=10->BK E w p F (.slice (some ⟨g,0,none⟩) no cap) (IN j) qi (R1,R2,R3) sJ (qd j) ww vv)/\(ii=11->Fa E w p F (.slice (some ⟨g,0,none⟩) no cap) (IN j) qi (R1,R2,R3) sJ (qd j) ww vv)/\(ii=13->Fa E w p F (.slice (some ⟨g,0,none⟩) no cap) (IN j) qi (R1,R2,R3) sJ (qd j) ww vv))
        (fun i v w w' h hE=> ⟨fun e=> BK.below (h.1 e) hE,fun e=> BK.below (h.2.1 e) hE,fun e=> Fa.below (h.2.2.1 e) hE,fun e=> Fa.below (h.2.2.2 e) hE⟩)
        (fun ww=> True) (fun _ _ _ _=> trivial) ?_ ?_ ?_
       ·refine cO ?_;refine ⟨?_,?_,?_,?_,?_,?_,?_,?_,?_,(fun h=> absurd rfl h),?_,?_,?_,?_,?_,trivial⟩
        ·intro _ a w2 hB' hP hF hd;have hB:=hB' (by kernel_rfl);exact aH <| dJ rfl ⟨(hF.same 0 rfl),aJ,aJ,aJ,aJ⟩
        ·intro _ a w2 hB' hP hF hd;have hB:=hB' (by kernel_rfl);exact aH <| aP (iq rfl (hF.same 17 rfl) Tryz.underlying78 rfl Tryz.sizePs (fun i hi=> (hB.cell (p:=⟨x17,0+i,none⟩) agG.out).trans (R17.out i hi))) ⟨rfl,aJ,aJ,aJ,aJ⟩
        ·intro _ a w2 hB' hP hF hd;have hB:=hB' (by kernel_rfl);exact aH <| dJ rfl ⟨(hF.same 12 rfl),aJ,aJ,aJ,aJ⟩
        ·intro _ a w2 hB' hP hF hd;have hB:=hB' (by kernel_rfl);exact aH <| dJ rfl ⟨(hF.same 14 rfl),aJ,aJ,aJ,aJ⟩
        ·intro _ a w2 hB' hP hF hd;have hB:=hB' (by kernel_rfl);exact aH <| aP (bQ (i:=k) (sz:=2) rfl ((hd 2 _ rfl rfl).1) ((hd 3 _ rfl rfl).1) Tryz.underlying67 Tryz.sizeHdC HKN.out) ⟨rfl,aJ,aJ,aJ,aJ⟩
        ·intro _ a w2 hB' hP hF hd;have hB:=hB' (by kernel_rfl);exact aH <| aP (aW (m:=0) (k:=1) rfl ((hd 4 _ rfl rfl).1) (by kernel_rfl)) ⟨rfl,aJ,aJ,aJ,aJ⟩
        ·intro _ a w2 hB' hP hF hd;have hB:=hB' (by kernel_rfl);exact aH <| aP (bV rfl ((hd 5 _ rfl rfl).1) jI ((hB.cell (p:=⟨g,k * 2+1,none⟩) HG7.out).trans O7.out)) ⟨rfl,aJ,aJ,aJ,aJ⟩
        ·intro _ a w2 hB' hP hF hd;have hB:=hB' (by kernel_rfl);refine aH <| aP (aW (m:=0) (k:=2) rfl (hF.same 16 rfl) (by kernel_rfl)) ?_;exact ⟨rfl,aJ,aJ,aJ,aJ⟩
        ·intro _ a w2 hB' hP hF hd;have hB:=hB' (by kernel_rfl);exact aH <| aP (bV rfl ((hd 7 _ rfl rfl).1) jI ((hB.cell (p:=⟨sJ,2,none⟩) HX7.out).trans D2.out)) ⟨rfl,aJ,aJ,aJ,aJ⟩
        ·intro _ a w2 hB' hP hF hd;exact aH <| dJ rfl ⟨trivial,aJ,fun _=> ((((hd 9 _ rfl rfl).2 (by kernel_rfl)).1 rfl)),aJ,aJ⟩
        ·intro _ a w2 hB' hP hF hd;rw [if_pos (bJ rfl)];obtain ⟨r_,F_,u_,wh,Cv,Nj⟩:=(((hd 10 _ rfl rfl).2 (by kernel_rfl)).2.1 rfl)
         exact aP (bg rfl wh rfl) ⟨trivial,aJ,aJ,fun _=> (⟨r_,F_,Cv,Nj⟩),aJ⟩
        ·intro _ a w2 hB' hP hF hd;rw [if_pos (bJ rfl)];obtain ⟨r_,F_,u_,wh,Cv,Nj⟩:=(((hd 10 _ rfl rfl).2 (by kernel_rfl)).2.1 rfl)
         exact aP (bg rfl wh rfl) ⟨rfl,aJ,aJ,aJ,aJ⟩
        ·intro _ a w2 hB' hP hF hd;exact aH <| mH rfl ⟨trivial,aJ,aJ,aJ,fun _=> (((hd 11 _ rfl rfl).2 (by kernel_rfl)).2.2.1 rfl)⟩
        ·intro _ a w2 hB' hP hF hd;exact aH <| mH rfl ⟨((hd 12 _ rfl rfl).1),aJ,aJ,aJ,aJ⟩
       ·intro o ho a w2 hB hF hd;obtain rfl:=fO ho;refine ⟨by rw [bJ rfl],?_⟩;refine nW 51 #[.tmp 54,.tmp 55,.tmp 60,.tmp 62] _ rfl Tryz.call51 _ (qL ((hd 0 _ rfl rfl).1) ((hd 1 _ rfl rfl).1) ((hd 6 _ rfl rfl).1) ((hd 8 _ rfl rfl).1)) (by simp) ((HTK.out w2 hB).mono ?_);rintro e w3 ⟨x,rfl,hr⟩;exact ⟨x,rfl,⟨trivial,fun _=> (hr),aJ,aJ,aJ⟩,trivial⟩
       ·intro a w8 hP hF hS;obtain ⟨x63,Lb⟩:∃x,x=a.tmps.getD 63 undef:=⟨_,rfl⟩
        have P63:BK E w p F (.slice (some ⟨g,0,none⟩) no cap) (IN j) qi (R1,R2,R3) sJ (qd j) w8 x63:=by rw [Lb];exact ((hS 9 _ rfl).2 (by kernel_rfl)).1 rfl
        obtain ⟨x53,abv⟩:∃x,x=a.tmps.getD 53 undef:=⟨_,rfl⟩
        have P53:BK E w p F (.slice (some ⟨g,0,none⟩) no cap) (IN j) qi (R1,R2,R3) sJ (qd j) w8 x53:=by rw [abv];exact ((hS 10 _ rfl).2 (by kernel_rfl)).2.1 rfl
        obtain ⟨x64,La⟩:∃x,x=a.tmps.getD 64 undef:=⟨_,rfl⟩
        have Jw:Fa E w p F (.slice (some ⟨g,0,none⟩) no cap) (IN j) qi (R1,R2,R3) sJ (qd j) w8 x64:=by rw [La];exact ((hS 11 _ rfl).2 (by kernel_rfl)).2.2.1 rfl
        obtain ⟨x19,Ph⟩:∃x,x=a.tmps.getD 19 undef:=⟨_,rfl⟩
        have P19:Fa E w p F (.slice (some ⟨g,0,none⟩) no cap) (IN j) qi (R1,R2,R3) sJ (qd j) w8 x19:=by rw [Ph];exact ((hS 13 _ rfl).2 (by kernel_rfl)).2.2.2 rfl
        have ha:=aI rfl rfl hF [_,_,_,_,_,_,_,_,_,x63,x53,x64,_,x19,_] rfl ⟨(hS 0 _ rfl).1,(hS 1 _ rfl).1,(hS 2 _ rfl).1,(hS 3 _ rfl).1,(hS 4 _ rfl).1,(hS 5 _ rfl).1,(hS 6 _ rfl).1,(hS 7 _ rfl).1,(hS 8 _ rfl).1,Lb.symm,abv.symm,La.symm,(hS 12 _ rfl).1,Ph.symm,(hS 14 _ rfl).1,trivial⟩;simp only [puts,Act.put,dQ,dR,dS] at ha;subst ha;clear Lb abv La Ph;clear hS hF;have HP:=ak P19;clear P19 P63 P53 Jw;obtain ⟨hr8,F8,ha8,hy8⟩:=HP.out;have R8:=ak hr8;have A8:=ak ha8;have Y8:=ak hy8;obtain ⟨a9,c9,e9⟩:=hy8.slice;subst e9;have adr:Hid (IN (j+1)=if P2=false\/R2≠0 then ⟨R3,(IN j).out,true⟩ else if Li (IN j).out d.fr=true then ⟨R3,(IN j).out,(IN j).bad⟩ else ⟨R3,(IN j).out++ [⟨d.fr,R1⟩],(IN j).bad⟩):=ak (by
         rw [HJS.out];unfold Eng.one;rw [if_pos HT.out,←AB.out]
         dsimp only
         rw [<-HRT.out])
        have c0:w8.cell? ⟨sJ,0,none⟩=some (.string d.fr):=(hr8.2 0 (by decide)).trans (by rw [DR7.out.z0]);clear hr8 ha8 hy8 HP hP
        cases P2 with
        | false=>
         have HE:Hid (IN (j+1)=⟨R3,(IN j).out,true⟩):=ak (adr.out.trans (if_pos (.inl rfl)));clear c0;go_wp2;go_roundw
         case rel=> exact ⟨j+1,QK.out,by go_num,by rw [HE.out],F8,qi,by rw [HE.out];exact A8.out.bad true⟩
         case measure=> have:=QK.out;simp [intOf] <;> omega
        | true=>
         by_cases hr2:R2=0
         ·have q1:(R2 !=0)=false:=by simpa using hr2
          have Wj:Hid (IN (j+1)=if Li (IN j).out d.fr=true then ⟨R3,(IN j).out,(IN j).bad⟩ else ⟨R3,(IN j).out++ [⟨d.fr,R1⟩],(IN j).bad⟩):=ak (adr.out.trans (if_neg (fun h=> h.elim (fun e=> by cases e) fun h=> h hr2)));have ahd:=ak (Py (nm:=d.fr) A8.out.ou);obtain ⟨hq,hhq⟩:∃b,b=Li (IN j).out d.fr:=⟨_,rfl⟩
          rw [show decide (CG (List.map (·.nm) (JB.mk R3 (IN j).out (IN j).bad).out) d.fr<(JB.mk R3 (IN j).out (IN j).bad).out.length)=hq from hhq.symm] at ahd;rw [<-hhq] at Wj;clear hr2 hhq;go_wp2_with fail;refine ahd.out.mono ?_;rintro e w9 ⟨rfl,b9⟩;have A9:=ak (A8.out.below b9);have c0:=((R8.out.below b9).2 0 (by decide)).trans (show some (qd j 0)=some (.string d.fr) by rw [DR7.out.z0]);have Y9:=ak (Y8.out.below b9);clear b9
          cases hq with
          | true=>
           have HE:Hid (IN (j+1)=⟨R3,(IN j).out,(IN j).bad⟩):=ak (Wj.out.trans (if_pos rfl));clear c0;go_wp2;go_roundw
           case rel=> exact ⟨j+1,QK.out,by go_num,by rw [HE.out],F8,qi,by rw [HE.out];exact A9.out⟩
           case measure=> have:=QK.out;simp [intOf] <;> omega
          | false=>
           have HE:Hid (IN (j+1)=⟨R3,(IN j).out++ [⟨d.fr,R1⟩],(IN j).bad⟩):=ak (Wj.out.trans (if_neg (by decide)));go_wp2_with (at_builtin;refine lu (y:=fun i=> if i=0 then .string d.fr else .slice a9 R1.length c9) rfl _ _ rfl rfl (by rfl) A9.out.ou.os (by decide) Tryz.underlying67 Tryz.infoHeld rfl rfl (fun i hi=> by rcases (by omega:i=0\/i=1) with rfl | rfl;(· exact ⟨rfl,fun x e=> by cases e⟩);exact ⟨rfl,fun x e=> by cases e⟩) (fun z hz=> by simp [Value.cells] at hz;rcases hz with rfl | rfl<;> exact fun x e=> by cases e) (by have:=HIL.out j;unfold maxLen;show (IN j).out.length+1<=_;omega) (by have:=HIL.out j;show ((IN j).out.length+1) * _<=_;omega) ?_;intro v6 w6 ho6 hc6 hp6;have HAP:=ak (A9.out.app (nm:=d.fr) Y9.out ho6 hc6 hp6);clear ho6 hc6 hp6);go_roundw
           case rel=> exact ⟨j+1,QK.out,by go_num,by rw [HE.out],F8,_,by rw [HE.out];exact HAP.out⟩
           case measure=> have:=QK.out;simp [intOf] <;> omega
         ·have q1:(R2 !=0)=true:=by simpa using hr2
          have HE:Hid (IN (j+1)=⟨R3,(IN j).out,true⟩):=ak (adr.out.trans (if_pos (.inr hr2)));clear hr2 c0;go_wp2;go_roundw
          case rel=> exact ⟨j+1,QK.out,by go_num,by rw [HE.out],F8,qi,by rw [HE.out];exact A8.out.bad true⟩
          case measure=> have:=QK.out;simp [intOf] <;> omega
    ·have e:j=m:=by omega
     subst e;clear hlt;have q9:(k:Int)<1000000:=by have:=HLN.out;have:=YX.out;omega
     have HK1:Hid (k+1<=(ST (k+1)).out.length):=ak (by rw [HIM.out];exact HKO.out);go_wp2;go_roundw
     case rel=> exact ⟨k+1,by go_num,by rw [HIM.out],HK1.out,Fi,qi,by rw [HIM.out];exact HAI.out⟩
     case measure=> have:=HLN.out;have:=YX.out;simp [intOf] <;> omega
  ·have ZW:Hid ((ST k).out.length=k):=ak (by omega);have q0:¬ (k:Int)<((ST k).out.length:Int):=by omega
   clear hlt hk;go_wp2;go_ret2;exact ⟨k,_,rfl,ZW.out,Fo,qo,HA.out⟩
end
structure mP (B:Nat) extends Eng B where
 jY:σ->Int->List Int × Int × σ
 yJ:σ->List Int->List Int->List Int × Int × σ
 szD:∀X s,sz (jY X s).2.2<=sz X+1
 szW:∀X a b,sz (yJ X a b).2.2<=sz X+1
 acX:∀{w p F X} (s:Int),M w p F X->sz X<=900->Calls Tryz.prog 26 #[.pointer (some ⟨p,0,none⟩),.int .i64 s] w fun e w'=> ∃u,e=.returned (.tuple #[u,.int .i64 (jY X s).2.1])/\∃F',M w' p F' (jY X s).2.2/\dK F' w' u (jY X s).1/\ku p F w w'/\∀b,F' b->F b\/w.heap.size<=b
 acV:∀{w p F X v l v' l'},M w p F X->dK F w v l->dK F w v' l'->l'.length<=300->sz X<=900->Calls Tryz.prog 13 #[.pointer (some ⟨p,0,none⟩),v,v'] w fun e w'=> ∃u,e=.returned (.tuple #[u,.int .i64 (yJ X l l').2.1])/\∃F',M w' p F' (yJ X l l').2.2/\dK F' w' u (yJ X l l').1/\ku p F w w'/\∀b,F' b->F b\/w.heap.size<=b
theorem Tryz.infoPs:(Tryz.prog.info? 78).map (fun i=> (i.zero,i.size,i.bytes))=some (some (.agg #[.string ⟨#[]⟩,.slice none 0 0,.slice none 0 0]),3,64):=by kernel_rfl
def pF (n:Nat):ByteArray:=⟨#[UInt8.ofNat (97+n)]⟩
section
variable {B : Nat} {w w' w0 w1 w2 w3 : World} {p : Nat} {F F' F0 : Nat -> Prop} {v u vr vr' vs vs' : Value} {x l : List Int} {z : Nat -> Value} {qr qs : Nat -> Nat -> Value} {E : mP B} {X : E.σ} {ro : List nT} {ss : List (List Int)} {r : List Int × Int × E.σ} {a : nT}
def mP.usr (E:mP B) (X:E.σ):Nat->E.σ × List nT × List (List Int)
 | 0=> (X, [], [])
 | n+1=>
  ((E.ver (E.pub (E.jY (E.usr X n).1 1).2.2 (E.jY (E.usr X n).1 1).1).2.2 (E.jY (E.usr X n).1 1).1).2.2,
   (E.usr X n).2.1++ [⟨pF n,(E.pub (E.jY (E.usr X n).1 1).2.2 (E.jY (E.usr X n).1 1).1).1,(E.ver (E.pub (E.jY (E.usr X n).1 1).2.2 (E.jY (E.usr X n).1 1).1).2.2 (E.jY (E.usr X n).1 1).1).1⟩],
   (E.usr X n).2.2++ [(E.jY (E.usr X n).1 1).1])
def mP.FE (E:mP B) (X:E.σ):Prop:=∀n,n<5->(E.jY (E.usr X n).1 1).2.1=0/\(E.pub (E.jY (E.usr X n).1 1).2.2 (E.jY (E.usr X n).1 1).1).2.1=0/\(E.ver (E.pub (E.jY (E.usr X n).1 1).2.2 (E.jY (E.usr X n).1 1).1).2.2 (E.jY (E.usr X n).1 1).1).2.1=0
theorem mP.QX (E:mP B) (X:E.σ):∀n,E.sz (E.usr X n).1<=E.sz X+3 * n
 | 0=> bA _
 | n+1=> by
  have h0:=E.QX X n;have h1:=E.szD (E.usr X n).1 1;have h2:=E.szP (E.jY (E.usr X n).1 1).2.2 (E.jY (E.usr X n).1 1).1;have h3:=E.szV (E.pub (E.jY (E.usr X n).1 1).2.2 (E.jY (E.usr X n).1 1).1).2.2 (E.jY (E.usr X n).1 1).1;show E.sz (E.ver (E.pub (E.jY (E.usr X n).1 1).2.2 (E.jY (E.usr X n).1 1).1).2.2 (E.jY (E.usr X n).1 1).1).2.2<=_;omega
theorem mP.Mq (E:mP B) (X:E.σ):∀n,(E.usr X n).2.1.length=n/\(E.usr X n).2.2.length=n
 | 0=> ⟨rfl,rfl⟩
 | n+1=> by
  have h:=E.Mq X n;exact ⟨by show (_++ [_]).length= _;rw [List.length_append,h.1];rfl,by show (_++ [_]).length= _;rw [List.length_append,h.2];rfl⟩
structure rF (E:mP B) (w0:World) (p:Nat) (F0:Nat->Prop) (w:World) (X:E.σ) (F:Nat->Prop) (vr vs:Value) (ro:List nT) (ss:List (List Int)) (qr qs:Nat->Nat->Value):Prop where
 m:E.M w p F X
 ro:vC (Df F) 78 3 w vr ro qr
 ss:vC (BsR F) 23 1 w vs ss qs
 rn:∀b,vr.ownBlock=some b->¬ (b=p\/F b)/\w0.heap.size<=b
 sn:∀b,vs.ownBlock=some b->¬ (b=p\/F b)/\w0.heap.size<=b
 ds:∀b,vr.ownBlock=some b->vs.ownBlock≠some b
 ch:ku p F0 w0 w
 fo:∀b,F b->F0 b\/w0.heap.size<=b
theorem rF.below (g:rF E w0 p F0 w X F vr vs ro ss qr qs) (hb:Below w.heap.size w w'):rF E w0 p F0 w' X F vr vs ro ss qr qs:=
 ⟨E.below g.m hb,g.ro.below psU hb,g.ss.below bsU hb,g.rn,g.sn,g.ds,g.ch.trans (ku.of_below hb F) g.fo,g.fo⟩
theorem GU {vo:Value} {N:Nat} (hn:∀b,vo.ownBlock=some b->¬ (b=p\/F b)/\N<=b) (hl:∀b,vo.ownBlock=some b->b<w.heap.size) (h4:∀b,F' b->F b\/w.heap.size<=b):∀b,vo.ownBlock=some b->¬ (b=p\/F' b)/\N<=b:=
 fun b hb=> ⟨fun hf=> hf.elim (fun e=> (hn b hb).1 (.inl e)) fun hf=> (h4 b hf).elim (fun e=> (hn b hb).1 (.inr e)) fun h'=> by have:=hl b hb;omega,(hn b hb).2⟩
theorem rF.step {X':E.σ} (g:rF E w0 p F0 w X F vr vs ro ss qr qs) (h1:E.M w' p F' X') (h3:ku p F w w') (h4:∀b,F' b->F b\/w.heap.size<=b):rF E w0 p F0 w' X' F' vr vs ro ss qr qs:=
 ⟨h1,g.ro.Ze psS h3 h4 fun b hb=> (g.rn b hb).1,g.ss.Ze bsS h3 h4 fun b hb=> (g.sn b hb).1,GU g.rn g.ro.os.m.lt h4,GU g.sn g.ss.os.m.lt h4,g.ds,g.ch.trans h3 g.fo,fun b hb=> (h4 b hb).elim (g.fo b) fun h=> .inr (gQ g.ch.kV.size h)⟩
theorem rF.ZK {vo:Value} (hch:ku p F0 w0 w) (hn:∀b,vo.ownBlock=some b->w0.heap.size<=b) (hc:gY (fun b=> vo.ownBlock=some b) w w'):ku p F0 w0 w':=
 ⟨hch.kV.trans hc fun b hb he=> by have:=hn b he;omega,fun b hb hF i x hx=> (hc.cell (p:=⟨b,i,none⟩) (pJ hb hch.kV.size) (fun he=> by have:=hn b he;omega)).trans (hch.u8 b hb hF i x hx)⟩
theorem rF.akd {y:Nat->Value} (g:rF E w0 p F0 w X F vr vs ro ss qr qs) (ho:xI 78 3 w' vr' (ro.length+1) (rO ro.length qr (fun _=> y))) (hc:gY (fun b=> vr.ownBlock=some b) w w') (hp:∀b,vr'.ownBlock=some b->vr.ownBlock=some b\/w.heap.size<=b) (ha:Df F w y a):rF E w0 p F0 w' X F vr' vs (ro++ [a]) ss (fun j=> if j=ro.length then y else qr j) qs:=
 have hs:=g.ch.kV.size
 ⟨E.keep g.m hc (fun e=> (g.rn p e).1 (.inl rfl)) fun b hb e=> (g.rn b e).1 (.inr hb),g.ro.app psU ho hc ha,g.ss.Rt bsU hc g.ro.os.z fun b hb e=> g.ds b e hb,fun b hb=> (hp b hb).elim (g.rn b) fun h=> ⟨fun hf=> by have:=E.lt g.m hf;omega,gQ hs h⟩,g.sn,fun b hb=> (hp b hb).elim (g.ds b) fun h e=> by have:=g.ss.os.m.lt b e;omega,rF.ZK g.ch (fun b hb=> (g.rn b hb).2) hc,g.fo⟩
theorem rF.akc {y:Nat->Value} (g:rF E w0 p F0 w X F vr vs ro ss qr qs) (ho:xI 23 1 w' vs' (ss.length+1) (rO ss.length qs (fun _=> y))) (hc:gY (fun b=> vs.ownBlock=some b) w w') (hp:∀b,vs'.ownBlock=some b->vs.ownBlock=some b\/w.heap.size<=b) (ha:dK F w (y 0) x):rF E w0 p F0 w' X F vr vs' ro (ss++ [x]) qr (fun j=> if j=ss.length then y else qs j):=
 have hs:=g.ch.kV.size
 ⟨E.keep g.m hc (fun e=> (g.sn p e).1 (.inl rfl)) fun b hb e=> (g.sn b e).1 (.inr hb),g.ro.Rt psU hc g.ss.os.z fun b hb e=> g.ds b hb e,g.ss.app bsU ho hc ha,g.rn,fun b hb=> (hp b hb).elim (g.sn b) fun h=> ⟨fun hf=> by have:=E.lt g.m hf;omega,gQ hs h⟩,fun b hb e=> (hp b e).elim (g.ds b hb) fun h=> by have:=g.ro.os.m.lt b hb;omega,rF.ZK g.ch (fun b hb=> (g.sn b hb).2) hc,g.fo⟩
theorem rF.base (g:rF E w1 p F0 w X F vr vs ro ss qr qs) (hb:Below w0.heap.size w0 w1):rF E w0 p F0 w X F vr vs ro ss qr qs:=
 ⟨g.m,g.ro,g.ss,fun b hb'=> ⟨(g.rn b hb').1,gQ hb.size (g.rn b hb').2⟩,fun b hb'=> ⟨(g.sn b hb').1,gQ hb.size (g.sn b hb').2⟩,g.ds,(ku.of_below hb F0).trans g.ch fun b h=> .inl h,fun b h=> (g.fo b h).imp id fun h=> gQ hb.size h⟩
end
section
variable {B : Nat} {w w' w0 w1 w2 w3 : World} {p : Nat} {F F' F0 : Nat -> Prop} {E : mP B} {X : E.σ}
theorem BN (h:E.M w p F X) (hz:E.sz X<=800) (hok:E.FE X):Calls Tryz.prog 45 #[.pointer (some ⟨p,0,none⟩)] w fun e w'=> ∃vr vs,e=.returned (.tuple #[vr,vs,.bool true])/\∃F' qr qs,rF E w p F w' (E.usr X 5).1 F' vr vs (E.usr X 5).2.1 (E.usr X 5).2.2 qr qs:=by
 obtain ⟨US,hUS⟩:∃f,f=E.usr X:=⟨_,rfl⟩
 have HU0:Hid (US 0=(X, [], [])):=ak (by rw [hUS];rfl);have HLN:Hid (∀k,(US k).2.1.length=k/\(US k).2.2.length=k):=ak fun k=> by rw [hUS];exact E.Mq X k
 have AQ:Hid (∀k,k<=5->E.sz (US k).1<=815):=ak fun k hk=> by rw [hUS];have:=E.QX X k;omega
 have HNX:Hid (∀k,k<5->∃d1 d3 p1 p3 v1 v3,E.jY (US k).1 1=(d1,0,d3)/\E.pub d3 d1=(p1,0,p3)/\E.ver p3 d1=(v1,0,v3)/\US (k+1)=(v3,(US k).2.1++ [⟨pF k,p1,v1⟩],(US k).2.2++ [d1])):=ak fun k hk=> by
  obtain ⟨e1,e2,e3⟩:=hok k hk;rw [hUS];have e4:E.usr X (k+1)=((E.ver (E.pub (E.jY (E.usr X k).1 1).2.2 (E.jY (E.usr X k).1 1).1).2.2 (E.jY (E.usr X k).1 1).1).2.2,(E.usr X k).2.1++ [⟨pF k,(E.pub (E.jY (E.usr X k).1 1).2.2 (E.jY (E.usr X k).1 1).1).1,(E.ver (E.pub (E.jY (E.usr X k).1 1).2.2 (E.jY (E.usr X k).1 1).1).2.2 (E.jY (E.usr X k).1 1).1).1⟩],(E.usr X k).2.2++ [(E.jY (E.usr X k).1 1).1]):=rfl;obtain ⟨⟨d1,d2,d3⟩,hD⟩:∃D,D=E.jY (E.usr X k).1 1:=⟨_,rfl⟩
  rw [<-hD] at e1 e2 e3 e4
  dsimp only at e1 e2 e3 e4
  obtain ⟨⟨p1,p2,p3⟩,hP⟩:∃D,D=E.pub d3 d1:=⟨_,rfl⟩
  rw [<-hP] at e2 e3 e4
  dsimp only at e2 e3 e4
  obtain ⟨⟨v1,v2,v3⟩,hV⟩:∃D,D=E.ver p3 d1:=⟨_,rfl⟩
  rw [<-hV] at e3 e4
  dsimp only at e3 e4
  subst e1 e2 e3;exact ⟨d1,d3,p1,p3,v1,v3,hD.symm,hP.symm,hV.symm,e4⟩
 rw [<-hUS];have H:=ak h;clear h hok hz hUS
 go_enter Tryz.func45,Tryz.ntmps45
 go_upto_region 4 with (fail);refine aD (fun w1=> (∀i,i<5->w1.cell? ⟨w.heap.size,i,none⟩=some (.string (pF i)))/\w.heap.size<w1.heap.size/\Below w.heap.size w w1) ⟨fun i hi=> (cell_of_row _ _ i _ _ (0,0) (heap_alloc_new w _)).trans ?_,by simp,(bN _ _).alloc (bA _) _⟩ ?_
 ·rcases (by omega:i=0\/i=1\/i=2\/i=3\/i=4) with rfl | rfl | rfl | rfl | rfl<;> rfl
 rintro w1 ⟨k1,s1,b1⟩;have K1:=ak k1;have S1:=ak s1;have B1:=ak b1;have HN:Hid (¬ (w.heap.size=p\/F w.heap.size)):=ak fun hh=> Nat.lt_irrefl _ (E.lt H.out hh);obtain ⟨x15,hx⟩:∃x,x=w.heap.size:=⟨_,rfl⟩
 have HX:=ak hx;rw [<-hx] at K1 S1 HN ⊢;clear k1 s1 b1 hx
 go_loopw [5,6,17] (fun vr vs i wr=> ∃k:Nat,k<=5/\i=.int .i64 (k:Int)/\∃Fk qr qs,rF E w1 p F wr (US k).1 Fk vr vs (US k).2.1 (US k).2.2 qr qs) (fun _ _ i _=> 5 - (intOf i).toNat)
 case atStart=> exact ⟨0,iY _,rfl,F,fun _ _=> undef,fun _ _=> undef,by rw [HU0.out];exact ⟨E.below H.out (HX.out▸B1.out),.nil,.nil,fun b hb=> (by cases hb),fun b hb=> (by cases hb),fun b hb=> (by cases hb),ku.refl _ _ _,fun b hb=> .inl hb⟩⟩
 case round=>
  obtain ⟨k,hk,rfl,Fk,qr,qs,hI⟩:=hrel;have I:=ak hI;obtain ⟨ar,cr,er,_,_⟩:=hI.ro.os.m.slice;subst er;obtain ⟨as_,cs,es,_,_⟩:=hI.ss.os.m.slice;subst es;clear hI;by_cases hlt:k<5
  ·obtain ⟨d1,d3,p1,p3,v1,v3,hD,hP,hV,hN⟩:=HNX.out k hlt;have HNE:=ak hN;have HCD:=ak (E.acX 1 I.out.m (gQ (AQ.out k hk) (by decide)));rw [hD] at HCD;have HZ1:Hid (E.sz d3<=820/\E.sz p3<=821):=ak (by
    have h0:=AQ.out k hk;have h1:=E.szD (US k).1 1;have h2:=E.szP d3 d1;rw [hD] at h1;rw [hP] at h2
    dsimp only at h1 h2
    omega)
   have ZY:=ak (fun (w1:World) (F1:Nat->Prop) (v1:Value) (m1:E.M w1 p F1 d3) (b1:dK F1 w1 v1 d1)=> E.Yy m1 b1 (gQ HZ1.out.1 (by decide)));rw [hP] at ZY;have HCV:=ak (fun (w1:World) (F1:Nat->Prop) (v1:Value) (m1:E.M w1 p F1 p3) (b1:dK F1 w1 v1 d1)=> E.Yx m1 b1 (gQ HZ1.out.2 (by decide)));rw [hV] at HCV;have c5:wr.cell? ⟨x15,k,none⟩=some (.string (pF k)):=(I.out.ch.kV.cell (p:=⟨x15,k,none⟩) S1.out HN.out).trans (K1.out k hlt);have HK:=ak hlt;clear hD hP hV hN hk;go_wp2_with fail;refine HCD.out.mono ?_;rintro e w2 ⟨u2,rfl,F2,m2,y2,ch2,f2⟩;have I2:=ak (I.out.step m2 ch2 f2);have Y2:=ak y2;obtain ⟨a2,c2,e2⟩:=y2.slice;subst e2;clear m2 y2 ch2 f2 c5;go_wp2_with fail;refine (ZY.out _ _ _ I2.out.m Y2.out).mono ?_;rintro e w3 ⟨u3,rfl,F3,m3,y3,JH,f3⟩;have I3:=ak (I2.out.step m3 JH f3);have Y23:=ak (Y2.out.xD JH f3);have Y3:=ak y3;obtain ⟨a3,c3,e3⟩:=y3.slice;subst e3;clear m3 y3 JH f3;go_wp2_with fail;refine (HCV.out _ _ _ I3.out.m Y23.out).mono ?_;rintro e w4 ⟨u4,rfl,F4,m4,y4,ch4,f4⟩;have I4:=ak (I3.out.step m4 ch4 f4);have Y24:=ak (Y23.out.xD ch4 f4);have Y34:=ak (Y3.out.xD ch4 f4);have Y4:=ak y4;obtain ⟨a4,c4,e4⟩:=y4.slice;subst e4;have ZV:Hid ((US k).2.1.length<=5):=ak (by rw [(HLN.out k).1];omega);have HL2:Hid ((US k).2.2.length<=5):=ak (by rw [(HLN.out k).2];omega);clear m4 y4 ch4 f4
   go_wp2_with (first
    | (at_builtin;refine lu (y:=fun i=> if i=0 then .string (pF k) else if i=1 then .slice a3 p1.length c3 else .slice a4 v1.length c4) rfl _ _ rfl rfl (by rfl) I4.out.ro.os (by decide) Tryz.underlying57 Tryz.infoPs rfl rfl (fun i hi=> by rcases (by omega:i=0\/i=1\/i=2) with rfl | rfl | rfl;(· exact ⟨rfl,fun x e=> by cases e⟩);(· exact ⟨rfl,fun x e=> by cases e⟩);exact ⟨rfl,fun x e=> by cases e⟩) (fun z hz=> by simp [Value.cells] at hz;rcases hz with rfl | rfl<;> exact fun x e=> by cases e) (by have:=ZV.out;unfold maxLen;omega) (by have:=ZV.out;omega) ?_;intro v6 w6 ho6 hc6 hp6;have I6:=ak (I4.out.akd (a:=⟨pF k,p1,v1⟩) ho6 hc6 hp6 ⟨rfl,Y34.out,Y4.out⟩);have Y26:=ak (Y24.out.Nf hc6 I4.out.ro.os.z);clear ho6 hc6 hp6)
    | (at_builtin;refine lu (y:=fun _=> .slice a2 d1.length c2) rfl _ _ rfl rfl (by rfl) I6.out.ss.os (by decide) Tryz.underlying55 Tryz.infoBs rfl rfl (fun i hi=> ⟨rfl,fun x e=> by cases e⟩) (fun z hz=> by simp [Value.cells] at hz;subst hz;exact fun x e=> by cases e) (by have:=HL2.out;unfold maxLen;omega) (by have:=HL2.out;omega) ?_;intro v8 w8 ho8 hc8 hp8;have I8:=ak (I6.out.akc (x:=d1) ho8 hc8 hp8 Y26.out);clear ho8 hc8 hp8))
   go_roundw
   case rel=> exact ⟨k+1,HK.out,by go_num,F4,_,_,by rw [HNE.out];exact I8.out⟩
   case measure=> have:=HK.out;simp [intOf] <;> omega
  ·obtain rfl:k=5:=by omega
   clear hlt hk;go_wp2
   go_ret3
   exact ⟨_,_,rfl,Fk,qr,qs,I.out.base (HX.out▸B1.out)⟩
end
section
variable {B : Nat} {w w' w0 w1 w2 w3 : World} {p : Nat} {F F' F0 : Nat -> Prop} {E : mP B} {X : E.σ} {z : Nat -> Value} {P : nT} {v : Value} {s : List Int}
theorem zX (h:E.M w p F X) (hP:Df F w z P) (hs:dK F w v s) (hl:s.length<=300) (hz:E.sz X<=890):Calls Tryz.prog 50 #[.pointer (some ⟨p,0,none⟩),.agg (fC 3 z),v] w fun e w'=> ∃u,e=.returned (.tuple #[u,.int .i64 (E.yJ X P.pb s).2.1])/\E.ZO w p F u (E.yJ X P.pb s) w':=by
 have HC:=ak (fun (w1:World) (b1:Below w.heap.size w w1)=> E.acV (E.below h b1) (hP.z1.below b1) (hs.below b1) hl (by omega:E.sz X<=900));obtain ⟨R,hR⟩:∃R,R=E.yJ X P.pb s:=⟨_,rfl⟩
 rw [<-hR] at HC ⊢;obtain ⟨ap,cp,e1⟩:=hP.z1.slice;rw [e1] at HC;have Wj:=ak e1;obtain ⟨av,cv,rfl⟩:=hs.slice;obtain ⟨R1,R2,R3⟩:=R
 dsimp only at HC ⊢
 obtain ⟨n,hn⟩:∃n,n=P.pb.length:=⟨_,rfl⟩
 rw [<-hn] at HC Wj;clear h hP hs hl hz hR e1 hn
 go_enter Tryz.func50,Tryz.ntmps50
 go_upto_region 1 with (fail);refine aD (fun w1=> w1.cell? ⟨w.heap.size,1,none⟩=some (.slice ap n cp)/\Below w.heap.size w w1) ⟨((iW.new (n:=3) (z:=z)).2 1 (by decide)).trans (by rw [Wj.out]),(bN _ _).alloc (bA _) _⟩ ?_;rintro w1 ⟨k1,b1⟩;have B1:=ak b1;clear b1;go_wp2_with fail;refine (HC.out w1 B1.out).mono ?_;rintro e w2 ⟨u,rfl,F',m,y,ch,fo⟩;have HR:Hid (E.ZO w p F u (R1,R2,R3) w2):=ak ⟨F',m,y,(ku.of_below B1.out F).trans ch fun b h=> .inl h,fun b h=> (fo b h).imp id fun h=> gQ B1.out.size h⟩;obtain ⟨au,cu,rfl⟩:=y.slice;clear m y ch fo k1;go_wp2;go_ret2;exact ⟨_,rfl,HR.out⟩
end
theorem Tryz.sizeBs:(Tryz.prog.info? 23).map (·.size)=some 1:=by kernel_rfl
section
variable {B : Nat} {w w' w0 w1 w2 w3 : World} {p m : Nat} {F F' F0 : Nat -> Prop} {v u vr vs vd vd' vl : Value} {x l : List Int} {z : Nat -> Value} {qr qs qd : Nat -> Nat -> Value} {E : mP B} {X : E.σ} {ro : List nT} {ss : List (List Int)} {D : List AL} {d : AL} {f g : Nat -> Nat} {rp sp : Nat -> List Int}
variable {R : List Int × Int × E.σ} {x12 : Nat} {zd : Nat -> Value}
end
end Go.Proofs.YtpcjekgfnfjbpaaGreat
