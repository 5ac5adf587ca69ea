/-
  Part 28 of the texts that the proof of EscrowWrong rests on, one after the other. Conditions: named in each theorem.
-/
import Derived.Test.YtpcjekgfnfjbpaaGreatPkEscrowWrong27
import Derived.Deep.LoopGhost
import Derived.Laws.IdiomStrings
set_option linter.unusedVariables false
set_option linter.unusedSimpArgs false
set_option maxRecDepth 100000
set_option maxHeartbeats 12800000
namespace Go.Proofs.YtpcjekgfnfjbpaaGreat
open Go.RowKit Go.aG Go.ChangeShapes Go.Maps
attribute [local go_sem ↓] Go.wp_at_zero Go.wp_at_succ
section
variable {B : Nat} {w w' w1 w2 w3 : World} {p q : Nat} {F F' G G' : Nat → Prop} {sd : Nat → Int} {n : Nat} {v u v' : Value} {l l' : List Int} {S : TS}
theorem fA.DL (h:fA B w p F S):p<w.heap.size∧B≤p:=by obtain ⟨q,G,h,_⟩:=h;exact ⟨h.r.row.lt,h.hp⟩
end
end Go.Proofs.YtpcjekgfnfjbpaaGreat
namespace Go.Proofs.YtpcjekgfnfjbpaaGreat
open Go.RowKit Go.aG Go.ChangeShapes Go.Maps
attribute [local go_sem ↓] Go.wp_at_zero Go.wp_at_succ
section
variable {B : Nat} {w w' w1 w2 w3 : World} {p q : Nat} {F F' G G' : Nat → Prop} {sd : Nat → Int} {n : Nat} {v u v' : Value} {l l' : List Int} {S S' : TS}
theorem nR {n m:Nat} (hn:n≤1000000) (hm:m≤1000000) (h:aR n=aR m):n=m:=by
 have h1:=(jB (n:=(n:Int)) (by omega) (by omega)).2
 have h2:=(jB (n:=(m:Int)) (by omega) (by omega)).2
 rw [h] at h1
 omega
theorem mM (h:S.Ok) {t:Tm} (ht:dF S t=true):∃k:Nat,(dP S t).1=k∧(S.put t).l[k]? =some t∧k<(S.put t).l.length:=by
 unfold dP TS.put
 rw [if_pos ht]
 by_cases hin:t ∈ S.l
 ·rw [if_pos hin,if_neg (fun h=> h.2 hin)]
  exact ⟨mP S.l t,rfl,gP hin,jL hin⟩
 ·rw [if_neg hin,if_pos ⟨ht,hin⟩]
  refine ⟨S.l.length,rfl,?_,by rw [gZ];omega⟩
  show (S.l++ [t])[S.l.length]? =some t
  rw [List.getElem?_append_right (Nat.le_refl _),Nat.sub_self]
  rfl
theorem iD (t:Tm):S.l <+:(S.put t).l∧S.tx <+:(S.put t).tx:=by
 unfold TS.put
 split
 ·exact ⟨List.prefix_append _ _,List.prefix_refl _⟩
 ·exact ⟨List.prefix_refl _,List.prefix_refl _⟩
theorem twin (h:S.Ok) {m k:Nat} {t:Tm} (h1:S.l[m]? =some t) (h2:S.l[k]? =some t):m=k:=by
 have e1:=mO h.nd h1
 have e2:=mO h.nd h2
 omega
end
end Go.Proofs.YtpcjekgfnfjbpaaGreat
namespace Go.Proofs.YtpcjekgfnfjbpaaGreat
open Go.RowKit Go.aG Go.ChangeShapes Go.Maps
section
variable {B : Nat} {w w' : World} {p : Nat} {F : Nat → Prop} {v u : Value} {S S' : TS} {l l' : List Int} {r : TA}
theorem oG (k:Int) (S:TS) (l:List Int):(dJ k S l).2.2.l.length≤S.l.length+1:=by
 unfold dJ
 split
 ·exact (gN _ _).1
 ·exact Nat.le_succ _
theorem uj (k:Int) (S:TS) (a b:List Int):(fO k S a b).2.2.l.length≤S.l.length+1:=by
 unfold fO
 split
 ·split
  ·exact Nat.le_succ _
  ·exact (gN _ _).1
 ·exact Nat.le_succ _
theorem tq (S:TS) (s:Int):(fJ S s).2.2.l.length≤S.l.length+1:=by
 unfold fJ
 split
 ·show (S.draw s).l.length≤_
  unfold TS.draw
  split
  ·exact Nat.le_of_eq (gZ _ _)
  ·exact Nat.le_succ _
 ·exact Nat.le_succ _
theorem kW.res (h:kW B w p F u r w'):∃F',fA B w' p F' r.2.2∧aT F' w' u r.1∧dV p F w w'∧∀b,F' b→F b∨w.heap.size≤b:=by
 obtain ⟨F',h1,h2,h3,h4⟩:=h
 exact ⟨F',h1,h2,dV.zC h3,h4⟩
def aF (B:Nat):bU B where
 σ:=TS
 M:=fun w p F X=> fA B w p F X
 sz:=fun X=> X.l.length
 pub:=dJ 2
 ver:=dJ 3
 nS:=aO
 below:=fun h hb=> fA.below h hb
 lt:=fun h hb=> hb.elim (fun e=> e▸(fA.DL h).1) (fA.lt h)
 hi:=fun h hb=> hb.elim (fun e=> e▸(fA.DL h).2) (fA.hi h)
 keep:=fun h hc _ hF=> fA.keep h hc hF
 BJ:=fun X l=> oG 2 X l
 Ew:=fun X l=> oG 3 X l
 Ag:=fun h hb hl=> (nX h hb hl).mono fun e w' ⟨u,h1,h2⟩=> ⟨u,h1,h2.res⟩
 Af:=fun h hb hl=> (kL h hb hl).mono fun e w' ⟨u,h1,h2⟩=> ⟨u,h1,h2.res⟩
 CK:=fun h hb hb' _ hl=> fF h hb hb' (Nat.le_trans hl (by decide))
 dU:=fJ
 kF:=fO 4
 Ey:=fun X s=> tq X s
 Gz:=fun X a b=> uj 4 X a b
 CO:=fun s h hl=> (sJ h s hl).mono fun e w' ⟨u,h1,h2⟩=> ⟨u,h1,h2.res⟩
 CJ:=fun h hb hb' _ hl=> (sH h hb hb' hl).mono fun e w' ⟨u,h1,h2⟩=> ⟨u,h1,h2.res⟩
def fE:Nat→TS
 | 0=> ⟨[], []⟩
 | n+1=> ⟨(fE n).l++ [(1,1,(n:Int)),(2,3 * (n:Int),0),(3,3 * (n:Int),0)], []⟩
def psT (i:Nat):eZ:=⟨aJ i,aR ((3 * i+1:Nat):Int),aR ((3 * i+2:Nat):Int)⟩
def aK (i:Nat):List Int:=aR ((3 * i:Nat):Int)
def bE:Nat→List eZ
 | 0=> []
 | n+1=> bE n++ [psT n]
def pI:Nat→List (List Int)
 | 0=> []
 | n+1=> pI n++ [aK n]
theorem jC (n:Nat) (hn:n<5):∃A C,fJ (fE n) 1=(aK n,0,A)∧dJ 2 A (aK n)=((psT n).pb,0,C)∧dJ 3 C (aK n)=((psT n).vf,0,fE (n+1)):=by
 refine ⟨⟨(fE n).l++ [(1,1,(n:Int))], []⟩,⟨(fE n).l++ [(1,1,(n:Int)),(2,3 * (n:Int),0)], []⟩,?_⟩
 rcases (by omega:n=0∨n=1∨n=2∨n=3∨n=4) with rfl | rfl | rfl | rfl | rfl<;> exact ⟨by kernel_rfl,by kernel_rfl,by kernel_rfl⟩
theorem qU (B:Nat):∀n,n≤5→(aF B).usr ⟨[], []⟩ n=(fE n,bE n,pI n)
 | 0,_=> rfl
 | n+1,hn=> by
  have h0:=qU B n (by omega)
  obtain ⟨A,C,h1,h2,h3⟩:=jC n (by omega)
  have e1:(aF B).dU ((aF B).usr ⟨[], []⟩ n).1 1=(aK n,0,A):=by rw [h0];exact h1
  have e2:(aF B).pub A (aK n)=((psT n).pb,0,C):=h2
  have e3:(aF B).ver C (aK n)=((psT n).vf,0,fE (n+1)):=h3
  show (((aF B).ver ((aF B).pub ((aF B).dU ((aF B).usr ⟨[], []⟩ n).1 1).2.2 ((aF B).dU ((aF B).usr ⟨[], []⟩ n).1 1).1).2.2 ((aF B).dU ((aF B).usr ⟨[], []⟩ n).1 1).1).2.2,_,_)= _
  rw [e1]
  show (((aF B).ver ((aF B).pub A (aK n)).2.2 (aK n)).2.2,((aF B).usr ⟨[], []⟩ n).2.1++ [⟨aJ n,((aF B).pub A (aK n)).1,((aF B).ver ((aF B).pub A (aK n)).2.2 (aK n)).1⟩],((aF B).usr ⟨[], []⟩ n).2.2++ [aK n])= _
  rw [e2]
  show (((aF B).ver C (aK n)).2.2,((aF B).usr ⟨[], []⟩ n).2.1++ [⟨aJ n,(psT n).pb,((aF B).ver C (aK n)).1⟩],((aF B).usr ⟨[], []⟩ n).2.2++ [aK n])= _
  rw [e3,h0]
  rfl
theorem qV (B:Nat):(aF B).yA ⟨[], []⟩:=fun n hn=> by
 have h0:=qU B n (by omega)
 obtain ⟨A,C,h1,h2,h3⟩:=jC n hn
 have e1:(aF B).dU ((aF B).usr ⟨[], []⟩ n).1 1=(aK n,0,A):=by rw [h0];exact h1
 have e2:(aF B).pub A (aK n)=((psT n).pb,0,C):=h2
 have e3:(aF B).ver C (aK n)=((psT n).vf,0,fE (n+1)):=h3
 rw [e1]
 refine ⟨rfl,?_,?_⟩
 ·show ((aF B).pub A (aK n)).2.1=0
  rw [e2]
 ·show ((aF B).ver ((aF B).pub A (aK n)).2.2 (aK n)).2.1=0
  rw [e2]
  show ((aF B).ver C (aK n)).2.1=0
  rw [e3]
theorem rR {i j:Nat} (hi:i<5) (hj:j<5) (h:aJ i=aJ j):i=j:=by
 have h:(aJ i).data=(aJ j).data:=by rw [h]
 rcases (by omega:i=0∨i=1∨i=2∨i=3∨i=4) with rfl | rfl | rfl | rfl | rfl<;> rcases (by omega:j=0∨j=1∨j=2∨j=3∨j=4) with rfl | rfl | rfl | rfl | rfl<;> first | rfl | exact absurd h (by decide)
theorem iC {i:Nat} (hi:i<5):(bE 5)[i]? =some (psT i):=by
 rcases (by omega:i=0∨i=1∨i=2∨i=3∨i=4) with rfl | rfl | rfl | rfl | rfl<;> rfl
theorem gy {i:Nat} (hi:i<5):(pI 5)[i]? =some (aK i):=by
 rcases (by omega:i=0∨i=1∨i=2∨i=3∨i=4) with rfl | rfl | rfl | rfl | rfl<;> rfl
theorem uh {i:Nat} (hi:i<5):(fE 5).l[3 * i]? =some (1,1,(i:Int))∧(fE 5).l[3 * i+1]? =some (2,((3 * i:Nat):Int),0)∧(fE 5).l[3 * i+2]? =some (3,((3 * i:Nat):Int),0):=by
 rcases (by omega:i=0∨i=1∨i=2∨i=3∨i=4) with rfl | rfl | rfl | rfl | rfl<;> exact ⟨rfl,rfl,rfl⟩
theorem zw {i:Nat} (hi:i<5):fB (bE 5) (aJ i)=(psT i,true):=by
 have e:kH ((bE 5).map (·.nm)) (aJ i)=i:=jr (by rw [List.getElem?_map,iC hi];rfl) fun j a hj ha=> by
  rw [List.getElem?_map,iC (by omega)] at ha
  obtain rfl:aJ j=a:=Option.some.inj ha
  exact fun h=> by have:=rR (by omega) hi h;omega
 unfold fB
 rw [e,iC hi]
end
end Go.Proofs.YtpcjekgfnfjbpaaGreat
namespace Go.Proofs.YtpcjekgfnfjbpaaGreat
open Go.RowKit Go.aG Go.ChangeShapes Go.Maps
section
variable {B : Nat} {S S' S0 S1 S2 : TS} {s b x y : List Int} {i t n : Nat} {D : List fq} {h : jy} {d : fq}
structure sj (S:TS):Prop where
 ok:S.Ok
 pre:(fE 5).l <+:S.l
 len:S.l.length≤900
structure oW (S S':TS):Prop where
 pre:S.l <+:S'.l
 new:∀(m:Nat) t,S.l.length≤m→S'.l[m]? =some t→t.1=2∨t.1=3
theorem oW.refl (S:TS):oW S S:=⟨List.prefix_refl _,fun m t hm ht=> absurd (List.getElem?_eq_some_iff.1 ht).1 (Nat.not_lt.2 hm)⟩
theorem oW.trans (h:oW S S1) (h':oW S1 S2):oW S S2:=⟨h.pre.trans h'.pre,fun m t hm ht=> by
 by_cases hl:S1.l.length≤m
 ·exact h'.new m t hl ht
 ·have hl:m<S1.l.length:=by omega
  have e:=eT h'.pre (List.getElem?_eq_getElem hl)
  rw [ht] at e
  exact h.new m t hm (by rw [List.getElem?_eq_getElem hl,Option.some.inj e])⟩
theorem oW.put {k:Int} {a c:Int} (hk:k=2∨k=3):oW S (S.put (k,a,c)):=⟨(iD _).1,fun m t hm ht=> by
 unfold TS.put at ht
 split at ht
 ·have hm':=(List.getElem?_eq_some_iff.1 ht).1
  have hl:(S.add (k,a,c)).l.length=S.l.length+1:=gZ _ _
  obtain rfl:m=S.l.length:=by omega
  have e:(S.add (k,a,c)).l[S.l.length]? =some (k,a,c):=by
   show (S.l++ [(k,a,c)])[S.l.length]? = _
   rw [List.getElem?_append_right (Nat.le_refl _),Nat.sub_self]
   rfl
  rw [e] at ht
  rw [←Option.some.inj ht]
  exact hk
 ·exact absurd (List.getElem?_eq_some_iff.1 ht).1 (Nat.not_lt.2 hm)⟩
theorem sj.Fy (h:sj S) (hi:i<5):S.l[3 * i+1]? =some (2,((3 * i:Nat):Int),0):=eT h.pre (uh hi).2.1
theorem sj.at2 (h:sj S) (hi:i<5):S.l[3 * i+2]? =some (3,((3 * i:Nat):Int),0):=eT h.pre (uh hi).2.2
theorem sj.lt (h:sj S) (hi:i<5):3 * i<S.l.length:=by have:=(List.getElem?_eq_some_iff.1 (h.Fy hi)).1;omega
theorem EI (B:Nat) (h:sj S) (hl:S.l.length≤800) (hi:i<5) (ht:t<S.l.length):((aF B).is S (psT i) (aR (t:Int))).1=decide (aR (t:Int)=aK i)∧oW S ((aF B).is S (psT i) (aR (t:Int))).2∧((aF B).is S (psT i) (aR (t:Int))).2.Ok∧((aF B).is S (psT i) (aR (t:Int))).2.l.length≤S.l.length+2:=by
 have e1:dJ 2 S (aR t)=(aR (dP S (2,t,0)).1,0,S.put (2,t,0)):=by unfold dJ;rw [bZ ht (by omega)]
 obtain ⟨k1,p1,p2,p3⟩:=mM h.ok (qz (k:=2) (by decide) ht)
 have hl1:=(gN S (2,(t:Int),0)).1
 have ht1:t<(S.put (2,(t:Int),0)).l.length:=Nat.lt_of_lt_of_le ht (iD _).1.length_le
 have e2:dJ 3 (S.put (2,t,0)) (aR t)=(aR (dP (S.put (2,t,0)) (3,t,0)).1,0,(S.put (2,t,0)).put (3,t,0)):=by unfold dJ;rw [bZ ht1 (by omega)]
 have ok1:=h.ok.put (2,(t:Int),0)
 obtain ⟨k2,r1,r2,r3⟩:=mM ok1 (qz (k:=3) (by decide) ht1)
 have hl2:=(gN (S.put (2,(t:Int),0)) (3,(t:Int),0)).1
 have GA:=ok1.put (3,(t:Int),0)
 have hA:(aF B).pub S (aR t)=(aR (k1:Int),0,S.put (2,t,0)):=e1.trans (by rw [p1])
 have hC:(aF B).ver (S.put (2,t,0)) (aR t)=(aR (k2:Int),0,(S.put (2,t,0)).put (3,t,0)):=e2.trans (by rw [r1])
 have hIs:(aF B).is S (psT i) (aR (t:Int))=(decide ((0:Int)=0∧(0:Int)=0∧aR (k1:Int)=(psT i).pb∧aR (k2:Int)=(psT i).vf),(S.put (2,t,0)).put (3,t,0)):=by
  unfold Eng.is
  rw [hA]
  dsimp only
  rw [hC]
  rfl
 rw [hIs]
 refine ⟨decide_eq_decide.2 ?_,(oW.put (.inl rfl)).trans (oW.put (.inr rfl)),GA,by show ((S.put (2,(t:Int),0)).put (3,(t:Int),0)).l.length≤_;omega⟩
 have hlt:=h.lt hi
 have a1:=eT (iD (S:=S) (2,(t:Int),0)).1 (h.Fy hi)
 have a2:=eT ((iD (S:=S) (2,(t:Int),0)).1.trans (iD (S:=S.put (2,(t:Int),0)) (3,(t:Int),0)).1) (h.at2 hi)
 constructor
 ·rintro ⟨_,_,h1,_⟩
  have hk:k1=3 * i+1:=nR (by omega) (by omega) h1
  subst hk
  rw [p2] at a1
  have:=(Prod.mk.inj (Prod.mk.inj (Option.some.inj a1)).2).1
  obtain rfl:t=3 * i:=by omega
  rfl
 ·intro h1
  have hk:t=3 * i:=nR (by omega) (by omega) h1
  subst hk
  refine ⟨rfl,rfl,?_,?_⟩
  ·rw [twin ok1 p2 a1];rfl
  ·rw [twin GA r2 a2];rfl
theorem lM (hp:S.l <+:S'.l) (h:bC S b=some n):bC S' b=some n:=by
 unfold bC at h ⊢
 split at h
 ·rename_i hc
  rw [if_pos ⟨hc.1,hc.2.1,hc.2.2.1,Int.lt_of_lt_of_le hc.2.2.2 (by have:=hp.length_le;omega)⟩]
  exact h
 ·cases h
theorem jD (hS:S.Ok) (hn:oW S S') (hb:okB b) (hs:okB s) (hy:bC S s=some n):aO S s b=(y,0) ↔ aO S' s b=(y,0):=by
 have hy':=lM hn.pre hy
 have hnl:=cZ hs hy
 cases hb1:bC S b with
 | some m=>
  have hb2:=lM hn.pre hb1
  have hml:=cZ hb hb1
  have e:dx S'.l m=dx S.l m:=(qZ (eT hn.pre (dw hml)))
  have ek:lQ S' m=lQ S m:=by unfold lQ;rw [e]
  unfold aO
  rw [hy,hb1,hy',hb2]
  simp only [ek,e]
  by_cases hk:lQ S m=4
  ·obtain ⟨j,g1,g2⟩:∃j:Nat,(dx S.l m).2.1=j∧j<m:=by
    have hk:(dx S.l m).1=4:=hk
    have:=hS.ok m _ (dw hml)
    rcases this with h | h | ⟨_,⟨a,g1,g2,_⟩,_⟩ | h | h | h | h
    ·exfalso;have:=h.1;omega
    ·exfalso;have:=h.1;omega
    ·exact ⟨a,g1,g2⟩
    ·exfalso;have:=h.1;omega
    ·exfalso;have:=h.1;omega
    ·exfalso;have:=h.1;omega
    ·exfalso;have:=h.1;omega
   have hjl:j<S.l.length:=Nat.lt_trans g2 hml
   rw [g1,gV (dw hjl),gV (eT hn.pre (dw hjl))]
  ·rw [if_neg (fun h=> hk (And.left h)),if_neg (fun h=> hk (And.left h))]
 | none=>
  have h1:aO S s b=([],11):=by unfold aO;rw [hy,hb1]
  rw [h1]
  constructor
  ·intro e;cases e
  ·intro e
   exfalso
   cases hb2:bC S' b with
   | none=>
    have h2:aO S' s b=([],11):=by unfold aO;rw [hy',hb2]
    rw [h2] at e
    cases e
   | some m=>
    have hml:=cZ hb hb2
    have hge:S.l.length≤m:=by
     refine Nat.not_lt.1 fun hlt=> ?_
     have hc:=sP hb hb2
     unfold bC at hb1 hb2
     split at hb2
     ·rename_i hq
      rw [if_pos ⟨hq.1,hq.2.1,hq.2.2.1,by rw [hc];omega⟩] at hb1
      cases hb1
     ·cases hb2
    have hk:=hn.new m _ hge (dw hml)
    have h2:aO S' s b=([],20):=by
     unfold aO
     rw [hy',hb2]
     have hk:lQ S' m=2∨lQ S' m=3:=hk
     exact if_neg fun h=> by have:=h.1;omega
    rw [h2] at e
    cases e
theorem wZ (hS:S.Ok) (hb:okB b) (h:(aO S s b).2=0):∃t:Nat,t<S.l.length∧(aO S s b).1=aR (t:Int):=by
 unfold aO at h ⊢
 cases h1:bC S s with
 | none=> rw [h1] at h;exact absurd (show (11:Int)=0 from h) (by decide)
 | some n=>
  cases h2:bC S b with
  | none=> rw [h1,h2] at h;exact absurd (show (11:Int)=0 from h) (by decide)
  | some m=>
   rw [h1,h2] at h
   simp only at h ⊢
   split at h
   ·rename_i hc
    have hm:=cZ hb h2
    obtain ⟨j,g1,g2⟩:=rO hS hm (.inl hc.1)
    rw [if_pos hc]
    exact ⟨j,Nat.lt_trans g2 hm,by rw [g1]⟩
   ·exact absurd (show (20:Int)=0 from h) (by decide)
theorem zm (B:Nat) (h:sj S) (hl:S.l.length≤800) (hi:i<5) (hb:okB b):oW S ((aF B).take S (psT i) s b).2.2∧((aF B).take S (psT i) s b).2.2.Ok∧(aO S s b=(aK i,0)→((aF B).take S (psT i) s b).1=aK i∧((aF B).take S (psT i) s b).2.1=0)∧(aO S s b≠(aK i,0)→((aF B).take S (psT i) s b).2.1≠0):=by
 obtain ⟨U,hU⟩:∃U,U=aO S s b:=⟨_,rfl⟩
 have e0:(aF B).take S (psT i) s b=if U.2=0 then if ((aF B).is S (psT i) U.1).1=true then (U.1,0,((aF B).is S (psT i) U.1).2) else ([],44,((aF B).is S (psT i) U.1).2) else ([],U.2,S):=by rw [hU];rfl
 rw [e0,←hU]
 by_cases h0:U.2=0
 ·obtain ⟨t,ht,hv⟩:=wZ h.ok hb (hU▸h0)
  rw [←hU] at hv
  obtain ⟨g1,g2,g3,_⟩:=EI B h hl hi ht
  rw [if_pos h0,hv]
  by_cases hd:aR (t:Int)=aK i
  ·rw [g1,decide_eq_true hd,if_pos rfl]
   exact ⟨g2,g3,fun _=> ⟨hd,rfl⟩,fun hne=> absurd (Prod.ext (hv.trans hd) h0) hne⟩
  ·rw [g1,decide_eq_false hd,if_neg (by decide)]
   exact ⟨g2,g3,fun e=> absurd (hv.symm.trans (congrArg Prod.fst e)) hd,fun _=> (show (44:Int)≠0 by decide)⟩
 ·rw [if_neg h0]
  exact ⟨oW.refl S,h.ok,fun e=> absurd (congrArg Prod.snd e) h0,fun _=> h0⟩
def GI (nm:ByteArray):Nat:=kH ((bE 5).map (·.nm)) nm
theorem qB (hi:i<5):GI (aJ i)=i:=jr (by rw [List.getElem?_map,iC hi];rfl) fun j a hj ha=> by
 rw [List.getElem?_map,iC (by omega)] at ha
 obtain rfl:aJ j=a:=Option.some.inj ha
 exact fun h=> by have:=rR (by omega) hi h;omega
def aQ (S:TS) (h:jy) (d:fq):Bool:=decide (d.ta=h.nm) && !decide (aO S h.sc d.b=(aK (GI d.fr),0))
def jc (D:List fq):Prop:=∀d ∈ D,(∃a,a<5∧d.fr=aJ a)∧(∃c,c<5∧d.ta=aJ c)∧okB d.b
def xE (h:jy):Prop:=∃i,i<5∧h=⟨aJ i,aK i⟩
structure JT (S0:TS) (s:gI TS):Prop where
 np:oW S0 s.X
 ok:s.X.Ok
 ho:∀h ∈ s.out,xE h
variable {q : gI TS}
theorem mE (i:Nat):okB (aK i):=nQ _
theorem zA (E:Eng B) {ro:List eZ} {s:gI E.σ} {P:eZ} (ht:d.ta=h.nm) (hP:fB ro d.fr=(P,true)):E.one ro h s d=if (E.take s.X P h.sc d.b).2.1≠0 then ⟨(E.take s.X P h.sc d.b).2.2,s.out,true⟩ else if mX s.out d.fr=true then ⟨(E.take s.X P h.sc d.b).2.2,s.out,s.bad⟩ else ⟨(E.take s.X P h.sc d.b).2.2,s.out++ [⟨d.fr,(E.take s.X P h.sc d.b).1⟩],s.bad⟩:=by
 unfold Eng.one
 rw [if_pos ht,hP]
 simp only [Bool.true_eq_false,false_or]
theorem BL (B:Nat) (hS:sj S0) (hJ:JT S0 q) (hl:q.X.l.length≤800) (hh:xE h) (hd:(∃a,a<5∧d.fr=aJ a)∧(∃c,c<5∧d.ta=aJ c)∧okB d.b):
  JT S0 ((aF B).one (bE 5) h q d)∧((aF B).one (bE 5) h q d).bad=(q.bad || aQ S0 h d)∧(d.ta=h.nm→aQ S0 h d=false→d.fr ∈ ((aF B).one (bE 5) h q d).out.map (·.nm)):=by
 obtain ⟨⟨a,ha,hfa⟩,_,Bc⟩:=hd
 obtain ⟨i,hi,rfl⟩:=hh
 by_cases ht:d.ta=aJ i
 ·have hG:sj q.X:=⟨hJ.ok,hS.pre.trans hJ.np.pre,Nat.le_trans hl (by decide)⟩
  obtain ⟨t1,t2,t3,t4⟩:=zm B (s:=aK i) hG hl ha Bc
  have Cj:bC S0 (aK i)=some (3 * i):=bZ (hS.lt hi) (Nat.le_trans hS.len (by decide))
  have hm:=jD (y:=aK a) hS.ok hJ.np Bc (mE i) Cj
  have hf:aQ S0 ⟨aJ i,aK i⟩ d= !decide (aO S0 (aK i) d.b=(aK a,0)):=by
   unfold aQ
   rw [decide_eq_true ht,hfa,qB ha]
   rfl
  rw [hf]
  have hP:fB (bE 5) d.fr=(psT a,true):=by rw [hfa];exact zw ha
  have e0:=zA (aF B).toEng (h:=⟨aJ i,aK i⟩) (s:=q) ht hP
  by_cases hu:aO S0 (aK i) d.b=(aK a,0)
  ·obtain ⟨u1,u2⟩:=t3 (hm.1 hu)
   have e1:=e0.trans (if_neg fun h=> h u2)
   rw [decide_eq_true hu]
   by_cases hq:mX q.out d.fr=true
   ·have e2:=e1.trans (if_pos hq)
    rw [e2]
    exact ⟨⟨hJ.np.trans t1,t2,hJ.ho⟩,by simp,fun _ _=> jS.1 hq⟩
   ·have e2:=e1.trans (if_neg hq)
    rw [e2]
    refine ⟨⟨hJ.np.trans t1,t2,fun g hg=> ?_⟩,by simp,fun _ _=> by simp⟩
    rcases List.mem_append.1 hg with hg | hg
    ·exact hJ.ho g hg
    ·have hg:=List.mem_singleton.1 hg
     exact ⟨a,ha,by rw [hg,hfa];exact congrArg (jy.mk (aJ a)) u1⟩
  ·have u2:=t4 (fun e=> hu (hm.2 e))
   have e1:=e0.trans (if_pos u2)
   rw [decide_eq_false hu,e1]
   exact ⟨⟨hJ.np.trans t1,t2,hJ.ho⟩,by simp,fun _ e=> by cases e⟩
 ·have e0:(aF B).one (bE 5) ⟨aJ i,aK i⟩ q d=q:=if_neg ht
  rw [e0]
  have hf:aQ S0 ⟨aJ i,aK i⟩ d=false:=by
   unfold aQ
   rw [decide_eq_false ht]
   rfl
  rw [hf]
  exact ⟨hJ,by simp,fun e=> absurd e ht⟩
theorem yE (B:Nat) (hS:sj S0) (hJ:JT S0 q) (hD:jc D) (hh:xE h) (hl:q.X.l.length+2 * D.length≤800):∀k,k≤D.length→JT S0 ((aF B).inn (bE 5) D h q k)∧((aF B).inn (bE 5) D h q k).bad=(q.bad || (D.take k).any (aQ S0 h))∧∀(j:Nat) d,j<k→D[j]? =some d→d.ta=h.nm→aQ S0 h d=false→d.fr ∈ ((aF B).inn (bE 5) D h q k).out.map (·.nm)
 | 0,_=> ⟨hJ,by simp [Eng.inn],fun j d hj=> absurd hj (Nat.not_lt_zero _)⟩
 | k+1,hk=> by
  obtain ⟨i1,i2,i3⟩:=yE B hS hJ hD hh hl k (by omega)
  have hkl:k<D.length:=by omega
  have hd:D[k]? =some D[k] :=List.getElem?_eq_getElem hkl
  have e0:(aF B).inn (bE 5) D h q (k+1)=(aF B).one (bE 5) h ((aF B).inn (bE 5) D h q k) D[k] :=by
   show (match D[k]? with | some d=> (aF B).one (bE 5) h ((aF B).inn (bE 5) D h q k) d | none=> (aF B).inn (bE 5) D h q k)= _
   rw [hd]
  have hz:((aF B).inn (bE 5) D h q k).X.l.length≤q.X.l.length+2 * k:=Eng.mU (E:=(aF B).toEng) k
  obtain ⟨o1,o2,o3⟩:=BL B (d:=D[k]) hS i1 (by omega) hh (hD _ (List.getElem_mem hkl))
  rw [e0]
  refine ⟨o1,?_,fun j d hj hdj Ca hf=> ?_⟩
  ·rw [o2,i2,List.take_add_one,hd,List.any_append]
   simp [Bool.or_assoc]
  ·by_cases hjk:j=k
   ·subst hjk
    rw [hd] at hdj
    obtain rfl:=Option.some.inj hdj
    exact o3 Ca hf
   ·have:=i3 j d (by omega) hdj Ca hf
    rw [List.mem_map] at this ⊢
    obtain ⟨g,hg,hgn⟩:=this
    obtain ⟨t,ht⟩:=Eng.rG (aF B).toEng (bE 5) h ((aF B).inn (bE 5) D h q k) D[k]
    exact ⟨g,by rw [←ht];exact List.mem_append_left _ hg,hgn⟩
theorem yN (B:Nat) (hS:sj S0) (hJ:JT S0 q) (hD:jc D) (hDl:D.length≤10) (hq:q.bad=false) (hl:q.X.l.length≤300):∀i,i≤20→JT S0 ((aF B).all (bE 5) D q i)∧((aF B).all (bE 5) D q i).bad=(((aF B).all (bE 5) D q i).out.take i).any (fun h=> D.any (aQ S0 h))∧q.out <+:((aF B).all (bE 5) D q i).out∧∀(i':Nat) h,i'<i→((aF B).all (bE 5) D q i).out[i']? =some h→∀d ∈ D,d.ta=h.nm→aQ S0 h d=false→d.fr ∈ ((aF B).all (bE 5) D q i).out.map (·.nm)
 | 0,_=> ⟨hJ,by simp [Eng.all,hq],List.prefix_refl _,fun j d hj=> absurd hj (Nat.not_lt_zero _)⟩
 | i+1,hi=> by
  obtain ⟨i1,i2,i4,i3⟩:=yN B hS hJ hD hDl hq hl i (by omega)
  cases hh:((aF B).all (bE 5) D q i).out[i]? with
  | none=>
   have e0:(aF B).all (bE 5) D q (i+1)=(aF B).all (bE 5) D q i:=by
    show (match ((aF B).all (bE 5) D q i).out[i]? with | some h=> (aF B).inn (bE 5) D h ((aF B).all (bE 5) D q i) D.length | none=> (aF B).all (bE 5) D q i)= _
    rw [hh]
   have hle:=List.getElem?_eq_none_iff.1 hh
   rw [e0]
   refine ⟨i1,?_,i4,fun j g hj hg=> ?_⟩
   ·rw [i2,List.take_of_length_le hle,List.take_of_length_le (by omega)]
   ·have:=(List.getElem?_eq_some_iff.1 hg).1
    exact i3 j g (by omega) hg
  | some h=>
   have e0:(aF B).all (bE 5) D q (i+1)=(aF B).inn (bE 5) D h ((aF B).all (bE 5) D q i) D.length:=by
    show (match ((aF B).all (bE 5) D q i).out[i]? with | some h=> (aF B).inn (bE 5) D h ((aF B).all (bE 5) D q i) D.length | none=> (aF B).all (bE 5) D q i)= _
    rw [hh]
   have hz:((aF B).all (bE 5) D q i).X.l.length≤q.X.l.length+2 * (i * D.length):=Eng.nE (E:=(aF B).toEng) i
   have hz2:i * D.length≤19 * 10:=Nat.mul_le_mul (by omega) hDl
   obtain ⟨o1,o2,o3⟩:=yE B (q:=(aF B).all (bE 5) D q i) hS i1 hD (i1.ho h (List.mem_of_getElem? hh)) (by omega) D.length (Nat.le_refl _)
   obtain ⟨t,ht⟩:=Eng.jq (aF B).toEng (bE 5) D h ((aF B).all (bE 5) D q i) D.length
   have hil:=(List.getElem?_eq_some_iff.1 hh).1
   rw [e0]
   refine ⟨o1,?_,i4.trans ⟨t,ht⟩,fun j g hj hg d GV Ca hf=> ?_⟩
   ·rw [o2,i2,←ht,List.take_append_of_le_length (by omega),List.take_add_one,hh,List.any_append,List.take_of_length_le (Nat.le_refl _)]
    simp
   ·rw [←ht] at hg
    rw [List.getElem?_append_left (by omega)] at hg
    by_cases hji:j=i
    ·subst hji
     rw [hh] at hg
     obtain rfl:=Option.some.inj hg
     obtain ⟨m,hm⟩:=List.getElem?_of_mem GV
     exact o3 m d (List.getElem?_eq_some_iff.1 hm).1 hm Ca hf
    ·have:=i3 j g (by omega) hg d GV Ca hf
     rw [List.mem_map] at this ⊢
     obtain ⟨r,hr,hrn⟩:=this
     exact ⟨r,by rw [←ht];exact List.mem_append_left _ hr,hrn⟩
end
end Go.Proofs.YtpcjekgfnfjbpaaGreat
namespace Go.Proofs.YtpcjekgfnfjbpaaGreat
open Go.RowKit Go.aG Go.ChangeShapes Go.Maps
attribute [local go_sem ↓] Go.wp_at_zero Go.wp_at_succ
def nY (kd:Int) (sd:Nat→Int) (s:Value):Array Value:=(.int .i64 kd::(vals .u8 32 sd++ [.int .i64 0,s])).toArray
theorem zo (kd:Int) (sd:Nat→Int) (s:Value):(nY kd sd s)[0]? =some (.int .i64 kd):=rfl
theorem zn (kd:Int) (sd:Nat→Int) (s:Value) {i:Nat} (h:i<32):(nY kd sd s)[1+i]? =some (.int .u8 (sd i)):=by
 unfold nY
 rw [List.getElem?_toArray,Nat.add_comm,List.getElem?_cons_succ,List.getElem?_append_left (by simpa using h)]
 exact bG h
theorem xA (kd:Int) (sd:Nat→Int) (s:Value):(nY kd sd s)[33]? =some (.int .i64 0):=rfl
theorem xw (kd:Int) (sd:Nat→Int) (s:Value):(nY kd sd s)[34]? =some s:=rfl
theorem fM.new (w:World) (kd:Int) (sd:Nat→Int) (s:Value):fM (w.alloc (.cells (nY kd sd s) 105)) w.heap.size kd sd 0 s:=by
 have hb:=heap_alloc_new w (.cells (nY kd sd s) 105)
 have hc:=fun i=> cell_of_row _ _ i _ _ (0,0) hb
 exact ⟨⟨_,hb,rfl⟩,(hc 0).trans (zo _ _ _),fun i hi=> (hc (1+i)).trans (zn _ _ _ hi),(hc 33).trans (xA _ _ _),(hc 34).trans (xw _ _ _)⟩
theorem iM (w:World):Calls Tryz.prog 44 #[] w fun e w'=> ∃p F,e=.returned (.pointer (some ⟨p,0,none⟩))∧fA w.heap.size w' p F ⟨[], []⟩∧Below w.heap.size w w':=by
 go_enter Tryz.func44,Tryz.ntmps44
 go_wp2_with fail
 refine (uo w).mono ?_
 rintro e w1 ⟨q,G,rfl,h1,b1⟩
 have H1:=Lib.hid h1
 have B1:=Lib.hid b1
 clear h1 b1
 go_wp2
 go_ret
 have hr:=fM.new w1 2 (fun _=> 0) (.pointer (some ⟨q,0,none⟩))
 have ba:=(Below.refl w1.heap.size w1).alloc (Nat.le_refl _) (.cells (nY 2 (fun _=> 0) (.pointer (some ⟨q,0,none⟩))) 105)
 exact ⟨_,fun b=> b=w1.heap.size∨G b,rfl,⟨q,G,⟨hr,H1.out.below ba,TS.few.nil,B1.out.size,fun hg=> by have:=H1.out.lt hg;omega⟩,fun _=> Iff.rfl⟩,B1.out.trans (ba.mono B1.out.size)⟩
end Go.Proofs.YtpcjekgfnfjbpaaGreat
namespace Go.aG
open Go.RowKit
theorem om {P:Program} {o:Oper} {a:Act} {w:World} {T U:TypeId} {x y:Operand} {s t:ByteArray} (ho:o.op=.binOp .eql T x y U) (hx:a.eval x=.string s) (hy:a.eval y=.string t) (hu:P.underlying T=some .string):
  (execOp a.eval o).run P w=.ok (.value (.bool (decide (s=t)))) w:=by
 have e:=wm s t
 unfold execOp
 simp only [ho,hx,hy]
 simp [go_sem,hu,e]
end Go.aG
namespace Go.Proofs.YtpcjekgfnfjbpaaGreat
open Go.RowKit Go.aG Go.ChangeShapes Go.Maps
attribute [local go_sem ↓] Go.wp_at_zero Go.wp_at_succ
section
variable {B : Nat} {w w' w0 w1 w2 w3 : World} {p m : Nat} {F F' F0 : Nat → Prop} {v u vr vs vd vl : Value} {x l : List Int} {z : Nat → Value} {qr qs qd : Nat → Nat → Value} {E : bU B} {X : E.σ} {ro : List eZ} {ss : List (List Int)} {R : List Int × Int × E.σ}
def kY (E:bU B) (w0:World) (p:Nat) (F0:Nat→Prop) (vr vs:Value) (ro:List eZ) (ss:List (List Int)) (qr qs:Nat→Nat→Value) (R:List Int × Int × E.σ) (w:World) (v:Value):Prop:=∃F' u,v=.tuple #[u,.int .i64 R.2.1] ∧fP E w0 p F0 w R.2.2 F' vr vs ro ss qr qs∧aT F' w u R.1
def nJ (E:bU B) (w0:World) (p:Nat) (F0:Nat→Prop) (vr vs:Value) (ro:List eZ) (ss:List (List Int)) (qr qs:Nat→Nat→Value) (R:List Int × Int × E.σ) (w:World) (v:Value):Prop:=∃F',fP E w0 p F0 w R.2.2 F' vr vs ro ss qr qs∧aT F' w v R.1
theorem kY.below (h:kY E w0 p F0 vr vs ro ss qr qs R w v) (hb:Below w.heap.size w w'):kY E w0 p F0 vr vs ro ss qr qs R w' v:=by
 obtain ⟨F',u,e,h1,h2⟩:=h
 exact ⟨F',u,e,h1.below hb,h2.below hb⟩
theorem nJ.below (h:nJ E w0 p F0 vr vs ro ss qr qs R w v) (hb:Below w.heap.size w w'):nJ E w0 p F0 vr vs ro ss qr qs R w' v:=by
 obtain ⟨F',h1,h2⟩:=h
 exact ⟨F',h1.below hb,h2.below hb⟩
theorem fP.forms (g:fP E w0 p F0 w X F vr vs ro ss qr qs) (hr:ro.length=5) (hs:ss.length=5):∃gr kr gs ks,vr=.slice (some ⟨gr,0,none⟩) 5 kr∧vs=.slice (some ⟨gs,0,none⟩) 5 ks:=by
 obtain ⟨gr,kr,er,_⟩:=g.ro.os.m.form (by omega)
 obtain ⟨gs,ks,es,_⟩:=g.ss.os.m.form (by omega)
 rw [hr] at er
 rw [hs] at es
 exact ⟨gr,kr,gs,ks,er,es⟩
variable {gr kr gs ks : Nat}
theorem fP.EA (g:fP E w0 p F0 w X F (.slice (some ⟨gr,0,none⟩) 5 kr) vs ro ss qr qs) (hr:ro.length=5) {j:Nat} (hj:j<5):∀i,i<3→w.cell? ⟨gr,j * 3+i,none⟩=some (qr j i):=by
 obtain ⟨g',c',e,_,_,_,hc⟩:=g.ro.os.m.form (by rw [hr];decide)
 rw [hr] at e hc
 cases e
 exact hc j hj
theorem fP.ql (g:fP E w0 p F0 w X F vr (.slice (some ⟨gs,0,none⟩) 5 ks) ro ss qr qs) (hs:ss.length=5) {j:Nat} (hj:j<5):w.cell? ⟨gs,j * 1,none⟩=some (qs j 0):=by
 obtain ⟨g',c',e,_,_,_,hc⟩:=g.ss.os.m.form (by rw [hs];decide)
 rw [hs] at e hc
 cases e
 exact hc j hj 0 (by decide)
end
def nK:List fq:= [⟨aJ 1,aJ 0,aR 15⟩]
def exS:TS:=⟨(fE 5).l++ [(4,1,3)], []⟩
theorem xU:fO 4 (fE 5) (psT 0).pb (aK 1)=(aR 15,0,exS):=by kernel_rfl
theorem jU (B:Nat):((aF B).all (bE 5) nK ⟨exS, [⟨aJ 0,aK 0⟩],false⟩ 2).out= [⟨aJ 0,aK 0⟩,⟨aJ 1,aK 1⟩] ∧((aF B).all (bE 5) nK ⟨exS, [⟨aJ 0,aK 0⟩],false⟩ 2).bad=false∧((aF B).all (bE 5) nK ⟨exS, [⟨aJ 0,aK 0⟩],false⟩ 1).out.length=2:=⟨by kernel_rfl,by kernel_rfl,by kernel_rfl⟩
theorem vI (B:Nat):∀i,2≤i→(aF B).all (bE 5) nK ⟨exS, [⟨aJ 0,aK 0⟩],false⟩ i=(aF B).all (bE 5) nK ⟨exS, [⟨aJ 0,aK 0⟩],false⟩ 2
 | 0,h=> absurd h (by decide)
 | 1,h=> absurd h (by decide)
 | 2,_=> rfl
 | i+3,_=> by
  have h:=vI B (i+2) (by omega)
  have e:((aF B).all (bE 5) nK ⟨exS, [⟨aJ 0,aK 0⟩],false⟩ (i+2)).out[i+2]? =none:=by rw [h,(jU B).1];simp
  have e0:(aF B).all (bE 5) nK ⟨exS, [⟨aJ 0,aK 0⟩],false⟩ (i+3)=(aF B).all (bE 5) nK ⟨exS, [⟨aJ 0,aK 0⟩],false⟩ (i+2):=by
   show (match ((aF B).all (bE 5) nK ⟨exS, [⟨aJ 0,aK 0⟩],false⟩ (i+2)).out[i+2]? with | some h=> (aF B).inn (bE 5) nK h ((aF B).all (bE 5) nK ⟨exS, [⟨aJ 0,aK 0⟩],false⟩ (i+2)) nK.length | none=> (aF B).all (bE 5) nK ⟨exS, [⟨aJ 0,aK 0⟩],false⟩ (i+2))= _
   rw [e]
  exact e0.trans h
theorem Ae (B:Nat) {i:Nat} (h:((aF B).all (bE 5) nK ⟨exS, [⟨aJ 0,aK 0⟩],false⟩ i).out.length=i):i=2:=by
 rcases (by omega:i=0∨i=1∨2≤i) with rfl | rfl | hi
 ·exact absurd (show (1:Nat)=0 from h) (by decide)
 ·rw [(jU B).2.2] at h;omega
 ·rw [vI B i hi,(jU B).1] at h
  exact h.symm
theorem xX (w:World):Calls Tryz.prog 43 #[] w fun e w'=> e=.returned (.bool true)∧Below w.heap.size w w':=by
 go_enter Tryz.func43,Tryz.ntmps43
 go_wp2_with fail
 refine (iM w).mono ?_
 rintro e w1 ⟨p,F,rfl,h1,b1⟩
 have H1:=Lib.hid h1
 have B1:=Lib.hid b1
 clear h1 b1
 go_wp2_with fail
 refine (lq (E:=aF w.heap.size) (X:=⟨[], []⟩) (F:=F) H1.out (show (0:Nat)≤800 by decide) (qV _)).mono ?_
 rw [qU _ 5 (Nat.le_refl _)]
 dsimp only
 rintro e w2 ⟨vr,vs,rfl,F2,qr,qs,hu⟩
 obtain ⟨gr,kr,gs,ks,rfl,rfl⟩:=hu.forms rfl rfl
 have U2:=Lib.hid hu
 have Gd:Hid (gr<w2.heap.size):=Lib.hid (hu.ro.os.m.lt gr rfl)
 have tY:Hid (gs<w2.heap.size):=Lib.hid (hu.ss.os.m.lt gs rfl)
 have Ec:=Lib.hid (hu.EA rfl (j:=0) (by decide))
 obtain ⟨a1,c1,e1⟩:=aT.slice (hu.ss.bs 1 (aK 1) rfl)
 have tF:Hid (w2.cell? ⟨gs,1 * 1,none⟩=some (.slice a1 9 c1)):=Lib.hid ((hu.ql rfl (j:=1) (by decide)).trans (by rw [e1];rfl))
 have yO:Hid (aT F2 w2 (.slice a1 9 c1) (aK 1)):=Lib.hid (by have:=hu.ss.bs 1 (aK 1) rfl;unfold wY at this;rw [e1] at this;exact this)
 have Kk:=Lib.hid (hu.ro.bs 0 (psT 0) rfl)
 have Eh:Hid (∀w',Below w2.heap.size w2 w'→Calls Tryz.prog 50 #[.pointer (some ⟨p,0,none⟩),.agg (aW 3 (qr 0)),.slice a1 9 c1] w' fun e wz=> ∃x,e=.returned x∧kY (aF w.heap.size) w1 p F (.slice (some ⟨gr,0,none⟩) 5 kr) (.slice (some ⟨gs,0,none⟩) 5 ks) (bE 5) (pI 5) qr qs (aR 15,0,exS) wz x):=Lib.hid fun w' hb'=> by
  have Hf:=U2.out.below hb'
  have hg:=jV (E:=aF w.heap.size) Hf.m (Kk.out.below hb') (yO.out.below hb') (by decide) (show (fE 5).l.length≤890 by decide)
  rw [show (aF w.heap.size).kF (fE 5) (psT 0).pb (aK 1)=(aR 15,0,exS) from xU] at hg
  refine hg.mono ?_
  rintro e wz ⟨u,rfl,F',m',y',ch',Fu⟩
  exact ⟨_,rfl,F',u,rfl,Hf.step m' ch' Fu,y'⟩
 clear hu e1
 go_upto_region 5 with (fail)
 refine eP (n:=69) 7 (by kernel_rfl) (by kernel_rfl) (by kernel_rfl) (by kernel_rfl) (by kernel_rfl) rfl
  (fun ii vv=> (match ii with | 0=> vv=.pointer (some ⟨p,0,none⟩) | 1=> vv=.slice (some ⟨gr,0,none⟩) 5 kr | 2=> vv=.pointer (some ⟨gr,0 * 3,none⟩) | 3=> vv=.agg (aW 3 (qr 0)) | 4=> vv=.slice (some ⟨gs,0,none⟩) 5 ks | 5=> vv=.pointer (some ⟨gs,1 * 1,none⟩) | 6=> vv=.slice a1 9 c1 | 10 | 12=> vv=.int .i64 (0) | _=> True)) (fun ii vv ww=> (ii=7→kY (aF w.heap.size) w1 p F (.slice (some ⟨gr,0,none⟩) 5 kr) (.slice (some ⟨gs,0,none⟩) 5 ks) (bE 5) (pI 5) qr qs (aR 15,0,exS) ww vv)∧(ii=8→kY (aF w.heap.size) w1 p F (.slice (some ⟨gr,0,none⟩) 5 kr) (.slice (some ⟨gs,0,none⟩) 5 ks) (bE 5) (pI 5) qr qs (aR 15,0,exS) ww vv)∧(ii=9→nJ (aF w.heap.size) w1 p F (.slice (some ⟨gr,0,none⟩) 5 kr) (.slice (some ⟨gs,0,none⟩) 5 ks) (bE 5) (pI 5) qr qs (aR 15,0,exS) ww vv)∧(ii=11→nJ (aF w.heap.size) w1 p F (.slice (some ⟨gr,0,none⟩) 5 kr) (.slice (some ⟨gs,0,none⟩) 5 ks) (bE 5) (pI 5) qr qs (aR 15,0,exS) ww vv))
  (fun i v w w' h hE=> ⟨fun e=> kY.below (h.1 e) hE,fun e=> kY.below (h.2.1 e) hE,fun e=> nJ.below (h.2.2.1 e) hE,fun e=> nJ.below (h.2.2.2 e) hE⟩)
  (fun ww=> True) (fun _ _ _ _=> trivial) ?_ ?_ ?_
 ·refine Each.all ?_
  refine ⟨?_,?_,?_,?_,?_,?_,?_,(fun h=> absurd rfl h),?_,?_,?_,?_,?_,trivial⟩
  ·intro _ a w2 hB' hP hF hd
   have hB:=hB' (by kernel_rfl)
   rw [if_pos (ay rfl)]
   exact aD _ (.inl rfl) (by simp) ⟨(hF.same 1 rfl),fun h=> absurd h (by decide),fun h=> absurd h (by decide),fun h=> absurd h (by decide),fun h=> absurd h (by decide)⟩
  ·intro _ a w2 hB' hP hF hd
   have hB:=hB' (by kernel_rfl)
   rw [if_pos (ay rfl)]
   exact aD _ (.inl rfl) (by simp) ⟨(hF.same 2 rfl),fun h=> absurd h (by decide),fun h=> absurd h (by decide),fun h=> absurd h (by decide),fun h=> absurd h (by decide)⟩
  ·intro _ a w2 hB' hP hF hd
   have hB:=hB' (by kernel_rfl)
   rw [if_pos (ay rfl)]
   exact aA (fun h=> by cases h) (aL (i:=0) (sz:=3) rfl ((hd 1 _ rfl rfl).1) rfl Tryz.underlying57 Tryz.sizePs (by decide)) ⟨rfl,fun h=> absurd h (by decide),fun h=> absurd h (by decide),fun h=> absurd h (by decide),fun h=> absurd h (by decide)⟩
  ·intro _ a w2 hB' hP hF hd
   have hB:=hB' (by kernel_rfl)
   rw [if_pos (ay rfl)]
   exact aA (fun h=> by cases h) (bW rfl ((hd 2 _ rfl rfl).1) Tryz.underlying78 rfl Tryz.sizePs (fun i hi=> (hB.cell (p:=⟨gr,0 * 3+i,none⟩) Gd.out).trans (Ec.out i hi))) ⟨rfl,fun h=> absurd h (by decide),fun h=> absurd h (by decide),fun h=> absurd h (by decide),fun h=> absurd h (by decide)⟩
  ·intro _ a w2 hB' hP hF hd
   have hB:=hB' (by kernel_rfl)
   rw [if_pos (ay rfl)]
   exact aD _ (.inl rfl) (by simp) ⟨(hF.same 3 rfl),fun h=> absurd h (by decide),fun h=> absurd h (by decide),fun h=> absurd h (by decide),fun h=> absurd h (by decide)⟩
  ·intro _ a w2 hB' hP hF hd
   have hB:=hB' (by kernel_rfl)
   rw [if_pos (ay rfl)]
   exact aA (fun h=> by cases h) (aL (i:=1) (sz:=1) rfl ((hd 4 _ rfl rfl).1) rfl Tryz.underlying55 Tryz.sizeBs (by decide)) ⟨rfl,fun h=> absurd h (by decide),fun h=> absurd h (by decide),fun h=> absurd h (by decide),fun h=> absurd h (by decide)⟩
  ·intro _ a w2 hB' hP hF hd
   have hB:=hB' (by kernel_rfl)
   rw [if_pos (ay rfl)]
   exact aA (fun h=> by cases h) (aN rfl ((hd 5 _ rfl rfl).1) Tryz.underlying23 ((hB.cell (p:=⟨gs,1 * 1,none⟩) tY.out).trans tF.out)) ⟨rfl,fun h=> absurd h (by decide),fun h=> absurd h (by decide),fun h=> absurd h (by decide),fun h=> absurd h (by decide)⟩
  ·intro _ a w2 hB' hP hF hd
   rw [if_pos (ay rfl)]
   exact aD _ (.inl rfl) (by simp) ⟨trivial,fun h=> absurd h (by decide),fun _=> ((((hd 7 _ rfl rfl).2 (by kernel_rfl)).1 rfl)),fun h=> absurd h (by decide),fun h=> absurd h (by decide)⟩
  ·intro _ a w2 hB' hP hF hd
   rw [if_pos (ay rfl)]
   obtain ⟨F_,u_,vJ,yG,yF⟩:=(((hd 8 _ rfl rfl).2 (by kernel_rfl)).2.1 rfl)
   exact aA (fun h=> by cases h) (bD rfl vJ rfl) ⟨trivial,fun h=> absurd h (by decide),fun h=> absurd h (by decide),fun _=> (⟨F_,yG,yF⟩),fun h=> absurd h (by decide)⟩
  ·intro _ a w2 hB' hP hF hd
   rw [if_pos (ay rfl)]
   obtain ⟨F_,u_,vJ,yG,yF⟩:=(((hd 8 _ rfl rfl).2 (by kernel_rfl)).2.1 rfl)
   exact aA (fun h=> by cases h) (bD rfl vJ rfl) ⟨rfl,fun h=> absurd h (by decide),fun h=> absurd h (by decide),fun h=> absurd h (by decide),fun h=> absurd h (by decide)⟩
  ·intro _ a w2 hB' hP hF hd
   rw [if_pos (ay rfl)]
   exact aD _ (.inr rfl) (by simp) ⟨trivial,fun h=> absurd h (by decide),fun h=> absurd h (by decide),fun h=> absurd h (by decide),fun _=> (((hd 9 _ rfl rfl).2 (by kernel_rfl)).2.2.1 rfl)⟩
  ·intro _ a w2 hB' hP hF hd
   rw [if_pos (ay rfl)]
   exact aD _ (.inr rfl) (by simp) ⟨((hd 10 _ rfl rfl).1),fun h=> absurd h (by decide),fun h=> absurd h (by decide),fun h=> absurd h (by decide),fun h=> absurd h (by decide)⟩
 ·intro o ho a w2 hB hF hd
  obtain rfl:=Option.some.inj ho
  refine ⟨by rw [ay rfl],?_⟩
  refine jA 50 #[.tmp 19,.tmp 22,.tmp 25] _ rfl Tryz.call50 _ (yM ((hd 0 _ rfl rfl).1) ((hd 3 _ rfl rfl).1) ((hd 6 _ rfl rfl).1)) (by simp) ((Eh.out w2 hB).mono ?_)
  rintro e w3 ⟨x,rfl,hr⟩
  exact ⟨x,rfl,⟨trivial,fun _=> (hr),fun h=> absurd h (by decide),fun h=> absurd h (by decide),fun h=> absurd h (by decide)⟩,trivial⟩
 ·intro a w3 hP hF hS
  obtain ⟨Gv,zR⟩:∃x,x=a.tmps.getD 26 undef:=⟨_,rfl⟩
  have JO:kY (aF w.heap.size) w1 p F (.slice (some ⟨gr,0,none⟩) 5 kr) (.slice (some ⟨gs,0,none⟩) 5 ks) (bE 5) (pI 5) qr qs (aR 15,0,exS) w3 Gv:=by rw [zR];exact ((hS 7 _ rfl).2 (by kernel_rfl)).1 rfl
  obtain ⟨x18,sV⟩:∃x,x=a.tmps.getD 18 undef:=⟨_,rfl⟩
  have JR:kY (aF w.heap.size) w1 p F (.slice (some ⟨gr,0,none⟩) 5 kr) (.slice (some ⟨gs,0,none⟩) 5 ks) (bE 5) (pI 5) qr qs (aR 15,0,exS) w3 x18:=by rw [sV];exact ((hS 8 _ rfl).2 (by kernel_rfl)).2.1 rfl
  obtain ⟨x27,hx27⟩:∃x,x=a.tmps.getD 27 undef:=⟨_,rfl⟩
  have JN:nJ (aF w.heap.size) w1 p F (.slice (some ⟨gr,0,none⟩) 5 kr) (.slice (some ⟨gs,0,none⟩) 5 ks) (bE 5) (pI 5) qr qs (aR 15,0,exS) w3 x27:=by rw [hx27];exact ((hS 9 _ rfl).2 (by kernel_rfl)).2.2.1 rfl
  obtain ⟨x5,hx5⟩:∃x,x=a.tmps.getD 5 undef:=⟨_,rfl⟩
  have P5:nJ (aF w.heap.size) w1 p F (.slice (some ⟨gr,0,none⟩) 5 kr) (.slice (some ⟨gs,0,none⟩) 5 ks) (bE 5) (pI 5) qr qs (aR 15,0,exS) w3 x5:=by rw [hx5];exact ((hS 11 _ rfl).2 (by kernel_rfl)).2.2.2 rfl
  have ha:=aX rfl rfl hF [_,_,_,_,_,_,_,Gv,x18,x27,_,x5,_] rfl ⟨(hS 0 _ rfl).1,(hS 1 _ rfl).1,(hS 2 _ rfl).1,(hS 3 _ rfl).1,(hS 4 _ rfl).1,(hS 5 _ rfl).1,(hS 6 _ rfl).1,zR.symm,sV.symm,hx27.symm,(hS 10 _ rfl).1,hx5.symm,(hS 12 _ rfl).1,trivial⟩
  simp only [puts,Act.put,List.setIfInBounds_toArray,List.set_cons_succ,List.set_cons_zero] at ha
  subst ha
  clear zR sV hx27 hx5
  clear hS hF
  have HP:=Lib.hid P5
  clear P5 JO JR JN
  obtain ⟨F3,hu3,hy3⟩:=HP.out
  obtain ⟨a9,c9,e9⟩:=hy3.slice
  subst e9
  have U3:=Lib.hid hu3
  have Y3:=Lib.hid hy3
  obtain ⟨a0,c0,e0⟩:=aT.slice (hu3.ss.bs 0 (aK 0) rfl)
  have k0:w3.cell? ⟨gs,0,none⟩=some (.slice a0 9 c0):=(hu3.ql rfl (j:=0) (by decide)).trans (by rw [e0];rfl)
  have Bl:Hid (aT F3 w3 (.slice a0 9 c0) (aK 0)):=Lib.hid (by have:=hu3.ss.bs 0 (aK 0) rfl;unfold wY at this;rw [e0] at this;exact this)
  have Gc:gs<w3.heap.size:=hu3.ss.os.m.lt gs rfl
  rw [aP] at Y3 ⊢
  clear hu3 hy3 HP hP e0
  obtain ⟨w4,hw4⟩:∃x,x=w3.alloc (.cells #[.string ⟨#[98]⟩,.string ⟨#[97]⟩,.slice a9 9 c9] 66):=⟨_,rfl⟩
  have ba:Below w3.heap.size w3 w4:=hw4▸(Below.refl _ _).alloc (Nat.le_refl _) _
  have BA:=Lib.hid ba
  have U4:=Lib.hid (U3.out.below ba)
  have eY:Hid (gq (nL F3) 66 3 w4 (.slice (some ⟨w3.heap.size,0,none⟩) 1 1) nK (fun _ i=> if i=0 then .string ⟨#[98]⟩ else if i=1 then .string ⟨#[97]⟩ else .slice a9 9 c9)):=Lib.hid (by
   refine ⟨⟨?_,fun b hb=> ?_⟩,fun j a hj=> ?_⟩
   ·rw [hw4]
    refine bP.new w3 _ 3 (by unfold maxLen;decide) rfl fun j hj i hi=> ?_
    have hj:j<1:=hj
    obtain rfl:j=0:=by omega
    rcases (by omega:i=0∨i=1∨i=2) with rfl | rfl | rfl<;> rfl
   ·obtain rfl:w3.heap.size=b:=by simpa [Value.ownBlock] using hb
    rw [hw4]
    refine jl.row (heap_alloc_new w3 _) fun u hu=> ?_
    have hu:u=.string ⟨#[98]⟩∨u=.string ⟨#[97]⟩∨u=.slice a9 9 c9:=by simpa using hu
    rcases hu with rfl | rfl | rfl<;> exact fun x e=> by cases e
   ·cases j with
    | zero=>
     obtain rfl:(⟨aJ 1,aJ 0,aR 15⟩:fq)=a:=Option.some.inj hj
     exact ⟨rfl,rfl,Y3.out.below ba⟩
    | succ j=> exact absurd hj (by simp [nK]))
  have yw:=Lib.hid (lS (E:=(aF w.heap.size).toEng) (X:=exS) (me:=aJ 0) (sec:=aK 0) (D:=nK) U4.out.m U4.out.ro (fun b hb=> (U4.out.rn b hb).1) eY.out (fun b hb hf=> by
   obtain rfl:w3.heap.size=b:=by simpa [Value.ownBlock] using hb
   exact Nat.lt_irrefl _ ((aF w.heap.size).lt U3.out.m hf)) (Bl.out.below ba) (by decide) (fun j d hj=> by
    have:d ∈ nK:=List.mem_of_getElem? hj
    obtain rfl:=List.mem_singleton.1 this
    show (aR 15).length≤400
    rw [aP];decide) (by show (aR _).length≤1000;rw [aP];decide) (show exS.l.length≤600 by decide))
  clear ba
  go_wp2_with fail
  rw [←hw4]
  refine yw.out.mono ?_
  rintro e w5 ⟨i,vo,rfl,hi,F5,qo,ha⟩
  obtain rfl:=Ae _ hi
  rw [(jU _).2.1]
  have hou:=ha.ou
  rw [(jU _).1] at hou
  have U5:=Lib.hid (U4.out.step ha.m ha.ch ha.fo)
  obtain ⟨go,ko,eo,hrow,_,_,hcell⟩:=hou.os.m.form (by decide)
  have eo:vo=.slice (some ⟨go,0,none⟩) 2 ko:=eo
  subst eo
  have Gf:Hid (go<w5.heap.size):=Lib.hid hrow.lt
  have hb1:=hou.bs 1 ⟨aJ 1,aK 1⟩ rfl
  obtain ⟨a7,c7,e7⟩:=hb1.z1.slice
  have e7:qo 1 1=.slice a7 9 c7:=e7
  have G0:Hid (w5.cell? ⟨go,1 * 2+0,none⟩=some (.string (aJ 1))):=Lib.hid ((hcell 1 (by decide) 0 (by decide)).trans (by rw [hb1.z0]))
  have G1:Hid (w5.cell? ⟨go,1 * 2+1,none⟩=some (.slice a7 9 c7)):=Lib.hid ((hcell 1 (by decide) 1 (by decide)).trans (by rw [e7]))
  have JV:Hid (aT F5 w5 (.slice a7 9 c7) (aK 1)):=Lib.hid (by have:=hb1.z1;rwa [e7] at this)
  obtain ⟨a8,c8,e8⟩:=aT.slice (U5.out.ss.bs 1 (aK 1) rfl)
  have e8:qs 1 0=.slice a8 9 c8:=e8
  have FN:Hid (w5.cell? ⟨gs,1 * 1,none⟩=some (.slice a8 9 c8)):=Lib.hid ((U5.out.ql rfl (j:=1) (by decide)).trans (by rw [e8]))
  have JU:Hid (aT F5 w5 (.slice a8 9 c8) (aK 1)):=Lib.hid (by have:=U5.out.ss.bs 1 (aK 1) rfl;unfold wY at this;rwa [e8] at this)
  have Gb:Hid (gs<w5.heap.size):=Lib.hid (U5.out.ss.os.m.lt gs rfl)
  have wV:Hid (∀w',Below w5.heap.size w5 w'→Calls Tryz.prog 19 #[.slice a7 9 c7,.slice a8 9 c8] w' fun e wz=> e=.returned (.bool true)∧Below w'.heap.size w' wz):=Lib.hid fun w' hb'=> by
   have h1:=(JV.out.below hb').rd
   have h2:=(JU.out.below hb').rd
   rw [show (aK 1).length=9 from aP _] at h1 h2
   have:=mG _ _ 9 9 (bf (aK 1)) (bf (aK 1)) w' h1 h2
   rwa [show fQ 9 (bf (aK 1)) 9 (bf (aK 1))=true from by unfold fQ;rw [decide_eq_true rfl,gB];rfl] at this
  have B5:Hid (Below w.heap.size w w5):=Lib.hid (B1.out.trans (U5.out.ch.dz.below B1.out.size fun b hb=> (aF w.heap.size).hi H1.out hb))
  clear ha hi hou hrow hcell hb1 e7 e8 hw4 k0 Gc
  go_upto_region 7 with (fail)
  refine bS (n:=69) (by kernel_rfl) (by kernel_rfl) (by kernel_rfl) rfl
   (fun ii vv _=> (match ii with | 0=> vv=.int .i64 (0) | 1 | 2 | 4 | 5 | 6 | 9 | 10 | 11 | 16 | 17 | 18 | 26 | 27 | 28=> vv=.bool true | 3=> vv=.bool false | 7 | 12 | 19=> vv=.slice (some ⟨go,0,none⟩) 2 ko | 8=> vv=.int .i64 (2) | 13 | 20=> vv=.pointer (some ⟨go,1 * 2,none⟩) | 14=> vv=.pointer (some ⟨go,1 * 2+0,none⟩) | 15=> vv=.string (aJ 1) | 21=> vv=.pointer (some ⟨go,1 * 2+1,none⟩) | 22=> vv=.slice a7 9 c7 | 23=> vv=.slice (some ⟨gs,0,none⟩) 5 ks | 24=> vv=.pointer (some ⟨gs,1 * 1,none⟩) | 25=> vv=.slice a8 9 c8 | _=> True))
   (fun w w'=> Below w.heap.size w w') (fun _ _ h=> h) (fun _ _ _ _ h _=> h) ?_ ?_
  ·refine Each.all ?_
   refine ⟨?_,?_,?_,?_,?_,?_,?_,?_,?_,?_,?_,?_,?_,?_,?_,?_,?_,?_,?_,?_,?_,?_,?_,?_,?_,?_,?_,?_,?_,trivial⟩
   ·intro a w2 hB hF hd
    rw [if_pos (ay rfl)]
    exact aD _ (.inl rfl) (by simp) (hF.same 6 rfl)
   ·intro a w2 hB hF hd
    rw [if_pos (ay rfl)]
    refine aA (fun h=> by cases h) (Go.aG.dS rfl (hd 0 _ rfl (aj rfl)) rfl) ?_
    exact rfl
   ·intro a w2 hB hF hd
    rw [if_pos (ay rfl)]
    exact aD _ (.inl rfl) (by simp) (hd 1 _ rfl (aj rfl))
   ·intro a w2 hB hF hd
    refine aB (aC rfl rfl (hd 2 _ rfl (aj rfl)) rfl) ?_
    exact aD _ (.inl rfl) (by simp) (hF.same 8 rfl)
   ·intro a w2 hB hF hd
    refine aB (aC rfl rfl (hd 2 _ rfl (aj rfl)) rfl) ?_
    exact aA (fun h=> by cases h) (gL rfl (hd 3 _ rfl (aj rfl))) rfl
   ·intro a w2 hB hF hd
    rw [if_pos (ay rfl)]
    exact aA (fun h=> by cases h) (bM rfl (hd 2 _ rfl (aj rfl))) ((hd 4 _ rfl (aj rfl)))
   ·intro a w2 hB hF hd
    rw [if_pos (ay rfl)]
    exact aD _ (.inl rfl) (by simp) (hd 5 _ rfl (aj rfl))
   ·intro a w2 hB hF hd
    refine aB (aC rfl rfl (hd 6 _ rfl (aj rfl)) rfl) ?_
    exact aD _ (.inl rfl) (by simp) (hF.same 7 rfl)
   ·intro a w2 hB hF hd
    refine aB (aC rfl rfl (hd 6 _ rfl (aj rfl)) rfl) ?_
    exact aA (fun h=> by cases h) (qh rfl (hd 7 _ rfl (aj rfl)) Tryz.underlying67) rfl
   ·intro a w2 hB hF hd
    refine aB (aC rfl rfl (hd 6 _ rfl (aj rfl)) rfl) ?_
    refine aA (fun h=> by cases h) (Go.aG.dS rfl (hd 8 _ rfl (aj rfl)) rfl) ?_
    exact rfl
   ·intro a w2 hB hF hd
    rw [if_pos (ay rfl)]
    exact aA (fun h=> by cases h) (bM rfl (hd 6 _ rfl (aj rfl))) ((hd 9 _ rfl (aj rfl)))
   ·intro a w2 hB hF hd
    rw [if_pos (ay rfl)]
    exact aD _ (.inl rfl) (by simp) (hd 10 _ rfl (aj rfl))
   ·intro a w2 hB hF hd
    refine aB (aC rfl rfl (hd 11 _ rfl (aj rfl)) rfl) ?_
    exact aD _ (.inl rfl) (by simp) (hF.same 7 rfl)
   ·intro a w2 hB hF hd
    refine aB (aC rfl rfl (hd 11 _ rfl (aj rfl)) rfl) ?_
    exact aA (fun h=> by cases h) (aL (i:=1) (sz:=2) rfl (hd 12 _ rfl (aj rfl)) rfl Tryz.underlying67 Tryz.sizeHdC (by decide)) rfl
   ·intro a w2 hB hF hd
    refine aB (aC rfl rfl (hd 11 _ rfl (aj rfl)) rfl) ?_
    exact aA (fun h=> by cases h) (aM (m:=0) (k:=0) rfl (hd 13 _ rfl (aj rfl)) (by kernel_rfl)) rfl
   ·intro a w2 hB hF hd
    refine aB (aC rfl rfl (hd 11 _ rfl (aj rfl)) rfl) ?_
    exact aA (fun h=> by cases h) (aY rfl (hd 14 _ rfl (aj rfl)) Tryz.underlying9 ((hB.cell (p:=⟨go,1 * 2+0,none⟩) Gf.out).trans G0.out)) rfl
   ·intro a w2 hB hF hd
    refine aB (aC rfl rfl (hd 11 _ rfl (aj rfl)) rfl) ?_
    exact aA (fun h=> by cases h) (om rfl (hd 15 _ rfl (aj rfl)) rfl Tryz.underlying9) (congrArg Value.bool (show decide (aJ 1=⟨#[98]⟩)=true from decide_eq_true rfl))
   ·intro a w2 hB hF hd
    rw [if_pos (ay rfl)]
    exact aA (fun h=> by cases h) (bM rfl (hd 11 _ rfl (aj rfl))) ((hd 16 _ rfl (aj rfl)))
   ·intro a w2 hB hF hd
    rw [if_pos (ay rfl)]
    exact aD _ (.inl rfl) (by simp) (hd 17 _ rfl (aj rfl))
   ·intro a w2 hB hF hd
    refine aB (aC rfl rfl (hd 18 _ rfl (aj rfl)) rfl) ?_
    exact aD _ (.inl rfl) (by simp) (hF.same 7 rfl)
   ·intro a w2 hB hF hd
    refine aB (aC rfl rfl (hd 18 _ rfl (aj rfl)) rfl) ?_
    exact aA (fun h=> by cases h) (aL (i:=1) (sz:=2) rfl (hd 19 _ rfl (aj rfl)) rfl Tryz.underlying67 Tryz.sizeHdC (by decide)) rfl
   ·intro a w2 hB hF hd
    refine aB (aC rfl rfl (hd 18 _ rfl (aj rfl)) rfl) ?_
    exact aA (fun h=> by cases h) (aM (m:=0) (k:=1) rfl (hd 20 _ rfl (aj rfl)) (by kernel_rfl)) rfl
   ·intro a w2 hB hF hd
    refine aB (aC rfl rfl (hd 18 _ rfl (aj rfl)) rfl) ?_
    exact aA (fun h=> by cases h) (aN rfl (hd 21 _ rfl (aj rfl)) Tryz.underlying23 ((hB.cell (p:=⟨go,1 * 2+1,none⟩) Gf.out).trans G1.out)) rfl
   ·intro a w2 hB hF hd
    refine aB (aC rfl rfl (hd 18 _ rfl (aj rfl)) rfl) ?_
    exact aD _ (.inl rfl) (by simp) (hF.same 3 rfl)
   ·intro a w2 hB hF hd
    refine aB (aC rfl rfl (hd 18 _ rfl (aj rfl)) rfl) ?_
    exact aA (fun h=> by cases h) (aL (i:=1) (sz:=1) rfl (hd 23 _ rfl (aj rfl)) rfl Tryz.underlying55 Tryz.sizeBs (by decide)) rfl
   ·intro a w2 hB hF hd
    refine aB (aC rfl rfl (hd 18 _ rfl (aj rfl)) rfl) ?_
    exact aA (fun h=> by cases h) (aN rfl (hd 24 _ rfl (aj rfl)) Tryz.underlying23 ((hB.cell (p:=⟨gs,1 * 1,none⟩) Gb.out).trans FN.out)) rfl
   ·intro a w2 hB hF hd
    refine aB (aC rfl rfl (hd 18 _ rfl (aj rfl)) rfl) ?_
    refine bT _ _ _ rfl Tryz.call19 _ (args2 (hd 22 _ rfl (aj rfl)) (hd 25 _ rfl (aj rfl))) (by simp) ((wV.out w2 hB).mono ?_)
    rintro e w3 ⟨rfl,hb⟩;exact ⟨_,rfl,rfl,hb⟩
   ·intro a w2 hB hF hd
    rw [if_pos (ay rfl)]
    exact aA (fun h=> by cases h) (bM rfl (hd 18 _ rfl (aj rfl))) ((hd 26 _ rfl (aj rfl)))
   ·intro a w2 hB hF hd
    rw [if_pos (ay rfl)]
    exact aD _ (.inr rfl) (by simp) (hd 27 _ rfl (aj rfl))
  ·intro a w6 hB hF hS
   have ha:=aX rfl rfl hF [_,_,_,_,_,_,_,_,_,_,_,_,_,_,_,_,_,_,_,_,_,_,_,_,_,_,_,_,_] rfl ⟨hS 0 _ rfl,hS 1 _ rfl,hS 2 _ rfl,hS 3 _ rfl,hS 4 _ rfl,hS 5 _ rfl,hS 6 _ rfl,hS 7 _ rfl,hS 8 _ rfl,hS 9 _ rfl,hS 10 _ rfl,hS 11 _ rfl,hS 12 _ rfl,hS 13 _ rfl,hS 14 _ rfl,hS 15 _ rfl,hS 16 _ rfl,hS 17 _ rfl,hS 18 _ rfl,hS 19 _ rfl,hS 20 _ rfl,hS 21 _ rfl,hS 22 _ rfl,hS 23 _ rfl,hS 24 _ rfl,hS 25 _ rfl,hS 26 _ rfl,hS 27 _ rfl,hS 28 _ rfl,trivial⟩
   simp only [puts,Act.put,List.setIfInBounds_toArray,List.set_cons_succ,List.set_cons_zero] at ha
   subst ha
   clear hS hF
   have B6:=Lib.hid (B5.out.trans (hB.mono B5.out.size))
   clear hB
   go_wp2
   go_ret
   exact ⟨rfl,B6.out⟩
end Go.Proofs.YtpcjekgfnfjbpaaGreat
namespace Go.aG
open Go.RowKit
section
variable {P : Program} {o : Oper} {a : Act} {w : World} {K : Act → World → Prop} {Q : Exit → Act → World → Prop} {ops : Array Oper}
theorem nN (T:TypeId) (x y:Operand) (ho:o.op=.store T x y) (b i:Nat) (v v0:Value) (hv:v.cells=#[v]) (h1:v.oneCell'=true)
  (hi:(P.info? T).map (·.size)=some 1) (hx:a.eval x=.pointer (some ⟨b,i,none⟩)) (hy:a.eval y=v) (hc:w.cell? ⟨b,i,none⟩=some v0) (hf:w.frozen? ⟨b,i,none⟩=false) (hK:K (a.put o.dst undef) (w.setCell ⟨b,i,none⟩ v)):o.wp P a w K Q:=by
 have hr:=run_storeCells_cells (P:=P) b i [v] 0 w
  (by
   intro j hj
   have hj0:j=0:=by simp at hj;omega
   subst hj0
   show (w.cell? ⟨b,i,none⟩).isSome=true
   rw [hc];rfl)
  (by
   intro j hj
   have hj0:j=0:=by simp at hj;omega
   subst hj0
   exact hf)
  (by
   intro u hu
   simp at hu;subst hu;exact h1)
 obtain ⟨q,hq,hs⟩:=Option.map_eq_some_iff.1 hi
 unfold Oper.wp execOp
 simp only [Nat.add_zero] at hr
 have hs2:(storeVar T ⟨b,i,none⟩ v).run P w=.ok () (w.setCell ⟨b,i,none⟩ v):=by
  simp [storeVar,sizeOf,typeInfo,hq,hs,hv,hr,World.setCells]
 simp only [ho,hx,hy,Instr.storeAt,Instr.sureAddr,Sem.run_bind,Sem.run_pure,Result.andThen_ok,hs2]
 exact hK
theorem bO {rest:List Oper} (hg:o.guard=none) (T:TypeId) (x y:Operand) (ho:o.op=.store T x y) (b i:Nat) (v v0:Value) (hv:v.cells=#[v]) (h1:v.oneCell'=true)
  (hi:(P.info? T).map (·.size)=some 1) (hx:a.eval x=.pointer (some ⟨b,i,none⟩)) (hy:a.eval y=v) (hc:w.cell? ⟨b,i,none⟩=some v0) (hf:w.frozen? ⟨b,i,none⟩=false) (hK:wpList P ops Q rest (a.put o.dst undef) (w.setCell ⟨b,i,none⟩ v)):wpList P ops Q (o::rest) a w:=
 wpList_plain hg fun _ hK'=> nN T x y ho b i v v0 hv h1 hi hx hy hc hf (hK' _ _ hK)
end
section
variable {w : World} {g i j n cap c : Nat} {x : Value} {A : Type} {F : Nat → Prop} {e : TypeId} {L : List A} {q : Nat → Nat → Value} {a' : A} {R : (Nat → Prop) → World → (Nat → Value) → A → Prop}
theorem jl.set (h:jl w g) (hs:(w.cell? ⟨g,i,none⟩).isSome=true) (hx:fI x):jl (w.setCell ⟨g,i,none⟩ x) g:=fun k v hv=> by
 by_cases e:k=i
 ·subst e
  have:=World.cell?_setCells_in g [x] k w (fun l hl=> by
   simp only [List.length_cons,List.length_nil] at hl
   obtain rfl:l=0:=by omega
   exact hs) 0 (by simp)
  simp only [List.getElem_cons_zero,Nat.add_zero] at this
  have h2:(w.setCell ⟨g,k,none⟩ x).cell? ⟨g,k,none⟩=some x:=this
  rw [h2] at hv
  exact Option.some.inj hv▸hx
 ·have:=World.cell?_setCells_out g [x] i w ⟨g,k,none⟩ (fun _ _=> by simp only [List.length_cons,List.length_nil];omega)
  have h2:(w.setCell ⟨g,i,none⟩ x).cell? ⟨g,k,none⟩=w.cell? ⟨g,k,none⟩:=this
  rw [h2] at hv
  exact h k v hv
theorem gq.set (h:gq (R F) e c w (.slice (some ⟨g,0,none⟩) L.length cap) L q) (hk:Al R) (hj:j<L.length) (hi:i<c) (hx:fI x) (ha:R F w (fun i'=> if i'=i then x else q j i') a'):
  gq (R F) e c (w.setCell ⟨g,j * c+i,none⟩ x) (.slice (some ⟨g,0,none⟩) L.length cap) (L.set j a') (fun j' i'=> if j'=j∧i'=i then x else q j' i'):=by
 have hc:bB (fun b=> b=g) w (w.setCell ⟨g,j * c+i,none⟩ x):=bB.set _ w ⟨g,j * c+i,none⟩ x rfl
 have hG:∀b,b=g→jl w b:=fun b e=> h.os.z b (by rw [e];rfl)
 refine ⟨?_,fun k a hka=> ?_⟩
 ·rw [List.length_set]
  refine ⟨h.os.m.set j i hj hi x,fun b hb=> ?_⟩
  obtain rfl:g=b:=by simpa [Value.ownBlock] using hb
  refine (h.os.z g rfl).set ?_ hx
  obtain ⟨g',c',e',_,_,_,hcell⟩:=h.os.m.form (by omega)
  cases e'
  rw [hcell j hj i hi]
  rfl
 ·by_cases hkj:k=j
  ·subst hkj
   rw [List.getElem?_set_self hj] at hka
   obtain rfl:=Option.some.inj hka
   have:=hk ha hc hG
   simpa using this
  ·rw [List.getElem?_set_ne (fun e=> hkj e.symm)] at hka
   have:=hk (h.bs k a hka) hc hG
   simp only [hkj,false_and,if_false]
   exact this
end
end Go.aG
namespace Go.Proofs.YtpcjekgfnfjbpaaGreat
open Go.RowKit Go.aG Go.ChangeShapes Go.Maps
section
variable {B : Nat} {w w' w0 w1 w2 w3 : World} {p m g i j cap : Nat} {F F' F0 : Nat → Prop} {v u vr vs vd vl x : Value} {l : List Int} {z : Nat → Value} {qr qs qd : Nat → Nat → Value} {E : bU B} {X : E.σ} {ro : List eZ} {ss : List (List Int)} {D : List fq} {d' : fq}
theorem iq.set (h:iq E w0 p F0 w X F vr vs ro ss qr qs (.slice (some ⟨g,0,none⟩) D.length cap) D qd) (hj:j<D.length) (hi:i<3) (hx:fI x) (ha:nL F w (fun i'=> if i'=i then x else qd j i') d'):iq E w0 p F0 (w.setCell ⟨g,j * 3+i,none⟩ x) X F vr vs ro ss qr qs (.slice (some ⟨g,0,none⟩) D.length cap) (D.set j d') (fun j' i'=> if j'=j∧i'=i then x else qd j' i'):=
 ⟨h.u.dz (G:=fun b=> b=g) (bB.set _ w ⟨g,j * 3+i,none⟩ x rfl) fun b e=> by subst e;exact ⟨h.dl.os.z b rfl,(h.dn b rfl).1,(h.dn b rfl).2,h.dr b rfl,h.ds b rfl⟩,h.dl.set Fv hj hi hx ha,h.dn,h.dr,h.ds⟩
end
theorem rH {S:TS} (k:Int) (l:List Int) (h:S.Ok):(dJ k S l).2.2.Ok:=by
 unfold dJ
 split
 ·exact h.put _
 ·exact h
theorem vR {S:TS} (s:Int) (h:S.Ok):(fJ S s).2.2.Ok:=by
 unfold fJ
 split
 ·exact h.draw s
 ·exact h
theorem qX:∀n,n≤5→(fE n).Ok
 | 0,_=> TS.Ok.empty
 | n+1,hn=> by
  obtain ⟨A,C,h1,h2,h3⟩:=jC n (by omega)
  have a1:=vR 1 (qX n (by omega))
  rw [h1] at a1
  have a2:=rH 2 (aK n) a1
  rw [h2] at a2
  have a3:=rH 3 (aK n) a2
  rw [h3] at a3
  exact a3
theorem zk:(fE 5).Ok:=qX 5 (Nat.le_refl _)
theorem iq.cell {B:Nat} {w w0:World} {p g j cap n:Nat} {F F0:Nat→Prop} {vr vs:Value} {qr qs qd:Nat→Nat→Value} {E:bU B} {X:E.σ} {ro:List eZ} {ss:List (List Int)} {D:List fq} (h:iq E w0 p F0 w X F vr vs ro ss qr qs (.slice (some ⟨g,0,none⟩) n cap) D qd) (hj:j<D.length):∀i,i<3→w.cell? ⟨g,j * 3+i,none⟩=some (qd j i)∧w.frozen? ⟨g,j * 3+i,none⟩=false:=fun i hi=> by
 obtain ⟨g',c',e,hr,_,_,hc⟩:=h.dl.os.m.form (by omega)
 cases e
 exact ⟨hc j hj i hi,hr.free _⟩
def kN (i:Nat):List Int:=(psT i).pb
theorem tZ {S:TS} {a c:Nat} (h:sj S) (hl:S.l.length≤800) (ha:a<5) (hc:c<5):∃k:Nat,fO 4 S (kN c) (aK a)=(aR (k:Int),0,S.put (4,((3 * c+1:Nat):Int),((3 * a:Nat):Int)))∧(S.put (4,((3 * c+1:Nat):Int),((3 * a:Nat):Int))).Ok∧k<(S.put (4,((3 * c+1:Nat):Int),((3 * a:Nat):Int))).l.length:=by
 have h1:=h.Fy hc
 have l1:=(List.getElem?_eq_some_iff.1 h1).1
 have l2:=h.lt ha
 have hk:lQ S (3 * c+1)=2:=by unfold lQ;rw [qZ h1]
 obtain ⟨k,p1,p2,p3⟩:=mM h.ok (uN (k:=4) (.inl ⟨rfl,hk⟩) l1 l2)
 refine ⟨k,?_,h.ok.put _,p3⟩
 unfold fO kN aK psT
 rw [bZ l1 (by omega),bZ l2 (by omega)]
 simp only
 rw [if_neg (fun h=> h.2 hk),p1]
structure IX (S:TS) (D:List fq) (k:Nat):Prop where
 gd:sj S
 ln:S.l.length≤15+k
 ok:jc D
 bl:∀d ∈ D,d.b.length≤100
theorem vU (B:Nat) {f g:Nat→Nat}:∀k,k≤10→IX ((aF B).dep (fE 5) kN aK f g k).1 ((aF B).dep (fE 5) kN aK f g k).2 k
 | 0,_=> ⟨⟨zk,List.prefix_refl _,(show (fE 5).l.length≤900 by decide)⟩,(show (fE 5).l.length≤15+0 by decide),(fun d h=> by cases h),(fun d h=> by cases h)⟩
 | k+1,hk=> by
  obtain ⟨i1,i2,i3,i4⟩:=vU B k (by omega)
  obtain ⟨n,e,ho,hn⟩:=tZ (a:=f k % 5) (c:=g k % 5) i1 (Nat.le_trans i2 (by omega)) (Nat.mod_lt _ (by decide)) (Nat.mod_lt _ (by decide))
  have e1:(aF B).kF ((aF B).dep (fE 5) kN aK f g k).1 (kN (g k % 5)) (aK (f k % 5))= _:=e
  show IX ((aF B).kF ((aF B).dep (fE 5) kN aK f g k).1 (kN (g k % 5)) (aK (f k % 5))).2.2 (((aF B).dep (fE 5) kN aK f g k).2++ [⟨aJ (f k % 5),aJ (g k % 5),((aF B).kF ((aF B).dep (fE 5) kN aK f g k).1 (kN (g k % 5)) (aK (f k % 5))).1⟩]) (k+1)
  rw [e1]
  have hl:=(gN ((aF B).dep (fE 5) kN aK f g k).1 (4,((3 * (g k % 5)+1:Nat):Int),((3 * (f k % 5):Nat):Int))).1
  have hl2:=Nat.le_trans hl (Nat.succ_le_succ i2)
  refine ⟨⟨ho,i1.pre.trans (iD _).1,Nat.le_trans hl2 (by omega)⟩,hl2,fun d hd=> ?_,fun d hd=> ?_⟩
  ·rcases List.mem_append.1 hd with hd | hd
   ·exact i3 d hd
   ·obtain rfl:=List.mem_singleton.1 hd
    exact ⟨⟨_,Nat.mod_lt _ (by decide),rfl⟩,⟨_,Nat.mod_lt _ (by decide),rfl⟩,nQ _⟩
  ·rcases List.mem_append.1 hd with hd | hd
   ·exact i4 d hd
   ·obtain rfl:=List.mem_singleton.1 hd
    show (aR _).length≤100
    rw [aP];decide
theorem xW (B:Nat) {f g:Nat→Nat} (k:Nat) (hk:k≤10):((aF B).kF ((aF B).dep (fE 5) kN aK f g k).1 (kN (g k % 5)) (aK (f k % 5))).2.1=0:=by
 obtain ⟨i1,i2,_,_⟩:=vU B (f:=f) (g:=g) k hk
 obtain ⟨n,e,_,_⟩:=tZ (a:=f k % 5) (c:=g k % 5) i1 (Nat.le_trans i2 (by omega)) (Nat.mod_lt _ (by decide)) (Nat.mod_lt _ (by decide))
 have e1:(aF B).kF ((aF B).dep (fE 5) kN aK f g k).1 (kN (g k % 5)) (aK (f k % 5))= _:=e
 rw [e1]
theorem mq {a:Nat} (h:a<5):mD (aJ a) (0:Int).toNat=97+(a:Int):=by
 rcases (by omega:a=0∨a=1∨a=2∨a=3∨a=4) with rfl | rfl | rfl | rfl | rfl<;> rfl
theorem pY {a:Nat} (h:a<5):IntKind.u8.wrap (97+(a:Int) - 97)=(a:Int):=by
 rcases (by omega:a=0∨a=1∨a=2∨a=3∨a=4) with rfl | rfl | rfl | rfl | rfl<;> rfl
theorem oQ {D:List fq} {j:Nat} {d0:fq} (h:j<D.length):D.getD j d0 ∈ D:=by
 rw [List.getD_eq_getElem?_getD,List.getElem?_eq_getElem h]
 exact List.getElem_mem h
theorem getD_at {D:List fq} {j:Nat} {d0:fq} (h:j<D.length):D[j]? =some (D.getD j d0):=by
 rw [List.getD_eq_getElem?_getD,List.getElem?_eq_getElem h]
 rfl
def gG:fq:=⟨.empty,.empty, []⟩
theorem jc.at {D:List fq} (h:jc D) (j:Nat) (hj:j<D.length):(∃a,a<5∧(D.getD j gG).fr=aJ a)∧(∃c,c<5∧(D.getD j gG).ta=aJ c)∧okB (D.getD j gG).b:=h _ (oQ hj)
section
variable {B : Nat} {w w0 : World} {p g j cap n a c : Nat} {F F0 : Nat → Prop} {vr vs x : Value} {qr qs qd : Nat → Nat → Value} {E : bU B} {X : E.σ} {ro : List eZ} {ss : List (List Int)} {D : List fq} {l : List Int}
theorem vQ (hj:j<D.length) (hn:D.length=n) (h:iq E w0 p F0 w X F vr vs ro ss qr qs (.slice (some ⟨g,0,none⟩) n cap) D qd):iq E w0 p F0 (w.setCell ⟨g,j * 3,none⟩ (.string (aJ a))) X F vr vs ro ss qr qs (.slice (some ⟨g,0,none⟩) n cap) (D.set j ⟨aJ a,(D.getD j gG).ta,(D.getD j gG).b⟩) (fun j' i'=> if j'=j∧i'=0 then .string (aJ a) else qd j' i'):=by
 subst hn
 have h0:=h.dl.bs j _ (getD_at (d0:=gG) hj)
 exact h.set (i:=0) hj (by decide) (fun x e=> by cases e) ⟨rfl,h0.z1,h0.z2⟩
theorem vP (hj:j<D.length) (hn:D.length=n) (h:iq E w0 p F0 w X F vr vs ro ss qr qs (.slice (some ⟨g,0,none⟩) n cap) D qd) (h':iq E w0 p F0 (w.setCell ⟨g,j * 3,none⟩ (.string (aJ a))) X F vr vs ro ss qr qs (.slice (some ⟨g,0,none⟩) n cap) (D.set j ⟨aJ a,(D.getD j gG).ta,(D.getD j gG).b⟩) (fun j' i'=> if j'=j∧i'=0 then .string (aJ a) else qd j' i')):
  iq E w0 p F0 ((w.setCell ⟨g,j * 3,none⟩ (.string (aJ a))).setCell ⟨g,j * 3+1,none⟩ (.string (aJ c))) X F vr vs ro ss qr qs (.slice (some ⟨g,0,none⟩) n cap) ((D.set j ⟨aJ a,(D.getD j gG).ta,(D.getD j gG).b⟩).set j ⟨aJ a,aJ c,(D.getD j gG).b⟩) (fun j' i'=> if j'=j∧i'=1 then .string (aJ c) else if j'=j∧i'=0 then .string (aJ a) else qd j' i'):=by
 have hl:(D.set j ⟨aJ a,(D.getD j gG).ta,(D.getD j gG).b⟩).length=n:=by rw [List.length_set,hn]
 have h0:=h'.dl.bs j _ (List.getElem?_set_self hj)
 rw [←hl] at h' ⊢
 exact h'.set (by rw [List.length_set];exact hj) (by decide) (fun x e=> by cases e) ⟨h0.z0,rfl,h0.z2⟩
theorem oU (hj:j<D.length) (hn:D.length=n) (h:iq E w0 p F0 w X F vr vs ro ss qr qs (.slice (some ⟨g,0,none⟩) n cap) D qd) (hx:aT F w x l):iq E w0 p F0 (w.setCell ⟨g,j * 3+2,none⟩ x) X F vr vs ro ss qr qs (.slice (some ⟨g,0,none⟩) n cap) (D.set j ⟨(D.getD j gG).fr,(D.getD j gG).ta,l⟩) (fun j' i'=> if j'=j∧i'=2 then x else qd j' i'):=by
 subst hn
 have h0:=h.dl.bs j _ (getD_at (d0:=gG) hj)
 obtain ⟨a,c,e⟩:=hx.slice
 exact h.set hj (by decide) (fun y e'=> by rw [e] at e';cases e') ⟨h0.z0,h0.z1,hx⟩
end
theorem jc.set {D:List fq} {j:Nat} {d':fq} (h:jc D) (h':(∃a,a<5∧d'.fr=aJ a)∧(∃c,c<5∧d'.ta=aJ c)∧okB d'.b):jc (D.set j d'):=fun d hd=> by
 rcases List.mem_or_eq_of_mem_set hd with hd | rfl
 ·exact h d hd
 ·exact h'
end Go.Proofs.YtpcjekgfnfjbpaaGreat
namespace Go.Proofs.YtpcjekgfnfjbpaaGreat
open Go.RowKit Go.aG Go.ChangeShapes Go.Maps
attribute [local go_sem ↓] Go.wp_at_zero Go.wp_at_succ
section
variable {w w' w0 w1 w2 w3 : World} {v u x : Value}
theorem _root_.Go.aG.yc.below {m:Nat} {f g:Nat→Nat} (h:yc w v m f g) (hb:Below w.heap.size w w'):yc w' v m f g:=by
 obtain ⟨q,hq,h2⟩:=h
 exact ⟨q,hq.below hb,h2⟩
theorem _root_.Go.aG.yc.lt {m:Nat} {f g:Nat→Nat} (h:yc w v m f g) (hm:0<m):∀b,v.ownBlock=some b→b<w.heap.size:=by
 obtain ⟨q,⟨a,c,rfl,_,_,h3⟩,_⟩:=h
 obtain ⟨b',o,rfl,hl,_⟩:=h3 hm
 intro b hb
 obtain rfl:b'=b:=by simpa [Value.ownBlock] using hb
 exact hl
end
theorem ji (w:World) (v1:Value) (m:Nat) (f g:Nat→Nat) (h1:yc w v1 m f g) (b1:∀j,f j<256∧g j<256) (v2:Value) (m2:Nat) (f2 g2:Nat→Nat) (h2:yc w v2 m2 f2 g2) (b2:∀j,f2 j<256∧g2 j<256)
  (v3:Value) (n:Nat) (lens:Nat→Nat) (gx:Nat→Nat→Int) (h3:Ai w v3 n lens gx) (b3:∀j,j<n→∀i,i<lens j→(Lit.int .u8 (gx j i)).wf=true):
  Calls Tryz.prog 5 #[v1,v2,v3] w fun e w'=> e=.returned (.bool true)∧Below w.heap.size w w':=by
 have Iu:=Lib.hid h1
 have KS:=Lib.hid h2
 obtain ⟨us,Js⟩:=h3.Bz
 have HB3:Hid (∀j,j<n→∀i,i<lens j→0≤gx j i∧gx j i<256):=Lib.hid fun j hj i hi=> by have:=bounds_u8 (b3 j hj i hi);omega
 obtain ⟨q1,⟨al,cl,rfl,_,_,hc1⟩,hq1⟩:=h1
 obtain ⟨q2,⟨Ia,cs,rfl,_,_,hc2⟩,hq2⟩:=h2
 obtain ⟨ar,cr,rfl,_,_,Jm,hc3⟩:=Js
 have yV:=Lib.hid hc2
 have Ki:=Lib.hid hq2
 have DC:=Lib.hid hc3
 clear hc1 hq1 hc2 hq2 hc3 h3 b3 b1 b2 Jm
 go_enter Tryz.func5,Tryz.ntmps5
 go_wp2_with fail
 refine (xX w).mono ?_
 rintro e w1 ⟨rfl,b1⟩
 have B1:=Lib.hid b1
 clear b1
 by_cases hm:10<m
 ·have q1:(10:Int)<(m:Int):=by omega
  clear hm
  go_wp2
  go_ret
  exact ⟨rfl,B1.out⟩
 have HM:Hid (m≤10):=Lib.hid (by omega)
 have q1:¬ (10:Int)<(m:Int):=by omega
 clear hm
 go_wp2_with fail
 refine (iM w1).mono ?_
 rintro e w2 ⟨p,F,rfl,hs2,b2⟩
 have HS2:=Lib.hid hs2
 have B2:=Lib.hid (B1.out.trans (b2.mono B1.out.size))
 have Bo:Hid (w1.heap.size≤p∧p<w2.heap.size):=Lib.hid ⟨(fA.DL hs2).2,(fA.DL hs2).1⟩
 have Dw:Hid (∀b,F b→w1.heap.size≤b):=Lib.hid fun b hb=> fA.hi hs2 hb
 clear hs2 b2 q1
 go_wp2_with fail
 refine (lq (E:=aF w1.heap.size) (X:=⟨[], []⟩) (F:=F) HS2.out (show (0:Nat)≤800 by decide) (qV _)).mono ?_
 rw [qU _ 5 (Nat.le_refl _)]
 dsimp only
 rintro e w3 ⟨vr,vs,rfl,F3,qr,qs,hu⟩
 have U3:=Lib.hid hu
 have Kz:Hid (Calls Tryz.prog 46 #[.pointer (some ⟨p,0,none⟩),vr,vs,.slice al m cl] w3 fun e w'=> ∃vd,e=.returned (.tuple #[vd,.bool true])∧∃F' qd,iq (aF w1.heap.size) w2 p F w' ((aF w1.heap.size).dep (fE 5) kN aK f g m).1 F' vr vs (bE 5) (pI 5) qr qs vd ((aF w1.heap.size).dep (fE 5) kN aK f g m).2 qd):=Lib.hid
  (ni U3.out (Iu.out.below B2.out) (fun hm0 b hb=> by
   have h1:=Iu.out.lt hm0 b hb
   have h2:=B1.out.size
   exact fun hf=> hf.elim (fun e=> by have:=Bo.out.1;omega) fun hf=> by have:=Dw.out b hf;omega) HM.out (show (fE 5).l.length≤860 by decide) rfl rfl (fun i hi=> ⟨psT i,iC hi,rfl⟩) (fun i hi=> ⟨gy hi,by show (aR _).length≤300;rw [aP];decide⟩) fun k hk=> xW _ k (by have:=HM.out;omega))
 obtain ⟨gr,kr,gs,ks,rfl,rfl⟩:=hu.forms rfl rfl
 clear hu
 go_wp2_with fail
 refine Kz.out.mono ?_
 rintro e w4 ⟨vd,rfl,F4,qd,hd⟩
 obtain ⟨hg0,hl0,ho0,hb0⟩:=vU w1.heap.size (f:=f) (g:=g) m HM.out
 have hlen:((aF w1.heap.size).dep (fE 5) kN aK f g m).2.length=m:=bU.nk _ _ m
 obtain ⟨S0,hS0⟩:∃S:TS,S=((aF w1.heap.size).dep (fE 5) kN aK f g m).1:=⟨_,rfl⟩
 obtain ⟨D0,hD0⟩:∃D,D=((aF w1.heap.size).dep (fE 5) kN aK f g m).2:=⟨_,rfl⟩
 rw [←hS0] at hg0 hl0
 rw [←hD0] at ho0 hb0 hlen
 have I4:Hid (iq (aF w1.heap.size) w2 p F w4 S0 F4 (.slice (some ⟨gr,0,none⟩) 5 kr) (.slice (some ⟨gs,0,none⟩) 5 ks) (bE 5) (pI 5) qr qs vd D0 qd):=Lib.hid (by rw [hS0,hD0];exact hd)
 have yT:=Lib.hid hg0
 have AB:Hid (S0.l.length≤25):=Lib.hid (by have:=HM.out;omega)
 have FV:=Lib.hid ho0
 have HB0:=Lib.hid hb0
 have yR:=Lib.hid hlen
 have KF:Hid (Below w.heap.size w w4):=Lib.hid (B2.out.trans (I4.out.u.ch.dz.below B2.out.size fun b hb=> hb.elim (fun e=> by have:=Bo.out.1;have:=B1.out.size;omega) fun hb=> by have:=Dw.out b hb;have:=B1.out.size;omega))
 obtain ⟨ad,cd,ed,_,_⟩:=I4.out.dl.os.m.slice
 rw [hlen] at ed
 subst ed
 clear hd hg0 hl0 ho0 hb0 hlen hS0 hD0
 have Br:Hid (∀w',dV p F w2 w'→∀b i,b<w.heap.size→w'.cell? ⟨b,i,none⟩=w.cell? ⟨b,i,none⟩):=Lib.hid fun w' hc b i hb=> by
  have h0:¬ (b=p∨F b):=fun hf=> hf.elim (fun e=> by have:=Bo.out.1;have:=B1.out.size;omega) fun hf=> by have:=Dw.out b hf;have:=B1.out.size;omega
  exact (hc.dz.cell (p:=⟨b,i,none⟩) (Nat.lt_of_lt_of_le hb B2.out.size) h0).trans (B2.out.cell (p:=⟨b,i,none⟩) hb)
 have Db:Hid (∀j,j<n→∀w' F',dV p F w2 w'→(∀b,F' b→F b∨w2.heap.size≤b)→aT F' w' (us j) (je (lens j) (gx j))):=Lib.hid fun j hj w' F' hc hf=> by
  obtain ⟨b3,o3,_,hb3,qD⟩:=DC.out (by omega)
  have hr:=(qD j hj).2
  have hlt:0<lens j→∀b,(us j).ownBlock=some b→b<w.heap.size:=fun h0 b hb=> hr.rZ h0 hb
  have hnF:∀b,b<w.heap.size→¬ F b:=fun b hb hf=> by have:=Dw.out b hf;have:=B1.out.size;omega
  refine ⟨mQ fun i hi=> HB3.out j hj i hi,((hr.below B2.out).iY hc fun h0 b hb=> hnF b (hlt h0 b hb)).je,fun h0 b hb hF'=> ?_⟩
  rw [dL] at h0
  have:=hlt h0 b hb
  rcases hf b hF' with h | h
  ·exact hnF b this h
  ·have:=B2.out.size;omega
 go_wp2
 go_loopw [54] (fun i wr=> ∃k:Nat,∃D qd,k≤m∧i=.int .i64 (k:Int)∧D.length=m∧iq (aF w1.heap.size) w2 p F wr S0 F4 (.slice (some ⟨gr,0,none⟩) 5 kr) (.slice (some ⟨gs,0,none⟩) 5 ks) (bE 5) (pI 5) qr qs (.slice ad m cd) D qd∧jc D∧(∀d ∈ D,d.b.length≤100)) (fun i _=> m - (intOf i).toNat)
 case atStart=> exact ⟨0,D0,qd,Nat.zero_le _,rfl,yR.out,I4.out,FV.out,HB0.out⟩
 case round=>
  obtain ⟨k,D,qd,hk,rfl,hDl,hI,hO,hB⟩:=hrel
  have I:=Lib.hid hI
  have eY:=Lib.hid hDl
  have HO:=Lib.hid hO
  have wS:=Lib.hid hB
  clear hI hDl hO hB
  by_cases hlt:k<m
  ·have eB:=Lib.hid hlt
   obtain ⟨gd,kd,ed,_⟩:=I.out.dl.os.m.form (by rw [eY.out];omega)
   rw [eY.out] at ed
   cases ed
   by_cases h2:k<m2
   ·have KV:=Lib.hid h2
    have q2:(k:Int)<(m2:Int):=by omega
    have q2':k<m2:=h2
    obtain ⟨b2,o2,e2,hb2,Aa⟩:=yV.out (by omega)
    cases e2
    obtain ⟨r0,r1⟩:=Ki.out k h2
    have HB2:Hid (b2<wr.heap.size):=Lib.hid (Nat.lt_of_lt_of_le hb2 (Nat.le_trans B2.out.size I.out.u.ch.dz.size))
    have C0:Hid (wr.cell? ⟨b2,o2+k * 2,none⟩=some (.int .u8 (f2 k:Int))):=Lib.hid ((Br.out _ I.out.u.ch b2 _ hb2).trans ((Aa k h2 0 (by decide)).trans (by rw [r0])))
    have C1:Hid (wr.cell? ⟨b2,o2+k * 2+1,none⟩=some (.int .u8 (g2 k:Int))):=Lib.hid ((Br.out _ I.out.u.ch b2 _ hb2).trans ((Aa k h2 1 (by decide)).trans (by rw [r1])))
    clear h2 hb2 Aa r0 r1 hk
    go_upto_region 14 with (fail)
    apply jI (n:=203) (fun w5=> Below wr.heap.size wr w5) [.e,.e,.f,.f,.e,.e,.e,.e,.e,.c,.e,.e,.e,.e,.e,.c,.e,.e,.c,.f,.f,.c] 2 (by kernel_rfl) (by kernel_rfl) (by kernel_rfl) rfl
    ·exact (Below.refl _ _).drew
    ·intro w5 Cx
     have e0:=(Cx.cell (p:=⟨b2,o2+k * 2,none⟩) HB2.out).trans C0.out
     have e1:=(Cx.cell (p:=⟨b2,o2+k * 2+1,none⟩) HB2.out).trans C1.out
     simp only [aS,Cl.oM,cond_true,cond_false]
     repeat still_step
     exact wpStill_nil rfl
    ·intro w5
     simp only [aS,Cl.xM,cond_true,cond_false]
     repeat still_step
     exact wpStill_nil rfl
    ·simp only [aS,Cl.eG,cond_true,cond_false]
     refine jY ((Below.refl _ _).drew) (fun K hK=> ?_)
     go_simp
     refine (gQ (f2 k) _).mono ?_
     rintro e w4 ⟨rfl,b4⟩
     have CP:Below wr.heap.size wr w4:=((Below.refl _ _).drew).trans b4
     refine hK _ _ CP ?_
     clear hK K
     refine jY CP (fun K hK=> ?_)
     go_simp
     refine (gQ (g2 k) _).mono ?_
     rintro e w5 ⟨rfl,b5⟩
     have hB:Below wr.heap.size wr w5:=CP.trans (b5.mono CP.size)
     refine hK _ _ hB (vY ?_)
     clear hK K b4 CP b5
     have I5:=Lib.hid (I.out.below hB)
     have yu:=Lib.hid (I5.out.cell (j:=k) (by rw [eY.out];exact eB.out) 0 (by decide))
     have I6:=Lib.hid (vQ (a:=f2 k % 5) (by rw [eY.out];exact eB.out) eY.out I5.out)
     have L6:Hid ((D.set k ⟨aJ (f2 k % 5),(D.getD k gG).ta,(D.getD k gG).b⟩).length=m):=Lib.hid (by rw [List.length_set];exact eY.out)
     have Gl:=Lib.hid (I6.out.cell (j:=k) (by rw [L6.out];exact eB.out) 1 (by decide))
     have I7:=Lib.hid (vP (a:=f2 k % 5) (c:=g2 k % 5) (by rw [eY.out];exact eB.out) eY.out I5.out I6.out)
     obtain ⟨D7,hD7⟩:∃x,x=(D.set k ⟨aJ (f2 k % 5),(D.getD k gG).ta,(D.getD k gG).b⟩).set k ⟨aJ (f2 k % 5),aJ (g2 k % 5),(D.getD k gG).b⟩:=⟨_,rfl⟩
     rw [←hD7] at I7
     have L7:Hid (D7.length=m):=Lib.hid (by rw [hD7,List.length_set];exact L6.out)
     have O7:Hid (jc D7):=Lib.hid (by rw [hD7,List.set_set];exact HO.out.set ⟨⟨_,Nat.mod_lt _ (by decide),rfl⟩,⟨_,Nat.mod_lt _ (by decide),rfl⟩,(HO.out.at k (by rw [eY.out];exact eB.out)).2.2⟩)
     have Eo:Hid (∀d ∈ D7,d.b.length≤100):=Lib.hid fun d hd=> by
      rw [hD7,List.set_set] at hd
      rcases List.mem_or_eq_of_mem_set hd with hd | rfl
      ·exact wS.out d hd
      ·show (D.getD k gG).b.length≤100
       exact wS.out _ (oQ (d0:=gG) (by rw [eY.out];exact eB.out))
     clear hB hD7 C0 C1
     go_wp2_with (first
      | (refine bO rfl 9 _ _ rfl gd (k * 3) (.string (aJ (f2 k % 5))) _ rfl rfl (by kernel_rfl) rfl rfl yu.out.1 yu.out.2 ?_)
      | (refine bO rfl 9 _ _ rfl gd (k * 3+1) (.string (aJ (g2 k % 5))) _ rfl rfl (by kernel_rfl) rfl rfl Gl.out.1 Gl.out.2 ?_))
     refine rF ?_
     have q9:(k:Int)<1000000:=by have:=eB.out;have:=HM.out;omega
     obtain ⟨w7,hw7⟩:∃x,x=(w5.setCell ⟨gd,k * 3,none⟩ (.string (aJ (f2 k % 5)))).setCell ⟨gd,k * 3+1,none⟩ (.string (aJ (g2 k % 5))):=⟨_,rfl⟩
     rw [←hw7] at I7 ⊢
     clear hw7 I6 yu Gl I5
     go_upto_region 15 with (fail)
     by_cases hn:k<n
     ·have HN:=Lib.hid hn
      obtain ⟨b3,o3,e3,hb3,qD⟩:=DC.out (by omega)
      cases e3
      obtain ⟨hck,Cb⟩:=qD k hn
      obtain ⟨ax,cx,ex,_⟩:=id Cb
      rw [ex] at hck
      have ck:w7.cell? ⟨b3,o3+k,none⟩=some (.slice ax (lens k) cx):=(Br.out _ I7.out.u.ch b3 (o3+k) hb3).trans hck
      have YR:Hid (aT F4 w7 (.slice ax (lens k) cx) (je (lens k) (gx k))):=Lib.hid (ex▸Db.out k hn _ _ I7.out.u.ch I7.out.u.fo)
      have q3:(k:Int)<(n:Int):=by omega
      clear hck Cb qD hb3 hn ex
      by_cases hz:0<lens k
      ·by_cases hh:lens k<100
       ·have q4:(0:Int)<(lens k:Int):=by omega
        have q5:(lens k:Int)<100:=by omega
        have ED:0<lens k:=hz
        have EC:lens k<100:=hh
        have FR:=Lib.hid hh
        have yu:=Lib.hid (I7.out.cell (j:=k) (by rw [L7.out];exact eB.out) 2 (by decide))
        clear hz hh
        go_wp2_with (refine bO rfl 23 _ _ rfl gd (k * 3+2) (.slice ax (lens k) cx) _ rfl rfl Tryz.sizeBs rfl rfl yu.out.1 yu.out.2 ?_)
        have IZ:=Lib.hid (oU (by rw [L7.out];exact eB.out) L7.out I7.out YR.out)
        have OZ:Hid (jc ((D7).set k ⟨((D7).getD k gG).fr,((D7).getD k gG).ta,je (lens k) (gx k)⟩)):=Lib.hid (O7.out.set ⟨(O7.out.at k (by rw [L7.out];exact eB.out)).1,(O7.out.at k (by rw [L7.out];exact eB.out)).2.1,YR.out.ok⟩)
        have BZ:Hid (∀d ∈ (D7).set k ⟨((D7).getD k gG).fr,((D7).getD k gG).ta,je (lens k) (gx k)⟩,d.b.length≤100):=Lib.hid fun d hd=> by
         rcases List.mem_or_eq_of_mem_set hd with hd | rfl
         ·exact Eo.out d hd
         ·show (je _ _).length≤100
          rw [dL];have:=FR.out;omega
        go_roundw
        case rel=> exact ⟨k+1,_,_,eB.out,by go_num,by rw [List.length_set];exact L7.out,IZ.out,OZ.out,BZ.out⟩
        case measure=> have:=eB.out;simp [intOf] <;> omega
       ·have q4:(0:Int)<(lens k:Int):=by omega
        have q5:¬ (lens k:Int)<100:=by omega
        have ED:0<lens k:=hz
        have EC:¬ lens k<100:=hh
        clear hz hh
        go_wp2
        go_roundw
        case rel=> exact ⟨k+1,_,_,eB.out,by go_num,L7.out,I7.out,O7.out,Eo.out⟩
        case measure=> have:=eB.out;simp [intOf] <;> omega
      ·have hz0:lens k=0:=by omega
       rw [hz0] at ck
       have q4:¬ (0:Int)<(0:Int):=by omega
       clear hz hz0
       go_wp2
       go_roundw
       case rel=> exact ⟨k+1,_,_,eB.out,by go_num,L7.out,I7.out,O7.out,Eo.out⟩
       case measure=> have:=eB.out;simp [intOf] <;> omega
     ·have q3:¬ (k:Int)<(n:Int):=by omega
      have q3':¬ k<n:=hn
      clear hn
      go_wp2
      go_roundw
      case rel=> exact ⟨k+1,_,_,eB.out,by go_num,L7.out,I7.out,O7.out,Eo.out⟩
      case measure=> have:=eB.out;simp [intOf] <;> omega
   ·have q2:¬ (k:Int)<(m2:Int):=by omega
    have q2':¬ k<m2:=h2
    have q9:(k:Int)<1000000:=by have:=HM.out;omega
    clear h2 hk
    by_cases hn:k<n
    ·have HN:=Lib.hid hn
     obtain ⟨b3,o3,e3,hb3,qD⟩:=DC.out (by omega)
     cases e3
     obtain ⟨hck,Cb⟩:=qD k hn
     obtain ⟨ax,cx,ex,_⟩:=id Cb
     rw [ex] at hck
     have ck:wr.cell? ⟨b3,o3+k,none⟩=some (.slice ax (lens k) cx):=(Br.out _ I.out.u.ch b3 (o3+k) hb3).trans hck
     have YR:Hid (aT F4 wr (.slice ax (lens k) cx) (je (lens k) (gx k))):=Lib.hid (ex▸Db.out k hn _ _ I.out.u.ch I.out.u.fo)
     have q3:(k:Int)<(n:Int):=by omega
     clear hck Cb qD hb3 hn ex
     by_cases hz:0<lens k
     ·by_cases hh:lens k<100
      ·have q4:(0:Int)<(lens k:Int):=by omega
       have q5:(lens k:Int)<100:=by omega
       have ED:0<lens k:=hz
       have EC:lens k<100:=hh
       have FR:=Lib.hid hh
       have yu:=Lib.hid (I.out.cell (j:=k) (by rw [eY.out];exact eB.out) 2 (by decide))
       clear hz hh
       go_wp2_with (refine bO rfl 23 _ _ rfl gd (k * 3+2) (.slice ax (lens k) cx) _ rfl rfl Tryz.sizeBs rfl rfl yu.out.1 yu.out.2 ?_)
       have IZ:=Lib.hid (oU (by rw [eY.out];exact eB.out) eY.out I.out YR.out)
       have OZ:Hid (jc ((D).set k ⟨((D).getD k gG).fr,((D).getD k gG).ta,je (lens k) (gx k)⟩)):=Lib.hid (HO.out.set ⟨(HO.out.at k (by rw [eY.out];exact eB.out)).1,(HO.out.at k (by rw [eY.out];exact eB.out)).2.1,YR.out.ok⟩)
       have BZ:Hid (∀d ∈ (D).set k ⟨((D).getD k gG).fr,((D).getD k gG).ta,je (lens k) (gx k)⟩,d.b.length≤100):=Lib.hid fun d hd=> by
        rcases List.mem_or_eq_of_mem_set hd with hd | rfl
        ·exact wS.out d hd
        ·show (je _ _).length≤100
         rw [dL];have:=FR.out;omega
       go_roundw
       case rel=> exact ⟨k+1,_,_,eB.out,by go_num,by rw [List.length_set];exact eY.out,IZ.out,OZ.out,BZ.out⟩
       case measure=> have:=eB.out;simp [intOf] <;> omega
      ·have q4:(0:Int)<(lens k:Int):=by omega
       have q5:¬ (lens k:Int)<100:=by omega
       have ED:0<lens k:=hz
       have EC:¬ lens k<100:=hh
       clear hz hh
       go_wp2
       go_roundw
       case rel=> exact ⟨k+1,_,_,eB.out,by go_num,eY.out,I.out,HO.out,wS.out⟩
       case measure=> have:=eB.out;simp [intOf] <;> omega
     ·have hz0:lens k=0:=by omega
      rw [hz0] at ck
      have q4:¬ (0:Int)<(0:Int):=by omega
      clear hz hz0
      go_wp2
      go_roundw
      case rel=> exact ⟨k+1,_,_,eB.out,by go_num,eY.out,I.out,HO.out,wS.out⟩
      case measure=> have:=eB.out;simp [intOf] <;> omega
    ·have q3:¬ (k:Int)<(n:Int):=by omega
     have q3':¬ k<n:=hn
     clear hn
     go_wp2
     go_roundw
     case rel=> exact ⟨k+1,_,_,eB.out,by go_num,eY.out,I.out,HO.out,wS.out⟩
     case measure=> have:=eB.out;simp [intOf] <;> omega
  ·obtain rfl:k=m:=by omega
   clear hlt hk
   as_aux_lemma=>
    have BR:=I.out.u.ql rfl (j:=0) (by decide)
    obtain ⟨a0,c0,e0⟩:=aT.slice (I.out.u.ss.bs 0 (aK 0) rfl)
    have k0:wr.cell? ⟨gs,0,none⟩=some (.slice a0 9 c0):=BR.trans (by rw [e0];rfl)
    have Bl:Hid (aT F4 wr (.slice a0 9 c0) (aK 0)):=Lib.hid (by have:=I.out.u.ss.bs 0 (aK 0) rfl;unfold wY at this;rw [e0] at this;exact this)
    have yw:=Lib.hid (lS (E:=(aF w1.heap.size).toEng) (X:=S0) (me:=aJ 0) (sec:=aK 0) (D:=D) I.out.u.m I.out.u.ro (fun b hb=> (I.out.u.rn b hb).1) I.out.dl (fun b hb=> (I.out.dn b hb).1) Bl.out (by rw [eY.out];exact HM.out) (fun j d hd=> Nat.le_trans (wS.out d (List.mem_of_getElem? hd)) (by decide)) (by show (aR _).length≤1000;rw [aP];decide) (show S0.l.length≤600 by have:=AB.out;omega))
    have IC:=Lib.hid (fun (i:Nat) (hi:i≤20)=> yN w1.heap.size (S0:=S0) (q:=⟨S0, [⟨aJ 0,aK 0⟩],false⟩) (D:=D) yT.out ⟨oW.refl _,yT.out.ok,fun h hh=> ⟨0,by decide,by simpa using hh⟩⟩ HO.out (by rw [eY.out];exact HM.out) rfl (show S0.l.length≤300 by have:=AB.out;omega) i hi)
    have wW:=Lib.hid (fun (i:Nat)=> Eng.nG (E:=(aF w1.heap.size).toEng) (ro:=bE 5) (D:=D) (s:=⟨S0, [⟨aJ 0,aK 0⟩],false⟩) (by simp) i)
    clear e0 BR
    go_wp2_with fail
    refine yw.out.mono ?_
    rintro e w8 ⟨i,vo,rfl,hi,F8,qo,ha⟩
    have zX:i≤20:=by
     have h1:=wW.out i
     have h2:=nu D ((aF w1.heap.size).all (bE 5) D ⟨S0, [⟨aJ 0,aK 0⟩],false⟩ i).out
     rw [eY.out] at h2
     have:=HM.out
     omega
    obtain ⟨t1,t2,t3,t4⟩:=IC.out i zX
    obtain ⟨⟨SX,OUT,BAD⟩,hST⟩:∃s:gI TS,s=(aF w1.heap.size).all (bE 5) D ⟨S0, [⟨aJ 0,aK 0⟩],false⟩ i:=⟨_,rfl⟩
    have e1:((aF w1.heap.size).all (bE 5) D ⟨S0, [⟨aJ 0,aK 0⟩],false⟩ i).bad=BAD:=congrArg gI.bad hST.symm
    have A8:Hid (kZ (aF w1.heap.size).toEng wr p F4 w8 vo (⟨SX,OUT,BAD⟩:gI TS) F8 qo):=Lib.hid (by rw [hST];exact ha)
    rw [e1]
    replace hi:(⟨SX,OUT,BAD⟩:gI TS).out.length=i:=by rw [hST];exact hi
    replace hi:OUT.length=i:=hi
    replace t1:JT S0 (⟨SX,OUT,BAD⟩:gI TS):=by rw [hST];exact t1
    replace t2:(⟨SX,OUT,BAD⟩:gI TS).bad=((⟨SX,OUT,BAD⟩:gI TS).out.take i).any (fun h=> D.any (aQ S0 h)):=by rw [hST];exact t2
    replace t2:BAD=(OUT.take i).any (fun h=> D.any (aQ S0 h)):=t2
    replace t3: [(⟨aJ 0,aK 0⟩:jy)] <+:(⟨SX,OUT,BAD⟩:gI TS).out:=by rw [hST];exact t3
    replace t4:∀(i':Nat) h,i'<i→(⟨SX,OUT,BAD⟩:gI TS).out[i']? =some h→∀d ∈ D,d.ta=h.nm→aQ S0 h d=false→d.fr ∈ (⟨SX,OUT,BAD⟩:gI TS).out.map (·.nm):=by rw [hST];exact t4
    have HBAD:Hid (BAD=OUT.any (fun h=> D.any (aQ S0 h))):=Lib.hid (by have:=t2;rwa [List.take_of_length_le (Nat.le_of_eq hi)] at this)
    have Kl:Hid (∀h ∈ OUT,xE h):=Lib.hid t1.ho
    have Iw:Hid (oW S0 SX):=Lib.hid t1.np
    have FU:Hid (OUT[0]? =some ⟨aJ 0,aK 0⟩):=Lib.hid (eT t3 rfl)
    have Dp:Hid (∀(j:Nat) h,OUT[j]? =some h→∀d ∈ D,d.ta=h.nm→aQ S0 h d=false→d.fr ∈ OUT.map (·.nm)):=Lib.hid fun j h hj=> t4 j h (by have:=(List.getElem?_eq_some_iff.1 hj).1;omega) hj
    have Ee:Hid (OUT.length≤20):=Lib.hid (by omega)
    have Im:Hid (SX.l.length≤1000):=Lib.hid (by
     have h1:=Eng.nE (E:=(aF w1.heap.size).toEng) (ro:=bE 5) (D:=D) (s:=⟨S0, [⟨aJ 0,aK 0⟩],false⟩) i
     have h1:(⟨SX,OUT,BAD⟩:gI TS).X.l.length≤S0.l.length+2 * (i * D.length):=by rw [hST];exact h1
     have h1:SX.l.length≤S0.l.length+2 * (i * D.length):=h1
     have h2:i * D.length≤20 * 10:=Nat.mul_le_mul zX (by rw [eY.out];exact HM.out)
     have:=AB.out
     omega)
    have I8:Hid (iq (aF w1.heap.size) w2 p F w8 SX F8 (.slice (some ⟨gr,0,none⟩) 5 kr) (.slice (some ⟨gs,0,none⟩) 5 ks) (bE 5) (pI 5) qr qs (.slice ad k cd) D qd):=Lib.hid (I.out.step A8.out.m A8.out.ch fun b hb=> A8.out.fo b hb)
    have Em:Hid (Below w.heap.size w w8):=Lib.hid (B2.out.trans (I8.out.u.ch.dz.below B2.out.size fun b hb=> hb.elim (fun e=> by have:=Bo.out.1;have:=B1.out.size;omega) fun hb=> by have:=Dw.out b hb;have:=B1.out.size;omega))
    obtain ⟨av,cv,ev,_,_⟩:=A8.out.ou.os.m.slice
    replace ev:vo=.slice av OUT.length cv:=ev
    subst ev
    obtain ⟨N,hN⟩:∃N,N=OUT.length:=⟨_,rfl⟩
    have kD:=Lib.hid hN
    rw [←hN] at A8 ⊢
    clear ha hi zX t1 t2 t3 t4 hST e1 hN k0 yw IC wW
    go_wp2
    go_loopw [16,122] (fun wb i wr=> ∃q:Nat,q≤N∧i=.int .i64 (q:Int)∧wb=.bool ((OUT.take q).any (fun h=> D.any (aQ S0 h)))∧Below w8.heap.size w8 wr) (fun _ i _=> N - (intOf i).toNat)
    case atStart=> exact ⟨0,Nat.zero_le _,rfl,rfl,Below.refl _ _⟩
    case round=>
     rename World=> wo
     obtain ⟨q,hq,rfl,rfl,GX⟩:=hrel
     have Bu:=Lib.hid GX
     obtain ⟨WB,Fg⟩:∃b,b=(OUT.take q).any (fun h=> D.any (aQ S0 h)):=⟨_,rfl⟩
     have FL:=Lib.hid Fg
     rw [←Fg]
     clear GX Fg
     by_cases DR:q<N
     ·have Bn:=Lib.hid DR
      have AO:=Lib.hid (A8.out.below Bu.out)
      have IO:=Lib.hid (I8.out.below Bu.out)
      obtain ⟨hh,hhd⟩:∃d,OUT[q]? =some d:=⟨_,List.getElem?_eq_getElem (by rw [←kD.out];exact DR)⟩
      obtain ⟨aw,GZ,rfl⟩:=Kl.out hh (List.mem_of_getElem? hhd)
      have Dr:=Lib.hid hhd
      have yx:=Lib.hid GZ
      have tH:Hid (qM F8 wo (qo q) ⟨aJ aw,aK aw⟩):=Lib.hid (AO.out.ou.bs q _ hhd)
      obtain ⟨go,ko,eo,hrow,_,_,hcell⟩:=AO.out.ou.os.m.form (by show 0<OUT.length;rw [←kD.out];omega)
      have pK:Hid (∀i,i<2→wo.cell? ⟨go,q * 2+i,none⟩=some (qo q i)):=Lib.hid (hcell q (by show q<OUT.length;rw [←kD.out];exact DR))
      replace eo:Value.slice av N cv=.slice (some ⟨go,0,none⟩) OUT.length ko:=eo
      rw [←kD.out] at eo
      cases eo
      have Gf:Hid (go<wo.heap.size):=Lib.hid hrow.lt
      have wN:=Lib.hid tH.out.one
      obtain ⟨ah,ch,eh⟩:=tH.out.z1.slice
      have yj:Hid (qo q 1=.slice ah 9 ch):=Lib.hid (eh.trans (by rw [show (aK aw).length=9 from aP _]))
      clear hhd GZ hrow hcell eh hq
      go_upto_region 23 with (first | (refine aZ rfl rfl rfl Tryz.underlying71 rfl Tryz.sizeHdC pK.out ?_) | (refine aU rfl 71 _ _ rfl wo.heap.size 2 (qo q) _ 71 (heap_alloc_new _ _) rfl Tryz.sizeHdC rfl rfl wN.out ?_))
      refine aI (fun w4=> aV w4 wo.heap.size 2 71 (qo q)∧Below wo.heap.size wo w4) ⟨aV.setRow (heap_alloc_new _ _),aH ((Below.refl _ _).alloc (Nat.le_refl _) _) (Nat.le_refl _) _⟩ ?_
      rintro w9 ⟨EN,EY⟩
      have R9:=Lib.hid EN
      have DI:=Lib.hid (Bu.out.trans (EY.mono Bu.out.size))
      have oZ:Hid (wo.heap.size<w9.heap.size):=Lib.hid EN.1.lt
      obtain ⟨x18,sV⟩:∃x,x=wo.heap.size:=⟨_,rfl⟩
      rw [←sV] at R9 oZ ⊢
      have E0:Hid (w9.cell? ⟨x18,0,none⟩=some (.string (aJ aw))):=Lib.hid ((R9.out.2 0 (by decide)).trans (by rw [tH.out.z0]))
      have E1:Hid (w9.cell? ⟨x18,1,none⟩=some (.slice ah 9 ch)):=Lib.hid ((R9.out.2 1 (by decide)).trans (by rw [yj.out]))
      have I9:=Lib.hid (I8.out.below DI.out)
      have tV:Hid (aT F8 w9 (.slice ah 9 ch) (aK aw)):=Lib.hid (by have:=(tH.out.below EY).z1;rwa [yj.out] at this)
      obtain ⟨ak,ck,ek⟩:=aT.slice (I9.out.u.ss.bs aw (aK aw) (gy yx.out))
      rw [show (aK aw).length=9 from aP _] at ek
      have tF:Hid (w9.cell? ⟨gs,aw * 1,none⟩=some (.slice ak 9 ck)):=Lib.hid ((I9.out.u.ql rfl yx.out).trans (by rw [ek]))
      have Ar:Hid (aT F8 w9 (.slice ak 9 ck) (aK aw)):=Lib.hid (by have:=I9.out.u.ss.bs aw (aK aw) (gy yx.out);unfold wY at this;rwa [ek] at this)
      have tY:Hid (gs<w9.heap.size):=Lib.hid (I9.out.u.ss.os.m.lt gs rfl)
      have wV:Hid (∀w',Below w9.heap.size w9 w'→Calls Tryz.prog 19 #[.slice ah 9 ch,.slice ak 9 ck] w' fun e wz=> e=.returned (.bool true)∧Below w'.heap.size w' wz):=Lib.hid fun w' hb'=> by
       have h1:=(tV.out.below hb').rd
       have h2:=(Ar.out.below hb').rd
       rw [show (aK aw).length=9 from aP _] at h1 h2
       have:=mG _ _ 9 9 (bf (aK aw)) (bf (aK aw)) w' h1 h2
       rwa [show fQ 9 (bf (aK aw)) 9 (bf (aK aw))=true from by unfold fQ;rw [decide_eq_true rfl,gB];rfl] at this
      have Da:Hid (mD (aJ aw) (0:Int).toNat=97+(aw:Int)):=Lib.hid (mq yx.out)
      have CY:Hid ((0:Int)<((aJ aw).size:Int)):=Lib.hid (by show (0:Int)<((1:Nat):Int);decide)
      have CZ:Hid (IntKind.u8.wrap (97+(aw:Int) - 97)=(aw:Int)):=Lib.hid (pY yx.out)
      clear EN EY sV ek pK
      by_cases hq0:q=0
      ·have yQ:Hid (((q:Int)==0)=true):=Lib.hid (by rw [hq0];rfl)
       have IV:Hid ((!decide (aJ aw=⟨#[97]⟩))=false):=Lib.hid (by
        have e:=Dr.out
        rw [hq0,FU.out] at e
        have e:=congrArg jy.nm (Option.some.inj e)
        have e:aJ 0=aJ aw:=e
        rw [←e]
        rfl)
       refine bS (n:=203) (by kernel_rfl) (by kernel_rfl) (by kernel_rfl) rfl
        (fun ii vv _=> (match ii with | 0=> vv=.pointer (some ⟨x18,1,none⟩) | 1=> vv=.slice ah 9 ch | 2=> vv=.slice (some ⟨gs,0,none⟩) 5 ks | 3 | 15=> vv=.pointer (some ⟨x18,0,none⟩) | 4 | 16=> vv=.string (aJ aw) | 5=> vv=.int .u8 ((97+(aw:Int))) | 6=> vv=.int .u8 ((aw:Int)) | 7=> vv=.pointer (some ⟨gs,aw * 1,none⟩) | 8=> vv=.slice ak 9 ck | 9 | 13 | 14=> vv=.bool true | 10 | 11 | 17 | 18 | 19=> vv=.bool false | 12=> vv=.int .i64 ((q:Int)) | _=> True))
        (fun w w'=> Below w.heap.size w w') (fun _ _ h=> h) (fun _ _ _ _ h _=> h) ?_ ?_
       ·refine Each.all ?_
        refine ⟨?_,?_,?_,?_,?_,?_,?_,?_,?_,?_,?_,?_,?_,?_,?_,?_,?_,?_,?_,?_,trivial⟩
        ·intro a w2 hB hF hd
         rw [if_pos (ay rfl)]
         refine aA (fun h=> by cases h) (aM (m:=0) (k:=1) rfl (hF.same 18 rfl) (by kernel_rfl)) ?_
         exact rfl
        ·intro a w2 hB hF hd
         rw [if_pos (ay rfl)]
         exact aA (fun h=> by cases h) (aN rfl (hd 0 _ rfl (aj rfl)) Tryz.underlying23 ((hB.cell (p:=⟨x18,1,none⟩) oZ.out).trans E1.out)) rfl
        ·intro a w2 hB hF hd
         rw [if_pos (ay rfl)]
         exact aD _ (.inl rfl) (by simp) (hF.same 9 rfl)
        ·intro a w2 hB hF hd
         rw [if_pos (ay rfl)]
         refine aA (fun h=> by cases h) (aM (m:=0) (k:=0) rfl (hF.same 18 rfl) (by kernel_rfl)) ?_
         exact rfl
        ·intro a w2 hB hF hd
         rw [if_pos (ay rfl)]
         exact aA (fun h=> by cases h) (aY rfl (hd 3 _ rfl (aj rfl)) Tryz.underlying9 ((hB.cell (p:=⟨x18,0,none⟩) oZ.out).trans E0.out)) rfl
        ·intro a w2 hB hF hd
         rw [if_pos (ay rfl)]
         exact aA (fun h=> by cases h) (cK rfl (hd 4 _ rfl (aj rfl)) rfl Tryz.underlying9 (by decide) CY.out) (congrArg (Value.int .u8) Da.out)
        ·intro a w2 hB hF hd
         rw [if_pos (ay rfl)]
         exact aA (fun h=> by cases h) (Go.aG.jo rfl (hd 5 _ rfl (aj rfl)) rfl) (congrArg (Value.int .u8) (CZ.out))
        ·intro a w2 hB hF hd
         rw [if_pos (ay rfl)]
         exact aA (fun h=> by cases h) (aL (i:=aw) (sz:=1) rfl (hd 2 _ rfl (aj rfl)) (hd 6 _ rfl (aj rfl)) Tryz.underlying55 Tryz.sizeBs yx.out) rfl
        ·intro a w2 hB hF hd
         rw [if_pos (ay rfl)]
         exact aA (fun h=> by cases h) (aN rfl (hd 7 _ rfl (aj rfl)) Tryz.underlying23 ((hB.cell (p:=⟨gs,aw * 1,none⟩) tY.out).trans tF.out)) rfl
        ·intro a w2 hB hF hd
         rw [if_pos (ay rfl)]
         refine bT _ _ _ rfl Tryz.call19 _ (args2 (hd 1 _ rfl (aj rfl)) (hd 8 _ rfl (aj rfl))) (by simp) ((wV.out w2 hB).mono ?_)
         rintro e w3 ⟨rfl,hb⟩;exact ⟨_,rfl,rfl,hb⟩
        ·intro a w2 hB hF hd
         rw [if_pos (ay rfl)]
         exact aA (fun h=> by cases h) (gL rfl (hd 9 _ rfl (aj rfl))) rfl
        ·intro a w2 hB hF hd
         rw [if_pos (ay rfl)]
         exact aD _ (.inl rfl) (by simp) (hd 10 _ rfl (aj rfl))
        ·intro a w2 hB hF hd
         refine aB (aC rfl rfl (hd 11 _ rfl (aj rfl)) rfl) ?_
         exact aD _ (.inl rfl) (by simp) (hF.same 17 rfl)
        ·intro a w2 hB hF hd
         refine aB (aC rfl rfl (hd 11 _ rfl (aj rfl)) rfl) ?_
         refine aA (fun h=> by cases h) (Go.aG.dS rfl (hd 12 _ rfl (aj rfl)) rfl) ?_
         exact congrArg Value.bool yQ.out
        ·intro a w2 hB hF hd
         refine aB (aC rfl rfl (hd 11 _ rfl (aj rfl)) rfl) ?_
         exact aD _ (.inl rfl) (by simp) (hd 13 _ rfl (aj rfl))
        ·intro a w2 hB hF hd
         refine aB (aC rfl rfl (hd 14 _ rfl (aj rfl)) rfl) ?_
         refine aA (fun h=> by cases h) (aM (m:=0) (k:=0) rfl (hF.same 18 rfl) (by kernel_rfl)) ?_
         exact rfl
        ·intro a w2 hB hF hd
         refine aB (aC rfl rfl (hd 14 _ rfl (aj rfl)) rfl) ?_
         exact aA (fun h=> by cases h) (aY rfl (hd 15 _ rfl (aj rfl)) Tryz.underlying9 ((hB.cell (p:=⟨x18,0,none⟩) oZ.out).trans E0.out)) rfl
        ·intro a w2 hB hF hd
         refine aB (aC rfl rfl (hd 14 _ rfl (aj rfl)) rfl) ?_
         exact aA (fun h=> by cases h) (iO rfl (hd 16 _ rfl (aj rfl)) rfl Tryz.underlying9) (congrArg Value.bool IV.out)
        ·intro a w2 hB hF hd
         refine aB (aC rfl rfl (hd 11 _ rfl (aj rfl)) rfl) ?_
         exact aA (fun h=> by cases h) (bM rfl (hd 14 _ rfl (aj rfl))) ((hd 17 _ rfl (aj rfl)))
        ·intro a w2 hB hF hd
         rw [if_pos (ay rfl)]
         exact aA (fun h=> by cases h) (bM rfl (hd 11 _ rfl (aj rfl))) ((hd 18 _ rfl (aj rfl)))
       ·intro a BG hB hF hS
        have ha:=aX rfl rfl hF [_,_,_,_,_,_,_,_,_,_,_,_,_,_,_,_,_,_,_,_] rfl ⟨hS 0 _ rfl,hS 1 _ rfl,hS 2 _ rfl,hS 3 _ rfl,hS 4 _ rfl,hS 5 _ rfl,hS 6 _ rfl,hS 7 _ rfl,hS 8 _ rfl,hS 9 _ rfl,hS 10 _ rfl,hS 11 _ rfl,hS 12 _ rfl,hS 13 _ rfl,hS 14 _ rfl,hS 15 _ rfl,hS 16 _ rfl,hS 17 _ rfl,hS 18 _ rfl,hS 19 _ rfl,trivial⟩
        simp only [puts,Act.put,List.setIfInBounds_toArray,List.set_cons_succ,List.set_cons_zero] at ha
        subst ha
        clear hS hF
        have B10:=Lib.hid (DI.out.trans (hB.mono DI.out.size))
        have FI:=Lib.hid (R9.out.below hB)
        have wL:=Lib.hid (tV.out.below hB)
        clear hB hq0 yQ IV R9 tV wV tF Ar E0 E1 tY oZ
        go_wp2
        go_loopw [16,149] (fun wb i wr=> ∃j:Nat,j≤k∧i=.int .i64 (j:Int)∧wb=.bool (WB || (D.take j).any (aQ S0 ⟨aJ aw,aK aw⟩))∧Below BG.heap.size BG wr) (fun _ i _=> k - (intOf i).toNat)
        case atStart=> exact ⟨0,Nat.zero_le _,rfl,by simp,Below.refl _ _⟩
        case round=>
         rename World=> wi
         obtain ⟨j,hj,rfl,rfl,hbi⟩:=hrel
         have tQ:=Lib.hid hbi
         obtain ⟨WJ,Ab⟩:∃b,b=(WB || (D.take j).any (aQ S0 ⟨aJ aw,aK aw⟩)):=⟨_,rfl⟩
         have Ao:=Lib.hid Ab
         rw [←Ab]
         clear hbi Ab
         by_cases hjl:j<k
         ·have pE:=Lib.hid hjl
          have BI:=Lib.hid (B10.out.trans (tQ.out.mono B10.out.size))
          have II:=Lib.hid (I8.out.below BI.out)
          have RI:=Lib.hid (FI.out.below tQ.out)
          have Au:=Lib.hid (wL.out.below tQ.out)
          obtain ⟨d,hd⟩:∃d,D[j]? =some d:=⟨_,List.getElem?_eq_getElem (by rw [eY.out];exact hjl)⟩
          have AP:=Lib.hid hd
          obtain ⟨⟨a2,ha2,hfr⟩,_,Bc⟩:=HO.out d (List.mem_of_getElem? hd)
          have HA2:=Lib.hid ha2
          have wO:=Lib.hid hfr
          have HDR:Hid (nL F8 wi (qd j) d):=Lib.hid (II.out.dl.bs j d hd)
          have pz:=Lib.hid HDR.out.one
          obtain ⟨gd,kd,ed,hrow,_,_,hcell⟩:=II.out.dl.os.m.form (by rw [eY.out];omega)
          have wR:Hid (∀i,i<3→wi.cell? ⟨gd,j * 3+i,none⟩=some (qd j i)):=Lib.hid (hcell j (by rw [eY.out];exact hjl))
          rw [eY.out] at ed
          cases ed
          obtain ⟨ab,cb,eb⟩:=HDR.out.z2.slice
          have Dy:=Lib.hid eb
          have wG:Hid ((D.take (j+1)).any (aQ S0 ⟨aJ aw,aK aw⟩)=((D.take j).any (aQ S0 ⟨aJ aw,aK aw⟩) || aQ S0 ⟨aJ aw,aK aw⟩ d)):=Lib.hid (by rw [List.take_add_one,hd,List.any_append];simp)
          clear hd ha2 hfr Bc hrow hcell eb hj
          go_upto_region 28 with (first | (refine aZ rfl rfl rfl Tryz.underlying66 rfl Tryz.sizeDp wR.out ?_) | (refine aU rfl 66 _ _ rfl wi.heap.size 3 (qd j) _ 66 (heap_alloc_new _ _) rfl Tryz.sizeDp rfl rfl pz.out ?_))
          refine aI (fun w4=> aV w4 wi.heap.size 3 66 (qd j)∧Below wi.heap.size wi w4) ⟨aV.setRow (heap_alloc_new _ _),aH ((Below.refl _ _).alloc (Nat.le_refl _) _) (Nat.le_refl _) _⟩ ?_
          rintro pQ ⟨qC,iI⟩
          have wC:=Lib.hid qC
          have B11:=Lib.hid (tQ.out.trans (iI.mono tQ.out.size))
          have CU:=Lib.hid (II.out.below iI)
          have wF:Hid (wi.heap.size<pQ.heap.size):=Lib.hid qC.1.lt
          have Ak:=Lib.hid (RI.out.below iI)
          have wK:=Lib.hid (Au.out.below iI)
          have kE:=Lib.hid (HDR.out.below iI)
          obtain ⟨x20,uZ⟩:∃x,x=wi.heap.size:=⟨_,rfl⟩
          rw [←uZ] at wC wF ⊢
          have g0:pQ.cell? ⟨x18,0,none⟩=some (.string (aJ aw)):=(Ak.out.2 0 (by decide)).trans (by rw [tH.out.z0])
          have g1:pQ.cell? ⟨x18,1,none⟩=some (.slice ah 9 ch):=(Ak.out.2 1 (by decide)).trans (by rw [yj.out])
          have f0:pQ.cell? ⟨x20,0,none⟩=some (.string (aJ a2)):=(wC.out.2 0 (by decide)).trans (by rw [kE.out.z0,wO.out])
          have f1:pQ.cell? ⟨x20,1,none⟩=some (.string d.ta):=(wC.out.2 1 (by decide)).trans (by rw [kE.out.z1])
          have f2':pQ.cell? ⟨x20,2,none⟩=some (.slice ab d.b.length cb):=(wC.out.2 2 (by decide)).trans (by rw [Dy.out])
          have FJ:Hid (aT F8 pQ (.slice ab d.b.length cb) d.b):=Lib.hid (by have:=kE.out.z2;rwa [Dy.out] at this)
          have q9:(j:Int)<1000000:=by have:=HM.out;omega
          clear qC iI uZ wR HDR pz
          by_cases ht:d.ta=aJ aw
          ·have qe:(d.ta.toList==(aJ aw).toList)=true:=fK ht
           have HT:=Lib.hid ht
           have JW:Hid (d.b.length≤400):=Lib.hid (Nat.le_trans (wS.out d (List.mem_of_getElem? AP.out)) (by decide))
           have CX:=Lib.hid (fF CU.out.u.m wK.out FJ.out Im.out)
           obtain ⟨⟨U1,U2⟩,hU⟩:∃U,U=aO SX (aK aw) d.b:=⟨_,rfl⟩
           rw [←hU] at CX
           have Du:Hid (aQ S0 ⟨aJ aw,aK aw⟩ d= !decide ((U1,U2)=(aK a2,0))):=Lib.hid (by
            have Cj:bC S0 (aK aw)=some (3 * aw):=bZ (yT.out.lt yx.out) (Nat.le_trans yT.out.len (by decide))
            have hm:=jD (y:=aK a2) yT.out.ok Iw.out (HO.out d (List.mem_of_getElem? AP.out)).2.2 (mE aw) Cj
            unfold aQ
            rw [decide_eq_true ht,wO.out,qB HA2.out,hU,Bool.true_and]
            exact congrArg (!·) (decide_eq_decide.2 hm))
           clear ht hU
           go_wp2_with fail
           refine CX.out.mono ?_
           rintro e pO ⟨u,rfl,hyu,b12⟩
           dsimp only at hyu ⊢
           have AZ:=Lib.hid (B11.out.trans (b12.mono B11.out.size))
           have FH:=Lib.hid (Ak.out.below b12)
           have wB:=Lib.hid (wC.out.below b12)
           have YU:=Lib.hid hyu
           have yg:=Lib.hid (CU.out.below b12)
           have wD:Hid (x20<pO.heap.size):=Lib.hid (Nat.lt_of_lt_of_le wF.out b12.size)
           obtain ⟨au,cu,eu⟩:=hyu.slice
           subst eu
           clear hyu b12 g0 g1 f0 f1 f2'
           by_cases hu2:U2=0
           ·obtain rfl:=hu2
            obtain ⟨ak,ck,ek⟩:=aT.slice (yg.out.u.ss.bs a2 (aK a2) (gy HA2.out))
            rw [show (aK a2).length=9 from aP _] at ek
            have tF:Hid (pO.cell? ⟨gs,a2 * 1,none⟩=some (.slice ak 9 ck)):=Lib.hid ((yg.out.u.ql rfl HA2.out).trans (by rw [ek]))
            have Ar:Hid (aT F8 pO (.slice ak 9 ck) (aK a2)):=Lib.hid (by have:=yg.out.u.ss.bs a2 (aK a2) (gy HA2.out);unfold wY at this;rwa [ek] at this)
            have tY:Hid (gs<pO.heap.size):=Lib.hid (yg.out.u.ss.os.m.lt gs rfl)
            obtain ⟨sq,xO⟩:∃b,b=decide (U1=aK a2):=⟨_,rfl⟩
            have AL:Hid (aQ S0 ⟨aJ aw,aK aw⟩ d= !sq):=Lib.hid (by
             rw [Du.out,xO]
             exact congrArg (!·) (decide_eq_decide.2 ⟨fun h=> congrArg Prod.fst h,fun h=> by rw [h]⟩))
            have wV:Hid (∀w',Below pO.heap.size pO w'→Calls Tryz.prog 19 #[.slice au U1.length cu,.slice ak 9 ck] w' fun e wz=> e=.returned (.bool sq)∧Below w'.heap.size w' wz):=Lib.hid fun w' hb'=> by
             have h1:=(YU.out.below hb').rd
             have h2:=(Ar.out.below hb').rd
             have:=mG _ _ U1.length (aK a2).length (bf U1) (bf (aK a2)) w' h1 h2
             rw [show fQ U1.length (bf U1) (aK a2).length (bf (aK a2))=sq from by
              rw [xO]
              by_cases h:U1=aK a2
              ·rw [decide_eq_true h];exact eX.2 h
              ·rw [decide_eq_false h];exact Bool.eq_false_iff.2 fun h'=> h (eX.1 h')] at this
             exact this
            have wJ:Hid (mD (aJ a2) (0:Int).toNat=97+(a2:Int)):=Lib.hid (mq HA2.out)
            have wH:Hid ((0:Int)<((aJ a2).size:Int)):=Lib.hid (by show (0:Int)<((1:Nat):Int);decide)
            have wI:Hid (IntKind.u8.wrap (97+(a2:Int) - 97)=(a2:Int)):=Lib.hid (pY HA2.out)
            have E0:Hid (pO.cell? ⟨x20,0,none⟩=some (.string (aJ a2))):=Lib.hid ((wB.out.2 0 (by decide)).trans (by rw [kE.out.z0,wO.out]))
            clear ek xO
            go_upto_region 30 with (fail)
            refine bS (n:=203) (by kernel_rfl) (by kernel_rfl) (by kernel_rfl) rfl
             (fun ii vv _=> (match ii with | 0=> vv=.int .i64 (0) | 1 | 2=> vv=.bool false | 3=> vv=.slice au U1.length cu | 4=> vv=.slice (some ⟨gs,0,none⟩) 5 ks | 5=> vv=.pointer (some ⟨x20,0,none⟩) | 6=> vv=.string (aJ a2) | 7=> vv=.int .u8 ((97+(a2:Int))) | 8=> vv=.int .u8 ((a2:Int)) | 9=> vv=.pointer (some ⟨gs,a2 * 1,none⟩) | 10=> vv=.slice ak 9 ck | 11=> vv=.bool sq | 12 | 13=> vv=.bool (!(sq)) | _=> True))
             (fun w w'=> Below w.heap.size w w') (fun _ _ h=> h) (fun _ _ _ _ h _=> h) ?_ ?_
            ·refine Each.all ?_
             refine ⟨?_,?_,?_,?_,?_,?_,?_,?_,?_,?_,?_,?_,?_,?_,trivial⟩
             ·intro a w2 hB hF hd
              rw [if_pos (ay rfl)]
              exact aD _ (.inl rfl) (by simp) (hF.same 22 rfl)
             ·intro a w2 hB hF hd
              rw [if_pos (ay rfl)]
              exact aA (fun h=> by cases h) (Go.aG.iQ rfl (hd 0 _ rfl (aj rfl)) rfl) (congrArg Value.bool (rfl))
             ·intro a w2 hB hF hd
              rw [if_pos (ay rfl)]
              exact aD _ (.inl rfl) (by simp) (hd 1 _ rfl (aj rfl))
             ·intro a w2 hB hF hd
              refine aB (aC rfl rfl (hd 2 _ rfl (aj rfl)) rfl) ?_
              exact aD _ (.inl rfl) (by simp) (hF.same 21 rfl)
             ·intro a w2 hB hF hd
              refine aB (aC rfl rfl (hd 2 _ rfl (aj rfl)) rfl) ?_
              exact aD _ (.inl rfl) (by simp) (hF.same 9 rfl)
             ·intro a w2 hB hF hd
              refine aB (aC rfl rfl (hd 2 _ rfl (aj rfl)) rfl) ?_
              refine aA (fun h=> by cases h) (aM (m:=0) (k:=0) rfl (hF.same 20 rfl) (by kernel_rfl)) ?_
              exact rfl
             ·intro a w2 hB hF hd
              refine aB (aC rfl rfl (hd 2 _ rfl (aj rfl)) rfl) ?_
              exact aA (fun h=> by cases h) (aY rfl (hd 5 _ rfl (aj rfl)) Tryz.underlying9 ((hB.cell (p:=⟨x20,0,none⟩) wD.out).trans E0.out)) rfl
             ·intro a w2 hB hF hd
              refine aB (aC rfl rfl (hd 2 _ rfl (aj rfl)) rfl) ?_
              exact aA (fun h=> by cases h) (cK rfl (hd 6 _ rfl (aj rfl)) rfl Tryz.underlying9 (by decide) wH.out) (congrArg (Value.int .u8) wJ.out)
             ·intro a w2 hB hF hd
              refine aB (aC rfl rfl (hd 2 _ rfl (aj rfl)) rfl) ?_
              exact aA (fun h=> by cases h) (Go.aG.jo rfl (hd 7 _ rfl (aj rfl)) rfl) (congrArg (Value.int .u8) (wI.out))
             ·intro a w2 hB hF hd
              refine aB (aC rfl rfl (hd 2 _ rfl (aj rfl)) rfl) ?_
              exact aA (fun h=> by cases h) (aL (i:=a2) (sz:=1) rfl (hd 4 _ rfl (aj rfl)) (hd 8 _ rfl (aj rfl)) Tryz.underlying55 Tryz.sizeBs HA2.out) rfl
             ·intro a w2 hB hF hd
              refine aB (aC rfl rfl (hd 2 _ rfl (aj rfl)) rfl) ?_
              exact aA (fun h=> by cases h) (aN rfl (hd 9 _ rfl (aj rfl)) Tryz.underlying23 ((hB.cell (p:=⟨gs,a2 * 1,none⟩) tY.out).trans tF.out)) rfl
             ·intro a w2 hB hF hd
              refine aB (aC rfl rfl (hd 2 _ rfl (aj rfl)) rfl) ?_
              refine bT _ _ _ rfl Tryz.call19 _ (args2 (hd 3 _ rfl (aj rfl)) (hd 10 _ rfl (aj rfl))) (by simp) ((wV.out w2 hB).mono ?_)
              rintro e w3 ⟨rfl,hb⟩;exact ⟨_,rfl,rfl,hb⟩
             ·intro a w2 hB hF hd
              refine aB (aC rfl rfl (hd 2 _ rfl (aj rfl)) rfl) ?_
              exact aA (fun h=> by cases h) (gL rfl (hd 11 _ rfl (aj rfl))) rfl
             ·intro a w2 hB hF hd
              rw [if_pos (ay rfl)]
              exact aA (fun h=> by cases h) (bM rfl (hd 2 _ rfl (aj rfl))) ((hd 12 _ rfl (aj rfl)))
            ·intro a BF hB hF hS
             have ha:=aX rfl rfl hF [_,_,_,_,_,_,_,_,_,_,_,_,_,_] rfl ⟨hS 0 _ rfl,hS 1 _ rfl,hS 2 _ rfl,hS 3 _ rfl,hS 4 _ rfl,hS 5 _ rfl,hS 6 _ rfl,hS 7 _ rfl,hS 8 _ rfl,hS 9 _ rfl,hS 10 _ rfl,hS 11 _ rfl,hS 12 _ rfl,hS 13 _ rfl,trivial⟩
             simp only [puts,Act.put,List.setIfInBounds_toArray,List.set_cons_succ,List.set_cons_zero] at ha
             subst ha
             clear hS hF
             have wT:=Lib.hid (AZ.out.trans (hB.mono AZ.out.size))
             have Aj:=Lib.hid (wB.out.below hB)
             clear hB
             cases sq with
             | false=>
              simp only [Bool.not_false]
              go_wp2
              go_roundw
              case rel=> exact ⟨j+1,pE.out,by go_num,by rw [wG.out,AL.out];simp,wT.out⟩
              case measure=> have:=pE.out;simp [intOf] <;> omega
             | true=>
              simp only [Bool.not_true]
              have AJ:Hid (OUT.any (fun g=> decide (g.nm=aJ a2))=true):=Lib.hid (by
               have h1:=Dp.out q _ Dr.out d (List.mem_of_getElem? AP.out) HT.out (by rw [AL.out];rfl)
               rw [List.mem_map] at h1
               obtain ⟨r,hr,hrn⟩:=h1
               rw [List.any_eq_true]
               exact ⟨r,hr,by rw [decide_eq_true_iff,hrn,wO.out]⟩)
              go_wp2
              go_loopw [23,183] (fun ib i wr=> ∃l:Nat,l≤N∧i=.int .i64 (l:Int)∧ib=.bool ((OUT.take l).any (fun g=> decide (g.nm=aJ a2)))∧Below BF.heap.size BF wr) (fun _ i _=> N - (intOf i).toNat)
              case atStart=> exact ⟨0,Nat.zero_le _,rfl,by simp,Below.refl _ _⟩
              case round=>
               rename World=> wq
               obtain ⟨l,hl,rfl,rfl,hbq⟩:=hrel
               have qP:=Lib.hid hbq
               obtain ⟨IB,hIB⟩:∃b,b=(OUT.take l).any (fun g=> decide (g.nm=aJ a2)):=⟨_,rfl⟩
               have Dq:=Lib.hid hIB
               rw [←hIB]
               clear hbq hIB
               by_cases hll:l<N
               ·have tL:=Lib.hid hll
                have BQ:=Lib.hid (B10.out.trans ((wT.out.trans (qP.out.mono wT.out.size)).mono B10.out.size))
                have AQ:=Lib.hid (A8.out.below BQ.out)
                obtain ⟨r,hr⟩:∃d,OUT[l]? =some d:=⟨_,List.getElem?_eq_getElem (by rw [←kD.out];exact hll)⟩
                have HRR:Hid (qM F8 wq (qo l) r):=Lib.hid (AQ.out.ou.bs l r hr)
                have pq:=Lib.hid HRR.out.one
                obtain ⟨go',EH,eo,hrow,_,_,hcell⟩:=AQ.out.ou.os.m.form (by show 0<OUT.length;rw [←kD.out];omega)
                have wQ:Hid (∀i,i<2→wq.cell? ⟨go',l * 2+i,none⟩=some (qo l i)):=Lib.hid (hcell l (by show l<OUT.length;rw [←kD.out];exact hll))
                replace eo:Value.slice (some ⟨go,0,none⟩) N cv=.slice (some ⟨go',0,none⟩) OUT.length EH:=eo
                rw [←kD.out] at eo
                cases eo
                have Ap:Hid ((OUT.take (l+1)).any (fun g=> decide (g.nm=aJ a2))=(IB || decide (r.nm=aJ a2))):=Lib.hid (by rw [List.take_add_one,hr,List.any_append,Dq.out];simp)
                have c20:wq.cell? ⟨x20,0,none⟩=some (.string (aJ a2)):=((Aj.out.below qP.out).2 0 (by decide)).trans (by rw [kE.out.z0,wO.out])
                have wE:Hid (x20<wq.heap.size):=Lib.hid (World.block_lt_of_cell? _ _ c20)
                clear hr hrow hcell hl
                go_upto_region 36 with (first | (refine aZ rfl rfl rfl Tryz.underlying71 rfl Tryz.sizeHdC wQ.out ?_) | (refine aU rfl 71 _ _ rfl wq.heap.size 2 (qo l) _ 71 (heap_alloc_new _ _) rfl Tryz.sizeHdC rfl rfl pq.out ?_))
                refine aI (fun w4=> aV w4 wq.heap.size 2 71 (qo l)∧Below wq.heap.size wq w4) ⟨aV.setRow (heap_alloc_new _ _),aH ((Below.refl _ _).alloc (Nat.le_refl _) _) (Nat.le_refl _) _⟩ ?_
                rintro BD ⟨vk,qE⟩
                have d0:BD.cell? ⟨wq.heap.size,0,none⟩=some (.string r.nm):=(vk.2 0 (by decide)).trans (by rw [HRR.out.z0])
                obtain ⟨x25,hx25⟩:∃x,x=wq.heap.size:=⟨_,rfl⟩
                rw [←hx25] at d0 ⊢
                have d1:BD.cell? ⟨x20,0,none⟩=some (.string (aJ a2)):=(qE.cell (p:=⟨x20,0,none⟩) wE.out).trans c20
                have AY:=Lib.hid (qP.out.trans (qE.mono qP.out.size))
                have q8:(l:Int)<1000000:=by have:=Ee.out;have:=kD.out;omega
                clear vk qE c20 wQ pq hx25
                cases IB with
                | true=>
                 go_wp2
                 go_roundw
                 case rel=> exact ⟨_,_,_,⟨l+1,tL.out,rfl,rfl,AY.out⟩,congrArg Value.bool (Ap.out.trans (Bool.true_or _)).symm,rfl,by go_num⟩
                 case measure=> have:=tL.out;simp [intOf] <;> omega
                | false=>
                 by_cases hrn:r.nm=aJ a2
                 ·have EB:(r.nm.toList==(aJ a2).toList)=true:=fK hrn
                  have AU:=Lib.hid (decide_eq_true hrn)
                  clear hrn
                  go_wp2
                  go_roundw
                  case rel=> exact ⟨_,_,_,⟨l+1,tL.out,rfl,rfl,AY.out⟩,congrArg Value.bool (Ap.out.trans ((Bool.false_or _).trans AU.out)).symm,rfl,by go_num⟩
                  case measure=> have:=tL.out;simp [intOf] <;> omega
                 ·have EB:(r.nm.toList==(aJ a2).toList)=false:=gX hrn
                  have AU:=Lib.hid (decide_eq_false hrn)
                  clear hrn
                  go_wp2
                  go_roundw
                  case rel=> exact ⟨_,_,_,⟨l+1,tL.out,rfl,rfl,AY.out⟩,congrArg Value.bool (Ap.out.trans ((Bool.false_or _).trans AU.out)).symm,rfl,by go_num⟩
                  case measure=> have:=tL.out;simp [intOf] <;> omega
               ·have Cn:l=N:=by omega
                obtain rfl:IB=true:=Dq.out.trans (by rw [Cn,kD.out,List.take_of_length_le (Nat.le_refl _)];exact AJ.out)
                have q8:¬ (l:Int)<(N:Int):=by omega
                clear Cn hll hl
                go_wp2
                go_roundw
                case rel=> exact ⟨j+1,pE.out,by go_num,by rw [wG.out,AL.out,Ao.out];simp,wT.out.trans (qP.out.mono wT.out.size)⟩
                case measure=> have:=pE.out;simp [intOf] <;> omega
           ·have qu:(U2 !=0)=true:=by simpa using hu2
            have Gi:Hid (aQ S0 ⟨aJ aw,aK aw⟩ d=true):=Lib.hid (by rw [Du.out,decide_eq_false fun h=> hu2 (congrArg Prod.snd h)];rfl)
            clear hu2
            go_wp2
            go_roundw
            case rel=> exact ⟨j+1,pE.out,by go_num,by rw [wG.out,Gi.out];simp,AZ.out⟩
            case measure=> have:=pE.out;simp [intOf] <;> omega
          ·have qe:(d.ta.toList==(aJ aw).toList)=false:=gX ht
           have tN:Hid (aQ S0 ⟨aJ aw,aK aw⟩ d=false):=Lib.hid (by unfold aQ;rw [decide_eq_false ht];rfl)
           clear ht
           go_wp2
           go_roundw
           case rel=> exact ⟨j+1,pE.out,by go_num,by rw [wG.out,tN.out,Ao.out];simp,B11.out⟩
           case measure=> have:=pE.out;simp [intOf] <;> omega
         ·have hjk:j=k:=by omega
          have FK:Hid (WJ=(OUT.take (q+1)).any (fun h=> D.any (aQ S0 h))):=Lib.hid (by rw [Ao.out,hjk,List.take_of_length_le (Nat.le_of_eq eY.out),List.take_add_one,Dr.out,List.any_append,FL.out];simp)
          have q8:¬ (j:Int)<(k:Int):=by omega
          have q9:(q:Int)<1000000:=by have:=Ee.out;have:=kD.out;have:=Bn.out;omega
          clear hjk hjl hj
          go_wp2
          go_roundw
          case rel=> exact ⟨q+1,Bn.out,by go_num,by rw [FK.out],B10.out.trans (tQ.out.mono B10.out.size)⟩
          case measure=> have:=Bn.out;simp [intOf] <;> omega
      ·have yQ:Hid (((q:Int)==0)=false):=Lib.hid (by simp;omega)
       refine bS (n:=203) (by kernel_rfl) (by kernel_rfl) (by kernel_rfl) rfl
        (fun ii vv _=> (match ii with | 0=> vv=.pointer (some ⟨x18,1,none⟩) | 1=> vv=.slice ah 9 ch | 2=> vv=.slice (some ⟨gs,0,none⟩) 5 ks | 3=> vv=.pointer (some ⟨x18,0,none⟩) | 4=> vv=.string (aJ aw) | 5=> vv=.int .u8 ((97+(aw:Int))) | 6=> vv=.int .u8 ((aw:Int)) | 7=> vv=.pointer (some ⟨gs,aw * 1,none⟩) | 8=> vv=.slice ak 9 ck | 9=> vv=.bool true | 10 | 11 | 13 | 14 | 18 | 19=> vv=.bool false | 12=> vv=.int .i64 ((q:Int)) | 15 | 16 | 17=> vv=undef | _=> True))
        (fun w w'=> Below w.heap.size w w') (fun _ _ h=> h) (fun _ _ _ _ h _=> h) ?_ ?_
       ·refine Each.all ?_
        refine ⟨?_,?_,?_,?_,?_,?_,?_,?_,?_,?_,?_,?_,?_,?_,?_,?_,?_,?_,?_,?_,trivial⟩
        ·intro a w2 hB hF hd
         rw [if_pos (ay rfl)]
         refine aA (fun h=> by cases h) (aM (m:=0) (k:=1) rfl (hF.same 18 rfl) (by kernel_rfl)) ?_
         exact rfl
        ·intro a w2 hB hF hd
         rw [if_pos (ay rfl)]
         exact aA (fun h=> by cases h) (aN rfl (hd 0 _ rfl (aj rfl)) Tryz.underlying23 ((hB.cell (p:=⟨x18,1,none⟩) oZ.out).trans E1.out)) rfl
        ·intro a w2 hB hF hd
         rw [if_pos (ay rfl)]
         exact aD _ (.inl rfl) (by simp) (hF.same 9 rfl)
        ·intro a w2 hB hF hd
         rw [if_pos (ay rfl)]
         refine aA (fun h=> by cases h) (aM (m:=0) (k:=0) rfl (hF.same 18 rfl) (by kernel_rfl)) ?_
         exact rfl
        ·intro a w2 hB hF hd
         rw [if_pos (ay rfl)]
         exact aA (fun h=> by cases h) (aY rfl (hd 3 _ rfl (aj rfl)) Tryz.underlying9 ((hB.cell (p:=⟨x18,0,none⟩) oZ.out).trans E0.out)) rfl
        ·intro a w2 hB hF hd
         rw [if_pos (ay rfl)]
         exact aA (fun h=> by cases h) (cK rfl (hd 4 _ rfl (aj rfl)) rfl Tryz.underlying9 (by decide) CY.out) (congrArg (Value.int .u8) Da.out)
        ·intro a w2 hB hF hd
         rw [if_pos (ay rfl)]
         exact aA (fun h=> by cases h) (Go.aG.jo rfl (hd 5 _ rfl (aj rfl)) rfl) (congrArg (Value.int .u8) (CZ.out))
        ·intro a w2 hB hF hd
         rw [if_pos (ay rfl)]
         exact aA (fun h=> by cases h) (aL (i:=aw) (sz:=1) rfl (hd 2 _ rfl (aj rfl)) (hd 6 _ rfl (aj rfl)) Tryz.underlying55 Tryz.sizeBs yx.out) rfl
        ·intro a w2 hB hF hd
         rw [if_pos (ay rfl)]
         exact aA (fun h=> by cases h) (aN rfl (hd 7 _ rfl (aj rfl)) Tryz.underlying23 ((hB.cell (p:=⟨gs,aw * 1,none⟩) tY.out).trans tF.out)) rfl
        ·intro a w2 hB hF hd
         rw [if_pos (ay rfl)]
         refine bT _ _ _ rfl Tryz.call19 _ (args2 (hd 1 _ rfl (aj rfl)) (hd 8 _ rfl (aj rfl))) (by simp) ((wV.out w2 hB).mono ?_)
         rintro e w3 ⟨rfl,hb⟩;exact ⟨_,rfl,rfl,hb⟩
        ·intro a w2 hB hF hd
         rw [if_pos (ay rfl)]
         exact aA (fun h=> by cases h) (gL rfl (hd 9 _ rfl (aj rfl))) rfl
        ·intro a w2 hB hF hd
         rw [if_pos (ay rfl)]
         exact aD _ (.inl rfl) (by simp) (hd 10 _ rfl (aj rfl))
        ·intro a w2 hB hF hd
         refine aB (aC rfl rfl (hd 11 _ rfl (aj rfl)) rfl) ?_
         exact aD _ (.inl rfl) (by simp) (hF.same 17 rfl)
        ·intro a w2 hB hF hd
         refine aB (aC rfl rfl (hd 11 _ rfl (aj rfl)) rfl) ?_
         refine aA (fun h=> by cases h) (Go.aG.dS rfl (hd 12 _ rfl (aj rfl)) rfl) ?_
         exact congrArg Value.bool yQ.out
        ·intro a w2 hB hF hd
         refine aB (aC rfl rfl (hd 11 _ rfl (aj rfl)) rfl) ?_
         exact aD _ (.inl rfl) (by simp) (hd 13 _ rfl (aj rfl))
        ·intro a w2 hB hF hd
         rw [if_neg (by rw [dR rfl rfl (hd 14 _ rfl (aj rfl))];decide)]
         exact rfl
        ·intro a w2 hB hF hd
         rw [if_neg (by rw [dR rfl rfl (hd 14 _ rfl (aj rfl))];decide)]
         exact rfl
        ·intro a w2 hB hF hd
         rw [if_neg (by rw [dR rfl rfl (hd 14 _ rfl (aj rfl))];decide)]
         exact rfl
        ·intro a w2 hB hF hd
         refine aB (aC rfl rfl (hd 11 _ rfl (aj rfl)) rfl) ?_
         exact aA (fun h=> by cases h) (bM rfl (hd 14 _ rfl (aj rfl))) (rfl)
        ·intro a w2 hB hF hd
         rw [if_pos (ay rfl)]
         exact aA (fun h=> by cases h) (bM rfl (hd 11 _ rfl (aj rfl))) ((hd 18 _ rfl (aj rfl)))
       ·intro a BG hB hF hS
        have ha:=aX rfl rfl hF [_,_,_,_,_,_,_,_,_,_,_,_,_,_,_,_,_,_,_,_] rfl ⟨hS 0 _ rfl,hS 1 _ rfl,hS 2 _ rfl,hS 3 _ rfl,hS 4 _ rfl,hS 5 _ rfl,hS 6 _ rfl,hS 7 _ rfl,hS 8 _ rfl,hS 9 _ rfl,hS 10 _ rfl,hS 11 _ rfl,hS 12 _ rfl,hS 13 _ rfl,hS 14 _ rfl,hS 15 _ rfl,hS 16 _ rfl,hS 17 _ rfl,hS 18 _ rfl,hS 19 _ rfl,trivial⟩
        simp only [puts,Act.put,List.setIfInBounds_toArray,List.set_cons_succ,List.set_cons_zero] at ha
        subst ha
        clear hS hF
        have B10:=Lib.hid (DI.out.trans (hB.mono DI.out.size))
        have FI:=Lib.hid (R9.out.below hB)
        have wL:=Lib.hid (tV.out.below hB)
        clear hB hq0 yQ R9 tV wV tF Ar E0 E1 tY oZ
        go_wp2
        go_loopw [16,149] (fun wb i wr=> ∃j:Nat,j≤k∧i=.int .i64 (j:Int)∧wb=.bool (WB || (D.take j).any (aQ S0 ⟨aJ aw,aK aw⟩))∧Below BG.heap.size BG wr) (fun _ i _=> k - (intOf i).toNat)
        case atStart=> exact ⟨0,Nat.zero_le _,rfl,by simp,Below.refl _ _⟩
        case round=>
         rename World=> wi
         obtain ⟨j,hj,rfl,rfl,hbi⟩:=hrel
         have tQ:=Lib.hid hbi
         obtain ⟨WJ,Ab⟩:∃b,b=(WB || (D.take j).any (aQ S0 ⟨aJ aw,aK aw⟩)):=⟨_,rfl⟩
         have Ao:=Lib.hid Ab
         rw [←Ab]
         clear hbi Ab
         by_cases hjl:j<k
         ·have pE:=Lib.hid hjl
          have BI:=Lib.hid (B10.out.trans (tQ.out.mono B10.out.size))
          have II:=Lib.hid (I8.out.below BI.out)
          have RI:=Lib.hid (FI.out.below tQ.out)
          have Au:=Lib.hid (wL.out.below tQ.out)
          obtain ⟨d,hd⟩:∃d,D[j]? =some d:=⟨_,List.getElem?_eq_getElem (by rw [eY.out];exact hjl)⟩
          have AP:=Lib.hid hd
          obtain ⟨⟨a2,ha2,hfr⟩,_,Bc⟩:=HO.out d (List.mem_of_getElem? hd)
          have HA2:=Lib.hid ha2
          have wO:=Lib.hid hfr
          have HDR:Hid (nL F8 wi (qd j) d):=Lib.hid (II.out.dl.bs j d hd)
          have pz:=Lib.hid HDR.out.one
          obtain ⟨gd,kd,ed,hrow,_,_,hcell⟩:=II.out.dl.os.m.form (by rw [eY.out];omega)
          have wR:Hid (∀i,i<3→wi.cell? ⟨gd,j * 3+i,none⟩=some (qd j i)):=Lib.hid (hcell j (by rw [eY.out];exact hjl))
          rw [eY.out] at ed
          cases ed
          obtain ⟨ab,cb,eb⟩:=HDR.out.z2.slice
          have Dy:=Lib.hid eb
          have wG:Hid ((D.take (j+1)).any (aQ S0 ⟨aJ aw,aK aw⟩)=((D.take j).any (aQ S0 ⟨aJ aw,aK aw⟩) || aQ S0 ⟨aJ aw,aK aw⟩ d)):=Lib.hid (by rw [List.take_add_one,hd,List.any_append];simp)
          clear hd ha2 hfr Bc hrow hcell eb hj
          go_upto_region 28 with (first | (refine aZ rfl rfl rfl Tryz.underlying66 rfl Tryz.sizeDp wR.out ?_) | (refine aU rfl 66 _ _ rfl wi.heap.size 3 (qd j) _ 66 (heap_alloc_new _ _) rfl Tryz.sizeDp rfl rfl pz.out ?_))
          refine aI (fun w4=> aV w4 wi.heap.size 3 66 (qd j)∧Below wi.heap.size wi w4) ⟨aV.setRow (heap_alloc_new _ _),aH ((Below.refl _ _).alloc (Nat.le_refl _) _) (Nat.le_refl _) _⟩ ?_
          rintro pQ ⟨qC,iI⟩
          have wC:=Lib.hid qC
          have B11:=Lib.hid (tQ.out.trans (iI.mono tQ.out.size))
          have CU:=Lib.hid (II.out.below iI)
          have wF:Hid (wi.heap.size<pQ.heap.size):=Lib.hid qC.1.lt
          have Ak:=Lib.hid (RI.out.below iI)
          have wK:=Lib.hid (Au.out.below iI)
          have kE:=Lib.hid (HDR.out.below iI)
          obtain ⟨x20,uZ⟩:∃x,x=wi.heap.size:=⟨_,rfl⟩
          rw [←uZ] at wC wF ⊢
          have g0:pQ.cell? ⟨x18,0,none⟩=some (.string (aJ aw)):=(Ak.out.2 0 (by decide)).trans (by rw [tH.out.z0])
          have g1:pQ.cell? ⟨x18,1,none⟩=some (.slice ah 9 ch):=(Ak.out.2 1 (by decide)).trans (by rw [yj.out])
          have f0:pQ.cell? ⟨x20,0,none⟩=some (.string (aJ a2)):=(wC.out.2 0 (by decide)).trans (by rw [kE.out.z0,wO.out])
          have f1:pQ.cell? ⟨x20,1,none⟩=some (.string d.ta):=(wC.out.2 1 (by decide)).trans (by rw [kE.out.z1])
          have f2':pQ.cell? ⟨x20,2,none⟩=some (.slice ab d.b.length cb):=(wC.out.2 2 (by decide)).trans (by rw [Dy.out])
          have FJ:Hid (aT F8 pQ (.slice ab d.b.length cb) d.b):=Lib.hid (by have:=kE.out.z2;rwa [Dy.out] at this)
          have q9:(j:Int)<1000000:=by have:=HM.out;omega
          clear qC iI uZ wR HDR pz
          by_cases ht:d.ta=aJ aw
          ·have qe:(d.ta.toList==(aJ aw).toList)=true:=fK ht
           have HT:=Lib.hid ht
           have JW:Hid (d.b.length≤400):=Lib.hid (Nat.le_trans (wS.out d (List.mem_of_getElem? AP.out)) (by decide))
           have CX:=Lib.hid (fF CU.out.u.m wK.out FJ.out Im.out)
           obtain ⟨⟨U1,U2⟩,hU⟩:∃U,U=aO SX (aK aw) d.b:=⟨_,rfl⟩
           rw [←hU] at CX
           have Du:Hid (aQ S0 ⟨aJ aw,aK aw⟩ d= !decide ((U1,U2)=(aK a2,0))):=Lib.hid (by
            have Cj:bC S0 (aK aw)=some (3 * aw):=bZ (yT.out.lt yx.out) (Nat.le_trans yT.out.len (by decide))
            have hm:=jD (y:=aK a2) yT.out.ok Iw.out (HO.out d (List.mem_of_getElem? AP.out)).2.2 (mE aw) Cj
            unfold aQ
            rw [decide_eq_true ht,wO.out,qB HA2.out,hU,Bool.true_and]
            exact congrArg (!·) (decide_eq_decide.2 hm))
           clear ht hU
           go_wp2_with fail
           refine CX.out.mono ?_
           rintro e pO ⟨u,rfl,hyu,b12⟩
           dsimp only at hyu ⊢
           have AZ:=Lib.hid (B11.out.trans (b12.mono B11.out.size))
           have FH:=Lib.hid (Ak.out.below b12)
           have wB:=Lib.hid (wC.out.below b12)
           have YU:=Lib.hid hyu
           have yg:=Lib.hid (CU.out.below b12)
           have wD:Hid (x20<pO.heap.size):=Lib.hid (Nat.lt_of_lt_of_le wF.out b12.size)
           obtain ⟨au,cu,eu⟩:=hyu.slice
           subst eu
           clear hyu b12 g0 g1 f0 f1 f2'
           by_cases hu2:U2=0
           ·obtain rfl:=hu2
            obtain ⟨ak,ck,ek⟩:=aT.slice (yg.out.u.ss.bs a2 (aK a2) (gy HA2.out))
            rw [show (aK a2).length=9 from aP _] at ek
            have tF:Hid (pO.cell? ⟨gs,a2 * 1,none⟩=some (.slice ak 9 ck)):=Lib.hid ((yg.out.u.ql rfl HA2.out).trans (by rw [ek]))
            have Ar:Hid (aT F8 pO (.slice ak 9 ck) (aK a2)):=Lib.hid (by have:=yg.out.u.ss.bs a2 (aK a2) (gy HA2.out);unfold wY at this;rwa [ek] at this)
            have tY:Hid (gs<pO.heap.size):=Lib.hid (yg.out.u.ss.os.m.lt gs rfl)
            obtain ⟨sq,xO⟩:∃b,b=decide (U1=aK a2):=⟨_,rfl⟩
            have AL:Hid (aQ S0 ⟨aJ aw,aK aw⟩ d= !sq):=Lib.hid (by
             rw [Du.out,xO]
             exact congrArg (!·) (decide_eq_decide.2 ⟨fun h=> congrArg Prod.fst h,fun h=> by rw [h]⟩))
            have wV:Hid (∀w',Below pO.heap.size pO w'→Calls Tryz.prog 19 #[.slice au U1.length cu,.slice ak 9 ck] w' fun e wz=> e=.returned (.bool sq)∧Below w'.heap.size w' wz):=Lib.hid fun w' hb'=> by
             have h1:=(YU.out.below hb').rd
             have h2:=(Ar.out.below hb').rd
             have:=mG _ _ U1.length (aK a2).length (bf U1) (bf (aK a2)) w' h1 h2
             rw [show fQ U1.length (bf U1) (aK a2).length (bf (aK a2))=sq from by
              rw [xO]
              by_cases h:U1=aK a2
              ·rw [decide_eq_true h];exact eX.2 h
              ·rw [decide_eq_false h];exact Bool.eq_false_iff.2 fun h'=> h (eX.1 h')] at this
             exact this
            have wJ:Hid (mD (aJ a2) (0:Int).toNat=97+(a2:Int)):=Lib.hid (mq HA2.out)
            have wH:Hid ((0:Int)<((aJ a2).size:Int)):=Lib.hid (by show (0:Int)<((1:Nat):Int);decide)
            have wI:Hid (IntKind.u8.wrap (97+(a2:Int) - 97)=(a2:Int)):=Lib.hid (pY HA2.out)
            have E0:Hid (pO.cell? ⟨x20,0,none⟩=some (.string (aJ a2))):=Lib.hid ((wB.out.2 0 (by decide)).trans (by rw [kE.out.z0,wO.out]))
            clear ek xO
            go_upto_region 30 with (fail)
            refine bS (n:=203) (by kernel_rfl) (by kernel_rfl) (by kernel_rfl) rfl
             (fun ii vv _=> (match ii with | 0=> vv=.int .i64 (0) | 1 | 2=> vv=.bool false | 3=> vv=.slice au U1.length cu | 4=> vv=.slice (some ⟨gs,0,none⟩) 5 ks | 5=> vv=.pointer (some ⟨x20,0,none⟩) | 6=> vv=.string (aJ a2) | 7=> vv=.int .u8 ((97+(a2:Int))) | 8=> vv=.int .u8 ((a2:Int)) | 9=> vv=.pointer (some ⟨gs,a2 * 1,none⟩) | 10=> vv=.slice ak 9 ck | 11=> vv=.bool sq | 12 | 13=> vv=.bool (!(sq)) | _=> True))
             (fun w w'=> Below w.heap.size w w') (fun _ _ h=> h) (fun _ _ _ _ h _=> h) ?_ ?_
            ·refine Each.all ?_
             refine ⟨?_,?_,?_,?_,?_,?_,?_,?_,?_,?_,?_,?_,?_,?_,trivial⟩
             ·intro a w2 hB hF hd
              rw [if_pos (ay rfl)]
              exact aD _ (.inl rfl) (by simp) (hF.same 22 rfl)
             ·intro a w2 hB hF hd
              rw [if_pos (ay rfl)]
              exact aA (fun h=> by cases h) (Go.aG.iQ rfl (hd 0 _ rfl (aj rfl)) rfl) (congrArg Value.bool (rfl))
             ·intro a w2 hB hF hd
              rw [if_pos (ay rfl)]
              exact aD _ (.inl rfl) (by simp) (hd 1 _ rfl (aj rfl))
             ·intro a w2 hB hF hd
              refine aB (aC rfl rfl (hd 2 _ rfl (aj rfl)) rfl) ?_
              exact aD _ (.inl rfl) (by simp) (hF.same 21 rfl)
             ·intro a w2 hB hF hd
              refine aB (aC rfl rfl (hd 2 _ rfl (aj rfl)) rfl) ?_
              exact aD _ (.inl rfl) (by simp) (hF.same 9 rfl)
             ·intro a w2 hB hF hd
              refine aB (aC rfl rfl (hd 2 _ rfl (aj rfl)) rfl) ?_
              refine aA (fun h=> by cases h) (aM (m:=0) (k:=0) rfl (hF.same 20 rfl) (by kernel_rfl)) ?_
              exact rfl
             ·intro a w2 hB hF hd
              refine aB (aC rfl rfl (hd 2 _ rfl (aj rfl)) rfl) ?_
              exact aA (fun h=> by cases h) (aY rfl (hd 5 _ rfl (aj rfl)) Tryz.underlying9 ((hB.cell (p:=⟨x20,0,none⟩) wD.out).trans E0.out)) rfl
             ·intro a w2 hB hF hd
              refine aB (aC rfl rfl (hd 2 _ rfl (aj rfl)) rfl) ?_
              exact aA (fun h=> by cases h) (cK rfl (hd 6 _ rfl (aj rfl)) rfl Tryz.underlying9 (by decide) wH.out) (congrArg (Value.int .u8) wJ.out)
             ·intro a w2 hB hF hd
              refine aB (aC rfl rfl (hd 2 _ rfl (aj rfl)) rfl) ?_
              exact aA (fun h=> by cases h) (Go.aG.jo rfl (hd 7 _ rfl (aj rfl)) rfl) (congrArg (Value.int .u8) (wI.out))
             ·intro a w2 hB hF hd
              refine aB (aC rfl rfl (hd 2 _ rfl (aj rfl)) rfl) ?_
              exact aA (fun h=> by cases h) (aL (i:=a2) (sz:=1) rfl (hd 4 _ rfl (aj rfl)) (hd 8 _ rfl (aj rfl)) Tryz.underlying55 Tryz.sizeBs HA2.out) rfl
             ·intro a w2 hB hF hd
              refine aB (aC rfl rfl (hd 2 _ rfl (aj rfl)) rfl) ?_
              exact aA (fun h=> by cases h) (aN rfl (hd 9 _ rfl (aj rfl)) Tryz.underlying23 ((hB.cell (p:=⟨gs,a2 * 1,none⟩) tY.out).trans tF.out)) rfl
             ·intro a w2 hB hF hd
              refine aB (aC rfl rfl (hd 2 _ rfl (aj rfl)) rfl) ?_
              refine bT _ _ _ rfl Tryz.call19 _ (args2 (hd 3 _ rfl (aj rfl)) (hd 10 _ rfl (aj rfl))) (by simp) ((wV.out w2 hB).mono ?_)
              rintro e w3 ⟨rfl,hb⟩;exact ⟨_,rfl,rfl,hb⟩
             ·intro a w2 hB hF hd
              refine aB (aC rfl rfl (hd 2 _ rfl (aj rfl)) rfl) ?_
              exact aA (fun h=> by cases h) (gL rfl (hd 11 _ rfl (aj rfl))) rfl
             ·intro a w2 hB hF hd
              rw [if_pos (ay rfl)]
              exact aA (fun h=> by cases h) (bM rfl (hd 2 _ rfl (aj rfl))) ((hd 12 _ rfl (aj rfl)))
            ·intro a BF hB hF hS
             have ha:=aX rfl rfl hF [_,_,_,_,_,_,_,_,_,_,_,_,_,_] rfl ⟨hS 0 _ rfl,hS 1 _ rfl,hS 2 _ rfl,hS 3 _ rfl,hS 4 _ rfl,hS 5 _ rfl,hS 6 _ rfl,hS 7 _ rfl,hS 8 _ rfl,hS 9 _ rfl,hS 10 _ rfl,hS 11 _ rfl,hS 12 _ rfl,hS 13 _ rfl,trivial⟩
             simp only [puts,Act.put,List.setIfInBounds_toArray,List.set_cons_succ,List.set_cons_zero] at ha
             subst ha
             clear hS hF
             have wT:=Lib.hid (AZ.out.trans (hB.mono AZ.out.size))
             have Aj:=Lib.hid (wB.out.below hB)
             clear hB
             cases sq with
             | false=>
              simp only [Bool.not_false]
              go_wp2
              go_roundw
              case rel=> exact ⟨j+1,pE.out,by go_num,by rw [wG.out,AL.out];simp,wT.out⟩
              case measure=> have:=pE.out;simp [intOf] <;> omega
             | true=>
              simp only [Bool.not_true]
              have AJ:Hid (OUT.any (fun g=> decide (g.nm=aJ a2))=true):=Lib.hid (by
               have h1:=Dp.out q _ Dr.out d (List.mem_of_getElem? AP.out) HT.out (by rw [AL.out];rfl)
               rw [List.mem_map] at h1
               obtain ⟨r,hr,hrn⟩:=h1
               rw [List.any_eq_true]
               exact ⟨r,hr,by rw [decide_eq_true_iff,hrn,wO.out]⟩)
              go_wp2
              go_loopw [23,183] (fun ib i wr=> ∃l:Nat,l≤N∧i=.int .i64 (l:Int)∧ib=.bool ((OUT.take l).any (fun g=> decide (g.nm=aJ a2)))∧Below BF.heap.size BF wr) (fun _ i _=> N - (intOf i).toNat)
              case atStart=> exact ⟨0,Nat.zero_le _,rfl,by simp,Below.refl _ _⟩
              case round=>
               rename World=> wq
               obtain ⟨l,hl,rfl,rfl,hbq⟩:=hrel
               have qP:=Lib.hid hbq
               obtain ⟨IB,hIB⟩:∃b,b=(OUT.take l).any (fun g=> decide (g.nm=aJ a2)):=⟨_,rfl⟩
               have Dq:=Lib.hid hIB
               rw [←hIB]
               clear hbq hIB
               by_cases hll:l<N
               ·have tL:=Lib.hid hll
                have BQ:=Lib.hid (B10.out.trans ((wT.out.trans (qP.out.mono wT.out.size)).mono B10.out.size))
                have AQ:=Lib.hid (A8.out.below BQ.out)
                obtain ⟨r,hr⟩:∃d,OUT[l]? =some d:=⟨_,List.getElem?_eq_getElem (by rw [←kD.out];exact hll)⟩
                have HRR:Hid (qM F8 wq (qo l) r):=Lib.hid (AQ.out.ou.bs l r hr)
                have pq:=Lib.hid HRR.out.one
                obtain ⟨go',EH,eo,hrow,_,_,hcell⟩:=AQ.out.ou.os.m.form (by show 0<OUT.length;rw [←kD.out];omega)
                have wQ:Hid (∀i,i<2→wq.cell? ⟨go',l * 2+i,none⟩=some (qo l i)):=Lib.hid (hcell l (by show l<OUT.length;rw [←kD.out];exact hll))
                replace eo:Value.slice (some ⟨go,0,none⟩) N cv=.slice (some ⟨go',0,none⟩) OUT.length EH:=eo
                rw [←kD.out] at eo
                cases eo
                have Ap:Hid ((OUT.take (l+1)).any (fun g=> decide (g.nm=aJ a2))=(IB || decide (r.nm=aJ a2))):=Lib.hid (by rw [List.take_add_one,hr,List.any_append,Dq.out];simp)
                have c20:wq.cell? ⟨x20,0,none⟩=some (.string (aJ a2)):=((Aj.out.below qP.out).2 0 (by decide)).trans (by rw [kE.out.z0,wO.out])
                have wE:Hid (x20<wq.heap.size):=Lib.hid (World.block_lt_of_cell? _ _ c20)
                clear hr hrow hcell hl
                go_upto_region 36 with (first | (refine aZ rfl rfl rfl Tryz.underlying71 rfl Tryz.sizeHdC wQ.out ?_) | (refine aU rfl 71 _ _ rfl wq.heap.size 2 (qo l) _ 71 (heap_alloc_new _ _) rfl Tryz.sizeHdC rfl rfl pq.out ?_))
                refine aI (fun w4=> aV w4 wq.heap.size 2 71 (qo l)∧Below wq.heap.size wq w4) ⟨aV.setRow (heap_alloc_new _ _),aH ((Below.refl _ _).alloc (Nat.le_refl _) _) (Nat.le_refl _) _⟩ ?_
                rintro BD ⟨vk,qE⟩
                have d0:BD.cell? ⟨wq.heap.size,0,none⟩=some (.string r.nm):=(vk.2 0 (by decide)).trans (by rw [HRR.out.z0])
                obtain ⟨x25,hx25⟩:∃x,x=wq.heap.size:=⟨_,rfl⟩
                rw [←hx25] at d0 ⊢
                have d1:BD.cell? ⟨x20,0,none⟩=some (.string (aJ a2)):=(qE.cell (p:=⟨x20,0,none⟩) wE.out).trans c20
                have AY:=Lib.hid (qP.out.trans (qE.mono qP.out.size))
                have q8:(l:Int)<1000000:=by have:=Ee.out;have:=kD.out;omega
                clear vk qE c20 wQ pq hx25
                cases IB with
                | true=>
                 go_wp2
                 go_roundw
                 case rel=> exact ⟨_,_,_,⟨l+1,tL.out,rfl,rfl,AY.out⟩,congrArg Value.bool (Ap.out.trans (Bool.true_or _)).symm,rfl,by go_num⟩
                 case measure=> have:=tL.out;simp [intOf] <;> omega
                | false=>
                 by_cases hrn:r.nm=aJ a2
                 ·have EB:(r.nm.toList==(aJ a2).toList)=true:=fK hrn
                  have AU:=Lib.hid (decide_eq_true hrn)
                  clear hrn
                  go_wp2
                  go_roundw
                  case rel=> exact ⟨_,_,_,⟨l+1,tL.out,rfl,rfl,AY.out⟩,congrArg Value.bool (Ap.out.trans ((Bool.false_or _).trans AU.out)).symm,rfl,by go_num⟩
                  case measure=> have:=tL.out;simp [intOf] <;> omega
                 ·have EB:(r.nm.toList==(aJ a2).toList)=false:=gX hrn
                  have AU:=Lib.hid (decide_eq_false hrn)
                  clear hrn
                  go_wp2
                  go_roundw
                  case rel=> exact ⟨_,_,_,⟨l+1,tL.out,rfl,rfl,AY.out⟩,congrArg Value.bool (Ap.out.trans ((Bool.false_or _).trans AU.out)).symm,rfl,by go_num⟩
                  case measure=> have:=tL.out;simp [intOf] <;> omega
               ·have Cn:l=N:=by omega
                obtain rfl:IB=true:=Dq.out.trans (by rw [Cn,kD.out,List.take_of_length_le (Nat.le_refl _)];exact AJ.out)
                have q8:¬ (l:Int)<(N:Int):=by omega
                clear Cn hll hl
                go_wp2
                go_roundw
                case rel=> exact ⟨j+1,pE.out,by go_num,by rw [wG.out,AL.out,Ao.out];simp,wT.out.trans (qP.out.mono wT.out.size)⟩
                case measure=> have:=pE.out;simp [intOf] <;> omega
           ·have qu:(U2 !=0)=true:=by simpa using hu2
            have Gi:Hid (aQ S0 ⟨aJ aw,aK aw⟩ d=true):=Lib.hid (by rw [Du.out,decide_eq_false fun h=> hu2 (congrArg Prod.snd h)];rfl)
            clear hu2
            go_wp2
            go_roundw
            case rel=> exact ⟨j+1,pE.out,by go_num,by rw [wG.out,Gi.out];simp,AZ.out⟩
            case measure=> have:=pE.out;simp [intOf] <;> omega
          ·have qe:(d.ta.toList==(aJ aw).toList)=false:=gX ht
           have tN:Hid (aQ S0 ⟨aJ aw,aK aw⟩ d=false):=Lib.hid (by unfold aQ;rw [decide_eq_false ht];rfl)
           clear ht
           go_wp2
           go_roundw
           case rel=> exact ⟨j+1,pE.out,by go_num,by rw [wG.out,tN.out,Ao.out];simp,B11.out⟩
           case measure=> have:=pE.out;simp [intOf] <;> omega
         ·have hjk:j=k:=by omega
          have FK:Hid (WJ=(OUT.take (q+1)).any (fun h=> D.any (aQ S0 h))):=Lib.hid (by rw [Ao.out,hjk,List.take_of_length_le (Nat.le_of_eq eY.out),List.take_add_one,Dr.out,List.any_append,FL.out];simp)
          have q8:¬ (j:Int)<(k:Int):=by omega
          have q9:(q:Int)<1000000:=by have:=Ee.out;have:=kD.out;have:=Bn.out;omega
          clear hjk hjl hj
          go_wp2
          go_roundw
          case rel=> exact ⟨q+1,Bn.out,by go_num,by rw [FK.out],B10.out.trans (tQ.out.mono B10.out.size)⟩
          case measure=> have:=Bn.out;simp [intOf] <;> omega
     ·have GL:q=N:=by omega
      have Dv:Hid (WB=BAD):=Lib.hid (by rw [FL.out,HBAD.out,GL,kD.out,List.take_of_length_le (Nat.le_refl _)])
      obtain rfl:WB=BAD:=Dv.out
      have q9:¬ (q:Int)<(N:Int):=by omega
      clear GL DR hq Dv
      cases WB with
      | true=>
       go_wp2
       go_ret
       exact ⟨rfl,Em.out.trans (Bu.out.mono Em.out.size)⟩
      | false=>
       go_wp2
       go_ret
       exact ⟨rfl,Em.out.trans (Bu.out.mono Em.out.size)⟩
end Go.Proofs.YtpcjekgfnfjbpaaGreat
