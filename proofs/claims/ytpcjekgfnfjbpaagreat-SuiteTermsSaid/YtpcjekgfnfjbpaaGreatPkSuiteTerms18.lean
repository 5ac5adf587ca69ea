/-
  Part 18 of the texts that the proof of SuiteTerms rests on, one after the other. Conditions: named in each theorem.
-/
import Derived.Test.YtpcjekgfnfjbpaaGreatPkSuiteTerms16
import Derived.Test.YtpcjekgfnfjbpaaGreatPkSuiteTerms17
set_option linter.unusedVariables false
set_option linter.unusedSimpArgs false
set_option maxRecDepth 100000
set_option maxHeartbeats 1600000
namespace Go.Proofs.YtpcjekgfnfjbpaaGreat
open Go.RowKit Go.aG Go.ChangeShapes Go.Maps
attribute [local go_sem ↓] Go.wp_at_zero Go.wp_at_succ
section
variable {B : Nat} {w w' : World} {p mb mt : Nat} {vl vb : Value} {tv : Nat → Value} {S : TS}
theorem uK {F:Nat→Prop} (h:jg B w p F S) (hB:B≤w.heap.size) (s:Int) (hl:S.l.length≤1000):
  Calls Tryz.prog 79 #[.pointer (some ⟨p,0,none⟩),.int .i64 s] w fun e w'=> e=.returned (.tuple #[.int .i64 (kI S s).1,.int .i64 (kI S s).2])∧∃F',jg B w' p F' (S.draw s)∧aY F w w'∧∀b,F' b→F b∨w.heap.size≤b:=by
 obtain ⟨mb,mt,vl,vb,tv,h1,h2,h3⟩:=h
 have H:=Lib.hid h1
 have nK:=Lib.hid h2
 have oh:=Lib.hid h3
 have Ah:=Lib.hid hB
 have HL:=Lib.hid hl
 obtain ⟨PA,xP⟩:∃x,x=kI S s:=⟨_,rfl⟩
 obtain ⟨SP,hSP⟩:∃x,x=S.draw s:=⟨_,rfl⟩
 rw [←xP,←hSP]
 have yK:=Lib.hid xP
 have vU:=Lib.hid hSP
 clear h1 h2 h3 hB hl xP hSP
 go_enter Tryz.func79,Tryz.ntmps79
 go_wp2_with fail
 refine (fT H.out).mono ?_
 rintro e w1' ⟨rfl,rfl⟩
 go_wp2_with fail
 refine (nP s _).mono ?_
 rintro e w1 ⟨rfl,rfl⟩
 cases hm:isSort s with
 | false=>
  have E1:Hid (PA=(0,2)):=Lib.hid (by rw [yK.out];unfold kI;rw [if_neg (by rw [hm];decide)])
  have E2:Hid (SP=S):=Lib.hid (by rw [vU.out];unfold TS.draw;rw [if_neg (fun h=> by rw [hm] at h;cases h.1)])
  clear hm
  go_wp2
  go_ret2
  rw [E1.out,E2.out]
  exact ⟨rfl,F,⟨mb,mt,vl,vb,tv,H.out,nK.out,oh.out⟩,.refl _ _,fun b hb=> .inl hb⟩
 | true=>
  have hs:=hm
  simp only [isSort,Bool.and_eq_true,decide_eq_true_eq] at hs
  obtain ⟨k,rfl⟩:=Int.eq_ofNat_of_zero_le (show 0≤s by omega)
  have hk5:k<5:=by omega
  have Ce:(k:Int)<5:=by omega
  have z0:=H.out.nx k hk5
  have KY:=Lib.hid (zh S.l k)
  have Em:=Lib.hid (sJ S.l k)
  by_cases hx:je S.l k≤dX
  ·have E1:Hid (PA=((S.l.length:Int),0)):=Lib.hid (by rw [yK.out];unfold kI;rw [if_pos hm,if_pos hx])
   have E2:Hid (SP=S.add (1,(k:Int),je S.l k)):=Lib.hid (by rw [vU.out];unfold TS.draw;rw [if_pos ⟨hm,hx⟩])
   have BQ:=Lib.hid (zi hx)
   have ET:Hid ((S.add (1,(k:Int),je S.l k)).Ok):=Lib.hid (nK.out.add BQ.out (.inl ⟨rfl,hs,Em.out⟩))
   have HS:=Lib.hid hs
   have hgt:¬ (4611686018427387904:Int)<je S.l k:=by unfold dX at hx;omega
   obtain ⟨X,hX⟩:∃X,X=je S.l k:=⟨_,rfl⟩
   have yI:Hid (0≤X∧X≤4611686018427387904):=Lib.hid (by rw [hX];exact ⟨Em.out,by unfold dX at hx;exact hx⟩)
   rw [←hX] at z0 E2 BQ ET hgt
   clear hm hs hx hX
   go_wp2_with fail
   refine (lH H.out Ah.out (1,(k:Int),X) ⟨⟨by simp,by simp⟩,⟨by simp only;omega,by simp only;omega⟩,⟨by simp only;have:=yI.out;omega,by simp only;have:=yI.out;omega⟩⟩ BQ.out (fun _=> HS.out) HL.out).mono ?_
   rintro e w4 ⟨rfl,jW,h4,hc4,zY⟩
   have S4:Hid (jg B w4 p (TF p mb mt jW vb S.tx.length tv) (S.add (1,(k:Int),X))):=Lib.hid ⟨mb,mt,jW,vb,tv,h4,ET.out,fun b=> Iff.rfl⟩
   have C4:Hid (aY F w1 w4):=Lib.hid (hc4.mono (G:=F) fun b _ hb=> (oh.out b).2 (by
    rcases hb with h | h | h
    ·exact .inl h
    ·exact .inr (.inl h)
    ·exact .inr (.inr (.inr (.inl h)))))
   have F4:Hid (∀b,TF p mb mt jW vb S.tx.length tv b→F b∨w1.heap.size≤b):=Lib.hid fun b hb=> (TF.add (N:=w1.heap.size) zY b hb).imp (oh.out b).2 id
   clear h4 hc4 zY
   go_wp2
   go_ret2
   rw [E1.out,E2.out]
   exact ⟨rfl,_,S4.out,C4.out,F4.out⟩
  ·have E1:Hid (PA=(0,3)):=Lib.hid (by rw [yK.out];unfold kI;rw [if_pos hm,if_neg hx])
   have E2:Hid (SP=S):=Lib.hid (by rw [vU.out];unfold TS.draw;rw [if_neg (fun h=> hx h.2)])
   have hgt:(4611686018427387904:Int)<je S.l k:=by unfold dX at hx;omega
   clear hm hs hx
   go_wp2
   go_ret2
   rw [E1.out,E2.out]
   exact ⟨rfl,F,⟨mb,mt,vl,vb,tv,H.out,nK.out,oh.out⟩,.refl _ _,fun b hb=> .inl hb⟩
end
section
variable {B : Nat} {w w' : World} {p : Nat} {F : Nat → Prop} {S : TS}
def nG (S:TS) (n:Int):Tm × Bool:=if 0≤n then (match S.l[n.toNat]? with | some t=> (t,true) | none=> ((0,0,0),false)) else ((0,0,0),false)
theorem lZ {n:Nat} {t:Tm} (h:S.l[n]? =some t):nG S n=(t,true):=by
 unfold nG
 rw [if_pos (by omega),Int.toNat_natCast,h]
theorem zD {n:Int} (h:aX S.l n 0=false):nG S n=((0,0,0),false):=by
 unfold nG
 split
 ·rename_i h0
  split
  ·rename_i t ht
   obtain ⟨a,rfl⟩:=Int.eq_ofNat_of_zero_le h0
   rw [Int.toNat_natCast] at ht
   rw [bJ.2 ⟨a,rfl,t,ht,.inl rfl⟩] at h
   cases h
  ·rfl
 ·rfl
theorem lG (h:jg B w p F S) (n:Int):Calls Tryz.prog 61 #[.pointer (some ⟨p,0,none⟩),.int .i64 n] w fun e w'=> e=.returned (.tuple #[rP (nG S n).1,.bool (nG S n).2])∧Below w.heap.size w w':=by
 obtain ⟨mb,mt,vl,vb,tv,h1,h2,h3⟩:=h
 have H:=Lib.hid h1
 obtain ⟨G,hG⟩:∃x,x=nG S n:=⟨_,rfl⟩
 rw [←hG]
 have HG:=Lib.hid hG
 clear h1 h2 h3 hG
 go_enter Tryz.func61,Tryz.ntmps61
 go_upto_region 1 with (fail)
 refine aF (fun w1=> aI .i64 w1 w.heap.size 3 (fun _=> 0)∧Below w.heap.size w w1) ⟨aI.newAt rfl rfl,(Below.refl _ _).alloc (Nat.le_refl _) _⟩ ?_
 rintro w1 ⟨hA1,bb1⟩
 have HA1:=Lib.hid hA1
 have B1:=Lib.hid bb1
 have H1:=Lib.hid (H.out.below bb1)
 clear hA1 bb1
 go_wp2_with fail
 refine (fT H1.out).mono ?_
 rintro e w1' ⟨rfl,rfl⟩
 go_wp2_with fail
 refine (aZ H1.out n 0).mono ?_
 rintro e w2 ⟨rfl,rfl⟩
 cases hm:aX S.l n 0 with
 | false=>
  have E1:Hid (G=((0,0,0),false)):=Lib.hid (HG.out.trans (zD hm))
  obtain ⟨t1,ht1⟩:=HA1.out
  have HT1:=Lib.hid ht1
  clear hm ht1
  go_wp2_with (refine fU rfl 96 _ _ rfl w.heap.size 3 (fun i=> .int .i64 (tf (0,0,0) i)) _ t1 HT1.out rfl Tryz.sizeTm rfl rfl (fun i _=> rfl) ?_)
  have HA2:Hid (aI .i64 (w2.setRow w.heap.size (bZ 3 fun i=> .int .i64 (tf (0,0,0) i))) w.heap.size 3 (tf (0,0,0))):=Lib.hid (HA1.out.setRow 3 (tf (0,0,0)))
  have B2:Hid (Below w.heap.size w (w2.setRow w.heap.size (bZ 3 fun i=> .int .i64 (tf (0,0,0) i)))):=Lib.hid (aD B1.out (Nat.le_refl _) _)
  rw [E1.out]
  refine bodyPost_ret (jr rfl _ _ .i64 w.heap.size 3 _ rfl HA2.out Tryz.underlying96 rfl Tryz.sizeTm) rfl ?_
  exact ⟨rfl,B2.out⟩
 | true=>
  obtain ⟨a,rfl,ha,_⟩:=dU hm
  obtain ⟨t,ht⟩:∃t,S.l[a]? =some t:=⟨_,List.getElem?_eq_getElem ha⟩
  have E1:Hid (G=(t,true)):=Lib.hid (HG.out.trans (lZ ht))
  obtain ⟨t1,ht1⟩:=HA1.out
  have HT1:=Lib.hid ht1
  have c0:=H1.out.c0
  obtain ⟨g,cap,ev,_,_,_,hc⟩:=H1.out.ls.form (by omega)
  have HC:Hid (∀i,i<3→w2.cell? ⟨g,a * 3+i,none⟩=some (.int .i64 (tf t i))):=Lib.hid fun i hi=> (hc a ha i hi).trans (congrArg some (ow ht))
  rw [ev] at c0
  have h9:(a:Int)<(S.l.length:Int):=by omega
  clear hm ht1 ha ht hc ev
  go_wp2_with (first
   | (refine fE (y:=fun i=> .int .i64 (tf t i)) rfl rfl rfl Tryz.underlying96 rfl Tryz.sizeTm HC.out ?_)
   | (refine fU rfl 96 _ _ rfl w.heap.size 3 (fun i=> .int .i64 (tf t i)) _ t1 HT1.out rfl Tryz.sizeTm rfl rfl (fun i _=> rfl) ?_))
  have HA2:Hid (aI .i64 (w2.setRow w.heap.size (bZ 3 fun i=> .int .i64 (tf t i))) w.heap.size 3 (tf t)):=Lib.hid (HA1.out.setRow 3 (tf t))
  have B2:Hid (Below w.heap.size w (w2.setRow w.heap.size (bZ 3 fun i=> .int .i64 (tf t i)))):=Lib.hid (aD B1.out (Nat.le_refl _) _)
  rw [E1.out]
  refine bodyPost_ret (jr rfl _ _ .i64 w.heap.size 3 _ rfl HA2.out Tryz.underlying96 rfl Tryz.sizeTm) rfl ?_
  exact ⟨rfl,B2.out⟩
end
end Go.Proofs.YtpcjekgfnfjbpaaGreat
namespace Go.aG
open Go.RowKit
theorem Rd.zJ {F:Nat→Prop} {w w':World} {k:IntKind} {v:Value} {n:Nat} {f:Nat→Int} (h:Rd k w v n f) (hg:aY F w w') (hne:0<n→∀b,v.ownBlock=some b→¬ F b):Rd k w' v n f:=by
 obtain ⟨a,c,rfl,h1,h2,h3,h4⟩:=h
 refine ⟨a,c,rfl,h1,h2,h3,fun hn=> ?_⟩
 obtain ⟨b,o,rfl,hlt,hc⟩:=h4 hn
 have:=hg.size
 exact ⟨b,o,rfl,by omega,fun i hi=> (hg.cell (p:=⟨b,o+i,none⟩) hlt (hne hn b rfl)).trans (hc i hi)⟩
end Go.aG
namespace Go.Proofs.YtpcjekgfnfjbpaaGreat
open Go.RowKit Go.aG Go.ChangeShapes Go.Maps
attribute [local go_sem ↓] Go.wp_at_zero Go.wp_at_succ
section
variable {B : Nat} {w w' : World} {p mb mt : Nat} {vl vb : Value} {tv : Nat → Value} {S : TS}
theorem kU.ofText {b:List Int} {jW Hg:Value} {tv':Nat→Value} (h:kU B w p mb mt vl vb tv S) (Di:Ca b) (hn:b ∉ S.tx) (h9:((9,(S.tx.length:Int),0):Tm) ∉ S.l) (hlen:S.tx.length≤1000000) {nf:Nat→Int} (hp:Tsp B w' p mb mt jW Hg tv' (S.l++ [(9,(S.tx.length:Int),0)]) (S.l++ [(9,(S.tx.length:Int),0)]) (S.tx++ [b]) (S.tx++ [b]) (qc (S.text b)) nf) (hf:∀k:Nat,k<5→nf k=je S.l k):kU B w' p mb mt jW Hg tv' (S.text b):=by
 have hS:S.text b=⟨S.l++ [(9,(S.tx.length:Int),0)],S.tx++ [b]⟩:=if_neg hn
 rw [hS] at hp ⊢
 refine ⟨⟨hp.row,hp.c0,hp.c1,hp.c2,hp.c3,fun k hk=> (hp.nx k hk).trans (by rw [hf k hk,gV,if_neg (fun h=> by have:=h.1;simp at this)]),hp.ls,hp.am,hp.xm,hp.bs,hp.bt,hp.ne,hp.hp,hp.hb,hp.hm,hp.hl,hp.hv⟩,aT h.nd h9,aT h.txn hn,fun j hj=> ?_,fun u hu=> ?_,fun u hu=> ?_⟩
 ·have hj:j<(S.tx++ [b]).length:=hj
  rw [List.length_append,List.length_singleton] at hj
  refine List.mem_append.2 ?_
  by_cases h':j<S.tx.length
  ·exact .inl (h.all j h')
  ·exact .inr (by rw [show j=S.tx.length by omega];simp)
 ·rcases List.mem_append.1 hu with hu | hu
  ·exact h.AA u hu
  ·rw [List.mem_singleton.1 hu]
   exact ⟨⟨by simp,by simp⟩,⟨by simp only;omega,by simp only;omega⟩,⟨by simp,by simp⟩⟩
 ·rcases List.mem_append.1 hu with hu | hu
  ·exact h.zT u hu
  ·rw [List.mem_singleton.1 hu];exact Di
theorem yP {b:List Int} (h:S.l.Nodup) (hx:S.tx.Nodup) (hn:b ∉ S.tx) (h9:((9,(S.tx.length:Int),0):Tm) ∉ S.l):qc (S.text b) b=S.l.length:=by
 have hS:S.text b=⟨S.l++ [(9,(S.tx.length:Int),0)],S.tx++ [b]⟩:=if_neg hn
 rw [hS]
 unfold qc
 have e1:mI (S.tx++ [b]) b=S.tx.length:=oN (aT hx hn) (by rw [List.getElem?_append_right (Nat.le_refl _),Nat.sub_self];rfl)
 simp only [e1]
 exact oN (aT h h9) (by rw [List.getElem?_append_right (Nat.le_refl _),Nat.sub_self];rfl)
theorem yO {b y:List Int} (hx:S.tx.Nodup) (hn:b ∉ S.tx) (hy:y ∈ S.tx):qc (S.text b) y=qc (S.add (9,(S.tx.length:Int),0)) y:=by
 have hS:S.text b=⟨S.l++ [(9,(S.tx.length:Int),0)],S.tx++ [b]⟩:=if_neg hn
 rw [hS]
 unfold qc
 simp only [iV (aT hx hn) (List.prefix_append _ _) hy]
 rfl
theorem jG {F:Nat→Prop} (h:jg B w p F S) (hB:B≤w.heap.size) (b:List Int) (Di:Ca b) (v:Value) (hv:Rd .u8 w v b.length (bf b)) (Ic:0<b.length→∀c,v.ownBlock=some c→¬ F c) (hl:S.l.length≤1000) (hx:S.tx.length≤1000):
  Calls Tryz.prog 81 #[.pointer (some ⟨p,0,none⟩),v] w fun e w'=> e=.returned (.tuple #[.int .i64 (dY S b),.int .i64 0])∧∃F',jg B w' p F' (S.text b)∧aY F w w'∧∀b,F' b→F b∨w.heap.size≤b:=by
 obtain ⟨mb,mt,vl,vb,tv,h1,h2,h3⟩:=h
 have H:=Lib.hid h1
 have nK:=Lib.hid h2
 have oh:=Lib.hid h3
 have Ah:=Lib.hid hB
 have HL:=Lib.hid hl
 have HX:=Lib.hid hx
 have BP:=Lib.hid Di
 have HV:=Lib.hid hv
 have Jk:=Lib.hid Ic
 clear Ic
 obtain ⟨av,cv,rfl,_⟩:=hv
 obtain ⟨PA,xP⟩:∃x,x=dY S b:=⟨_,rfl⟩
 obtain ⟨SP,hSP⟩:∃x,x=S.text b:=⟨_,rfl⟩
 rw [←xP,←hSP]
 have yK:=Lib.hid xP
 have vU:=Lib.hid hSP
 have h9:¬ (1048576:Int)<(b.length:Int):=by have:=Di.2;omega
 clear h1 h2 h3 hB hl hx Di xP hSP
 go_enter Tryz.func81,Tryz.ntmps81
 go_wp2_with fail
 refine (fT H.out).mono ?_
 rintro e w1 ⟨rfl,rfl⟩
 go_upto_region 5 with (fail)
 have c2:=H.out.c2
 clear h9
 by_cases hin:b ∈ S.tx
 ·have E1:Hid (PA=(qc S b:Int)):=Lib.hid (by rw [yK.out];unfold dY;rw [if_pos hin];rfl)
  have E2:Hid (SP=S):=Lib.hid (by rw [vU.out];unfold TS.text;rw [if_pos hin])
  have l1:∀n,(Instr.lookup 161 (.map (some mt)) (.string (strOf b.length (bf b))) true).run Tryz.prog (w1.drewN n)=.ok (.tuple #[jy (qc S b),.bool true]) (w1.drewN n):=fun n=> xC.uf (H.out.below (Go.aG.below_drewN (Below.refl _ _) n)).xm hin
  obtain ⟨X,hX⟩:∃X,X=qc S b:=⟨_,rfl⟩
  rw [←hX] at l1 E1
  clear hin hX
  refine wp_region_quiet_lit (by kernel_rfl) (by kernel_rfl) ?_
  repeat (first | (refine jJ rfl (fun n=> gP rfl rfl (HV.out.below (Go.aG.below_drewN (Below.refl _ _) n)) Tryz.underlying23 Tryz.underlying5 Tryz.underlying9 BP.out.1.at) ?_) | quiet_step (fail))
  refine wpQuiet_nil ?_
  rintro _ ⟨nq,rfl⟩
  go_wp2
  go_ret2
  rw [E1.out,E2.out]
  exact ⟨rfl,F,⟨mb,mt,vl,vb,tv,H.out.below (Go.aG.below_drewN (Below.refl _ _) nq),nK.out,oh.out⟩,.of_below (Go.aG.below_drewN (Below.refl _ _) nq) _,fun b hb=> .inl hb⟩
 ·have E1:Hid (PA=(S.l.length:Int)):=Lib.hid (by rw [yK.out];unfold dY;rw [if_neg hin])
  have l1:∀n,(Instr.lookup 161 (.map (some mt)) (.string (strOf b.length (bf b))) true).run Tryz.prog (w1.drewN n)=.ok (.tuple #[.int .i64 0,.bool false]) (w1.drewN n):=fun n=> xC.xw (H.out.below (Go.aG.below_drewN (Below.refl _ _) n)).xm H.out.zT BP.out hin
  have Ag:=Lib.hid hin
  clear hin
  refine wp_region_quiet_lit (by kernel_rfl) (by kernel_rfl) ?_
  repeat (first | (refine jJ rfl (fun n=> gP rfl rfl (HV.out.below (Go.aG.below_drewN (Below.refl _ _) n)) Tryz.underlying23 Tryz.underlying5 Tryz.underlying9 BP.out.1.at) ?_) | quiet_step (fail))
  refine wpQuiet_nil ?_
  rintro _ ⟨nq,rfl⟩
  clear l1 c2
  have B3:=Lib.hid (Go.aG.below_drewN (Below.refl w1.heap.size w1) nq)
  have H3:=Lib.hid (H.out.below B3.out)
  have GI:=Lib.hid nK.out.xV
  have c3:=H3.out.c3
  obtain ⟨ab,cb,eb,_⟩:=H3.out.bs.slice
  have Ew:=Lib.hid eb
  rw [eb] at c3
  clear eb
  go_wp2_with fail
  refine (lH H3.out (Nat.le_trans Ah.out B3.out.size) (9,(S.tx.length:Int),0) ⟨⟨by simp,by simp⟩,⟨by simp only;have:=HX.out;omega,by simp only;have:=HX.out;omega⟩,⟨by simp,by simp⟩⟩ GI.out (fun h=> by simp at h) HL.out).mono ?_
  rintro e w4 ⟨rfl,jW,h4,hc4,zY⟩
  have H4:=Lib.hid h4
  have C4:=Lib.hid hc4
  have F4:=Lib.hid zY
  clear h4 hc4 zY c3
  go_upto_region 11 with (fail)
  apply bC (n:=63) [.f,.e,.e,.e,.e,.e,.c,.c,.c,.f,.f,.c] 2 (by kernel_rfl) (by kernel_rfl) (by kernel_rfl) rfl
  ·intro w5 zB
   have c3:=(H4.out.below zB).c3
   rw [Ew.out] at c3
   simp only [aO,Cl.pK,cond_true,cond_false]
   repeat still_step
   exact wpStill_nil rfl
  ·intro w5
   simp only [aO,Cl.yG,cond_true,cond_false]
   repeat still_step
   exact wpStill_nil rfl
  ·simp only [aO,Cl.fG,cond_true,cond_false]
   refine fI ((Below.refl _ _).drew) (fun K hK=> ?_)
   go_simp
   have Fe:Hid (aY F w1 w4):=Lib.hid ((aY.of_below B3.out F).trans (C4.out.mono (G:=F) fun b _ hb=> (oh.out b).2 (by
    rcases hb with h | h | h
    ·exact .inl h
    ·exact .inr (.inl h)
    ·exact .inr (.inr (.inr (.inl h))))) fun _ _ h=> h)
   have EU:=Lib.hid ((HV.out.zJ Fe.out Jk.out).below ((Below.refl w4.heap.size w4).drew))
   have BX:Hid (B≤w4.heap.size):=Lib.hid (Nat.le_trans Ah.out Fe.out.size)
   refine (jS _ _ _ _ EU.out (by have:=BP.out.2;omega)).mono ?_
   rintro e w5 ⟨u,rfl,hu,b5⟩
   have UB:Hid (∀c,u.ownBlock=some c→w4.heap.size≤c):=Lib.hid hu.block
   have hu:=hu.mono (show B≤w4.drew.heap.size from BX.out)
   have uD:Below w4.heap.size w4 w5:=((Below.refl w4.heap.size w4).drew).trans b5
   refine hK _ _ uD ?_
   clear hK K
   obtain ⟨au,cu,eu,_⟩:=hu.kP.slice
   subst eu
   refine fI uD (fun K hK=> ?_)
   rw [if_pos (ah rfl)]
   refine nL 55 23 1 _ rfl Tryz.underlying55 #[.slice au b.length cu] (by kernel_rfl) (hK _ _ (uD.alloc uD.size _) (fH ?_))
   clear hK K
   have H5:=Lib.hid (H4.out.below uD)
   refine ji (w0:=w5) rfl _ _ rfl rfl rfl (Ew.out▸H5.out.bs) Tryz.underlying55 Tryz.infoBs rfl rfl rfl (by have:=HX.out;unfold maxLen;show S.tx.length+1≤_;omega) (by have:=HX.out;show (S.tx.length+1) * 24≤_;omega) ?_
   intro v6 w6 iD Ik iJ
   obtain ⟨⟨e0,f0⟩,Dx,Cj,II⟩:=H5.out.toTsp.CF (b0:=b) (Nat.le_trans BX.out uD.size) iD rfl hu (Ew.out▸Ik) (Ew.out▸iJ)
   rw [Ew.out] at e0
   have T7:=Lib.hid Dx
   have C7:Hid (aY (fun b=> b=p∨vb.ownBlock=some b) w4 _):=Lib.hid ((aY.of_below uD _).trans Cj fun _ _ h=> h)
   have F7:Hid (∀b,v6.ownBlock=some b→vb.ownBlock=some b∨w4.heap.size≤b):=Lib.hid fun b hb=> (II b hb).imp id fun h=> Nat.le_trans uD.size h
   obtain ⟨a6,q6,rfl,_⟩:=iD.slice
   clear iD Ik iJ Dx Cj II hu b5 uD
   go_wp2
   refine nV ?_
   go_upto_region 12 with (fail)
   refine aF (fun w7=> Tsp B w7 p mb mt jW (.slice a6 (S.tx.length+1) q6) (fun j=> if j=S.tx.length then .slice au b.length cu else tv j) (S.l++ [(9,(S.tx.length:Int),0)]) (S.l++ [(9,(S.tx.length:Int),0)]) (S.tx++ [b]) S.tx (qc (S.add (9,(S.tx.length:Int),0))) (fun k=> je (S.l++ [(9,(S.tx.length:Int),0)]) k)∧aY (fun b=> b=p∨vb.ownBlock=some b) w4 w7) ⟨T7.out,C7.out⟩ ?_
   rintro w7 ⟨Dx,Cj⟩
   have T7:=Lib.hid Dx
   have C7:=Lib.hid Cj
   have JN:Hid (aY F w1 w7):=Lib.hid (Fe.out.trans (Cj.mono (G:=F) fun c _ hc=> (oh.out c).2 (by
    rcases hc with h | h
    ·exact .inl h
    ·exact .inr (.inr (.inr (.inr (.inl h)))))) fun _ _ h=> h)
   clear Dx Cj e0 f0
   have KW:=Lib.hid (HV.out.zJ JN.out Jk.out)
   have GN:=Ag.out
   obtain ⟨w8,hrun,Dw,DC⟩:=(T7.out.below ((Below.refl w7.heap.size w7).drew)).Fq (Cu:=qc (S.text b)) H.out.zT BP.out Ag.out (by have:=HX.out;omega) (yP H.out.nd H.out.txn Ag.out GI.out) (by have:=HL.out;omega) (fun y hy=> yO H.out.txn Ag.out hy)
   have tu:Hid ((Instr.mapUpdate 161 (.map (some mt)) (.string (strOf b.length (bf b))) (.int .i64 (S.l.length:Int))).run Tryz.prog w7.drew=.ok () w8):=Lib.hid hrun
   have FIN:=Lib.hid (H.out.ofText BP.out Ag.out GI.out (by have:=HX.out;omega) Dw fun k _=> by rw [gV,if_neg (fun h=> by have:=h.1;simp at this)])
   have LM:Hid (aY F w1 w8):=Lib.hid ((JN.out.trans (aY.of_below ((Below.refl w7.heap.size w7).drew) (fun _=> False)) fun _ _ h=> h.elim).trans (DC.mono (G:=F) fun c _ hc=> (oh.out c).2 (.inr (.inr (.inl hc)))) fun _ _ h=> h)
   have Je:=Lib.hid (nK.out.text b)
   have F8:Hid (∀c,TF p mb mt jW (.slice a6 (S.tx.length+1) q6) (S.text b).tx.length (fun j=> if j=S.tx.length then .slice au b.length cu else tv j) c→F c∨w1.heap.size≤c):=Lib.hid fun c hc=> by
    have s4:=Fe.out.size
    rcases hc with h | h | h | h | h | ⟨j,hj,h⟩
    ·exact .inl ((oh.out c).2 (.inl h))
    ·exact .inl ((oh.out c).2 (.inr (.inl h)))
    ·exact .inl ((oh.out c).2 (.inr (.inr (.inl h))))
    ·exact (F4.out c h).imp (fun h=> (oh.out c).2 (.inr (.inr (.inr (.inl h))))) fun h=> Nat.le_trans B3.out.size h
    ·exact (F7.out c h).imp (fun h=> (oh.out c).2 (.inr (.inr (.inr (.inr (.inl h)))))) fun h=> Nat.le_trans s4 h
    ·dsimp only at h
     by_cases e:j=S.tx.length
     ·rw [if_pos e] at h
      exact .inr (Nat.le_trans s4 (UB.out c h))
     ·rw [if_neg e] at h
      have hj:j<(S.text b).tx.length:=hj
      rw [show S.text b=⟨S.l++ [(9,(S.tx.length:Int),0)],S.tx++ [b]⟩ from if_neg Ag.out] at hj
      have hj:j<(S.tx++ [b]).length:=hj
      rw [List.length_append,List.length_singleton] at hj
      exact .inl ((oh.out c).2 (.inr (.inr (.inr (.inr (.inr ⟨j,by omega,h⟩))))))
   clear hrun Dw DC GN
   rw [←vU.out] at FIN Je F8
   apply bC (n:=63) [.e,.e,.e,.e,.e,.c,.e,.c] 1 (by kernel_rfl) (by kernel_rfl) (by kernel_rfl) rfl
   ·intro w9 Kz
    have c2:=(T7.out.below Kz).c2
    simp only [aO,Cl.pK,cond_true,cond_false]
    repeat still_step
    exact wpStill_nil rfl
   ·intro w9
    simp only [aO,Cl.yG,cond_true,cond_false]
    repeat still_step
    exact wpStill_nil rfl
   ·simp only [aO,Cl.fG,cond_true,cond_false]
    refine fI ((Below.refl _ _).drew) (fun K hK=> ?_)
    rw [if_pos (ah rfl)]
    unfold Oper.wp
    rw [gP (v:=.slice av b.length cv) rfl rfl (KW.out.below ((Below.refl w7.heap.size w7).drew)) Tryz.underlying23 Tryz.underlying5 Tryz.underlying9 BP.out.1.at]
    refine hK _ _ ((Below.refl _ _).drew) (fH ?_)
    clear hK K
    have hrun:=tu.out
    go_wp2
    refine nV ?_
    clear hrun
    go_wp2
    go_ret2
    rw [E1.out]
    exact ⟨rfl,_,⟨mb,mt,_,_,_,FIN.out,Je.out,fun b=> Iff.rfl⟩,LM.out,F8.out⟩
end
end Go.Proofs.YtpcjekgfnfjbpaaGreat
