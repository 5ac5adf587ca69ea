/-
  Part 19 of the texts that the proof of SuiteOpens rests on, one after the other. Conditions: named in each theorem.
-/
import Derived.Test.YtpcjekgfnfjbpaaGreatPkSuiteOpens17
import Derived.Test.YtpcjekgfnfjbpaaGreatPkSuiteOpens18
set_option linter.unusedVariables false
set_option linter.unusedSimpArgs false
set_option maxRecDepth 100000
set_option maxHeartbeats 1600000
namespace Go.Proofs.YtpcjekgfnfjbpaaGreat
open Go.RowKit Go.aG Go.ChangeShapes Go.Maps
attribute [local go_sem ↓] Go.wp_at_zero Go.wp_at_succ
section
variable {B : Nat} {w w' : World} {p mb mt : Nat} {vl vb : Value} {tv : Nat → Value} {S : TS}
theorem uX {F:Nat→Prop} (h:jK B w p F S) (hB:B≤w.heap.size) (s:Int) (hl:S.l.length≤1000):
  Calls Tryz.prog 79 #[.pointer (some ⟨p,0,none⟩),.int .i64 s] w fun e w'=> e=.returned (.tuple #[.int .i64 (kU S s).1,.int .i64 (kU S s).2])∧∃F',jK B w' p F' (S.draw s)∧aZ F w w'∧∀b,F' b→F b∨w.heap.size≤b:=by
 obtain ⟨mb,mt,vl,vb,tv,h1,h2,h3⟩:=h
 have H:=Lib.hid h1
 have kr:=Lib.hid h2
 have oC:=Lib.hid h3
 have AX:=Lib.hid hB
 have HL:=Lib.hid hl
 obtain ⟨PA,xY⟩:∃x,x=kU S s:=⟨_,rfl⟩
 obtain ⟨SP,hSP⟩:∃x,x=S.draw s:=⟨_,rfl⟩
 rw [←xY,←hSP]
 have zf:=Lib.hid xY
 have wu:=Lib.hid hSP
 clear h1 h2 h3 hB hl xY hSP
 go_enter Tryz.func79,Tryz.ntmps79
 go_wp2_with fail
 refine (fU H.out).mono ?_
 rintro e w1' ⟨rfl,rfl⟩
 go_wp2_with fail
 refine (nU s _).mono ?_
 rintro e w1 ⟨rfl,rfl⟩
 cases hm:isSort s with
 | false=>
  have E1:Hid (PA=(0,2)):=Lib.hid (by rw [zf.out];unfold kU;rw [if_neg (by rw [hm];decide)])
  have E2:Hid (SP=S):=Lib.hid (by rw [wu.out];unfold TS.draw;rw [if_neg (fun h=> by rw [hm] at h;cases h.1)])
  clear hm
  go_wp2
  go_ret2
  rw [E1.out,E2.out]
  exact ⟨rfl,F,⟨mb,mt,vl,vb,tv,H.out,kr.out,oC.out⟩,.refl _ _,fun b hb=> .inl hb⟩
 | true=>
  have hs:=hm
  simp only [isSort,Bool.and_eq_true,decide_eq_true_eq] at hs
  obtain ⟨k,rfl⟩:=Int.eq_ofNat_of_zero_le (show 0≤s by omega)
  have hk5:k<5:=by omega
  have FE:(k:Int)<5:=by omega
  have z0:=H.out.nx k hk5
  have Na:=Lib.hid (zG S.l k)
  have EX:=Lib.hid (sW S.l k)
  by_cases hx:jJ S.l k≤eU
  ·have E1:Hid (PA=((S.l.length:Int),0)):=Lib.hid (by rw [zf.out];unfold kU;rw [if_pos hm,if_pos hx])
   have E2:Hid (SP=S.add (1,(k:Int),jJ S.l k)):=Lib.hid (by rw [wu.out];unfold TS.draw;rw [if_pos ⟨hm,hx⟩])
   have CQ:=Lib.hid (zH hx)
   have FT:Hid ((S.add (1,(k:Int),jJ S.l k)).Ok):=Lib.hid (kr.out.add CQ.out (.inl ⟨rfl,hs,EX.out⟩))
   have HS:=Lib.hid hs
   have hgt:¬ (4611686018427387904:Int)<jJ S.l k:=by unfold eU at hx;omega
   obtain ⟨X,hX⟩:∃X,X=jJ S.l k:=⟨_,rfl⟩
   have Ky:Hid (0≤X∧X≤4611686018427387904):=Lib.hid (by rw [hX];exact ⟨EX.out,by unfold eU at hx;exact hx⟩)
   rw [←hX] at z0 E2 CQ FT hgt
   clear hm hs hx hX
   go_wp2_with fail
   refine (lN H.out AX.out (1,(k:Int),X) ⟨⟨by simp,by simp⟩,⟨by simp only;omega,by simp only;omega⟩,⟨by simp only;have:=Ky.out;omega,by simp only;have:=Ky.out;omega⟩⟩ CQ.out (fun _=> HS.out) HL.out).mono ?_
   rintro e w4 ⟨rfl,jM,h4,hc4,Az⟩
   have S4:Hid (jK B w4 p (TF p mb mt jM vb S.tx.length tv) (S.add (1,(k:Int),X))):=Lib.hid ⟨mb,mt,jM,vb,tv,h4,FT.out,fun b=> Iff.rfl⟩
   have C4:Hid (aZ F w1 w4):=Lib.hid (hc4.mono (G:=F) fun b _ hb=> (oC.out b).2 (by
    rcases hb with h | h | h
    ·exact .inl h
    ·exact .inr (.inl h)
    ·exact .inr (.inr (.inr (.inl h)))))
   have F4:Hid (∀b,TF p mb mt jM vb S.tx.length tv b→F b∨w1.heap.size≤b):=Lib.hid fun b hb=> (TF.add (N:=w1.heap.size) Az b hb).imp (oC.out b).2 id
   clear h4 hc4 Az
   go_wp2
   go_ret2
   rw [E1.out,E2.out]
   exact ⟨rfl,_,S4.out,C4.out,F4.out⟩
  ·have E1:Hid (PA=(0,3)):=Lib.hid (by rw [zf.out];unfold kU;rw [if_pos hm,if_neg hx])
   have E2:Hid (SP=S):=Lib.hid (by rw [wu.out];unfold TS.draw;rw [if_neg (fun h=> hx h.2)])
   have hgt:(4611686018427387904:Int)<jJ S.l k:=by unfold eU at hx;omega
   clear hm hs hx
   go_wp2
   go_ret2
   rw [E1.out,E2.out]
   exact ⟨rfl,F,⟨mb,mt,vl,vb,tv,H.out,kr.out,oC.out⟩,.refl _ _,fun b hb=> .inl hb⟩
end
section
variable {B : Nat} {w w' : World} {p : Nat} {F : Nat → Prop} {S : TS}
def jG (S:TS) (n:Int):Tm × Bool:=if 0≤n then (match S.l[n.toNat]? with | some t=> (t,true) | none=> ((0,0,0),false)) else ((0,0,0),false)
theorem jF {n:Nat} {t:Tm} (h:S.l[n]? =some t):jG S n=(t,true):=by
 unfold jG
 rw [if_pos (by omega),Int.toNat_natCast,h]
theorem zV {n:Int} (h:aY S.l n 0=false):jG S n=((0,0,0),false):=by
 unfold jG
 split
 ·rename_i h0
  split
  ·rename_i t ht
   obtain ⟨a,rfl⟩:=Int.eq_ofNat_of_zero_le h0
   rw [Int.toNat_natCast] at ht
   rw [eH.2 ⟨a,rfl,t,ht,.inl rfl⟩] at h
   cases h
  ·rfl
 ·rfl
theorem gU (h:jK B w p F S) (n:Int):Calls Tryz.prog 61 #[.pointer (some ⟨p,0,none⟩),.int .i64 n] w fun e w'=> e=.returned (.tuple #[sj (jG S n).1,.bool (jG S n).2])∧Below w.heap.size w w':=by
 obtain ⟨mb,mt,vl,vb,tv,h1,h2,h3⟩:=h
 have H:=Lib.hid h1
 obtain ⟨G,hG⟩:∃x,x=jG S n:=⟨_,rfl⟩
 rw [←hG]
 have HG:=Lib.hid hG
 clear h1 h2 h3 hG
 go_enter Tryz.func61,Tryz.ntmps61
 go_upto_region 1 with (fail)
 refine aD (fun w1=> aI .i64 w1 w.heap.size 3 (fun _=> 0)∧Below w.heap.size w w1) ⟨aI.newAt rfl rfl,(Below.refl _ _).alloc (Nat.le_refl _) _⟩ ?_
 rintro w1 ⟨hA1,bb1⟩
 have HA1:=Lib.hid hA1
 have B1:=Lib.hid bb1
 have H1:=Lib.hid (H.out.below bb1)
 clear hA1 bb1
 go_wp2_with fail
 refine (fU H1.out).mono ?_
 rintro e w1' ⟨rfl,rfl⟩
 go_wp2_with fail
 refine (bn H1.out n 0).mono ?_
 rintro e w2 ⟨rfl,rfl⟩
 cases hm:aY S.l n 0 with
 | false=>
  have E1:Hid (G=((0,0,0),false)):=Lib.hid (HG.out.trans (zV hm))
  obtain ⟨t1,ht1⟩:=HA1.out
  have HT1:=Lib.hid ht1
  clear hm ht1
  go_wp2_with (refine fV rfl 96 _ _ rfl w.heap.size 3 (fun i=> .int .i64 (tf (0,0,0) i)) _ t1 HT1.out rfl Tryz.sizeTm rfl rfl (fun i _=> rfl) ?_)
  have HA2:Hid (aI .i64 (w2.setRow w.heap.size (cB 3 fun i=> .int .i64 (tf (0,0,0) i))) w.heap.size 3 (tf (0,0,0))):=Lib.hid (HA1.out.setRow 3 (tf (0,0,0)))
  have B2:Hid (Below w.heap.size w (w2.setRow w.heap.size (cB 3 fun i=> .int .i64 (tf (0,0,0) i)))):=Lib.hid (aF B1.out (Nat.le_refl _) _)
  rw [E1.out]
  refine bodyPost_ret (jv rfl _ _ .i64 w.heap.size 3 _ rfl HA2.out Tryz.underlying96 rfl Tryz.sizeTm) rfl ?_
  exact ⟨rfl,B2.out⟩
 | true=>
  obtain ⟨a,rfl,ha,_⟩:=dX hm
  obtain ⟨t,ht⟩:∃t,S.l[a]? =some t:=⟨_,List.getElem?_eq_getElem ha⟩
  have E1:Hid (G=(t,true)):=Lib.hid (HG.out.trans (jF ht))
  obtain ⟨t1,ht1⟩:=HA1.out
  have HT1:=Lib.hid ht1
  have c0:=H1.out.c0
  obtain ⟨g,cap,ev,_,_,_,hc⟩:=H1.out.ls.form (by omega)
  have HC:Hid (∀i,i<3→w2.cell? ⟨g,a * 3+i,none⟩=some (.int .i64 (tf t i))):=Lib.hid fun i hi=> (hc a ha i hi).trans (congrArg some (oK ht))
  rw [ev] at c0
  have h9:(a:Int)<(S.l.length:Int):=by omega
  clear hm ht1 ha ht hc ev
  go_wp2_with (first
   | (refine ig (y:=fun i=> .int .i64 (tf t i)) rfl rfl rfl Tryz.underlying96 rfl Tryz.sizeTm HC.out ?_)
   | (refine fV rfl 96 _ _ rfl w.heap.size 3 (fun i=> .int .i64 (tf t i)) _ t1 HT1.out rfl Tryz.sizeTm rfl rfl (fun i _=> rfl) ?_))
  have HA2:Hid (aI .i64 (w2.setRow w.heap.size (cB 3 fun i=> .int .i64 (tf t i))) w.heap.size 3 (tf t)):=Lib.hid (HA1.out.setRow 3 (tf t))
  have B2:Hid (Below w.heap.size w (w2.setRow w.heap.size (cB 3 fun i=> .int .i64 (tf t i)))):=Lib.hid (aF B1.out (Nat.le_refl _) _)
  rw [E1.out]
  refine bodyPost_ret (jv rfl _ _ .i64 w.heap.size 3 _ rfl HA2.out Tryz.underlying96 rfl Tryz.sizeTm) rfl ?_
  exact ⟨rfl,B2.out⟩
end
end Go.Proofs.YtpcjekgfnfjbpaaGreat
namespace Go.aG
open Go.RowKit
theorem Rd.zZ {F:Nat→Prop} {w w':World} {k:IntKind} {v:Value} {n:Nat} {f:Nat→Int} (h:Rd k w v n f) (hg:aZ F w w') (hne:0<n→∀b,v.ownBlock=some b→¬ F b):Rd k w' v n f:=by
 obtain ⟨a,c,rfl,h1,h2,h3,h4⟩:=h
 refine ⟨a,c,rfl,h1,h2,h3,fun hn=> ?_⟩
 obtain ⟨b,o,rfl,hlt,hc⟩:=h4 hn
 have:=hg.size
 exact ⟨b,o,rfl,by omega,fun i hi=> (hg.cell (p:=⟨b,o+i,none⟩) hlt (hne hn b rfl)).trans (hc i hi)⟩
end Go.aG
namespace Go.Proofs.YtpcjekgfnfjbpaaGreat
open Go.RowKit Go.aG Go.ChangeShapes Go.Maps
attribute [local go_sem ↓] Go.wp_at_zero Go.wp_at_succ
section
variable {B : Nat} {w w' : World} {p mb mt : Nat} {vl vb : Value} {tv : Nat → Value} {S : TS}
theorem lC.ofText {b:List Int} {jM Jj:Value} {tv':Nat→Value} (h:lC B w p mb mt vl vb tv S) (Ef:Da b) (hn:b ∉ S.tx) (h9:((9,(S.tx.length:Int),0):Tm) ∉ S.l) (hlen:S.tx.length≤1000000) {nf:Nat→Int} (hp:Tsp B w' p mb mt jM Jj tv' (S.l++ [(9,(S.tx.length:Int),0)]) (S.l++ [(9,(S.tx.length:Int),0)]) (S.tx++ [b]) (S.tx++ [b]) (qy (S.text b)) nf) (hf:∀k:Nat,k<5→nf k=jJ S.l k):lC B w' p mb mt jM Jj tv' (S.text b):=by
 have hS:S.text b=⟨S.l++ [(9,(S.tx.length:Int),0)],S.tx++ [b]⟩:=if_neg hn
 rw [hS] at hp ⊢
 refine ⟨⟨hp.row,hp.c0,hp.c1,hp.c2,hp.c3,fun k hk=> (hp.nx k hk).trans (by rw [hf k hk,gZ,if_neg (fun h=> by have:=h.1;simp at this)]),hp.ls,hp.am,hp.xm,hp.bs,hp.bt,hp.ne,hp.hp,hp.hb,hp.hm,hp.hl,hp.hv⟩,aR h.nd h9,aR h.txn hn,fun j hj=> ?_,fun u hu=> ?_,fun u hu=> ?_⟩
 ·have hj:j<(S.tx++ [b]).length:=hj
  rw [List.length_append,List.length_singleton] at hj
  refine List.mem_append.2 ?_
  by_cases h':j<S.tx.length
  ·exact .inl (h.all j h')
  ·exact .inr (by rw [show j=S.tx.length by omega];simp)
 ·rcases List.mem_append.1 hu with hu | hu
  ·exact h.CZ u hu
  ·rw [List.mem_singleton.1 hu]
   exact ⟨⟨by simp,by simp⟩,⟨by simp only;omega,by simp only;omega⟩,⟨by simp,by simp⟩⟩
 ·rcases List.mem_append.1 hu with hu | hu
  ·exact h.Aq u hu
  ·rw [List.mem_singleton.1 hu];exact Ef
theorem zl {b:List Int} (h:S.l.Nodup) (hx:S.tx.Nodup) (hn:b ∉ S.tx) (h9:((9,(S.tx.length:Int),0):Tm) ∉ S.l):qy (S.text b) b=S.l.length:=by
 have hS:S.text b=⟨S.l++ [(9,(S.tx.length:Int),0)],S.tx++ [b]⟩:=if_neg hn
 rw [hS]
 unfold qy
 have e1:nH (S.tx++ [b]) b=S.tx.length:=pz (aR hx hn) (by rw [List.getElem?_append_right (Nat.le_refl _),Nat.sub_self];rfl)
 simp only [e1]
 exact pz (aR h h9) (by rw [List.getElem?_append_right (Nat.le_refl _),Nat.sub_self];rfl)
theorem zk {b y:List Int} (hx:S.tx.Nodup) (hn:b ∉ S.tx) (hy:y ∈ S.tx):qy (S.text b) y=qy (S.add (9,(S.tx.length:Int),0)) y:=by
 have hS:S.text b=⟨S.l++ [(9,(S.tx.length:Int),0)],S.tx++ [b]⟩:=if_neg hn
 rw [hS]
 unfold qy
 simp only [iY (aR hx hn) (List.prefix_append _ _) hy]
 rfl
theorem jN {F:Nat→Prop} (h:jK B w p F S) (hB:B≤w.heap.size) (b:List Int) (Ef:Da b) (v:Value) (hv:Rd .u8 w v b.length (bf b)) (Jy:0<b.length→∀c,v.ownBlock=some c→¬ F c) (hl:S.l.length≤1000) (hx:S.tx.length≤1000):
  Calls Tryz.prog 81 #[.pointer (some ⟨p,0,none⟩),v] w fun e w'=> e=.returned (.tuple #[.int .i64 (fD S b),.int .i64 0])∧∃F',jK B w' p F' (S.text b)∧aZ F w w'∧∀b,F' b→F b∨w.heap.size≤b:=by
 obtain ⟨mb,mt,vl,vb,tv,h1,h2,h3⟩:=h
 have H:=Lib.hid h1
 have kr:=Lib.hid h2
 have oC:=Lib.hid h3
 have AX:=Lib.hid hB
 have HL:=Lib.hid hl
 have HX:=Lib.hid hx
 have CO:=Lib.hid Ef
 have HV:=Lib.hid hv
 have KA:=Lib.hid Jy
 clear Jy
 obtain ⟨av,cv,rfl,_⟩:=hv
 obtain ⟨PA,xY⟩:∃x,x=fD S b:=⟨_,rfl⟩
 obtain ⟨SP,hSP⟩:∃x,x=S.text b:=⟨_,rfl⟩
 rw [←xY,←hSP]
 have zf:=Lib.hid xY
 have wu:=Lib.hid hSP
 have h9:¬ (1048576:Int)<(b.length:Int):=by have:=Ef.2;omega
 clear h1 h2 h3 hB hl hx Ef xY hSP
 go_enter Tryz.func81,Tryz.ntmps81
 go_wp2_with fail
 refine (fU H.out).mono ?_
 rintro e w1 ⟨rfl,rfl⟩
 go_upto_region 5 with (fail)
 have c2:=H.out.c2
 clear h9
 by_cases hin:b ∈ S.tx
 ·have E1:Hid (PA=(qy S b:Int)):=Lib.hid (by rw [zf.out];unfold fD;rw [if_pos hin];rfl)
  have E2:Hid (SP=S):=Lib.hid (by rw [wu.out];unfold TS.text;rw [if_pos hin])
  have l1:∀n,(Instr.lookup 161 (.map (some mt)) (.string (strOf b.length (bf b))) true).run Tryz.prog (w1.drewN n)=.ok (.tuple #[jD (qy S b),.bool true]) (w1.drewN n):=fun n=> xM.uI (H.out.below (Go.aG.below_drewN (Below.refl _ _) n)).xm hin
  obtain ⟨X,hX⟩:∃X,X=qy S b:=⟨_,rfl⟩
  rw [←hX] at l1 E1
  clear hin hX
  refine wp_region_quiet_lit (by kernel_rfl) (by kernel_rfl) ?_
  repeat (first | (refine jQ rfl (fun n=> gW rfl rfl (HV.out.below (Go.aG.below_drewN (Below.refl _ _) n)) Tryz.underlying23 Tryz.underlying5 Tryz.underlying9 CO.out.1.at) ?_) | quiet_step (fail))
  refine wpQuiet_nil ?_
  rintro _ ⟨nq,rfl⟩
  go_wp2
  go_ret2
  rw [E1.out,E2.out]
  exact ⟨rfl,F,⟨mb,mt,vl,vb,tv,H.out.below (Go.aG.below_drewN (Below.refl _ _) nq),kr.out,oC.out⟩,.of_below (Go.aG.below_drewN (Below.refl _ _) nq) _,fun b hb=> .inl hb⟩
 ·have E1:Hid (PA=(S.l.length:Int)):=Lib.hid (by rw [zf.out];unfold fD;rw [if_neg hin])
  have l1:∀n,(Instr.lookup 161 (.map (some mt)) (.string (strOf b.length (bf b))) true).run Tryz.prog (w1.drewN n)=.ok (.tuple #[.int .i64 0,.bool false]) (w1.drewN n):=fun n=> xM.xI (H.out.below (Go.aG.below_drewN (Below.refl _ _) n)).xm H.out.Aq CO.out hin
  have AU:=Lib.hid hin
  clear hin
  refine wp_region_quiet_lit (by kernel_rfl) (by kernel_rfl) ?_
  repeat (first | (refine jQ rfl (fun n=> gW rfl rfl (HV.out.below (Go.aG.below_drewN (Below.refl _ _) n)) Tryz.underlying23 Tryz.underlying5 Tryz.underlying9 CO.out.1.at) ?_) | quiet_step (fail))
  refine wpQuiet_nil ?_
  rintro _ ⟨nq,rfl⟩
  clear l1 c2
  have B3:=Lib.hid (Go.aG.below_drewN (Below.refl w1.heap.size w1) nq)
  have H3:=Lib.hid (H.out.below B3.out)
  have Iz:=Lib.hid kr.out.yt
  have c3:=H3.out.c3
  obtain ⟨ab,cb,eb,_⟩:=H3.out.bs.slice
  have Fh:=Lib.hid eb
  rw [eb] at c3
  clear eb
  go_wp2_with fail
  refine (lN H3.out (Nat.le_trans AX.out B3.out.size) (9,(S.tx.length:Int),0) ⟨⟨by simp,by simp⟩,⟨by simp only;have:=HX.out;omega,by simp only;have:=HX.out;omega⟩,⟨by simp,by simp⟩⟩ Iz.out (fun h=> by simp at h) HL.out).mono ?_
  rintro e w4 ⟨rfl,jM,h4,hc4,Az⟩
  have H4:=Lib.hid h4
  have C4:=Lib.hid hc4
  have F4:=Lib.hid Az
  clear h4 hc4 Az c3
  go_upto_region 11 with (fail)
  apply bJ (n:=63) [.f,.e,.e,.e,.e,.e,.c,.c,.c,.f,.f,.c] 2 (by kernel_rfl) (by kernel_rfl) (by kernel_rfl) rfl
  ·intro w5 zT
   have c3:=(H4.out.below zT).c3
   rw [Fh.out] at c3
   simp only [aM,Cl.qh,cond_true,cond_false]
   repeat still_step
   exact wpStill_nil rfl
  ·intro w5
   simp only [aM,Cl.yV,cond_true,cond_false]
   repeat still_step
   exact wpStill_nil rfl
  ·simp only [aM,Cl.fH,cond_true,cond_false]
   refine fJ ((Below.refl _ _).drew) (fun K hK=> ?_)
   go_simp
   have Gi:Hid (aZ F w1 w4):=Lib.hid ((aZ.of_below B3.out F).trans (C4.out.mono (G:=F) fun b _ hb=> (oC.out b).2 (by
    rcases hb with h | h | h
    ·exact .inl h
    ·exact .inr (.inl h)
    ·exact .inr (.inr (.inr (.inl h))))) fun _ _ h=> h)
   have FV:=Lib.hid ((HV.out.zZ Gi.out KA.out).below ((Below.refl w4.heap.size w4).drew))
   have CX:Hid (B≤w4.heap.size):=Lib.hid (Nat.le_trans AX.out Gi.out.size)
   refine (jZ _ _ _ _ FV.out (by have:=CO.out.2;omega)).mono ?_
   rintro e w5 ⟨u,rfl,hu,b5⟩
   have UB:Hid (∀c,u.ownBlock=some c→w4.heap.size≤c):=Lib.hid hu.block
   have hu:=hu.mono (show B≤w4.drew.heap.size from CX.out)
   have uQ:Below w4.heap.size w4 w5:=((Below.refl w4.heap.size w4).drew).trans b5
   refine hK _ _ uQ ?_
   clear hK K
   obtain ⟨au,cu,eu,_⟩:=hu.kZ.slice
   subst eu
   refine fJ uQ (fun K hK=> ?_)
   rw [if_pos (ah rfl)]
   refine nQ 55 23 1 _ rfl Tryz.underlying55 #[.slice au b.length cu] (by kernel_rfl) (hK _ _ (uQ.alloc uQ.size _) (fI ?_))
   clear hK K
   have H5:=Lib.hid (H4.out.below uQ)
   refine jl (w0:=w5) rfl _ _ rfl rfl rfl (Fh.out▸H5.out.bs) Tryz.underlying55 Tryz.infoBs rfl rfl rfl (by have:=HX.out;unfold maxLen;show S.tx.length+1≤_;omega) (by have:=HX.out;show (S.tx.length+1) * 24≤_;omega) ?_
   intro v6 w6 Dc JF Ed
   obtain ⟨⟨e0,f0⟩,Ev,Dk,JW⟩:=H5.out.toTsp.Dx (b0:=b) (Nat.le_trans CX.out uQ.size) Dc rfl hu (Fh.out▸JF) (Fh.out▸Ed)
   rw [Fh.out] at e0
   have T7:=Lib.hid Ev
   have C7:Hid (aZ (fun b=> b=p∨vb.ownBlock=some b) w4 _):=Lib.hid ((aZ.of_below uQ _).trans Dk fun _ _ h=> h)
   have F7:Hid (∀b,v6.ownBlock=some b→vb.ownBlock=some b∨w4.heap.size≤b):=Lib.hid fun b hb=> (JW b hb).imp id fun h=> Nat.le_trans uQ.size h
   obtain ⟨a6,q6,rfl,_⟩:=Dc.slice
   clear Dc JF Ed Ev Dk JW hu b5 uQ
   go_wp2
   refine oh ?_
   go_upto_region 12 with (fail)
   refine aD (fun w7=> Tsp B w7 p mb mt jM (.slice a6 (S.tx.length+1) q6) (fun j=> if j=S.tx.length then .slice au b.length cu else tv j) (S.l++ [(9,(S.tx.length:Int),0)]) (S.l++ [(9,(S.tx.length:Int),0)]) (S.tx++ [b]) S.tx (qy (S.add (9,(S.tx.length:Int),0))) (fun k=> jJ (S.l++ [(9,(S.tx.length:Int),0)]) k)∧aZ (fun b=> b=p∨vb.ownBlock=some b) w4 w7) ⟨T7.out,C7.out⟩ ?_
   rintro w7 ⟨Ev,Dk⟩
   have T7:=Lib.hid Ev
   have C7:=Lib.hid Dk
   have Li:Hid (aZ F w1 w7):=Lib.hid (Gi.out.trans (Dk.mono (G:=F) fun c _ hc=> (oC.out c).2 (by
    rcases hc with h | h
    ·exact .inl h
    ·exact .inr (.inr (.inr (.inr (.inl h)))))) fun _ _ h=> h)
   clear Ev Dk e0 f0
   have MZ:=Lib.hid (HV.out.zZ Li.out KA.out)
   have II:=AU.out
   obtain ⟨w8,hrun,Eu,Ez⟩:=(T7.out.below ((Below.refl w7.heap.size w7).drew)).Gs (Dq:=qy (S.text b)) H.out.Aq CO.out AU.out (by have:=HX.out;omega) (zl H.out.nd H.out.txn AU.out Iz.out) (by have:=HL.out;omega) (fun y hy=> zk H.out.txn AU.out hy)
   have tZ:Hid ((Instr.mapUpdate 161 (.map (some mt)) (.string (strOf b.length (bf b))) (.int .i64 (S.l.length:Int))).run Tryz.prog w7.drew=.ok () w8):=Lib.hid hrun
   have FIN:=Lib.hid (H.out.ofText CO.out AU.out Iz.out (by have:=HX.out;omega) Eu fun k _=> by rw [gZ,if_neg (fun h=> by have:=h.1;simp at this)])
   have NQ:Hid (aZ F w1 w8):=Lib.hid ((Li.out.trans (aZ.of_below ((Below.refl w7.heap.size w7).drew) (fun _=> False)) fun _ _ h=> h.elim).trans (Ez.mono (G:=F) fun c _ hc=> (oC.out c).2 (.inr (.inr (.inl hc)))) fun _ _ h=> h)
   have Kr:=Lib.hid (kr.out.text b)
   have F8:Hid (∀c,TF p mb mt jM (.slice a6 (S.tx.length+1) q6) (S.text b).tx.length (fun j=> if j=S.tx.length then .slice au b.length cu else tv j) c→F c∨w1.heap.size≤c):=Lib.hid fun c hc=> by
    have s4:=Gi.out.size
    rcases hc with h | h | h | h | h | ⟨j,hj,h⟩
    ·exact .inl ((oC.out c).2 (.inl h))
    ·exact .inl ((oC.out c).2 (.inr (.inl h)))
    ·exact .inl ((oC.out c).2 (.inr (.inr (.inl h))))
    ·exact (F4.out c h).imp (fun h=> (oC.out c).2 (.inr (.inr (.inr (.inl h))))) fun h=> Nat.le_trans B3.out.size h
    ·exact (F7.out c h).imp (fun h=> (oC.out c).2 (.inr (.inr (.inr (.inr (.inl h)))))) fun h=> Nat.le_trans s4 h
    ·dsimp only at h
     by_cases e:j=S.tx.length
     ·rw [if_pos e] at h
      exact .inr (Nat.le_trans s4 (UB.out c h))
     ·rw [if_neg e] at h
      have hj:j<(S.text b).tx.length:=hj
      rw [show S.text b=⟨S.l++ [(9,(S.tx.length:Int),0)],S.tx++ [b]⟩ from if_neg AU.out] at hj
      have hj:j<(S.tx++ [b]).length:=hj
      rw [List.length_append,List.length_singleton] at hj
      exact .inl ((oC.out c).2 (.inr (.inr (.inr (.inr (.inr ⟨j,by omega,h⟩))))))
   clear hrun Eu Ez II
   rw [←wu.out] at FIN Kr F8
   apply bJ (n:=63) [.e,.e,.e,.e,.e,.c,.e,.c] 1 (by kernel_rfl) (by kernel_rfl) (by kernel_rfl) rfl
   ·intro w9 Mk
    have c2:=(T7.out.below Mk).c2
    simp only [aM,Cl.qh,cond_true,cond_false]
    repeat still_step
    exact wpStill_nil rfl
   ·intro w9
    simp only [aM,Cl.yV,cond_true,cond_false]
    repeat still_step
    exact wpStill_nil rfl
   ·simp only [aM,Cl.fH,cond_true,cond_false]
    refine fJ ((Below.refl _ _).drew) (fun K hK=> ?_)
    rw [if_pos (ah rfl)]
    unfold Oper.wp
    rw [gW (v:=.slice av b.length cv) rfl rfl (MZ.out.below ((Below.refl w7.heap.size w7).drew)) Tryz.underlying23 Tryz.underlying5 Tryz.underlying9 CO.out.1.at]
    refine hK _ _ ((Below.refl _ _).drew) (fI ?_)
    clear hK K
    have hrun:=tZ.out
    go_wp2
    refine oh ?_
    clear hrun
    go_wp2
    go_ret2
    rw [E1.out]
    exact ⟨rfl,_,⟨mb,mt,_,_,_,FIN.out,Kr.out,fun b=> Iff.rfl⟩,NQ.out,F8.out⟩
end
end Go.Proofs.YtpcjekgfnfjbpaaGreat
