/-
  Part 29 of the texts that the proof of SuiteTerms rests on, one after the other. Conditions: named in each theorem.
-/
import Derived.Test.YtpcjekgfnfjbpaaGreatPkSuiteTerms21
import Derived.Test.YtpcjekgfnfjbpaaGreatPkSuiteTerms25
import Derived.Test.YtpcjekgfnfjbpaaGreatPkSuiteTerms28
set_option linter.unusedVariables false
set_option linter.unusedSimpArgs false
set_option maxRecDepth 100000
set_option maxHeartbeats 6400000
namespace Go.Proofs.YtpcjekgfnfjbpaaGreat
open Go.RowKit Go.aG Go.ChangeShapes Go.Maps
attribute [local go_sem ↓] Go.wp_at_zero Go.wp_at_succ
section
variable {B : Nat} {w w' w1 w2 w3 : World} {p q : Nat} {F G G' : Nat → Prop} {S S' : TS} {kd n : Int} {sd : Nat → Int} {s : Value} {v u v' : Value} {l l' : List Int}
theorem pY (h:S.Ok):S.tx.length≤S.l.length:=by
 have hn:((List.range S.tx.length).map fun j:Nat=> ((9,(j:Int),0):Tm)).Nodup:=by
  unfold List.Nodup
  rw [List.pairwise_map]
  exact List.nodup_range.imp fun h e=> h (Int.ofNat_inj.1 (congrArg (fun t:Tm=> t.2.1) e))
 have:=vB hn (m:=S.l) fun x hx=> by
  obtain ⟨j,hj,rfl⟩:=List.mem_map.1 hx
  exact h.all j (List.mem_range.1 hj)
 simpa using this
theorem kV (h:S.Ok) (b:List Int):∃a:Nat,dY S b=a∧a<(S.text b).l.length∧a≤S.l.length∧uj (S.text b) a=9:=by
 unfold dY TS.text uj
 by_cases hm:b ∈ S.tx
 ·rw [if_pos hm,if_pos hm]
  have h9:=h.all _ (gy hm)
  exact ⟨_,rfl,gy h9,Nat.le_of_lt (gy h9),by rw [fQ (dR h9)]⟩
 ·rw [if_neg hm,if_neg hm]
  have h9:(S.l++ [((9,(S.tx.length:Int),0):Tm)])[S.l.length]? =some (9,(S.tx.length:Int),0):=by simp
  exact ⟨_,rfl,by simp,Nat.le_refl _,by rw [fQ h9]⟩
theorem tY {n m:Nat} (h:n<S.l.length) (h':m<S.l.length) (hk:uj S m=9):cK S (8,(n:Int),(m:Int))=true:=by
 rw [wS,kH h,xM h' hk];rfl
theorem xk {m:Nat} (h':m<S.l.length) (hk:uj S m=9):cK S (10,(m:Int),0)=true:=by
 rw [tX,xM h' hk];rfl
theorem uw {w w1 w2:World} {G G1 G2:Nat→Prop} (c1:aY G w w1) (f1:∀b,G1 b→G b∨w.heap.size≤b) (c2:aY G1 w1 w2) (f2:∀b,G2 b→G1 b∨w1.heap.size≤b):aY G w w2∧∀b,G2 b→G b∨w.heap.size≤b:=
 ⟨c1.trans c2 fun b hb h1=> (f1 b h1).elim id fun h=> by omega,fun b hb=> (f2 b hb).elim (f1 b) fun h=> .inr (Nat.le_trans c1.size h)⟩
theorem uO (h:fA B w p F S) (hb:bM F w v l) (hb':bM F w v' l') (hx:l'.length≤1000) (hl:S.l.length≤900):Calls Tryz.prog 37 #[.pointer (some ⟨p,0,none⟩),v,v'] w fun e w'=> ∃u,e=.returned (.tuple #[u,.int .i64 (iG S l l').2.1])∧fu B w p F u (iG S l l') w':=by
 have HW:=Lib.hid h.which
 have HO:=Lib.hid (gM h hb (by omega))
 have nK:=Lib.hid hb.ok
 have yE:=Lib.hid hb'
 have vV:=Lib.hid h.ok
 obtain ⟨q,G,hq,hF⟩:=h
 have HQ:=Lib.hid hq
 have HF:=Lib.hid hF
 have HL:=Lib.hid hl
 have HX:=Lib.hid hx
 obtain ⟨R,hR⟩:∃x,x=iG S l l':=⟨_,rfl⟩
 rw [←hR]
 have HR:=Lib.hid hR
 obtain ⟨av,cv,rfl,_⟩:=hb.rd
 obtain ⟨Cm,cv',rfl,_⟩:=hb'.rd
 clear hR hb hb' hl hq hF hx
 go_enter Tryz.func37,Tryz.ntmps37
 go_wp2_with fail
 refine HW.out.mono ?_
 rintro e w0 ⟨rfl,rfl⟩
 go_wp2_with fail
 refine HO.out.mono ?_
 rintro e w1 ⟨rfl,b1⟩
 have B1:=Lib.hid b1
 clear b1
 obtain ⟨A,hA⟩:∃x,x=ni S l:=⟨_,rfl⟩
 rw [←hA]
 have HA:=Lib.hid hA
 clear hA
 go_upto_region 10 with (fail)
 refine aF (fun w2=> Below w0.heap.size w0 w2) (B1.out.alloc B1.out.size _) ?_
 rintro w2 b2
 have B2:=Lib.hid b2
 clear b2
 cases hm:aR S l with
 | none=>
  have HE:Hid (R=([],11,S)):=Lib.hid (by rw [HR.out];unfold iG;rw [hm])
  obtain rfl:A=(0,(0,0,0),11):=HA.out.trans (qH hm)
  clear hm HA
  go_wp2
  go_ret2
  rw [HE.out]
  exact ⟨_,rfl,iN HQ.out HF.out B2.out 11⟩
 | some n=>
  have HN:=Lib.hid (dS nK.out hm)
  obtain ⟨t,ht⟩:∃t,t=gK S.l n:=⟨_,rfl⟩
  obtain rfl:A=((n:Int),t,0):=HA.out.trans (ht▸qG hm)
  obtain ⟨a,ha,ha1,ha2,Bw⟩:=kV vV.out l'
  have uG:Hid (R=(bB (dI (S.text l') (8,n,a)).1,0,(S.text l').put (8,n,a))):=Lib.hid (by rw [HR.out];unfold iG;rw [hm,ha])
  have yD:Hid (cK (S.text l') (8,(n:Int),(a:Int))=true):=Lib.hid (tY (by have:=HN.out;unfold TS.text;split<;> simp<;> omega) ha1 Bw)
  have EA:=Lib.hid ha2
  have HA:=Lib.hid ha
  have fM:=Lib.hid (gL S l')
  clear hm ht ha ha1 ha2 Bw
  have cp:=(HQ.out.r.below B2.out).cp
  go_wp2_with fail
  refine (jG (HQ.out.st.below B2.out) (HQ.out.below B2.out).hB l' ⟨yE.out.ok,by have:=HX.out;omega⟩ _ (yE.out.rd.below B2.out) (fun h c hc hG=> yE.out.off h c hc ((HF.out c).2 (.inr hG))) (by have:=HL.out;omega) (by have:=pY vV.out;have:=HL.out;omega)).mono ?_
  rintro e w3 ⟨rfl,G3,h3,c3,f3⟩
  rw [HA.out]
  have H3:=Lib.hid h3
  have C3:=Lib.hid c3
  have F3:=Lib.hid f3
  have W3:Hid ((S.text l').few):=Lib.hid (HQ.out.few.text l')
  have HR3:=Lib.hid ((HQ.out.below B2.out).put h3 c3 f3 W3.out)
  have cp:=HR3.out.r.cp
  clear h3 c3 f3
  have HP:=Lib.hid (lg yD.out)
  have rA:Hid (jM (8,(n:Int),(a:Int))):=Lib.hid (lq (by omega) (by have:=HN.out;have:=HL.out;omega) (by have:=EA.out;have:=HL.out;omega))
  go_wp2_with fail
  refine (jl H3.out HR3.out.hB _ rA.out (by have:=fM.out;have:=HL.out;omega)).mono ?_
  rintro e w4 ⟨rfl,G4,h4,c4,f4⟩
  rw [HP.out.1]
  obtain ⟨X,hX⟩:∃X,X=(dI (S.text l') (8,(n:Int),(a:Int))).1:=⟨_,rfl⟩
  rw [←hX] at HP uG ⊢
  have DZ:=Lib.hid HP.out.2
  have H4:=Lib.hid h4
  have CC:=Lib.hid (uw C3.out F3.out c4 f4)
  have Gt:Hid (((S.text l').put (8,(n:Int),(a:Int))).few):=Lib.hid (W3.out.put (by simp))
  clear hX h4 c4 f4 cp HP
  go_wp2_with fail
  refine (dn X DZ.out.1 (by have:=DZ.out.2;have:=fM.out;have:=HL.out;omega) w4).mono ?_
  rintro e w5 ⟨u,rfl,hu,b5⟩
  have HD:=Lib.hid (jH HQ.out HF.out B2.out H4.out CC.out.1 CC.out.2 Gt.out hu b5 0)
  clear hu b5
  go_wp2
  go_ret2
  rw [uG.out]
  exact ⟨_,rfl,HD.out⟩
theorem fP {w w':World} {v:Value} {b:Bool} {n:Nat} {f:Nat→Int} (h:∃u,v=.tuple #[u,.bool b] ∧Rd .u8 w u n f) (hb:Below w.heap.size w w'):∃u,v=.tuple #[u,.bool b] ∧Rd .u8 w' u n f:=by
 obtain ⟨u,e,h⟩:=h;exact ⟨u,e,h.below hb⟩
theorem qm (h:fA B w p F S) (hb':bM F w v' l') (hx:l'.length≤1000) (hl:S.l.length≤900):Calls Tryz.prog 28 #[.pointer (some ⟨p,0,none⟩),v'] w fun e w'=> ∃u,e=.returned (.tuple #[u,.int .i64 (eX S l').2.1])∧fu B w p F u (eX S l') w':=by
 have HW:=Lib.hid h.which
 have yE:=Lib.hid hb'
 have vV:=Lib.hid h.ok
 obtain ⟨q,G,hq,hF⟩:=h
 have HQ:=Lib.hid hq
 have HF:=Lib.hid hF
 have HL:=Lib.hid hl
 have HX:=Lib.hid hx
 obtain ⟨R,hR⟩:∃x,x=eX S l':=⟨_,rfl⟩
 rw [←hR]
 obtain ⟨a,ha,ha1,ha2,Bw⟩:=kV vV.out l'
 have uG:Hid (R=(bB (dI (S.text l') (10,a,0)).1,0,(S.text l').put (10,a,0))):=Lib.hid (by rw [hR];unfold eX;rw [ha])
 have yD:Hid (cK (S.text l') (10,(a:Int),0)=true):=Lib.hid (xk ha1 Bw)
 have EA:=Lib.hid ha2
 have HA:=Lib.hid ha
 have fM:=Lib.hid (gL S l')
 have cp:=hq.r.cp
 obtain ⟨Cm,cv',rfl,_⟩:=hb'.rd
 clear hR hb' hl hq hF hx ha ha1 ha2 Bw
 go_enter Tryz.func28,Tryz.ntmps28
 go_wp2_with fail
 refine HW.out.mono ?_
 rintro e w2 ⟨rfl,rfl⟩
 go_wp2_with fail
 refine (jG HQ.out.st HQ.out.hB l' ⟨yE.out.ok,by have:=HX.out;omega⟩ _ yE.out.rd (fun h c hc hG=> yE.out.off h c hc ((HF.out c).2 (.inr hG))) (by have:=HL.out;omega) (by have:=pY vV.out;have:=HL.out;omega)).mono ?_
 rintro e w3 ⟨rfl,G3,h3,c3,f3⟩
 rw [HA.out]
 have H3:=Lib.hid h3
 have C3:=Lib.hid c3
 have F3:=Lib.hid f3
 have W3:Hid ((S.text l').few):=Lib.hid (HQ.out.few.text l')
 have HR3:=Lib.hid (HQ.out.put h3 c3 f3 W3.out)
 have cp:=HR3.out.r.cp
 clear h3 c3 f3
 have HP:=Lib.hid (lg yD.out)
 have rA:Hid (jM (10,(a:Int),0)):=Lib.hid (lq (by omega) (by have:=EA.out;have:=HL.out;omega) (by omega))
 go_wp2_with fail
 refine (jl H3.out HR3.out.hB _ rA.out (by have:=fM.out;have:=HL.out;omega)).mono ?_
 rintro e w4 ⟨rfl,G4,h4,c4,f4⟩
 rw [HP.out.1]
 obtain ⟨X,hX⟩:∃X,X=(dI (S.text l') (10,(a:Int),0)).1:=⟨_,rfl⟩
 rw [←hX] at HP uG ⊢
 have DZ:=Lib.hid HP.out.2
 have H4:=Lib.hid h4
 have CC:=Lib.hid (uw C3.out F3.out c4 f4)
 have Gt:Hid (((S.text l').put (10,(a:Int),0)).few):=Lib.hid (W3.out.put (by simp))
 clear hX h4 c4 f4 cp HP
 go_wp2_with fail
 refine (dn X DZ.out.1 (by have:=DZ.out.2;have:=fM.out;have:=HL.out;omega) w4).mono ?_
 rintro e w5 ⟨u,rfl,hu,b5⟩
 have HD:=Lib.hid (jH HQ.out HF.out (Below.refl _ _) H4.out CC.out.1 CC.out.2 Gt.out hu b5 0)
 clear hu b5
 go_wp2
 go_ret2
 rw [uG.out]
 exact ⟨_,rfl,HD.out⟩
theorem uT (h:fA B w p F S) (hb':bM F w v' l') (hx:l'.length≤1000) (hl:S.l.length≤900):Calls Tryz.prog 29 #[.pointer (some ⟨p,0,none⟩),v'] w fun e w'=> ∃u,e=.returned (.tuple #[u,.int .i64 (kJ S l').2.1])∧fu B w p F u (kJ S l') w':=by
 have HW:=Lib.hid h.which
 have yE:=Lib.hid hb'
 have vV:=Lib.hid h.ok
 obtain ⟨q,G,hq,hF⟩:=h
 have HQ:=Lib.hid hq
 have HF:=Lib.hid hF
 have HL:=Lib.hid hl
 have HX:=Lib.hid hx
 obtain ⟨R,hR⟩:∃x,x=kJ S l':=⟨_,rfl⟩
 rw [←hR]
 obtain ⟨a,ha,ha1,ha2,Bw⟩:=kV vV.out l'
 have uG:Hid (R=(bB a,0,S.text l')):=Lib.hid (by rw [hR];unfold kJ;rw [ha])
 have EA:=Lib.hid ha2
 have HA:=Lib.hid ha
 have cp:=hq.r.cp
 obtain ⟨Cm,cv',rfl,_⟩:=hb'.rd
 clear hR hb' hl hq hF hx ha ha1 ha2 Bw
 go_enter Tryz.func29,Tryz.ntmps29
 go_wp2_with fail
 refine HW.out.mono ?_
 rintro e w2 ⟨rfl,rfl⟩
 go_wp2_with fail
 refine (jG HQ.out.st HQ.out.hB l' ⟨yE.out.ok,by have:=HX.out;omega⟩ _ yE.out.rd (fun h c hc hG=> yE.out.off h c hc ((HF.out c).2 (.inr hG))) (by have:=HL.out;omega) (by have:=pY vV.out;have:=HL.out;omega)).mono ?_
 rintro e w3 ⟨rfl,G3,h3,c3,f3⟩
 rw [HA.out]
 have H3:=Lib.hid h3
 have C3:=Lib.hid c3
 have F3:=Lib.hid f3
 have W3:Hid ((S.text l').few):=Lib.hid (HQ.out.few.text l')
 clear h3 c3 f3 cp
 go_wp2_with fail
 refine (dn (a:Int) (by omega) (by have:=EA.out;have:=HL.out;omega) w3).mono ?_
 rintro e w5 ⟨u,rfl,hu,b5⟩
 have HD:=Lib.hid (jH HQ.out HF.out (Below.refl _ _) H3.out C3.out F3.out W3.out hu b5 0)
 clear hu b5
 go_wp2
 go_ret2
 rw [uG.out]
 exact ⟨_,rfl,HD.out⟩
theorem uN (h:fA B w p F S) (hb':bM F w v' l') (hl:S.l.length≤900):Calls Tryz.prog 30 #[.pointer (some ⟨p,0,none⟩),v'] w fun e w'=> ∃u,e=.returned (.tuple #[u,.int .i64 (pX S l').2])∧Rd .u8 w' u (pX S l').1.length (bf (pX S l').1)∧Below w.heap.size w w':=by
 have HW:=Lib.hid h.which
 have HO:=Lib.hid (gM h hb' (by omega))
 have vV:=Lib.hid h.ok
 obtain ⟨q,G,hq,hF⟩:=h
 have HQ:=Lib.hid hq
 have HL:=Lib.hid hl
 obtain ⟨R,hR⟩:∃x,x=pX S l':=⟨_,rfl⟩
 rw [←hR]
 have HR:=Lib.hid hR
 obtain ⟨Cm,cv',rfl,_⟩:=hb'.rd
 clear hR hb' hl hq hF
 go_enter Tryz.func30,Tryz.ntmps30
 go_wp2_with fail
 refine HW.out.mono ?_
 rintro e w0 ⟨rfl,rfl⟩
 go_wp2_with fail
 refine HO.out.mono ?_
 rintro e w1 ⟨rfl,b1⟩
 have B1:=Lib.hid b1
 clear b1
 obtain ⟨A,hA⟩:∃x,x=ni S l':=⟨_,rfl⟩
 rw [←hA]
 have HA:=Lib.hid hA
 clear hA
 go_upto_region 6 with (fail)
 refine aF (fun w2=> Below w0.heap.size w0 w2) (B1.out.alloc B1.out.size _) ?_
 rintro w2 b2
 have B2:=Lib.hid b2
 have cp:=(HQ.out.r.below b2).cp
 clear b2
 go_wp2_with fail
 refine (lK (HQ.out.st.below B2.out) A.1 (by have:=HL.out;omega) (by have:=pY vV.out;have:=HL.out;omega)).mono ?_
 rintro e w3 ⟨y,rfl,hy,b3⟩
 have HY:=Lib.hid hy
 have B3:=Lib.hid (B2.out.trans (b3.mono B2.out.size))
 obtain ⟨ay,cy,ey,_⟩:=id hy
 subst ey
 clear hy b3 cp
 cases hm:aR S l' with
 | none=>
  have HE:Hid (R=([],11)):=Lib.hid (by rw [HR.out];unfold pX;rw [hm])
  obtain rfl:A=(0,(0,0,0),11):=HA.out.trans (qH hm)
  clear hm HA
  go_wp2
  go_ret2
  rw [HE.out]
  exact ⟨_,rfl,Rd.nil _ _ _,B3.out⟩
 | some n=>
  obtain ⟨t,ht⟩:∃t,t=gK S.l n:=⟨_,rfl⟩
  obtain rfl:A=((n:Int),t,0):=HA.out.trans (ht▸qG hm)
  have uG:Hid (R=if (aM S n).2=true then ((aM S n).1,0) else ([],11)):=Lib.hid (by rw [HR.out];unfold pX;rw [hm])
  clear hm HA ht
  simp only at HY ⊢
  cases hzb:(aM S n).2 with
  | false=>
   have HE:Hid (R=([],11)):=Lib.hid (by rw [uG.out,if_neg (by rw [hzb];decide)])
   clear hzb
   go_wp2
   go_ret2
   rw [HE.out]
   exact ⟨_,rfl,Rd.nil _ _ _,B3.out⟩
  | true=>
   have HE:Hid (R=((aM S n).1,0)):=Lib.hid (by rw [uG.out,if_pos hzb])
   clear hzb
   go_wp2
   go_ret2
   rw [HE.out]
   exact ⟨_,rfl,HY.out,B3.out⟩
theorem iM (hq:uE B w p q G S):Calls Tryz.prog 27 #[.pointer (some ⟨p,0,none⟩)] w fun e w'=> e=.returned (.pointer (some ⟨q,0,none⟩))∧w'=w:=by
 have HW:=Lib.hid (aS hq.r)
 have cp:=hq.r.cp
 clear hq
 go_enter Tryz.func27,Tryz.ntmps27
 go_wp2_with fail
 refine HW.out.mono ?_
 rintro e w1 ⟨rfl,rfl⟩
 go_wp2
 go_ret
 exact ⟨rfl,rfl⟩
theorem rT (h:fA B w p F S):Calls Tryz.prog 21 #[.pointer (some ⟨p,0,none⟩)] w fun e w'=> e=.returned (.int .i64 0)∧w'=w:=by
 have HW:=Lib.hid h.which
 clear h
 go_enter Tryz.func21,Tryz.ntmps21
 go_wp2_with fail
 refine HW.out.mono ?_
 rintro e w1 ⟨rfl,rfl⟩
 go_wp2
 go_ret
 exact ⟨rfl,rfl⟩
end
end Go.Proofs.YtpcjekgfnfjbpaaGreat
namespace Go.aG
open Go.RowKit
abbrev nI:=Int × Int × Int × List Int
structure ru (w:World) (z:Nat→Value) (d:nI):Prop where
 z0:z 0=.int .i64 d.1
 z1:z 1=.int .i64 d.2.1
 z2:z 2=.int .i64 d.2.2.1
 z3:Rd .u8 w (z 3) d.2.2.2.length (bf d.2.2.2)
def vQ (w:World) (v:Value) (L:List nI):Prop:=∃q,DX w v L.length 4 q∧∀j d,L[j]? =some d→ru w (q j) d
def AB (d:nI):Prop:=kC d.1∧kC d.2.1∧kC d.2.2.1∧okB d.2.2.2
theorem ru.below {w w':World} {z:Nat→Value} {d:nI} (h:ru w z d) (hb:Below w.heap.size w w'):ru w' z d:=⟨h.z0,h.z1,h.z2,h.z3.below hb⟩
theorem ru.one {w:World} {z:Nat→Value} {d:nI} (h:ru w z d):∀i,i<4→(z i).oneCell'=true:=fun i hi=> by
 rcases (by omega:i=0∨i=1∨i=2∨i=3) with rfl | rfl | rfl | rfl
 ·rw [h.z0];rfl
 ·rw [h.z1];rfl
 ·rw [h.z2];rfl
 ·obtain ⟨a,c,e,_⟩:=h.z3
  rw [e];rfl
def GX (L:List nI):Prop:=L.length≤20∧∀(j:Nat) (d:nI),L[j]? =some d→d.2.2.2.length≤100
def dO (T:List (List Int)) (n:Int):List Int:=if 0≤n∧n<T.length then T.getD n.toNat [] else bB 99
def rF (S:TS) (d:nI) (a b:List Int):TA:=
 if d.1=1 then eU S d.2.1 else if d.1=2 then bE 2 S a else if d.1=3 then bE 3 S a else if d.1=4 then dh 4 S a b else if d.1=5 then dh 5 S a b
 else if d.1=6 then bE 6 S a else if d.1=7 then bE 7 S a else if d.1=8 then iG S a d.2.2.2 else if d.1=9 then kJ S d.2.2.2 else eX S d.2.2.2
end Go.aG
namespace Go.Proofs.YtpcjekgfnfjbpaaGreat
open Go.RowKit Go.aG Go.ChangeShapes Go.Maps
attribute [local go_sem ↓] Go.wp_at_zero Go.wp_at_succ
theorem Tryz.sizeD16:(Tryz.prog.info? 90).map (·.size)=some 4:=by kernel_rfl
section
variable {B : Nat} {w w' w1 w2 w3 : World} {p q : Nat} {F G G' : Nat → Prop} {S S' : TS} {s : Value} {v u v' : Value} {l l' a b : List Int} {T : List (List Int)} {tv : Nat → Value}
theorem DI (v:Value) (L:List nI) (w:World) (h:vQ w v L):Calls Tryz.prog 57 #[v] w fun e w'=> ∃r,e=.returned (.bool r)∧(r=true→GX L)∧Below w.heap.size w w':=by
 obtain ⟨q,hq,hd⟩:=h
 obtain ⟨m,hm⟩:∃m,m=L.length:=⟨_,rfl⟩
 rw [←hm] at hq
 obtain ⟨a,cap,rfl,hcap,hcap2,hcell⟩:=hq
 have HD:=Lib.hid hd
 have HC:=Lib.hid hcell
 have HM:=Lib.hid hm
 clear hd hcell hm
 go_enter Tryz.func57,Tryz.ntmps57
 go_wp2
 go_loopw [7] (fun i wr=> ∃k:Nat,k≤m∧i=.int .i64 k∧(∀(j:Nat) (d:nI),j<k→L[j]? =some d→d.2.2.2.length≤100)∧Below w.heap.size w wr) (fun i _=> m - (intOf i).toNat)
 case atStart=> exact ⟨0,Nat.zero_le _,rfl,fun j d hj=> absurd hj (Nat.not_lt_zero _),Below.refl _ _⟩
 case round=>
  obtain ⟨k,hk,rfl,hle,IQ⟩:=hrel
  have HL:=Lib.hid hle
  have Fb:=Lib.hid IQ
  clear hle IQ
  by_cases hlt:k<m
  ·obtain ⟨bb,o,rfl,hbl,hcc⟩:=HC.out (by omega)
   have EZ:Hid (∀i,i<4→wr.cell? ⟨bb,o+k * 4+i,none⟩=some (q k i)):=fun i hi=> (Fb.out.cell (p:=⟨bb,o+k * 4+i,none⟩) hbl).trans (hcc k hlt i hi)
   obtain ⟨d,hd⟩:∃d,L[k]? =some d:=⟨_,List.getElem?_eq_getElem (by rw [←HM.out];exact hlt)⟩
   have uF:=Lib.hid (HD.out k d hd)
   have GH:Hid (∀i,i<4→(q k i).oneCell'=true):=Lib.hid uF.out.one
   obtain ⟨ax,cx,e2,_⟩:=uF.out.z3
   have HE2:=Lib.hid e2
   have HDK:=Lib.hid hd
   obtain ⟨n5,Ih⟩:∃n,n=d.2.2.2.length:=⟨_,rfl⟩
   have JE:=Lib.hid Ih
   clear hcc e2 hd Ih
   go_upto_region 4 with (first | (refine fE rfl rfl rfl Tryz.underlying90 rfl Tryz.sizeD16 EZ.out ?_) | (refine fU rfl 90 _ _ rfl wr.heap.size 4 (q k) _ 90 (heap_alloc_new _ _) rfl Tryz.sizeD16 rfl rfl GH.out ?_))
   refine aF (fun w4=> nJ w4 wr.heap.size 4 90 (q k)∧Below wr.heap.size wr w4) ⟨nJ.setRow (heap_alloc_new _ _),aD ((Below.refl _ _).alloc (Nat.le_refl _) _) (Nat.le_refl _) _⟩ ?_
   rintro w4 ⟨hr4,hb4⟩
   have d2:=hr4.2 3 (by decide)
   rw [HE2.out,←JE.out] at d2
   have BX:=Lib.hid (Fb.out.trans (hb4.mono Fb.out.size))
   clear hr4 hb4 EZ
   by_cases hgt:n5≤100
   ·have Kn:¬ (100:Int)<(n5:Int):=by omega
    go_wp2
    go_roundw
    case rel=> exact ⟨k+1,by omega,by go_num,fun j d' hj hd'=> by
     by_cases e:j=k
     ·subst e;rw [HDK.out] at hd';cases hd';rw [←JE.out];exact hgt
     ·exact HL.out j d' (by omega) hd',BX.out⟩
    case measure=> simp [intOf];omega
   ·have Kn:(100:Int)<(n5:Int):=by omega
    go_wp2
    go_ret
    exact ⟨false,rfl,(fun e=> by cases e),BX.out⟩
  ·obtain rfl:k=m:=by omega
   go_wp2
   go_ret
   refine ⟨_,rfl,fun e=> ⟨?_,fun j d hd=> HL.out j d (by rw [HM.out];exact (List.getElem?_eq_some_iff.1 hd).1) hd⟩,Fb.out⟩
   have:(k:Int)≤20:=by simpa using e
   rw [←HM.out]
   omega
structure yB (F:Nat→Prop) (w:World) (v:Value) (T:List (List Int)) (tv:Nat→Value):Prop where
 os:mJ 23 1 w v T.length (fun j _=> tv j)
 bs:∀(j:Nat) (t:List Int),T[j]? =some t→bM F w (tv j) t
theorem yB.below (h:yB F w v T tv) (hb:Below w.heap.size w w'):yB F w' v T tv:=⟨h.os.below hb,fun j t ht=> (h.bs j t ht).below hb⟩
theorem ug (T:TypeId) (hF:∀b,F b→b<w.heap.size) (x:Int) (hx:x=0∨x=99):bM F (w.alloc (.cells #[.int .u8 247,.int .u8 0,.int .u8 0,.int .u8 0,.int .u8 0,.int .u8 0,.int .u8 0,.int .u8 0,.int .u8 x] T)) (.slice (some ⟨w.heap.size,0,none⟩) 9 9) (bB x):=by
 refine ⟨vZ _,?_,fun _ b hb hf=> ?_⟩
 ·rw [dH]
  refine ⟨_,_,rfl,Nat.le_refl _,by decide,(fun h=> by cases h),fun _=> ⟨w.heap.size,0,rfl,by simp,fun i hi=> (cell_of_row _ _ (0+i) _ _ (0,0) (heap_alloc_new w _)).trans ?_⟩⟩
  rw [Nat.zero_add]
  rcases hx with rfl | rfl
  all_goals rcases (by omega:i=0∨i=1∨i=2∨i=3∨i=4∨i=5∨i=6∨i=7∨i=8) with rfl | rfl | rfl | rfl | rfl | rfl | rfl | rfl | rfl<;> kernel_rfl
 ·obtain rfl:w.heap.size=b:=by simpa [Value.ownBlock] using hb
  exact absurd (hF _ hf) (Nat.lt_irrefl _)
theorem Ay (h:yB F w v T tv) (hF:∀b,F b→b<w.heap.size) (n:Int):Calls Tryz.prog 58 #[v,.int .i64 n] w fun e w'=> ∃u,e=.returned u∧bM F w' u (dO T n)∧Below w.heap.size w w':=by
 obtain ⟨av,cv,rfl,_⟩:=h.os.m.slice
 have HL:=Lib.hid (fun (w:World) (h:∀b,F b→b<w.heap.size)=> ug (w:=w) 5 h 99 (.inr rfl))
 have HF:=Lib.hid hF
 obtain ⟨R,hR⟩:∃R,R=dO T n:=⟨_,rfl⟩
 rw [←hR]
 by_cases h0:n<0
 ·have q1:decide (n<0)=true:=decide_eq_true h0
  have HE:Hid (R=bB 99):=Lib.hid (by rw [hR];unfold dO;rw [if_neg (by omega)])
  clear hR h h0 hF
  go_enter Tryz.func58,Tryz.ntmps58
  go_wp2
  go_ret
  rw [HE.out]
  exact ⟨_,rfl,HL.out _ HF.out,(Below.refl _ _).alloc (Nat.le_refl _) _⟩
 ·obtain ⟨k,rfl⟩:=Int.eq_ofNat_of_zero_le (show 0≤n by omega)
  have q1:decide ((k:Int)<0)=false:=decide_eq_false h0
  by_cases hlt:k<T.length
  ·obtain ⟨t,ht⟩:∃t,T[k]? =some t:=⟨_,List.getElem?_eq_getElem hlt⟩
   obtain ⟨g2,cap2,KD,_,_,_,hcg⟩:=h.os.m.form (by omega)
   cases KD
   have zr:=hcg k hlt 0 (by decide)
   rw [Nat.mul_one,Nat.add_zero] at zr
   have HB:=Lib.hid (h.bs k t ht)
   have HE:Hid (R=t):=Lib.hid (by rw [hR];unfold dO;rw [if_pos ⟨by omega,by omega⟩,Int.toNat_natCast,List.getD_eq_getElem?_getD,ht];rfl)
   have q2:¬ T.length≤k:=by omega
   have q3:(k:Int)<(T.length:Int):=by omega
   obtain ⟨X,hX⟩:∃X,X=tv k:=⟨_,rfl⟩
   rw [←hX] at zr HB
   obtain ⟨ax,cx,ex,_⟩:=id HB.out.rd
   have LA:=Lib.hid ex
   rw [ex] at zr
   clear hR h h0 hcg hX hF ex ht
   go_enter Tryz.func58,Tryz.ntmps58
   go_wp2
   go_ret
   rw [HE.out]
   exact ⟨_,rfl,LA.out▸HB.out,Below.refl _ _⟩
  ·have HE:Hid (R=bB 99):=Lib.hid (by rw [hR];unfold dO;rw [if_neg (by omega)])
   have q2:T.length≤k:=by omega
   clear hR h h0 hlt hF
   go_enter Tryz.func58,Tryz.ntmps58
   go_wp2
   go_ret
   rw [HE.out]
   exact ⟨_,rfl,HL.out _ HF.out,(Below.refl _ _).alloc (Nat.le_refl _) _⟩
theorem fu.pre {r:TA} (h:fu B w1 p F u r w') (hb:Below w.heap.size w w1):fu B w p F u r w':=by
 obtain ⟨F',h1,h2,h3,h4⟩:=h
 exact ⟨F',h1,h2,(aY.of_below hb F).trans h3 fun _ _ h=> h,fun b hb'=> (h4 b hb').imp id fun h=> Nat.le_trans hb.size h⟩
theorem xY (h:fA B w p F S) (d:nI) (hd:kC d.1) {z:Nat→Value} (hz:ru w z d) (hx:bM F w (z 3) d.2.2.2) (hx1:d.2.2.2.length≤1000) (ha:bM F w v a) (hb:bM F w v' b) (hl:S.l.length≤900):
  Calls Tryz.prog 60 #[.pointer (some ⟨p,0,none⟩),.agg (bZ 4 z),v,v'] w fun e w'=> ∃u,e=.returned (.tuple #[u,.int .i64 (rF S d a b).2.1])∧fu B w p F u (rF S d a b) w':=by
 obtain ⟨k,A,C,x⟩:=d
 simp only at hd hx hx1
 have HM:=Lib.hid h
 have HX:=Lib.hid hx
 have Gs:=Lib.hid hx1
 have HA:=Lib.hid ha
 have HB:=Lib.hid hb
 have HL:=Lib.hid hl
 have HZ0:Hid (z 0=.int .i64 k):=Lib.hid hz.z0
 have HZ1:Hid (z 1=.int .i64 A):=Lib.hid hz.z1
 obtain ⟨ax,cx,ex,_⟩:=id hx.rd
 have HZ3:=Lib.hid ex
 obtain ⟨R,hR⟩:∃R,R=rF S (k,A,C,x) a b:=⟨_,rfl⟩
 rw [←hR]
 have HR:=Lib.hid hR
 obtain ⟨V,hV⟩:∃V,V=Value.agg (bZ 4 z):=⟨_,rfl⟩
 rw [←hV]
 have HV:=Lib.hid hV
 obtain ⟨va,ca,rfl,_⟩:=ha.rd
 obtain ⟨vb,cb,rfl,_⟩:=hb.rd
 clear h hz hx hx1 ha hb hl hR hV ex hd
 go_enter Tryz.func60,Tryz.ntmps60
 go_upto_region 1 with (fail)
 refine aF (fun w1=> w1.cell? ⟨w.heap.size,0,none⟩=some (.int .i64 k)∧w1.cell? ⟨w.heap.size,1,none⟩=some (.int .i64 A)∧w1.cell? ⟨w.heap.size,3,none⟩=some (.slice ax x.length cx)∧Below w.heap.size w w1) ?_ ?_
 ·rw [HV.out]
  exact ⟨(cell_of_row _ _ 0 _ _ (0,0) (heap_alloc_new w _)).trans ((gQ (by decide)).trans (congrArg some HZ0.out)),(cell_of_row _ _ 1 _ _ (0,0) (heap_alloc_new w _)).trans ((gQ (by decide)).trans (congrArg some HZ1.out)),
   (cell_of_row _ _ 3 _ _ (0,0) (heap_alloc_new w _)).trans ((gQ (by decide)).trans (congrArg some HZ3.out)),(Below.refl _ _).alloc (Nat.le_refl _) _⟩
 rintro w1 ⟨c0,c1,c3,b1⟩
 have B1:=Lib.hid b1
 have M1:=Lib.hid (HM.out.below b1)
 have A1:=Lib.hid (HA.out.below b1)
 have Y1:=Lib.hid (HB.out.below b1)
 have X1:=Lib.hid (HX.out.below b1)
 rw [HZ3.out] at X1
 obtain ⟨x1,hx1⟩:∃x,x=w.heap.size:=⟨_,rfl⟩
 rw [←hx1] at c0 c1 c3 ⊢
 clear b1 hx1
 have FIN:Hid (∀(r:TA) (u:Value) (w':World),R=r→fu B w1 p F u r w'→(r.2.1=R.2.1∧fu B w p F u R w')):=Lib.hid fun r u w' e h=> by rw [e];exact ⟨rfl,h.pre B1.out⟩
 by_cases hk:k=1
 ·subst hk
  have HE:Hid (R=eU S A):=Lib.hid HR.out
  clear c3
  go_wp2_with fail
  refine (nR M1.out A HL.out).mono ?_
  rintro e w2 ⟨u,rfl,hu⟩
  obtain ⟨g1,g2⟩:=FIN.out _ _ _ HE.out hu
  rw [g1]
  have G2:=Lib.hid g2
  clear hu g1 g2
  go_wp2
  go_ret2
  exact ⟨_,rfl,G2.out⟩
 have q1:(k==1)=false:=by simpa using hk
 have r1:¬ k=1:=hk
 clear hk
 by_cases hk:k=2
 ·subst hk
  have HE:Hid (R=bE 2 S a):=Lib.hid HR.out
  clear c1 c3
  go_wp2_with fail
  refine (qj M1.out A1.out HL.out).mono ?_
  rintro e w2 ⟨u,rfl,hu⟩
  obtain ⟨g1,g2⟩:=FIN.out _ _ _ HE.out hu
  rw [g1]
  have G2:=Lib.hid g2
  clear hu g1 g2
  go_wp2
  go_ret2
  exact ⟨_,rfl,G2.out⟩
 have q2:(k==2)=false:=by simpa using hk
 have r2:¬ k=2:=hk
 clear hk
 by_cases hk:k=3
 ·subst hk
  have HE:Hid (R=bE 3 S a):=Lib.hid HR.out
  clear c1 c3
  go_wp2_with fail
  refine (mQ M1.out A1.out HL.out).mono ?_
  rintro e w2 ⟨u,rfl,hu⟩
  obtain ⟨g1,g2⟩:=FIN.out _ _ _ HE.out hu
  rw [g1]
  have G2:=Lib.hid g2
  clear hu g1 g2
  go_wp2
  go_ret2
  exact ⟨_,rfl,G2.out⟩
 have q3:(k==3)=false:=by simpa using hk
 have r3:¬ k=3:=hk
 clear hk
 by_cases hk:k=4
 ·subst hk
  have HE:Hid (R=dh 4 S a b):=Lib.hid HR.out
  clear c1 c3
  go_wp2_with fail
  refine (uM M1.out A1.out Y1.out HL.out).mono ?_
  rintro e w2 ⟨u,rfl,hu⟩
  obtain ⟨g1,g2⟩:=FIN.out _ _ _ HE.out hu
  rw [g1]
  have G2:=Lib.hid g2
  clear hu g1 g2
  go_wp2
  go_ret2
  exact ⟨_,rfl,G2.out⟩
 have q4:(k==4)=false:=by simpa using hk
 have r4:¬ k=4:=hk
 clear hk
 by_cases hk:k=5
 ·subst hk
  have HE:Hid (R=dh 5 S a b):=Lib.hid HR.out
  clear c1 c3
  go_wp2_with fail
  refine (uQ M1.out A1.out Y1.out HL.out).mono ?_
  rintro e w2 ⟨u,rfl,hu⟩
  obtain ⟨g1,g2⟩:=FIN.out _ _ _ HE.out hu
  rw [g1]
  have G2:=Lib.hid g2
  clear hu g1 g2
  go_wp2
  go_ret2
  exact ⟨_,rfl,G2.out⟩
 have q5:(k==5)=false:=by simpa using hk
 have r5:¬ k=5:=hk
 clear hk
 by_cases hk:k=6
 ·subst hk
  have HE:Hid (R=bE 6 S a):=Lib.hid HR.out
  clear c1 c3
  go_wp2_with fail
  refine (uP M1.out A1.out HL.out).mono ?_
  rintro e w2 ⟨u,rfl,hu⟩
  obtain ⟨g1,g2⟩:=FIN.out _ _ _ HE.out hu
  rw [g1]
  have G2:=Lib.hid g2
  clear hu g1 g2
  go_wp2
  go_ret2
  exact ⟨_,rfl,G2.out⟩
 have q6:(k==6)=false:=by simpa using hk
 have r6:¬ k=6:=hk
 clear hk
 by_cases hk:k=7
 ·subst hk
  have HE:Hid (R=bE 7 S a):=Lib.hid HR.out
  clear c1 c3
  go_wp2_with fail
  refine (uR M1.out A1.out HL.out).mono ?_
  rintro e w2 ⟨u,rfl,hu⟩
  obtain ⟨g1,g2⟩:=FIN.out _ _ _ HE.out hu
  rw [g1]
  have G2:=Lib.hid g2
  clear hu g1 g2
  go_wp2
  go_ret2
  exact ⟨_,rfl,G2.out⟩
 have q7:(k==7)=false:=by simpa using hk
 have r7:¬ k=7:=hk
 clear hk
 by_cases hk:k=8
 ·subst hk
  have HE:Hid (R=iG S a x):=Lib.hid HR.out
  clear c1
  go_wp2_with fail
  refine (uO M1.out A1.out X1.out Gs.out HL.out).mono ?_
  rintro e w2 ⟨u,rfl,hu⟩
  obtain ⟨g1,g2⟩:=FIN.out _ _ _ HE.out hu
  rw [g1]
  have G2:=Lib.hid g2
  clear hu g1 g2
  go_wp2
  go_ret2
  exact ⟨_,rfl,G2.out⟩
 have q8:(k==8)=false:=by simpa using hk
 have r8:¬ k=8:=hk
 clear hk
 by_cases hk:k=9
 ·subst hk
  have HE:Hid (R=kJ S x):=Lib.hid HR.out
  clear c1
  go_wp2_with fail
  refine (uT M1.out X1.out Gs.out HL.out).mono ?_
  rintro e w2 ⟨u,rfl,hu⟩
  obtain ⟨g1,g2⟩:=FIN.out _ _ _ HE.out hu
  rw [g1]
  have G2:=Lib.hid g2
  clear hu g1 g2
  go_wp2
  go_ret2
  exact ⟨_,rfl,G2.out⟩
 have q9:(k==9)=false:=by simpa using hk
 have r9:¬ k=9:=hk
 clear hk
 have HE:Hid (R=eX S x):=Lib.hid (by rw [HR.out];unfold rF;simp only [if_neg r1,if_neg r2,if_neg r3,if_neg r4,if_neg r5,if_neg r6,if_neg r7,if_neg r8,if_neg r9])
 clear r1 r2 r3 r4 r5 r6 r7 r8 r9 c1
 go_wp2_with fail
 refine (qm M1.out X1.out Gs.out HL.out).mono ?_
 rintro e w2 ⟨u,rfl,hu⟩
 obtain ⟨g1,g2⟩:=FIN.out _ _ _ HE.out hu
 rw [g1]
 have G2:=Lib.hid g2
 clear hu g1 g2
 go_wp2
 go_ret2
 exact ⟨_,rfl,G2.out⟩
end
end Go.Proofs.YtpcjekgfnfjbpaaGreat
namespace Go.aG
open Go.RowKit Go.ChangeShapes Go.WideShapes Go.ChangeAt
section
variable {H : Type} {enc : TypeId × Value → H} {P : Program} {w : World} {base : Nat} {spare : Nat → Bool} {held : Bool}
theorem ou {t:TypeId} {f0 f1 f2 f3:Field} {fuel:Nat} {cs:List Value} {x:DataW H × List MemPlace} (ht:P.underlying t=some (.struct #[f0,f1,f2,f3])) (h:DataW.trod enc P w base spare held fuel t cs=some x):
  ∃y0 y1 y2 y3 n,DataW.trod enc P w base spare held n f0.type ((cs.drop f0.offset).take (P.cellsOf f0.type))=some y0∧
   DataW.trod enc P w base spare held n f1.type ((cs.drop f1.offset).take (P.cellsOf f1.type))=some y1∧DataW.trod enc P w base spare held n f2.type ((cs.drop f2.offset).take (P.cellsOf f2.type))=some y2∧DataW.trod enc P w base spare held n f3.type ((cs.drop f3.offset).take (P.cellsOf f3.type))=some y3:=by
 obtain ⟨xs,n,_,rfl,hl,hlen,hf⟩:=DataW.trod_struct ht h
 match xs,hlen with
 | [y0,y1,y2,y3],_=> exact ⟨y0,y1,y2,y3,n,by simpa using hf 0 f0 rfl,by simpa using hf 1 f1 rfl,by simpa using hf 2 f2 rfl,by simpa using hf 3 f3 rfl⟩
theorem vg {t e:TypeId} {f0 f1 f2 f3:Field} {eb:TypeId} {v:Value} {d:DataW H} {p:List MemPlace} (ht:P.underlying t=some (.slice e)) (he:P.underlying e=some (.struct #[f0,f1,f2,f3])) (hc:P.cellsOf e=4)
  (ho:(f0.offset,f1.offset,f2.offset,f3.offset)=(0,1,2,3)) (hk:(P.cellsOf f0.type,P.cellsOf f1.type,P.cellsOf f2.type,P.cellsOf f3.type)=(1,1,1,1))
  (h0:P.underlying f0.type=some (.int .i64)) (h1:P.underlying f1.type=some (.int .i64)) (h1':P.underlying f2.type=some (.int .i64)) (h2:P.underlying f3.type=some (.slice eb)) (h3:P.underlying eb=some (.int .u8)) (h4:P.cellsOf eb=1)
  {b0:Nat} (hv:Value.okWide P w .any b0 t v) (h:DataW.Trod enc P w base spare held t v d p):
  ∃L:List nI,vQ w v L∧∀(j:Nat) (d:nI),L[j]? =some d→AB d:=by
 obtain ⟨m,q,hq,htr⟩:=wP ht hc (by decide) hv h
 simp only [Prod.mk.injEq] at ho hk
 have each:∀j,j<m→∃d:nI,ru w (q j) d∧AB d:=by
  intro j hj
  obtain ⟨fuel,y,hy⟩:=htr j hj
  obtain ⟨y0,y1,y2,y3,n',e0,e1,e2,e3⟩:=ou he hy
  rw [ho.1,hk.1] at e0
  rw [ho.2.1,hk.2.1] at e1
  rw [ho.2.2.1,hk.2.2.1] at e2
  rw [ho.2.2.2,hk.2.2.2] at e3
  obtain ⟨k,hk0,_,wk⟩:=DataW.trod_int h0 e0
  obtain ⟨n,hn0,_,wn⟩:=DataW.trod_int h1 e1
  obtain ⟨a,ha0,_,wa⟩:=DataW.trod_int h1' e2
  obtain ⟨u,l,f,hu,hr,hb⟩:=tF h2 h3 h4 e3
  simp [List.range_succ] at hk0 hn0 hu ha0
  subst hu
  refine ⟨(k,n,a,(List.range l).map f),⟨hk0,hn0,ha0,?_⟩,bounds_i64 wk,bounds_i64 wn,bounds_i64 wa,fun x hx=> ?_⟩
  ·show Rd .u8 w (q j 3) ((List.range l).map f).length (bf ((List.range l).map f))
   rw [List.length_map,List.length_range]
   refine hr.congr fun i hi=> ?_
   unfold bf
   rw [List.getD_eq_getElem?_getD,List.getElem?_map,List.getElem?_range hi]
   rfl
  ·obtain ⟨i,hi,rfl⟩:=List.mem_map.1 hx
   have:=bounds_u8 (hb i (List.mem_range.1 hi))
   omega
 classical
 refine ⟨(List.range m).map fun j=> if h:j<m then Classical.choose (each j h) else default,⟨q,by rw [List.length_map,List.length_range];exact hq,fun j d hd=> ?_⟩,fun j d hd=> ?_⟩
 all_goals rw [List.getElem?_map] at hd
 all_goals by_cases hj:j<m
 ·rw [List.getElem?_range hj,Option.map_some,dif_pos hj] at hd
  cases hd
  exact (Classical.choose_spec (each j hj)).1
 ·rw [List.getElem?_eq_none (by simp;omega)] at hd
  cases hd
 ·rw [List.getElem?_range hj,Option.map_some,dif_pos hj] at hd
  cases hd
  exact (Classical.choose_spec (each j hj)).2
 ·rw [List.getElem?_eq_none (by simp;omega)] at hd
  cases hd
end
end Go.aG
