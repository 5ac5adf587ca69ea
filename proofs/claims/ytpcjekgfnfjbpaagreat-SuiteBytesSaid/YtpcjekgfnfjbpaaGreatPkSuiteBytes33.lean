/- Part 33 of SuiteBytes; conditions: in each theorem. -/
import Derived.Test.YtpcjekgfnfjbpaaGreatPkSuiteBytes32
import Derived.Test.YtpcjekgfnfjbpaaGreatPkSuiteBytes27
set_option linter.unusedVariables false
set_option linter.unusedSimpArgs false
set_option maxRecDepth 100000
set_option maxHeartbeats 12800000
namespace Go.bC
open Go.RowKit
theorem Tj (m:Nat->Int) {k:Nat} (h:k<64):ko m 64 (16+k)=Dn (ko m 64 k) (ko m 64 (k+1)) (ko m 64 (k+9)) (ko m 64 (k+14)):=by
 have e:∀i,i<16+k->ko m 64 i=ko m k i:=fun i hi=>by
  have:=sJ m k (64 - k) i hi
  rwa [show k+(64 - k)=64 by omega] at this
 have e1:ko m 64 (16+k)=ko m (k+1) (16+k):=by
  have:=sJ m (k+1) (64 - (k+1)) (16+k) aH
  rwa [show k+1+(64 - (k+1))=64 by omega] at this
 rw[e1,ko,upd,if_pos rfl,e k aH,e (k+1) aH,e (k+9) aH,e (k+14) aH]
theorem Qa (m:Nat->Int) {t:Nat} (h:t<16):ko m 64 t=m t:=by
 have:=sJ m 0 64 t aH
 simpa [ko] using this
theorem YM {k:IntKind} {w:World} {T:TypeId} {f:Nat->Int}:Rd k (w.alloc (.cells [Value.int k (f 0),.int k (f 1),.int k (f 2),.int k (f 3),.int k (f 4),.int k (f 5),.int k (f 6),.int k (f 7)].toArray T)) (.slice (some ⟨w.heap.size,0,none⟩) 8 8) 8 f:=
 Uy rfl aN fun i hi=>by
  rcases(by omega:i=0\/i=1\/i=2\/i=3\/i=4\/i=5\/i=6\/i=7) with rfl | rfl | rfl | rfl | rfl | rfl | rfl | rfl<;> rfl
theorem Rd.at' {k:IntKind} {w:World} {b o n c:Nat} {f:Nat->Int} (h:Rd k w (.slice (some ⟨b,o,none⟩) n c) n f) {i:Nat} (hi:i<n):w.cell? ⟨b,o+i,none⟩=some (.int k (f i))/\b<w.heap.size:=by
 obtain⟨a,c',he,_,_,_,h4⟩:=h;obtain⟨b',o',rfl,hb,hc⟩:=h4 aH;simp only[DV,CO,Addr.mk.injEq,and_true,true_and] at he;obtain⟨⟨rfl,rfl⟩,_⟩:=he;exact⟨hc i hi,hb⟩
def FE (w0:World) (sb so:Nat) (T:Nat->Int) (w:World):Prop:=
 aQ .u8 w w0.heap.size 64 (fun _=>0)/\(∀i,i<8->w.cell? ⟨sb,so+i,none⟩=some (.int .u64 (T i)))/\Below w0.heap.size w0 w
theorem FE.set {w0 w:World} {sb so bO:Nat} {T:Nat->Int} (h:FE w0 sb so T w) (h1:w0.heap.size<bO) (h2:sb<bO) (i:Nat) (v:Value):FE w0 sb so T (w.setCell ⟨bO,i,none⟩ v):=
 ⟨h.1.other (by show w0.heap.size≠bO;omega) _,fun j hj=>(World.cell?_of_block (heap_setCell_other w ⟨bO,i,none⟩ sb v (by show sb≠bO;omega))).trans (h.2.1 j hj),h.2.2.setCell (by show w0.heap.size<=bO;omega) _⟩
theorem abv {x:Int} (h:0<=x/\x<eF):IntKind.u64.wrap (18446744073709551615 - x)=eF - 1 - x:=by
 have:eF=18446744073709551616:=rfl;rw[iY aH aH];omega
end Go.bC
namespace Go.bC
def aap (i:Nat):Int:=([7,114,101,103,114,101,115,115] :List Int).getD i 0
def aaq (i:Nat):Int:=([4,105,116,101,109] :List Int).getD i 0
end Go.bC
namespace Go.Proofs.YtpcjekgfnfjbpaaGreat
open Go.RowKit Go.bC
attribute [local go_sem ↓] Go.wp_at_zero Go.wp_at_succ
theorem pX (v:Value) (n:Nat) (f:Nat->Int) (w:World) (hv:Rd .u8 w v n f) (hn2:n<=1000000) (hf:∀i,i<n->0<=f i/\f i<256):
  Calls Tryz.prog 32 #[v] w fun e w'=>e=.returned (.agg (arr .u8 64 (gJ n f)))/\Below w.heap.size w w':=by
 obtain⟨F,zn⟩:∃F,F=zI n f:=⟨_,rfl⟩
 have HF:Hid (∀i,0<=F i/\F i<256):=by rw[zn];exact Bv hf
 have HLO:Hid (∀i,i<n->F (0+i)=f i):=by rw[zn];exact fun i hi=>by rw[oD];exact OA hi
 have HHI:Hid (∀i,i<yu n->F (n+i)=qN n i):=by rw[zn];exact fun i _=>OB i
 obtain⟨N,hN⟩:∃N,N=ME n:=⟨_,rfl⟩
 have Ll:Hid (n+yu n=N):=by rw[hN];exact rfl
 obtain⟨NB,hNB⟩:∃NB,NB=N / 128:=⟨_,rfl⟩
 have NW:Hid (N<=1000200/\N=128 * NB):=by
  have:=Uh n;rw[<-hN] at this;refine⟨by rw[hN];unfold ME yu zG;omega,by omega⟩
 have uq:Hid (∀i,fZ F NB (i / 8) / 2 ^ (8 * (7 - i % 8)) % 256=gJ n f i):=by rw[hNB,zn,hN];exact fun i=>rfl
 obtain⟨SB,xu⟩:∃SB,SB=gJ n f:=⟨_,rfl⟩
 rw[<-xu] at uq ⊢;have HV:=ak hv;obtain⟨va,vc,rfl,v1,v2,v3,v4⟩:=hv;clear zn hN hNB xu hf v3 v4
 go_enter Tryz.func32,Tryz.ntmps32
 go_upto_region 1 with(fail);refine aJ (fun w1=>aQ .u8 w1 w.heap.size 64 (fun _=>0)/\Below w.heap.size w w1/\w1.heap.size=w.heap.size+1) ⟨bU rfl (by rfl),(bT _ _).alloc (bB _) _,by simp⟩ ?_;rintro w1 ⟨hZ,aA,hs⟩;go_wp2_with fail;refine(SH _).mono ?_;rintro e w2 ⟨vk,rfl,hK,dP⟩;have gy:=hZ.kept dP;have gu:=aA.trans (dP.mono aA.size);have HK2:=ak hK.rd;obtain⟨gk,ck,rfl,k1,k2,k3,k4,_,_⟩:=hK.form aN;have HV2:=ak (HV.out.below gu);have s2:=dP.size;clear hZ aA dP hK;go_upto_region 4 with(at_builtin;refine fH rfl _ _ 23 rfl w2.heap.size 5 .u8 1 lK pI _ 0 F (Go.bC.Own.nil _ _ _ _ _) rfl _ n f HV2.out rfl HLO.out aH aH (bB _) ?_;intro v3 w3 hown3 GZ);have fP:Below w2.heap.size w2 w3:=below_grown (bT w2.heap.size w2) GZ (Go.bC.Own.nil .u8 5 w2.heap.size w2 F) (bB _) (bB _);rw[oD] at hown3;have Xk:=ak hown3;have s3:=fP.size;clear hown3 GZ;go_wp2_with fail;refine(TB n aH _).mono ?_;rintro e w4 ⟨p,rfl,hp,jd⟩;have Pk:=ak (Xk.out.below jd);have HP4:=ak hp.rd;have adi:=fP.trans (jd.mono s3);have s4:=adi.size;clear hp fP jd Xk;go_upto_region 5 with(at_builtin;refine fH rfl _ _ 23 rfl w2.heap.size 5 .u8 1 lK pI _ n F Pk.out rfl _ (yu n) _ HP4.out rfl HHI.out (by have:=Ll.out;have:=NW.out.1;omega) (by have:=Ll.out;have:=NW.out.1;omega) s4 ?_;intro v5 w5 hown5 hgr5);have adh:=below_grown adi hgr5 Pk.out s4 (bB _);rw[Ll.out] at hown5;have hM5:=hown5.rd;have s5:=adh.size;clear hown5 hgr5 Pk HP4 adi;go_wp2_with fail;refine(Me _).mono ?_;rintro e w6 ⟨v6,rfl,Sg,kg⟩;have Zb:=adh.trans (kg.mono s5);have sW:=gy.kept Zb;have iw:=gu.trans (Zb.mono gu.size);have HK6:=ak (HK2.out.below Zb);have hM6:=hM5.below kg;have hS6:=Sg.rd;obtain⟨ma,mc,rfl,m1,m2,_,m4⟩:=id hM6;have HM6:=ak hM6;have hzl:=sW.lt;clear adh kg Zb gy gu HK2 HV2 hM5 Sg hM6 m4 k1 k2;have nn1:=NW.out.1;go_wp2
 go_loopw [5,6] (fun s i wr=> ∃j:Nat,j<=NB/\i=.int .i64 ((128 * j:Nat):Int)/\Rd .u64 wr s 8 (fZ F j)/\Below w6.heap.size w6 wr) (fun _ i _=>N - (intOf i).toNat)
 case atStart=>exact⟨0,gX _,rfl,hS6,bT _ _⟩
 case round=>
  clear hS6;obtain⟨j,hj,rfl,hS,hbw⟩:=hrel;by_cases hlt:j<NB
  ·obtain⟨sa,sc,rfl,z1,z2,_,z4⟩:=id hS;obtain⟨sb,so,rfl,zl,zc⟩:=z4 aN;obtain⟨J,hJ⟩:∃J,J=128 * j:=⟨_,rfl⟩
   rw[<-hJ];have HJ:=ak hJ;obtain⟨S,hSS⟩:∃S,S=fZ F j:=⟨_,rfl⟩
   have HS8:Hid (∀i,i<8->0<=S i/\S i<eF):=by rw[hSS];exact oO F j
   obtain⟨fj,hfj⟩:∃fj:Nat->Int,fj=fun i=>F (J+i):=⟨_,rfl⟩
   have Vn:∀i,i<128->0<=fj i/\fj i<256:=by rw[hfj];exact fun i _=>HF.out _
   obtain⟨W,hW⟩:∃W,W=ko (m16 fj) 64:=⟨_,rfl⟩
   have HWB:Hid (∀i,i<80->0<=W i/\W i<eF):=by rw[hW];exact AP (EO Vn) 64
   have akT:Hid (∀t,t<16->big (fun i=>F (J+8 * t+i)) 8=W t):=by
    intro t ht;rw[hW,Qa _ ht,hfj];unfold m16;rw[if_pos ht];exact Rt (n:=8) (fun i _=>by rw[Nat.add_assoc]) 8 (bB _)
   have HWR:Hid (∀k,k<64->Dn (W k) (W (k+1)) (W (k+9)) (W (k+14))=W (16+k)):=by rw[hW];exact fun k hk=>(Tj _ hk).symm
   obtain⟨G,hG⟩:∃G,G=fZ F (j+1):=⟨_,rfl⟩
   have HG:Hid (∀i,(S i+iM kK W S 80 i) % eF=G i):=by rw[hG,hW,hfj,hSS,hJ];exact fun i=>rfl
   have HGE:=ak hG;rw[<-hSS] at hS zc;have HS:=ak hS;have HZC:=ak zc;clear hJ hSS hfj Vn hW hG hS zc;obtain⟨wj,hwj⟩:∃wj,wj=wr:=⟨_,rfl⟩
   subst hwj;have HMj:=ak (HM6.out.below hbw);have HKj:=ak (HK6.out.below hbw);have hja:J+128<=N:=by have:=NW.out.2;have:=HJ.out;omega
   have hjlt:((J:Nat):Int)<(N:Int):=by omega
   go_upto_region 10 with(fail);go_wp2
   go_loopw [7,8] (fun x i wr=> ∃t:Nat,t<=80/\i=.int .i64 (t:Int)/\Go.bC.Own .u64 132 wj.heap.size wr x t W/\Below wj.heap.size wj wr) (fun _ i _=>80 - (intOf i).toNat)
   case atStart=>exact⟨0,gX _,rfl,Go.bC.Own.nil _ _ _ _ _,bT _ _⟩
   case round=>
    obtain⟨t,ht,rfl,hO,hbt⟩:=hrel;have gF:=hbt.size;have HO:=ak hO;by_cases ajC:t<16
    ·obtain⟨la,r1,r2,r3⟩:=Rd.cut lK pI ma N mc (J+8 * t) (J+8 * t+8) aH aH m1;rw[show J+8 * t+8 - (J+8 * t)=8 by omega] at r1 r3;have R1:=ak r1;have HL:=ak (r3 _ _ (HMj.out.below hbt)).1;have a1:IntKind.i64.wrap (8 * (t:Int))=((8 * t:Nat):Int):=by rw[bI aH aH];omega
     have a2:IntKind.i64.wrap (((J:Nat):Int)+((8 * t:Nat):Int))=((J+8 * t:Nat):Int):=by rw[bI aH aH];omega
     have a3:IntKind.i64.wrap (((J+8 * t:Nat):Int)+8)=((J+8 * t+8:Nat):Int):=by rw[bI aH aH];omega
     have A1:=ak a1;have A2:=ak a2;have A3:=ak a3;have ajB:t<80:=by omega
     clear r1 r2 r3 hO a1 a2 a3;go_upto_region 14 with(fail)
     refine lZ (n:=259) 14 aN aS aS aS aS rfl
      (fun ii vv ww=>(match ii with | 0=>vv=u7 | 1=>vv=.slice ma N mc | 2 | 6=>vv=.int .i64 (((J:Nat):Int)) | 3 | 7=>vv=.int .i64 ((t:Int)) | 4 | 8=>vv=.int .i64 (((8 * t:Nat):Int)) | 5 | 9=>vv=.int .i64 (((J+8 * t:Nat):Int)) | 10=>vv=.int .i64 (((J+8 * t+8:Nat):Int)) | 11=>vv=.slice la 8 (mc - (J+8 * t)) | 12=>vv=.int .u64 (W t) | _=>True)/\(ii=13->Rd .u64 ww vv 1 (fun _=>W t)))
      (fun i v w w' h hE=>⟨h.1,fun e=>Rd.below (h.2 e) hE⟩) ?_ ?_
     ·refine cB ?_;refine⟨?_,?_,?_,?_,?_,?_,?_,?_,?_,?_,?_,?_,?_,?_,(aL),(aL),trivial⟩
      ·intro _ a w2 hB hF hd;exact aO <| aB _ (.inl rfl) aR ⟨(hF.same 7 rfl),aL⟩
      ·intro _ a w2 hB hF hd;exact aO <| aB _ (.inl rfl) aR ⟨(hF.same 4 rfl),aL⟩
      ·intro _ a w2 hB hF hd;exact aO <| aB _ (.inl rfl) aR ⟨(hF.same 6 rfl),aL⟩
      ·intro _ a w2 hB hF hd;exact aO <| aB _ (.inl rfl) aR ⟨(hF.same 8 rfl),aL⟩
      ·intro _ a w2 hB hF hd;exact aO <| aT (Go.bC.zV rfl rfl ((hd 3 _ rfl (aj rfl)).1)) ⟨(congrArg (Value.int .i64) (A1.out)),aL⟩
      ·intro _ a w2 hB hF hd;exact aO <| aT (Go.bC.dV rfl ((hd 2 _ rfl (aj rfl)).1) ((hd 4 _ rfl (aj rfl)).1)) ⟨(congrArg (Value.int .i64) (A2.out)),aL⟩
      ·intro _ a w2 hB hF hd;exact aO <| aB _ (.inl rfl) aR ⟨(hF.same 6 rfl),aL⟩
      ·intro _ a w2 hB hF hd;exact aO <| aB _ (.inl rfl) aR ⟨(hF.same 8 rfl),aL⟩
      ·intro _ a w2 hB hF hd;exact aO <| aT (Go.bC.zV rfl rfl ((hd 7 _ rfl (aj rfl)).1)) ⟨(congrArg (Value.int .i64) (A1.out)),aL⟩
      ·intro _ a w2 hB hF hd;exact aO <| aT (Go.bC.dV rfl ((hd 6 _ rfl (aj rfl)).1) ((hd 8 _ rfl (aj rfl)).1)) ⟨(congrArg (Value.int .i64) (A2.out)),aL⟩
      ·intro _ a w2 hB hF hd;exact aO <| aT (Go.bC.dV rfl ((hd 9 _ rfl (aj rfl)).1) rfl) ⟨(congrArg (Value.int .i64) (A3.out)),aL⟩
      ·intro _ a w2 hB hF hd;exact aO <| aT (eY rfl ((hd 1 _ rfl (aj rfl)).1) (by simp only[Option.map_some,Option.map_none,show a.eval (Operand.tmp 53)=.int .i64 (((J+8 * t:Nat):Int)) from((hd 5 _ rfl (aj rfl)).1),show a.eval (Operand.tmp 58)=.int .i64 (((J+8 * t+8:Nat):Int)) from((hd 10 _ rfl (aj rfl)).1)];exact R1.out _)) ⟨rfl,aL⟩
      ·intro _ a w2 hB hF hd;refine aO <| aD _ _ _ rfl Tryz.call86 _ (args1 ((hd 11 _ rfl (aj rfl)).1)) aR (((akT.out t ajC▸WR _ 8 (fun i=>F (J+8 * t+i)) _ (HL.out.below hB) (fun i _=>HF.out _) aN)).mono ?_);rintro e w3 ⟨rfl,hb⟩;exact⟨_,rfl,⟨rfl,aL⟩,hb⟩
      ·intro _ a w2 hB hF hd;exact aO <| kI 129 132 1 _ [.int .u64 (W t)] rfl DY aS aS rfl aN aN (by intro v hv;simp only[List.mem_cons,List.not_mem_nil,or_false] at hv;rcases hv with rfl<;> rfl) (by simp only[zw,List.map_cons,List.map_nil,show a.eval (Operand.tmp 60)=.int .u64 (W t) from((hd 12 _ rfl (aj rfl)).1)];rfl) aR ⟨trivial,fun _=>(zZ)⟩
     ·intro a w8 hB hF hS;obtain⟨x61,acr⟩:∃x,x=a.tmps.getD 61 undef:=⟨_,rfl⟩
      have P61:Rd .u64 w8 x61 1 (fun _=>W t):=by rw[acr];exact(hS 13 _ rfl aN).2 rfl
      have ha:=aP rfl rfl hF [_,_,_,_,_,_,_,_,_,_,_,_,_,x61] rfl ⟨(hS 0 _ rfl aN).1,(hS 1 _ rfl aN).1,(hS 2 _ rfl aN).1,(hS 3 _ rfl aN).1,(hS 4 _ rfl aN).1,(hS 5 _ rfl aN).1,(hS 6 _ rfl aN).1,(hS 7 _ rfl aN).1,(hS 8 _ rfl aN).1,(hS 9 _ rfl aN).1,(hS 10 _ rfl aN).1,(hS 11 _ rfl aN).1,(hS 12 _ rfl aN).1,acr.symm,trivial⟩;simp only[puts,List.take_succ_cons,List.take_zero,Act.put,dK,dL,dM] at ha;subst ha;change tl _ _ _ (_::_:: []) _ _;clear acr;clear hS hF;have hO8:=HO.out.below hB;have Ac:=hbt.trans (hB.mono gF);refine vO rfl (kP _ _ 129 rfl wj.heap.size 132 .u64 8 DY Tryz.info132 _ t W hO8 rfl _ 1 _ P61 rfl (fun i hi=>by rw[show t+i=t by omega]) aH aH Ac.size ?_);intro v' w9 bM bA;refine vP rfl _ (.inr rfl) (Ak ?_);have DN:=below_grown Ac bA hO8 Ac.size (bB _);clear hB bA hO8 Ac P61;go_wp2;go_roundw
      case rel=>first | exact⟨t+1,by omega,by go_num,bM,DN⟩ | ((repeat apply Exists.intro);exact⟨⟨t+1,by omega,by go_num,bM,DN⟩,rfl⟩)
      case measure=>simp[intOf] <;> omega
    ·by_cases ajB:t<80
     ·obtain⟨k,rfl⟩:∃k,t=16+k:=⟨t - 16,by omega⟩
      obtain⟨g7,c7,rfl,f1,f2,f3,f4,f5,_⟩:=hO.form aH;have HC7:=ak f5;have d15:=ak (oJ (a:=16+k) (c:=15) (b:=k+1) aH aH);have d2:=ak (oJ (a:=16+k) (c:=2) (b:=k+14) aH aH);have d16:=ak (oJ (a:=16+k) (c:=16) (b:=k) aH aH);have d7:=ak (oJ (a:=16+k) (c:=7) (b:=k+9) aH aH);have hkk:k<64:=by omega
      clear hO f5;go_upto_region 15 with(fail)
      refine aX (n:=259) aS aS aS rfl
       (fun ii vv _=>(match ii with | 0=>vv=.slice (some ⟨g7,0,none⟩) (16+k) c7 | 1=>vv=.int .i64 (((16+k:Nat):Int)) | 2=>vv=.int .i64 (((k+1:Nat):Int)) | 3=>vv=.pointer (some ⟨g7,0+(k+1),none⟩) | 4 | 5=>vv=.int .u64 (W (k+1)) | _=>True))
       (fun w w'=>Below w.heap.size w w') (fun _ _ h=>h) (fun _ _ _ _ h _=>h) ?_ ?_
      ·refine cB ?_;refine⟨?_,?_,?_,?_,?_,?_,trivial⟩
       ·intro a w2 hB hF hd;exact aO <| aB _ (.inl rfl) aR (hF.same 7 rfl)
       ·intro a w2 hB hF hd;exact aO <| aB _ (.inl rfl) aR (hF.same 8 rfl)
       ·intro a w2 hB hF hd;exact aO <| aT (Go.bC.kS rfl (hd 1 _ rfl (aj rfl)) rfl) (congrArg (Value.int .i64) (d15.out))
       ·intro a w2 hB hF hd;exact aO <| aT (dA rfl (hd 0 _ rfl (aj rfl)) (hd 2 _ rfl (aj rfl)) DY aS aH aH) rfl
       ·intro a w2 hB hF hd;exact aO <| aT (aY rfl (hd 3 _ rfl (aj rfl)) rC ((hB.cell (p:=⟨g7,0+(k+1),none⟩) f2).trans (by rw[oD];exact HC7.out (k+1) aH))) rfl
       ·intro a w2 hB hF hd;exact aO <| aB _ (.inr rfl) aR (hd 4 _ rfl (aj rfl))
      ·intro a w8 hB hF hS;have ha:=aP rfl rfl hF [_,_,_,_,_,_] rfl ⟨hS 0 _ rfl,hS 1 _ rfl,hS 2 _ rfl,hS 3 _ rfl,hS 4 _ rfl,hS 5 _ rfl,trivial⟩;simp only[puts,Act.put,dK,dL,dM] at ha;subst ha;clear hS hF;have hf2:g7<w8.heap.size:=zO f2 hB.size;have HC8:Hid (∀i,i<16+k->w8.cell? ⟨g7,i,none⟩=some (.int .u64 (W i))):=fun i hi=>(hB.cell (p:=⟨g7,i,none⟩) f2).trans (HC7.out i hi);have HO8:=ak (HO.out.below hB);have Ac:=hbt.trans (hB.mono gF);have hs8:=Ac.size;clear hB HC7 HO f2 hbt gF;go_upto_region 16 with(fail)
       refine aX (n:=259) aS aS aS rfl
        (fun ii vv _=>(match ii with | 0=>vv=.slice (some ⟨g7,0,none⟩) (16+k) c7 | 1=>vv=.int .i64 (((16+k:Nat):Int)) | 2=>vv=.int .i64 (((k+14:Nat):Int)) | 3=>vv=.pointer (some ⟨g7,0+(k+14),none⟩) | 4 | 5=>vv=.int .u64 (W (k+14)) | _=>True))
        (fun w w'=>Below w.heap.size w w') (fun _ _ h=>h) (fun _ _ _ _ h _=>h) ?_ ?_
       ·refine cB ?_;refine⟨?_,?_,?_,?_,?_,?_,trivial⟩
        ·intro a w2 hB hF hd;exact aO <| aB _ (.inl rfl) aR (hF.same 7 rfl)
        ·intro a w2 hB hF hd;exact aO <| aB _ (.inl rfl) aR (hF.same 8 rfl)
        ·intro a w2 hB hF hd;exact aO <| aT (Go.bC.kS rfl (hd 1 _ rfl (aj rfl)) rfl) (congrArg (Value.int .i64) (d2.out))
        ·intro a w2 hB hF hd;exact aO <| aT (dA rfl (hd 0 _ rfl (aj rfl)) (hd 2 _ rfl (aj rfl)) DY aS aH aH) rfl
        ·intro a w2 hB hF hd;exact aO <| aT (aY rfl (hd 3 _ rfl (aj rfl)) rC ((hB.cell (p:=⟨g7,0+(k+14),none⟩) hf2).trans (by rw[oD];exact HC8.out (k+14) aH))) rfl
        ·intro a w2 hB hF hd;exact aO <| aB _ (.inr rfl) aR (hd 4 _ rfl (aj rfl))
       ·intro a w9 hB hF hS;have ha:=aP rfl rfl hF [_,_,_,_,_,_] rfl ⟨hS 0 _ rfl,hS 1 _ rfl,hS 2 _ rfl,hS 3 _ rfl,hS 4 _ rfl,hS 5 _ rfl,trivial⟩;simp only[puts,Act.put,dK,dL,dM] at ha;subst ha;clear hS hF;have hf3:g7<w9.heap.size:=zO hf2 hB.size;have HC9:Hid (∀i,i<16+k->w9.cell? ⟨g7,i,none⟩=some (.int .u64 (W i))):=fun i hi=>(hB.cell (p:=⟨g7,i,none⟩) hf2).trans (HC8.out i hi);have HO9:=ak (HO8.out.below hB);have DN:=Ac.trans (hB.mono hs8);have hs9:=DN.size;clear hB HC8 HO8 hf2 Ac hs8;go_upto_region 17 with(fail)
        refine lZ (n:=259) 31 aN aS aS aS aS rfl
         (fun ii vv ww=>(match ii with | 0 | 1 | 15=>vv=.slice (some ⟨g7,0,none⟩) (16+k) c7 | 2 | 16=>vv=.int .i64 (((16+k:Nat):Int)) | 3=>vv=.int .i64 (((k:Nat):Int)) | 4=>vv=.pointer (some ⟨g7,0+k,none⟩) | 5=>vv=.int .u64 (W k) | 6 | 8 | 11=>vv=.int .u64 (W (k+1)) | 7=>vv=.int .u64 (rr (W (k+1)) 1) | 9=>vv=.int .u64 (rr (W (k+1)) 8) | 10=>vv=.int .u64 (x64 (rr (W (k+1)) 1) (rr (W (k+1)) 8)) | 12=>vv=.int .u64 (W (k+1) / 2 ^ 7) | 13=>vv=.int .u64 (s0F (W (k+1))) | 14=>vv=.int .u64 ((W k+s0F (W (k+1))) % eF) | 17=>vv=.int .i64 (((k+9:Nat):Int)) | 18=>vv=.pointer (some ⟨g7,0+(k+9),none⟩) | 19=>vv=.int .u64 (W (k+9)) | 20=>vv=.int .u64 (((W k+s0F (W (k+1))) % eF+W (k+9)) % eF) | 21 | 23 | 26=>vv=.int .u64 (W (k+14)) | 22=>vv=.int .u64 (rr (W (k+14)) 19) | 24=>vv=.int .u64 (rr (W (k+14)) 61) | 25=>vv=.int .u64 (x64 (rr (W (k+14)) 19) (rr (W (k+14)) 61)) | 27=>vv=.int .u64 (W (k+14) / 2 ^ 6) | 28=>vv=.int .u64 (s1F (W (k+14))) | 29=>vv=.int .u64 (Dn (W k) (W (k+1)) (W (k+9)) (W (k+14))) | _=>True)/\(ii=30->Rd .u64 ww vv 1 (fun _=>Dn (W k) (W (k+1)) (W (k+9)) (W (k+14)))))
         (fun i v w w' h hE=>⟨h.1,fun e=>Rd.below (h.2 e) hE⟩) ?_ ?_
        ·refine cB ?_;refine⟨?_,?_,?_,?_,?_,?_,?_,?_,?_,?_,?_,?_,?_,?_,?_,?_,?_,?_,?_,?_,?_,?_,?_,?_,?_,?_,?_,?_,?_,?_,?_,(aL),(aL),trivial⟩
         ·intro _ a w2 hB hF hd;exact aO <| aB _ (.inl rfl) aR ⟨(hF.same 7 rfl),aL⟩
         ·intro _ a w2 hB hF hd;exact aO <| aB _ (.inl rfl) aR ⟨(hF.same 7 rfl),aL⟩
         ·intro _ a w2 hB hF hd;exact aO <| aB _ (.inl rfl) aR ⟨(hF.same 8 rfl),aL⟩
         ·intro _ a w2 hB hF hd;exact aO <| aT (Go.bC.kS rfl ((hd 2 _ rfl (aj rfl)).1) rfl) ⟨(congrArg (Value.int .i64) (d16.out)),aL⟩
         ·intro _ a w2 hB hF hd;exact aO <| aT (dA rfl ((hd 1 _ rfl (aj rfl)).1) ((hd 3 _ rfl (aj rfl)).1) DY aS aH aH) ⟨rfl,aL⟩
         ·intro _ a w2 hB hF hd;exact aO <| aT (aY rfl ((hd 4 _ rfl (aj rfl)).1) rC ((hB.cell (p:=⟨g7,0+k,none⟩) hf3).trans (by rw[oD];exact HC9.out k aH))) ⟨rfl,aL⟩
         ·intro _ a w2 hB hF hd;exact aO <| aB _ (.inl rfl) aR ⟨(hF.same 9 rfl),aL⟩
         ·intro _ a w2 hB hF hd;refine aO <| aD _ _ _ rfl Tryz.call87 _ (args2 ((hd 6 _ rfl (aj rfl)).1) rfl) aR ((jX (W (k+1)) 1 (HWB.out _ aH) aN _ rfl _).mono ?_);rintro e w3 ⟨rfl,hb⟩;exact⟨_,rfl,⟨rfl,aL⟩,hb⟩
         ·intro _ a w2 hB hF hd;exact aO <| aB _ (.inl rfl) aR ⟨(hF.same 9 rfl),aL⟩
         ·intro _ a w2 hB hF hd;refine aO <| aD _ _ _ rfl Tryz.call87 _ (args2 ((hd 8 _ rfl (aj rfl)).1) rfl) aR ((jX (W (k+1)) 8 (HWB.out _ aH) aN _ rfl _).mono ?_);rintro e w3 ⟨rfl,hb⟩;exact⟨_,rfl,⟨rfl,aL⟩,hb⟩
         ·intro _ a w2 hB hF hd;exact aO <| aT (Go.bC.iZ rfl ((hd 7 _ rfl (aj rfl)).1) ((hd 9 _ rfl (aj rfl)).1)) ⟨(congrArg (Value.int .u64) (rfl)),aL⟩
         ·intro _ a w2 hB hF hd;exact aO <| aB _ (.inl rfl) aR ⟨(hF.same 9 rfl),aL⟩
         ·intro _ a w2 hB hF hd;refine aO <| aD _ _ _ rfl Tryz.call88 _ (args2 ((hd 11 _ rfl (aj rfl)).1) rfl) aR ((Eu (W (k+1)) 7 (HWB.out _ aH) aN _ rfl _).mono ?_);rintro e w3 ⟨rfl,hb⟩;exact⟨_,rfl,⟨rfl,aL⟩,hb⟩
         ·intro _ a w2 hB hF hd;exact aO <| aT (Go.bC.iZ rfl ((hd 10 _ rfl (aj rfl)).1) ((hd 12 _ rfl (aj rfl)).1)) ⟨(congrArg (Value.int .u64) (rfl)),aL⟩
         ·intro _ a w2 hB hF hd;exact aO <| aT (Go.bC.dV rfl ((hd 5 _ rfl (aj rfl)).1) ((hd 13 _ rfl (aj rfl)).1)) ⟨(congrArg (Value.int .u64) (eT)),aL⟩
         ·intro _ a w2 hB hF hd;exact aO <| aB _ (.inl rfl) aR ⟨(hF.same 7 rfl),aL⟩
         ·intro _ a w2 hB hF hd;exact aO <| aB _ (.inl rfl) aR ⟨(hF.same 8 rfl),aL⟩
         ·intro _ a w2 hB hF hd;exact aO <| aT (Go.bC.kS rfl ((hd 16 _ rfl (aj rfl)).1) rfl) ⟨(congrArg (Value.int .i64) (d7.out)),aL⟩
         ·intro _ a w2 hB hF hd;exact aO <| aT (dA rfl ((hd 15 _ rfl (aj rfl)).1) ((hd 17 _ rfl (aj rfl)).1) DY aS aH aH) ⟨rfl,aL⟩
         ·intro _ a w2 hB hF hd;exact aO <| aT (aY rfl ((hd 18 _ rfl (aj rfl)).1) rC ((hB.cell (p:=⟨g7,0+(k+9),none⟩) hf3).trans (by rw[oD];exact HC9.out (k+9) aH))) ⟨rfl,aL⟩
         ·intro _ a w2 hB hF hd;exact aO <| aT (Go.bC.dV rfl ((hd 14 _ rfl (aj rfl)).1) ((hd 19 _ rfl (aj rfl)).1)) ⟨(congrArg (Value.int .u64) (eT)),aL⟩
         ·intro _ a w2 hB hF hd;exact aO <| aB _ (.inl rfl) aR ⟨(hF.same 10 rfl),aL⟩
         ·intro _ a w2 hB hF hd;refine aO <| aD _ _ _ rfl Tryz.call87 _ (args2 ((hd 21 _ rfl (aj rfl)).1) rfl) aR ((jX (W (k+14)) 19 (HWB.out _ aH) aN _ rfl _).mono ?_);rintro e w3 ⟨rfl,hb⟩;exact⟨_,rfl,⟨rfl,aL⟩,hb⟩
         ·intro _ a w2 hB hF hd;exact aO <| aB _ (.inl rfl) aR ⟨(hF.same 10 rfl),aL⟩
         ·intro _ a w2 hB hF hd;refine aO <| aD _ _ _ rfl Tryz.call87 _ (args2 ((hd 23 _ rfl (aj rfl)).1) rfl) aR ((jX (W (k+14)) 61 (HWB.out _ aH) aN _ rfl _).mono ?_);rintro e w3 ⟨rfl,hb⟩;exact⟨_,rfl,⟨rfl,aL⟩,hb⟩
         ·intro _ a w2 hB hF hd;exact aO <| aT (Go.bC.iZ rfl ((hd 22 _ rfl (aj rfl)).1) ((hd 24 _ rfl (aj rfl)).1)) ⟨(congrArg (Value.int .u64) (rfl)),aL⟩
         ·intro _ a w2 hB hF hd;exact aO <| aB _ (.inl rfl) aR ⟨(hF.same 10 rfl),aL⟩
         ·intro _ a w2 hB hF hd;refine aO <| aD _ _ _ rfl Tryz.call88 _ (args2 ((hd 26 _ rfl (aj rfl)).1) rfl) aR ((Eu (W (k+14)) 6 (HWB.out _ aH) aN _ rfl _).mono ?_);rintro e w3 ⟨rfl,hb⟩;exact⟨_,rfl,⟨rfl,aL⟩,hb⟩
         ·intro _ a w2 hB hF hd;exact aO <| aT (Go.bC.iZ rfl ((hd 25 _ rfl (aj rfl)).1) ((hd 27 _ rfl (aj rfl)).1)) ⟨(congrArg (Value.int .u64) (rfl)),aL⟩
         ·intro _ a w2 hB hF hd;exact aO <| aT (Go.bC.dV rfl ((hd 20 _ rfl (aj rfl)).1) ((hd 28 _ rfl (aj rfl)).1)) ⟨(congrArg (Value.int .u64) (eT)),aL⟩
         ·intro _ a w2 hB hF hd;exact aO <| kI 129 132 1 _ [.int .u64 (Dn (W k) (W (k+1)) (W (k+9)) (W (k+14)))] rfl DY aS aS rfl aN aN (by intro v hv;simp only[List.mem_cons,List.not_mem_nil,or_false] at hv;rcases hv with rfl<;> rfl) (by simp only[zw,List.map_cons,List.map_nil,show a.eval (Operand.tmp 102)=.int .u64 (Dn (W k) (W (k+1)) (W (k+9)) (W (k+14))) from((hd 29 _ rfl (aj rfl)).1)];rfl) aR ⟨trivial,fun _=>(zZ)⟩
        ·intro a wa hB hF hS;obtain⟨x103,Ve⟩:∃x,x=a.tmps.getD 103 undef:=⟨_,rfl⟩
         have agQ:Rd .u64 wa x103 1 (fun _=>Dn (W k) (W (k+1)) (W (k+9)) (W (k+14))):=by rw[Ve];exact(hS 30 _ rfl aN).2 rfl
         have ha:=aP rfl rfl hF [_,_,_,_,_,_,_,_,_,_,_,_,_,_,_,_,_,_,_,_,_,_,_,_,_,_,_,_,_,_,x103] rfl ⟨(hS 0 _ rfl aN).1,(hS 1 _ rfl aN).1,(hS 2 _ rfl aN).1,(hS 3 _ rfl aN).1,(hS 4 _ rfl aN).1,(hS 5 _ rfl aN).1,(hS 6 _ rfl aN).1,(hS 7 _ rfl aN).1,(hS 8 _ rfl aN).1,(hS 9 _ rfl aN).1,(hS 10 _ rfl aN).1,(hS 11 _ rfl aN).1,(hS 12 _ rfl aN).1,(hS 13 _ rfl aN).1,(hS 14 _ rfl aN).1,(hS 15 _ rfl aN).1,(hS 16 _ rfl aN).1,(hS 17 _ rfl aN).1,(hS 18 _ rfl aN).1,(hS 19 _ rfl aN).1,(hS 20 _ rfl aN).1,(hS 21 _ rfl aN).1,(hS 22 _ rfl aN).1,(hS 23 _ rfl aN).1,(hS 24 _ rfl aN).1,(hS 25 _ rfl aN).1,(hS 26 _ rfl aN).1,(hS 27 _ rfl aN).1,(hS 28 _ rfl aN).1,(hS 29 _ rfl aN).1,Ve.symm,trivial⟩;simp only[puts,List.take_succ_cons,List.take_zero,Act.put,dK,dL,dM] at ha;subst ha;change tl _ _ _ (_::_:: []) _ _;clear Ve;clear hS hF;have hOa:=HO9.out.below hB;have hba:=DN.trans (hB.mono hs9);refine vO rfl (kP _ _ 129 rfl wj.heap.size 132 .u64 8 DY Tryz.info132 _ (16+k) W hOa rfl _ 1 _ agQ rfl (fun i hi=>by rw[show 16+k+i=16+k by omega,HWR.out k hkk]) aH aH hba.size ?_);intro v' wb bM bA;refine vP rfl _ (.inr rfl) (Ak ?_);have hbb:=below_grown hba bA hOa hba.size (bB _);clear hB bA hOa hba agQ;go_wp2;go_roundw
         case rel=>first | exact⟨16+k+1,by omega,by go_num,bM,hbb⟩ | ((repeat apply Exists.intro);exact⟨⟨16+k+1,by omega,by go_num,bM,hbb⟩,rfl⟩)
         case measure=>simp[intOf] <;> omega
     ·obtain rfl:t=80:=by omega
      obtain⟨g7,c7,rfl,f1,f2,f3,f4,f5,_⟩:=hO.form aN;have HWc:=ak f5;have HSc:Hid (∀i,i<8->wr.cell? ⟨sb,so+i,none⟩=some (.int .u64 (S i))):=fun i hi=>(hbt.cell (p:=⟨sb,so+i,none⟩) zl).trans (HZC.out i hi);have hsl:sb<wr.heap.size:=zO zl gF;have hkl:gk<wr.heap.size:=zO (Rd.at' HKj.out (i:=0) aN).2 gF;have HKc:Hid (∀i,i<80->wr.cell? ⟨gk,i,none⟩=some (.int .u64 (kK i))):=fun i hi=>by
       have h1:=Rd.at' (HKj.out.below hbt) (i:=i) hi;rw[oD] at h1;exact h1.1
      have z0:wr.cell? ⟨sb,so,none⟩=some (.int .u64 (S 0)):=HSc.out 0 aN;have z1:wr.cell? ⟨sb,so+1,none⟩=some (.int .u64 (S 1)):=HSc.out 1 aN;have z2:wr.cell? ⟨sb,so+2,none⟩=some (.int .u64 (S 2)):=HSc.out 2 aN;have z3:wr.cell? ⟨sb,so+3,none⟩=some (.int .u64 (S 3)):=HSc.out 3 aN;have z4:wr.cell? ⟨sb,so+4,none⟩=some (.int .u64 (S 4)):=HSc.out 4 aN;have z5:wr.cell? ⟨sb,so+5,none⟩=some (.int .u64 (S 5)):=HSc.out 5 aN;have z6:wr.cell? ⟨sb,so+6,none⟩=some (.int .u64 (S 6)):=HSc.out 6 aN;have z7:wr.cell? ⟨sb,so+7,none⟩=some (.int .u64 (S 7)):=HSc.out 7 aN;have acP:=hbw.trans (hbt.mono hbw.size);clear hO f5 HO f1 f4 hbt gF HMj HKj;go_upto_region 26 with(fail);clear z0 z1 z2 z3 z4 z5 z6 z7;obtain⟨wk,hwk⟩:∃wk,wk=wr:=⟨_,rfl⟩
      subst hwk;go_wp2
      go_loopw [11,12,13,14,15,16,17,18,19] (fun a b c d e f g h i wr=> ∃t:Nat,t<=80/\i=.int .i64 (t:Int)/\a=.int .u64 (iM kK W S t 0)/\b=.int .u64 (iM kK W S t 1)/\c=.int .u64 (iM kK W S t 2)/\d=.int .u64 (iM kK W S t 3)/\e=.int .u64 (iM kK W S t 4)/\f=.int .u64 (iM kK W S t 5)/\g=.int .u64 (iM kK W S t 6)/\h=.int .u64 (iM kK W S t 7)/\Below wk.heap.size wk wr) (fun _ _ _ _ _ _ _ _ i _=>80 - (intOf i).toNat)
      case atStart=>exact⟨0,gX _,rfl,rfl,rfl,rfl,rfl,rfl,rfl,rfl,rfl,bT _ _⟩
      case round=>
       obtain⟨t,ht,rfl,rfl,rfl,rfl,rfl,rfl,rfl,rfl,rfl,hbt⟩:=hrel;obtain⟨V,hV⟩:∃V,V=iM kK W S t:=⟨_,rfl⟩
       have KZ:Hid (∀i,i<8->0<=V i/\V i<eF):=by rw[hV];exact yX HS8.out t
       have ZJ:Hid (∀i,Qj V (kK t) (W t) i=iM kK W S (t+1) i):=by rw[hV];exact fun i=>rfl
       have HVE:Hid (V=iM kK W S t):=hV;rw[<-hV];clear hV;have gF:=hbt.size;by_cases hlt:t<80
       ·have HKr:Hid (∀i,i<80->wr.cell? ⟨gk,i,none⟩=some (.int .u64 (kK i))):=fun i hi=>(hbt.cell (p:=⟨gk,i,none⟩) hkl).trans (HKc.out i hi);have HWr:Hid (∀i,i<80->wr.cell? ⟨g7,i,none⟩=some (.int .u64 (W i))):=fun i hi=>(hbt.cell (p:=⟨g7,i,none⟩) f2).trans (HWc.out i hi);have afH:gk<wr.heap.size:=zO hkl gF;have afL:g7<wr.heap.size:=zO f2 gF;go_upto_region 29 with(fail)
        refine aX (n:=259) aS aS aS rfl
         (fun ii vv _=>(match ii with | 0=>vv=.int .u64 (V 7) | 1 | 3 | 6 | 10 | 13=>vv=.int .u64 (V 4) | 2=>vv=.int .u64 (rr (V 4) 14) | 4=>vv=.int .u64 (rr (V 4) 18) | 5=>vv=.int .u64 (x64 (rr (V 4) 14) (rr (V 4) 18)) | 7=>vv=.int .u64 (rr (V 4) 41) | 8=>vv=.int .u64 (Zy (V 4)) | 9=>vv=.int .u64 ((V 7+Zy (V 4)) % eF) | 11=>vv=.int .u64 (V 5) | 12=>vv=.int .u64 (a64 (V 4) (V 5)) | 14=>vv=.int .u64 (eF - 1 - V 4) | 15=>vv=.int .u64 (V 6) | 16=>vv=.int .u64 (a64 (eF - 1 - V 4) (V 6)) | 17=>vv=.int .u64 (Zo (V 4) (V 5) (V 6)) | 18=>vv=.int .u64 (((V 7+Zy (V 4)) % eF+Zo (V 4) (V 5) (V 6)) % eF) | 19=>vv=.slice (some ⟨gk,0,none⟩) 80 ck | 20 | 25=>vv=.int .i64 ((t:Int)) | 21=>vv=.pointer (some ⟨gk,0+t,none⟩) | 22=>vv=.int .u64 (kK t) | 23=>vv=.int .u64 ((((V 7+Zy (V 4)) % eF+Zo (V 4) (V 5) (V 6)) % eF+kK t) % eF) | 24=>vv=.slice (some ⟨g7,0,none⟩) 80 c7 | 26=>vv=.pointer (some ⟨g7,0+t,none⟩) | 27=>vv=.int .u64 (W t) | 28 | 29=>vv=.int .u64 (Qs (V 7) (V 4) (V 5) (V 6) (kK t) (W t)) | _=>True))
         (fun w w'=>Below w.heap.size w w') (fun _ _ h=>h) (fun _ _ _ _ h _=>h) ?_ ?_
        ·refine cB ?_;refine⟨?_,?_,?_,?_,?_,?_,?_,?_,?_,?_,?_,?_,?_,?_,?_,?_,?_,?_,?_,?_,?_,?_,?_,?_,?_,?_,?_,?_,?_,?_,trivial⟩
         ·intro a w2 hB hF hd;exact aO <| aB _ (.inl rfl) aR (hF.same 18 rfl)
         ·intro a w2 hB hF hd;exact aO <| aB _ (.inl rfl) aR (hF.same 15 rfl)
         ·intro a w2 hB hF hd;refine aO <| aD _ _ _ rfl Tryz.call87 _ (args2 (hd 1 _ rfl (aj rfl)) rfl) aR ((jX (V 4) 14 (KZ.out 4 aN) aN _ rfl _).mono ?_);rintro e w3 ⟨rfl,hb⟩;exact⟨_,rfl,rfl,hb⟩
         ·intro a w2 hB hF hd;exact aO <| aB _ (.inl rfl) aR (hF.same 15 rfl)
         ·intro a w2 hB hF hd;refine aO <| aD _ _ _ rfl Tryz.call87 _ (args2 (hd 3 _ rfl (aj rfl)) rfl) aR ((jX (V 4) 18 (KZ.out 4 aN) aN _ rfl _).mono ?_);rintro e w3 ⟨rfl,hb⟩;exact⟨_,rfl,rfl,hb⟩
         ·intro a w2 hB hF hd;exact aO <| aT (Go.bC.iZ rfl (hd 2 _ rfl (aj rfl)) (hd 4 _ rfl (aj rfl))) (congrArg (Value.int .u64) (rfl))
         ·intro a w2 hB hF hd;exact aO <| aB _ (.inl rfl) aR (hF.same 15 rfl)
         ·intro a w2 hB hF hd;refine aO <| aD _ _ _ rfl Tryz.call87 _ (args2 (hd 6 _ rfl (aj rfl)) rfl) aR ((jX (V 4) 41 (KZ.out 4 aN) aN _ rfl _).mono ?_);rintro e w3 ⟨rfl,hb⟩;exact⟨_,rfl,rfl,hb⟩
         ·intro a w2 hB hF hd;exact aO <| aT (Go.bC.iZ rfl (hd 5 _ rfl (aj rfl)) (hd 7 _ rfl (aj rfl))) (congrArg (Value.int .u64) (rfl))
         ·intro a w2 hB hF hd;exact aO <| aT (Go.bC.dV rfl (hd 0 _ rfl (aj rfl)) (hd 8 _ rfl (aj rfl))) (congrArg (Value.int .u64) (eT))
         ·intro a w2 hB hF hd;exact aO <| aB _ (.inl rfl) aR (hF.same 15 rfl)
         ·intro a w2 hB hF hd;exact aO <| aB _ (.inl rfl) aR (hF.same 16 rfl)
         ·intro a w2 hB hF hd;exact aO <| aT (Go.bC.iQ rfl (hd 10 _ rfl (aj rfl)) (hd 11 _ rfl (aj rfl))) (congrArg (Value.int .u64) (rfl))
         ·intro a w2 hB hF hd;exact aO <| aB _ (.inl rfl) aR (hF.same 15 rfl)
         ·intro a w2 hB hF hd;exact aO <| aT (Go.bC.kS rfl rfl (hd 13 _ rfl (aj rfl))) (congrArg (Value.int .u64) (abv (KZ.out 4 aN)))
         ·intro a w2 hB hF hd;exact aO <| aB _ (.inl rfl) aR (hF.same 17 rfl)
         ·intro a w2 hB hF hd;exact aO <| aT (Go.bC.iQ rfl (hd 14 _ rfl (aj rfl)) (hd 15 _ rfl (aj rfl))) (congrArg (Value.int .u64) (rfl))
         ·intro a w2 hB hF hd;exact aO <| aT (Go.bC.iZ rfl (hd 12 _ rfl (aj rfl)) (hd 16 _ rfl (aj rfl))) (congrArg (Value.int .u64) (adB (KZ.out 4 aN) (KZ.out 5 aN) (KZ.out 6 aN)))
         ·intro a w2 hB hF hd;exact aO <| aT (Go.bC.dV rfl (hd 9 _ rfl (aj rfl)) (hd 17 _ rfl (aj rfl))) (congrArg (Value.int .u64) (eT))
         ·intro a w2 hB hF hd;exact aO <| aB _ (.inl rfl) aR (hF.same 3 rfl)
         ·intro a w2 hB hF hd;exact aO <| aB _ (.inl rfl) aR (hF.same 19 rfl)
         ·intro a w2 hB hF hd;exact aO <| aT (dA rfl (hd 19 _ rfl (aj rfl)) (hd 20 _ rfl (aj rfl)) DY aS aH aH) rfl
         ·intro a w2 hB hF hd;exact aO <| aT (aY rfl (hd 21 _ rfl (aj rfl)) rC ((hB.cell (p:=⟨gk,0+t,none⟩) afH).trans (by rw[oD];exact HKr.out t hlt))) rfl
         ·intro a w2 hB hF hd;exact aO <| aT (Go.bC.dV rfl (hd 18 _ rfl (aj rfl)) (hd 22 _ rfl (aj rfl))) (congrArg (Value.int .u64) (eT))
         ·intro a w2 hB hF hd;exact aO <| aB _ (.inl rfl) aR (hF.same 7 rfl)
         ·intro a w2 hB hF hd;exact aO <| aB _ (.inl rfl) aR (hF.same 19 rfl)
         ·intro a w2 hB hF hd;exact aO <| aT (dA rfl (hd 24 _ rfl (aj rfl)) (hd 25 _ rfl (aj rfl)) DY aS aH aH) rfl
         ·intro a w2 hB hF hd;exact aO <| aT (aY rfl (hd 26 _ rfl (aj rfl)) rC ((hB.cell (p:=⟨g7,0+t,none⟩) afL).trans (by rw[oD];exact HWr.out t hlt))) rfl
         ·intro a w2 hB hF hd;exact aO <| aT (Go.bC.dV rfl (hd 23 _ rfl (aj rfl)) (hd 27 _ rfl (aj rfl))) (congrArg (Value.int .u64) (eT))
         ·intro a w2 hB hF hd;exact aO <| aB _ (.inr rfl) aR (hd 28 _ rfl (aj rfl))
        ·intro a w8 hB hF hS;have ha:=aP rfl rfl hF [_,_,_,_,_,_,_,_,_,_,_,_,_,_,_,_,_,_,_,_,_,_,_,_,_,_,_,_,_,_] rfl ⟨hS 0 _ rfl,hS 1 _ rfl,hS 2 _ rfl,hS 3 _ rfl,hS 4 _ rfl,hS 5 _ rfl,hS 6 _ rfl,hS 7 _ rfl,hS 8 _ rfl,hS 9 _ rfl,hS 10 _ rfl,hS 11 _ rfl,hS 12 _ rfl,hS 13 _ rfl,hS 14 _ rfl,hS 15 _ rfl,hS 16 _ rfl,hS 17 _ rfl,hS 18 _ rfl,hS 19 _ rfl,hS 20 _ rfl,hS 21 _ rfl,hS 22 _ rfl,hS 23 _ rfl,hS 24 _ rfl,hS 25 _ rfl,hS 26 _ rfl,hS 27 _ rfl,hS 28 _ rfl,hS 29 _ rfl,trivial⟩;simp only[puts,Act.put,dK,dL,dM] at ha;subst ha;clear hS hF;have Ac:=hbt.trans (hB.mono gF);have hs8:=Ac.size;obtain⟨one,hone⟩:∃one,one=Qs (V 7) (V 4) (V 5) (V 6) (kK t) (W t):=⟨_,rfl⟩
         rw[<-hone];have ahd:=ak hone;clear hB hone HKr HWr afH afL hbt gF;go_upto_region 30 with(fail)
         refine aX (n:=259) aS aS aS rfl
          (fun ii vv _=>(match ii with | 0 | 2 | 5 | 8 | 11=>vv=.int .u64 (V 0) | 1=>vv=.int .u64 (rr (V 0) 28) | 3=>vv=.int .u64 (rr (V 0) 34) | 4=>vv=.int .u64 (x64 (rr (V 0) 28) (rr (V 0) 34)) | 6=>vv=.int .u64 (rr (V 0) 39) | 7=>vv=.int .u64 (S0F (V 0)) | 9 | 15=>vv=.int .u64 (V 1) | 10=>vv=.int .u64 (a64 (V 0) (V 1)) | 12 | 16=>vv=.int .u64 (V 2) | 13=>vv=.int .u64 (a64 (V 0) (V 2)) | 14=>vv=.int .u64 (x64 (a64 (V 0) (V 1)) (a64 (V 0) (V 2))) | 17=>vv=.int .u64 (a64 (V 1) (V 2)) | 18=>vv=.int .u64 (Uq (V 0) (V 1) (V 2)) | 19 | 20=>vv=.int .u64 (SE (V 0) (V 1) (V 2)) | _=>True))
          (fun w w'=>Below w.heap.size w w') (fun _ _ h=>h) (fun _ _ _ _ h _=>h) ?_ ?_
         ·refine cB ?_;refine⟨?_,?_,?_,?_,?_,?_,?_,?_,?_,?_,?_,?_,?_,?_,?_,?_,?_,?_,?_,?_,?_,trivial⟩
          ·intro a w2 hB hF hd;exact aO <| aB _ (.inl rfl) aR (hF.same 11 rfl)
          ·intro a w2 hB hF hd;refine aO <| aD _ _ _ rfl Tryz.call87 _ (args2 (hd 0 _ rfl (aj rfl)) rfl) aR ((jX (V 0) 28 (KZ.out 0 aN) aN _ rfl _).mono ?_);rintro e w3 ⟨rfl,hb⟩;exact⟨_,rfl,rfl,hb⟩
          ·intro a w2 hB hF hd;exact aO <| aB _ (.inl rfl) aR (hF.same 11 rfl)
          ·intro a w2 hB hF hd;refine aO <| aD _ _ _ rfl Tryz.call87 _ (args2 (hd 2 _ rfl (aj rfl)) rfl) aR ((jX (V 0) 34 (KZ.out 0 aN) aN _ rfl _).mono ?_);rintro e w3 ⟨rfl,hb⟩;exact⟨_,rfl,rfl,hb⟩
          ·intro a w2 hB hF hd;exact aO <| aT (Go.bC.iZ rfl (hd 1 _ rfl (aj rfl)) (hd 3 _ rfl (aj rfl))) (congrArg (Value.int .u64) (rfl))
          ·intro a w2 hB hF hd;exact aO <| aB _ (.inl rfl) aR (hF.same 11 rfl)
          ·intro a w2 hB hF hd;refine aO <| aD _ _ _ rfl Tryz.call87 _ (args2 (hd 5 _ rfl (aj rfl)) rfl) aR ((jX (V 0) 39 (KZ.out 0 aN) aN _ rfl _).mono ?_);rintro e w3 ⟨rfl,hb⟩;exact⟨_,rfl,rfl,hb⟩
          ·intro a w2 hB hF hd;exact aO <| aT (Go.bC.iZ rfl (hd 4 _ rfl (aj rfl)) (hd 6 _ rfl (aj rfl))) (congrArg (Value.int .u64) (rfl))
          ·intro a w2 hB hF hd;exact aO <| aB _ (.inl rfl) aR (hF.same 11 rfl)
          ·intro a w2 hB hF hd;exact aO <| aB _ (.inl rfl) aR (hF.same 12 rfl)
          ·intro a w2 hB hF hd;exact aO <| aT (Go.bC.iQ rfl (hd 8 _ rfl (aj rfl)) (hd 9 _ rfl (aj rfl))) (congrArg (Value.int .u64) (rfl))
          ·intro a w2 hB hF hd;exact aO <| aB _ (.inl rfl) aR (hF.same 11 rfl)
          ·intro a w2 hB hF hd;exact aO <| aB _ (.inl rfl) aR (hF.same 13 rfl)
          ·intro a w2 hB hF hd;exact aO <| aT (Go.bC.iQ rfl (hd 11 _ rfl (aj rfl)) (hd 12 _ rfl (aj rfl))) (congrArg (Value.int .u64) (rfl))
          ·intro a w2 hB hF hd;exact aO <| aT (Go.bC.iZ rfl (hd 10 _ rfl (aj rfl)) (hd 13 _ rfl (aj rfl))) (congrArg (Value.int .u64) (rfl))
          ·intro a w2 hB hF hd;exact aO <| aB _ (.inl rfl) aR (hF.same 12 rfl)
          ·intro a w2 hB hF hd;exact aO <| aB _ (.inl rfl) aR (hF.same 13 rfl)
          ·intro a w2 hB hF hd;exact aO <| aT (Go.bC.iQ rfl (hd 15 _ rfl (aj rfl)) (hd 16 _ rfl (aj rfl))) (congrArg (Value.int .u64) (rfl))
          ·intro a w2 hB hF hd;exact aO <| aT (Go.bC.iZ rfl (hd 14 _ rfl (aj rfl)) (hd 17 _ rfl (aj rfl))) (congrArg (Value.int .u64) (YH (KZ.out 0 aN) (KZ.out 1 aN) (KZ.out 2 aN)))
          ·intro a w2 hB hF hd;exact aO <| aT (Go.bC.dV rfl (hd 7 _ rfl (aj rfl)) (hd 18 _ rfl (aj rfl))) (congrArg (Value.int .u64) (eT))
          ·intro a w2 hB hF hd;exact aO <| aB _ (.inr rfl) aR (hd 19 _ rfl (aj rfl))
         ·intro a w9 hB hF hS;have ha:=aP rfl rfl hF [_,_,_,_,_,_,_,_,_,_,_,_,_,_,_,_,_,_,_,_,_] rfl ⟨hS 0 _ rfl,hS 1 _ rfl,hS 2 _ rfl,hS 3 _ rfl,hS 4 _ rfl,hS 5 _ rfl,hS 6 _ rfl,hS 7 _ rfl,hS 8 _ rfl,hS 9 _ rfl,hS 10 _ rfl,hS 11 _ rfl,hS 12 _ rfl,hS 13 _ rfl,hS 14 _ rfl,hS 15 _ rfl,hS 16 _ rfl,hS 17 _ rfl,hS 18 _ rfl,hS 19 _ rfl,hS 20 _ rfl,trivial⟩;simp only[puts,Act.put,dK,dL,dM] at ha;subst ha;clear hS hF;have DN:=Ac.trans (hB.mono hs8);obtain⟨two,MO⟩:∃two,two=SE (V 0) (V 1) (V 2):=⟨_,rfl⟩
          rw[<-MO];have akU:=ak MO;clear hB MO Ac hs8;go_upto_region 34 with(fail)
          refine aX (n:=259) aS aS aS rfl
           (fun ii vv _=>(match ii with | 0=>vv=.int .u64 (V 3) | 1=>vv=.int .u64 (one) | 2 | 3=>vv=.int .u64 ((V 3+one) % eF) | _=>True))
           (fun w w'=>Below w.heap.size w w') (fun _ _ h=>h) (fun _ _ _ _ h _=>h) ?_ ?_
          ·refine cB ?_;refine⟨?_,?_,?_,?_,trivial⟩
           ·intro a w2 hB hF hd;exact aO <| aB _ (.inl rfl) aR (hF.same 14 rfl)
           ·intro a w2 hB hF hd;exact aO <| aB _ (.inl rfl) aR (hF.same 20 rfl)
           ·intro a w2 hB hF hd;exact aO <| aT (Go.bC.dV rfl (hd 0 _ rfl (aj rfl)) (hd 1 _ rfl (aj rfl))) (congrArg (Value.int .u64) (eT))
           ·intro a w2 hB hF hd;exact aO <| aB _ (.inr rfl) aR (hd 2 _ rfl (aj rfl))
          ·intro a wa hB hF hS;have ha:=aP rfl rfl hF [_,_,_,_] rfl ⟨hS 0 _ rfl,hS 1 _ rfl,hS 2 _ rfl,hS 3 _ rfl,trivial⟩;simp only[puts,Act.put,dK,dL,dM] at ha;subst ha;clear hS hF;have hba:=DN.trans (hB.mono DN.size);obtain⟨ne,gB⟩:∃ne,ne=(V 3+one) % eF:=⟨_,rfl⟩
           rw[<-gB];have HNE:=ak gB;clear hB gB DN;go_upto_region 38 with(fail)
           refine aX (n:=259) aS aS aS rfl
            (fun ii vv _=>(match ii with | 0=>vv=.int .u64 (one) | 1=>vv=.int .u64 (two) | 2 | 3=>vv=.int .u64 ((one+two) % eF) | _=>True))
            (fun w w'=>Below w.heap.size w w') (fun _ _ h=>h) (fun _ _ _ _ h _=>h) ?_ ?_
           ·refine cB ?_;refine⟨?_,?_,?_,?_,trivial⟩
            ·intro a w2 hB hF hd;exact aO <| aB _ (.inl rfl) aR (hF.same 20 rfl)
            ·intro a w2 hB hF hd;exact aO <| aB _ (.inl rfl) aR (hF.same 21 rfl)
            ·intro a w2 hB hF hd;exact aO <| aT (Go.bC.dV rfl (hd 0 _ rfl (aj rfl)) (hd 1 _ rfl (aj rfl))) (congrArg (Value.int .u64) (eT))
            ·intro a w2 hB hF hd;exact aO <| aB _ (.inr rfl) aR (hd 2 _ rfl (aj rfl))
           ·intro a wb hB hF hS;have ha:=aP rfl rfl hF [_,_,_,_] rfl ⟨hS 0 _ rfl,hS 1 _ rfl,hS 2 _ rfl,hS 3 _ rfl,trivial⟩;simp only[puts,Act.put,dK,dL,dM] at ha;subst ha;clear hS hF;have hbb:=hba.trans (hB.mono hba.size);obtain⟨na,hna⟩:∃na,na=(one+two) % eF:=⟨_,rfl⟩
            rw[<-hna];have HNA:=ak hna;clear hB hna hba;go_wp2;go_roundw
            case rel=>
             have r0:Value.int .u64 na=.int .u64 (iM kK W S (t+1) 0):=congrArg (Value.int .u64) (by rw[<-ZJ.out 0,HNA.out,ahd.out,akU.out];rfl);have r1:Value.int .u64 (V 0)=.int .u64 (iM kK W S (t+1) 1):=congrArg (Value.int .u64) (by rw[<-ZJ.out 1];rfl);have r2:Value.int .u64 (V 1)=.int .u64 (iM kK W S (t+1) 2):=congrArg (Value.int .u64) (by rw[<-ZJ.out 2];rfl);have r3:Value.int .u64 (V 2)=.int .u64 (iM kK W S (t+1) 3):=congrArg (Value.int .u64) (by rw[<-ZJ.out 3];rfl);have r4:Value.int .u64 ne=.int .u64 (iM kK W S (t+1) 4):=congrArg (Value.int .u64) (by rw[<-ZJ.out 4,HNE.out,ahd.out];rfl);have r5:Value.int .u64 (V 4)=.int .u64 (iM kK W S (t+1) 5):=congrArg (Value.int .u64) (by rw[<-ZJ.out 5];rfl);have r6:Value.int .u64 (V 5)=.int .u64 (iM kK W S (t+1) 6):=congrArg (Value.int .u64) (by rw[<-ZJ.out 6];rfl);have r7:Value.int .u64 (V 6)=.int .u64 (iM kK W S (t+1) 7):=congrArg (Value.int .u64) (by rw[<-ZJ.out 7];rfl)
             first | exact⟨t+1,by omega,by go_num,r0,r1,r2,r3,r4,r5,r6,r7,hbb⟩ | ((repeat apply Exists.intro);exact⟨⟨t+1,by omega,by go_num,r0,r1,r2,r3,r4,r5,r6,r7,hbb⟩,rfl⟩)
            case measure=>simp[intOf] <;> omega
       ·obtain rfl:t=80:=by omega
        have HSr:Hid (∀i,i<8->wr.cell? ⟨sb,so+i,none⟩=some (.int .u64 (S i))):=fun i hi=>(hbt.cell (p:=⟨sb,so+i,none⟩) hsl).trans (HSc.out i hi);have hsl2:sb<wr.heap.size:=zO hsl gF;have HGV:Hid (∀i,(S i+V i) % eF=G i):=by rw[HVE.out];exact HG.out
        have afU:=acP.trans (hbt.mono acP.size);clear hbt gF acP ZJ HKc HWc HSc;go_upto_region 39 with(fail)
        refine lZ (n:=259) 41 aN aS aS aS aS rfl
         (fun ii vv ww=>(match ii with | 0 | 5 | 10 | 15 | 20 | 25 | 30 | 35=>vv=.slice (some ⟨sb,so,none⟩) 8 sc | 1=>vv=.pointer (some ⟨sb,so+0,none⟩) | 2=>vv=.int .u64 (S 0) | 3=>vv=.int .u64 (V 0) | 4=>vv=.int .u64 ((S 0+V 0) % eF) | 6=>vv=.pointer (some ⟨sb,so+1,none⟩) | 7=>vv=.int .u64 (S 1) | 8=>vv=.int .u64 (V 1) | 9=>vv=.int .u64 ((S 1+V 1) % eF) | 11=>vv=.pointer (some ⟨sb,so+2,none⟩) | 12=>vv=.int .u64 (S 2) | 13=>vv=.int .u64 (V 2) | 14=>vv=.int .u64 ((S 2+V 2) % eF) | 16=>vv=.pointer (some ⟨sb,so+3,none⟩) | 17=>vv=.int .u64 (S 3) | 18=>vv=.int .u64 (V 3) | 19=>vv=.int .u64 ((S 3+V 3) % eF) | 21=>vv=.pointer (some ⟨sb,so+4,none⟩) | 22=>vv=.int .u64 (S 4) | 23=>vv=.int .u64 (V 4) | 24=>vv=.int .u64 ((S 4+V 4) % eF) | 26=>vv=.pointer (some ⟨sb,so+5,none⟩) | 27=>vv=.int .u64 (S 5) | 28=>vv=.int .u64 (V 5) | 29=>vv=.int .u64 ((S 5+V 5) % eF) | 31=>vv=.pointer (some ⟨sb,so+6,none⟩) | 32=>vv=.int .u64 (S 6) | 33=>vv=.int .u64 (V 6) | 34=>vv=.int .u64 ((S 6+V 6) % eF) | 36=>vv=.pointer (some ⟨sb,so+7,none⟩) | 37=>vv=.int .u64 (S 7) | 38=>vv=.int .u64 (V 7) | 39=>vv=.int .u64 ((S 7+V 7) % eF) | _=>True)/\(ii=40->Rd .u64 ww vv 8 (fun i=>(S i+V i) % eF)))
         (fun i v w w' h hE=>⟨h.1,fun e=>Rd.below (h.2 e) hE⟩) ?_ ?_
        ·refine cB ?_;refine⟨?_,?_,?_,?_,?_,?_,?_,?_,?_,?_,?_,?_,?_,?_,?_,?_,?_,?_,?_,?_,?_,?_,?_,?_,?_,?_,?_,?_,?_,?_,?_,?_,?_,?_,?_,?_,?_,?_,?_,?_,?_,(aL),trivial⟩
         ·intro _ a w2 hB hF hd;exact aO <| aB _ (.inl rfl) aR ⟨(hF.same 5 rfl),aL⟩
         ·intro _ a w2 hB hF hd;exact aO <| aT (dA rfl ((hd 0 _ rfl (aj rfl)).1) rfl DY aS aH aH) ⟨rfl,aL⟩
         ·intro _ a w2 hB hF hd;exact aO <| aT (aY rfl ((hd 1 _ rfl (aj rfl)).1) rC ((hB.cell (p:=⟨sb,so+0,none⟩) hsl2).trans (HSr.out 0 aN))) ⟨rfl,aL⟩
         ·intro _ a w2 hB hF hd;exact aO <| aB _ (.inl rfl) aR ⟨(hF.same 11 rfl),aL⟩
         ·intro _ a w2 hB hF hd;exact aO <| aT (Go.bC.dV rfl ((hd 2 _ rfl (aj rfl)).1) ((hd 3 _ rfl (aj rfl)).1)) ⟨(congrArg (Value.int .u64) (eT)),aL⟩
         ·intro _ a w2 hB hF hd;exact aO <| aB _ (.inl rfl) aR ⟨(hF.same 5 rfl),aL⟩
         ·intro _ a w2 hB hF hd;exact aO <| aT (dA rfl ((hd 5 _ rfl (aj rfl)).1) rfl DY aS aH aH) ⟨rfl,aL⟩
         ·intro _ a w2 hB hF hd;exact aO <| aT (aY rfl ((hd 6 _ rfl (aj rfl)).1) rC ((hB.cell (p:=⟨sb,so+1,none⟩) hsl2).trans (HSr.out 1 aN))) ⟨rfl,aL⟩
         ·intro _ a w2 hB hF hd;exact aO <| aB _ (.inl rfl) aR ⟨(hF.same 12 rfl),aL⟩
         ·intro _ a w2 hB hF hd;exact aO <| aT (Go.bC.dV rfl ((hd 7 _ rfl (aj rfl)).1) ((hd 8 _ rfl (aj rfl)).1)) ⟨(congrArg (Value.int .u64) (eT)),aL⟩
         ·intro _ a w2 hB hF hd;exact aO <| aB _ (.inl rfl) aR ⟨(hF.same 5 rfl),aL⟩
         ·intro _ a w2 hB hF hd;exact aO <| aT (dA rfl ((hd 10 _ rfl (aj rfl)).1) rfl DY aS aH aH) ⟨rfl,aL⟩
         ·intro _ a w2 hB hF hd;exact aO <| aT (aY rfl ((hd 11 _ rfl (aj rfl)).1) rC ((hB.cell (p:=⟨sb,so+2,none⟩) hsl2).trans (HSr.out 2 aN))) ⟨rfl,aL⟩
         ·intro _ a w2 hB hF hd;exact aO <| aB _ (.inl rfl) aR ⟨(hF.same 13 rfl),aL⟩
         ·intro _ a w2 hB hF hd;exact aO <| aT (Go.bC.dV rfl ((hd 12 _ rfl (aj rfl)).1) ((hd 13 _ rfl (aj rfl)).1)) ⟨(congrArg (Value.int .u64) (eT)),aL⟩
         ·intro _ a w2 hB hF hd;exact aO <| aB _ (.inl rfl) aR ⟨(hF.same 5 rfl),aL⟩
         ·intro _ a w2 hB hF hd;exact aO <| aT (dA rfl ((hd 15 _ rfl (aj rfl)).1) rfl DY aS aH aH) ⟨rfl,aL⟩
         ·intro _ a w2 hB hF hd;exact aO <| aT (aY rfl ((hd 16 _ rfl (aj rfl)).1) rC ((hB.cell (p:=⟨sb,so+3,none⟩) hsl2).trans (HSr.out 3 aN))) ⟨rfl,aL⟩
         ·intro _ a w2 hB hF hd;exact aO <| aB _ (.inl rfl) aR ⟨(hF.same 14 rfl),aL⟩
         ·intro _ a w2 hB hF hd;exact aO <| aT (Go.bC.dV rfl ((hd 17 _ rfl (aj rfl)).1) ((hd 18 _ rfl (aj rfl)).1)) ⟨(congrArg (Value.int .u64) (eT)),aL⟩
         ·intro _ a w2 hB hF hd;exact aO <| aB _ (.inl rfl) aR ⟨(hF.same 5 rfl),aL⟩
         ·intro _ a w2 hB hF hd;exact aO <| aT (dA rfl ((hd 20 _ rfl (aj rfl)).1) rfl DY aS aH aH) ⟨rfl,aL⟩
         ·intro _ a w2 hB hF hd;exact aO <| aT (aY rfl ((hd 21 _ rfl (aj rfl)).1) rC ((hB.cell (p:=⟨sb,so+4,none⟩) hsl2).trans (HSr.out 4 aN))) ⟨rfl,aL⟩
         ·intro _ a w2 hB hF hd;exact aO <| aB _ (.inl rfl) aR ⟨(hF.same 15 rfl),aL⟩
         ·intro _ a w2 hB hF hd;exact aO <| aT (Go.bC.dV rfl ((hd 22 _ rfl (aj rfl)).1) ((hd 23 _ rfl (aj rfl)).1)) ⟨(congrArg (Value.int .u64) (eT)),aL⟩
         ·intro _ a w2 hB hF hd;exact aO <| aB _ (.inl rfl) aR ⟨(hF.same 5 rfl),aL⟩
         ·intro _ a w2 hB hF hd;exact aO <| aT (dA rfl ((hd 25 _ rfl (aj rfl)).1) rfl DY aS aH aH) ⟨rfl,aL⟩
         ·intro _ a w2 hB hF hd;exact aO <| aT (aY rfl ((hd 26 _ rfl (aj rfl)).1) rC ((hB.cell (p:=⟨sb,so+5,none⟩) hsl2).trans (HSr.out 5 aN))) ⟨rfl,aL⟩
         ·intro _ a w2 hB hF hd;exact aO <| aB _ (.inl rfl) aR ⟨(hF.same 16 rfl),aL⟩
         ·intro _ a w2 hB hF hd;exact aO <| aT (Go.bC.dV rfl ((hd 27 _ rfl (aj rfl)).1) ((hd 28 _ rfl (aj rfl)).1)) ⟨(congrArg (Value.int .u64) (eT)),aL⟩
         ·intro _ a w2 hB hF hd;exact aO <| aB _ (.inl rfl) aR ⟨(hF.same 5 rfl),aL⟩
         ·intro _ a w2 hB hF hd;exact aO <| aT (dA rfl ((hd 30 _ rfl (aj rfl)).1) rfl DY aS aH aH) ⟨rfl,aL⟩
         ·intro _ a w2 hB hF hd;exact aO <| aT (aY rfl ((hd 31 _ rfl (aj rfl)).1) rC ((hB.cell (p:=⟨sb,so+6,none⟩) hsl2).trans (HSr.out 6 aN))) ⟨rfl,aL⟩
         ·intro _ a w2 hB hF hd;exact aO <| aB _ (.inl rfl) aR ⟨(hF.same 17 rfl),aL⟩
         ·intro _ a w2 hB hF hd;exact aO <| aT (Go.bC.dV rfl ((hd 32 _ rfl (aj rfl)).1) ((hd 33 _ rfl (aj rfl)).1)) ⟨(congrArg (Value.int .u64) (eT)),aL⟩
         ·intro _ a w2 hB hF hd;exact aO <| aB _ (.inl rfl) aR ⟨(hF.same 5 rfl),aL⟩
         ·intro _ a w2 hB hF hd;exact aO <| aT (dA rfl ((hd 35 _ rfl (aj rfl)).1) rfl DY aS aH aH) ⟨rfl,aL⟩
         ·intro _ a w2 hB hF hd;exact aO <| aT (aY rfl ((hd 36 _ rfl (aj rfl)).1) rC ((hB.cell (p:=⟨sb,so+7,none⟩) hsl2).trans (HSr.out 7 aN))) ⟨rfl,aL⟩
         ·intro _ a w2 hB hF hd;exact aO <| aB _ (.inl rfl) aR ⟨(hF.same 18 rfl),aL⟩
         ·intro _ a w2 hB hF hd;exact aO <| aT (Go.bC.dV rfl ((hd 37 _ rfl (aj rfl)).1) ((hd 38 _ rfl (aj rfl)).1)) ⟨(congrArg (Value.int .u64) (eT)),aL⟩
         ·intro _ a w2 hB hF hd;exact aO <| kI 129 132 8 _ [.int .u64 ((S 0+V 0) % eF),.int .u64 ((S 1+V 1) % eF),.int .u64 ((S 2+V 2) % eF),.int .u64 ((S 3+V 3) % eF),.int .u64 ((S 4+V 4) % eF),.int .u64 ((S 5+V 5) % eF),.int .u64 ((S 6+V 6) % eF),.int .u64 ((S 7+V 7) % eF)] rfl DY aS aS rfl aN aN (by intro v hv;simp only[List.mem_cons,List.not_mem_nil,or_false] at hv;rcases hv with rfl | rfl | rfl | rfl | rfl | rfl | rfl | rfl<;> rfl) (by simp only[zw,List.map_cons,List.map_nil,show a.eval (Operand.tmp 198)=.int .u64 ((S 0+V 0) % eF) from((hd 4 _ rfl (aj rfl)).1),show a.eval (Operand.tmp 203)=.int .u64 ((S 1+V 1) % eF) from((hd 9 _ rfl (aj rfl)).1),show a.eval (Operand.tmp 208)=.int .u64 ((S 2+V 2) % eF) from((hd 14 _ rfl (aj rfl)).1),show a.eval (Operand.tmp 213)=.int .u64 ((S 3+V 3) % eF) from((hd 19 _ rfl (aj rfl)).1),show a.eval (Operand.tmp 218)=.int .u64 ((S 4+V 4) % eF) from((hd 24 _ rfl (aj rfl)).1),show a.eval (Operand.tmp 223)=.int .u64 ((S 5+V 5) % eF) from((hd 29 _ rfl (aj rfl)).1),show a.eval (Operand.tmp 228)=.int .u64 ((S 6+V 6) % eF) from((hd 34 _ rfl (aj rfl)).1),show a.eval (Operand.tmp 233)=.int .u64 ((S 7+V 7) % eF) from((hd 39 _ rfl (aj rfl)).1)];rfl) aR ⟨trivial,fun _=>(YM (f:=fun i=>(S i+V i) % eF))⟩
        ·intro a w8 hB hF hS;obtain⟨aeI,Va⟩:∃x,x=a.tmps.getD 234 undef:=⟨_,rfl⟩
         have akN:Rd .u64 w8 aeI 8 (fun i=>(S i+V i) % eF):=by rw[Va];exact(hS 40 _ rfl aN).2 rfl
         have ha:=aP rfl rfl hF [_,_,_,_,_,_,_,_,_,_,_,_,_,_,_,_,_,_,_,_,_,_,_,_,_,_,_,_,_,_,_,_,_,_,_,_,_,_,_,_,aeI] rfl ⟨(hS 0 _ rfl aN).1,(hS 1 _ rfl aN).1,(hS 2 _ rfl aN).1,(hS 3 _ rfl aN).1,(hS 4 _ rfl aN).1,(hS 5 _ rfl aN).1,(hS 6 _ rfl aN).1,(hS 7 _ rfl aN).1,(hS 8 _ rfl aN).1,(hS 9 _ rfl aN).1,(hS 10 _ rfl aN).1,(hS 11 _ rfl aN).1,(hS 12 _ rfl aN).1,(hS 13 _ rfl aN).1,(hS 14 _ rfl aN).1,(hS 15 _ rfl aN).1,(hS 16 _ rfl aN).1,(hS 17 _ rfl aN).1,(hS 18 _ rfl aN).1,(hS 19 _ rfl aN).1,(hS 20 _ rfl aN).1,(hS 21 _ rfl aN).1,(hS 22 _ rfl aN).1,(hS 23 _ rfl aN).1,(hS 24 _ rfl aN).1,(hS 25 _ rfl aN).1,(hS 26 _ rfl aN).1,(hS 27 _ rfl aN).1,(hS 28 _ rfl aN).1,(hS 29 _ rfl aN).1,(hS 30 _ rfl aN).1,(hS 31 _ rfl aN).1,(hS 32 _ rfl aN).1,(hS 33 _ rfl aN).1,(hS 34 _ rfl aN).1,(hS 35 _ rfl aN).1,(hS 36 _ rfl aN).1,(hS 37 _ rfl aN).1,(hS 38 _ rfl aN).1,(hS 39 _ rfl aN).1,Va.symm,trivial⟩;simp only[puts,List.take_succ_cons,List.take_zero,Act.put,dK,dL,dM] at ha;subst ha;change tl _ _ _ (_:: []) _ _;clear Va;clear hS hF;refine vP rfl _ (.inr rfl) (Ak ?_);have Ac:=afU.trans (hB.mono afU.size);have hS8:=akN.congr (g:=fZ F (j+1)) (fun i _=>by rw[<-HGE.out];exact HGV.out i);clear hB;go_wp2;go_roundw
         case rel=>first | exact⟨j+1,by omega,congrArg (Value.int .i64) (by have:=HJ.out;omega),hS8,Ac⟩ | ((repeat apply Exists.intro);exact⟨⟨j+1,by omega,congrArg (Value.int .i64) (by have:=HJ.out;omega),hS8,Ac⟩,rfl⟩)
         case measure=>simp[intOf] <;> omega
  ·obtain rfl:j=NB:=by omega
   obtain⟨sa,sc,rfl,z1,z2,_,z4⟩:=id hS;obtain⟨sb,so,rfl,zl,zc⟩:=z4 aN;have HEQ:Hid (((128 * j:Nat):Int)=(N:Int)):=by have:=NW.out.2;unfold Hid;omega
   have hge:¬ ((128 * j:Nat):Int)<(N:Int):=by rw[HEQ.out];omega
   have HZC:=ak zc;have Zc:=sW.kept hbw;have Vo:=iw.trans (hbw.mono iw.size);clear zc z4 hS hbw;go_upto_region 41 with(fail);refine aJ (fun w1=>aQ .u8 w1 wr.heap.size 64 (fun _=>0)/\FE w sb so (fZ F j) w1) ⟨bU rfl (by rfl),Zc.alloc _,fun i hi=>(Below.cell ((bT wr.heap.size wr).alloc (bB _) _) (p:=⟨sb,so+i,none⟩) zl).trans (HZC.out i hi),Vo.alloc Vo.size _⟩ ?_;rintro w1 ⟨mU,fQ⟩;obtain⟨bO,hbO⟩:∃bO,bO=wr.heap.size:=⟨_,rfl⟩
   have o1:w.heap.size<bO:=by rw[hbO];exact Zc.lt
   have o2:sb<bO:=by rw[hbO];exact zl
   obtain⟨S,hSS⟩:∃S,S=fZ F j:=⟨_,rfl⟩
   have HS8:Hid (∀i,i<8->0<=S i/\S i<eF):=by rw[hSS];exact oO F j
   rw[<-hSS] at uq fQ;rw[<-hbO] at mU ⊢;clear hSS hbO HZC Zc Vo zl;go_wp2
   go_loopw [23] (fun i wx=> ∃m:Nat,m<=8/\i=.int .i64 (m:Int)/\aQ .u8 wx bO 64 (upto (8 * m) SB (fun _=>0))/\FE w sb so S wx) (fun i _=>8 - (intOf i).toNat)
   case atStart=>exact⟨0,gX _,rfl,by rw[Nat.mul_zero,dH];exact mU,fQ⟩
   case round=>
    clear mU fQ;obtain⟨m,hm,rfl,hA,hR⟩:=hrel;by_cases hlt:m<8
    ·obtain⟨x,hx⟩:∃x,x=S m:=⟨_,rfl⟩
     have x0:=HS8.out m hlt;rw[<-hx] at x0;have HX:=ak hx;obtain⟨x0,x1⟩:=x0;unfold eF at x1;obtain⟨wy,hwy⟩:∃wy,wy=wr:=⟨_,rfl⟩
     subst hwy;clear hx;go_wp2
     go_loopw [24,25] (fun s i wz=> ∃(k:Nat) (p:Int),k<=8/\i=.int .i64 (k:Int)/\s=.int .u64 p/\Hid (p=72057594037927936 / 256 ^ k)/\0<=p/\p<=72057594037927936/\aQ .u8 wz bO 64 (upto (8 * m+k) SB (fun _=>0))/\FE w sb so S wz) (fun _ i _=>8 - (intOf i).toNat)
     case atStart=>exact⟨0,_,gX _,rfl,rfl,by unfold Hid;rfl,by decide,by decide,hA,hR⟩
     case round=>
      clear hA hR;obtain⟨k,p,hk,rfl,rfl,hp,p0,p1,hA,hR⟩:=hrel;by_cases hlt2:k<8
      ·have hc:wr.cell? ⟨sb,so+m,none⟩=some (.int .u64 x):=by rw[HX.out];exact hR.2.1 m hlt
       have hc2:=hA.cell (8 * m+k) aH;have hf2:=hA.free (8 * m+k);have HA:=ak hA;have HR:=ak hR;have hp2:Hid (p=2 ^ (8 * (7 - k))):=by unfold Hid;rw[hp.out,Ju hlt2]
       have pp:0<p:=by rw[hp2.out];exact Int.pow_pos aN
       obtain⟨q,hq⟩:∃q,q=x / p:=⟨_,rfl⟩
       have hqt:x.tdiv p=q:=by rw[Pg x0,hq]
       have hqd:x / p=q:=hq.symm;have q0:0<=q:=by rw[hq];exact Int.ediv_nonneg x0 p0
       have q1:q<=x:=by rw[hq];exact Int.ediv_le_self _ x0
       have hpt:p.tdiv 256=p / 256:=Pg p0;have HFK:Hid (q % 256=SB (8 * m+k)):=by
        unfold Hid;rw[<-uq.out,hq,hp2.out,HX.out,show (8 * m+k) / 8=m by omega,show (8 * m+k) % 8=k by omega]
       have HPN:Hid (p / 256=72057594037927936 / 256 ^ (k+1)):=by unfold Hid;rw[hp.out,AQ]
       clear hq hA hR;go_wp2;go_roundw
       case rel=>exact⟨k+1,_,by omega,by go_num,rfl,HPN,by omega,by omega,by rw[show 8 * m+(k+1)=8 * m+k+1 from rfl,←bW (j:=8 * m+k) (x:=q % 256) HFK.out];exact HA.out.set _ _,HR.out.set o1 o2 _ _⟩
       case measure=>simp[intOf] <;> omega
      ·obtain rfl:k=8:=by omega
       go_wp2;go_roundw
       case rel=>exact⟨m+1,by omega,by go_num,hA,hR⟩
       case measure=>simp[intOf] <;> omega
    ·obtain rfl:m=8:=by omega
     have iK:aQ .u8 wr bO 64 SB:=hA.congr (dQ SB _ (bB _));obtain⟨hZ,_,aA⟩:=hR;clear hA
     go_wp2_with (first
      | (refine bq rfl 47 _ rfl .u8 bO 64 SB 5 FD zy rfl iK ?_)
      | (refine aM rfl 47 _ _ rfl .u8 w.heap.size 64 (fun _=>0) SB zy rfl rfl hZ ?_))
     exact bodyPost_ret (bg rfl _ _ .u8 w.heap.size 64 _ 5 rfl (hZ.setRow 64 SB) FD zy) rfl ⟨rfl,aC aA (bB _) _⟩
end Go.Proofs.YtpcjekgfnfjbpaaGreat
