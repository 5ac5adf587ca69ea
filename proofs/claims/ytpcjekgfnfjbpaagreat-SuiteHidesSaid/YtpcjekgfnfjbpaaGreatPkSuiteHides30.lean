/-
  Part 30 of SuiteHides. Conditions: named in each theorem.
-/
import Derived.Test.YtpcjekgfnfjbpaaGreatPkSuiteHides29
import Derived.Test.YtpcjekgfnfjbpaaGreatPkSuiteHides6
set_option linter.unusedVariables false
set_option linter.unusedSimpArgs false
set_option maxRecDepth 100000
set_option maxHeartbeats 12800000
namespace Go.aQ
open Go.RowKit
theorem RX (m:Nat->Int) {k:Nat} (h:k<64):jF m 64 (16+k)=Bo (jF m 64 k) (jF m 64 (k+1)) (jF m 64 (k+9)) (jF m 64 (k+14)):=by
 have e:∀i,i<16+k->jF m 64 i=jF m k i:=fun i hi=> by
  have:=qK m k (64 - k) i hi
  rwa [show k+(64 - k)=64 by omega] at this
 have e1:jF m 64 (16+k)=jF m (k+1) (16+k):=by
  have:=qK m (k+1) (64 - (k+1)) (16+k) (by omega)
  rwa [show k+1+(64 - (k+1))=64 by omega] at this
 rw [e1,jF,upd,if_pos rfl,e k (by omega),e (k+1) (by omega),e (k+9) (by omega),e (k+14) (by omega)]
theorem OQ (m:Nat->Int) {t:Nat} (h:t<16):jF m 64 t=m t:=by
 have:=qK m 0 64 t (by omega)
 simpa [jF] using this
theorem Yc {k:IntKind} {w:World} {T:TypeId} {f:Nat->Int}:Rd k (w.alloc (.cells [Value.int k (f 0),.int k (f 1),.int k (f 2),.int k (f 3),.int k (f 4),.int k (f 5),.int k (f 6),.int k (f 7)].toArray T)) (.slice (some ⟨w.heap.size,0,none⟩) 8 8) 8 f:=
 LA rfl (by decide) fun i hi=> by
  rcases (by omega:i=0\/i=1\/i=2\/i=3\/i=4\/i=5\/i=6\/i=7) with rfl | rfl | rfl | rfl | rfl | rfl | rfl | rfl<;> rfl
theorem Rd.at' {k:IntKind} {w:World} {b o n c:Nat} {f:Nat->Int} (h:Rd k w (.slice (some ⟨b,o,none⟩) n c) n f) {i:Nat} (hi:i<n):w.cell? ⟨b,o+i,none⟩=some (.int k (f i))/\b<w.heap.size:=by
 obtain ⟨a,c',he,_,_,_,h4⟩:=h;obtain ⟨b',o',rfl,hb,hc⟩:=h4 (by omega);simp only [Value.slice.injEq,Option.some.injEq,Addr.mk.injEq,and_true,true_and] at he;obtain ⟨⟨rfl,rfl⟩,_⟩:=he;exact ⟨hc i hi,hb⟩
def Dw (w0:World) (sb so:Nat) (T:Nat->Int) (w:World):Prop:=
 aD .u8 w w0.heap.size 64 (fun _=> 0)/\(∀i,i<8->w.cell? ⟨sb,so+i,none⟩=some (.int .u64 (T i)))/\Below w0.heap.size w0 w
theorem Dw.set {w0 w:World} {sb so bO:Nat} {T:Nat->Int} (h:Dw w0 sb so T w) (h1:w0.heap.size<bO) (h2:sb<bO) (i:Nat) (v:Value):Dw w0 sb so T (w.setCell ⟨bO,i,none⟩ v):=
 ⟨h.1.other (by show w0.heap.size≠bO;omega) _,fun j hj=> (World.cell?_of_block (heap_setCell_other w ⟨bO,i,none⟩ sb v (by show sb≠bO;omega))).trans (h.2.1 j hj),h.2.2.setCell (by show w0.heap.size<=bO;omega) _⟩
theorem aaw {x:Int} (h:0<=x/\x<cO):IntKind.u64.wrap (18446744073709551615 - x)=cO - 1 - x:=by
 have:cO=18446744073709551616:=rfl;rw [qz (by omega) (by omega)];omega
end Go.aQ
namespace Go.Proofs.YtpcjekgfnfjbpaaGreat
open Go.RowKit Go.aQ
attribute [local go_sem ↓] Go.wp_at_zero Go.wp_at_succ
theorem zB (v:Value) (n:Nat) (f:Nat->Int) (w:World) (hv:Rd .u8 w v n f) (hn2:n<=1000000) (hf:∀i,i<n->0<=f i/\f i<256):
  Calls Tryz.prog 32 #[v] w fun e w'=> e=.returned (.agg (arr .u8 64 (kr n f)))/\Below w.heap.size w w':=by
 obtain ⟨F,Ad⟩:∃F,F=EC n f:=⟨_,rfl⟩
 have HF:Hid (∀i,0<=F i/\F i<256):=by rw [Ad];exact zR hf
 have HLO:Hid (∀i,i<n->F (0+i)=f i):=by rw [Ad];exact fun i hi=> by rw [lH];exact Nz hi
 have HHI:Hid (∀i,i<vY n->F (n+i)=pO n i):=by rw [Ad];exact fun i _=> NA i
 obtain ⟨N,hN⟩:∃N,N=Lp n:=⟨_,rfl⟩
 have Dz:Hid (n+vY n=N):=by rw [hN];exact rfl
 obtain ⟨NB,hNB⟩:∃NB,NB=N / 128:=⟨_,rfl⟩
 have Wj:Hid (N<=1000200/\N=128 * NB):=by
  have:=Tf n;rw [<-hN] at this;refine ⟨by rw [hN];unfold Lp vY xV;omega,by omega⟩
 have vN:Hid (∀i,dQ F NB (i / 8) / 2 ^ (8 * (7 - i % 8)) % 256=kr n f i):=by rw [hNB,Ad,hN];exact fun i=> rfl
 obtain ⟨SB,ZA⟩:∃SB,SB=kr n f:=⟨_,rfl⟩
 rw [<-ZA] at vN ⊢;have HV:=ak hv;obtain ⟨va,vc,rfl,v1,v2,v3,v4⟩:=hv;clear Ad hN hNB ZA hf v3 v4
 go_enter Tryz.func32,Tryz.ntmps32
 go_upto_region 1 with (fail);refine aC (fun w1=> aD .u8 w1 w.heap.size 64 (fun _=> 0)/\Below w.heap.size w w1/\w1.heap.size=w.heap.size+1) ⟨bg rfl (by rfl),(bA _ _).alloc (aP _) _,by simp⟩ ?_;rintro w1 ⟨hZ,hbel,hs⟩;go_wp2_with fail;refine (Rx _).mono ?_;rintro e w2 ⟨vk,rfl,hK,hb2⟩;have hZ2:=hZ.kept hb2;have bq:=hbel.trans (hb2.mono hbel.size);have HK2:=ak hK.rd;obtain ⟨gk,ck,rfl,k1,k2,k3,k4,_,_⟩:=hK.form (by decide);have Om:=ak (HV.out.below bq);have s2:=hb2.size;clear hZ hbel hb2 hK;go_upto_region 4 with (at_builtin;refine dh rfl _ _ 23 rfl w2.heap.size 5 .u8 1 fQ iW _ 0 F (Go.aQ.Own.nil _ _ _ _ _) rfl _ n f Om.out rfl HLO.out (by omega) (by omega) (aP _) ?_;intro v3 w3 hown3 ES);have hb3:Below w2.heap.size w2 w3:=below_grown (bA w2.heap.size w2) ES (Go.aQ.Own.nil .u8 5 w2.heap.size w2 F) (aP _) (aP _);rw [lH] at hown3;have JV:=ak hown3;have s3:=hb3.size;clear hown3 ES;go_wp2_with fail;refine (Sw n (by omega) _).mono ?_;rintro e w4 ⟨p,rfl,hp,hb4⟩;have Bb:=ak (JV.out.below hb4);have HP4:=ak hp.rd;have acj:=hb3.trans (hb4.mono s3);have s4:=acj.size;clear hp hb3 hb4 JV;go_upto_region 5 with (at_builtin;refine dh rfl _ _ 23 rfl w2.heap.size 5 .u8 1 fQ iW _ n F Bb.out rfl _ (vY n) _ HP4.out rfl HHI.out (by have:=Dz.out;have:=Wj.out.1;omega) (by have:=Dz.out;have:=Wj.out.1;omega) s4 ?_;intro v5 w5 hown5 hgr5);have aci:=below_grown acj hgr5 Bb.out s4 (aP _);rw [Dz.out] at hown5;have hM5:=hown5.rd;have s5:=aci.size;clear hown5 hgr5 Bb HP4 acj;go_wp2_with fail;refine (KV _).mono ?_;rintro e w6 ⟨v6,rfl,hB6,hb6⟩;have Yr:=aci.trans (hb6.mono s5);have sG:=hZ2.kept Yr;have dI:=bq.trans (Yr.mono bq.size);have HK6:=ak (HK2.out.below Yr);have hM6:=hM5.below hb6;have hS6:=hB6.rd;obtain ⟨ma,mc,rfl,m1,m2,_,m4⟩:=id hM6;have HM6:=ak hM6;have hzl:=sG.lt;clear aci hb6 Yr hZ2 bq HK2 Om hM5 hB6 hM6 m4 k1 k2;have nn1:=Wj.out.1;go_wp2
 go_loopw [5,6] (fun s i wr=> ∃j:Nat,j<=NB/\i=.int .i64 ((128 * j:Nat):Int)/\Rd .u64 wr s 8 (dQ F j)/\Below w6.heap.size w6 wr) (fun _ i _=> N - (intOf i).toNat)
 case atStart=> exact ⟨0,dR _,rfl,hS6,bA _ _⟩
 case round=>
  clear hS6;obtain ⟨j,hj,rfl,hS,hbw⟩:=hrel;by_cases hlt:j<NB
  ·obtain ⟨sa,sc,rfl,z1,z2,_,z4⟩:=id hS;obtain ⟨sb,so,rfl,zl,zc⟩:=z4 (by decide);obtain ⟨J,hJ⟩:∃J,J=128 * j:=⟨_,rfl⟩
   rw [<-hJ];have HJ:=ak hJ;obtain ⟨S,hSS⟩:∃S,S=dQ F j:=⟨_,rfl⟩
   have HS8:Hid (∀i,i<8->0<=S i/\S i<cO):=by rw [hSS];exact nT F j
   obtain ⟨fj,hfj⟩:∃fj:Nat->Int,fj=fun i=> F (J+i):=⟨_,rfl⟩
   have sQ:∀i,i<128->0<=fj i/\fj i<256:=by rw [hfj];exact fun i _=> HF.out _
   obtain ⟨W,hW⟩:∃W,W=jF (m16 fj) 64:=⟨_,rfl⟩
   have WE:Hid (∀i,i<80->0<=W i/\W i<cO):=by rw [hW];exact zk (CU sQ) 64
   have akO:Hid (∀t,t<16->big (fun i=> F (J+8 * t+i)) 8=W t):=by
    intro t ht;rw [hW,OQ _ ht,hfj];unfold m16;rw [if_pos ht];exact QF (n:=8) (fun i _=> by rw [Nat.add_assoc]) 8 (aP _)
   have HWR:Hid (∀k,k<64->Bo (W k) (W (k+1)) (W (k+9)) (W (k+14))=W (16+k)):=by rw [hW];exact fun k hk=> (RX _ hk).symm
   obtain ⟨G,hG⟩:∃G,G=dQ F (j+1):=⟨_,rfl⟩
   have HG:Hid (∀i,(S i+gM kK W S 80 i) % cO=G i):=by rw [hG,hW,hfj,hSS,hJ];exact fun i=> rfl
   have HGE:=ak hG;rw [<-hSS] at hS zc;have HS:=ak hS;have HZC:=ak zc;clear hJ hSS hfj sQ hW hG hS zc;obtain ⟨wj,hwj⟩:∃wj,wj=wr:=⟨_,rfl⟩
   subst hwj;have HMj:=ak (HM6.out.below hbw);have HKj:=ak (HK6.out.below hbw);have hja:J+128<=N:=by have:=Wj.out.2;have:=HJ.out;omega
   have hjlt:((J:Nat):Int)<(N:Int):=by omega
   go_upto_region 10 with (fail);go_wp2
   go_loopw [7,8] (fun x i wr=> ∃t:Nat,t<=80/\i=.int .i64 (t:Int)/\Go.aQ.Own .u64 132 wj.heap.size wr x t W/\Below wj.heap.size wj wr) (fun _ i _=> 80 - (intOf i).toNat)
   case atStart=> exact ⟨0,dR _,rfl,Go.aQ.Own.nil _ _ _ _ _,bA _ _⟩
   case round=>
    obtain ⟨t,ht,rfl,hO,hbt⟩:=hrel;have hst:=hbt.size;have HO:=ak hO;by_cases aji:t<16
    ·obtain ⟨la,r1,r2,r3⟩:=Rd.cut fQ iW ma N mc (J+8 * t) (J+8 * t+8) (by omega) (by omega) m1;rw [show J+8 * t+8 - (J+8 * t)=8 by omega] at r1 r3;have R1:=ak r1;have HL:=ak (r3 _ _ (HMj.out.below hbt)).1;have a1:IntKind.i64.wrap (8 * (t:Int))=((8 * t:Nat):Int):=by rw [aR (by omega) (by omega)];omega
     have a2:IntKind.i64.wrap (((J:Nat):Int)+((8 * t:Nat):Int))=((J+8 * t:Nat):Int):=by rw [aR (by omega) (by omega)];omega
     have a3:IntKind.i64.wrap (((J+8 * t:Nat):Int)+8)=((J+8 * t+8:Nat):Int):=by rw [aR (by omega) (by omega)];omega
     have A1:=ak a1;have A2:=ak a2;have A3:=ak a3;have ajh:t<80:=by omega
     clear r1 r2 r3 hO a1 a2 a3;go_upto_region 14 with (fail)
     refine gB (n:=259) 14 (by decide) (by kernel_rfl) (by kernel_rfl) (by kernel_rfl) (by kernel_rfl) rfl
      (fun ii vv ww=> (match ii with | 0=> vv=u7 | 1=> vv=.slice ma N mc | 2 | 6=> vv=.int .i64 (((J:Nat):Int)) | 3 | 7=> vv=.int .i64 ((t:Int)) | 4 | 8=> vv=.int .i64 (((8 * t:Nat):Int)) | 5 | 9=> vv=.int .i64 (((J+8 * t:Nat):Int)) | 10=> vv=.int .i64 (((J+8 * t+8:Nat):Int)) | 11=> vv=.slice la 8 (mc - (J+8 * t)) | 12=> vv=.int .u64 (W t) | _=> True)/\(ii=13->Rd .u64 ww vv 1 (fun _=> W t)))
      (fun i v w w' h hE=> ⟨h.1,fun e=> Rd.below (h.2 e) hE⟩) ?_ ?_
     ·refine dD ?_;refine ⟨?_,?_,?_,?_,?_,?_,?_,?_,?_,?_,?_,?_,?_,?_,(aF),(aF),trivial⟩
      ·intro _ a w2 hB hF hd;exact aG <| bJ rfl ⟨(hF.same 7 rfl),aF⟩
      ·intro _ a w2 hB hF hd;exact aG <| bJ rfl ⟨(hF.same 4 rfl),aF⟩
      ·intro _ a w2 hB hF hd;exact aG <| bJ rfl ⟨(hF.same 6 rfl),aF⟩
      ·intro _ a w2 hB hF hd;exact aG <| bJ rfl ⟨(hF.same 8 rfl),aF⟩
      ·intro _ a w2 hB hF hd;exact aG <| aO (Go.aQ.yx rfl rfl ((hd 3 _ rfl (aj rfl)).1)) ⟨(congrArg (Value.int .i64) (A1.out)),aF⟩
      ·intro _ a w2 hB hF hd;exact aG <| aO (Go.aQ.bI rfl ((hd 2 _ rfl (aj rfl)).1) ((hd 4 _ rfl (aj rfl)).1)) ⟨(congrArg (Value.int .i64) (A2.out)),aF⟩
      ·intro _ a w2 hB hF hd;exact aG <| bJ rfl ⟨(hF.same 6 rfl),aF⟩
      ·intro _ a w2 hB hF hd;exact aG <| bJ rfl ⟨(hF.same 8 rfl),aF⟩
      ·intro _ a w2 hB hF hd;exact aG <| aO (Go.aQ.yx rfl rfl ((hd 7 _ rfl (aj rfl)).1)) ⟨(congrArg (Value.int .i64) (A1.out)),aF⟩
      ·intro _ a w2 hB hF hd;exact aG <| aO (Go.aQ.bI rfl ((hd 6 _ rfl (aj rfl)).1) ((hd 8 _ rfl (aj rfl)).1)) ⟨(congrArg (Value.int .i64) (A2.out)),aF⟩
      ·intro _ a w2 hB hF hd;exact aG <| aO (Go.aQ.bI rfl ((hd 9 _ rfl (aj rfl)).1) rfl) ⟨(congrArg (Value.int .i64) (A3.out)),aF⟩
      ·intro _ a w2 hB hF hd;exact aG <| aO (aZ rfl ((hd 1 _ rfl (aj rfl)).1) (by simp only [Option.map_some,Option.map_none,show a.eval (Operand.tmp 53)=.int .i64 (((J+8 * t:Nat):Int)) from ((hd 5 _ rfl (aj rfl)).1),show a.eval (Operand.tmp 58)=.int .i64 (((J+8 * t+8:Nat):Int)) from ((hd 10 _ rfl (aj rfl)).1)];exact R1.out _)) ⟨rfl,aF⟩
      ·intro _ a w2 hB hF hd;refine aG <| aI _ _ _ rfl Tryz.call86 _ (args1 ((hd 11 _ rfl (aj rfl)).1)) (by simp) (((akO.out t aji▸JJ _ 8 (fun i=> F (J+8 * t+i)) _ (HL.out.below hB) (fun i _=> HF.out _) (by decide))).mono ?_);rintro e w3 ⟨rfl,hb⟩;exact ⟨_,rfl,⟨rfl,aF⟩,hb⟩
      ·intro _ a w2 hB hF hd;exact aG <| dW 129 132 1 _ [.int .u64 (W t)] rfl BO (by kernel_rfl) (by kernel_rfl) rfl (by decide) (by decide) (by intro v hv;simp only [List.mem_cons,List.not_mem_nil,or_false] at hv;rcases hv with rfl<;> rfl) (by simp only [qy,List.map_cons,List.map_nil,show a.eval (Operand.tmp 60)=.int .u64 (W t) from ((hd 12 _ rfl (aj rfl)).1)];rfl) (by simp) ⟨trivial,fun _=> (nP)⟩
     ·intro a w8 hB hF hS;obtain ⟨x61,abn⟩:∃x,x=a.tmps.getD 61 undef:=⟨_,rfl⟩
      have P61:Rd .u64 w8 x61 1 (fun _=> W t):=by rw [abn];exact (hS 13 _ rfl (by decide)).2 rfl
      have ha:=aK rfl rfl hF [_,_,_,_,_,_,_,_,_,_,_,_,_,x61] rfl ⟨(hS 0 _ rfl (by decide)).1,(hS 1 _ rfl (by decide)).1,(hS 2 _ rfl (by decide)).1,(hS 3 _ rfl (by decide)).1,(hS 4 _ rfl (by decide)).1,(hS 5 _ rfl (by decide)).1,(hS 6 _ rfl (by decide)).1,(hS 7 _ rfl (by decide)).1,(hS 8 _ rfl (by decide)).1,(hS 9 _ rfl (by decide)).1,(hS 10 _ rfl (by decide)).1,(hS 11 _ rfl (by decide)).1,(hS 12 _ rfl (by decide)).1,abn.symm,trivial⟩;simp only [puts,List.take_succ_cons,List.take_zero,Act.put,dS,dU,dV] at ha;subst ha;change tl _ _ _ (_::_:: []) _ _;clear abn;clear hS hF;have hO8:=HO.out.below hB;have ny:=hbt.trans (hB.mono hst);refine jP rfl (gq _ _ 129 rfl wj.heap.size 132 .u64 8 BO Tryz.info132 _ t W hO8 rfl _ 1 _ P61 rfl (fun i hi=> by rw [show t+i=t by omega]) (by omega) (by omega) ny.size ?_);intro v' w9 hown hgrow;refine kN rfl _ (.inr rfl) (nY ?_);have xD:=below_grown ny hgrow hO8 ny.size (aP _);clear hB hgrow hO8 ny P61;go_wp2;go_roundw
      case rel=> first | exact ⟨t+1,by omega,by go_num,hown,xD⟩ | ((repeat apply Exists.intro);exact ⟨⟨t+1,by omega,by go_num,hown,xD⟩,rfl⟩)
      case measure=> simp [intOf] <;> omega
    ·by_cases ajh:t<80
     ·obtain ⟨k,rfl⟩:∃k,t=16+k:=⟨t - 16,by omega⟩
      obtain ⟨g7,c7,rfl,f1,f2,f3,f4,f5,_⟩:=hO.form (by omega);have ZX:=ak f5;have d15:=ak (nJ (a:=16+k) (c:=15) (b:=k+1) (by omega) (by omega));have d2:=ak (nJ (a:=16+k) (c:=2) (b:=k+14) (by omega) (by omega));have d16:=ak (nJ (a:=16+k) (c:=16) (b:=k) (by omega) (by omega));have d7:=ak (nJ (a:=16+k) (c:=7) (b:=k+9) (by omega) (by omega));have hkk:k<64:=by omega
      clear hO f5;go_upto_region 15 with (fail)
      refine aT (n:=259) (by kernel_rfl) (by kernel_rfl) (by kernel_rfl) rfl
       (fun ii vv _=> (match ii with | 0=> vv=.slice (some ⟨g7,0,none⟩) (16+k) c7 | 1=> vv=.int .i64 (((16+k:Nat):Int)) | 2=> vv=.int .i64 (((k+1:Nat):Int)) | 3=> vv=.pointer (some ⟨g7,0+(k+1),none⟩) | 4 | 5=> vv=.int .u64 (W (k+1)) | _=> True))
       (fun w w'=> Below w.heap.size w w') (fun _ _ h=> h) (fun _ _ _ _ h _=> h) ?_ ?_
      ·refine dD ?_;refine ⟨?_,?_,?_,?_,?_,?_,trivial⟩
       ·intro a w2 hB hF hd;exact aG <| bJ rfl (hF.same 7 rfl)
       ·intro a w2 hB hF hd;exact aG <| bJ rfl (hF.same 8 rfl)
       ·intro a w2 hB hF hd;exact aG <| aO (Go.aQ.kP rfl (hd 1 _ rfl (aj rfl)) rfl) (congrArg (Value.int .i64) (d15.out))
       ·intro a w2 hB hF hd;exact aG <| aO (bD rfl (hd 0 _ rfl (aj rfl)) (hd 2 _ rfl (aj rfl)) BO (by kernel_rfl) (by omega) (by omega)) rfl
       ·intro a w2 hB hF hd;exact aG <| aO (aJ rfl (hd 3 _ rfl (aj rfl)) ql ((hB.cell (p:=⟨g7,0+(k+1),none⟩) f2).trans (by rw [lH];exact ZX.out (k+1) (by omega)))) rfl
       ·intro a w2 hB hF hd;exact aG <| lS rfl (hd 4 _ rfl (aj rfl))
      ·intro a w8 hB hF hS;have ha:=aK rfl rfl hF [_,_,_,_,_,_] rfl ⟨hS 0 _ rfl,hS 1 _ rfl,hS 2 _ rfl,hS 3 _ rfl,hS 4 _ rfl,hS 5 _ rfl,trivial⟩;simp only [puts,Act.put,dS,dU,dV] at ha;subst ha;clear hS hF;have hf2:g7<w8.heap.size:=tN f2 hB.size;have ZW:Hid (∀i,i<16+k->w8.cell? ⟨g7,i,none⟩=some (.int .u64 (W i))):=fun i hi=> (hB.cell (p:=⟨g7,i,none⟩) f2).trans (ZX.out i hi);have HO8:=ak (HO.out.below hB);have ny:=hbt.trans (hB.mono hst);have hs8:=ny.size;clear hB ZX HO f2 hbt hst;go_upto_region 16 with (fail)
       refine aT (n:=259) (by kernel_rfl) (by kernel_rfl) (by kernel_rfl) rfl
        (fun ii vv _=> (match ii with | 0=> vv=.slice (some ⟨g7,0,none⟩) (16+k) c7 | 1=> vv=.int .i64 (((16+k:Nat):Int)) | 2=> vv=.int .i64 (((k+14:Nat):Int)) | 3=> vv=.pointer (some ⟨g7,0+(k+14),none⟩) | 4 | 5=> vv=.int .u64 (W (k+14)) | _=> True))
        (fun w w'=> Below w.heap.size w w') (fun _ _ h=> h) (fun _ _ _ _ h _=> h) ?_ ?_
       ·refine dD ?_;refine ⟨?_,?_,?_,?_,?_,?_,trivial⟩
        ·intro a w2 hB hF hd;exact aG <| bJ rfl (hF.same 7 rfl)
        ·intro a w2 hB hF hd;exact aG <| bJ rfl (hF.same 8 rfl)
        ·intro a w2 hB hF hd;exact aG <| aO (Go.aQ.kP rfl (hd 1 _ rfl (aj rfl)) rfl) (congrArg (Value.int .i64) (d2.out))
        ·intro a w2 hB hF hd;exact aG <| aO (bD rfl (hd 0 _ rfl (aj rfl)) (hd 2 _ rfl (aj rfl)) BO (by kernel_rfl) (by omega) (by omega)) rfl
        ·intro a w2 hB hF hd;exact aG <| aO (aJ rfl (hd 3 _ rfl (aj rfl)) ql ((hB.cell (p:=⟨g7,0+(k+14),none⟩) hf2).trans (by rw [lH];exact ZW.out (k+14) (by omega)))) rfl
        ·intro a w2 hB hF hd;exact aG <| lS rfl (hd 4 _ rfl (aj rfl))
       ·intro a w9 hB hF hS;have ha:=aK rfl rfl hF [_,_,_,_,_,_] rfl ⟨hS 0 _ rfl,hS 1 _ rfl,hS 2 _ rfl,hS 3 _ rfl,hS 4 _ rfl,hS 5 _ rfl,trivial⟩;simp only [puts,Act.put,dS,dU,dV] at ha;subst ha;clear hS hF;have hf3:g7<w9.heap.size:=tN hf2 hB.size;have HC9:Hid (∀i,i<16+k->w9.cell? ⟨g7,i,none⟩=some (.int .u64 (W i))):=fun i hi=> (hB.cell (p:=⟨g7,i,none⟩) hf2).trans (ZW.out i hi);have HO9:=ak (HO8.out.below hB);have xD:=ny.trans (hB.mono hs8);have hs9:=xD.size;clear hB ZW HO8 hf2 ny hs8;go_upto_region 17 with (fail)
        refine gB (n:=259) 31 (by decide) (by kernel_rfl) (by kernel_rfl) (by kernel_rfl) (by kernel_rfl) rfl
         (fun ii vv ww=> (match ii with | 0 | 1 | 15=> vv=.slice (some ⟨g7,0,none⟩) (16+k) c7 | 2 | 16=> vv=.int .i64 (((16+k:Nat):Int)) | 3=> vv=.int .i64 (((k:Nat):Int)) | 4=> vv=.pointer (some ⟨g7,0+k,none⟩) | 5=> vv=.int .u64 (W k) | 6 | 8 | 11=> vv=.int .u64 (W (k+1)) | 7=> vv=.int .u64 (rr (W (k+1)) 1) | 9=> vv=.int .u64 (rr (W (k+1)) 8) | 10=> vv=.int .u64 (x64 (rr (W (k+1)) 1) (rr (W (k+1)) 8)) | 12=> vv=.int .u64 (W (k+1) / 2 ^ 7) | 13=> vv=.int .u64 (s0F (W (k+1))) | 14=> vv=.int .u64 ((W k+s0F (W (k+1))) % cO) | 17=> vv=.int .i64 (((k+9:Nat):Int)) | 18=> vv=.pointer (some ⟨g7,0+(k+9),none⟩) | 19=> vv=.int .u64 (W (k+9)) | 20=> vv=.int .u64 (((W k+s0F (W (k+1))) % cO+W (k+9)) % cO) | 21 | 23 | 26=> vv=.int .u64 (W (k+14)) | 22=> vv=.int .u64 (rr (W (k+14)) 19) | 24=> vv=.int .u64 (rr (W (k+14)) 61) | 25=> vv=.int .u64 (x64 (rr (W (k+14)) 19) (rr (W (k+14)) 61)) | 27=> vv=.int .u64 (W (k+14) / 2 ^ 6) | 28=> vv=.int .u64 (s1F (W (k+14))) | 29=> vv=.int .u64 (Bo (W k) (W (k+1)) (W (k+9)) (W (k+14))) | _=> True)/\(ii=30->Rd .u64 ww vv 1 (fun _=> Bo (W k) (W (k+1)) (W (k+9)) (W (k+14)))))
         (fun i v w w' h hE=> ⟨h.1,fun e=> Rd.below (h.2 e) hE⟩) ?_ ?_
        ·refine dD ?_;refine ⟨?_,?_,?_,?_,?_,?_,?_,?_,?_,?_,?_,?_,?_,?_,?_,?_,?_,?_,?_,?_,?_,?_,?_,?_,?_,?_,?_,?_,?_,?_,?_,(aF),(aF),trivial⟩
         ·intro _ a w2 hB hF hd;exact aG <| bJ rfl ⟨(hF.same 7 rfl),aF⟩
         ·intro _ a w2 hB hF hd;exact aG <| bJ rfl ⟨(hF.same 7 rfl),aF⟩
         ·intro _ a w2 hB hF hd;exact aG <| bJ rfl ⟨(hF.same 8 rfl),aF⟩
         ·intro _ a w2 hB hF hd;exact aG <| aO (Go.aQ.kP rfl ((hd 2 _ rfl (aj rfl)).1) rfl) ⟨(congrArg (Value.int .i64) (d16.out)),aF⟩
         ·intro _ a w2 hB hF hd;exact aG <| aO (bD rfl ((hd 1 _ rfl (aj rfl)).1) ((hd 3 _ rfl (aj rfl)).1) BO (by kernel_rfl) (by omega) (by omega)) ⟨rfl,aF⟩
         ·intro _ a w2 hB hF hd;exact aG <| aO (aJ rfl ((hd 4 _ rfl (aj rfl)).1) ql ((hB.cell (p:=⟨g7,0+k,none⟩) hf3).trans (by rw [lH];exact HC9.out k (by omega)))) ⟨rfl,aF⟩
         ·intro _ a w2 hB hF hd;exact aG <| bJ rfl ⟨(hF.same 9 rfl),aF⟩
         ·intro _ a w2 hB hF hd;refine aG <| aI _ _ _ rfl Tryz.call87 _ (args2 ((hd 6 _ rfl (aj rfl)).1) rfl) (by simp) ((jA (W (k+1)) 1 (WE.out _ (by omega)) (by decide) _ rfl _).mono ?_);rintro e w3 ⟨rfl,hb⟩;exact ⟨_,rfl,⟨rfl,aF⟩,hb⟩
         ·intro _ a w2 hB hF hd;exact aG <| bJ rfl ⟨(hF.same 9 rfl),aF⟩
         ·intro _ a w2 hB hF hd;refine aG <| aI _ _ _ rfl Tryz.call87 _ (args2 ((hd 8 _ rfl (aj rfl)).1) rfl) (by simp) ((jA (W (k+1)) 8 (WE.out _ (by omega)) (by decide) _ rfl _).mono ?_);rintro e w3 ⟨rfl,hb⟩;exact ⟨_,rfl,⟨rfl,aF⟩,hb⟩
         ·intro _ a w2 hB hF hd;exact aG <| aO (Go.aQ.gy rfl ((hd 7 _ rfl (aj rfl)).1) ((hd 9 _ rfl (aj rfl)).1)) ⟨(congrArg (Value.int .u64) (rfl)),aF⟩
         ·intro _ a w2 hB hF hd;exact aG <| bJ rfl ⟨(hF.same 9 rfl),aF⟩
         ·intro _ a w2 hB hF hd;refine aG <| aI _ _ _ rfl Tryz.call88 _ (args2 ((hd 11 _ rfl (aj rfl)).1) rfl) (by simp) ((Ck (W (k+1)) 7 (WE.out _ (by omega)) (by decide) _ rfl _).mono ?_);rintro e w3 ⟨rfl,hb⟩;exact ⟨_,rfl,⟨rfl,aF⟩,hb⟩
         ·intro _ a w2 hB hF hd;exact aG <| aO (Go.aQ.gy rfl ((hd 10 _ rfl (aj rfl)).1) ((hd 12 _ rfl (aj rfl)).1)) ⟨(congrArg (Value.int .u64) (rfl)),aF⟩
         ·intro _ a w2 hB hF hd;exact aG <| aO (Go.aQ.bI rfl ((hd 5 _ rfl (aj rfl)).1) ((hd 13 _ rfl (aj rfl)).1)) ⟨(congrArg (Value.int .u64) (dw)),aF⟩
         ·intro _ a w2 hB hF hd;exact aG <| bJ rfl ⟨(hF.same 7 rfl),aF⟩
         ·intro _ a w2 hB hF hd;exact aG <| bJ rfl ⟨(hF.same 8 rfl),aF⟩
         ·intro _ a w2 hB hF hd;exact aG <| aO (Go.aQ.kP rfl ((hd 16 _ rfl (aj rfl)).1) rfl) ⟨(congrArg (Value.int .i64) (d7.out)),aF⟩
         ·intro _ a w2 hB hF hd;exact aG <| aO (bD rfl ((hd 15 _ rfl (aj rfl)).1) ((hd 17 _ rfl (aj rfl)).1) BO (by kernel_rfl) (by omega) (by omega)) ⟨rfl,aF⟩
         ·intro _ a w2 hB hF hd;exact aG <| aO (aJ rfl ((hd 18 _ rfl (aj rfl)).1) ql ((hB.cell (p:=⟨g7,0+(k+9),none⟩) hf3).trans (by rw [lH];exact HC9.out (k+9) (by omega)))) ⟨rfl,aF⟩
         ·intro _ a w2 hB hF hd;exact aG <| aO (Go.aQ.bI rfl ((hd 14 _ rfl (aj rfl)).1) ((hd 19 _ rfl (aj rfl)).1)) ⟨(congrArg (Value.int .u64) (dw)),aF⟩
         ·intro _ a w2 hB hF hd;exact aG <| bJ rfl ⟨(hF.same 10 rfl),aF⟩
         ·intro _ a w2 hB hF hd;refine aG <| aI _ _ _ rfl Tryz.call87 _ (args2 ((hd 21 _ rfl (aj rfl)).1) rfl) (by simp) ((jA (W (k+14)) 19 (WE.out _ (by omega)) (by decide) _ rfl _).mono ?_);rintro e w3 ⟨rfl,hb⟩;exact ⟨_,rfl,⟨rfl,aF⟩,hb⟩
         ·intro _ a w2 hB hF hd;exact aG <| bJ rfl ⟨(hF.same 10 rfl),aF⟩
         ·intro _ a w2 hB hF hd;refine aG <| aI _ _ _ rfl Tryz.call87 _ (args2 ((hd 23 _ rfl (aj rfl)).1) rfl) (by simp) ((jA (W (k+14)) 61 (WE.out _ (by omega)) (by decide) _ rfl _).mono ?_);rintro e w3 ⟨rfl,hb⟩;exact ⟨_,rfl,⟨rfl,aF⟩,hb⟩
         ·intro _ a w2 hB hF hd;exact aG <| aO (Go.aQ.gy rfl ((hd 22 _ rfl (aj rfl)).1) ((hd 24 _ rfl (aj rfl)).1)) ⟨(congrArg (Value.int .u64) (rfl)),aF⟩
         ·intro _ a w2 hB hF hd;exact aG <| bJ rfl ⟨(hF.same 10 rfl),aF⟩
         ·intro _ a w2 hB hF hd;refine aG <| aI _ _ _ rfl Tryz.call88 _ (args2 ((hd 26 _ rfl (aj rfl)).1) rfl) (by simp) ((Ck (W (k+14)) 6 (WE.out _ (by omega)) (by decide) _ rfl _).mono ?_);rintro e w3 ⟨rfl,hb⟩;exact ⟨_,rfl,⟨rfl,aF⟩,hb⟩
         ·intro _ a w2 hB hF hd;exact aG <| aO (Go.aQ.gy rfl ((hd 25 _ rfl (aj rfl)).1) ((hd 27 _ rfl (aj rfl)).1)) ⟨(congrArg (Value.int .u64) (rfl)),aF⟩
         ·intro _ a w2 hB hF hd;exact aG <| aO (Go.aQ.bI rfl ((hd 20 _ rfl (aj rfl)).1) ((hd 28 _ rfl (aj rfl)).1)) ⟨(congrArg (Value.int .u64) (dw)),aF⟩
         ·intro _ a w2 hB hF hd;exact aG <| dW 129 132 1 _ [.int .u64 (Bo (W k) (W (k+1)) (W (k+9)) (W (k+14)))] rfl BO (by kernel_rfl) (by kernel_rfl) rfl (by decide) (by decide) (by intro v hv;simp only [List.mem_cons,List.not_mem_nil,or_false] at hv;rcases hv with rfl<;> rfl) (by simp only [qy,List.map_cons,List.map_nil,show a.eval (Operand.tmp 102)=.int .u64 (Bo (W k) (W (k+1)) (W (k+9)) (W (k+14))) from ((hd 29 _ rfl (aj rfl)).1)];rfl) (by simp) ⟨trivial,fun _=> (nP)⟩
        ·intro a wa hB hF hS;obtain ⟨x103,TY⟩:∃x,x=a.tmps.getD 103 undef:=⟨_,rfl⟩
         have agA:Rd .u64 wa x103 1 (fun _=> Bo (W k) (W (k+1)) (W (k+9)) (W (k+14))):=by rw [TY];exact (hS 30 _ rfl (by decide)).2 rfl
         have ha:=aK rfl rfl hF [_,_,_,_,_,_,_,_,_,_,_,_,_,_,_,_,_,_,_,_,_,_,_,_,_,_,_,_,_,_,x103] rfl ⟨(hS 0 _ rfl (by decide)).1,(hS 1 _ rfl (by decide)).1,(hS 2 _ rfl (by decide)).1,(hS 3 _ rfl (by decide)).1,(hS 4 _ rfl (by decide)).1,(hS 5 _ rfl (by decide)).1,(hS 6 _ rfl (by decide)).1,(hS 7 _ rfl (by decide)).1,(hS 8 _ rfl (by decide)).1,(hS 9 _ rfl (by decide)).1,(hS 10 _ rfl (by decide)).1,(hS 11 _ rfl (by decide)).1,(hS 12 _ rfl (by decide)).1,(hS 13 _ rfl (by decide)).1,(hS 14 _ rfl (by decide)).1,(hS 15 _ rfl (by decide)).1,(hS 16 _ rfl (by decide)).1,(hS 17 _ rfl (by decide)).1,(hS 18 _ rfl (by decide)).1,(hS 19 _ rfl (by decide)).1,(hS 20 _ rfl (by decide)).1,(hS 21 _ rfl (by decide)).1,(hS 22 _ rfl (by decide)).1,(hS 23 _ rfl (by decide)).1,(hS 24 _ rfl (by decide)).1,(hS 25 _ rfl (by decide)).1,(hS 26 _ rfl (by decide)).1,(hS 27 _ rfl (by decide)).1,(hS 28 _ rfl (by decide)).1,(hS 29 _ rfl (by decide)).1,TY.symm,trivial⟩;simp only [puts,List.take_succ_cons,List.take_zero,Act.put,dS,dU,dV] at ha;subst ha;change tl _ _ _ (_::_:: []) _ _;clear TY;clear hS hF;have hOa:=HO9.out.below hB;have hba:=xD.trans (hB.mono hs9);refine jP rfl (gq _ _ 129 rfl wj.heap.size 132 .u64 8 BO Tryz.info132 _ (16+k) W hOa rfl _ 1 _ agA rfl (fun i hi=> by rw [show 16+k+i=16+k by omega,HWR.out k hkk]) (by omega) (by omega) hba.size ?_);intro v' wb hown hgrow;refine kN rfl _ (.inr rfl) (nY ?_);have hbb:=below_grown hba hgrow hOa hba.size (aP _);clear hB hgrow hOa hba agA;go_wp2;go_roundw
         case rel=> first | exact ⟨16+k+1,by omega,by go_num,hown,hbb⟩ | ((repeat apply Exists.intro);exact ⟨⟨16+k+1,by omega,by go_num,hown,hbb⟩,rfl⟩)
         case measure=> simp [intOf] <;> omega
     ·obtain rfl:t=80:=by omega
      obtain ⟨g7,c7,rfl,f1,f2,f3,f4,f5,_⟩:=hO.form (by decide);have HWc:=ak f5;have HSc:Hid (∀i,i<8->wr.cell? ⟨sb,so+i,none⟩=some (.int .u64 (S i))):=fun i hi=> (hbt.cell (p:=⟨sb,so+i,none⟩) zl).trans (HZC.out i hi);have hsl:sb<wr.heap.size:=tN zl hst;have hkl:gk<wr.heap.size:=tN (Rd.at' HKj.out (i:=0) (by decide)).2 hst;have HKc:Hid (∀i,i<80->wr.cell? ⟨gk,i,none⟩=some (.int .u64 (kK i))):=fun i hi=> by
       have h1:=Rd.at' (HKj.out.below hbt) (i:=i) hi;rw [lH] at h1;exact h1.1
      have z0:wr.cell? ⟨sb,so,none⟩=some (.int .u64 (S 0)):=HSc.out 0 (by decide);have z1:wr.cell? ⟨sb,so+1,none⟩=some (.int .u64 (S 1)):=HSc.out 1 (by decide);have z2:wr.cell? ⟨sb,so+2,none⟩=some (.int .u64 (S 2)):=HSc.out 2 (by decide);have z3:wr.cell? ⟨sb,so+3,none⟩=some (.int .u64 (S 3)):=HSc.out 3 (by decide);have z4:wr.cell? ⟨sb,so+4,none⟩=some (.int .u64 (S 4)):=HSc.out 4 (by decide);have z5:wr.cell? ⟨sb,so+5,none⟩=some (.int .u64 (S 5)):=HSc.out 5 (by decide);have z6:wr.cell? ⟨sb,so+6,none⟩=some (.int .u64 (S 6)):=HSc.out 6 (by decide);have z7:wr.cell? ⟨sb,so+7,none⟩=some (.int .u64 (S 7)):=HSc.out 7 (by decide);have abP:=hbw.trans (hbt.mono hbw.size);clear hO f5 HO f1 f4 hbt hst HMj HKj;go_upto_region 26 with (fail);clear z0 z1 z2 z3 z4 z5 z6 z7;obtain ⟨wk,hwk⟩:∃wk,wk=wr:=⟨_,rfl⟩
      subst hwk;go_wp2
      go_loopw [11,12,13,14,15,16,17,18,19] (fun a b c d e f g h i wr=> ∃t:Nat,t<=80/\i=.int .i64 (t:Int)/\a=.int .u64 (gM kK W S t 0)/\b=.int .u64 (gM kK W S t 1)/\c=.int .u64 (gM kK W S t 2)/\d=.int .u64 (gM kK W S t 3)/\e=.int .u64 (gM kK W S t 4)/\f=.int .u64 (gM kK W S t 5)/\g=.int .u64 (gM kK W S t 6)/\h=.int .u64 (gM kK W S t 7)/\Below wk.heap.size wk wr) (fun _ _ _ _ _ _ _ _ i _=> 80 - (intOf i).toNat)
      case atStart=> exact ⟨0,dR _,rfl,rfl,rfl,rfl,rfl,rfl,rfl,rfl,rfl,bA _ _⟩
      case round=>
       obtain ⟨t,ht,rfl,rfl,rfl,rfl,rfl,rfl,rfl,rfl,rfl,hbt⟩:=hrel;obtain ⟨V,hV⟩:∃V,V=gM kK W S t:=⟨_,rfl⟩
       have JO:Hid (∀i,i<8->0<=V i/\V i<cO):=by rw [hV];exact xq HS8.out t
       have Zd:Hid (∀i,Pb V (kK t) (W t) i=gM kK W S (t+1) i):=by rw [hV];exact fun i=> rfl
       have HVE:Hid (V=gM kK W S t):=hV;rw [<-hV];clear hV;have hst:=hbt.size;by_cases hlt:t<80
       ·have HKr:Hid (∀i,i<80->wr.cell? ⟨gk,i,none⟩=some (.int .u64 (kK i))):=fun i hi=> (hbt.cell (p:=⟨gk,i,none⟩) hkl).trans (HKc.out i hi);have HWr:Hid (∀i,i<80->wr.cell? ⟨g7,i,none⟩=some (.int .u64 (W i))):=fun i hi=> (hbt.cell (p:=⟨g7,i,none⟩) f2).trans (HWc.out i hi);have afn:gk<wr.heap.size:=tN hkl hst;have afs:g7<wr.heap.size:=tN f2 hst;go_upto_region 29 with (fail)
        refine aT (n:=259) (by kernel_rfl) (by kernel_rfl) (by kernel_rfl) rfl
         (fun ii vv _=> (match ii with | 0=> vv=.int .u64 (V 7) | 1 | 3 | 6 | 10 | 13=> vv=.int .u64 (V 4) | 2=> vv=.int .u64 (rr (V 4) 14) | 4=> vv=.int .u64 (rr (V 4) 18) | 5=> vv=.int .u64 (x64 (rr (V 4) 14) (rr (V 4) 18)) | 7=> vv=.int .u64 (rr (V 4) 41) | 8=> vv=.int .u64 (YU (V 4)) | 9=> vv=.int .u64 ((V 7+YU (V 4)) % cO) | 11=> vv=.int .u64 (V 5) | 12=> vv=.int .u64 (a64 (V 4) (V 5)) | 14=> vv=.int .u64 (cO - 1 - V 4) | 15=> vv=.int .u64 (V 6) | 16=> vv=.int .u64 (a64 (cO - 1 - V 4) (V 6)) | 17=> vv=.int .u64 (YI (V 4) (V 5) (V 6)) | 18=> vv=.int .u64 (((V 7+YU (V 4)) % cO+YI (V 4) (V 5) (V 6)) % cO) | 19=> vv=.slice (some ⟨gk,0,none⟩) 80 ck | 20 | 25=> vv=.int .i64 ((t:Int)) | 21=> vv=.pointer (some ⟨gk,0+t,none⟩) | 22=> vv=.int .u64 (kK t) | 23=> vv=.int .u64 ((((V 7+YU (V 4)) % cO+YI (V 4) (V 5) (V 6)) % cO+kK t) % cO) | 24=> vv=.slice (some ⟨g7,0,none⟩) 80 c7 | 26=> vv=.pointer (some ⟨g7,0+t,none⟩) | 27=> vv=.int .u64 (W t) | 28 | 29=> vv=.int .u64 (Pt (V 7) (V 4) (V 5) (V 6) (kK t) (W t)) | _=> True))
         (fun w w'=> Below w.heap.size w w') (fun _ _ h=> h) (fun _ _ _ _ h _=> h) ?_ ?_
        ·refine dD ?_;refine ⟨?_,?_,?_,?_,?_,?_,?_,?_,?_,?_,?_,?_,?_,?_,?_,?_,?_,?_,?_,?_,?_,?_,?_,?_,?_,?_,?_,?_,?_,?_,trivial⟩
         ·intro a w2 hB hF hd;exact aG <| bJ rfl (hF.same 18 rfl)
         ·intro a w2 hB hF hd;exact aG <| bJ rfl (hF.same 15 rfl)
         ·intro a w2 hB hF hd;refine aG <| aI _ _ _ rfl Tryz.call87 _ (args2 (hd 1 _ rfl (aj rfl)) rfl) (by simp) ((jA (V 4) 14 (JO.out 4 (by decide)) (by decide) _ rfl _).mono ?_);rintro e w3 ⟨rfl,hb⟩;exact ⟨_,rfl,rfl,hb⟩
         ·intro a w2 hB hF hd;exact aG <| bJ rfl (hF.same 15 rfl)
         ·intro a w2 hB hF hd;refine aG <| aI _ _ _ rfl Tryz.call87 _ (args2 (hd 3 _ rfl (aj rfl)) rfl) (by simp) ((jA (V 4) 18 (JO.out 4 (by decide)) (by decide) _ rfl _).mono ?_);rintro e w3 ⟨rfl,hb⟩;exact ⟨_,rfl,rfl,hb⟩
         ·intro a w2 hB hF hd;exact aG <| aO (Go.aQ.gy rfl (hd 2 _ rfl (aj rfl)) (hd 4 _ rfl (aj rfl))) (congrArg (Value.int .u64) (rfl))
         ·intro a w2 hB hF hd;exact aG <| bJ rfl (hF.same 15 rfl)
         ·intro a w2 hB hF hd;refine aG <| aI _ _ _ rfl Tryz.call87 _ (args2 (hd 6 _ rfl (aj rfl)) rfl) (by simp) ((jA (V 4) 41 (JO.out 4 (by decide)) (by decide) _ rfl _).mono ?_);rintro e w3 ⟨rfl,hb⟩;exact ⟨_,rfl,rfl,hb⟩
         ·intro a w2 hB hF hd;exact aG <| aO (Go.aQ.gy rfl (hd 5 _ rfl (aj rfl)) (hd 7 _ rfl (aj rfl))) (congrArg (Value.int .u64) (rfl))
         ·intro a w2 hB hF hd;exact aG <| aO (Go.aQ.bI rfl (hd 0 _ rfl (aj rfl)) (hd 8 _ rfl (aj rfl))) (congrArg (Value.int .u64) (dw))
         ·intro a w2 hB hF hd;exact aG <| bJ rfl (hF.same 15 rfl)
         ·intro a w2 hB hF hd;exact aG <| bJ rfl (hF.same 16 rfl)
         ·intro a w2 hB hF hd;exact aG <| aO (Go.aQ.jo rfl (hd 10 _ rfl (aj rfl)) (hd 11 _ rfl (aj rfl))) (congrArg (Value.int .u64) (rfl))
         ·intro a w2 hB hF hd;exact aG <| bJ rfl (hF.same 15 rfl)
         ·intro a w2 hB hF hd;exact aG <| aO (Go.aQ.kP rfl rfl (hd 13 _ rfl (aj rfl))) (congrArg (Value.int .u64) (aaw (JO.out 4 (by decide))))
         ·intro a w2 hB hF hd;exact aG <| bJ rfl (hF.same 17 rfl)
         ·intro a w2 hB hF hd;exact aG <| aO (Go.aQ.jo rfl (hd 14 _ rfl (aj rfl)) (hd 15 _ rfl (aj rfl))) (congrArg (Value.int .u64) (rfl))
         ·intro a w2 hB hF hd;exact aG <| aO (Go.aQ.gy rfl (hd 12 _ rfl (aj rfl)) (hd 16 _ rfl (aj rfl))) (congrArg (Value.int .u64) (acO (JO.out 4 (by decide)) (JO.out 5 (by decide)) (JO.out 6 (by decide))))
         ·intro a w2 hB hF hd;exact aG <| aO (Go.aQ.bI rfl (hd 9 _ rfl (aj rfl)) (hd 17 _ rfl (aj rfl))) (congrArg (Value.int .u64) (dw))
         ·intro a w2 hB hF hd;exact aG <| bJ rfl (hF.same 3 rfl)
         ·intro a w2 hB hF hd;exact aG <| bJ rfl (hF.same 19 rfl)
         ·intro a w2 hB hF hd;exact aG <| aO (bD rfl (hd 19 _ rfl (aj rfl)) (hd 20 _ rfl (aj rfl)) BO (by kernel_rfl) (by omega) (by omega)) rfl
         ·intro a w2 hB hF hd;exact aG <| aO (aJ rfl (hd 21 _ rfl (aj rfl)) ql ((hB.cell (p:=⟨gk,0+t,none⟩) afn).trans (by rw [lH];exact HKr.out t hlt))) rfl
         ·intro a w2 hB hF hd;exact aG <| aO (Go.aQ.bI rfl (hd 18 _ rfl (aj rfl)) (hd 22 _ rfl (aj rfl))) (congrArg (Value.int .u64) (dw))
         ·intro a w2 hB hF hd;exact aG <| bJ rfl (hF.same 7 rfl)
         ·intro a w2 hB hF hd;exact aG <| bJ rfl (hF.same 19 rfl)
         ·intro a w2 hB hF hd;exact aG <| aO (bD rfl (hd 24 _ rfl (aj rfl)) (hd 25 _ rfl (aj rfl)) BO (by kernel_rfl) (by omega) (by omega)) rfl
         ·intro a w2 hB hF hd;exact aG <| aO (aJ rfl (hd 26 _ rfl (aj rfl)) ql ((hB.cell (p:=⟨g7,0+t,none⟩) afs).trans (by rw [lH];exact HWr.out t hlt))) rfl
         ·intro a w2 hB hF hd;exact aG <| aO (Go.aQ.bI rfl (hd 23 _ rfl (aj rfl)) (hd 27 _ rfl (aj rfl))) (congrArg (Value.int .u64) (dw))
         ·intro a w2 hB hF hd;exact aG <| lS rfl (hd 28 _ rfl (aj rfl))
        ·intro a w8 hB hF hS;have ha:=aK rfl rfl hF [_,_,_,_,_,_,_,_,_,_,_,_,_,_,_,_,_,_,_,_,_,_,_,_,_,_,_,_,_,_] rfl ⟨hS 0 _ rfl,hS 1 _ rfl,hS 2 _ rfl,hS 3 _ rfl,hS 4 _ rfl,hS 5 _ rfl,hS 6 _ rfl,hS 7 _ rfl,hS 8 _ rfl,hS 9 _ rfl,hS 10 _ rfl,hS 11 _ rfl,hS 12 _ rfl,hS 13 _ rfl,hS 14 _ rfl,hS 15 _ rfl,hS 16 _ rfl,hS 17 _ rfl,hS 18 _ rfl,hS 19 _ rfl,hS 20 _ rfl,hS 21 _ rfl,hS 22 _ rfl,hS 23 _ rfl,hS 24 _ rfl,hS 25 _ rfl,hS 26 _ rfl,hS 27 _ rfl,hS 28 _ rfl,hS 29 _ rfl,trivial⟩;simp only [puts,Act.put,dS,dU,dV] at ha;subst ha;clear hS hF;have ny:=hbt.trans (hB.mono hst);have hs8:=ny.size;obtain ⟨one,hone⟩:∃one,one=Pt (V 7) (V 4) (V 5) (V 6) (kK t) (W t):=⟨_,rfl⟩
         rw [<-hone];have agT:=ak hone;clear hB hone HKr HWr afn afs hbt hst;go_upto_region 30 with (fail)
         refine aT (n:=259) (by kernel_rfl) (by kernel_rfl) (by kernel_rfl) rfl
          (fun ii vv _=> (match ii with | 0 | 2 | 5 | 8 | 11=> vv=.int .u64 (V 0) | 1=> vv=.int .u64 (rr (V 0) 28) | 3=> vv=.int .u64 (rr (V 0) 34) | 4=> vv=.int .u64 (x64 (rr (V 0) 28) (rr (V 0) 34)) | 6=> vv=.int .u64 (rr (V 0) 39) | 7=> vv=.int .u64 (S0F (V 0)) | 9 | 15=> vv=.int .u64 (V 1) | 10=> vv=.int .u64 (a64 (V 0) (V 1)) | 12 | 16=> vv=.int .u64 (V 2) | 13=> vv=.int .u64 (a64 (V 0) (V 2)) | 14=> vv=.int .u64 (x64 (a64 (V 0) (V 1)) (a64 (V 0) (V 2))) | 17=> vv=.int .u64 (a64 (V 1) (V 2)) | 18=> vv=.int .u64 (Tk (V 0) (V 1) (V 2)) | 19 | 20=> vv=.int .u64 (Rv (V 0) (V 1) (V 2)) | _=> True))
          (fun w w'=> Below w.heap.size w w') (fun _ _ h=> h) (fun _ _ _ _ h _=> h) ?_ ?_
         ·refine dD ?_;refine ⟨?_,?_,?_,?_,?_,?_,?_,?_,?_,?_,?_,?_,?_,?_,?_,?_,?_,?_,?_,?_,?_,trivial⟩
          ·intro a w2 hB hF hd;exact aG <| bJ rfl (hF.same 11 rfl)
          ·intro a w2 hB hF hd;refine aG <| aI _ _ _ rfl Tryz.call87 _ (args2 (hd 0 _ rfl (aj rfl)) rfl) (by simp) ((jA (V 0) 28 (JO.out 0 (by decide)) (by decide) _ rfl _).mono ?_);rintro e w3 ⟨rfl,hb⟩;exact ⟨_,rfl,rfl,hb⟩
          ·intro a w2 hB hF hd;exact aG <| bJ rfl (hF.same 11 rfl)
          ·intro a w2 hB hF hd;refine aG <| aI _ _ _ rfl Tryz.call87 _ (args2 (hd 2 _ rfl (aj rfl)) rfl) (by simp) ((jA (V 0) 34 (JO.out 0 (by decide)) (by decide) _ rfl _).mono ?_);rintro e w3 ⟨rfl,hb⟩;exact ⟨_,rfl,rfl,hb⟩
          ·intro a w2 hB hF hd;exact aG <| aO (Go.aQ.gy rfl (hd 1 _ rfl (aj rfl)) (hd 3 _ rfl (aj rfl))) (congrArg (Value.int .u64) (rfl))
          ·intro a w2 hB hF hd;exact aG <| bJ rfl (hF.same 11 rfl)
          ·intro a w2 hB hF hd;refine aG <| aI _ _ _ rfl Tryz.call87 _ (args2 (hd 5 _ rfl (aj rfl)) rfl) (by simp) ((jA (V 0) 39 (JO.out 0 (by decide)) (by decide) _ rfl _).mono ?_);rintro e w3 ⟨rfl,hb⟩;exact ⟨_,rfl,rfl,hb⟩
          ·intro a w2 hB hF hd;exact aG <| aO (Go.aQ.gy rfl (hd 4 _ rfl (aj rfl)) (hd 6 _ rfl (aj rfl))) (congrArg (Value.int .u64) (rfl))
          ·intro a w2 hB hF hd;exact aG <| bJ rfl (hF.same 11 rfl)
          ·intro a w2 hB hF hd;exact aG <| bJ rfl (hF.same 12 rfl)
          ·intro a w2 hB hF hd;exact aG <| aO (Go.aQ.jo rfl (hd 8 _ rfl (aj rfl)) (hd 9 _ rfl (aj rfl))) (congrArg (Value.int .u64) (rfl))
          ·intro a w2 hB hF hd;exact aG <| bJ rfl (hF.same 11 rfl)
          ·intro a w2 hB hF hd;exact aG <| bJ rfl (hF.same 13 rfl)
          ·intro a w2 hB hF hd;exact aG <| aO (Go.aQ.jo rfl (hd 11 _ rfl (aj rfl)) (hd 12 _ rfl (aj rfl))) (congrArg (Value.int .u64) (rfl))
          ·intro a w2 hB hF hd;exact aG <| aO (Go.aQ.gy rfl (hd 10 _ rfl (aj rfl)) (hd 13 _ rfl (aj rfl))) (congrArg (Value.int .u64) (rfl))
          ·intro a w2 hB hF hd;exact aG <| bJ rfl (hF.same 12 rfl)
          ·intro a w2 hB hF hd;exact aG <| bJ rfl (hF.same 13 rfl)
          ·intro a w2 hB hF hd;exact aG <| aO (Go.aQ.jo rfl (hd 15 _ rfl (aj rfl)) (hd 16 _ rfl (aj rfl))) (congrArg (Value.int .u64) (rfl))
          ·intro a w2 hB hF hd;exact aG <| aO (Go.aQ.gy rfl (hd 14 _ rfl (aj rfl)) (hd 17 _ rfl (aj rfl))) (congrArg (Value.int .u64) (XW (JO.out 0 (by decide)) (JO.out 1 (by decide)) (JO.out 2 (by decide))))
          ·intro a w2 hB hF hd;exact aG <| aO (Go.aQ.bI rfl (hd 7 _ rfl (aj rfl)) (hd 18 _ rfl (aj rfl))) (congrArg (Value.int .u64) (dw))
          ·intro a w2 hB hF hd;exact aG <| lS rfl (hd 19 _ rfl (aj rfl))
         ·intro a w9 hB hF hS;have ha:=aK rfl rfl hF [_,_,_,_,_,_,_,_,_,_,_,_,_,_,_,_,_,_,_,_,_] rfl ⟨hS 0 _ rfl,hS 1 _ rfl,hS 2 _ rfl,hS 3 _ rfl,hS 4 _ rfl,hS 5 _ rfl,hS 6 _ rfl,hS 7 _ rfl,hS 8 _ rfl,hS 9 _ rfl,hS 10 _ rfl,hS 11 _ rfl,hS 12 _ rfl,hS 13 _ rfl,hS 14 _ rfl,hS 15 _ rfl,hS 16 _ rfl,hS 17 _ rfl,hS 18 _ rfl,hS 19 _ rfl,hS 20 _ rfl,trivial⟩;simp only [puts,Act.put,dS,dU,dV] at ha;subst ha;clear hS hF;have xD:=ny.trans (hB.mono hs8);obtain ⟨two,LU⟩:∃two,two=Rv (V 0) (V 1) (V 2):=⟨_,rfl⟩
          rw [<-LU];have akR:=ak LU;clear hB LU ny hs8;go_upto_region 34 with (fail)
          refine aT (n:=259) (by kernel_rfl) (by kernel_rfl) (by kernel_rfl) rfl
           (fun ii vv _=> (match ii with | 0=> vv=.int .u64 (V 3) | 1=> vv=.int .u64 (one) | 2 | 3=> vv=.int .u64 ((V 3+one) % cO) | _=> True))
           (fun w w'=> Below w.heap.size w w') (fun _ _ h=> h) (fun _ _ _ _ h _=> h) ?_ ?_
          ·refine dD ?_;refine ⟨?_,?_,?_,?_,trivial⟩
           ·intro a w2 hB hF hd;exact aG <| bJ rfl (hF.same 14 rfl)
           ·intro a w2 hB hF hd;exact aG <| bJ rfl (hF.same 20 rfl)
           ·intro a w2 hB hF hd;exact aG <| aO (Go.aQ.bI rfl (hd 0 _ rfl (aj rfl)) (hd 1 _ rfl (aj rfl))) (congrArg (Value.int .u64) (dw))
           ·intro a w2 hB hF hd;exact aG <| lS rfl (hd 2 _ rfl (aj rfl))
          ·intro a wa hB hF hS;have ha:=aK rfl rfl hF [_,_,_,_] rfl ⟨hS 0 _ rfl,hS 1 _ rfl,hS 2 _ rfl,hS 3 _ rfl,trivial⟩;simp only [puts,Act.put,dS,dU,dV] at ha;subst ha;clear hS hF;have hba:=xD.trans (hB.mono xD.size);obtain ⟨ne,hne⟩:∃ne,ne=(V 3+one) % cO:=⟨_,rfl⟩
           rw [<-hne];have HNE:=ak hne;clear hB hne xD;go_upto_region 38 with (fail)
           refine aT (n:=259) (by kernel_rfl) (by kernel_rfl) (by kernel_rfl) rfl
            (fun ii vv _=> (match ii with | 0=> vv=.int .u64 (one) | 1=> vv=.int .u64 (two) | 2 | 3=> vv=.int .u64 ((one+two) % cO) | _=> True))
            (fun w w'=> Below w.heap.size w w') (fun _ _ h=> h) (fun _ _ _ _ h _=> h) ?_ ?_
           ·refine dD ?_;refine ⟨?_,?_,?_,?_,trivial⟩
            ·intro a w2 hB hF hd;exact aG <| bJ rfl (hF.same 20 rfl)
            ·intro a w2 hB hF hd;exact aG <| bJ rfl (hF.same 21 rfl)
            ·intro a w2 hB hF hd;exact aG <| aO (Go.aQ.bI rfl (hd 0 _ rfl (aj rfl)) (hd 1 _ rfl (aj rfl))) (congrArg (Value.int .u64) (dw))
            ·intro a w2 hB hF hd;exact aG <| lS rfl (hd 2 _ rfl (aj rfl))
           ·intro a wb hB hF hS;have ha:=aK rfl rfl hF [_,_,_,_] rfl ⟨hS 0 _ rfl,hS 1 _ rfl,hS 2 _ rfl,hS 3 _ rfl,trivial⟩;simp only [puts,Act.put,dS,dU,dV] at ha;subst ha;clear hS hF;have hbb:=hba.trans (hB.mono hba.size);obtain ⟨na,hna⟩:∃na,na=(one+two) % cO:=⟨_,rfl⟩
            rw [<-hna];have HNA:=ak hna;clear hB hna hba;go_wp2;go_roundw
            case rel=>
             have r0:Value.int .u64 na=.int .u64 (gM kK W S (t+1) 0):=congrArg (Value.int .u64) (by rw [<-Zd.out 0,HNA.out,agT.out,akR.out];rfl);have r1:Value.int .u64 (V 0)=.int .u64 (gM kK W S (t+1) 1):=congrArg (Value.int .u64) (by rw [<-Zd.out 1];rfl);have r2:Value.int .u64 (V 1)=.int .u64 (gM kK W S (t+1) 2):=congrArg (Value.int .u64) (by rw [<-Zd.out 2];rfl);have r3:Value.int .u64 (V 2)=.int .u64 (gM kK W S (t+1) 3):=congrArg (Value.int .u64) (by rw [<-Zd.out 3];rfl);have r4:Value.int .u64 ne=.int .u64 (gM kK W S (t+1) 4):=congrArg (Value.int .u64) (by rw [<-Zd.out 4,HNE.out,agT.out];rfl);have r5:Value.int .u64 (V 4)=.int .u64 (gM kK W S (t+1) 5):=congrArg (Value.int .u64) (by rw [<-Zd.out 5];rfl);have r6:Value.int .u64 (V 5)=.int .u64 (gM kK W S (t+1) 6):=congrArg (Value.int .u64) (by rw [<-Zd.out 6];rfl);have r7:Value.int .u64 (V 6)=.int .u64 (gM kK W S (t+1) 7):=congrArg (Value.int .u64) (by rw [<-Zd.out 7];rfl)
             first | exact ⟨t+1,by omega,by go_num,r0,r1,r2,r3,r4,r5,r6,r7,hbb⟩ | ((repeat apply Exists.intro);exact ⟨⟨t+1,by omega,by go_num,r0,r1,r2,r3,r4,r5,r6,r7,hbb⟩,rfl⟩)
            case measure=> simp [intOf] <;> omega
       ·obtain rfl:t=80:=by omega
        have ZN:Hid (∀i,i<8->wr.cell? ⟨sb,so+i,none⟩=some (.int .u64 (S i))):=fun i hi=> (hbt.cell (p:=⟨sb,so+i,none⟩) hsl).trans (HSc.out i hi);have hsl2:sb<wr.heap.size:=tN hsl hst;have HGV:Hid (∀i,(S i+V i) % cO=G i):=by rw [HVE.out];exact HG.out
        have afB:=abP.trans (hbt.mono abP.size);clear hbt hst abP Zd HKc HWc HSc;go_upto_region 39 with (fail)
        refine gB (n:=259) 41 (by decide) (by kernel_rfl) (by kernel_rfl) (by kernel_rfl) (by kernel_rfl) rfl
         (fun ii vv ww=> (match ii with | 0 | 5 | 10 | 15 | 20 | 25 | 30 | 35=> vv=.slice (some ⟨sb,so,none⟩) 8 sc | 1=> vv=.pointer (some ⟨sb,so+0,none⟩) | 2=> vv=.int .u64 (S 0) | 3=> vv=.int .u64 (V 0) | 4=> vv=.int .u64 ((S 0+V 0) % cO) | 6=> vv=.pointer (some ⟨sb,so+1,none⟩) | 7=> vv=.int .u64 (S 1) | 8=> vv=.int .u64 (V 1) | 9=> vv=.int .u64 ((S 1+V 1) % cO) | 11=> vv=.pointer (some ⟨sb,so+2,none⟩) | 12=> vv=.int .u64 (S 2) | 13=> vv=.int .u64 (V 2) | 14=> vv=.int .u64 ((S 2+V 2) % cO) | 16=> vv=.pointer (some ⟨sb,so+3,none⟩) | 17=> vv=.int .u64 (S 3) | 18=> vv=.int .u64 (V 3) | 19=> vv=.int .u64 ((S 3+V 3) % cO) | 21=> vv=.pointer (some ⟨sb,so+4,none⟩) | 22=> vv=.int .u64 (S 4) | 23=> vv=.int .u64 (V 4) | 24=> vv=.int .u64 ((S 4+V 4) % cO) | 26=> vv=.pointer (some ⟨sb,so+5,none⟩) | 27=> vv=.int .u64 (S 5) | 28=> vv=.int .u64 (V 5) | 29=> vv=.int .u64 ((S 5+V 5) % cO) | 31=> vv=.pointer (some ⟨sb,so+6,none⟩) | 32=> vv=.int .u64 (S 6) | 33=> vv=.int .u64 (V 6) | 34=> vv=.int .u64 ((S 6+V 6) % cO) | 36=> vv=.pointer (some ⟨sb,so+7,none⟩) | 37=> vv=.int .u64 (S 7) | 38=> vv=.int .u64 (V 7) | 39=> vv=.int .u64 ((S 7+V 7) % cO) | _=> True)/\(ii=40->Rd .u64 ww vv 8 (fun i=> (S i+V i) % cO)))
         (fun i v w w' h hE=> ⟨h.1,fun e=> Rd.below (h.2 e) hE⟩) ?_ ?_
        ·refine dD ?_;refine ⟨?_,?_,?_,?_,?_,?_,?_,?_,?_,?_,?_,?_,?_,?_,?_,?_,?_,?_,?_,?_,?_,?_,?_,?_,?_,?_,?_,?_,?_,?_,?_,?_,?_,?_,?_,?_,?_,?_,?_,?_,?_,(aF),trivial⟩
         ·intro _ a w2 hB hF hd;exact aG <| bJ rfl ⟨(hF.same 5 rfl),aF⟩
         ·intro _ a w2 hB hF hd;exact aG <| aO (bD rfl ((hd 0 _ rfl (aj rfl)).1) rfl BO (by kernel_rfl) (by omega) (by omega)) ⟨rfl,aF⟩
         ·intro _ a w2 hB hF hd;exact aG <| aO (aJ rfl ((hd 1 _ rfl (aj rfl)).1) ql ((hB.cell (p:=⟨sb,so+0,none⟩) hsl2).trans (ZN.out 0 (by decide)))) ⟨rfl,aF⟩
         ·intro _ a w2 hB hF hd;exact aG <| bJ rfl ⟨(hF.same 11 rfl),aF⟩
         ·intro _ a w2 hB hF hd;exact aG <| aO (Go.aQ.bI rfl ((hd 2 _ rfl (aj rfl)).1) ((hd 3 _ rfl (aj rfl)).1)) ⟨(congrArg (Value.int .u64) (dw)),aF⟩
         ·intro _ a w2 hB hF hd;exact aG <| bJ rfl ⟨(hF.same 5 rfl),aF⟩
         ·intro _ a w2 hB hF hd;exact aG <| aO (bD rfl ((hd 5 _ rfl (aj rfl)).1) rfl BO (by kernel_rfl) (by omega) (by omega)) ⟨rfl,aF⟩
         ·intro _ a w2 hB hF hd;exact aG <| aO (aJ rfl ((hd 6 _ rfl (aj rfl)).1) ql ((hB.cell (p:=⟨sb,so+1,none⟩) hsl2).trans (ZN.out 1 (by decide)))) ⟨rfl,aF⟩
         ·intro _ a w2 hB hF hd;exact aG <| bJ rfl ⟨(hF.same 12 rfl),aF⟩
         ·intro _ a w2 hB hF hd;exact aG <| aO (Go.aQ.bI rfl ((hd 7 _ rfl (aj rfl)).1) ((hd 8 _ rfl (aj rfl)).1)) ⟨(congrArg (Value.int .u64) (dw)),aF⟩
         ·intro _ a w2 hB hF hd;exact aG <| bJ rfl ⟨(hF.same 5 rfl),aF⟩
         ·intro _ a w2 hB hF hd;exact aG <| aO (bD rfl ((hd 10 _ rfl (aj rfl)).1) rfl BO (by kernel_rfl) (by omega) (by omega)) ⟨rfl,aF⟩
         ·intro _ a w2 hB hF hd;exact aG <| aO (aJ rfl ((hd 11 _ rfl (aj rfl)).1) ql ((hB.cell (p:=⟨sb,so+2,none⟩) hsl2).trans (ZN.out 2 (by decide)))) ⟨rfl,aF⟩
         ·intro _ a w2 hB hF hd;exact aG <| bJ rfl ⟨(hF.same 13 rfl),aF⟩
         ·intro _ a w2 hB hF hd;exact aG <| aO (Go.aQ.bI rfl ((hd 12 _ rfl (aj rfl)).1) ((hd 13 _ rfl (aj rfl)).1)) ⟨(congrArg (Value.int .u64) (dw)),aF⟩
         ·intro _ a w2 hB hF hd;exact aG <| bJ rfl ⟨(hF.same 5 rfl),aF⟩
         ·intro _ a w2 hB hF hd;exact aG <| aO (bD rfl ((hd 15 _ rfl (aj rfl)).1) rfl BO (by kernel_rfl) (by omega) (by omega)) ⟨rfl,aF⟩
         ·intro _ a w2 hB hF hd;exact aG <| aO (aJ rfl ((hd 16 _ rfl (aj rfl)).1) ql ((hB.cell (p:=⟨sb,so+3,none⟩) hsl2).trans (ZN.out 3 (by decide)))) ⟨rfl,aF⟩
         ·intro _ a w2 hB hF hd;exact aG <| bJ rfl ⟨(hF.same 14 rfl),aF⟩
         ·intro _ a w2 hB hF hd;exact aG <| aO (Go.aQ.bI rfl ((hd 17 _ rfl (aj rfl)).1) ((hd 18 _ rfl (aj rfl)).1)) ⟨(congrArg (Value.int .u64) (dw)),aF⟩
         ·intro _ a w2 hB hF hd;exact aG <| bJ rfl ⟨(hF.same 5 rfl),aF⟩
         ·intro _ a w2 hB hF hd;exact aG <| aO (bD rfl ((hd 20 _ rfl (aj rfl)).1) rfl BO (by kernel_rfl) (by omega) (by omega)) ⟨rfl,aF⟩
         ·intro _ a w2 hB hF hd;exact aG <| aO (aJ rfl ((hd 21 _ rfl (aj rfl)).1) ql ((hB.cell (p:=⟨sb,so+4,none⟩) hsl2).trans (ZN.out 4 (by decide)))) ⟨rfl,aF⟩
         ·intro _ a w2 hB hF hd;exact aG <| bJ rfl ⟨(hF.same 15 rfl),aF⟩
         ·intro _ a w2 hB hF hd;exact aG <| aO (Go.aQ.bI rfl ((hd 22 _ rfl (aj rfl)).1) ((hd 23 _ rfl (aj rfl)).1)) ⟨(congrArg (Value.int .u64) (dw)),aF⟩
         ·intro _ a w2 hB hF hd;exact aG <| bJ rfl ⟨(hF.same 5 rfl),aF⟩
         ·intro _ a w2 hB hF hd;exact aG <| aO (bD rfl ((hd 25 _ rfl (aj rfl)).1) rfl BO (by kernel_rfl) (by omega) (by omega)) ⟨rfl,aF⟩
         ·intro _ a w2 hB hF hd;exact aG <| aO (aJ rfl ((hd 26 _ rfl (aj rfl)).1) ql ((hB.cell (p:=⟨sb,so+5,none⟩) hsl2).trans (ZN.out 5 (by decide)))) ⟨rfl,aF⟩
         ·intro _ a w2 hB hF hd;exact aG <| bJ rfl ⟨(hF.same 16 rfl),aF⟩
         ·intro _ a w2 hB hF hd;exact aG <| aO (Go.aQ.bI rfl ((hd 27 _ rfl (aj rfl)).1) ((hd 28 _ rfl (aj rfl)).1)) ⟨(congrArg (Value.int .u64) (dw)),aF⟩
         ·intro _ a w2 hB hF hd;exact aG <| bJ rfl ⟨(hF.same 5 rfl),aF⟩
         ·intro _ a w2 hB hF hd;exact aG <| aO (bD rfl ((hd 30 _ rfl (aj rfl)).1) rfl BO (by kernel_rfl) (by omega) (by omega)) ⟨rfl,aF⟩
         ·intro _ a w2 hB hF hd;exact aG <| aO (aJ rfl ((hd 31 _ rfl (aj rfl)).1) ql ((hB.cell (p:=⟨sb,so+6,none⟩) hsl2).trans (ZN.out 6 (by decide)))) ⟨rfl,aF⟩
         ·intro _ a w2 hB hF hd;exact aG <| bJ rfl ⟨(hF.same 17 rfl),aF⟩
         ·intro _ a w2 hB hF hd;exact aG <| aO (Go.aQ.bI rfl ((hd 32 _ rfl (aj rfl)).1) ((hd 33 _ rfl (aj rfl)).1)) ⟨(congrArg (Value.int .u64) (dw)),aF⟩
         ·intro _ a w2 hB hF hd;exact aG <| bJ rfl ⟨(hF.same 5 rfl),aF⟩
         ·intro _ a w2 hB hF hd;exact aG <| aO (bD rfl ((hd 35 _ rfl (aj rfl)).1) rfl BO (by kernel_rfl) (by omega) (by omega)) ⟨rfl,aF⟩
         ·intro _ a w2 hB hF hd;exact aG <| aO (aJ rfl ((hd 36 _ rfl (aj rfl)).1) ql ((hB.cell (p:=⟨sb,so+7,none⟩) hsl2).trans (ZN.out 7 (by decide)))) ⟨rfl,aF⟩
         ·intro _ a w2 hB hF hd;exact aG <| bJ rfl ⟨(hF.same 18 rfl),aF⟩
         ·intro _ a w2 hB hF hd;exact aG <| aO (Go.aQ.bI rfl ((hd 37 _ rfl (aj rfl)).1) ((hd 38 _ rfl (aj rfl)).1)) ⟨(congrArg (Value.int .u64) (dw)),aF⟩
         ·intro _ a w2 hB hF hd;exact aG <| dW 129 132 8 _ [.int .u64 ((S 0+V 0) % cO),.int .u64 ((S 1+V 1) % cO),.int .u64 ((S 2+V 2) % cO),.int .u64 ((S 3+V 3) % cO),.int .u64 ((S 4+V 4) % cO),.int .u64 ((S 5+V 5) % cO),.int .u64 ((S 6+V 6) % cO),.int .u64 ((S 7+V 7) % cO)] rfl BO (by kernel_rfl) (by kernel_rfl) rfl (by decide) (by decide) (by intro v hv;simp only [List.mem_cons,List.not_mem_nil,or_false] at hv;rcases hv with rfl | rfl | rfl | rfl | rfl | rfl | rfl | rfl<;> rfl) (by simp only [qy,List.map_cons,List.map_nil,show a.eval (Operand.tmp 198)=.int .u64 ((S 0+V 0) % cO) from ((hd 4 _ rfl (aj rfl)).1),show a.eval (Operand.tmp 203)=.int .u64 ((S 1+V 1) % cO) from ((hd 9 _ rfl (aj rfl)).1),show a.eval (Operand.tmp 208)=.int .u64 ((S 2+V 2) % cO) from ((hd 14 _ rfl (aj rfl)).1),show a.eval (Operand.tmp 213)=.int .u64 ((S 3+V 3) % cO) from ((hd 19 _ rfl (aj rfl)).1),show a.eval (Operand.tmp 218)=.int .u64 ((S 4+V 4) % cO) from ((hd 24 _ rfl (aj rfl)).1),show a.eval (Operand.tmp 223)=.int .u64 ((S 5+V 5) % cO) from ((hd 29 _ rfl (aj rfl)).1),show a.eval (Operand.tmp 228)=.int .u64 ((S 6+V 6) % cO) from ((hd 34 _ rfl (aj rfl)).1),show a.eval (Operand.tmp 233)=.int .u64 ((S 7+V 7) % cO) from ((hd 39 _ rfl (aj rfl)).1)];rfl) (by simp) ⟨trivial,fun _=> (Yc (f:=fun i=> (S i+V i) % cO))⟩
        ·intro a w8 hB hF hS;obtain ⟨adW,TU⟩:∃x,x=a.tmps.getD 234 undef:=⟨_,rfl⟩
         have akz:Rd .u64 w8 adW 8 (fun i=> (S i+V i) % cO):=by rw [TU];exact (hS 40 _ rfl (by decide)).2 rfl
         have ha:=aK rfl rfl hF [_,_,_,_,_,_,_,_,_,_,_,_,_,_,_,_,_,_,_,_,_,_,_,_,_,_,_,_,_,_,_,_,_,_,_,_,_,_,_,_,adW] rfl ⟨(hS 0 _ rfl (by decide)).1,(hS 1 _ rfl (by decide)).1,(hS 2 _ rfl (by decide)).1,(hS 3 _ rfl (by decide)).1,(hS 4 _ rfl (by decide)).1,(hS 5 _ rfl (by decide)).1,(hS 6 _ rfl (by decide)).1,(hS 7 _ rfl (by decide)).1,(hS 8 _ rfl (by decide)).1,(hS 9 _ rfl (by decide)).1,(hS 10 _ rfl (by decide)).1,(hS 11 _ rfl (by decide)).1,(hS 12 _ rfl (by decide)).1,(hS 13 _ rfl (by decide)).1,(hS 14 _ rfl (by decide)).1,(hS 15 _ rfl (by decide)).1,(hS 16 _ rfl (by decide)).1,(hS 17 _ rfl (by decide)).1,(hS 18 _ rfl (by decide)).1,(hS 19 _ rfl (by decide)).1,(hS 20 _ rfl (by decide)).1,(hS 21 _ rfl (by decide)).1,(hS 22 _ rfl (by decide)).1,(hS 23 _ rfl (by decide)).1,(hS 24 _ rfl (by decide)).1,(hS 25 _ rfl (by decide)).1,(hS 26 _ rfl (by decide)).1,(hS 27 _ rfl (by decide)).1,(hS 28 _ rfl (by decide)).1,(hS 29 _ rfl (by decide)).1,(hS 30 _ rfl (by decide)).1,(hS 31 _ rfl (by decide)).1,(hS 32 _ rfl (by decide)).1,(hS 33 _ rfl (by decide)).1,(hS 34 _ rfl (by decide)).1,(hS 35 _ rfl (by decide)).1,(hS 36 _ rfl (by decide)).1,(hS 37 _ rfl (by decide)).1,(hS 38 _ rfl (by decide)).1,(hS 39 _ rfl (by decide)).1,TU.symm,trivial⟩;simp only [puts,List.take_succ_cons,List.take_zero,Act.put,dS,dU,dV] at ha;subst ha;change tl _ _ _ (_:: []) _ _;clear TU;clear hS hF;refine kN rfl _ (.inr rfl) (nY ?_);have ny:=afB.trans (hB.mono afB.size);have hS8:=akz.congr (g:=dQ F (j+1)) (fun i _=> by rw [<-HGE.out];exact HGV.out i);clear hB;go_wp2;go_roundw
         case rel=> first | exact ⟨j+1,by omega,congrArg (Value.int .i64) (by have:=HJ.out;omega),hS8,ny⟩ | ((repeat apply Exists.intro);exact ⟨⟨j+1,by omega,congrArg (Value.int .i64) (by have:=HJ.out;omega),hS8,ny⟩,rfl⟩)
         case measure=> simp [intOf] <;> omega
  ·obtain rfl:j=NB:=by omega
   obtain ⟨sa,sc,rfl,z1,z2,_,z4⟩:=id hS;obtain ⟨sb,so,rfl,zl,zc⟩:=z4 (by decide);have HEQ:Hid (((128 * j:Nat):Int)=(N:Int)):=by have:=Wj.out.2;unfold Hid;omega
   have hge:¬ ((128 * j:Nat):Int)<(N:Int):=by rw [HEQ.out];omega
   have HZC:=ak zc;have hZw:=sG.kept hbw;have Ur:=dI.trans (hbw.mono dI.size);clear zc z4 hS hbw;go_upto_region 41 with (fail);refine aC (fun w1=> aD .u8 w1 wr.heap.size 64 (fun _=> 0)/\Dw w sb so (dQ F j) w1) ⟨bg rfl (by rfl),hZw.alloc _,fun i hi=> (Below.cell ((bA wr.heap.size wr).alloc (aP _) _) (p:=⟨sb,so+i,none⟩) zl).trans (HZC.out i hi),Ur.alloc Ur.size _⟩ ?_;rintro w1 ⟨hA1,Dc⟩;obtain ⟨bO,hbO⟩:∃bO,bO=wr.heap.size:=⟨_,rfl⟩
   have o1:w.heap.size<bO:=by rw [hbO];exact hZw.lt
   have o2:sb<bO:=by rw [hbO];exact zl
   obtain ⟨S,hSS⟩:∃S,S=dQ F j:=⟨_,rfl⟩
   have HS8:Hid (∀i,i<8->0<=S i/\S i<cO):=by rw [hSS];exact nT F j
   rw [<-hSS] at vN Dc;rw [<-hbO] at hA1 ⊢;clear hSS hbO HZC hZw Ur zl;go_wp2
   go_loopw [23] (fun i wx=> ∃m:Nat,m<=8/\i=.int .i64 (m:Int)/\aD .u8 wx bO 64 (upto (8 * m) SB (fun _=> 0))/\Dw w sb so S wx) (fun i _=> 8 - (intOf i).toNat)
   case atStart=> exact ⟨0,dR _,rfl,by rw [Nat.mul_zero,bF];exact hA1,Dc⟩
   case round=>
    clear hA1 Dc;obtain ⟨m,hm,rfl,hA,hR⟩:=hrel;by_cases hlt:m<8
    ·obtain ⟨x,hx⟩:∃x,x=S m:=⟨_,rfl⟩
     have x0:=HS8.out m hlt;rw [<-hx] at x0;have HX:=ak hx;obtain ⟨x0,x1⟩:=x0;unfold cO at x1;obtain ⟨wy,hwy⟩:∃wy,wy=wr:=⟨_,rfl⟩
     subst hwy;clear hx;go_wp2
     go_loopw [24,25] (fun s i wz=> ∃(k:Nat) (p:Int),k<=8/\i=.int .i64 (k:Int)/\s=.int .u64 p/\Hid (p=72057594037927936 / 256 ^ k)/\0<=p/\p<=72057594037927936/\aD .u8 wz bO 64 (upto (8 * m+k) SB (fun _=> 0))/\Dw w sb so S wz) (fun _ i _=> 8 - (intOf i).toNat)
     case atStart=> exact ⟨0,_,dR _,rfl,rfl,by unfold Hid;rfl,by decide,by decide,hA,hR⟩
     case round=>
      clear hA hR;obtain ⟨k,p,hk,rfl,rfl,hp,p0,p1,hA,hR⟩:=hrel;by_cases hlt2:k<8
      ·have hc:wr.cell? ⟨sb,so+m,none⟩=some (.int .u64 x):=by rw [HX.out];exact hR.2.1 m hlt
       have hc2:=hA.cell (8 * m+k) (by omega);have hf2:=hA.free (8 * m+k);have HA:=ak hA;have HR:=ak hR;have hp2:Hid (p=2 ^ (8 * (7 - k))):=by unfold Hid;rw [hp.out,Gy hlt2]
       have pp:0<p:=by rw [hp2.out];exact Int.pow_pos (by decide)
       obtain ⟨q,hq⟩:∃q,q=x / p:=⟨_,rfl⟩
       have hqt:x.tdiv p=q:=by rw [Int.tdiv_eq_ediv_of_nonneg x0,hq]
       have hqd:x / p=q:=hq.symm;have q0:0<=q:=by rw [hq];exact Int.ediv_nonneg x0 p0
       have q1:q<=x:=by rw [hq];exact Int.ediv_le_self _ x0
       have hpt:p.tdiv 256=p / 256:=Int.tdiv_eq_ediv_of_nonneg p0;have HFK:Hid (q % 256=SB (8 * m+k)):=by
        unfold Hid;rw [<-vN.out,hq,hp2.out,HX.out,show (8 * m+k) / 8=m by omega,show (8 * m+k) % 8=k by omega]
       have HPN:Hid (p / 256=72057594037927936 / 256 ^ (k+1)):=by unfold Hid;rw [hp.out,zm]
       clear hq hA hR;go_wp2;go_roundw
       case rel=> exact ⟨k+1,_,by omega,by go_num,rfl,HPN,by omega,by omega,by rw [show 8 * m+(k+1)=8 * m+k+1 from rfl,←aY (j:=8 * m+k) (x:=q % 256) HFK.out];exact HA.out.set _ _,HR.out.set o1 o2 _ _⟩
       case measure=> simp [intOf] <;> omega
      ·obtain rfl:k=8:=by omega
       go_wp2;go_roundw
       case rel=> exact ⟨m+1,by omega,by go_num,hA,hR⟩
       case measure=> simp [intOf] <;> omega
    ·obtain rfl:m=8:=by omega
     have hA2:aD .u8 wr bO 64 SB:=hA.congr (bP SB _ (aP _));obtain ⟨hZ,_,hbel⟩:=hR;clear hA
     go_wp2_with (first
      | (refine aM rfl 47 _ rfl .u8 bO 64 SB 5 Tryz.underlying47 FV rfl hA2 ?_)
      | (refine aH rfl 47 _ _ rfl .u8 w.heap.size 64 (fun _=> 0) SB FV rfl rfl hZ ?_))
     exact bodyPost_ret (aV rfl _ _ .u8 w.heap.size 64 _ 5 rfl (hZ.setRow 64 SB) Tryz.underlying47 FV) rfl ⟨rfl,ay hbel (aP _) _⟩
end Go.Proofs.YtpcjekgfnfjbpaaGreat
