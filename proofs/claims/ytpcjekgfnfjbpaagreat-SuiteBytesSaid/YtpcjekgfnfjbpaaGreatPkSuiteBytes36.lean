/- Part 36 of SuiteBytes; conditions: in each theorem. -/
import Derived.Test.YtpcjekgfnfjbpaaGreatPkSuiteBytes35
import Derived.Test.YtpcjekgfnfjbpaaGreatPkSuiteBytes17
import Derived.Deep.Cut
import Derived.Deep.LoopGhost
set_option linter.unusedVariables false
set_option linter.unusedSimpArgs false
set_option maxRecDepth 100000
set_option maxHeartbeats 6400000
namespace Go.Proofs.YtpcjekgfnfjbpaaGreat
open Go.RowKit Go.bC
attribute [local go_sem ↓] Go.wp_at_zero Go.wp_at_succ
theorem TV:∀i,i<16->upd (upd (fun _=>65535) 0 65517) 15 32767 i=dg 65536 Pr i:=by
 have key:∀i:Fin 16,upd (upd (fun _=>65535) 0 65517) 15 32767 i.val=dg 65536 Pr i.val:=by decide
 exact fun i h=>key ⟨i,h⟩
theorem AY (w:World):
  Calls Tryz.prog 130 #[] w fun e w'=>
   ∃v,e=.returned v/\Own .i64 3 w.heap.size w' v 16 (dg 65536 Pr)/\Below w.heap.size w w':=by
 go_enter Tryz.func130,Tryz.ntmps130
 go_wp2
 go_loopw [1,2] (fun v i wr=> ∃j:Nat,j<=16/\i=.int .i64 j/\Own .i64 3 w.heap.size wr v j (fun _=>65535)/\Below w.heap.size w wr) (fun _ i _=>16 - (intOf i).toNat)
 case atStart=>exact⟨0,gX _,rfl,Own.nil _ _ _ _ _,bT _ _⟩
 case round=>
  obtain⟨j,hj,rfl,ho,aA⟩:=hrel;have HO:=ak ho;have fD:=aA.size;clear ho;by_cases hlt:j<16
  ·go_wp2_with (at_builtin;refine cO rfl _ _ 142 rfl w.heap.size 3 .i64 8 uP xJ _ j (fun _=>65535) _ _ rfl HO.out rfl 1 rfl rfl ?_ aH aH fD ?_;rotate_right;intro v' w1 bM bA)
   ·go_roundw
    case rel=>exact⟨j+1,by omega,by go_num,bM,below_grown (aA.alloc fD _) bA HO.out (by simp;omega) (bB _)⟩
    case measure=>simp[intOf] <;> omega
   ·intro i hi;exact jU hi rfl
  ·obtain rfl:j=16:=by omega
   obtain⟨g,c,rfl,hg0,hgl,hc16,hcc,hcell,hfree⟩:=HO.out.form aN;have e0:=hcell 0 aN;have e15:=hcell 15 aN;have f0:=hfree 0;have f15:=hfree 15;clear hcell hfree;go_wp2;go_ret;exact⟨_,rfl,((HO.out.store 0 _).store 15 _).congr TV,(aA.setCell hg0 _).setCell hg0 _⟩
theorem FZ {n:Int} (h0:0<=n) (h1:n<65536):∀i,i<16->upd (fun _=>0) 0 n i=dg 65536 n i:=by
 intro i _;by_cases e:i=0
 ·subst e;rw[kQ,OW];omega
 ·rw[upd_ne _ _ e,mJ ⟨h0,Int.lt_of_lt_of_le h1 (jg 65536 aN 1 i aH)⟩]
theorem AX (n:Int) (h0:0<=n) (h1:n<65536) (w:World):
  Calls Tryz.prog 123 #[.int .i64 n] w fun e w'=>
   ∃v,e=.returned v/\Own .i64 3 w.heap.size w' v 16 (dg 65536 n)/\Below w.heap.size w w':=by
 go_enter Tryz.func123,Tryz.ntmps123
 go_upto_region 2 with(refine iB rfl _ _ 142 rfl w.heap.size 3 .i64 8 uP xJ .i64 .i64 16 rfl rfl aN aN (bB _) ?_;intro w1 bM bA);have eP:Below w.heap.size w w1:=dW (bT _ _) bA (bB _);have hcell:=(bM.form aN)
 obtain⟨g,c,he,hg0,hgl,hc16,hcc,hcell,hfree⟩:=hcell;simp only[DV,CO,Addr.mk.injEq] at he;obtain⟨⟨rfl,q1⟩,q2⟩:=he;have e0:=hcell 0 aN;have f0:=hfree 0;have HO:=ak bM;clear hcell hfree q1 q2 bA bM;go_wp2;go_ret;exact⟨_,rfl,(HO.out.store 0 n).congr (FZ h0 h1),eP.setCell (bB _) _⟩
theorem BQ (v:Value) (X:Int) (n:Nat) (hn:n<=1000) (hX:0<=X/\X<65536 ^ n) (w:World) (hv:Rd .i64 w v n (dg 65536 X)):
  Calls Tryz.prog 178 #[v] w fun e w'=>
   ∃v,e=.returned v/\Own .i64 3 w.heap.size w' v 16 (dg 65536 (X % Pr))/\Below w.heap.size w w':=by
 have HV:=ak hv;have HX:=ak hX;clear hv hX
 go_enter Tryz.func178,Tryz.ntmps178
 go_wp2_with (at_builtin;refine fH rfl _ _ 142 rfl w.heap.size 3 .i64 8 uP xJ _ 0 (dg 65536 X) (Own.nil _ _ _ _ _) rfl _ n (dg 65536 X) HV.out rfl (fun i _=>by rw[oD]) aH aH (bB _) ?_;intro v1 w1 bM bA);have eP:Below w.heap.size w w1:=dW (bT _ _) bA (bB _);rw[oD] at bM;clear bA
 go_loopg [3] X.toNat (fun gh x wr=> ∃(m:Nat) (Y:Int),m<=1000/\0<=Y/\Y<65536 ^ m/\Y % Pr=X % Pr/\gh=Y.toNat/\Own .i64 3 w.heap.size wr x m (dg 65536 Y)/\Below w.heap.size w wr)
 case atStart=>exact⟨n,X,hn,HX.out.1,HX.out.2,rfl,rfl,bM,eP⟩
 case round=>
  obtain⟨m,Y,hm,y0,y1,hY,hgh,ho,aA⟩:=hrel;have hsz0:=aA.size;have HY:=ak hY;have Lh:=ak (show 0<=Y/\Y<65536 ^ m from⟨y0,y1⟩);have HG:=ak hgh;clear hY y0 y1 hgh bM eP;have HO:=ak ho;clear ho;go_wp2
  go_loopg [3] (17 - m) (fun g2 x wr=> ∃m:Nat,m<=1000/\g2=17 - m/\0<=Y/\Y<65536 ^ m/\Own .i64 3 w.heap.size wr x m (dg 65536 Y)/\Below w.heap.size w wr)
  case atStart=>exact⟨m,hm,rfl,Lh.out.1,Lh.out.2,HO.out,aA⟩
  case round=>
   clear HO Lh aA hsz0 hm;clear m;obtain⟨m,hm,hg2,y0,y1,ho,aA⟩:=hrel;have Lh:=ak (show 0<=Y/\Y<65536 ^ m from⟨y0,y1⟩);have HG2:=ak hg2;have HO:=ak ho;have fD:=aA.size;clear y0 y1 hg2 ho;by_cases hlt:m<17
   ·obtain⟨ax,cx,rfl,lx,mx,zx,hx⟩:=HO.out.rd;clear zx hx;go_wp2_with (at_builtin;refine cO rfl _ _ 142 rfl w.heap.size 3 .i64 8 uP xJ _ m (dg 65536 Y) _ _ rfl HO.out rfl 1 rfl rfl ?_ aH aH fD ?_;rotate_right;intro v' w1 bM bA)
    ·go_roundg (17 - (m+1))
     case rel=>exact⟨m+1,by omega,rfl,Lh.out.1,Int.lt_of_lt_of_le Lh.out.2 (jg 65536 aN _ _ aH),bM,below_grown (aA.alloc fD _) bA HO.out (by simp;omega) (bB _)⟩
     case measure=>have:=HG2.out;omega
    ·intro i hi;exact jU hi (by rw[show m+i=m by omega,mJ Lh.out])
   ·obtain⟨ax,cx,rfl,lx,mx,zx,hx⟩:=HO.out.rd;obtain⟨bx,ox,rfl,lbx,hcx⟩:=hx aH;have HCX:=ak hcx;clear zx hx hcx;have ajN:17<=m:=by omega
    obtain⟨wa,rfl⟩:∃wa:World,wa=wr:=⟨_,rfl⟩
    obtain⟨H,hH⟩:∃H,H=Y / 2 ^ 255:=⟨_,rfl⟩
    have HHB:=ak (Vl Lh.out ajN);rw[<-hH] at HHB;have HHE:=ak hH;clear hH HO;go_wp2
    go_loopw [4,5] (fun h i wr=> ∃j:Nat,15+j<=m/\i=.int .i64 (15+j:Nat)/\Own .i64 3 wa.heap.size wr h j (dg 65536 H)/\Below wa.heap.size wa wr) (fun _ i _=>m - (intOf i).toNat)
    case atStart=>exact⟨0,by omega,rfl,Own.nil _ _ _ _ _,bT _ _⟩
    case round=>
     obtain⟨j,hj,rfl,ho,hb⟩:=hrel;have HO:=ak ho;have hsz2:=hb.size;clear ho;by_cases hlt2:15+j<m
     ·have c1:=(hb.cell (p:=⟨bx,ox+(15+j),none⟩) lbx).trans (HCX.out (15+j) hlt2);obtain⟨x0,x1⟩:=aV (by decide:(0:Int)<65536) Y (15+j);obtain⟨y0,y1⟩:=aV (by decide:(0:Int)<65536) Y (16+j);have hd:=Vk Y j;rw[<-HHE.out] at hd;have HD:=ak hd;clear hd;by_cases hlt3:16+j<m
      ·have c2:wr.cell? ⟨bx,ox+(15+j+1),none⟩=some (.int .i64 (dg 65536 Y (16+j))):=by
        rw[show 16+j=15+j+1 by omega];exact(hb.cell (p:=⟨bx,ox+(15+j+1),none⟩) lbx).trans (HCX.out (15+j+1) aH)
       go_wp2_with (at_builtin;refine cO rfl _ _ 142 rfl wa.heap.size 3 .i64 8 uP xJ _ j (dg 65536 H) _ _ rfl HO.out rfl 1 rfl rfl ?_ aH aH hsz2 ?_;rotate_right;intro v' w1 bM bA)
       ·go_roundw
        case rel=>exact⟨j+1,by omega,by go_num,bM,below_grown (hb.alloc hsz2 _) bA HO.out (by simp;omega) (bB _)⟩
        case measure=>simp[intOf] <;> omega
       ·intro i hi;exact jU hi (by rw[show j+i=j by omega];exact HD.out)
      ·have hz:Hid (dg 65536 Y (16+j)=0):=mJ ⟨Lh.out.1,Int.lt_of_lt_of_le Lh.out.2 (jg 65536 aN _ _ aH)⟩;go_wp2_with (at_builtin;refine cO rfl _ _ 142 rfl wa.heap.size 3 .i64 8 uP xJ _ j (dg 65536 H) _ _ rfl HO.out rfl 1 rfl rfl ?_ aH aH hsz2 ?_;rotate_right;intro v' w1 bM bA)
       ·go_roundw
        case rel=>exact⟨j+1,by omega,by go_num,bM,below_grown (hb.alloc hsz2 _) bA HO.out (by simp;omega) (bB _)⟩
        case measure=>simp[intOf] <;> omega
       ·intro i hi;exact jU hi (by rw[show j+i=j by omega];have:=HD.out;have:=hz.out;omega)
     ·obtain rfl:m=15+j:=by omega
      obtain⟨ah,ch,rfl,lh,mh,zh,hh⟩:=HO.out.rd;obtain⟨bh,oh,rfl,lbh,hch⟩:=hh aH;have HCH:=ak hch;clear zh hh hch;obtain⟨wb,rfl⟩:∃wb:World,wb=wr:=⟨_,rfl⟩
      have HBA:=ak hb;clear hb;have hHj:0<=H/\H<65536 ^ j:=by have:=HHB.out;rwa [show 15+j - 15=j by omega] at this
      have HHJ:=ak hHj;clear hHj;go_wp2
      go_loop [7,8] (fun zf i=> ∃(k:Nat) (b:Bool),k<=j/\i=.int .i64 k/\zf=.bool b/\(b=true ↔ H % 65536 ^ k=0)) (fun _ i=>j - (intOf i).toNat)
      case atStart=>exact⟨0,true,gX _,rfl,rfl,by simp[Int.emod_one]⟩
      case round=>
       obtain⟨k,b,hk,rfl,rfl,hb⟩:=hrel;have ZQ:=ak hb;clear hb;by_cases ajQ:k<j
       ·have c1:=HCH.out k ajQ;obtain⟨x0,x1⟩:=aV (by decide:(0:Int)<65536) H k;obtain⟨d,hd⟩:∃d,d=dg 65536 H k:=⟨_,rfl⟩
        rw[<-hd] at c1 x0 x1;have HD:=ak hd;clear hd;by_cases hp:0<d
        ·go_wp2
         go_round
         case rel=>exact⟨k+1,false,by omega,by go_num,rfl,by rw[OL,←HD.out];simp;omega⟩
         case measure=>simp[intOf] <;> omega
        ·go_wp2
         go_round
         case rel=>exact⟨k+1,b,by omega,by go_num,rfl,by rw[OL,←HD.out,ZQ.out];simp;omega⟩
         case measure=>simp[intOf] <;> omega
       ·obtain rfl:k=j:=by omega
        obtain⟨L,hL⟩:∃L,L=Y % 2 ^ 255:=⟨_,rfl⟩
        have HLE:=ak hL;have hLb:=GK Y;rw[<-hL] at hLb;have HLB:=ak hLb;clear hL hLb;go_wp2
        go_loopw [9,10] (fun h i wr=> ∃i':Nat,i'<=15/\i=.int .i64 i'/\Own .i64 3 wb.heap.size wr h i' (dg 65536 L)/\Below wb.heap.size wb wr) (fun _ i _=>15 - (intOf i).toNat)
        case atStart=>exact⟨0,gX _,rfl,Own.nil _ _ _ _ _,bT _ _⟩
        case round=>
         obtain⟨i,hi,rfl,ho,hb⟩:=hrel;have HO:=ak ho;have QO:=hb.size;clear ho;have hba:=HBA.out.size;by_cases ajP:i<15
         ·have c1:=(hb.cell (p:=⟨bx,ox+i,none⟩) (by show bx<_;omega)).trans ((HBA.out.cell (p:=⟨bx,ox+i,none⟩) lbx).trans (HCX.out i aH));have HD:=ak (Ux Y ajP);rw[<-HLE.out] at HD;go_wp2_with (at_builtin;refine cO rfl _ _ 142 rfl wb.heap.size 3 .i64 8 uP xJ _ i (dg 65536 L) _ _ rfl HO.out rfl 1 rfl rfl ?_ aH aH QO ?_;rotate_right;intro v' w1 bM bA)
          ·go_roundw
           case rel=>exact⟨i+1,by omega,by go_num,bM,below_grown (hb.alloc QO _) bA HO.out (by simp;omega) (bB _)⟩
           case measure=>simp[intOf] <;> omega
          ·intro i2 hi2;exact jU hi2 (by rw[show i+i2=i by omega];exact HD.out)
         ·obtain rfl:i=15:=by omega
          have c1:=(hb.cell (p:=⟨bx,ox+15,none⟩) (by show bx<_;omega)).trans ((HBA.out.cell (p:=⟨bx,ox+15,none⟩) lbx).trans (HCX.out 15 aH));obtain⟨x0,x1⟩:=aV (by decide:(0:Int)<65536) Y 15;have HD:=ak (MG Y);rw[<-HLE.out] at HD;have HB3:=ak hb;clear hb;go_upto_region 25 with(at_builtin;refine cO rfl _ _ 142 rfl wb.heap.size 3 .i64 8 uP xJ _ 15 (dg 65536 L) _ _ rfl HO.out rfl 1 rfl rfl ?_ aH aH QO ?_;rotate_right;intro v' w1 bM bA)
          ·have iX:=below_grown (HB3.out.alloc QO _) bA HO.out (by simp;omega) (bB _);have Xj:=ak bM;have XF:=ak iX;have hsz5:=iX.size;clear bM bA iX HO HB3 c1;obtain⟨w5,rfl⟩:∃w5:World,w5=w1:=⟨_,rfl⟩
           have alJ:=ak (aA.trans (HBA.out.mono fD));have hbw:Below w.heap.size w w5:=(aA.trans (HBA.out.mono fD)).trans (XF.out.mono (jS fD hba));have HBW:=ak hbw;have ajD:=hbw.size;clear hbw aA
           cases b with
           | true=>
            have hH0:H=0:=by
             have h1:=ZQ.out.1 rfl
             rwa [uO HHJ.out.1 HHJ.out.2] at h1
            have hl:=Ur (X:=Y) (by rw[<-HHE.out];exact hH0) Lh.out.1;rw[<-HLE.out] at hl;have HL:=ak hl;clear hl hH0;go_wp2_with fail;refine(AY _).mono ?_;rintro e w6 ⟨p,rfl,hp,kg⟩;have HP:=ak hp.rd;clear hp;have hcon:=qL v' p L Pr 16 16 (bB _) w6 (Xj.out.rd.below kg) HP.out HLB.out WW;by_cases hge:Pr<=L
            ·rw[decide_eq_true hge] at hcon;have hs:L - Pr=X % Pr:=by have h:=HL.out.2;rw[HY.out,←HL.out.1] at h;unfold vR at h;rwa [if_pos hge] at h
             have HS:=ak hs;have Cz:=ak hcon;have Xr:=ak kg;clear hs hcon hge kg;go_wp2_with fail;refine Cz.out.mono ?_;rintro e w7 ⟨rfl,IJ⟩;have HB7:=ak IJ;clear IJ;go_wp2_with fail;refine(AY _).mono ?_;rintro e w8 ⟨p2,rfl,hp2,Ac⟩;have HP2:=ak hp2.rd;have HB8:=ak Ac;clear hp2 Ac;go_wp2_with fail;refine(lG v' p2 L Pr 16 16 (bB _) aN w8 (((Xj.out.rd.below Xr.out).below HB7.out).below HB8.out) HP2.out).mono ?_;rintro e w9 ⟨v9,rfl,ho9,DN⟩;have h6:=Xr.out.size;have h7:=HB7.out.size;have h8:=HB8.out.size;have HO9:=ak (ho9.mono (base':=w.heap.size) aH);have HB9:=ak ((((HBW.out.trans (Xr.out.mono aH)).trans (HB7.out.mono aH)).trans (HB8.out.mono aH)).trans (DN.mono aH));clear ho9 DN h6 h7 h8;go_wp2;go_ret;exact⟨_,rfl,by rw[<-HS.out];exact HO9.out,HB9.out⟩
            ·rw[decide_eq_false hge] at hcon;have hs:L=X % Pr:=by have h:=HL.out.2;rw[HY.out,←HL.out.1] at h;unfold vR at h;rwa [if_neg hge] at h
             have HS:=ak hs;have Cz:=ak hcon;have Xr:=ak kg;clear hs hcon hge kg;go_wp2_with fail;refine Cz.out.mono ?_;rintro e w7 ⟨rfl,IJ⟩;have HB7:=ak IJ;clear IJ;go_wp2;go_ret;have h6:=Xr.out.size;exact⟨_,rfl,by rw[<-HS.out];exact((Xj.out.below Xr.out).below HB7.out).mono aH,(HBW.out.trans (Xr.out.mono aH)).trans (HB7.out.mono aH)⟩
           | false=>
            have hH0:H≠0:=by
             intro h;have h1:=ZQ.out.2 (by rw[h];simp);cases h1
            have HH0:=ak hH0;clear hH0;go_wp2
            go_loopg [9] (k+1 - 16) (fun g3 x wr=> ∃l:Nat,16<=l/\(l=16\/l<=k+1)/\g3=k+1 - l/\Own .i64 3 wb.heap.size wr x l (dg 65536 L)/\Below wb.heap.size wb wr)
            case atStart=>exact⟨16,bB _,.inl rfl,rfl,Xj.out,XF.out⟩
            case round=>
             clear HBW ajD Xj XF hsz5;obtain⟨l,afG,hlk,hg3,ho,hb⟩:=hrel;have HG3:=ak hg3;have HO:=ak ho;have HLK:=ak hlk;have hl1:l<=1000:=by omega
             have hsz5:=hb.size;clear hg3 ho hlk;obtain⟨al,cl,rfl,ll,ml,zl,hhl⟩:=HO.out.rd;obtain⟨bl,ol,rfl,lbl,hcl⟩:=hhl aH;clear zl hhl hcl;by_cases aqI:l<k+1
             ·go_wp2_with (at_builtin;refine cO rfl _ _ 142 rfl wb.heap.size 3 .i64 8 uP xJ _ l (dg 65536 L) _ _ rfl HO.out rfl 1 rfl rfl ?_ aH aH hsz5 ?_;rotate_right;intro v' w1 bM bA)
              ·go_roundg (k+1 - (l+1))
               case rel=>exact⟨l+1,by omega,by omega,rfl,bM,below_grown (hb.alloc hsz5 _) bA HO.out (by simp;omega) (bB _)⟩
               case measure=>have:=HG3.out;omega
              ·intro i2 hi2;exact jU hi2 (by rw[show l+i2=l by omega,mJ ⟨HLB.out.1,Int.lt_of_lt_of_le HLB.out.2 (jg 65536 aN _ _ afG)⟩])
             ·have hL2:0<=L/\L<65536 ^ l:=⟨HLB.out.1,Int.lt_of_lt_of_le HLB.out.2 (jg 65536 aN _ _ afG)⟩
              have hH2:0<=H/\H<65536 ^ l:=⟨HHJ.out.1,Int.lt_of_lt_of_le HHJ.out.2 (jg 65536 aN _ _ aH)⟩
              have HL2:=ak hL2;have HH2:=ak hH2;clear hL2 hH2;obtain⟨gl,cl',he,afM,ajU,_,_,_,_⟩:=HO.out.form aH;simp only[DV,CO,Addr.mk.injEq] at he;obtain⟨⟨rfl,ho0,q1⟩,q2⟩:=he;subst ho0;clear q1 q2 ajU;have XF:=ak hb;clear hb;go_wp2
              go_loopw [11,12] (fun c i wr=> ∃(i':Nat) (z:Int),i'<=l/\z=oQ L H i'/\0<=z/\z<=19/\c=.int .i64 z/\i=.int .i64 i'/\Own .i64 3 wb.heap.size wr (.slice (some ⟨bl,0,none⟩) l cl) l (upto i' (dg 65536 (L+19 * H)) (dg 65536 L))/\Below wb.heap.size wb wr) (fun _ i _=>l - (intOf i).toNat)
              case atStart=>exact⟨0,0,gX _,(Nt _ _).symm,by decide,by decide,rfl,rfl,by rw[dH];exact HO.out,XF.out⟩
              case round=>
               clear HO XF hsz5 lbl;obtain⟨i,z,hi,hz,z0,z1,rfl,rfl,ho,hb⟩:=hrel;have HZ:=ak hz;have HO:=ak ho;have hsz5:=hb.size;clear hz ho;by_cases ajO:i<l
               ·obtain⟨g',c',he,_,_,_,_,hcell,hfree⟩:=HO.out.form aH;simp only[DV,CO,Addr.mk.injEq] at he;obtain⟨⟨rfl,q1⟩,q2⟩:=he;have c1:=hcell i ajO;have f1:=hfree i;rw[upto_at] at c1;obtain⟨x0,x1⟩:=aV (by decide:(0:Int)<65536) L i;obtain⟨y0,y1⟩:=aV (by decide:(0:Int)<65536) H i;have gF:=Nu L H i;rw[<-HZ.out] at gF;have hbn:=zq L H (i+1);rw[<-gF.2] at hbn;have HST:=ak gF;have HBN:=ak hbn;clear q1 q2 hcell hfree gF hbn;by_cases Vg:i<k
                ·have c2:=(hb.cell (p:=⟨bh,oh+i,none⟩) lbh).trans (HCH.out i Vg);go_wp2;go_roundw
                 case rel=>exact⟨i+1,_,by omega,HST.out.2,HBN.out.1,HBN.out.2,rfl,by go_num,by rw[<-bW HST.out.1];exact HO.out.store i _,hb.setCell afM _⟩
                 case measure=>simp[intOf] <;> omega
                ·have hz:dg 65536 H i=0:=mJ ⟨HHJ.out.1,Int.lt_of_lt_of_le HHJ.out.2 (jg 65536 aN _ _ aH)⟩;rw[hz,Int.mul_zero,Int.add_zero] at HST HBN;clear hz;go_wp2;go_roundw
                 case rel=>exact⟨i+1,_,by omega,HST.out.2,HBN.out.1,HBN.out.2,rfl,by go_num,by rw[<-bW HST.out.1];exact HO.out.store i _,hb.setCell afM _⟩
                 case measure=>simp[intOf] <;> omega
               ·obtain rfl:i=l:=by omega
                have hc19:=Rm HL2.out HH2.out;rw[<-HZ.out] at hc19;have adZ:=ak hc19;have hlow:=HO.out.congr (dQ _ _ (bB _));have adV:=ak hlow;have hT:L+19 * H=vg Y:=by unfold vg;rw[<-HLE.out,←HHE.out]
                have HT:=ak hT;have hf1:=KG (X:=Y) Lh.out.1 (by rw[<-HHE.out];exact HH0.out);rw[<-hT] at hf1;have HF1:=ak hf1;have RU:=ak (alJ.out.trans (hb.mono (jS fD hba)));have ajE:=RU.out.size;have hbase:w.heap.size<=wb.heap.size:=jS fD hba;clear hc19 hlow hT hf1 HO hb;by_cases hz0:0<z
                ·go_wp2_with (at_builtin;refine cO rfl _ _ 142 rfl wb.heap.size 3 .i64 8 uP xJ _ i (dg 65536 (L+19 * H)) _ _ rfl adV.out rfl 1 rfl rfl ?_ aH aH hsz5 ?_;rotate_right;intro v' w1 bM bA)
                 ·go_roundg ((L+19 * H).toNat)
                  case rel=>exact⟨i+1,L+19 * H,by have:=HLK.out;omega,HF1.out.1,adZ.out.2.2,by rw[HT.out,BL];exact HY.out,rfl,bM.mono hbase,below_grown (RU.out.alloc ajE _) bA adV.out (by simp;omega) hbase⟩
                  case measure=>have:=HG.out;have:=HF1.out;omega
                 ·intro i2 hi2;exact jU hi2 (by rw[show i+i2=i by omega];exact adZ.out.2.1)
                ·have ajx:Hid (z=0):=by unfold Hid;omega
                 go_wp2
                 go_roundg ((L+19 * H).toNat)
                 case rel=>
                  refine⟨i,L+19 * H,by omega,HF1.out.1,?_,by rw[HT.out,BL];exact HY.out,rfl,adV.out.mono hbase,RU.out⟩;have h1:=adZ.out.1;rw[ajx.out] at h1;have h2:=DW (L+19 * H) (65536 ^ i);rw[<-h1] at h2;have h3:=FC (L+19 * H) (eG (by decide:(0:Int)<65536) i);omega
                 case measure=>have:=HG.out;have:=HF1.out;omega
          ·intro i2 hi2;exact jU hi2 (by rw[show 15+i2=15 by omega];exact HD.out)
theorem Zh (X:Int) (w:World):
  Calls Tryz.prog 122 #[.agg (arr .u8 32 (dg 256 X))] w fun e w'=>
   ∃v,e=.returned v/\Own .i64 3 w.heap.size w' v 16 (dg 65536 (X % 2 ^ 255 % Pr))/\Below w.heap.size w w':=by
 go_enter Tryz.func122,Tryz.ntmps122
 go_wp2_with (refine bq rfl 22 _ rfl .u8 w.heap.size 32 _ 5 dY dh rfl (aQ.new .u8 w 22 32 (dg 256 X)) ?_);refine(mg X _).mono ?_;rintro e w1 ⟨x,rfl,hx,eP⟩;have hs1:w.heap.size+1<=w1.heap.size:=by have:=eP.size;simpa using this
 have dP:Below w.heap.size w w1:=((bT _ _).alloc (bB _) _).trans (eP.mono aR);obtain⟨g,c,rfl,hg0,hgl,hc,hcc,hcell,hfree⟩:=hx.form aN;have e15:=hcell 15 aN;have f15:=hfree 15;obtain⟨x0,x1⟩:=aV (by decide:(0:Int)<65536) X 15;have HX:=ak hx;have hg1:w.heap.size<=g:=by simp at hg0;omega
 clear hx eP hcell hfree hg0;go_wp2_with fail;refine(BQ _ (X % 2 ^ 255) 16 aN (GK X) _ ((HX.out.store 15 _).rd.congr (fun i hi=>?_))).mono ?_
 ·exact zU X i hi
 rintro e w2 ⟨v,rfl,hv,fP⟩;have jd:=dP.setCell (p:=⟨g,15,none⟩) hg1 (.int .i64 (dg 65536 X 15 % 32768));have HV:=ak (hv.mono (base':=w.heap.size) (by simp[size_setCell];omega));have HB:=ak (jd.trans (fP.mono (by simp[size_setCell];omega)));clear hv fP jd dP;go_wp2;go_ret;exact⟨_,rfl,HV.out,HB.out⟩
theorem Nq {A B:Int} (hA:0<=A/\A<65536 ^ 16) (hB:0<=B/\B<65536 ^ 16):yM A B 16=dg 65536 (A+B) 16/\0<=A+B/\A+B<65536 ^ 17:=by
 have h2:(65536:Int) ^ 17=65536 * 65536 ^ 16:=by decide
 refine⟨?_,by omega,by omega⟩;unfold yM dg;rw[CP hA.1 hA.2,CP hB.1 hB.2];have h3:(A+B) / 65536 ^ 16<65536:=Int.ediv_lt_of_lt_mul aN aH;have h4:0<=(A+B) / 65536 ^ 16:=Int.ediv_nonneg aH aN;omega
theorem VL (va vb:Value) (A B:Int) (hA:0<=A/\A<65536 ^ 16) (hB:0<=B/\B<65536 ^ 16) (w:World) (ha:Rd .i64 w va 16 (dg 65536 A)) (hb:Rd .i64 w vb 16 (dg 65536 B)):
  Calls Tryz.prog 124 #[va,vb] w fun e w'=>
   ∃v,e=.returned v/\Own .i64 3 w.heap.size w' v 16 (dg 65536 ((A+B) % Pr))/\Below w.heap.size w w':=by
 have HT:=ak (Nq hA hB);obtain⟨xa,xc,rfl,xl,xm,xz,xh⟩:=ha;obtain⟨ya,yc,rfl,yl,ym,yz,yh⟩:=hb;obtain⟨xb,xo,rfl,xs,xe⟩:=xh aN;obtain⟨yb,yo,rfl,ys,ye⟩:=yh aN;have XE:=ak xe;have YE:=ak ye;clear xz yz xe ye xh yh hA hB
 go_enter Tryz.func124,Tryz.ntmps124
 go_wp2
 go_loopw [5,6,7] (fun v c i wr=> ∃(k:Nat) (z:Int),k<=16/\z=yM A B k/\0<=z/\z<=1/\c=.int .i64 z/\i=.int .i64 k/\Own .i64 3 w.heap.size wr v k (dg 65536 (A+B))/\Below w.heap.size w wr) (fun _ _ i _=>16 - (intOf i).toNat)
 case atStart=>exact⟨0,0,gX _,(yK _ _).symm,by decide,by decide,rfl,rfl,Own.nil _ _ _ _ _,bT _ _⟩
 case round=>
  obtain⟨k,z,hk,hz,z0,z1,rfl,rfl,ho,aA⟩:=hrel;have HZ:=ak hz;have HO:=ak ho;clear hz ho;have fD:=aA.size;by_cases hlt:k<16
  ·have c1:=(aA.cell (p:=⟨xb,xo+k,none⟩) xs).trans (XE.out k hlt);have c2:=(aA.cell (p:=⟨yb,yo+k,none⟩) ys).trans (YE.out k hlt);obtain⟨x0,x1⟩:=aV (by decide:(0:Int)<65536) A k;obtain⟨y0,y1⟩:=aV (by decide:(0:Int)<65536) B k;have u1:=bI (x:=dg 65536 A k+dg 65536 B k) aH aH;have u2:=bI (x:=dg 65536 A k+dg 65536 B k+z) aH aH;have gF:=yL A B k;rw[<-HZ.out] at gF;have HST:=ak gF;clear gF;go_wp2
   go_quiet (fail)
   clear u1 u2;go_wp2_with (at_builtin;refine cO rfl _ _ 142 rfl w.heap.size 3 .i64 8 uP xJ _ k (dg 65536 (A+B)) _ _ rfl (HO.out.drewN _) rfl 1 rfl rfl ?_ aH aH fD ?_;rotate_right;intro v' w1 bM bA)
   ·go_roundw
    case rel=>exact⟨k+1,_,by omega,HST.out.2,by omega,by omega,rfl,by go_num,bM,below_grown ((below_drewN aA _).alloc fD _) bA HO.out (by simp;omega) (bB _)⟩
    case measure=>simp[intOf] <;> omega
   ·intro i hi;exact jU hi (by rw[show k+i=k by omega];exact HST.out.1)
  ·obtain rfl:k=16:=by omega
   have UO:z=dg 65536 (A+B) 16:=HZ.out.trans HT.out.1;have adK:=ak UO;clear UO;have iq:=ak aA;clear aA;go_wp2_with (at_builtin;refine cO rfl _ _ 142 rfl w.heap.size 3 .i64 8 uP xJ _ 16 (dg 65536 (A+B)) _ _ rfl HO.out rfl 1 rfl rfl ?_ aH aH fD ?_;rotate_right;intro v' w5 bM bA)
   ·have iX:=below_grown (iq.out.alloc fD _) bA HO.out (by simp;omega) (bB _);have HR:=ak bM.rd;clear bM bA;refine(BQ _ (A+B) 17 aH HT.out.2 _ HR.out).mono ?_;rintro e w6 ⟨v6,rfl,hv6,kg⟩;have hs5:=iX.size;have Li:=ak (hv6.mono hs5);have Xr:=ak (iX.trans (kg.mono hs5));clear hv6 iX kg;go_wp2;go_ret;exact⟨_,rfl,Li.out,Xr.out⟩
   ·intro i hi;exact jU hi (by rw[show 16+i=16 by omega];exact adK.out)
theorem VJ (va vb:Value) (A B:Int) (hA:0<=A/\A<Pr) (hB:0<=B/\B<Pr) (w:World) (ha:Rd .i64 w va 16 (dg 65536 A)) (hb:Rd .i64 w vb 16 (dg 65536 B)):
  Calls Tryz.prog 125 #[va,vb] w fun e w'=>
   ∃v,e=.returned v/\Own .i64 3 w.heap.size w' v 16 (dg 65536 ((A - B) % Pr))/\Below w.heap.size w w':=by
 have A16:0<=A/\A<65536 ^ 16:=⟨hA.1,Int.lt_trans hA.2 WW.2⟩
 have B16:0<=B/\B<65536 ^ 16:=⟨hB.1,Int.lt_trans hB.2 WW.2⟩
 have H1:=ak ha;have H2:=ak hb;have HA:=ak hA;have HB:=ak hB;have hcon:=qL va vb A B 16 16 (bB _) w ha hb A16 B16;clear ha hb hA hB A16 B16;by_cases hge:B<=A
 ·rw[decide_eq_true hge] at hcon;have hs:Hid ((A - B) % Pr=A - B):=uO aH (by have:=HA.out;have:=HB.out;omega);have Cz:=ak hcon;clear hcon hge
  go_enter Tryz.func125,Tryz.ntmps125
  go_wp2_with fail;refine Cz.out.mono ?_;rintro e w1 ⟨rfl,eP⟩;have HB1:=ak eP;clear eP;go_wp2_with fail;refine(lG va vb A B 16 16 (bB _) aN w1 (H1.out.below HB1.out) (H2.out.below HB1.out)).mono ?_;rintro e w2 ⟨v,rfl,hv,dP⟩;have HV:=ak (hv.mono HB1.out.size);have HB2:=ak (HB1.out.trans (dP.mono HB1.out.size));clear hv dP;go_wp2;go_ret;exact⟨_,rfl,by rw[hs.out];exact HV.out,HB2.out⟩
 ·rw[decide_eq_false hge] at hcon;have hs:Hid ((A - B) % Pr=Pr - (B - A)):=by
   show (A - B) % Pr=Pr - (B - A);have:=HA.out;have:=HB.out;rw[show A - B=Pr - (B - A)+Pr * (-1) by omega,Int.add_mul_emod_self_left,uO aH aH]
  have Cz:=ak hcon;clear hcon hge
  go_enter Tryz.func125,Tryz.ntmps125
  go_wp2_with fail;refine Cz.out.mono ?_;rintro e w1 ⟨rfl,eP⟩;have HB1:=ak eP;clear eP;go_wp2_with fail;refine(AY _).mono ?_;rintro e w2 ⟨p,rfl,hp,dP⟩;have HP:=ak hp.rd;have HB2:=ak dP;clear hp dP;go_wp2_with fail;refine(lG vb va B A 16 16 (bB _) aN w2 ((H2.out.below HB1.out).below HB2.out) ((H1.out.below HB1.out).below HB2.out)).mono ?_;rintro e w3 ⟨d,rfl,hd,fP⟩;have HD:=ak hd.rd;have HB3:=ak fP;clear hd fP;go_wp2_with fail;refine(lG p d Pr (B - A) 16 16 (bB _) aN w3 (HP.out.below HB3.out) HD.out).mono ?_;rintro e w4 ⟨v,rfl,hv,jd⟩;have s1:=HB1.out.size;have s2:=HB2.out.size;have s3:=HB3.out.size;have HV:=ak (hv.mono (base':=w.heap.size) aH);have RY:=ak (((HB1.out.trans (HB2.out.mono aH)).trans (HB3.out.mono aH)).trans (jd.mono aH));clear hv jd s1 s2 s3;go_wp2;go_ret;exact⟨_,rfl,by rw[hs.out];exact HV.out,RY.out⟩
theorem VK (va vb:Value) (A B:Int) (hA:0<=A/\A<65536 ^ 16) (hB:0<=B/\B<65536 ^ 16) (w:World) (ha:Rd .i64 w va 16 (dg 65536 A)) (hb:Rd .i64 w vb 16 (dg 65536 B)):
  Calls Tryz.prog 126 #[va,vb] w fun e w'=>
   ∃v,e=.returned v/\Own .i64 3 w.heap.size w' v 16 (dg 65536 (A * B % Pr))/\Below w.heap.size w w':=by
 have HA:=ak hA;have HB:=ak hB;obtain⟨xa,xc,rfl,xl,xm,xz,xh⟩:=ha;obtain⟨ya,yc,rfl,yl,ym,yz,yh⟩:=hb;obtain⟨xb,xo,rfl,xs,xe⟩:=xh aN;obtain⟨yb,yo,rfl,ys,ye⟩:=yh aN;have XE:=ak xe;have YE:=ak ye;clear xz yz xe ye xh yh hA hB
 go_enter Tryz.func126,Tryz.ntmps126
 go_wp2_with (refine iB rfl _ _ 142 rfl w.heap.size 3 .i64 8 uP xJ .i64 .i64 32 rfl rfl aN aN (bB _) ?_;intro w4 bM bA);have jd:Below w.heap.size w w4:=dW (bT _ _) bA (bB _);clear bA
 go_loopw [6] (fun i wr=> ∃(k:Nat) (t:Nat->Int),k<=16/\i=.int .i64 k/\jq 16 16 A B t k 0 0/\Own .i64 3 w.heap.size wr (.slice (some ⟨w.heap.size,0,none⟩) 32 32) 32 t/\Below w.heap.size w wr) (fun i _=>16 - (intOf i).toNat)
 case atStart=>exact⟨0,_,gX _,rfl,jq.zero _ _ _ _,bM,jd⟩
 case round=>
  obtain⟨i,t,hi,rfl,hM,ho,aA⟩:=hrel;have HM:=ak hM;have HO:=ak ho;clear hM ho;by_cases hlt:i<16
  ·have iq:=ak aA;clear aA;go_wp2
   go_loopw [7,8] (fun c j wr=> ∃(k:Nat) (z:Int) (t:Nat->Int),k<=16/\0<=z/\z<65536/\c=.int .i64 z/\j=.int .i64 k/\jq 16 16 A B t i k z/\Own .i64 3 w.heap.size wr (.slice (some ⟨w.heap.size,0,none⟩) 32 32) 32 t/\Below w.heap.size w wr) (fun _ j _=>16 - (intOf j).toNat)
   case atStart=>exact⟨0,0,t,gX _,by decide,by decide,rfl,rfl,HM.out,HO.out,iq.out⟩
   case round=>
    clear HM HO iq;obtain⟨k,z,t,hk,z0,z1,rfl,rfl,hM,ho,aA⟩:=hrel;have HM:=ak hM;have HO:=ak ho;clear hM ho;obtain⟨g',cc',he,_,_,_,_,hcell,hfree⟩:=HO.out.form aN;simp only[DV,CO,Addr.mk.injEq] at he;obtain⟨⟨rfl,q1⟩,q2⟩:=he;clear q1 q2;by_cases hkt:k<16
    ·have e1:=hcell (i+k) aH;have f1:=hfree (i+k);have c1:=(aA.cell (p:=⟨xb,xo+i,none⟩) xs).trans (XE.out i hlt);have c2:=(aA.cell (p:=⟨yb,yo+k,none⟩) ys).trans (YE.out k hkt);obtain⟨m0,m1,m2,m3,m4,m5⟩:=HM.out.bound;have HST:=ak (HM.out.step hlt hkt);have NU:=ak (HST.out.2.2);have t0:=(HM.out.1 (i+k)).1;have t1:=(HM.out.1 (i+k)).2;obtain⟨x0,x1⟩:=aV (by decide:(0:Int)<65536) A i;obtain⟨y0,y1⟩:=aV (by decide:(0:Int)<65536) B k;clear hcell hfree;have i0:(0:Int)<=(i:Int)+k:=by omega
     have i1:(i:Int)+k<32:=by omega
     have i2:((i:Int)+k).toNat=i+k:=by omega
     have u0:=bI (x:=(i:Int)+k) aH aH;have u1:=bI (x:=dg 65536 A i * dg 65536 B k) aH aH;have u2:=bI (x:=t (i+k)+dg 65536 A i * dg 65536 B k) aH aH;have u3:=bI (x:=t (i+k)+dg 65536 A i * dg 65536 B k+z) aH aH;go_wp2
     go_quiet (fail)
     clear u1 u2 u3 u0;go_wp2;go_roundw
     case rel=>exact⟨k+1,_,_,by omega,NU.out.1,NU.out.2.1,rfl,by go_num,HST.out,(HO.out.drewN _).store (i+k) _,(below_drewN aA _).setCell (bB _) _⟩
     case measure=>simp[intOf] <;> omega
    ·obtain rfl:k=16:=by omega
     obtain⟨r0,r1⟩:=HM.out.row hlt HB.out;have R0:=ak r0;have R1:=ak r1;have e1:=hcell (i+16) aH;have f1:=hfree (i+16);rw[R0.out] at e1;clear hcell hfree r0 r1;go_wp2;go_roundw
     case rel=>exact⟨i+1,_,by omega,by go_num,R1.out,by rw[R0.out];have:=HO.out.store (i+16) z;rwa [show (0:Int)+z=z by omega],aA.setCell (bB _) _⟩
     case measure=>simp[intOf] <;> omega
  ·obtain rfl:i=16:=by omega
   have HR:=ak (HO.out.congr (HM.out.done HA.out)).rd;have iq:=ak aA;have hs:=aA.size;clear aA;go_wp2_with fail;refine(BQ _ (A * B) 32 aH (EM HA.out HB.out) _ HR.out).mono ?_;rintro e w6 ⟨v6,rfl,hv6,kg⟩;have Li:=ak (hv6.mono hs);have Xr:=ak (iq.out.trans (kg.mono hs));clear hv6 kg;go_wp2;go_ret;exact⟨_,rfl,Li.out,Xr.out⟩
end Go.Proofs.YtpcjekgfnfjbpaaGreat
