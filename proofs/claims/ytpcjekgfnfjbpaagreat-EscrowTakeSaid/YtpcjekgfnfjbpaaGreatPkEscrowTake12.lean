/-
  Part 12 of EscrowTake. Conditions: named in each theorem.
-/
import Derived.Test.YtpcjekgfnfjbpaaGreatPkEscrowTake2
import Derived.Test.YtpcjekgfnfjbpaaGreatRows
set_option linter.unusedVariables false
set_option linter.unusedSimpArgs false
set_option maxRecDepth 100000
set_option maxHeartbeats 400000
namespace Go.Proofs.YtpcjekgfnfjbpaaGreat
theorem Tryz.info5:(Tryz.prog.info? 5).map (fun i=> (i.zero,i.size,i.bytes))=some (some (.int .u8 0),1,1):=by kernel_rfl
theorem Tryz.size5:(Tryz.prog.info? 5).map (·.size)=some 1:=by kernel_rfl
theorem Tryz.info3:(Tryz.prog.info? 3).map (fun i=> (i.zero,i.size,i.bytes))=some (some (.int .i64 0),1,8):=by kernel_rfl
theorem Tryz.info117:(Tryz.prog.info? 117).map (fun i=> (i.zero,i.size,i.bytes))=some (some (.int .u32 0),1,4):=by kernel_rfl
theorem Tryz.size117:(Tryz.prog.info? 117).map (·.size)=some 1:=by kernel_rfl
theorem Tryz.info132:(Tryz.prog.info? 132).map (fun i=> (i.zero,i.size,i.bytes))=some (some (.int .u64 0),1,8):=by kernel_rfl
theorem Tryz.size132:(Tryz.prog.info? 132).map (·.size)=some 1:=by kernel_rfl
theorem Tryz.size2:(Tryz.prog.info? 2).map (·.size)=some 1:=by kernel_rfl
theorem Tryz.size22:(Tryz.prog.info? 22).map (·.size)=some 32:=by kernel_rfl
theorem Tryz.size35:(Tryz.prog.info? 35).map (·.size)=some 12:=by kernel_rfl
theorem Tryz.size262:(Tryz.prog.info? 262).map (·.size)=some 16:=by kernel_rfl
theorem Tryz.size47:(Tryz.prog.info? 47).map (·.size)=some 64:=by kernel_rfl
theorem Tryz.size189:(Tryz.prog.info? 189).map (·.size)=some 16:=by kernel_rfl
theorem Tryz.size191:(Tryz.prog.info? 191).map (·.size)=some 16:=by kernel_rfl
theorem _root_.bC:type_of% @Tryz.size191:=@Tryz.size191
theorem _root_.bZ:type_of% @Tryz.underlying191:=@Tryz.underlying191
theorem _root_.eT:type_of% @Tryz.size22:=@Tryz.size22
theorem _root_.gH:type_of% @Tryz.underlying22:=@Tryz.underlying22
theorem _root_.jI:type_of% @Tryz.underlying23:=@Tryz.underlying23
theorem _root_.vB:type_of% @Tryz.info5:=@Tryz.info5
theorem _root_.xY:type_of% @Tryz.underlying229:=@Tryz.underlying229
theorem _root_.yG:type_of% @Tryz.underlying132:=@Tryz.underlying132
theorem _root_.Au:type_of% @Tryz.underlying271:=@Tryz.underlying271
theorem _root_.EZ:type_of% @Tryz.underlying193:=@Tryz.underlying193
end Go.Proofs.YtpcjekgfnfjbpaaGreat
namespace Go.Proofs.YtpcjekgfnfjbpaaGreat
open Go.RowKit Go.aZ
theorem Tg (n:Int) (s:Nat) (w:World) (h1:1<=s) (h2:s<=8) (h3:0<=n) (h4:n<=4611686018427387904) (h5:s<8->(n / 2 ^ (8 * s) !=0)=false):
  Calls Tryz.prog 173 #[.int .i64 n,.int .i64 s] w fun e w'=> ∃v,e=.returned (.tuple #[v,.int .i64 0])/\Own .u8 5 w.heap.size w' v s (fun i=> n / 2 ^ (8 * i) % 256)/\Below w.heap.size w w':=by
 by_cases h8:s<8
 all_goals
  first | have h6:=h5 h8 | skip
  go_enter Tryz.func173,Tryz.ntmps173
  go_wp2_with (at_make;refine ru rfl _ _ 23 rfl w.heap.size 5 .u8 1 jI vB .i64 .i64 s rfl rfl (by omega) (by omega) (by omega) ?_;intro w1 hown hgrow);have hb0:Below w.heap.size w w1:=fU (bN _ _) hgrow (bA _);clear hgrow
  go_loopw [38] (fun i wr=> ∃k:Nat,k<=s/\i=.int .i64 k/\Own .u8 5 w.heap.size wr (.slice (some ⟨w.heap.size,0,none⟩) s s) s (upto k (fun i=> n / 2 ^ (8 * i) % 256) (fun _=> 0))/\Below w.heap.size w wr) (fun i _=> s - (intOf i).toNat)
  case atStart=> exact ⟨0,iY _,rfl,by rw [dB];exact hown,hb0⟩
  case round=>
   obtain ⟨k,hk,rfl,ho,hbel⟩:=hrel;by_cases hlt:k<s
   ·obtain ⟨g,c,hv,_,hg,_,_,hcell,hfr⟩:=ho.form (by omega);simp only [Value.slice.injEq,Option.some.injEq,Addr.mk.injEq,and_true,true_and] at hv;obtain ⟨rfl,_⟩:=hv;replace hcell:=hcell k hlt;replace hfr:=hfr k;have HO:=ak ho;clear ho;go_wp2;go_roundw
    case rel=> exact ⟨k+1,by omega,by go_num,by rw [<-bR rfl];exact HO.out.store k _,hbel.setCell (bA _) _⟩
    case measure=> simp [intOf] <;> omega
   ·go_wp2;go_ret2;exact ⟨_,rfl,ho.congr (dY _ _ (by omega)),hbel⟩
theorem CP (va:Value) (n:Nat) (f:Nat->Int) (w:World) (ha:Rd .u8 w va n f) (hn:n<=140737488355328):
  Calls Tryz.prog 107 #[va] w fun e w'=> ∃v,e=.returned v/\Own .u8 5 w.heap.size w' v n f/\Below w.heap.size w w':=by
 have hrd:=ak ha;obtain ⟨a1,c1,rfl,l1,m1,z1,h1⟩:=ha;clear h1;have hnil:=fun (w:World) (a:Option Addr) (n c:Nat)=> Lib.run_eql_slice_nil (P:=Tryz.prog) w 23 5 a n c 0 0 jI
 cases a1 with
 | none=>
  obtain rfl:c1=0:=z1 rfl;obtain rfl:n=0:=by omega
  clear z1
  go_enter Tryz.func107,Tryz.ntmps107
  go_wp2;go_ret;exact ⟨_,rfl,Own.nil _ _ _ _ _,bN _ _⟩
 | some a=>
  clear z1
  go_enter Tryz.func107,Tryz.ntmps107
  go_wp2_with (at_builtin;refine iF rfl _ _ 23 rfl w.heap.size 5 .u8 1 jI vB _ 0 f ?_ rfl _ n f (hrd.out.below ((bN _ _).alloc (bA _) _)) rfl (fun i _=> by rw [pz]) (by omega) (by omega) (by simp) ?_;rotate_right;intro v' w1 hown hgrow)
  ·go_ret;rw [pz] at hown;exact ⟨_,rfl,hown,below_grown ((bN _ _).alloc (bA _) _) hgrow (Own.new .u8 5 w #[] 0 f (bA _) (by omega) rfl (fun i hi=> by omega)) (by simp) (bA _)⟩
  ·exact Own.new _ _ _ _ _ _ (bA _) (by omega) rfl (fun i hi=> by omega)
def rev (n j:Nat) (f:Nat->Int):Nat->Int:=fun i=> if i<j\/n - 1 - i<j then f (n - 1 - i) else f i
theorem rev_zero (n:Nat) (f:Nat->Int):rev n 0 f=f:=by funext i;simp [rev]
theorem RJ {n m p:Nat} {f:Nat->Int} (h:m<p) (h1:m+p+1<=n) (h2:n<=m+p+1):∀i,i<n->upd (upd (rev n m f) m (f p)) p (f m) i=rev n (m+1) f i:=by
 intro i hi;unfold upd rev;by_cases e1:i=p
 ·subst e1;rw [if_pos rfl,if_pos (by omega)]
  congr 1;omega
 ·rw [if_neg e1];by_cases e2:i=m
  ·subst e2;rw [if_pos rfl,if_pos (by omega)]
   congr 1;omega
  ·rw [if_neg e2];by_cases e3:i<m\/n - 1 - i<m
   ·rw [if_pos e3,if_pos (by omega)]
   ·rw [if_neg e3,if_neg (by omega)]
theorem RL {n j:Nat} {f:Nat->Int} (h:n<=2 * j+1):∀i,i<n->rev n j f i=f (n - 1 - i):=by
 intro i hi;unfold rev;by_cases e:i<j\/n - 1 - i<j
 ·rw [if_pos e]
 ·rw [if_neg e];congr 1;omega
theorem Gm (va:Value) (n base:Nat) (f:Nat->Int) (w:World) (ha:Own .u8 5 base w va n f):
  Calls Tryz.prog 225 #[va] w fun e w'=> e=.returned (.tuple #[])/\Own .u8 5 base w' va n (fun i=> f (n - 1 - i))/\Below base w w'/\w'.heap.size=w.heap.size:=by
 by_cases hn:n=0
 ·subst hn;obtain ⟨a1,c1,rfl,l1,m1,z1,h1⟩:=ha.rd;have HA:=ak ha;clear ha h1 z1
  go_enter Tryz.func225,Tryz.ntmps225
  go_wp2
  go_loop [2,3] (fun i j=> i=.int .i64 0/\j=.int .i64 (-1)) (fun _ _=> 0)
  case atStart=> exact ⟨rfl,rfl⟩
  case round=>
   obtain ⟨rfl,rfl⟩:=hrel;go_wp2
   go_end0
   exact ⟨rfl,HA.out.congr (fun i hi=> by omega),bN _ _,rfl⟩
 ·obtain ⟨g,c,rfl,hbg,hg,hnc,hc9,hcell,hfr⟩:=ha.form (by omega);clear hcell hfr;have HA:=ak ha;clear ha
  go_enter Tryz.func225,Tryz.ntmps225
  go_wp2
  go_loopw [2,3] (fun i j wr=> ∃m p:Nat,m+p+1<=n/\n<=m+p+1/\m<=p+1/\i=.int .i64 m/\j=.int .i64 p/\Own .u8 5 base wr (.slice (some ⟨g,0,none⟩) n c) n (rev n m f)/\Below base w wr/\wr.heap.size=w.heap.size) (fun i _ _=> n - (intOf i).toNat)
  case atStart=> exact ⟨0,n - 1,by omega,by omega,by omega,rfl,by congr 1;omega,by rw [rev_zero];exact HA.out,bN _ _,rfl⟩
  case round=>
   obtain ⟨m,p,hm1,hm2,hm3,rfl,rfl,ho,hbel,hsz⟩:=hrel;have HS:=ak hsz;clear hsz;by_cases hlt:m<p
   ·obtain ⟨g',c',hv,_,_,_,_,hcell,hfr⟩:=ho.form (by omega);simp only [Value.slice.injEq,Option.some.injEq,Addr.mk.injEq,and_true,true_and] at hv;obtain ⟨rfl,rfl⟩:=hv;have e1:=hcell m (by omega);have e2:=hcell p (by omega);rw [show rev n m f m=f m by unfold rev;rw [if_neg (by omega)]] at e1;rw [show rev n m f p=f p by unfold rev;rw [if_neg (by omega)]] at e2;have f1:=hfr m;have f2:=hfr p;have HO:=ak ho;clear hcell hfr ho;go_wp2
    go_region
    all_goals
     go_wp2;go_roundw
     case rel=> refine ⟨m+1,p - 1,by omega,by omega,by omega,by go_num,by go_num,(((HO.out.store m _).store p _).congr (RJ hlt hm1 hm2)).drew,(((hbel.setCell hbg _).setCell hbg _)).drew,(size_setCell _ _ _).trans ((size_setCell _ _ _).trans HS.out)⟩
     case measure=> simp [intOf] <;> omega
   ·go_wp2
    go_end0
    exact ⟨rfl,ho.congr (RL (by omega)),hbel,HS.out⟩
theorem JU (va:Value) (n:Nat) (f:Nat->Int) (w:World) (ha:Rd .u8 w va n f) (hn:n<=140737488355328):
  Calls Tryz.prog 174 #[va] w fun e w'=> ∃v,e=.returned v/\Own .u8 5 w.heap.size w' v n (fun i=> f (n - 1 - i))/\Below w.heap.size w w':=by
 have HA:=ak ha;clear ha
 go_enter Tryz.func174,Tryz.ntmps174
 go_wp2_with fail;refine (CP _ n f _ HA.out hn).mono ?_;rintro e w1 ⟨v,rfl,hown,hbel⟩;have HO:=ak hown;clear hown;go_wp2_with fail;refine (Gm _ n _ f _ HO.out).mono ?_;rintro e w2 ⟨rfl,hown2,dG,hsz⟩;have HS:=ak hsz;clear hsz;go_wp2_with fail;go_ret;exact ⟨_,rfl,hown2,hbel.trans dG⟩
theorem Kr (n:Int) (s:Nat) (w:World) (h1:1<=s) (h2:s<=8) (h3:0<=n) (h4:n<=4611686018427387904) (h5:s<8->(n / 2 ^ (8 * s) !=0)=false):
  Calls Tryz.prog 119 #[.int .i64 n,.int .i64 s] w fun e w'=> ∃v,e=.returned (.tuple #[v,.int .i64 0])/\Own .u8 5 w.heap.size w' v s (fun i=> n / 2 ^ (8 * (s - 1 - i)) % 256)/\Below w.heap.size w w':=by
 have H:=ak (Tg n s w h1 h2 h3 h4 h5);clear h1 h3 h4 h5
 go_enter Tryz.func119,Tryz.ntmps119
 go_wp2_with fail;refine H.out.mono ?_;rintro e w1 ⟨v,rfl,hown,hbel⟩;have HO:=ak hown;clear hown;go_wp2_with fail;refine (JU _ s _ _ HO.out.rd (by omega)).mono ?_;rintro e w2 ⟨v2,rfl,hown2,dG⟩;go_wp2_with fail;go_ret2;exact ⟨_,rfl,hown2.mono hbel.size,hbel.trans (dG.mono hbel.size)⟩
theorem Ui (va:Value) (n:Nat) (f:Nat->Int) (w:World) (ha:Rd .u8 w va n f) (h0:1<=n) (h8:n<=8) (hf:∀i,i<n->0<=f i/\f i<256):
  Calls Tryz.prog 114 #[va] w fun e w'=> e=.returned (.tuple #[.int .i64 (jR f n),.int .i64 (mJ f n)])/\Below w.heap.size w w':=by
 obtain ⟨a1,c1,rfl,l1,m1,z1,h1⟩:=ha;obtain ⟨b,o,rfl,hs,hc⟩:=h1 (by omega);have HC:=ak hc;have HF:=ak hf;clear z1 hc hf h1
 go_enter Tryz.func114,Tryz.ntmps114
 go_wp2
 go_loopw [4,17] (fun x i wr=> ∃k:Nat,k<=n/\x=.int .u64 (big f k)/\i=.int .i64 k/\Below w.heap.size w wr) (fun _ i _=> n - (intOf i).toNat)
 case atStart=> exact ⟨0,iY _,rfl,rfl,bN _ _⟩
 case round=>
  obtain ⟨k,hk,rfl,rfl,hbel⟩:=hrel;by_cases hlt:k<n
  ·have e1:=(hbel.cell (p:=⟨b,o+k,none⟩) hs).trans (HC.out k hlt);obtain ⟨f0,f1⟩:=HF.out k hlt;have b0:=(oF HF.out k hk).1;have b2:big f k<72057594037927936:=LW HF.out k 7 hk (by omega);go_wp2;go_roundw
   case rel=> exact ⟨k+1,by omega,by rw [Sz b0 b2 f0 f1];rfl,by go_num,hbel⟩
   case measure=> simp [intOf] <;> omega
  ·obtain rfl:k=n:=by omega
   have b0:=(oF HF.out k hk).1;have b2:big f k<18446744073709551616:=LW HF.out k 8 hk (by omega);by_cases hle:big f k<=4611686018427387904
   ·have h1:jR f k=big f k:=if_neg (by omega);have h2:mJ f k=0:=by simp [mJ,show k≠0 by omega,show ¬ 8<k by omega,show ¬ 4611686018427387904<big f k by omega]
    have H1:=ak h1;have H2:=ak h2;clear h1 h2;go_wp2;go_ret2;exact ⟨by rw [H1.out,H2.out];rfl,hbel⟩
   ·have h1:jR f k=0:=if_pos (by omega);have h2:mJ f k=11:=by simp [mJ,show k≠0 by omega,show ¬ 8<k by omega,show 4611686018427387904<big f k by omega]
    have H1:=ak h1;have H2:=ak h2;clear h1 h2;go_wp2;go_ret2;exact ⟨by rw [H1.out,H2.out];rfl,hbel⟩
theorem get_nil (va:Value) (f:Nat->Int) (w:World) (ha:Rd .u8 w va 0 f):
  Calls Tryz.prog 114 #[va] w fun e w'=> Below w.heap.size w w'/\e=.returned (.tuple #[.int .i64 0,.int .i64 10]):=by
 obtain ⟨a1,c1,rfl,l1,m1,z1,h1⟩:=ha;clear h1 z1
 go_enter Tryz.func114,Tryz.ntmps114
 go_wp2;go_ret2;exact ⟨bN _ _,rfl⟩
theorem Uh (va:Value) (n:Nat) (f:Nat->Int) (w:World) (ha:Rd .u8 w va n f) (h:8<n):
  Calls Tryz.prog 114 #[va] w fun e w'=> Below w.heap.size w w'/\e=.returned (.tuple #[.int .i64 0,.int .i64 2]):=by
 obtain ⟨a1,c1,rfl,l1,m1,z1,h1⟩:=ha;clear h1 z1;have hz:((n:Int)==0)=false:=by simp;omega
 have hz':(8:Int)<n:=by omega
 go_enter Tryz.func114,Tryz.ntmps114
 go_wp2;go_ret2;exact ⟨bN _ _,rfl⟩
theorem Yk (va:Value) (n:Nat) (f:Nat->Int) (w:World) (ha:Rd .u8 w va n f) (hf:∀i,i<n->0<=f i/\f i<256):
  Calls Tryz.prog 114 #[va] w fun e w'=> e=.returned (.tuple #[.int .i64 (jR f n),.int .i64 (mJ f n)])/\Below w.heap.size w w':=by
 by_cases h0:n=0
 ·subst h0;exact (get_nil va f w ha).mono fun e w' ⟨h1,h2⟩=> ⟨by rw [h2];rfl,h1⟩
 by_cases h8:8<n
 ·exact (Uh va n f w ha h8).mono fun e w' ⟨h1,h2⟩=> ⟨by rw [h2];simp [jR,mJ,h0,h8],h1⟩
 exact Ui va n f w ha (by omega) (by omega) hf
theorem RA (va vb:Value) (n m:Nat) (f g:Nat->Int) (w:World) (ha:Rd .u8 w va n f) (hb:Rd .u8 w vb m g) (h:n≠m):
  Calls Tryz.prog 19 #[va,vb] w fun e w'=> e=.returned (.bool false)/\Below w.heap.size w w':=by
 obtain ⟨a1,c1,rfl,l1,m1,z1,h1⟩:=ha;obtain ⟨a2,c2,rfl,l2,m2,z2,h2⟩:=hb;clear h1 h2 z1 z2;have hl':((n:Int) !=(m:Int))=true:=by simp;omega
 go_enter Tryz.func19,Tryz.ntmps19
 go_wp2;go_ret;exact ⟨rfl,bN _ _⟩
theorem zf (va vb:Value) (n:Nat) (f g:Nat->Int) (w:World) (ha:Rd .u8 w va n f) (hb:Rd .u8 w vb n g) (h:∀i,i<n->f i=g i):
  Calls Tryz.prog 19 #[va,vb] w fun e w'=> e=.returned (.bool true)/\Below w.heap.size w w':=by
 obtain ⟨a1,c1,rfl,l1,m1,z1,h1⟩:=ha;obtain ⟨a2,c2,rfl,l2,m2,z2,h2⟩:=hb;have H:=ak h;have H1:=ak h1;have H2:=ak h2;clear h1 h2 z1 z2 h
 go_enter Tryz.func19,Tryz.ntmps19
 go_wp2
 go_loopw [5] (fun i wr=> ∃k:Nat,k<=n/\i=.int .i64 k/\Below w.heap.size w wr) (fun i _=> n - (intOf i).toNat)
 case atStart=> exact ⟨0,iY _,rfl,bN _ _⟩
 case round=>
  obtain ⟨k,hk,rfl,hnx⟩:=hrel;by_cases hlt:k<n
  ·obtain ⟨b1,o1,rfl,s1,e1⟩:=H1.out (by omega);obtain ⟨b2,o2,rfl,s2,e2⟩:=H2.out (by omega);replace e1:=(hnx.cell s1).trans (e1 k hlt);replace e2:=(hnx.cell s2).trans (e2 k hlt);have hb:(f k !=g k)=false:=by simpa using H.out k hlt
   go_wp2
   go_quiet (fail)
   go_wp2;go_roundw
   case rel=> exact ⟨k+1,by omega,by go_num,below_drewN hnx _⟩
   case measure=> simp [intOf] <;> omega
  ·go_wp2;go_ret;exact ⟨rfl,hnx⟩
theorem Xa (va vb:Value) (n:Nat) (f g:Nat->Int) (w:World) (ha:Rd .u8 w va n f) (hb:Rd .u8 w vb n g) (j:Nat) (hj:j<n) (h:f j≠g j):
  Calls Tryz.prog 19 #[va,vb] w fun e w'=> e=.returned (.bool false)/\Below w.heap.size w w':=by
 obtain ⟨a1,c1,rfl,l1,m1,z1,h1⟩:=ha;obtain ⟨a2,c2,rfl,l2,m2,z2,h2⟩:=hb;have H:=ak h;have H1:=ak h1;have H2:=ak h2;clear h1 h2 z1 z2 h
 go_enter Tryz.func19,Tryz.ntmps19
 go_wp2
 go_loopw [5] (fun i wr=> ∃k:Nat,k<=j/\i=.int .i64 k/\Below w.heap.size w wr) (fun i _=> n - (intOf i).toNat)
 case atStart=> exact ⟨0,iY _,rfl,bN _ _⟩
 case round=>
  obtain ⟨k,hk,rfl,hnx⟩:=hrel;have hlt:k<n:=by omega
  obtain ⟨b1,o1,rfl,s1,e1⟩:=H1.out (by omega);obtain ⟨b2,o2,rfl,s2,e2⟩:=H2.out (by omega);replace e1:=(hnx.cell s1).trans (e1 k hlt);replace e2:=(hnx.cell s2).trans (e2 k hlt);by_cases hfg:f k=g k
  ·have hb:(f k !=g k)=false:=by simpa using hfg
   have hkj:k≠j:=fun e=> H.out (e▸hfg);clear hfg;go_wp2
   go_quiet (fail)
   go_wp2;go_roundw
   case rel=> exact ⟨k+1,by omega,by go_num,below_drewN hnx _⟩
   case measure=> simp [intOf] <;> omega
  ·have hb:(f k !=g k)=true:=by simpa using hfg
   clear hfg;go_wp2
   go_quiet (fail)
   go_wp2;go_ret;exact ⟨rfl,below_drewN hnx _⟩
end Go.Proofs.YtpcjekgfnfjbpaaGreat
