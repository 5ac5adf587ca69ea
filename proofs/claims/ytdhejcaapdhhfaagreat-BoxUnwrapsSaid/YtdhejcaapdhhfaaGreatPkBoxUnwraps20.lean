/-
  Part 20 of the texts that the proof of BoxUnwraps rests on, one after the other. Conditions: named in each theorem.
-/
import Derived.Test.YtdhejcaapdhhfaaGreatPkBoxUnwraps19
import Derived.Test.YtdhejcaapdhhfaaGreatPkBoxUnwraps14
import Derived.Test.YtdhejcaapdhhfaaGreatPkBoxUnwraps12
import Derived.Test.YtdhejcaapdhhfaaGreatPkBoxUnwraps3
import Derived.Test.YtdhejcaapdhhfaaGreatPkBoxUnwraps10
import Derived.Test.YtdhejcaapdhhfaaGreatPkBoxUnwraps4
import Derived.Test.YtdhejcaapdhhfaaGreatPkBoxUnwraps7
import Derived.Test.YtdhejcaapdhhfaaGreatPkBoxUnwraps2
import Derived.Test.YtdhejcaapdhhfaaGreatPkBoxUnwraps13
import Derived.Test.YtdhejcaapdhhfaaGreatPkBoxUnwraps5
import Derived.BigFrame
import Derived.BigQuiet
import Derived.ChangeKeysEq
import Derived.Deep.Cut
import Derived.Deep.DrawnRows
import Derived.Deep.QuietTactic
import Derived.Deep.RegionHeld3
import Derived.Deep.RegionLaw
import Derived.Deep.WholeRow
import Derived.Great.BuildSlice
import Derived.Laws.BitsAllLaws
import Derived.Laws.CopyOwn
import Derived.Laws.StructEq
import Derived.Lib.Hide
import Derived.Maps.AppendAt
import Derived.Maps.Range
import Derived.Orders
import Derived.RangeFuncBox
import Derived.Test.YtdhejcaapdhhfaaGreatArr
import Derived.Test.YtdhejcaapdhhfaaGreatFlow
import Derived.Test.YtdhejcaapdhhfaaGreatKit
import Derived.Test.YtdhejcaapdhhfaaGreatRows
import Derived.Test.YtdhejcaapdhhfaaGreatTxt
import Derived.WalkKit
import Derived.WalkLawsBesides
import Derived.WalkSmall
import Derived.WalkSpells
set_option linter.unusedVariables false
set_option linter.unusedSimpArgs false
set_option maxRecDepth 100000
set_option maxHeartbeats 12800000
namespace Go.Bas
open Go.RowKit
theorem schF_rec (m:Nat→Int) {k:Nat} (h:k<64):schF m 64 (16+k)=schW (schF m 64 k) (schF m 64 (k+1)) (schF m 64 (k+9)) (schF m 64 (k+14)):=by
 have e:∀i,i<16+k→schF m 64 i=schF m k i:=fun i hi=> by
  have:=schF_stable m k (64 - k) i hi
  rwa [show k+(64 - k)=64 by omega] at this
 have e1:schF m 64 (16+k)=schF m (k+1) (16+k):=by
  have:=schF_stable m (k+1) (64 - (k+1)) (16+k) (by omega)
  rwa [show k+1+(64 - (k+1))=64 by omega] at this
 rw [e1,schF,upd,if_pos rfl,e k (by omega),e (k+1) (by omega),e (k+9) (by omega),e (k+14) (by omega)]
theorem schF_word (m:Nat→Int) {t:Nat} (h:t<16):schF m 64 t=m t:=by
 have:=schF_stable m 0 64 t (by omega)
 simpa [schF] using this
theorem lit8_rd {k:IntKind} {w:World} {T:TypeId} {f:Nat→Int}:Rd k (w.alloc (.cells [Value.int k (f 0),.int k (f 1),.int k (f 2),.int k (f 3),.int k (f 4),.int k (f 5),.int k (f 6),.int k (f 7)].toArray T)) (.slice (some ⟨w.heap.size,0,none⟩) 8 8) 8 f:=
 lit_rd rfl (by decide) fun i hi=> by
  rcases (by omega:i=0∨i=1∨i=2∨i=3∨i=4∨i=5∨i=6∨i=7) with rfl | rfl | rfl | rfl | rfl | rfl | rfl | rfl<;> rfl
theorem Rd.at' {k:IntKind} {w:World} {b o n c:Nat} {f:Nat→Int} (h:Rd k w (.slice (some ⟨b,o,none⟩) n c) n f) {i:Nat} (hi:i<n):w.cell? ⟨b,o+i,none⟩=some (.int k (f i))∧b<w.heap.size:=by
 obtain ⟨a,c',he,_,_,_,h4⟩:=h
 obtain ⟨b',o',rfl,hb,hc⟩:=h4 (by omega)
 simp only [Value.slice.injEq,Option.some.injEq,Addr.mk.injEq,and_true,true_and] at he
 obtain ⟨⟨rfl,rfl⟩,_⟩:=he
 exact ⟨hc i hi,hb⟩
def RestS (w0:World) (sb so:Nat) (T:Nat→Int) (w:World):Prop:=
 Arr .u8 w w0.heap.size 64 (fun _=> 0)∧(∀i,i<8→w.cell? ⟨sb,so+i,none⟩=some (.int .u64 (T i)))∧Below w0.heap.size w0 w
theorem RestS.set {w0 w:World} {sb so bO:Nat} {T:Nat→Int} (h:RestS w0 sb so T w) (h1:w0.heap.size<bO) (h2:sb<bO) (i:Nat) (v:Value):RestS w0 sb so T (w.setCell ⟨bO,i,none⟩ v):=
 ⟨h.1.other (by show w0.heap.size≠bO;omega) _,fun j hj=> (World.cell?_of_block (heap_setCell_other w ⟨bO,i,none⟩ sb v (by show sb≠bO;omega))).trans (h.2.1 j hj),h.2.2.setCell (by show w0.heap.size≤bO;omega) _⟩
theorem sub64u {x:Int} (h:0≤x∧x<M64):IntKind.u64.wrap (18446744073709551615 - x)=M64 - 1 - x:=by
 have:M64=18446744073709551616:=rfl
 rw [wrap_u64_id (by omega) (by omega)];omega
end Go.Bas
namespace Go.Proofs.YtdhejcaapdhhfaaGreat
open Go.RowKit Go.Bas
attribute [local go_sem ↓] Go.wp_at_zero Go.wp_at_succ
theorem rSum_any (v:Value) (n:Nat) (f:Nat→Int) (w:World) (hv:Rd .u8 w v n f) (hn2:n≤1000000) (hf:∀i,i<n→0≤f i∧f i<256):
  Calls Tryz.prog 73 #[v] w fun e w'=> e=.returned (.agg (arr .u8 64 (sumB n f)))∧Below w.heap.size w w':=by
 obtain ⟨F,hFF⟩:∃F,F=msgF n f:=⟨_,rfl⟩
 have HF:Hid (∀i,0≤F i∧F i<256):=by rw [hFF];exact msgF_bound hf
 have HLO:Hid (∀i,i<n→F (0+i)=f i):=by rw [hFF];exact fun i hi=> by rw [Nat.zero_add];exact msgF_lo hi
 have HHI:Hid (∀i,i<padN n→F (n+i)=padF n i):=by rw [hFF];exact fun i _=> msgF_hi i
 obtain ⟨N,hN⟩:∃N,N=msgN n:=⟨_,rfl⟩
 have HNN:Hid (n+padN n=N):=by rw [hN];exact rfl
 obtain ⟨NB,hNB⟩:∃NB,NB=N / 128:=⟨_,rfl⟩
 have HN2:Hid (N≤1000200∧N=128 * NB):=by
  have:=msgN_mod n
  rw [←hN] at this
  refine ⟨by rw [hN];unfold msgN padN padZ;omega,by omega⟩
 have HSB:Hid (∀i,hashF F NB (i / 8) / 2 ^ (8 * (7 - i % 8)) % 256=sumB n f i):=by rw [hNB,hFF,hN];exact fun i=> rfl
 obtain ⟨SB,hSB⟩:∃SB,SB=sumB n f:=⟨_,rfl⟩
 rw [←hSB] at HSB ⊢
 have HV:=Lib.hid hv
 obtain ⟨va,vc,rfl,v1,v2,v3,v4⟩:=hv
 clear hFF hN hNB hSB hf v3 v4
 go_enter Tryz.func73,Tryz.ntmps73
 go_upto_region 1 with (fail)
 refine wp_world (fun w1=> Arr .u8 w1 w.heap.size 64 (fun _=> 0)∧Below w.heap.size w w1∧w1.heap.size=w.heap.size+1) ⟨Arr.newAt rfl (by rfl),(Below.refl _ _).alloc (Nat.le_refl _) _,by simp⟩ ?_
 rintro w1 ⟨hZ,hbel,hs⟩
 go_wp2_with fail
 refine (told_any _).mono ?_
 rintro e w2 ⟨vk,rfl,hK,hb2⟩
 have hZ2:=hZ.kept hb2
 have hbel2:=hbel.trans (hb2.mono hbel.size)
 have HK2:=Lib.hid hK.rd
 obtain ⟨gk,ck,rfl,k1,k2,k3,k4,_,_⟩:=hK.form (by decide)
 have HV2:=Lib.hid (HV.out.below hbel2)
 have s2:=hb2.size
 clear hZ hbel hb2 hK
 go_upto_region 4 with (at_builtin;refine append_rd rfl _ _ 23 rfl w2.heap.size 5 .u8 1 Tryz.underlying23 Tryz.info5 _ 0 F (Go.Bas.Own.nil _ _ _ _ _) rfl _ n f HV2.out rfl HLO.out (by omega) (by omega) (Nat.le_refl _) ?_;intro v3 w3 hown3 hgr3)
 have hb3:Below w2.heap.size w2 w3:=below_grown (Below.refl w2.heap.size w2) hgr3 (Go.Bas.Own.nil .u8 5 w2.heap.size w2 F) (Nat.le_refl _) (Nat.le_refl _)
 rw [Nat.zero_add] at hown3
 have HO3:=Lib.hid hown3
 have s3:=hb3.size
 clear hown3 hgr3
 go_wp2_with fail
 refine (rPad_any n (by omega) _).mono ?_
 rintro e w4 ⟨p,rfl,hp,hb4⟩
 have HO4:=Lib.hid (HO3.out.below hb4)
 have HP4:=Lib.hid hp.rd
 have hb24:=hb3.trans (hb4.mono s3)
 have s4:=hb24.size
 clear hp hb3 hb4 HO3
 go_upto_region 5 with (at_builtin;refine append_rd rfl _ _ 23 rfl w2.heap.size 5 .u8 1 Tryz.underlying23 Tryz.info5 _ n F HO4.out rfl _ (padN n) _ HP4.out rfl HHI.out (by have:=HNN.out;have:=HN2.out.1;omega) (by have:=HNN.out;have:=HN2.out.1;omega) s4 ?_;intro v5 w5 hown5 hgr5)
 have hb25:=below_grown hb24 hgr5 HO4.out s4 (Nat.le_refl _)
 rw [HNN.out] at hown5
 have hM5:=hown5.rd
 have s5:=hb25.size
 clear hown5 hgr5 HO4 HP4 hb24
 go_wp2_with fail
 refine (rBegin_any _).mono ?_
 rintro e w6 ⟨v6,rfl,hB6,hb6⟩
 have hb26:=hb25.trans (hb6.mono s5)
 have hZ6:=hZ2.kept hb26
 have hbel6:=hbel2.trans (hb26.mono hbel2.size)
 have HK6:=Lib.hid (HK2.out.below hb26)
 have hM6:=hM5.below hb6
 have hS6:=hB6.rd
 obtain ⟨ma,mc,rfl,m1,m2,_,m4⟩:=id hM6
 have HM6:=Lib.hid hM6
 have hzl:=hZ6.lt
 clear hb25 hb6 hb26 hZ2 hbel2 HK2 HV2 hM5 hB6 hM6 m4 k1 k2
 have nn1:=HN2.out.1
 go_wp2
 go_loopw [5,6] (fun s i wr=> ∃j:Nat,j≤NB∧i=.int .i64 ((128 * j:Nat):Int)∧Rd .u64 wr s 8 (hashF F j)∧Below w6.heap.size w6 wr) (fun _ i _=> N - (intOf i).toNat)
 case atStart=> exact ⟨0,Nat.zero_le _,rfl,hS6,Below.refl _ _⟩
 case round=>
  clear hS6
  obtain ⟨j,hj,rfl,hS,hbw⟩:=hrel
  by_cases hlt:j<NB
  ·obtain ⟨sa,sc,rfl,z1,z2,_,z4⟩:=id hS
   obtain ⟨sb,so,rfl,zl,zc⟩:=z4 (by decide)
   obtain ⟨J,hJ⟩:∃J,J=128 * j:=⟨_,rfl⟩
   rw [←hJ]
   have HJ:=Lib.hid hJ
   obtain ⟨S,hSS⟩:∃S,S=hashF F j:=⟨_,rfl⟩
   have HS8:Hid (∀i,i<8→0≤S i∧S i<M64):=by rw [hSS];exact hashF_bound F j
   obtain ⟨fj,hfj⟩:∃fj:Nat→Int,fj=fun i=> F (J+i):=⟨_,rfl⟩
   have hfb:∀i,i<128→0≤fj i∧fj i<256:=by rw [hfj];exact fun i _=> HF.out _
   obtain ⟨W,hW⟩:∃W,W=schF (m16 fj) 64:=⟨_,rfl⟩
   have HWB:Hid (∀i,i<80→0≤W i∧W i<M64):=by rw [hW];exact schF_bound (m16_bound hfb) 64
   have HW16:Hid (∀t,t<16→big (fun i=> F (J+8 * t+i)) 8=W t):=by
    intro t ht
    rw [hW,schF_word _ ht,hfj]
    unfold m16
    rw [if_pos ht]
    exact big_congr (n:=8) (fun i _=> by rw [Nat.add_assoc]) 8 (Nat.le_refl _)
   have HWR:Hid (∀k,k<64→schW (W k) (W (k+1)) (W (k+9)) (W (k+14))=W (16+k)):=by rw [hW];exact fun k hk=> (schF_rec _ hk).symm
   obtain ⟨G,hG⟩:∃G,G=hashF F (j+1):=⟨_,rfl⟩
   have HG:Hid (∀i,(S i+rds64 kK W S 80 i) % M64=G i):=by rw [hG,hW,hfj,hSS,hJ];exact fun i=> rfl
   have HGE:=Lib.hid hG
   rw [←hSS] at hS zc
   have HS:=Lib.hid hS
   have HZC:=Lib.hid zc
   clear hJ hSS hfj hfb hW hG hS zc
   obtain ⟨wj,hwj⟩:∃wj,wj=wr:=⟨_,rfl⟩
   subst hwj
   have HMj:=Lib.hid (HM6.out.below hbw)
   have HKj:=Lib.hid (HK6.out.below hbw)
   have hja:J+128≤N:=by have:=HN2.out.2;have:=HJ.out;omega
   have hjlt:((J:Nat):Int)<(N:Int):=by omega
   go_upto_region 10 with (fail)
   go_wp2
   go_loopw [7,8] (fun x i wr=> ∃t:Nat,t≤80∧i=.int .i64 (t:Int)∧Go.Bas.Own .u64 96 wj.heap.size wr x t W∧Below wj.heap.size wj wr) (fun _ i _=> 80 - (intOf i).toNat)
   case atStart=> exact ⟨0,Nat.zero_le _,rfl,Go.Bas.Own.nil _ _ _ _ _,Below.refl _ _⟩
   case round=>
    obtain ⟨t,ht,rfl,hO,hbt⟩:=hrel
    have hst:=hbt.size
    have HO:=Lib.hid hO
    by_cases ht16:t<16
    ·obtain ⟨la,r1,r2,r3⟩:=Rd.cut Tryz.underlying23 Tryz.info5 ma N mc (J+8 * t) (J+8 * t+8) (by omega) (by omega) m1
     rw [show J+8 * t+8 - (J+8 * t)=8 by omega] at r1 r3
     have R1:=Lib.hid r1
     have HL:=Lib.hid (r3 _ _ (HMj.out.below hbt)).1
     have a1:IntKind.i64.wrap (8 * (t:Int))=((8 * t:Nat):Int):=by rw [wrap_i64_id (by omega) (by omega)];omega
     have a2:IntKind.i64.wrap (((J:Nat):Int)+((8 * t:Nat):Int))=((J+8 * t:Nat):Int):=by rw [wrap_i64_id (by omega) (by omega)];omega
     have a3:IntKind.i64.wrap (((J+8 * t:Nat):Int)+8)=((J+8 * t+8:Nat):Int):=by rw [wrap_i64_id (by omega) (by omega)];omega
     have A1:=Lib.hid a1
     have A2:=Lib.hid a2
     have A3:=Lib.hid a3
     have ht80:t<80:=by omega
     clear r1 r2 r3 hO a1 a2 a3
     go_upto_region 14 with (fail)
     refine region_tail (n:=259) 14 (by decide) (by kernel_rfl) (by kernel_rfl) (by kernel_rfl) (by kernel_rfl) rfl
      (fun ii vv ww=> (match ii with | 0=> vv=u7 | 1=> vv=.slice ma N mc | 2 | 6=> vv=.int .i64 (((J:Nat):Int)) | 3 | 7=> vv=.int .i64 ((t:Int)) | 4 | 8=> vv=.int .i64 (((8 * t:Nat):Int)) | 5 | 9=> vv=.int .i64 (((J+8 * t:Nat):Int)) | 10=> vv=.int .i64 (((J+8 * t+8:Nat):Int)) | 11=> vv=.slice la 8 (mc - (J+8 * t)) | 12=> vv=.int .u64 (W t) | _=> True)∧(ii=13→Rd .u64 ww vv 1 (fun _=> W t)))
      (fun i v w w' h hE=> ⟨h.1,fun e=> Rd.below (h.2 e) hE⟩) ?_ ?_
     ·refine Each.all ?_
      refine ⟨?_,?_,?_,?_,?_,?_,?_,?_,?_,?_,?_,?_,?_,?_,(fun h=> absurd h (by decide)),(fun h=> absurd h (by decide)),trivial⟩
      ·intro _ a w2 hB hF hd
       rw [if_pos (wanted_none rfl)]
       exact flow_move _ (.inl rfl) (by simp) ⟨(hF.same 7 rfl),fun h=> absurd h (by decide)⟩
      ·intro _ a w2 hB hF hd
       rw [if_pos (wanted_none rfl)]
       exact flow_move _ (.inl rfl) (by simp) ⟨(hF.same 4 rfl),fun h=> absurd h (by decide)⟩
      ·intro _ a w2 hB hF hd
       rw [if_pos (wanted_none rfl)]
       exact flow_move _ (.inl rfl) (by simp) ⟨(hF.same 6 rfl),fun h=> absurd h (by decide)⟩
      ·intro _ a w2 hB hF hd
       rw [if_pos (wanted_none rfl)]
       exact flow_move _ (.inl rfl) (by simp) ⟨(hF.same 8 rfl),fun h=> absurd h (by decide)⟩
      ·intro _ a w2 hB hF hd
       rw [if_pos (wanted_none rfl)]
       exact flow_val (fun h=> by cases h) (Go.Bas.run_mul rfl rfl ((hd 3 _ rfl (waits_spec rfl)).1)) ⟨(congrArg (Value.int .i64) (A1.out)),fun h=> absurd h (by decide)⟩
      ·intro _ a w2 hB hF hd
       rw [if_pos (wanted_none rfl)]
       exact flow_val (fun h=> by cases h) (Go.Bas.run_add rfl ((hd 2 _ rfl (waits_spec rfl)).1) ((hd 4 _ rfl (waits_spec rfl)).1)) ⟨(congrArg (Value.int .i64) (A2.out)),fun h=> absurd h (by decide)⟩
      ·intro _ a w2 hB hF hd
       rw [if_pos (wanted_none rfl)]
       exact flow_move _ (.inl rfl) (by simp) ⟨(hF.same 6 rfl),fun h=> absurd h (by decide)⟩
      ·intro _ a w2 hB hF hd
       rw [if_pos (wanted_none rfl)]
       exact flow_move _ (.inl rfl) (by simp) ⟨(hF.same 8 rfl),fun h=> absurd h (by decide)⟩
      ·intro _ a w2 hB hF hd
       rw [if_pos (wanted_none rfl)]
       exact flow_val (fun h=> by cases h) (Go.Bas.run_mul rfl rfl ((hd 7 _ rfl (waits_spec rfl)).1)) ⟨(congrArg (Value.int .i64) (A1.out)),fun h=> absurd h (by decide)⟩
      ·intro _ a w2 hB hF hd
       rw [if_pos (wanted_none rfl)]
       exact flow_val (fun h=> by cases h) (Go.Bas.run_add rfl ((hd 6 _ rfl (waits_spec rfl)).1) ((hd 8 _ rfl (waits_spec rfl)).1)) ⟨(congrArg (Value.int .i64) (A2.out)),fun h=> absurd h (by decide)⟩
      ·intro _ a w2 hB hF hd
       rw [if_pos (wanted_none rfl)]
       exact flow_val (fun h=> by cases h) (Go.Bas.run_add rfl ((hd 9 _ rfl (waits_spec rfl)).1) rfl) ⟨(congrArg (Value.int .i64) (A3.out)),fun h=> absurd h (by decide)⟩
      ·intro _ a w2 hB hF hd
       rw [if_pos (wanted_none rfl)]
       exact flow_val (fun h=> by cases h) (run_slice_part rfl ((hd 1 _ rfl (waits_spec rfl)).1) (by simp only [Option.map_some,Option.map_none,show a.eval (Operand.tmp 53)=.int .i64 (((J+8 * t:Nat):Int)) from ((hd 5 _ rfl (waits_spec rfl)).1),show a.eval (Operand.tmp 58)=.int .i64 (((J+8 * t+8:Nat):Int)) from ((hd 10 _ rfl (waits_spec rfl)).1)];exact R1.out _)) ⟨rfl,fun h=> absurd h (by decide)⟩
      ·intro _ a w2 hB hF hd
       rw [if_pos (wanted_none rfl)]
       refine flow_call _ _ _ rfl Tryz.call123 _ (args1 ((hd 11 _ rfl (waits_spec rfl)).1)) (by simp) (((HW16.out t ht16▸Wide_any _ 8 (fun i=> F (J+8 * t+i)) _ (HL.out.below hB) (fun i _=> HF.out _) (by decide))).mono ?_)
       rintro e w3 ⟨rfl,hb⟩;exact ⟨_,rfl,⟨rfl,fun h=> absurd h (by decide)⟩,hb⟩
      ·intro _ a w2 hB hF hd
       rw [if_pos (wanted_none rfl)]
       exact flow_lits 106 96 1 _ [.int .u64 (W t)] rfl Tryz.underlying106 (by kernel_rfl) (by kernel_rfl) rfl (by decide) (by decide) (by intro v hv;simp only [List.mem_cons,List.not_mem_nil,or_false] at hv;rcases hv with rfl<;> rfl) (by simp only [List.map_toArray,List.map_cons,List.map_nil,show a.eval (Operand.tmp 60)=.int .u64 (W t) from ((hd 12 _ rfl (waits_spec rfl)).1)];rfl) (by simp) ⟨trivial,fun _=> (lit1_rd)⟩
     ·intro a w8 hB hF hS
      obtain ⟨x61,hx61⟩:∃x,x=a.tmps.getD 61 undef:=⟨_,rfl⟩
      have P61:Rd .u64 w8 x61 1 (fun _=> W t):=by rw [hx61];exact (hS 13 _ rfl (by decide)).2 rfl
      have ha:=puts_each rfl rfl hF [_,_,_,_,_,_,_,_,_,_,_,_,_,x61] rfl ⟨(hS 0 _ rfl (by decide)).1,(hS 1 _ rfl (by decide)).1,(hS 2 _ rfl (by decide)).1,(hS 3 _ rfl (by decide)).1,(hS 4 _ rfl (by decide)).1,(hS 5 _ rfl (by decide)).1,(hS 6 _ rfl (by decide)).1,(hS 7 _ rfl (by decide)).1,(hS 8 _ rfl (by decide)).1,(hS 9 _ rfl (by decide)).1,(hS 10 _ rfl (by decide)).1,(hS 11 _ rfl (by decide)).1,(hS 12 _ rfl (by decide)).1,hx61.symm,trivial⟩
      simp only [puts,List.take_succ_cons,List.take_zero,Act.put,List.setIfInBounds_toArray,List.set_cons_succ,List.set_cons_zero] at ha
      subst ha
      change tl _ _ _ (_::_:: []) _ _
      clear hx61
      clear hS hF
      have hO8:=HO.out.below hB
      have hb8:=hbt.trans (hB.mono hst)
      refine tl_step rfl (wp_append_rd _ _ 106 rfl wj.heap.size 96 .u64 8 Tryz.underlying106 Tryz.info96 _ t W hO8 rfl _ 1 _ P61 rfl (fun i hi=> by rw [show t+i=t by omega]) (by omega) (by omega) hb8.size ?_)
      intro v' w9 hown hgrow
      refine tl_move rfl _ (.inr rfl) (tl_nil ?_)
      have hb9:=below_grown hb8 hgrow hO8 hb8.size (Nat.le_refl _)
      clear hB hgrow hO8 hb8 P61
      go_wp2
      go_roundw
      case rel=> first | exact ⟨t+1,by omega,by go_num,hown,hb9⟩ | ((repeat apply Exists.intro);exact ⟨⟨t+1,by omega,by go_num,hown,hb9⟩,rfl⟩)
      case measure=> simp [intOf] <;> omega
    ·by_cases ht80:t<80
     ·obtain ⟨k,rfl⟩:∃k,t=16+k:=⟨t - 16,by omega⟩
      obtain ⟨g7,c7,rfl,f1,f2,f3,f4,f5,_⟩:=hO.form (by omega)
      have HC7:=Lib.hid f5
      have d15:=Lib.hid (sub_i64 (a:=16+k) (c:=15) (b:=k+1) (by omega) (by omega))
      have d2:=Lib.hid (sub_i64 (a:=16+k) (c:=2) (b:=k+14) (by omega) (by omega))
      have d16:=Lib.hid (sub_i64 (a:=16+k) (c:=16) (b:=k) (by omega) (by omega))
      have d7:=Lib.hid (sub_i64 (a:=16+k) (c:=7) (b:=k+9) (by omega) (by omega))
      have hkk:k<64:=by omega
      clear hO f5
      go_upto_region 15 with (fail)
      refine region_flow (n:=259) (by kernel_rfl) (by kernel_rfl) (by kernel_rfl) rfl
       (fun ii vv _=> (match ii with | 0=> vv=.slice (some ⟨g7,0,none⟩) (16+k) c7 | 1=> vv=.int .i64 (((16+k:Nat):Int)) | 2=> vv=.int .i64 (((k+1:Nat):Int)) | 3=> vv=.pointer (some ⟨g7,0+(k+1),none⟩) | 4 | 5=> vv=.int .u64 (W (k+1)) | _=> True))
       (fun w w'=> Below w.heap.size w w') (fun _ _ h=> h) (fun _ _ _ _ h _=> h) ?_ ?_
      ·refine Each.all ?_
       refine ⟨?_,?_,?_,?_,?_,?_,trivial⟩
       ·intro a w2 hB hF hd
        rw [if_pos (wanted_none rfl)]
        exact flow_move _ (.inl rfl) (by simp) (hF.same 7 rfl)
       ·intro a w2 hB hF hd
        rw [if_pos (wanted_none rfl)]
        exact flow_move _ (.inl rfl) (by simp) (hF.same 8 rfl)
       ·intro a w2 hB hF hd
        rw [if_pos (wanted_none rfl)]
        exact flow_val (fun h=> by cases h) (Go.Bas.run_sub rfl (hd 1 _ rfl (waits_spec rfl)) rfl) (congrArg (Value.int .i64) (d15.out))
       ·intro a w2 hB hF hd
        rw [if_pos (wanted_none rfl)]
        exact flow_val (fun h=> by cases h) (run_index_slice rfl (hd 0 _ rfl (waits_spec rfl)) (hd 2 _ rfl (waits_spec rfl)) Tryz.underlying106 (by kernel_rfl) (by omega) (by omega)) rfl
       ·intro a w2 hB hF hd
        rw [if_pos (wanted_none rfl)]
        exact flow_val (fun h=> by cases h) (run_load_cell rfl (hd 3 _ rfl (waits_spec rfl)) Tryz.underlying96 ((hB.cell (p:=⟨g7,0+(k+1),none⟩) f2).trans (by rw [Nat.zero_add];exact HC7.out (k+1) (by omega)))) rfl
       ·intro a w2 hB hF hd
        rw [if_pos (wanted_none rfl)]
        exact flow_move _ (.inr rfl) (by simp) (hd 4 _ rfl (waits_spec rfl))
      ·intro a w8 hB hF hS
       have ha:=puts_each rfl rfl hF [_,_,_,_,_,_] rfl ⟨hS 0 _ rfl,hS 1 _ rfl,hS 2 _ rfl,hS 3 _ rfl,hS 4 _ rfl,hS 5 _ rfl,trivial⟩
       simp only [puts,Act.put,List.setIfInBounds_toArray,List.set_cons_succ,List.set_cons_zero] at ha
       subst ha
       clear hS hF
       have hf2:g7<w8.heap.size:=Nat.lt_of_lt_of_le f2 hB.size
       have HC8:Hid (∀i,i<16+k→w8.cell? ⟨g7,i,none⟩=some (.int .u64 (W i))):=fun i hi=> (hB.cell (p:=⟨g7,i,none⟩) f2).trans (HC7.out i hi)
       have HO8:=Lib.hid (HO.out.below hB)
       have hb8:=hbt.trans (hB.mono hst)
       have hs8:=hb8.size
       clear hB HC7 HO f2 hbt hst
       go_upto_region 16 with (fail)
       refine region_flow (n:=259) (by kernel_rfl) (by kernel_rfl) (by kernel_rfl) rfl
        (fun ii vv _=> (match ii with | 0=> vv=.slice (some ⟨g7,0,none⟩) (16+k) c7 | 1=> vv=.int .i64 (((16+k:Nat):Int)) | 2=> vv=.int .i64 (((k+14:Nat):Int)) | 3=> vv=.pointer (some ⟨g7,0+(k+14),none⟩) | 4 | 5=> vv=.int .u64 (W (k+14)) | _=> True))
        (fun w w'=> Below w.heap.size w w') (fun _ _ h=> h) (fun _ _ _ _ h _=> h) ?_ ?_
       ·refine Each.all ?_
        refine ⟨?_,?_,?_,?_,?_,?_,trivial⟩
        ·intro a w2 hB hF hd
         rw [if_pos (wanted_none rfl)]
         exact flow_move _ (.inl rfl) (by simp) (hF.same 7 rfl)
        ·intro a w2 hB hF hd
         rw [if_pos (wanted_none rfl)]
         exact flow_move _ (.inl rfl) (by simp) (hF.same 8 rfl)
        ·intro a w2 hB hF hd
         rw [if_pos (wanted_none rfl)]
         exact flow_val (fun h=> by cases h) (Go.Bas.run_sub rfl (hd 1 _ rfl (waits_spec rfl)) rfl) (congrArg (Value.int .i64) (d2.out))
        ·intro a w2 hB hF hd
         rw [if_pos (wanted_none rfl)]
         exact flow_val (fun h=> by cases h) (run_index_slice rfl (hd 0 _ rfl (waits_spec rfl)) (hd 2 _ rfl (waits_spec rfl)) Tryz.underlying106 (by kernel_rfl) (by omega) (by omega)) rfl
        ·intro a w2 hB hF hd
         rw [if_pos (wanted_none rfl)]
         exact flow_val (fun h=> by cases h) (run_load_cell rfl (hd 3 _ rfl (waits_spec rfl)) Tryz.underlying96 ((hB.cell (p:=⟨g7,0+(k+14),none⟩) hf2).trans (by rw [Nat.zero_add];exact HC8.out (k+14) (by omega)))) rfl
        ·intro a w2 hB hF hd
         rw [if_pos (wanted_none rfl)]
         exact flow_move _ (.inr rfl) (by simp) (hd 4 _ rfl (waits_spec rfl))
       ·intro a w9 hB hF hS
        have ha:=puts_each rfl rfl hF [_,_,_,_,_,_] rfl ⟨hS 0 _ rfl,hS 1 _ rfl,hS 2 _ rfl,hS 3 _ rfl,hS 4 _ rfl,hS 5 _ rfl,trivial⟩
        simp only [puts,Act.put,List.setIfInBounds_toArray,List.set_cons_succ,List.set_cons_zero] at ha
        subst ha
        clear hS hF
        have hf3:g7<w9.heap.size:=Nat.lt_of_lt_of_le hf2 hB.size
        have HC9:Hid (∀i,i<16+k→w9.cell? ⟨g7,i,none⟩=some (.int .u64 (W i))):=fun i hi=> (hB.cell (p:=⟨g7,i,none⟩) hf2).trans (HC8.out i hi)
        have HO9:=Lib.hid (HO8.out.below hB)
        have hb9:=hb8.trans (hB.mono hs8)
        have hs9:=hb9.size
        clear hB HC8 HO8 hf2 hb8 hs8
        go_upto_region 17 with (fail)
        refine region_tail (n:=259) 31 (by decide) (by kernel_rfl) (by kernel_rfl) (by kernel_rfl) (by kernel_rfl) rfl
         (fun ii vv ww=> (match ii with | 0 | 1 | 15=> vv=.slice (some ⟨g7,0,none⟩) (16+k) c7 | 2 | 16=> vv=.int .i64 (((16+k:Nat):Int)) | 3=> vv=.int .i64 (((k:Nat):Int)) | 4=> vv=.pointer (some ⟨g7,0+k,none⟩) | 5=> vv=.int .u64 (W k) | 6 | 8 | 11=> vv=.int .u64 (W (k+1)) | 7=> vv=.int .u64 (rr (W (k+1)) 1) | 9=> vv=.int .u64 (rr (W (k+1)) 8) | 10=> vv=.int .u64 (x64 (rr (W (k+1)) 1) (rr (W (k+1)) 8)) | 12=> vv=.int .u64 (W (k+1) / 2 ^ 7) | 13=> vv=.int .u64 (s0F (W (k+1))) | 14=> vv=.int .u64 ((W k+s0F (W (k+1))) % M64) | 17=> vv=.int .i64 (((k+9:Nat):Int)) | 18=> vv=.pointer (some ⟨g7,0+(k+9),none⟩) | 19=> vv=.int .u64 (W (k+9)) | 20=> vv=.int .u64 (((W k+s0F (W (k+1))) % M64+W (k+9)) % M64) | 21 | 23 | 26=> vv=.int .u64 (W (k+14)) | 22=> vv=.int .u64 (rr (W (k+14)) 19) | 24=> vv=.int .u64 (rr (W (k+14)) 61) | 25=> vv=.int .u64 (x64 (rr (W (k+14)) 19) (rr (W (k+14)) 61)) | 27=> vv=.int .u64 (W (k+14) / 2 ^ 6) | 28=> vv=.int .u64 (s1F (W (k+14))) | 29=> vv=.int .u64 (schW (W k) (W (k+1)) (W (k+9)) (W (k+14))) | _=> True)∧(ii=30→Rd .u64 ww vv 1 (fun _=> schW (W k) (W (k+1)) (W (k+9)) (W (k+14)))))
         (fun i v w w' h hE=> ⟨h.1,fun e=> Rd.below (h.2 e) hE⟩) ?_ ?_
        ·refine Each.all ?_
         refine ⟨?_,?_,?_,?_,?_,?_,?_,?_,?_,?_,?_,?_,?_,?_,?_,?_,?_,?_,?_,?_,?_,?_,?_,?_,?_,?_,?_,?_,?_,?_,?_,(fun h=> absurd h (by decide)),(fun h=> absurd h (by decide)),trivial⟩
         ·intro _ a w2 hB hF hd
          rw [if_pos (wanted_none rfl)]
          exact flow_move _ (.inl rfl) (by simp) ⟨(hF.same 7 rfl),fun h=> absurd h (by decide)⟩
         ·intro _ a w2 hB hF hd
          rw [if_pos (wanted_none rfl)]
          exact flow_move _ (.inl rfl) (by simp) ⟨(hF.same 7 rfl),fun h=> absurd h (by decide)⟩
         ·intro _ a w2 hB hF hd
          rw [if_pos (wanted_none rfl)]
          exact flow_move _ (.inl rfl) (by simp) ⟨(hF.same 8 rfl),fun h=> absurd h (by decide)⟩
         ·intro _ a w2 hB hF hd
          rw [if_pos (wanted_none rfl)]
          exact flow_val (fun h=> by cases h) (Go.Bas.run_sub rfl ((hd 2 _ rfl (waits_spec rfl)).1) rfl) ⟨(congrArg (Value.int .i64) (d16.out)),fun h=> absurd h (by decide)⟩
         ·intro _ a w2 hB hF hd
          rw [if_pos (wanted_none rfl)]
          exact flow_val (fun h=> by cases h) (run_index_slice rfl ((hd 1 _ rfl (waits_spec rfl)).1) ((hd 3 _ rfl (waits_spec rfl)).1) Tryz.underlying106 (by kernel_rfl) (by omega) (by omega)) ⟨rfl,fun h=> absurd h (by decide)⟩
         ·intro _ a w2 hB hF hd
          rw [if_pos (wanted_none rfl)]
          exact flow_val (fun h=> by cases h) (run_load_cell rfl ((hd 4 _ rfl (waits_spec rfl)).1) Tryz.underlying96 ((hB.cell (p:=⟨g7,0+k,none⟩) hf3).trans (by rw [Nat.zero_add];exact HC9.out k (by omega)))) ⟨rfl,fun h=> absurd h (by decide)⟩
         ·intro _ a w2 hB hF hd
          rw [if_pos (wanted_none rfl)]
          exact flow_move _ (.inl rfl) (by simp) ⟨(hF.same 9 rfl),fun h=> absurd h (by decide)⟩
         ·intro _ a w2 hB hF hd
          rw [if_pos (wanted_none rfl)]
          refine flow_call _ _ _ rfl Tryz.call124 _ (args2 ((hd 6 _ rfl (waits_spec rfl)).1) rfl) (by simp) ((turn_any (W (k+1)) 1 (HWB.out _ (by omega)) (by decide) _ rfl _).mono ?_)
          rintro e w3 ⟨rfl,hb⟩;exact ⟨_,rfl,⟨rfl,fun h=> absurd h (by decide)⟩,hb⟩
         ·intro _ a w2 hB hF hd
          rw [if_pos (wanted_none rfl)]
          exact flow_move _ (.inl rfl) (by simp) ⟨(hF.same 9 rfl),fun h=> absurd h (by decide)⟩
         ·intro _ a w2 hB hF hd
          rw [if_pos (wanted_none rfl)]
          refine flow_call _ _ _ rfl Tryz.call124 _ (args2 ((hd 8 _ rfl (waits_spec rfl)).1) rfl) (by simp) ((turn_any (W (k+1)) 8 (HWB.out _ (by omega)) (by decide) _ rfl _).mono ?_)
          rintro e w3 ⟨rfl,hb⟩;exact ⟨_,rfl,⟨rfl,fun h=> absurd h (by decide)⟩,hb⟩
         ·intro _ a w2 hB hF hd
          rw [if_pos (wanted_none rfl)]
          exact flow_val (fun h=> by cases h) (Go.Bas.run_xor rfl ((hd 7 _ rfl (waits_spec rfl)).1) ((hd 9 _ rfl (waits_spec rfl)).1)) ⟨(congrArg (Value.int .u64) (rfl)),fun h=> absurd h (by decide)⟩
         ·intro _ a w2 hB hF hd
          rw [if_pos (wanted_none rfl)]
          exact flow_move _ (.inl rfl) (by simp) ⟨(hF.same 9 rfl),fun h=> absurd h (by decide)⟩
         ·intro _ a w2 hB hF hd
          rw [if_pos (wanted_none rfl)]
          refine flow_call _ _ _ rfl Tryz.call125 _ (args2 ((hd 11 _ rfl (waits_spec rfl)).1) rfl) (by simp) ((shift_any (W (k+1)) 7 (HWB.out _ (by omega)) (by decide) _ rfl _).mono ?_)
          rintro e w3 ⟨rfl,hb⟩;exact ⟨_,rfl,⟨rfl,fun h=> absurd h (by decide)⟩,hb⟩
         ·intro _ a w2 hB hF hd
          rw [if_pos (wanted_none rfl)]
          exact flow_val (fun h=> by cases h) (Go.Bas.run_xor rfl ((hd 10 _ rfl (waits_spec rfl)).1) ((hd 12 _ rfl (waits_spec rfl)).1)) ⟨(congrArg (Value.int .u64) (rfl)),fun h=> absurd h (by decide)⟩
         ·intro _ a w2 hB hF hd
          rw [if_pos (wanted_none rfl)]
          exact flow_val (fun h=> by cases h) (Go.Bas.run_add rfl ((hd 5 _ rfl (waits_spec rfl)).1) ((hd 13 _ rfl (waits_spec rfl)).1)) ⟨(congrArg (Value.int .u64) (wrap64u)),fun h=> absurd h (by decide)⟩
         ·intro _ a w2 hB hF hd
          rw [if_pos (wanted_none rfl)]
          exact flow_move _ (.inl rfl) (by simp) ⟨(hF.same 7 rfl),fun h=> absurd h (by decide)⟩
         ·intro _ a w2 hB hF hd
          rw [if_pos (wanted_none rfl)]
          exact flow_move _ (.inl rfl) (by simp) ⟨(hF.same 8 rfl),fun h=> absurd h (by decide)⟩
         ·intro _ a w2 hB hF hd
          rw [if_pos (wanted_none rfl)]
          exact flow_val (fun h=> by cases h) (Go.Bas.run_sub rfl ((hd 16 _ rfl (waits_spec rfl)).1) rfl) ⟨(congrArg (Value.int .i64) (d7.out)),fun h=> absurd h (by decide)⟩
         ·intro _ a w2 hB hF hd
          rw [if_pos (wanted_none rfl)]
          exact flow_val (fun h=> by cases h) (run_index_slice rfl ((hd 15 _ rfl (waits_spec rfl)).1) ((hd 17 _ rfl (waits_spec rfl)).1) Tryz.underlying106 (by kernel_rfl) (by omega) (by omega)) ⟨rfl,fun h=> absurd h (by decide)⟩
         ·intro _ a w2 hB hF hd
          rw [if_pos (wanted_none rfl)]
          exact flow_val (fun h=> by cases h) (run_load_cell rfl ((hd 18 _ rfl (waits_spec rfl)).1) Tryz.underlying96 ((hB.cell (p:=⟨g7,0+(k+9),none⟩) hf3).trans (by rw [Nat.zero_add];exact HC9.out (k+9) (by omega)))) ⟨rfl,fun h=> absurd h (by decide)⟩
         ·intro _ a w2 hB hF hd
          rw [if_pos (wanted_none rfl)]
          exact flow_val (fun h=> by cases h) (Go.Bas.run_add rfl ((hd 14 _ rfl (waits_spec rfl)).1) ((hd 19 _ rfl (waits_spec rfl)).1)) ⟨(congrArg (Value.int .u64) (wrap64u)),fun h=> absurd h (by decide)⟩
         ·intro _ a w2 hB hF hd
          rw [if_pos (wanted_none rfl)]
          exact flow_move _ (.inl rfl) (by simp) ⟨(hF.same 10 rfl),fun h=> absurd h (by decide)⟩
         ·intro _ a w2 hB hF hd
          rw [if_pos (wanted_none rfl)]
          refine flow_call _ _ _ rfl Tryz.call124 _ (args2 ((hd 21 _ rfl (waits_spec rfl)).1) rfl) (by simp) ((turn_any (W (k+14)) 19 (HWB.out _ (by omega)) (by decide) _ rfl _).mono ?_)
          rintro e w3 ⟨rfl,hb⟩;exact ⟨_,rfl,⟨rfl,fun h=> absurd h (by decide)⟩,hb⟩
         ·intro _ a w2 hB hF hd
          rw [if_pos (wanted_none rfl)]
          exact flow_move _ (.inl rfl) (by simp) ⟨(hF.same 10 rfl),fun h=> absurd h (by decide)⟩
         ·intro _ a w2 hB hF hd
          rw [if_pos (wanted_none rfl)]
          refine flow_call _ _ _ rfl Tryz.call124 _ (args2 ((hd 23 _ rfl (waits_spec rfl)).1) rfl) (by simp) ((turn_any (W (k+14)) 61 (HWB.out _ (by omega)) (by decide) _ rfl _).mono ?_)
          rintro e w3 ⟨rfl,hb⟩;exact ⟨_,rfl,⟨rfl,fun h=> absurd h (by decide)⟩,hb⟩
         ·intro _ a w2 hB hF hd
          rw [if_pos (wanted_none rfl)]
          exact flow_val (fun h=> by cases h) (Go.Bas.run_xor rfl ((hd 22 _ rfl (waits_spec rfl)).1) ((hd 24 _ rfl (waits_spec rfl)).1)) ⟨(congrArg (Value.int .u64) (rfl)),fun h=> absurd h (by decide)⟩
         ·intro _ a w2 hB hF hd
          rw [if_pos (wanted_none rfl)]
          exact flow_move _ (.inl rfl) (by simp) ⟨(hF.same 10 rfl),fun h=> absurd h (by decide)⟩
         ·intro _ a w2 hB hF hd
          rw [if_pos (wanted_none rfl)]
          refine flow_call _ _ _ rfl Tryz.call125 _ (args2 ((hd 26 _ rfl (waits_spec rfl)).1) rfl) (by simp) ((shift_any (W (k+14)) 6 (HWB.out _ (by omega)) (by decide) _ rfl _).mono ?_)
          rintro e w3 ⟨rfl,hb⟩;exact ⟨_,rfl,⟨rfl,fun h=> absurd h (by decide)⟩,hb⟩
         ·intro _ a w2 hB hF hd
          rw [if_pos (wanted_none rfl)]
          exact flow_val (fun h=> by cases h) (Go.Bas.run_xor rfl ((hd 25 _ rfl (waits_spec rfl)).1) ((hd 27 _ rfl (waits_spec rfl)).1)) ⟨(congrArg (Value.int .u64) (rfl)),fun h=> absurd h (by decide)⟩
         ·intro _ a w2 hB hF hd
          rw [if_pos (wanted_none rfl)]
          exact flow_val (fun h=> by cases h) (Go.Bas.run_add rfl ((hd 20 _ rfl (waits_spec rfl)).1) ((hd 28 _ rfl (waits_spec rfl)).1)) ⟨(congrArg (Value.int .u64) (wrap64u)),fun h=> absurd h (by decide)⟩
         ·intro _ a w2 hB hF hd
          rw [if_pos (wanted_none rfl)]
          exact flow_lits 106 96 1 _ [.int .u64 (schW (W k) (W (k+1)) (W (k+9)) (W (k+14)))] rfl Tryz.underlying106 (by kernel_rfl) (by kernel_rfl) rfl (by decide) (by decide) (by intro v hv;simp only [List.mem_cons,List.not_mem_nil,or_false] at hv;rcases hv with rfl<;> rfl) (by simp only [List.map_toArray,List.map_cons,List.map_nil,show a.eval (Operand.tmp 102)=.int .u64 (schW (W k) (W (k+1)) (W (k+9)) (W (k+14))) from ((hd 29 _ rfl (waits_spec rfl)).1)];rfl) (by simp) ⟨trivial,fun _=> (lit1_rd)⟩
        ·intro a wa hB hF hS
         obtain ⟨x103,hx103⟩:∃x,x=a.tmps.getD 103 undef:=⟨_,rfl⟩
         have P103:Rd .u64 wa x103 1 (fun _=> schW (W k) (W (k+1)) (W (k+9)) (W (k+14))):=by rw [hx103];exact (hS 30 _ rfl (by decide)).2 rfl
         have ha:=puts_each rfl rfl hF [_,_,_,_,_,_,_,_,_,_,_,_,_,_,_,_,_,_,_,_,_,_,_,_,_,_,_,_,_,_,x103] rfl ⟨(hS 0 _ rfl (by decide)).1,(hS 1 _ rfl (by decide)).1,(hS 2 _ rfl (by decide)).1,(hS 3 _ rfl (by decide)).1,(hS 4 _ rfl (by decide)).1,(hS 5 _ rfl (by decide)).1,(hS 6 _ rfl (by decide)).1,(hS 7 _ rfl (by decide)).1,(hS 8 _ rfl (by decide)).1,(hS 9 _ rfl (by decide)).1,(hS 10 _ rfl (by decide)).1,(hS 11 _ rfl (by decide)).1,(hS 12 _ rfl (by decide)).1,(hS 13 _ rfl (by decide)).1,(hS 14 _ rfl (by decide)).1,(hS 15 _ rfl (by decide)).1,(hS 16 _ rfl (by decide)).1,(hS 17 _ rfl (by decide)).1,(hS 18 _ rfl (by decide)).1,(hS 19 _ rfl (by decide)).1,(hS 20 _ rfl (by decide)).1,(hS 21 _ rfl (by decide)).1,(hS 22 _ rfl (by decide)).1,(hS 23 _ rfl (by decide)).1,(hS 24 _ rfl (by decide)).1,(hS 25 _ rfl (by decide)).1,(hS 26 _ rfl (by decide)).1,(hS 27 _ rfl (by decide)).1,(hS 28 _ rfl (by decide)).1,(hS 29 _ rfl (by decide)).1,hx103.symm,trivial⟩
         simp only [puts,List.take_succ_cons,List.take_zero,Act.put,List.setIfInBounds_toArray,List.set_cons_succ,List.set_cons_zero] at ha
         subst ha
         change tl _ _ _ (_::_:: []) _ _
         clear hx103
         clear hS hF
         have hOa:=HO9.out.below hB
         have hba:=hb9.trans (hB.mono hs9)
         refine tl_step rfl (wp_append_rd _ _ 106 rfl wj.heap.size 96 .u64 8 Tryz.underlying106 Tryz.info96 _ (16+k) W hOa rfl _ 1 _ P103 rfl (fun i hi=> by rw [show 16+k+i=16+k by omega,HWR.out k hkk]) (by omega) (by omega) hba.size ?_)
         intro v' wb hown hgrow
         refine tl_move rfl _ (.inr rfl) (tl_nil ?_)
         have hbb:=below_grown hba hgrow hOa hba.size (Nat.le_refl _)
         clear hB hgrow hOa hba P103
         go_wp2
         go_roundw
         case rel=> first | exact ⟨16+k+1,by omega,by go_num,hown,hbb⟩ | ((repeat apply Exists.intro);exact ⟨⟨16+k+1,by omega,by go_num,hown,hbb⟩,rfl⟩)
         case measure=> simp [intOf] <;> omega
     ·obtain rfl:t=80:=by omega
      obtain ⟨g7,c7,rfl,f1,f2,f3,f4,f5,_⟩:=hO.form (by decide)
      have HWc:=Lib.hid f5
      have HSc:Hid (∀i,i<8→wr.cell? ⟨sb,so+i,none⟩=some (.int .u64 (S i))):=fun i hi=> (hbt.cell (p:=⟨sb,so+i,none⟩) zl).trans (HZC.out i hi)
      have hsl:sb<wr.heap.size:=Nat.lt_of_lt_of_le zl hst
      have hkl:gk<wr.heap.size:=Nat.lt_of_lt_of_le (Rd.at' HKj.out (i:=0) (by decide)).2 hst
      have HKc:Hid (∀i,i<80→wr.cell? ⟨gk,i,none⟩=some (.int .u64 (kK i))):=fun i hi=> by
       have h1:=Rd.at' (HKj.out.below hbt) (i:=i) hi
       rw [Nat.zero_add] at h1
       exact h1.1
      have z0:wr.cell? ⟨sb,so,none⟩=some (.int .u64 (S 0)):=HSc.out 0 (by decide)
      have z1:wr.cell? ⟨sb,so+1,none⟩=some (.int .u64 (S 1)):=HSc.out 1 (by decide)
      have z2:wr.cell? ⟨sb,so+2,none⟩=some (.int .u64 (S 2)):=HSc.out 2 (by decide)
      have z3:wr.cell? ⟨sb,so+3,none⟩=some (.int .u64 (S 3)):=HSc.out 3 (by decide)
      have z4:wr.cell? ⟨sb,so+4,none⟩=some (.int .u64 (S 4)):=HSc.out 4 (by decide)
      have z5:wr.cell? ⟨sb,so+5,none⟩=some (.int .u64 (S 5)):=HSc.out 5 (by decide)
      have z6:wr.cell? ⟨sb,so+6,none⟩=some (.int .u64 (S 6)):=HSc.out 6 (by decide)
      have z7:wr.cell? ⟨sb,so+7,none⟩=some (.int .u64 (S 7)):=HSc.out 7 (by decide)
      have hbw6:=hbw.trans (hbt.mono hbw.size)
      clear hO f5 HO f1 f4 hbt hst HMj HKj
      go_upto_region 26 with (fail)
      clear z0 z1 z2 z3 z4 z5 z6 z7
      obtain ⟨wk,hwk⟩:∃wk,wk=wr:=⟨_,rfl⟩
      subst hwk
      go_wp2
      go_loopw [11,12,13,14,15,16,17,18,19] (fun a b c d e f g h i wr=> ∃t:Nat,t≤80∧i=.int .i64 (t:Int)∧a=.int .u64 (rds64 kK W S t 0)∧b=.int .u64 (rds64 kK W S t 1)∧c=.int .u64 (rds64 kK W S t 2)∧d=.int .u64 (rds64 kK W S t 3)∧e=.int .u64 (rds64 kK W S t 4)∧f=.int .u64 (rds64 kK W S t 5)∧g=.int .u64 (rds64 kK W S t 6)∧h=.int .u64 (rds64 kK W S t 7)∧Below wk.heap.size wk wr) (fun _ _ _ _ _ _ _ _ i _=> 80 - (intOf i).toNat)
      case atStart=> exact ⟨0,Nat.zero_le _,rfl,rfl,rfl,rfl,rfl,rfl,rfl,rfl,rfl,Below.refl _ _⟩
      case round=>
       obtain ⟨t,ht,rfl,rfl,rfl,rfl,rfl,rfl,rfl,rfl,rfl,hbt⟩:=hrel
       obtain ⟨V,hV⟩:∃V,V=rds64 kK W S t:=⟨_,rfl⟩
       have HVB:Hid (∀i,i<8→0≤V i∧V i<M64):=by rw [hV];exact rds64_bound HS8.out t
       have HVN:Hid (∀i,rdF V (kK t) (W t) i=rds64 kK W S (t+1) i):=by rw [hV];exact fun i=> rfl
       have HVE:Hid (V=rds64 kK W S t):=hV
       rw [←hV]
       clear hV
       have hst:=hbt.size
       by_cases hlt:t<80
       ·have HKr:Hid (∀i,i<80→wr.cell? ⟨gk,i,none⟩=some (.int .u64 (kK i))):=fun i hi=> (hbt.cell (p:=⟨gk,i,none⟩) hkl).trans (HKc.out i hi)
        have HWr:Hid (∀i,i<80→wr.cell? ⟨g7,i,none⟩=some (.int .u64 (W i))):=fun i hi=> (hbt.cell (p:=⟨g7,i,none⟩) f2).trans (HWc.out i hi)
        have hkl2:gk<wr.heap.size:=Nat.lt_of_lt_of_le hkl hst
        have hgl2:g7<wr.heap.size:=Nat.lt_of_lt_of_le f2 hst
        go_upto_region 29 with (fail)
        refine region_flow (n:=259) (by kernel_rfl) (by kernel_rfl) (by kernel_rfl) rfl
         (fun ii vv _=> (match ii with | 0=> vv=.int .u64 (V 7) | 1 | 3 | 6 | 10 | 13=> vv=.int .u64 (V 4) | 2=> vv=.int .u64 (rr (V 4) 14) | 4=> vv=.int .u64 (rr (V 4) 18) | 5=> vv=.int .u64 (x64 (rr (V 4) 14) (rr (V 4) 18)) | 7=> vv=.int .u64 (rr (V 4) 41) | 8=> vv=.int .u64 (S1F (V 4)) | 9=> vv=.int .u64 ((V 7+S1F (V 4)) % M64) | 11=> vv=.int .u64 (V 5) | 12=> vv=.int .u64 (a64 (V 4) (V 5)) | 14=> vv=.int .u64 (M64 - 1 - V 4) | 15=> vv=.int .u64 (V 6) | 16=> vv=.int .u64 (a64 (M64 - 1 - V 4) (V 6)) | 17=> vv=.int .u64 (chF (V 4) (V 5) (V 6)) | 18=> vv=.int .u64 (((V 7+S1F (V 4)) % M64+chF (V 4) (V 5) (V 6)) % M64) | 19=> vv=.slice (some ⟨gk,0,none⟩) 80 ck | 20 | 25=> vv=.int .i64 ((t:Int)) | 21=> vv=.pointer (some ⟨gk,0+t,none⟩) | 22=> vv=.int .u64 (kK t) | 23=> vv=.int .u64 ((((V 7+S1F (V 4)) % M64+chF (V 4) (V 5) (V 6)) % M64+kK t) % M64) | 24=> vv=.slice (some ⟨g7,0,none⟩) 80 c7 | 26=> vv=.pointer (some ⟨g7,0+t,none⟩) | 27=> vv=.int .u64 (W t) | 28 | 29=> vv=.int .u64 (oneF (V 7) (V 4) (V 5) (V 6) (kK t) (W t)) | _=> True))
         (fun w w'=> Below w.heap.size w w') (fun _ _ h=> h) (fun _ _ _ _ h _=> h) ?_ ?_
        ·refine Each.all ?_
         refine ⟨?_,?_,?_,?_,?_,?_,?_,?_,?_,?_,?_,?_,?_,?_,?_,?_,?_,?_,?_,?_,?_,?_,?_,?_,?_,?_,?_,?_,?_,?_,trivial⟩
         ·intro a w2 hB hF hd
          rw [if_pos (wanted_none rfl)]
          exact flow_move _ (.inl rfl) (by simp) (hF.same 18 rfl)
         ·intro a w2 hB hF hd
          rw [if_pos (wanted_none rfl)]
          exact flow_move _ (.inl rfl) (by simp) (hF.same 15 rfl)
         ·intro a w2 hB hF hd
          rw [if_pos (wanted_none rfl)]
          refine flow_call _ _ _ rfl Tryz.call124 _ (args2 (hd 1 _ rfl (waits_spec rfl)) rfl) (by simp) ((turn_any (V 4) 14 (HVB.out 4 (by decide)) (by decide) _ rfl _).mono ?_)
          rintro e w3 ⟨rfl,hb⟩;exact ⟨_,rfl,rfl,hb⟩
         ·intro a w2 hB hF hd
          rw [if_pos (wanted_none rfl)]
          exact flow_move _ (.inl rfl) (by simp) (hF.same 15 rfl)
         ·intro a w2 hB hF hd
          rw [if_pos (wanted_none rfl)]
          refine flow_call _ _ _ rfl Tryz.call124 _ (args2 (hd 3 _ rfl (waits_spec rfl)) rfl) (by simp) ((turn_any (V 4) 18 (HVB.out 4 (by decide)) (by decide) _ rfl _).mono ?_)
          rintro e w3 ⟨rfl,hb⟩;exact ⟨_,rfl,rfl,hb⟩
         ·intro a w2 hB hF hd
          rw [if_pos (wanted_none rfl)]
          exact flow_val (fun h=> by cases h) (Go.Bas.run_xor rfl (hd 2 _ rfl (waits_spec rfl)) (hd 4 _ rfl (waits_spec rfl))) (congrArg (Value.int .u64) (rfl))
         ·intro a w2 hB hF hd
          rw [if_pos (wanted_none rfl)]
          exact flow_move _ (.inl rfl) (by simp) (hF.same 15 rfl)
         ·intro a w2 hB hF hd
          rw [if_pos (wanted_none rfl)]
          refine flow_call _ _ _ rfl Tryz.call124 _ (args2 (hd 6 _ rfl (waits_spec rfl)) rfl) (by simp) ((turn_any (V 4) 41 (HVB.out 4 (by decide)) (by decide) _ rfl _).mono ?_)
          rintro e w3 ⟨rfl,hb⟩;exact ⟨_,rfl,rfl,hb⟩
         ·intro a w2 hB hF hd
          rw [if_pos (wanted_none rfl)]
          exact flow_val (fun h=> by cases h) (Go.Bas.run_xor rfl (hd 5 _ rfl (waits_spec rfl)) (hd 7 _ rfl (waits_spec rfl))) (congrArg (Value.int .u64) (rfl))
         ·intro a w2 hB hF hd
          rw [if_pos (wanted_none rfl)]
          exact flow_val (fun h=> by cases h) (Go.Bas.run_add rfl (hd 0 _ rfl (waits_spec rfl)) (hd 8 _ rfl (waits_spec rfl))) (congrArg (Value.int .u64) (wrap64u))
         ·intro a w2 hB hF hd
          rw [if_pos (wanted_none rfl)]
          exact flow_move _ (.inl rfl) (by simp) (hF.same 15 rfl)
         ·intro a w2 hB hF hd
          rw [if_pos (wanted_none rfl)]
          exact flow_move _ (.inl rfl) (by simp) (hF.same 16 rfl)
         ·intro a w2 hB hF hd
          rw [if_pos (wanted_none rfl)]
          exact flow_val (fun h=> by cases h) (Go.Bas.run_and rfl (hd 10 _ rfl (waits_spec rfl)) (hd 11 _ rfl (waits_spec rfl))) (congrArg (Value.int .u64) (rfl))
         ·intro a w2 hB hF hd
          rw [if_pos (wanted_none rfl)]
          exact flow_move _ (.inl rfl) (by simp) (hF.same 15 rfl)
         ·intro a w2 hB hF hd
          rw [if_pos (wanted_none rfl)]
          exact flow_val (fun h=> by cases h) (Go.Bas.run_sub rfl rfl (hd 13 _ rfl (waits_spec rfl))) (congrArg (Value.int .u64) (sub64u (HVB.out 4 (by decide))))
         ·intro a w2 hB hF hd
          rw [if_pos (wanted_none rfl)]
          exact flow_move _ (.inl rfl) (by simp) (hF.same 17 rfl)
         ·intro a w2 hB hF hd
          rw [if_pos (wanted_none rfl)]
          exact flow_val (fun h=> by cases h) (Go.Bas.run_and rfl (hd 14 _ rfl (waits_spec rfl)) (hd 15 _ rfl (waits_spec rfl))) (congrArg (Value.int .u64) (rfl))
         ·intro a w2 hB hF hd
          rw [if_pos (wanted_none rfl)]
          exact flow_val (fun h=> by cases h) (Go.Bas.run_xor rfl (hd 12 _ rfl (waits_spec rfl)) (hd 16 _ rfl (waits_spec rfl))) (congrArg (Value.int .u64) (ch_xor (HVB.out 4 (by decide)) (HVB.out 5 (by decide)) (HVB.out 6 (by decide))))
         ·intro a w2 hB hF hd
          rw [if_pos (wanted_none rfl)]
          exact flow_val (fun h=> by cases h) (Go.Bas.run_add rfl (hd 9 _ rfl (waits_spec rfl)) (hd 17 _ rfl (waits_spec rfl))) (congrArg (Value.int .u64) (wrap64u))
         ·intro a w2 hB hF hd
          rw [if_pos (wanted_none rfl)]
          exact flow_move _ (.inl rfl) (by simp) (hF.same 3 rfl)
         ·intro a w2 hB hF hd
          rw [if_pos (wanted_none rfl)]
          exact flow_move _ (.inl rfl) (by simp) (hF.same 19 rfl)
         ·intro a w2 hB hF hd
          rw [if_pos (wanted_none rfl)]
          exact flow_val (fun h=> by cases h) (run_index_slice rfl (hd 19 _ rfl (waits_spec rfl)) (hd 20 _ rfl (waits_spec rfl)) Tryz.underlying106 (by kernel_rfl) (by omega) (by omega)) rfl
         ·intro a w2 hB hF hd
          rw [if_pos (wanted_none rfl)]
          exact flow_val (fun h=> by cases h) (run_load_cell rfl (hd 21 _ rfl (waits_spec rfl)) Tryz.underlying96 ((hB.cell (p:=⟨gk,0+t,none⟩) hkl2).trans (by rw [Nat.zero_add];exact HKr.out t hlt))) rfl
         ·intro a w2 hB hF hd
          rw [if_pos (wanted_none rfl)]
          exact flow_val (fun h=> by cases h) (Go.Bas.run_add rfl (hd 18 _ rfl (waits_spec rfl)) (hd 22 _ rfl (waits_spec rfl))) (congrArg (Value.int .u64) (wrap64u))
         ·intro a w2 hB hF hd
          rw [if_pos (wanted_none rfl)]
          exact flow_move _ (.inl rfl) (by simp) (hF.same 7 rfl)
         ·intro a w2 hB hF hd
          rw [if_pos (wanted_none rfl)]
          exact flow_move _ (.inl rfl) (by simp) (hF.same 19 rfl)
         ·intro a w2 hB hF hd
          rw [if_pos (wanted_none rfl)]
          exact flow_val (fun h=> by cases h) (run_index_slice rfl (hd 24 _ rfl (waits_spec rfl)) (hd 25 _ rfl (waits_spec rfl)) Tryz.underlying106 (by kernel_rfl) (by omega) (by omega)) rfl
         ·intro a w2 hB hF hd
          rw [if_pos (wanted_none rfl)]
          exact flow_val (fun h=> by cases h) (run_load_cell rfl (hd 26 _ rfl (waits_spec rfl)) Tryz.underlying96 ((hB.cell (p:=⟨g7,0+t,none⟩) hgl2).trans (by rw [Nat.zero_add];exact HWr.out t hlt))) rfl
         ·intro a w2 hB hF hd
          rw [if_pos (wanted_none rfl)]
          exact flow_val (fun h=> by cases h) (Go.Bas.run_add rfl (hd 23 _ rfl (waits_spec rfl)) (hd 27 _ rfl (waits_spec rfl))) (congrArg (Value.int .u64) (wrap64u))
         ·intro a w2 hB hF hd
          rw [if_pos (wanted_none rfl)]
          exact flow_move _ (.inr rfl) (by simp) (hd 28 _ rfl (waits_spec rfl))
        ·intro a w8 hB hF hS
         have ha:=puts_each rfl rfl hF [_,_,_,_,_,_,_,_,_,_,_,_,_,_,_,_,_,_,_,_,_,_,_,_,_,_,_,_,_,_] rfl ⟨hS 0 _ rfl,hS 1 _ rfl,hS 2 _ rfl,hS 3 _ rfl,hS 4 _ rfl,hS 5 _ rfl,hS 6 _ rfl,hS 7 _ rfl,hS 8 _ rfl,hS 9 _ rfl,hS 10 _ rfl,hS 11 _ rfl,hS 12 _ rfl,hS 13 _ rfl,hS 14 _ rfl,hS 15 _ rfl,hS 16 _ rfl,hS 17 _ rfl,hS 18 _ rfl,hS 19 _ rfl,hS 20 _ rfl,hS 21 _ rfl,hS 22 _ rfl,hS 23 _ rfl,hS 24 _ rfl,hS 25 _ rfl,hS 26 _ rfl,hS 27 _ rfl,hS 28 _ rfl,hS 29 _ rfl,trivial⟩
         simp only [puts,Act.put,List.setIfInBounds_toArray,List.set_cons_succ,List.set_cons_zero] at ha
         subst ha
         clear hS hF
         have hb8:=hbt.trans (hB.mono hst)
         have hs8:=hb8.size
         obtain ⟨one,hone⟩:∃one,one=oneF (V 7) (V 4) (V 5) (V 6) (kK t) (W t):=⟨_,rfl⟩
         rw [←hone]
         have HONE:=Lib.hid hone
         clear hB hone HKr HWr hkl2 hgl2 hbt hst
         go_upto_region 30 with (fail)
         refine region_flow (n:=259) (by kernel_rfl) (by kernel_rfl) (by kernel_rfl) rfl
          (fun ii vv _=> (match ii with | 0 | 2 | 5 | 8 | 11=> vv=.int .u64 (V 0) | 1=> vv=.int .u64 (rr (V 0) 28) | 3=> vv=.int .u64 (rr (V 0) 34) | 4=> vv=.int .u64 (x64 (rr (V 0) 28) (rr (V 0) 34)) | 6=> vv=.int .u64 (rr (V 0) 39) | 7=> vv=.int .u64 (S0F (V 0)) | 9 | 15=> vv=.int .u64 (V 1) | 10=> vv=.int .u64 (a64 (V 0) (V 1)) | 12 | 16=> vv=.int .u64 (V 2) | 13=> vv=.int .u64 (a64 (V 0) (V 2)) | 14=> vv=.int .u64 (x64 (a64 (V 0) (V 1)) (a64 (V 0) (V 2))) | 17=> vv=.int .u64 (a64 (V 1) (V 2)) | 18=> vv=.int .u64 (majF (V 0) (V 1) (V 2)) | 19 | 20=> vv=.int .u64 (twoF (V 0) (V 1) (V 2)) | _=> True))
          (fun w w'=> Below w.heap.size w w') (fun _ _ h=> h) (fun _ _ _ _ h _=> h) ?_ ?_
         ·refine Each.all ?_
          refine ⟨?_,?_,?_,?_,?_,?_,?_,?_,?_,?_,?_,?_,?_,?_,?_,?_,?_,?_,?_,?_,?_,trivial⟩
          ·intro a w2 hB hF hd
           rw [if_pos (wanted_none rfl)]
           exact flow_move _ (.inl rfl) (by simp) (hF.same 11 rfl)
          ·intro a w2 hB hF hd
           rw [if_pos (wanted_none rfl)]
           refine flow_call _ _ _ rfl Tryz.call124 _ (args2 (hd 0 _ rfl (waits_spec rfl)) rfl) (by simp) ((turn_any (V 0) 28 (HVB.out 0 (by decide)) (by decide) _ rfl _).mono ?_)
           rintro e w3 ⟨rfl,hb⟩;exact ⟨_,rfl,rfl,hb⟩
          ·intro a w2 hB hF hd
           rw [if_pos (wanted_none rfl)]
           exact flow_move _ (.inl rfl) (by simp) (hF.same 11 rfl)
          ·intro a w2 hB hF hd
           rw [if_pos (wanted_none rfl)]
           refine flow_call _ _ _ rfl Tryz.call124 _ (args2 (hd 2 _ rfl (waits_spec rfl)) rfl) (by simp) ((turn_any (V 0) 34 (HVB.out 0 (by decide)) (by decide) _ rfl _).mono ?_)
           rintro e w3 ⟨rfl,hb⟩;exact ⟨_,rfl,rfl,hb⟩
          ·intro a w2 hB hF hd
           rw [if_pos (wanted_none rfl)]
           exact flow_val (fun h=> by cases h) (Go.Bas.run_xor rfl (hd 1 _ rfl (waits_spec rfl)) (hd 3 _ rfl (waits_spec rfl))) (congrArg (Value.int .u64) (rfl))
          ·intro a w2 hB hF hd
           rw [if_pos (wanted_none rfl)]
           exact flow_move _ (.inl rfl) (by simp) (hF.same 11 rfl)
          ·intro a w2 hB hF hd
           rw [if_pos (wanted_none rfl)]
           refine flow_call _ _ _ rfl Tryz.call124 _ (args2 (hd 5 _ rfl (waits_spec rfl)) rfl) (by simp) ((turn_any (V 0) 39 (HVB.out 0 (by decide)) (by decide) _ rfl _).mono ?_)
           rintro e w3 ⟨rfl,hb⟩;exact ⟨_,rfl,rfl,hb⟩
          ·intro a w2 hB hF hd
           rw [if_pos (wanted_none rfl)]
           exact flow_val (fun h=> by cases h) (Go.Bas.run_xor rfl (hd 4 _ rfl (waits_spec rfl)) (hd 6 _ rfl (waits_spec rfl))) (congrArg (Value.int .u64) (rfl))
          ·intro a w2 hB hF hd
           rw [if_pos (wanted_none rfl)]
           exact flow_move _ (.inl rfl) (by simp) (hF.same 11 rfl)
          ·intro a w2 hB hF hd
           rw [if_pos (wanted_none rfl)]
           exact flow_move _ (.inl rfl) (by simp) (hF.same 12 rfl)
          ·intro a w2 hB hF hd
           rw [if_pos (wanted_none rfl)]
           exact flow_val (fun h=> by cases h) (Go.Bas.run_and rfl (hd 8 _ rfl (waits_spec rfl)) (hd 9 _ rfl (waits_spec rfl))) (congrArg (Value.int .u64) (rfl))
          ·intro a w2 hB hF hd
           rw [if_pos (wanted_none rfl)]
           exact flow_move _ (.inl rfl) (by simp) (hF.same 11 rfl)
          ·intro a w2 hB hF hd
           rw [if_pos (wanted_none rfl)]
           exact flow_move _ (.inl rfl) (by simp) (hF.same 13 rfl)
          ·intro a w2 hB hF hd
           rw [if_pos (wanted_none rfl)]
           exact flow_val (fun h=> by cases h) (Go.Bas.run_and rfl (hd 11 _ rfl (waits_spec rfl)) (hd 12 _ rfl (waits_spec rfl))) (congrArg (Value.int .u64) (rfl))
          ·intro a w2 hB hF hd
           rw [if_pos (wanted_none rfl)]
           exact flow_val (fun h=> by cases h) (Go.Bas.run_xor rfl (hd 10 _ rfl (waits_spec rfl)) (hd 13 _ rfl (waits_spec rfl))) (congrArg (Value.int .u64) (rfl))
          ·intro a w2 hB hF hd
           rw [if_pos (wanted_none rfl)]
           exact flow_move _ (.inl rfl) (by simp) (hF.same 12 rfl)
          ·intro a w2 hB hF hd
           rw [if_pos (wanted_none rfl)]
           exact flow_move _ (.inl rfl) (by simp) (hF.same 13 rfl)
          ·intro a w2 hB hF hd
           rw [if_pos (wanted_none rfl)]
           exact flow_val (fun h=> by cases h) (Go.Bas.run_and rfl (hd 15 _ rfl (waits_spec rfl)) (hd 16 _ rfl (waits_spec rfl))) (congrArg (Value.int .u64) (rfl))
          ·intro a w2 hB hF hd
           rw [if_pos (wanted_none rfl)]
           exact flow_val (fun h=> by cases h) (Go.Bas.run_xor rfl (hd 14 _ rfl (waits_spec rfl)) (hd 17 _ rfl (waits_spec rfl))) (congrArg (Value.int .u64) (maj_xor (HVB.out 0 (by decide)) (HVB.out 1 (by decide)) (HVB.out 2 (by decide))))
          ·intro a w2 hB hF hd
           rw [if_pos (wanted_none rfl)]
           exact flow_val (fun h=> by cases h) (Go.Bas.run_add rfl (hd 7 _ rfl (waits_spec rfl)) (hd 18 _ rfl (waits_spec rfl))) (congrArg (Value.int .u64) (wrap64u))
          ·intro a w2 hB hF hd
           rw [if_pos (wanted_none rfl)]
           exact flow_move _ (.inr rfl) (by simp) (hd 19 _ rfl (waits_spec rfl))
         ·intro a w9 hB hF hS
          have ha:=puts_each rfl rfl hF [_,_,_,_,_,_,_,_,_,_,_,_,_,_,_,_,_,_,_,_,_] rfl ⟨hS 0 _ rfl,hS 1 _ rfl,hS 2 _ rfl,hS 3 _ rfl,hS 4 _ rfl,hS 5 _ rfl,hS 6 _ rfl,hS 7 _ rfl,hS 8 _ rfl,hS 9 _ rfl,hS 10 _ rfl,hS 11 _ rfl,hS 12 _ rfl,hS 13 _ rfl,hS 14 _ rfl,hS 15 _ rfl,hS 16 _ rfl,hS 17 _ rfl,hS 18 _ rfl,hS 19 _ rfl,hS 20 _ rfl,trivial⟩
          simp only [puts,Act.put,List.setIfInBounds_toArray,List.set_cons_succ,List.set_cons_zero] at ha
          subst ha
          clear hS hF
          have hb9:=hb8.trans (hB.mono hs8)
          obtain ⟨two,htwo⟩:∃two,two=twoF (V 0) (V 1) (V 2):=⟨_,rfl⟩
          rw [←htwo]
          have HTWO:=Lib.hid htwo
          clear hB htwo hb8 hs8
          go_upto_region 34 with (fail)
          refine region_flow (n:=259) (by kernel_rfl) (by kernel_rfl) (by kernel_rfl) rfl
           (fun ii vv _=> (match ii with | 0=> vv=.int .u64 (V 3) | 1=> vv=.int .u64 (one) | 2 | 3=> vv=.int .u64 ((V 3+one) % M64) | _=> True))
           (fun w w'=> Below w.heap.size w w') (fun _ _ h=> h) (fun _ _ _ _ h _=> h) ?_ ?_
          ·refine Each.all ?_
           refine ⟨?_,?_,?_,?_,trivial⟩
           ·intro a w2 hB hF hd
            rw [if_pos (wanted_none rfl)]
            exact flow_move _ (.inl rfl) (by simp) (hF.same 14 rfl)
           ·intro a w2 hB hF hd
            rw [if_pos (wanted_none rfl)]
            exact flow_move _ (.inl rfl) (by simp) (hF.same 20 rfl)
           ·intro a w2 hB hF hd
            rw [if_pos (wanted_none rfl)]
            exact flow_val (fun h=> by cases h) (Go.Bas.run_add rfl (hd 0 _ rfl (waits_spec rfl)) (hd 1 _ rfl (waits_spec rfl))) (congrArg (Value.int .u64) (wrap64u))
           ·intro a w2 hB hF hd
            rw [if_pos (wanted_none rfl)]
            exact flow_move _ (.inr rfl) (by simp) (hd 2 _ rfl (waits_spec rfl))
          ·intro a wa hB hF hS
           have ha:=puts_each rfl rfl hF [_,_,_,_] rfl ⟨hS 0 _ rfl,hS 1 _ rfl,hS 2 _ rfl,hS 3 _ rfl,trivial⟩
           simp only [puts,Act.put,List.setIfInBounds_toArray,List.set_cons_succ,List.set_cons_zero] at ha
           subst ha
           clear hS hF
           have hba:=hb9.trans (hB.mono hb9.size)
           obtain ⟨ne,hne⟩:∃ne,ne=(V 3+one) % M64:=⟨_,rfl⟩
           rw [←hne]
           have HNE:=Lib.hid hne
           clear hB hne hb9
           go_upto_region 38 with (fail)
           refine region_flow (n:=259) (by kernel_rfl) (by kernel_rfl) (by kernel_rfl) rfl
            (fun ii vv _=> (match ii with | 0=> vv=.int .u64 (one) | 1=> vv=.int .u64 (two) | 2 | 3=> vv=.int .u64 ((one+two) % M64) | _=> True))
            (fun w w'=> Below w.heap.size w w') (fun _ _ h=> h) (fun _ _ _ _ h _=> h) ?_ ?_
           ·refine Each.all ?_
            refine ⟨?_,?_,?_,?_,trivial⟩
            ·intro a w2 hB hF hd
             rw [if_pos (wanted_none rfl)]
             exact flow_move _ (.inl rfl) (by simp) (hF.same 20 rfl)
            ·intro a w2 hB hF hd
             rw [if_pos (wanted_none rfl)]
             exact flow_move _ (.inl rfl) (by simp) (hF.same 21 rfl)
            ·intro a w2 hB hF hd
             rw [if_pos (wanted_none rfl)]
             exact flow_val (fun h=> by cases h) (Go.Bas.run_add rfl (hd 0 _ rfl (waits_spec rfl)) (hd 1 _ rfl (waits_spec rfl))) (congrArg (Value.int .u64) (wrap64u))
            ·intro a w2 hB hF hd
             rw [if_pos (wanted_none rfl)]
             exact flow_move _ (.inr rfl) (by simp) (hd 2 _ rfl (waits_spec rfl))
           ·intro a wb hB hF hS
            have ha:=puts_each rfl rfl hF [_,_,_,_] rfl ⟨hS 0 _ rfl,hS 1 _ rfl,hS 2 _ rfl,hS 3 _ rfl,trivial⟩
            simp only [puts,Act.put,List.setIfInBounds_toArray,List.set_cons_succ,List.set_cons_zero] at ha
            subst ha
            clear hS hF
            have hbb:=hba.trans (hB.mono hba.size)
            obtain ⟨na,hna⟩:∃na,na=(one+two) % M64:=⟨_,rfl⟩
            rw [←hna]
            have HNA:=Lib.hid hna
            clear hB hna hba
            go_wp2
            go_roundw
            case rel=>
             have r0:Value.int .u64 na=.int .u64 (rds64 kK W S (t+1) 0):=congrArg (Value.int .u64) (by rw [←HVN.out 0,HNA.out,HONE.out,HTWO.out];rfl)
             have r1:Value.int .u64 (V 0)=.int .u64 (rds64 kK W S (t+1) 1):=congrArg (Value.int .u64) (by rw [←HVN.out 1];rfl)
             have r2:Value.int .u64 (V 1)=.int .u64 (rds64 kK W S (t+1) 2):=congrArg (Value.int .u64) (by rw [←HVN.out 2];rfl)
             have r3:Value.int .u64 (V 2)=.int .u64 (rds64 kK W S (t+1) 3):=congrArg (Value.int .u64) (by rw [←HVN.out 3];rfl)
             have r4:Value.int .u64 ne=.int .u64 (rds64 kK W S (t+1) 4):=congrArg (Value.int .u64) (by rw [←HVN.out 4,HNE.out,HONE.out];rfl)
             have r5:Value.int .u64 (V 4)=.int .u64 (rds64 kK W S (t+1) 5):=congrArg (Value.int .u64) (by rw [←HVN.out 5];rfl)
             have r6:Value.int .u64 (V 5)=.int .u64 (rds64 kK W S (t+1) 6):=congrArg (Value.int .u64) (by rw [←HVN.out 6];rfl)
             have r7:Value.int .u64 (V 6)=.int .u64 (rds64 kK W S (t+1) 7):=congrArg (Value.int .u64) (by rw [←HVN.out 7];rfl)
             first | exact ⟨t+1,by omega,by go_num,r0,r1,r2,r3,r4,r5,r6,r7,hbb⟩ | ((repeat apply Exists.intro);exact ⟨⟨t+1,by omega,by go_num,r0,r1,r2,r3,r4,r5,r6,r7,hbb⟩,rfl⟩)
            case measure=> simp [intOf] <;> omega
       ·obtain rfl:t=80:=by omega
        have HSr:Hid (∀i,i<8→wr.cell? ⟨sb,so+i,none⟩=some (.int .u64 (S i))):=fun i hi=> (hbt.cell (p:=⟨sb,so+i,none⟩) hsl).trans (HSc.out i hi)
        have hsl2:sb<wr.heap.size:=Nat.lt_of_lt_of_le hsl hst
        have HGV:Hid (∀i,(S i+V i) % M64=G i):=by rw [HVE.out];exact HG.out
        have hbw7:=hbw6.trans (hbt.mono hbw6.size)
        clear hbt hst hbw6 HVN HKc HWc HSc
        go_upto_region 39 with (fail)
        refine region_tail (n:=259) 41 (by decide) (by kernel_rfl) (by kernel_rfl) (by kernel_rfl) (by kernel_rfl) rfl
         (fun ii vv ww=> (match ii with | 0 | 5 | 10 | 15 | 20 | 25 | 30 | 35=> vv=.slice (some ⟨sb,so,none⟩) 8 sc | 1=> vv=.pointer (some ⟨sb,so+0,none⟩) | 2=> vv=.int .u64 (S 0) | 3=> vv=.int .u64 (V 0) | 4=> vv=.int .u64 ((S 0+V 0) % M64) | 6=> vv=.pointer (some ⟨sb,so+1,none⟩) | 7=> vv=.int .u64 (S 1) | 8=> vv=.int .u64 (V 1) | 9=> vv=.int .u64 ((S 1+V 1) % M64) | 11=> vv=.pointer (some ⟨sb,so+2,none⟩) | 12=> vv=.int .u64 (S 2) | 13=> vv=.int .u64 (V 2) | 14=> vv=.int .u64 ((S 2+V 2) % M64) | 16=> vv=.pointer (some ⟨sb,so+3,none⟩) | 17=> vv=.int .u64 (S 3) | 18=> vv=.int .u64 (V 3) | 19=> vv=.int .u64 ((S 3+V 3) % M64) | 21=> vv=.pointer (some ⟨sb,so+4,none⟩) | 22=> vv=.int .u64 (S 4) | 23=> vv=.int .u64 (V 4) | 24=> vv=.int .u64 ((S 4+V 4) % M64) | 26=> vv=.pointer (some ⟨sb,so+5,none⟩) | 27=> vv=.int .u64 (S 5) | 28=> vv=.int .u64 (V 5) | 29=> vv=.int .u64 ((S 5+V 5) % M64) | 31=> vv=.pointer (some ⟨sb,so+6,none⟩) | 32=> vv=.int .u64 (S 6) | 33=> vv=.int .u64 (V 6) | 34=> vv=.int .u64 ((S 6+V 6) % M64) | 36=> vv=.pointer (some ⟨sb,so+7,none⟩) | 37=> vv=.int .u64 (S 7) | 38=> vv=.int .u64 (V 7) | 39=> vv=.int .u64 ((S 7+V 7) % M64) | _=> True)∧(ii=40→Rd .u64 ww vv 8 (fun i=> (S i+V i) % M64)))
         (fun i v w w' h hE=> ⟨h.1,fun e=> Rd.below (h.2 e) hE⟩) ?_ ?_
        ·refine Each.all ?_
         refine ⟨?_,?_,?_,?_,?_,?_,?_,?_,?_,?_,?_,?_,?_,?_,?_,?_,?_,?_,?_,?_,?_,?_,?_,?_,?_,?_,?_,?_,?_,?_,?_,?_,?_,?_,?_,?_,?_,?_,?_,?_,?_,(fun h=> absurd h (by decide)),trivial⟩
         ·intro _ a w2 hB hF hd
          rw [if_pos (wanted_none rfl)]
          exact flow_move _ (.inl rfl) (by simp) ⟨(hF.same 5 rfl),fun h=> absurd h (by decide)⟩
         ·intro _ a w2 hB hF hd
          rw [if_pos (wanted_none rfl)]
          exact flow_val (fun h=> by cases h) (run_index_slice rfl ((hd 0 _ rfl (waits_spec rfl)).1) rfl Tryz.underlying106 (by kernel_rfl) (by omega) (by omega)) ⟨rfl,fun h=> absurd h (by decide)⟩
         ·intro _ a w2 hB hF hd
          rw [if_pos (wanted_none rfl)]
          exact flow_val (fun h=> by cases h) (run_load_cell rfl ((hd 1 _ rfl (waits_spec rfl)).1) Tryz.underlying96 ((hB.cell (p:=⟨sb,so+0,none⟩) hsl2).trans (HSr.out 0 (by decide)))) ⟨rfl,fun h=> absurd h (by decide)⟩
         ·intro _ a w2 hB hF hd
          rw [if_pos (wanted_none rfl)]
          exact flow_move _ (.inl rfl) (by simp) ⟨(hF.same 11 rfl),fun h=> absurd h (by decide)⟩
         ·intro _ a w2 hB hF hd
          rw [if_pos (wanted_none rfl)]
          exact flow_val (fun h=> by cases h) (Go.Bas.run_add rfl ((hd 2 _ rfl (waits_spec rfl)).1) ((hd 3 _ rfl (waits_spec rfl)).1)) ⟨(congrArg (Value.int .u64) (wrap64u)),fun h=> absurd h (by decide)⟩
         ·intro _ a w2 hB hF hd
          rw [if_pos (wanted_none rfl)]
          exact flow_move _ (.inl rfl) (by simp) ⟨(hF.same 5 rfl),fun h=> absurd h (by decide)⟩
         ·intro _ a w2 hB hF hd
          rw [if_pos (wanted_none rfl)]
          exact flow_val (fun h=> by cases h) (run_index_slice rfl ((hd 5 _ rfl (waits_spec rfl)).1) rfl Tryz.underlying106 (by kernel_rfl) (by omega) (by omega)) ⟨rfl,fun h=> absurd h (by decide)⟩
         ·intro _ a w2 hB hF hd
          rw [if_pos (wanted_none rfl)]
          exact flow_val (fun h=> by cases h) (run_load_cell rfl ((hd 6 _ rfl (waits_spec rfl)).1) Tryz.underlying96 ((hB.cell (p:=⟨sb,so+1,none⟩) hsl2).trans (HSr.out 1 (by decide)))) ⟨rfl,fun h=> absurd h (by decide)⟩
         ·intro _ a w2 hB hF hd
          rw [if_pos (wanted_none rfl)]
          exact flow_move _ (.inl rfl) (by simp) ⟨(hF.same 12 rfl),fun h=> absurd h (by decide)⟩
         ·intro _ a w2 hB hF hd
          rw [if_pos (wanted_none rfl)]
          exact flow_val (fun h=> by cases h) (Go.Bas.run_add rfl ((hd 7 _ rfl (waits_spec rfl)).1) ((hd 8 _ rfl (waits_spec rfl)).1)) ⟨(congrArg (Value.int .u64) (wrap64u)),fun h=> absurd h (by decide)⟩
         ·intro _ a w2 hB hF hd
          rw [if_pos (wanted_none rfl)]
          exact flow_move _ (.inl rfl) (by simp) ⟨(hF.same 5 rfl),fun h=> absurd h (by decide)⟩
         ·intro _ a w2 hB hF hd
          rw [if_pos (wanted_none rfl)]
          exact flow_val (fun h=> by cases h) (run_index_slice rfl ((hd 10 _ rfl (waits_spec rfl)).1) rfl Tryz.underlying106 (by kernel_rfl) (by omega) (by omega)) ⟨rfl,fun h=> absurd h (by decide)⟩
         ·intro _ a w2 hB hF hd
          rw [if_pos (wanted_none rfl)]
          exact flow_val (fun h=> by cases h) (run_load_cell rfl ((hd 11 _ rfl (waits_spec rfl)).1) Tryz.underlying96 ((hB.cell (p:=⟨sb,so+2,none⟩) hsl2).trans (HSr.out 2 (by decide)))) ⟨rfl,fun h=> absurd h (by decide)⟩
         ·intro _ a w2 hB hF hd
          rw [if_pos (wanted_none rfl)]
          exact flow_move _ (.inl rfl) (by simp) ⟨(hF.same 13 rfl),fun h=> absurd h (by decide)⟩
         ·intro _ a w2 hB hF hd
          rw [if_pos (wanted_none rfl)]
          exact flow_val (fun h=> by cases h) (Go.Bas.run_add rfl ((hd 12 _ rfl (waits_spec rfl)).1) ((hd 13 _ rfl (waits_spec rfl)).1)) ⟨(congrArg (Value.int .u64) (wrap64u)),fun h=> absurd h (by decide)⟩
         ·intro _ a w2 hB hF hd
          rw [if_pos (wanted_none rfl)]
          exact flow_move _ (.inl rfl) (by simp) ⟨(hF.same 5 rfl),fun h=> absurd h (by decide)⟩
         ·intro _ a w2 hB hF hd
          rw [if_pos (wanted_none rfl)]
          exact flow_val (fun h=> by cases h) (run_index_slice rfl ((hd 15 _ rfl (waits_spec rfl)).1) rfl Tryz.underlying106 (by kernel_rfl) (by omega) (by omega)) ⟨rfl,fun h=> absurd h (by decide)⟩
         ·intro _ a w2 hB hF hd
          rw [if_pos (wanted_none rfl)]
          exact flow_val (fun h=> by cases h) (run_load_cell rfl ((hd 16 _ rfl (waits_spec rfl)).1) Tryz.underlying96 ((hB.cell (p:=⟨sb,so+3,none⟩) hsl2).trans (HSr.out 3 (by decide)))) ⟨rfl,fun h=> absurd h (by decide)⟩
         ·intro _ a w2 hB hF hd
          rw [if_pos (wanted_none rfl)]
          exact flow_move _ (.inl rfl) (by simp) ⟨(hF.same 14 rfl),fun h=> absurd h (by decide)⟩
         ·intro _ a w2 hB hF hd
          rw [if_pos (wanted_none rfl)]
          exact flow_val (fun h=> by cases h) (Go.Bas.run_add rfl ((hd 17 _ rfl (waits_spec rfl)).1) ((hd 18 _ rfl (waits_spec rfl)).1)) ⟨(congrArg (Value.int .u64) (wrap64u)),fun h=> absurd h (by decide)⟩
         ·intro _ a w2 hB hF hd
          rw [if_pos (wanted_none rfl)]
          exact flow_move _ (.inl rfl) (by simp) ⟨(hF.same 5 rfl),fun h=> absurd h (by decide)⟩
         ·intro _ a w2 hB hF hd
          rw [if_pos (wanted_none rfl)]
          exact flow_val (fun h=> by cases h) (run_index_slice rfl ((hd 20 _ rfl (waits_spec rfl)).1) rfl Tryz.underlying106 (by kernel_rfl) (by omega) (by omega)) ⟨rfl,fun h=> absurd h (by decide)⟩
         ·intro _ a w2 hB hF hd
          rw [if_pos (wanted_none rfl)]
          exact flow_val (fun h=> by cases h) (run_load_cell rfl ((hd 21 _ rfl (waits_spec rfl)).1) Tryz.underlying96 ((hB.cell (p:=⟨sb,so+4,none⟩) hsl2).trans (HSr.out 4 (by decide)))) ⟨rfl,fun h=> absurd h (by decide)⟩
         ·intro _ a w2 hB hF hd
          rw [if_pos (wanted_none rfl)]
          exact flow_move _ (.inl rfl) (by simp) ⟨(hF.same 15 rfl),fun h=> absurd h (by decide)⟩
         ·intro _ a w2 hB hF hd
          rw [if_pos (wanted_none rfl)]
          exact flow_val (fun h=> by cases h) (Go.Bas.run_add rfl ((hd 22 _ rfl (waits_spec rfl)).1) ((hd 23 _ rfl (waits_spec rfl)).1)) ⟨(congrArg (Value.int .u64) (wrap64u)),fun h=> absurd h (by decide)⟩
         ·intro _ a w2 hB hF hd
          rw [if_pos (wanted_none rfl)]
          exact flow_move _ (.inl rfl) (by simp) ⟨(hF.same 5 rfl),fun h=> absurd h (by decide)⟩
         ·intro _ a w2 hB hF hd
          rw [if_pos (wanted_none rfl)]
          exact flow_val (fun h=> by cases h) (run_index_slice rfl ((hd 25 _ rfl (waits_spec rfl)).1) rfl Tryz.underlying106 (by kernel_rfl) (by omega) (by omega)) ⟨rfl,fun h=> absurd h (by decide)⟩
         ·intro _ a w2 hB hF hd
          rw [if_pos (wanted_none rfl)]
          exact flow_val (fun h=> by cases h) (run_load_cell rfl ((hd 26 _ rfl (waits_spec rfl)).1) Tryz.underlying96 ((hB.cell (p:=⟨sb,so+5,none⟩) hsl2).trans (HSr.out 5 (by decide)))) ⟨rfl,fun h=> absurd h (by decide)⟩
         ·intro _ a w2 hB hF hd
          rw [if_pos (wanted_none rfl)]
          exact flow_move _ (.inl rfl) (by simp) ⟨(hF.same 16 rfl),fun h=> absurd h (by decide)⟩
         ·intro _ a w2 hB hF hd
          rw [if_pos (wanted_none rfl)]
          exact flow_val (fun h=> by cases h) (Go.Bas.run_add rfl ((hd 27 _ rfl (waits_spec rfl)).1) ((hd 28 _ rfl (waits_spec rfl)).1)) ⟨(congrArg (Value.int .u64) (wrap64u)),fun h=> absurd h (by decide)⟩
         ·intro _ a w2 hB hF hd
          rw [if_pos (wanted_none rfl)]
          exact flow_move _ (.inl rfl) (by simp) ⟨(hF.same 5 rfl),fun h=> absurd h (by decide)⟩
         ·intro _ a w2 hB hF hd
          rw [if_pos (wanted_none rfl)]
          exact flow_val (fun h=> by cases h) (run_index_slice rfl ((hd 30 _ rfl (waits_spec rfl)).1) rfl Tryz.underlying106 (by kernel_rfl) (by omega) (by omega)) ⟨rfl,fun h=> absurd h (by decide)⟩
         ·intro _ a w2 hB hF hd
          rw [if_pos (wanted_none rfl)]
          exact flow_val (fun h=> by cases h) (run_load_cell rfl ((hd 31 _ rfl (waits_spec rfl)).1) Tryz.underlying96 ((hB.cell (p:=⟨sb,so+6,none⟩) hsl2).trans (HSr.out 6 (by decide)))) ⟨rfl,fun h=> absurd h (by decide)⟩
         ·intro _ a w2 hB hF hd
          rw [if_pos (wanted_none rfl)]
          exact flow_move _ (.inl rfl) (by simp) ⟨(hF.same 17 rfl),fun h=> absurd h (by decide)⟩
         ·intro _ a w2 hB hF hd
          rw [if_pos (wanted_none rfl)]
          exact flow_val (fun h=> by cases h) (Go.Bas.run_add rfl ((hd 32 _ rfl (waits_spec rfl)).1) ((hd 33 _ rfl (waits_spec rfl)).1)) ⟨(congrArg (Value.int .u64) (wrap64u)),fun h=> absurd h (by decide)⟩
         ·intro _ a w2 hB hF hd
          rw [if_pos (wanted_none rfl)]
          exact flow_move _ (.inl rfl) (by simp) ⟨(hF.same 5 rfl),fun h=> absurd h (by decide)⟩
         ·intro _ a w2 hB hF hd
          rw [if_pos (wanted_none rfl)]
          exact flow_val (fun h=> by cases h) (run_index_slice rfl ((hd 35 _ rfl (waits_spec rfl)).1) rfl Tryz.underlying106 (by kernel_rfl) (by omega) (by omega)) ⟨rfl,fun h=> absurd h (by decide)⟩
         ·intro _ a w2 hB hF hd
          rw [if_pos (wanted_none rfl)]
          exact flow_val (fun h=> by cases h) (run_load_cell rfl ((hd 36 _ rfl (waits_spec rfl)).1) Tryz.underlying96 ((hB.cell (p:=⟨sb,so+7,none⟩) hsl2).trans (HSr.out 7 (by decide)))) ⟨rfl,fun h=> absurd h (by decide)⟩
         ·intro _ a w2 hB hF hd
          rw [if_pos (wanted_none rfl)]
          exact flow_move _ (.inl rfl) (by simp) ⟨(hF.same 18 rfl),fun h=> absurd h (by decide)⟩
         ·intro _ a w2 hB hF hd
          rw [if_pos (wanted_none rfl)]
          exact flow_val (fun h=> by cases h) (Go.Bas.run_add rfl ((hd 37 _ rfl (waits_spec rfl)).1) ((hd 38 _ rfl (waits_spec rfl)).1)) ⟨(congrArg (Value.int .u64) (wrap64u)),fun h=> absurd h (by decide)⟩
         ·intro _ a w2 hB hF hd
          rw [if_pos (wanted_none rfl)]
          exact flow_lits 106 96 8 _ [.int .u64 ((S 0+V 0) % M64),.int .u64 ((S 1+V 1) % M64),.int .u64 ((S 2+V 2) % M64),.int .u64 ((S 3+V 3) % M64),.int .u64 ((S 4+V 4) % M64),.int .u64 ((S 5+V 5) % M64),.int .u64 ((S 6+V 6) % M64),.int .u64 ((S 7+V 7) % M64)] rfl Tryz.underlying106 (by kernel_rfl) (by kernel_rfl) rfl (by decide) (by decide) (by intro v hv;simp only [List.mem_cons,List.not_mem_nil,or_false] at hv;rcases hv with rfl | rfl | rfl | rfl | rfl | rfl | rfl | rfl<;> rfl) (by simp only [List.map_toArray,List.map_cons,List.map_nil,show a.eval (Operand.tmp 198)=.int .u64 ((S 0+V 0) % M64) from ((hd 4 _ rfl (waits_spec rfl)).1),show a.eval (Operand.tmp 203)=.int .u64 ((S 1+V 1) % M64) from ((hd 9 _ rfl (waits_spec rfl)).1),show a.eval (Operand.tmp 208)=.int .u64 ((S 2+V 2) % M64) from ((hd 14 _ rfl (waits_spec rfl)).1),show a.eval (Operand.tmp 213)=.int .u64 ((S 3+V 3) % M64) from ((hd 19 _ rfl (waits_spec rfl)).1),show a.eval (Operand.tmp 218)=.int .u64 ((S 4+V 4) % M64) from ((hd 24 _ rfl (waits_spec rfl)).1),show a.eval (Operand.tmp 223)=.int .u64 ((S 5+V 5) % M64) from ((hd 29 _ rfl (waits_spec rfl)).1),show a.eval (Operand.tmp 228)=.int .u64 ((S 6+V 6) % M64) from ((hd 34 _ rfl (waits_spec rfl)).1),show a.eval (Operand.tmp 233)=.int .u64 ((S 7+V 7) % M64) from ((hd 39 _ rfl (waits_spec rfl)).1)];rfl) (by simp) ⟨trivial,fun _=> (lit8_rd (f:=fun i=> (S i+V i) % M64))⟩
        ·intro a w8 hB hF hS
         obtain ⟨x234,hx234⟩:∃x,x=a.tmps.getD 234 undef:=⟨_,rfl⟩
         have P234:Rd .u64 w8 x234 8 (fun i=> (S i+V i) % M64):=by rw [hx234];exact (hS 40 _ rfl (by decide)).2 rfl
         have ha:=puts_each rfl rfl hF [_,_,_,_,_,_,_,_,_,_,_,_,_,_,_,_,_,_,_,_,_,_,_,_,_,_,_,_,_,_,_,_,_,_,_,_,_,_,_,_,x234] rfl ⟨(hS 0 _ rfl (by decide)).1,(hS 1 _ rfl (by decide)).1,(hS 2 _ rfl (by decide)).1,(hS 3 _ rfl (by decide)).1,(hS 4 _ rfl (by decide)).1,(hS 5 _ rfl (by decide)).1,(hS 6 _ rfl (by decide)).1,(hS 7 _ rfl (by decide)).1,(hS 8 _ rfl (by decide)).1,(hS 9 _ rfl (by decide)).1,(hS 10 _ rfl (by decide)).1,(hS 11 _ rfl (by decide)).1,(hS 12 _ rfl (by decide)).1,(hS 13 _ rfl (by decide)).1,(hS 14 _ rfl (by decide)).1,(hS 15 _ rfl (by decide)).1,(hS 16 _ rfl (by decide)).1,(hS 17 _ rfl (by decide)).1,(hS 18 _ rfl (by decide)).1,(hS 19 _ rfl (by decide)).1,(hS 20 _ rfl (by decide)).1,(hS 21 _ rfl (by decide)).1,(hS 22 _ rfl (by decide)).1,(hS 23 _ rfl (by decide)).1,(hS 24 _ rfl (by decide)).1,(hS 25 _ rfl (by decide)).1,(hS 26 _ rfl (by decide)).1,(hS 27 _ rfl (by decide)).1,(hS 28 _ rfl (by decide)).1,(hS 29 _ rfl (by decide)).1,(hS 30 _ rfl (by decide)).1,(hS 31 _ rfl (by decide)).1,(hS 32 _ rfl (by decide)).1,(hS 33 _ rfl (by decide)).1,(hS 34 _ rfl (by decide)).1,(hS 35 _ rfl (by decide)).1,(hS 36 _ rfl (by decide)).1,(hS 37 _ rfl (by decide)).1,(hS 38 _ rfl (by decide)).1,(hS 39 _ rfl (by decide)).1,hx234.symm,trivial⟩
         simp only [puts,List.take_succ_cons,List.take_zero,Act.put,List.setIfInBounds_toArray,List.set_cons_succ,List.set_cons_zero] at ha
         subst ha
         change tl _ _ _ (_:: []) _ _
         clear hx234
         clear hS hF
         refine tl_move rfl _ (.inr rfl) (tl_nil ?_)
         have hb8:=hbw7.trans (hB.mono hbw7.size)
         have hS8:=P234.congr (g:=hashF F (j+1)) (fun i _=> by rw [←HGE.out];exact HGV.out i)
         clear hB
         go_wp2
         go_roundw
         case rel=> first | exact ⟨j+1,by omega,congrArg (Value.int .i64) (by have:=HJ.out;omega),hS8,hb8⟩ | ((repeat apply Exists.intro);exact ⟨⟨j+1,by omega,congrArg (Value.int .i64) (by have:=HJ.out;omega),hS8,hb8⟩,rfl⟩)
         case measure=> simp [intOf] <;> omega
  ·obtain rfl:j=NB:=by omega
   obtain ⟨sa,sc,rfl,z1,z2,_,z4⟩:=id hS
   obtain ⟨sb,so,rfl,zl,zc⟩:=z4 (by decide)
   have HEQ:Hid (((128 * j:Nat):Int)=(N:Int)):=by have:=HN2.out.2;unfold Hid;omega
   have hge:¬ ((128 * j:Nat):Int)<(N:Int):=by rw [HEQ.out];omega
   have HZC:=Lib.hid zc
   have hZw:=hZ6.kept hbw
   have hbelw:=hbel6.trans (hbw.mono hbel6.size)
   clear zc z4 hS hbw
   go_upto_region 41 with (fail)
   refine wp_world (fun w1=> Arr .u8 w1 wr.heap.size 64 (fun _=> 0)∧RestS w sb so (hashF F j) w1) ⟨Arr.newAt rfl (by rfl),hZw.alloc _,fun i hi=> (Below.cell ((Below.refl wr.heap.size wr).alloc (Nat.le_refl _) _) (p:=⟨sb,so+i,none⟩) zl).trans (HZC.out i hi),hbelw.alloc hbelw.size _⟩ ?_
   rintro w1 ⟨hA1,hR1⟩
   obtain ⟨bO,hbO⟩:∃bO,bO=wr.heap.size:=⟨_,rfl⟩
   have o1:w.heap.size<bO:=by rw [hbO];exact hZw.lt
   have o2:sb<bO:=by rw [hbO];exact zl
   obtain ⟨S,hSS⟩:∃S,S=hashF F j:=⟨_,rfl⟩
   have HS8:Hid (∀i,i<8→0≤S i∧S i<M64):=by rw [hSS];exact hashF_bound F j
   rw [←hSS] at HSB hR1
   rw [←hbO] at hA1 ⊢
   clear hSS hbO HZC hZw hbelw zl
   go_wp2
   go_loopw [23] (fun i wx=> ∃m:Nat,m≤8∧i=.int .i64 (m:Int)∧Arr .u8 wx bO 64 (upto (8 * m) SB (fun _=> 0))∧RestS w sb so S wx) (fun i _=> 8 - (intOf i).toNat)
   case atStart=> exact ⟨0,Nat.zero_le _,rfl,by rw [Nat.mul_zero,upto_zero];exact hA1,hR1⟩
   case round=>
    clear hA1 hR1
    obtain ⟨m,hm,rfl,hA,hR⟩:=hrel
    by_cases hlt:m<8
    ·obtain ⟨x,hx⟩:∃x,x=S m:=⟨_,rfl⟩
     have x0:=HS8.out m hlt
     rw [←hx] at x0
     have HX:=Lib.hid hx
     obtain ⟨x0,x1⟩:=x0
     unfold M64 at x1
     obtain ⟨wy,hwy⟩:∃wy,wy=wr:=⟨_,rfl⟩
     subst hwy
     clear hx
     go_wp2
     go_loopw [24,25] (fun s i wz=> ∃(k:Nat) (p:Int),k≤8∧i=.int .i64 (k:Int)∧s=.int .u64 p∧Hid (p=72057594037927936 / 256 ^ k)∧0≤p∧p≤72057594037927936∧Arr .u8 wz bO 64 (upto (8 * m+k) SB (fun _=> 0))∧RestS w sb so S wz) (fun _ i _=> 8 - (intOf i).toNat)
     case atStart=> exact ⟨0,_,Nat.zero_le _,rfl,rfl,by unfold Hid;rfl,by decide,by decide,hA,hR⟩
     case round=>
      clear hA hR
      obtain ⟨k,p,hk,rfl,rfl,hp,p0,p1,hA,hR⟩:=hrel
      by_cases hlt2:k<8
      ·have hc:wr.cell? ⟨sb,so+m,none⟩=some (.int .u64 x):=by rw [HX.out];exact hR.2.1 m hlt
       have hc2:=hA.cell (8 * m+k) (by omega)
       have hf2:=hA.free (8 * m+k)
       have HA:=Lib.hid hA
       have HR:=Lib.hid hR
       have hp2:Hid (p=2 ^ (8 * (7 - k))):=by unfold Hid;rw [hp.out,scale_at hlt2]
       have pp:0<p:=by rw [hp2.out];exact Int.pow_pos (by decide)
       obtain ⟨q,hq⟩:∃q,q=x / p:=⟨_,rfl⟩
       have hqt:x.tdiv p=q:=by rw [Int.tdiv_eq_ediv_of_nonneg x0,hq]
       have hqd:x / p=q:=hq.symm
       have q0:0≤q:=by rw [hq];exact Int.ediv_nonneg x0 p0
       have q1:q≤x:=by rw [hq];exact Int.ediv_le_self _ x0
       have hpt:p.tdiv 256=p / 256:=Int.tdiv_eq_ediv_of_nonneg p0
       have HFK:Hid (q % 256=SB (8 * m+k)):=by
        unfold Hid
        rw [←HSB.out,hq,hp2.out,HX.out,show (8 * m+k) / 8=m by omega,show (8 * m+k) % 8=k by omega]
       have HPN:Hid (p / 256=72057594037927936 / 256 ^ (k+1)):=by unfold Hid;rw [hp.out,scale_next]
       clear hq hA hR
       go_wp2
       go_roundw
       case rel=> exact ⟨k+1,_,by omega,by go_num,rfl,HPN,by omega,by omega,by rw [show 8 * m+(k+1)=8 * m+k+1 from rfl,←upto_step (j:=8 * m+k) (x:=q % 256) HFK.out];exact HA.out.set _ _,HR.out.set o1 o2 _ _⟩
       case measure=> simp [intOf] <;> omega
      ·obtain rfl:k=8:=by omega
       go_wp2
       go_roundw
       case rel=> exact ⟨m+1,by omega,by go_num,hA,hR⟩
       case measure=> simp [intOf] <;> omega
    ·obtain rfl:m=8:=by omega
     have hA2:Arr .u8 wr bO 64 SB:=hA.congr (upto_full SB _ (Nat.le_refl _))
     obtain ⟨hZ,_,hbel⟩:=hR
     clear hA
     go_wp2_with (first
      | (refine load_arr rfl 29 _ rfl .u8 bO 64 SB 5 Tryz.underlying29 Tryz.size29 rfl hA2 ?_)
      | (refine store_arr rfl 29 _ _ rfl .u8 w.heap.size 64 (fun _=> 0) SB Tryz.size29 rfl rfl hZ ?_))
     exact bodyPost_ret (results_arr rfl _ _ .u8 w.heap.size 64 _ 5 rfl (hZ.setRow 64 SB) Tryz.underlying29 Tryz.size29) rfl ⟨rfl,below_setRow' hbel (Nat.le_refl _) _⟩
end Go.Proofs.YtdhejcaapdhhfaaGreat
