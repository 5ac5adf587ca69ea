/-
  Part 40 of the texts that the proof of RegressReach rests on, one after the other. Conditions: named in each theorem.
-/
import Derived.Test.YtpcjekgfnfjbpaaPkRegressReach39
import Derived.Test.YtpcjekgfnfjbpaaPkRegressReach2
import Derived.Test.YtpcjekgfnfjbpaaPkRegressReach21
import Derived.Test.YtpcjekgfnfjbpaaPkRegressReach3
import Derived.Test.YtpcjekgfnfjbpaaPkRegressReach15
import Derived.Test.YtpcjekgfnfjbpaaPkRegressReach8
import Derived.Test.YtpcjekgfnfjbpaaPkRegressReach23
import Derived.Test.YtpcjekgfnfjbpaaPkRegressReach26
import Derived.Test.YtpcjekgfnfjbpaaPkRegressReach9
import Derived.BigFrame
import Derived.BigQuiet
import Derived.ChangeKeysEq
import Derived.Deep.Cut
import Derived.Deep.DrawnRows
import Derived.Deep.MidRow
import Derived.Deep.QuietTactic
import Derived.Deep.RegionHeld3
import Derived.Deep.RegionLaw
import Derived.Deep.WholeRow
import Derived.Laws.BitsAllLaws
import Derived.Laws.CopyOwn
import Derived.Laws.StructEq
import Derived.Lib.Hide
import Derived.Maps.AppendAt
import Derived.Maps.Range
import Derived.Orders
import Derived.Test.YtpcjekgfnfjbpaaArr
import Derived.Test.YtpcjekgfnfjbpaaFlow
import Derived.Test.YtpcjekgfnfjbpaaKit
import Derived.Test.YtpcjekgfnfjbpaaRows
import Derived.WalkKit
import Derived.WalkLawsBesides
import Derived.WalkSmall
import Derived.WalkSpells
set_option linter.unusedVariables false
set_option linter.unusedSimpArgs false
set_option maxRecDepth 100000
set_option maxHeartbeats 3200000
namespace Go.Bas
def st0 (c:Int):Nat→Int:=fun i=> if i=0 then 1634760805 else if i=1 then 857760878 else if i=2 then 2036477234 else if i=3 then 1797285236 else if i=12 then c else 0
theorem st_all (key nonce:Nat→Int) (c:Int) (i:Nat) (hi:i<16):laid (laid (st0 c) 4 8 (wd key)) 13 3 (wd nonce) i=ini key nonce c i:=by
 unfold laid st0 ini
 rcases (by omega:i=0∨i=1∨i=2∨i=3∨(4≤i∧i<12)∨i=12∨(13≤i∧i<16)) with rfl | rfl | rfl | rfl | h | rfl | h
 ·simp
 ·simp
 ·simp
 ·simp
 ·rw [if_neg (by omega),if_pos (by omega),if_neg (by omega),if_neg (by omega),if_neg (by omega),if_neg (by omega),if_pos (by omega)]
 ·simp
 ·rw [if_pos (by omega),if_neg (by omega),if_neg (by omega),if_neg (by omega),if_neg (by omega),if_neg (by omega),if_neg (by omega)]
end Go.Bas
namespace Go.Proofs.Ytpcjekgfnfjbpaa
open Go.RowKit Go.Bas
attribute [local go_sem ↓] Go.wp_at_zero Go.wp_at_succ
theorem le32_wd (f:Nat→Int) (j:Nat):le32 f j=wd f j:=by unfold le32 wd;omega
theorem build_st0 {a:Act} (c:Int) (t:Nat) (ht:a.eval (.tmp t)=.int .u32 c) (w:World):(Instr.build 122 ((#[(0,Operand.const (.int .u32 1634760805)),(1,Operand.const (.int .u32 857760878)),(2,Operand.const (.int .u32 2036477234)),(3,Operand.const (.int .u32 1797285236)),(12,Operand.tmp t)] :Array (Nat × Operand)).map fun (i,x)=> (i,a.eval x))).run Try.prog w=.ok (.agg (arr .u32 16 (st0 c))) w:=by
 simp only [List.map_toArray,List.map_nil,List.map_cons,ht]
 rw [Go.run_build w _ _ (arr .u32 16 (st0 c)) (by kernel_rfl)]
theorem state_any (key nonce:Nat→Int) (c:Int) (hk:∀i,i<32→0≤key i∧key i<256) (hn:∀i,i<12→0≤nonce i∧nonce i<256) (w:World):
  Calls Try.prog 76 #[.agg (arr .u8 32 key),.agg (arr .u8 12 nonce),.int .u32 c] w fun e w'=> e=.returned (.agg (arr .u32 16 (ini key nonce c)))∧Below w.heap.size w w':=by
 have HK:=Lib.hid hk
 have HN:=Lib.hid hn
 clear hk hn
 go_enter Try.func76,Try.ntmps76
 go_upto_region 2 with (first
  | (refine step_val rfl (run_built rfl (build_st0 c _ rfl _)) ?_)
  | (refine store_arr rfl 122 _ _ rfl .u32 (w.heap.size+3) 16 (fun _=> 0) _ Try.size122 rfl rfl (Arr.newAt (by simp) (by rfl)) ?_))
 refine wp_world (fun w1=> Arr .u8 w1 w.heap.size 32 key∧Arr .u8 w1 (w.heap.size+1) 12 nonce∧Arr .u32 w1 (w.heap.size+2) 16 (fun _=> 0)∧Arr .u32 w1 (w.heap.size+3) 16 (st0 c)∧Below w.heap.size w w1)
  ⟨Arr.setRowOther (Arr.alloc (Arr.alloc (Arr.alloc (Arr.newAt rfl rfl) _) _) _) _ (by omega) _,Arr.setRowOther (Arr.alloc (Arr.alloc (Arr.newAt (by simp) rfl) _) _) _ (by omega) _,Arr.setRowOther (Arr.alloc (Arr.newAt (by simp) (by rfl)) _) _ (by omega) _,Arr.setRow (Arr.newAt (n:=16) (f:=fun _=> 0) (by simp) (by rfl)) _ _,below_setRow' (((((Below.refl _ _).alloc (Nat.le_refl _) _).alloc (by simp) _).alloc (by simp;omega) _).alloc (by simp;omega) _) (by omega) _⟩ ?_
 rintro w1 ⟨hK,hN,hZ,hS,hbel⟩
 go_wp2_with fail
 refine (words32_ok _ 8 key _ (hK.rd (by decide)) (fun i hi=> HK.out i (by omega)) (by decide)).mono ?_
 rintro e w2 ⟨v,rfl,hv,hb2⟩
 have hN2:=hN.kept hb2
 have hZ2:=hZ.kept hb2
 have hS2:=hS.kept hb2
 have hbel2:=hbel.trans (hb2.mono hbel.size)
 have HV:=Lib.hid hv.rd
 clear hK hN hZ hS hbel hb2 hv
 go_wp2_with fail
 refine (words32_ok _ 3 nonce _ (hN2.rd (by decide)) (fun i hi=> HN.out i (by omega)) (by decide)).mono ?_
 rintro e w3 ⟨u,rfl,hu,hb3⟩
 have hZ3:=hZ2.kept hb3
 have hS3:=hS2.kept hb3
 have hbel3:=hbel2.trans (hb3.mono hbel2.size)
 have HV3:=Lib.hid (HV.out.below hb3)
 have HU3:=Lib.hid hu
 have hs2:w.heap.size+3<w2.heap.size:=hS2.lt
 clear hN2 hZ2 hS2 hbel2 hb3 hu HV
 go_upto_region 5 with (refine list_copy_arr rfl _ _ 127 127 rfl (w.heap.size+3) 4 12 12 16 (st0 c) Try.underlying127 Try.size99 rfl hS3 _ 8 (le32 key) HV3.out rfl (by decide) (by decide) ?_)
 have HU4:=Lib.hid (HU3.out.setRow hs2 (arr .u32 16 (laid (st0 c) 4 8 (le32 key)))).rd
 go_upto_region 6 with (refine list_copy_arr rfl _ _ 127 127 rfl (w.heap.size+3) 13 3 3 16 _ Try.underlying127 Try.size99 rfl (hS3.setRow _ _) _ 3 (le32 nonce) HU4.out rfl (by decide) (by decide) ?_)
 refine wp_world (fun w4=> Arr .u32 w4 (w.heap.size+2) 16 (fun _=> 0)∧Arr .u32 w4 (w.heap.size+3) 16 (ini key nonce c)∧Below w.heap.size w w4)
  ⟨Arr.setRowOther (Arr.setRowOther hZ3 _ (by omega) _) _ (by omega) _,(Arr.setRow (hS3.setRow 16 (laid (st0 c) 4 8 (le32 key))) _ _).congr (fun i hi=> by rw [show le32 key=wd key from funext (le32_wd key),show le32 nonce=wd nonce from funext (le32_wd nonce)];exact st_all key nonce c i hi),below_setRow' (below_setRow' hbel3 (by omega) _) (by omega) _⟩ ?_
 rintro w4 ⟨hZ4,hS4,hbel4⟩
 clear hZ3 hS3 hbel3 HU3 HU4 HV3
 go_wp2_with (first
  | (refine load_arr rfl 122 _ rfl .u32 (w.heap.size+3) 16 _ 99 Try.underlying122 Try.size122 rfl hS4 ?_)
  | (refine store_arr rfl 122 _ _ rfl .u32 (w.heap.size+2) 16 (fun _=> 0) _ Try.size122 rfl rfl hZ4 ?_))
 exact bodyPost_ret (results_arr rfl _ _ .u32 (w.heap.size+2) 16 _ 99 rfl (hZ4.setRow _ _) Try.underlying122 Try.size122) rfl ⟨rfl,below_setRow' hbel4 (by omega) _⟩
theorem upd4_qrF (S:Nat→Int) (a b c d:Nat) (h:a≠b∧a≠c∧a≠d∧b≠c∧b≠d∧c≠d) (i:Nat):
  upd (upd (upd (upd S a (qA (S a) (S b) (S c) (S d))) b (qB (S a) (S b) (S c) (S d))) c (qC (S a) (S b) (S c) (S d))) d (qD (S a) (S b) (S c) (S d)) i=qrF S a b c d i:=by
 obtain ⟨n1,n2,n3,n4,n5,n6⟩:=h
 unfold upd qrF
 by_cases ea:i=a
 ·subst ea;rw [if_neg n3,if_neg n2,if_neg n1,if_pos rfl,if_pos rfl]
 ·by_cases eb:i=b
  ·subst eb;rw [if_neg n5,if_neg n4,if_pos rfl,if_neg ea,if_pos rfl]
  ·by_cases ec:i=c
   ·subst ec;rw [if_neg n6,if_pos rfl,if_neg ea,if_neg eb,if_pos rfl]
   ·by_cases ed:i=d
    ·subst ed;rw [if_pos rfl,if_neg ea,if_neg eb,if_neg ec,if_pos rfl]
    ·rw [if_neg ed,if_neg ec,if_neg eb,if_neg ea,if_neg ea,if_neg eb,if_neg ec,if_neg ed]
theorem QuarterB_any (a b c d:Int) (ha:0≤a∧a<4294967296) (hb:0≤b∧b<4294967296) (hc:0≤c∧c<4294967296) (hd:0≤d∧d<4294967296) (w:World):
  Calls Try.prog 77 #[.int .u32 a,.int .u32 b,.int .u32 c,.int .u32 d] w fun e w'=> e=.returned (.tuple #[.int .u32 (qA a b c d),.int .u32 (qB a b c d),.int .u32 (qC a b c d),.int .u32 (qD a b c d)])∧Below w.heap.size w w':=
 (Quarter_any a b c d ha hb hc hd w).mono fun _ _ ⟨h1,h2⟩=> ⟨h1,h2▸Below.refl _ _⟩
theorem chBlock_any (key nonce:Nat→Int) (c:Int) (hk:∀i,i<32→0≤key i∧key i<256) (hn:∀i,i<12→0≤nonce i∧nonce i<256) (hc:0≤c∧c<4294967296) (w:World):
  Calls Try.prog 65 #[.agg (arr .u8 32 key),.agg (arr .u8 12 nonce),.int .u32 c] w fun e w'=> e=.returned (.agg (arr .u8 64 (blkB key nonce c)))∧Below w.heap.size w w':=by
 have HST:=Lib.hid (state_any key nonce c hk hn)
 obtain ⟨S,hS⟩:∃S,S=ini key nonce c:=⟨_,rfl⟩
 have HSB:Hid (∀i,i<16→0≤S i∧S i<4294967296):=by rw [hS];exact ini_bound hk hn hc
 rw [←hS] at HST
 have HSE:=Lib.hid hS
 have HDB:Hid (∀r j i,i<16→0≤drK (rds S r) j i∧drK (rds S r) j i<4294967296):=fun r j=> drK_bound (rds_bound HSB.out r) j
 clear hk hn hS
 go_enter Try.func65,Try.ntmps65
 go_wp2_with (first
  | (refine load_arr rfl 22 _ rfl .u8 w.heap.size 32 _ 5 Try.underlying22 Try.size22 rfl (Arr.alloc (Arr.alloc (Arr.newAt rfl rfl) _) _) ?_)
  | (refine load_arr rfl 85 _ rfl .u8 (w.heap.size+1) 12 _ 5 Try.underlying85 Try.size85 rfl (Arr.alloc (Arr.newAt (by simp) rfl) _) ?_))
 refine (HST.out _).mono ?_
 rintro e w1 ⟨rfl,hb1⟩
 have hZ1:Arr .u8 w1 (w.heap.size+2) 64 (fun _=> 0):=Arr.kept (Arr.newAt (by simp) (by rfl)) hb1
 have hbel1:Below w.heap.size w w1:=((((Below.refl _ _).alloc (Nat.le_refl _) _).alloc (by simp) _).alloc (by simp;omega) _).trans (hb1.mono (by simp;omega))
 have s1:=hbel1.size
 have z1:=hZ1.lt
 clear hb1
 go_upto_region 2 with (refine store_arr rfl 122 _ _ rfl .u32 w1.heap.size 16 (fun _=> 0) _ Try.size122 rfl rfl (Arr.newAt rfl (by rfl)) ?_)
 refine wp_world (fun w2=> Arr .u8 w2 (w.heap.size+2) 64 (fun _=> 0)∧Arr .u32 w2 w1.heap.size 16 S∧Below w.heap.size w w2∧w2.heap.size=w1.heap.size+1)
  ⟨Arr.setRowOther (Arr.alloc hZ1 _) _ (by omega) _,Arr.setRow (Arr.newAt (n:=16) (f:=fun _=> 0) rfl (by rfl)) _ _,below_setRow' (hbel1.alloc s1 _) s1 _,by rw [setRow_size];simp⟩ ?_
 rintro w2 ⟨hZ2,hS2,hbel2,hsz2⟩
 obtain ⟨A,hA⟩:∃A,A=w1.heap.size:=⟨_,rfl⟩
 rw [←hA] at hS2 hsz2 s1 z1 ⊢
 have HSZ:=Lib.hid hsz2
 clear hZ1 hbel1 hA hsz2
 go_upto_region 3 with (first
  | (refine load_arr rfl 122 _ rfl .u32 A 16 _ 99 Try.underlying122 Try.size122 rfl hS2 ?_)
  | (refine store_arr rfl 122 _ _ rfl .u32 w2.heap.size 16 (fun _=> 0) _ Try.size122 rfl rfl (Arr.newAt rfl (by rfl)) ?_))
 refine wp_world (fun w3=> Arr .u8 w3 (w.heap.size+2) 64 (fun _=> 0)∧Arr .u32 w3 A 16 S∧Arr .u32 w3 w2.heap.size 16 S∧Below w.heap.size w w3)
  ⟨Arr.setRowOther (Arr.alloc hZ2 _) _ (by have:=HSZ.out;omega) _,Arr.setRowOther (Arr.alloc hS2 _) _ (by have:=HSZ.out;omega) _,Arr.setRow (Arr.newAt (n:=16) (f:=fun _=> 0) rfl (by rfl)) _ _,below_setRow' (hbel2.alloc hbel2.size _) hbel2.size _⟩ ?_
 rintro w3 ⟨hZ3,hS3,hW3,hbel3⟩
 rw [HSZ.out] at hW3 ⊢
 clear hZ2 hS2 hbel2 HSZ
 simp only [Act.put]
 go_wp2
 go_loopw [20] (fun i wr=> ∃r:Nat,r≤10∧i=.int .i64 r∧Arr .u8 wr (w.heap.size+2) 64 (fun _=> 0)∧Arr .u32 wr A 16 S∧Arr .u32 wr (A+1) 16 (rds S r)∧Below w.heap.size w wr) (fun i _=> 10 - (intOf i).toNat)
 case atStart=> exact ⟨0,Nat.zero_le _,rfl,hZ3,hS3,hW3,hbel3⟩
 case round=>
  clear hZ3 hS3 hW3 hbel3
  obtain ⟨r,hr,rfl,hZ,hA,hW,hbel⟩:=hrel
  by_cases hlt:r<10
  ·have HZ:=Lib.hid hZ
   have HA:=Lib.hid hA
   have HW:=Lib.hid hW
   have HB:=Lib.hid hbel
   clear hZ hA hW hbel
   go_wp2
   go_loopw [22] (fun i wr=> ∃s:Nat,s≤2∧i=.int .i64 s∧Arr .u8 wr (w.heap.size+2) 64 (fun _=> 0)∧Arr .u32 wr A 16 S∧Arr .u32 wr (A+1) 16 (drK (rds S r) (4 * s))∧Below w.heap.size w wr) (fun i _=> 2 - (intOf i).toNat)
   case atStart=> exact ⟨0,Nat.zero_le _,rfl,HZ.out,HA.out,HW.out,HB.out⟩
   case round=>
    clear HZ HA HW HB
    obtain ⟨s,hs,rfl,hZ,hA,hW,hbel⟩:=hrel
    have HZ:=Lib.hid hZ
    have HA:=Lib.hid hA
    have HW:=Lib.hid hW
    have HB:=Lib.hid hbel
    clear hZ hA hW hbel
    by_cases hst:s<2
    ·go_wp2
     go_loopw [25] (fun i wr=> ∃j:Nat,j≤4∧i=.int .i64 j∧Arr .u8 wr (w.heap.size+2) 64 (fun _=> 0)∧Arr .u32 wr A 16 S∧Arr .u32 wr (A+1) 16 (drK (rds S r) (4 * s+j))∧Below w.heap.size w wr) (fun i _=> 4 - (intOf i).toNat)
     case atStart=> exact ⟨0,Nat.zero_le _,rfl,HZ.out,HA.out,HW.out,HB.out⟩
     case round=>
      clear HZ HA HW HB
      obtain ⟨j,hj,rfl,hZ,hA,hW,hbel⟩:=hrel
      by_cases hjt:j<4
      ·have HZ:=Lib.hid hZ
       have HA:=Lib.hid hA
       have HW:=Lib.hid hW
       have HB:=Lib.hid hbel
       clear hZ hA hW hbel
       rcases (by omega:j=0∨j=1∨j=2∨j=3) with rfl | rfl | rfl | rfl<;> rcases (by omega:s=0∨s=1) with rfl | rfl
       ·go_upto_region 12 with (fail)
        have hW:=HW.out
        have B0:=HDB.out r (4 * 0+0) 0 (by decide)
        have B4:=HDB.out r (4 * 0+0) 4 (by decide)
        have B8:=HDB.out r (4 * 0+0) 8 (by decide)
        have B12:=HDB.out r (4 * 0+0) 12 (by decide)
        refine region_chain (n:=90) [23,25,27,29] (fun i=> [1,2,3,19,20,21,24,26,28].contains i) (by kernel_rfl) (by kernel_rfl) (by kernel_rfl) (by kernel_rfl) rfl
         (fun ii vv _=> (match ii with | 0 | 4=> vv=.int .i64 (0) | 1 | 7=> vv=.int .i64 (4) | 2 | 10=> vv=.int .i64 (8) | 3 | 13=> vv=.int .i64 (12) | 5 | 22=> vv=.pointer (some ⟨A+1,0,none⟩) | 6=> vv=.int .u32 (drK (rds S r) (4 * 0+0) 0) | 8 | 24=> vv=.pointer (some ⟨A+1,4,none⟩) | 9=> vv=.int .u32 (drK (rds S r) (4 * 0+0) 4) | 11 | 26=> vv=.pointer (some ⟨A+1,8,none⟩) | 12=> vv=.int .u32 (drK (rds S r) (4 * 0+0) 8) | 14 | 28=> vv=.pointer (some ⟨A+1,12,none⟩) | 15=> vv=.int .u32 (drK (rds S r) (4 * 0+0) 12) | 16 | 17=> vv=.tuple #[.int .u32 (qA (drK (rds S r) (4 * 0+0) 0) (drK (rds S r) (4 * 0+0) 4) (drK (rds S r) (4 * 0+0) 8) (drK (rds S r) (4 * 0+0) 12)),.int .u32 (qB (drK (rds S r) (4 * 0+0) 0) (drK (rds S r) (4 * 0+0) 4) (drK (rds S r) (4 * 0+0) 8) (drK (rds S r) (4 * 0+0) 12)),.int .u32 (qC (drK (rds S r) (4 * 0+0) 0) (drK (rds S r) (4 * 0+0) 4) (drK (rds S r) (4 * 0+0) 8) (drK (rds S r) (4 * 0+0) 12)),.int .u32 (qD (drK (rds S r) (4 * 0+0) 0) (drK (rds S r) (4 * 0+0) 4) (drK (rds S r) (4 * 0+0) 8) (drK (rds S r) (4 * 0+0) 12))] | 18=> vv=.int .u32 (qA (drK (rds S r) (4 * 0+0) 0) (drK (rds S r) (4 * 0+0) 4) (drK (rds S r) (4 * 0+0) 8) (drK (rds S r) (4 * 0+0) 12)) | 19=> vv=.int .u32 (qB (drK (rds S r) (4 * 0+0) 0) (drK (rds S r) (4 * 0+0) 4) (drK (rds S r) (4 * 0+0) 8) (drK (rds S r) (4 * 0+0) 12)) | 20=> vv=.int .u32 (qC (drK (rds S r) (4 * 0+0) 0) (drK (rds S r) (4 * 0+0) 4) (drK (rds S r) (4 * 0+0) 8) (drK (rds S r) (4 * 0+0) 12)) | 21=> vv=.int .u32 (qD (drK (rds S r) (4 * 0+0) 0) (drK (rds S r) (4 * 0+0) 4) (drK (rds S r) (4 * 0+0) 8) (drK (rds S r) (4 * 0+0) 12)) | _=> True))
         (fun _ _ _ _ h _=> h)
         (fun m ww=> match m with | 0=> ww | 1=> (ww.setCell ⟨A+1,0,none⟩ (.int .u32 (qA (drK (rds S r) (4 * 0+0) 0) (drK (rds S r) (4 * 0+0) 4) (drK (rds S r) (4 * 0+0) 8) (drK (rds S r) (4 * 0+0) 12)))) | 2=> ((ww.setCell ⟨A+1,0,none⟩ (.int .u32 (qA (drK (rds S r) (4 * 0+0) 0) (drK (rds S r) (4 * 0+0) 4) (drK (rds S r) (4 * 0+0) 8) (drK (rds S r) (4 * 0+0) 12)))).setCell ⟨A+1,4,none⟩ (.int .u32 (qB (drK (rds S r) (4 * 0+0) 0) (drK (rds S r) (4 * 0+0) 4) (drK (rds S r) (4 * 0+0) 8) (drK (rds S r) (4 * 0+0) 12)))) | 3=> (((ww.setCell ⟨A+1,0,none⟩ (.int .u32 (qA (drK (rds S r) (4 * 0+0) 0) (drK (rds S r) (4 * 0+0) 4) (drK (rds S r) (4 * 0+0) 8) (drK (rds S r) (4 * 0+0) 12)))).setCell ⟨A+1,4,none⟩ (.int .u32 (qB (drK (rds S r) (4 * 0+0) 0) (drK (rds S r) (4 * 0+0) 4) (drK (rds S r) (4 * 0+0) 8) (drK (rds S r) (4 * 0+0) 12)))).setCell ⟨A+1,8,none⟩ (.int .u32 (qC (drK (rds S r) (4 * 0+0) 0) (drK (rds S r) (4 * 0+0) 4) (drK (rds S r) (4 * 0+0) 8) (drK (rds S r) (4 * 0+0) 12)))) | _=> ((((ww.setCell ⟨A+1,0,none⟩ (.int .u32 (qA (drK (rds S r) (4 * 0+0) 0) (drK (rds S r) (4 * 0+0) 4) (drK (rds S r) (4 * 0+0) 8) (drK (rds S r) (4 * 0+0) 12)))).setCell ⟨A+1,4,none⟩ (.int .u32 (qB (drK (rds S r) (4 * 0+0) 0) (drK (rds S r) (4 * 0+0) 4) (drK (rds S r) (4 * 0+0) 8) (drK (rds S r) (4 * 0+0) 12)))).setCell ⟨A+1,8,none⟩ (.int .u32 (qC (drK (rds S r) (4 * 0+0) 0) (drK (rds S r) (4 * 0+0) 4) (drK (rds S r) (4 * 0+0) 8) (drK (rds S r) (4 * 0+0) 12)))).setCell ⟨A+1,12,none⟩ (.int .u32 (qD (drK (rds S r) (4 * 0+0) 0) (drK (rds S r) (4 * 0+0) 4) (drK (rds S r) (4 * 0+0) 8) (drK (rds S r) (4 * 0+0) 12))))) (fun _=> rfl) ?_ ?_ ?_ ?_
        ·refine Each.all ?_
         refine ⟨?_,(fun _ h=> absurd h (by decide)),(fun _ h=> absurd h (by decide)),(fun _ h=> absurd h (by decide)),?_,?_,?_,?_,?_,?_,?_,?_,?_,?_,?_,?_,?_,?_,?_,(fun _ h=> absurd h (by decide)),(fun _ h=> absurd h (by decide)),(fun _ h=> absurd h (by decide)),?_,(fun h=> absurd h (by decide)),(fun _ h=> absurd h (by decide)),(fun h=> absurd h (by decide)),(fun _ h=> absurd h (by decide)),(fun h=> absurd h (by decide)),(fun _ h=> absurd h (by decide)),(fun h=> absurd h (by decide)),trivial⟩
         ·intro _ _ a w2 hB hF hd
          rw [if_pos (wanted_none rfl)]
          exact flow_move _ (.inl rfl) (by simp) (hF.same 10 rfl)
         ·intro _ _ a w2 hB hF hd
          rw [if_pos (wanted_none rfl)]
          exact flow_move _ (.inl rfl) (by simp) (hF.same 10 rfl)
         ·intro _ _ a w2 hB hF hd
          rw [if_pos (wanted_none rfl)]
          exact flow_val (fun h=> by cases h) (run_index_addr rfl (hF.same 8 rfl) (hd 4 _ rfl rfl (waits_spec rfl)) Try.underlying122 (by kernel_rfl) (by decide) (by decide)) rfl
         ·intro _ _ a w2 hB hF hd
          rw [if_pos (wanted_none rfl)]
          exact flow_val (fun h=> by cases h) (run_load_cell rfl (hd 5 _ rfl rfl (waits_spec rfl)) Try.underlying99 ((hW.kept hB).cell 0 (by decide))) rfl
         ·intro _ _ a w2 hB hF hd
          rw [if_pos (wanted_none rfl)]
          exact flow_move _ (.inl rfl) (by simp) (hF.same 11 rfl)
         ·intro _ _ a w2 hB hF hd
          rw [if_pos (wanted_none rfl)]
          exact flow_val (fun h=> by cases h) (run_index_addr rfl (hF.same 8 rfl) (hd 7 _ rfl rfl (waits_spec rfl)) Try.underlying122 (by kernel_rfl) (by decide) (by decide)) rfl
         ·intro _ _ a w2 hB hF hd
          rw [if_pos (wanted_none rfl)]
          exact flow_val (fun h=> by cases h) (run_load_cell rfl (hd 8 _ rfl rfl (waits_spec rfl)) Try.underlying99 ((hW.kept hB).cell 4 (by decide))) rfl
         ·intro _ _ a w2 hB hF hd
          rw [if_pos (wanted_none rfl)]
          exact flow_move _ (.inl rfl) (by simp) (hF.same 12 rfl)
         ·intro _ _ a w2 hB hF hd
          rw [if_pos (wanted_none rfl)]
          exact flow_val (fun h=> by cases h) (run_index_addr rfl (hF.same 8 rfl) (hd 10 _ rfl rfl (waits_spec rfl)) Try.underlying122 (by kernel_rfl) (by decide) (by decide)) rfl
         ·intro _ _ a w2 hB hF hd
          rw [if_pos (wanted_none rfl)]
          exact flow_val (fun h=> by cases h) (run_load_cell rfl (hd 11 _ rfl rfl (waits_spec rfl)) Try.underlying99 ((hW.kept hB).cell 8 (by decide))) rfl
         ·intro _ _ a w2 hB hF hd
          rw [if_pos (wanted_none rfl)]
          exact flow_move _ (.inl rfl) (by simp) (hF.same 13 rfl)
         ·intro _ _ a w2 hB hF hd
          rw [if_pos (wanted_none rfl)]
          exact flow_val (fun h=> by cases h) (run_index_addr rfl (hF.same 8 rfl) (hd 13 _ rfl rfl (waits_spec rfl)) Try.underlying122 (by kernel_rfl) (by decide) (by decide)) rfl
         ·intro _ _ a w2 hB hF hd
          rw [if_pos (wanted_none rfl)]
          exact flow_val (fun h=> by cases h) (run_load_cell rfl (hd 14 _ rfl rfl (waits_spec rfl)) Try.underlying99 ((hW.kept hB).cell 12 (by decide))) rfl
         ·intro _ _ a w2 hB hF hd
          rw [if_pos (wanted_none rfl)]
          refine flow_call _ _ _ rfl Try.call77 _ (args4 (hd 6 _ rfl rfl (waits_spec rfl)) (hd 9 _ rfl rfl (waits_spec rfl)) (hd 12 _ rfl rfl (waits_spec rfl)) (hd 15 _ rfl rfl (waits_spec rfl))) (by simp) ((QuarterB_any (drK (rds S r) (4 * 0+0) 0) (drK (rds S r) (4 * 0+0) 4) (drK (rds S r) (4 * 0+0) 8) (drK (rds S r) (4 * 0+0) 12) B0 B4 B8 B12 w2).mono ?_)
          rintro e w3 ⟨rfl,hb⟩;exact ⟨_,rfl,rfl,hb⟩
         ·intro _ _ a w2 hB hF hd
          rw [if_pos (wanted_none rfl)]
          exact flow_move _ (.inl rfl) (by simp) (hd 16 _ rfl rfl (waits_spec rfl))
         ·intro _ _ a w2 hB hF hd
          rw [if_pos (wanted_none rfl)]
          exact flow_val (fun h=> by cases h) (run_extract rfl (hd 17 _ rfl rfl (waits_spec rfl)) rfl) rfl
         ·intro _ _ a w2 hB hF hd
          rw [if_pos (wanted_none rfl)]
          exact flow_val (fun h=> by cases h) (run_index_addr rfl (hF.same 8 rfl) (hd 0 _ rfl rfl (waits_spec rfl)) Try.underlying122 (by kernel_rfl) (by decide) (by decide)) rfl
        ·refine Each.all ?_
         refine ⟨(fun _ h=> absurd h (by decide)),?_,?_,?_,(fun _ h=> absurd h (by decide)),(fun _ h=> absurd h (by decide)),(fun _ h=> absurd h (by decide)),(fun _ h=> absurd h (by decide)),(fun _ h=> absurd h (by decide)),(fun _ h=> absurd h (by decide)),(fun _ h=> absurd h (by decide)),(fun _ h=> absurd h (by decide)),(fun _ h=> absurd h (by decide)),(fun _ h=> absurd h (by decide)),(fun _ h=> absurd h (by decide)),(fun _ h=> absurd h (by decide)),(fun _ h=> absurd h (by decide)),(fun _ h=> absurd h (by decide)),(fun _ h=> absurd h (by decide)),?_,?_,?_,(fun _ h=> absurd h (by decide)),(fun h=> absurd h (by decide)),?_,(fun h=> absurd h (by decide)),?_,(fun h=> absurd h (by decide)),?_,(fun h=> absurd h (by decide)),trivial⟩
         ·intro _ _ a w1 w2 hB hF hd
          rw [if_pos (wanted_none rfl)]
          exact pure_move _ (.inl rfl) (by simp) (hF.same 11 rfl)
         ·intro _ _ a w1 w2 hB hF hd
          rw [if_pos (wanted_none rfl)]
          exact pure_move _ (.inl rfl) (by simp) (hF.same 12 rfl)
         ·intro _ _ a w1 w2 hB hF hd
          rw [if_pos (wanted_none rfl)]
          exact pure_move _ (.inl rfl) (by simp) (hF.same 13 rfl)
         ·intro _ _ a w1 w2 hB hF hd
          rw [if_pos (wanted_none rfl)]
          exact pure_val (fun h=> by cases h) (run_extract rfl (hd 17 _ rfl rfl (waits_spec rfl)) rfl) rfl
         ·intro _ _ a w1 w2 hB hF hd
          rw [if_pos (wanted_none rfl)]
          exact pure_val (fun h=> by cases h) (run_extract rfl (hd 17 _ rfl rfl (waits_spec rfl)) rfl) rfl
         ·intro _ _ a w1 w2 hB hF hd
          rw [if_pos (wanted_none rfl)]
          exact pure_val (fun h=> by cases h) (run_extract rfl (hd 17 _ rfl rfl (waits_spec rfl)) rfl) rfl
         ·intro _ _ a w1 w2 hB hF hd
          rw [if_pos (wanted_none rfl)]
          exact pure_val (fun h=> by cases h) (run_index_addr rfl (hF.same 8 rfl) (hd 1 _ rfl rfl (waits_spec rfl)) Try.underlying122 (by kernel_rfl) (by decide) (by decide)) rfl
         ·intro _ _ a w1 w2 hB hF hd
          rw [if_pos (wanted_none rfl)]
          exact pure_val (fun h=> by cases h) (run_index_addr rfl (hF.same 8 rfl) (hd 2 _ rfl rfl (waits_spec rfl)) Try.underlying122 (by kernel_rfl) (by decide) (by decide)) rfl
         ·intro _ _ a w1 w2 hB hF hd
          rw [if_pos (wanted_none rfl)]
          exact pure_val (fun h=> by cases h) (run_index_addr rfl (hF.same 8 rfl) (hd 3 _ rfl rfl (waits_spec rfl)) Try.underlying122 (by kernel_rfl) (by decide) (by decide)) rfl
        ·intro q o hq ho
         rcases (by simp at hq;omega:q=0∨q=1∨q=2∨q=3) with rfl | rfl | rfl | rfl
         ·obtain rfl:=Option.some.inj ho
          intro a w2 K hB hF hd hK
          exact wp_store_cell 99 _ _ rfl rfl (A+1) (0) 16 _ (qA (drK (rds S r) (4 * 0+0) 0) (drK (rds S r) (4 * 0+0) 4) (drK (rds S r) (4 * 0+0) 8) (drK (rds S r) (4 * 0+0) 12)) Try.size99 (hd 22 _ rfl rfl (waits_spec rfl)) (hd 18 _ rfl rfl (waits_spec rfl)) (hW.kept hB) (by first | decide | omega) hK
         ·obtain rfl:=Option.some.inj ho
          intro a w2 K hB hF hd hK
          exact wp_store_cell 99 _ _ rfl rfl (A+1) (4) 16 _ (qB (drK (rds S r) (4 * 0+0) 0) (drK (rds S r) (4 * 0+0) 4) (drK (rds S r) (4 * 0+0) 8) (drK (rds S r) (4 * 0+0) 12)) Try.size99 (hd 24 _ rfl rfl (waits_spec rfl)) (hd 19 _ rfl rfl (waits_spec rfl)) ((hW.kept hB).set (0) (qA (drK (rds S r) (4 * 0+0) 0) (drK (rds S r) (4 * 0+0) 4) (drK (rds S r) (4 * 0+0) 8) (drK (rds S r) (4 * 0+0) 12))) (by first | decide | omega) hK
         ·obtain rfl:=Option.some.inj ho
          intro a w2 K hB hF hd hK
          exact wp_store_cell 99 _ _ rfl rfl (A+1) (8) 16 _ (qC (drK (rds S r) (4 * 0+0) 0) (drK (rds S r) (4 * 0+0) 4) (drK (rds S r) (4 * 0+0) 8) (drK (rds S r) (4 * 0+0) 12)) Try.size99 (hd 26 _ rfl rfl (waits_spec rfl)) (hd 20 _ rfl rfl (waits_spec rfl)) (((hW.kept hB).set (0) (qA (drK (rds S r) (4 * 0+0) 0) (drK (rds S r) (4 * 0+0) 4) (drK (rds S r) (4 * 0+0) 8) (drK (rds S r) (4 * 0+0) 12))).set (4) (qB (drK (rds S r) (4 * 0+0) 0) (drK (rds S r) (4 * 0+0) 4) (drK (rds S r) (4 * 0+0) 8) (drK (rds S r) (4 * 0+0) 12))) (by first | decide | omega) hK
         ·obtain rfl:=Option.some.inj ho
          intro a w2 K hB hF hd hK
          exact wp_store_cell 99 _ _ rfl rfl (A+1) (12) 16 _ (qD (drK (rds S r) (4 * 0+0) 0) (drK (rds S r) (4 * 0+0) 4) (drK (rds S r) (4 * 0+0) 8) (drK (rds S r) (4 * 0+0) 12)) Try.size99 (hd 28 _ rfl rfl (waits_spec rfl)) (hd 21 _ rfl rfl (waits_spec rfl)) ((((hW.kept hB).set (0) (qA (drK (rds S r) (4 * 0+0) 0) (drK (rds S r) (4 * 0+0) 4) (drK (rds S r) (4 * 0+0) 8) (drK (rds S r) (4 * 0+0) 12))).set (4) (qB (drK (rds S r) (4 * 0+0) 0) (drK (rds S r) (4 * 0+0) 4) (drK (rds S r) (4 * 0+0) 8) (drK (rds S r) (4 * 0+0) 12))).set (8) (qC (drK (rds S r) (4 * 0+0) 0) (drK (rds S r) (4 * 0+0) 4) (drK (rds S r) (4 * 0+0) 8) (drK (rds S r) (4 * 0+0) 12))) (by first | decide | omega) hK
        ·intro a w4 hB hF hS
         have ha:=puts_each rfl rfl hF [_,_,_,_,_,_,_,_,_,_,_,_,_,_,_,_,_,_,_,_,_,_,_,undef,_,undef,_,undef,_,undef] rfl ⟨hS 0 _ rfl rfl,hS 1 _ rfl rfl,hS 2 _ rfl rfl,hS 3 _ rfl rfl,hS 4 _ rfl rfl,hS 5 _ rfl rfl,hS 6 _ rfl rfl,hS 7 _ rfl rfl,hS 8 _ rfl rfl,hS 9 _ rfl rfl,hS 10 _ rfl rfl,hS 11 _ rfl rfl,hS 12 _ rfl rfl,hS 13 _ rfl rfl,hS 14 _ rfl rfl,hS 15 _ rfl rfl,hS 16 _ rfl rfl,hS 17 _ rfl rfl,hS 18 _ rfl rfl,hS 19 _ rfl rfl,hS 20 _ rfl rfl,hS 21 _ rfl rfl,hS 22 _ rfl rfl,trivial,hS 24 _ rfl rfl,trivial,hS 26 _ rfl rfl,trivial,hS 28 _ rfl rfl,trivial,trivial⟩
         simp only [puts,Act.put,List.setIfInBounds_toArray,List.set_cons_succ,List.set_cons_zero] at ha
         subst ha
         have VA:=(((((hW.kept hB).set (0) (qA (drK (rds S r) (4 * 0+0) 0) (drK (rds S r) (4 * 0+0) 4) (drK (rds S r) (4 * 0+0) 8) (drK (rds S r) (4 * 0+0) 12))).set (4) (qB (drK (rds S r) (4 * 0+0) 0) (drK (rds S r) (4 * 0+0) 4) (drK (rds S r) (4 * 0+0) 8) (drK (rds S r) (4 * 0+0) 12))).set (8) (qC (drK (rds S r) (4 * 0+0) 0) (drK (rds S r) (4 * 0+0) 4) (drK (rds S r) (4 * 0+0) 8) (drK (rds S r) (4 * 0+0) 12))).set (12) (qD (drK (rds S r) (4 * 0+0) 0) (drK (rds S r) (4 * 0+0) 4) (drK (rds S r) (4 * 0+0) 8) (drK (rds S r) (4 * 0+0) 12)))
         clear hS hF
         have hZ4:=(((((HZ.out.kept hB).other (p:=⟨A+1,0,none⟩) (by simp;omega) (.int .u32 (qA (drK (rds S r) (4 * 0+0) 0) (drK (rds S r) (4 * 0+0) 4) (drK (rds S r) (4 * 0+0) 8) (drK (rds S r) (4 * 0+0) 12)))).other (p:=⟨A+1,4,none⟩) (by simp;omega) (.int .u32 (qB (drK (rds S r) (4 * 0+0) 0) (drK (rds S r) (4 * 0+0) 4) (drK (rds S r) (4 * 0+0) 8) (drK (rds S r) (4 * 0+0) 12)))).other (p:=⟨A+1,8,none⟩) (by simp;omega) (.int .u32 (qC (drK (rds S r) (4 * 0+0) 0) (drK (rds S r) (4 * 0+0) 4) (drK (rds S r) (4 * 0+0) 8) (drK (rds S r) (4 * 0+0) 12)))).other (p:=⟨A+1,12,none⟩) (by simp;omega) (.int .u32 (qD (drK (rds S r) (4 * 0+0) 0) (drK (rds S r) (4 * 0+0) 4) (drK (rds S r) (4 * 0+0) 8) (drK (rds S r) (4 * 0+0) 12))))
         have hA4:=(((((HA.out.kept hB).other (p:=⟨A+1,0,none⟩) (by simp) (.int .u32 (qA (drK (rds S r) (4 * 0+0) 0) (drK (rds S r) (4 * 0+0) 4) (drK (rds S r) (4 * 0+0) 8) (drK (rds S r) (4 * 0+0) 12)))).other (p:=⟨A+1,4,none⟩) (by simp) (.int .u32 (qB (drK (rds S r) (4 * 0+0) 0) (drK (rds S r) (4 * 0+0) 4) (drK (rds S r) (4 * 0+0) 8) (drK (rds S r) (4 * 0+0) 12)))).other (p:=⟨A+1,8,none⟩) (by simp) (.int .u32 (qC (drK (rds S r) (4 * 0+0) 0) (drK (rds S r) (4 * 0+0) 4) (drK (rds S r) (4 * 0+0) 8) (drK (rds S r) (4 * 0+0) 12)))).other (p:=⟨A+1,12,none⟩) (by simp) (.int .u32 (qD (drK (rds S r) (4 * 0+0) 0) (drK (rds S r) (4 * 0+0) 4) (drK (rds S r) (4 * 0+0) 8) (drK (rds S r) (4 * 0+0) 12))))
         have hb4:=(((((HB.out.trans (hB.mono HB.out.size)).setCell (p:=⟨A+1,0,none⟩) (by simp;omega) (.int .u32 (qA (drK (rds S r) (4 * 0+0) 0) (drK (rds S r) (4 * 0+0) 4) (drK (rds S r) (4 * 0+0) 8) (drK (rds S r) (4 * 0+0) 12)))).setCell (p:=⟨A+1,4,none⟩) (by simp;omega) (.int .u32 (qB (drK (rds S r) (4 * 0+0) 0) (drK (rds S r) (4 * 0+0) 4) (drK (rds S r) (4 * 0+0) 8) (drK (rds S r) (4 * 0+0) 12)))).setCell (p:=⟨A+1,8,none⟩) (by simp;omega) (.int .u32 (qC (drK (rds S r) (4 * 0+0) 0) (drK (rds S r) (4 * 0+0) 4) (drK (rds S r) (4 * 0+0) 8) (drK (rds S r) (4 * 0+0) 12)))).setCell (p:=⟨A+1,12,none⟩) (by simp;omega) (.int .u32 (qD (drK (rds S r) (4 * 0+0) 0) (drK (rds S r) (4 * 0+0) 4) (drK (rds S r) (4 * 0+0) 8) (drK (rds S r) (4 * 0+0) 12))))
         have hW4:=VA.congr (g:=drK (rds S r) (4 * 0+(0+1))) (fun i _=> upd4_qrF (drK (rds S r) (4 * 0+0)) 0 4 8 12 (by decide) i)
         clear VA hW hB
         go_upto_region 13 with (fail)
         refine wp_world (fun w5=> Arr .u8 w5 (w.heap.size+2) 64 (fun _=> 0)∧Arr .u32 w5 A 16 S∧Arr .u32 w5 (A+1) 16 (drK (rds S r) (4 * 0+(0+1)))∧Below w.heap.size w w5) ⟨hZ4,hA4,hW4,hb4⟩ ?_
         rintro w5 ⟨hZ5,hA5,hW5,hb5⟩
         clear hZ4 hA4 hW4 hb4 HZ HA HW HB
         go_wp2
         go_roundw
         case rel=> exact ⟨0+1,by decide,rfl,hZ5,hA5,hW5,hb5⟩
         case measure=> simp [intOf]
       ·go_upto_region 12 with (fail)
        have hW:=HW.out
        have B0:=HDB.out r (4 * 1+0) 0 (by decide)
        have B5:=HDB.out r (4 * 1+0) 5 (by decide)
        have B10:=HDB.out r (4 * 1+0) 10 (by decide)
        have B15:=HDB.out r (4 * 1+0) 15 (by decide)
        refine region_chain (n:=90) [23,25,27,29] (fun i=> [1,2,3,19,20,21,24,26,28].contains i) (by kernel_rfl) (by kernel_rfl) (by kernel_rfl) (by kernel_rfl) rfl
         (fun ii vv _=> (match ii with | 0 | 4=> vv=.int .i64 (0) | 1 | 7=> vv=.int .i64 (5) | 2 | 10=> vv=.int .i64 (10) | 3 | 13=> vv=.int .i64 (15) | 5 | 22=> vv=.pointer (some ⟨A+1,0,none⟩) | 6=> vv=.int .u32 (drK (rds S r) (4 * 1+0) 0) | 8 | 24=> vv=.pointer (some ⟨A+1,5,none⟩) | 9=> vv=.int .u32 (drK (rds S r) (4 * 1+0) 5) | 11 | 26=> vv=.pointer (some ⟨A+1,10,none⟩) | 12=> vv=.int .u32 (drK (rds S r) (4 * 1+0) 10) | 14 | 28=> vv=.pointer (some ⟨A+1,15,none⟩) | 15=> vv=.int .u32 (drK (rds S r) (4 * 1+0) 15) | 16 | 17=> vv=.tuple #[.int .u32 (qA (drK (rds S r) (4 * 1+0) 0) (drK (rds S r) (4 * 1+0) 5) (drK (rds S r) (4 * 1+0) 10) (drK (rds S r) (4 * 1+0) 15)),.int .u32 (qB (drK (rds S r) (4 * 1+0) 0) (drK (rds S r) (4 * 1+0) 5) (drK (rds S r) (4 * 1+0) 10) (drK (rds S r) (4 * 1+0) 15)),.int .u32 (qC (drK (rds S r) (4 * 1+0) 0) (drK (rds S r) (4 * 1+0) 5) (drK (rds S r) (4 * 1+0) 10) (drK (rds S r) (4 * 1+0) 15)),.int .u32 (qD (drK (rds S r) (4 * 1+0) 0) (drK (rds S r) (4 * 1+0) 5) (drK (rds S r) (4 * 1+0) 10) (drK (rds S r) (4 * 1+0) 15))] | 18=> vv=.int .u32 (qA (drK (rds S r) (4 * 1+0) 0) (drK (rds S r) (4 * 1+0) 5) (drK (rds S r) (4 * 1+0) 10) (drK (rds S r) (4 * 1+0) 15)) | 19=> vv=.int .u32 (qB (drK (rds S r) (4 * 1+0) 0) (drK (rds S r) (4 * 1+0) 5) (drK (rds S r) (4 * 1+0) 10) (drK (rds S r) (4 * 1+0) 15)) | 20=> vv=.int .u32 (qC (drK (rds S r) (4 * 1+0) 0) (drK (rds S r) (4 * 1+0) 5) (drK (rds S r) (4 * 1+0) 10) (drK (rds S r) (4 * 1+0) 15)) | 21=> vv=.int .u32 (qD (drK (rds S r) (4 * 1+0) 0) (drK (rds S r) (4 * 1+0) 5) (drK (rds S r) (4 * 1+0) 10) (drK (rds S r) (4 * 1+0) 15)) | _=> True))
         (fun _ _ _ _ h _=> h)
         (fun m ww=> match m with | 0=> ww | 1=> (ww.setCell ⟨A+1,0,none⟩ (.int .u32 (qA (drK (rds S r) (4 * 1+0) 0) (drK (rds S r) (4 * 1+0) 5) (drK (rds S r) (4 * 1+0) 10) (drK (rds S r) (4 * 1+0) 15)))) | 2=> ((ww.setCell ⟨A+1,0,none⟩ (.int .u32 (qA (drK (rds S r) (4 * 1+0) 0) (drK (rds S r) (4 * 1+0) 5) (drK (rds S r) (4 * 1+0) 10) (drK (rds S r) (4 * 1+0) 15)))).setCell ⟨A+1,5,none⟩ (.int .u32 (qB (drK (rds S r) (4 * 1+0) 0) (drK (rds S r) (4 * 1+0) 5) (drK (rds S r) (4 * 1+0) 10) (drK (rds S r) (4 * 1+0) 15)))) | 3=> (((ww.setCell ⟨A+1,0,none⟩ (.int .u32 (qA (drK (rds S r) (4 * 1+0) 0) (drK (rds S r) (4 * 1+0) 5) (drK (rds S r) (4 * 1+0) 10) (drK (rds S r) (4 * 1+0) 15)))).setCell ⟨A+1,5,none⟩ (.int .u32 (qB (drK (rds S r) (4 * 1+0) 0) (drK (rds S r) (4 * 1+0) 5) (drK (rds S r) (4 * 1+0) 10) (drK (rds S r) (4 * 1+0) 15)))).setCell ⟨A+1,10,none⟩ (.int .u32 (qC (drK (rds S r) (4 * 1+0) 0) (drK (rds S r) (4 * 1+0) 5) (drK (rds S r) (4 * 1+0) 10) (drK (rds S r) (4 * 1+0) 15)))) | _=> ((((ww.setCell ⟨A+1,0,none⟩ (.int .u32 (qA (drK (rds S r) (4 * 1+0) 0) (drK (rds S r) (4 * 1+0) 5) (drK (rds S r) (4 * 1+0) 10) (drK (rds S r) (4 * 1+0) 15)))).setCell ⟨A+1,5,none⟩ (.int .u32 (qB (drK (rds S r) (4 * 1+0) 0) (drK (rds S r) (4 * 1+0) 5) (drK (rds S r) (4 * 1+0) 10) (drK (rds S r) (4 * 1+0) 15)))).setCell ⟨A+1,10,none⟩ (.int .u32 (qC (drK (rds S r) (4 * 1+0) 0) (drK (rds S r) (4 * 1+0) 5) (drK (rds S r) (4 * 1+0) 10) (drK (rds S r) (4 * 1+0) 15)))).setCell ⟨A+1,15,none⟩ (.int .u32 (qD (drK (rds S r) (4 * 1+0) 0) (drK (rds S r) (4 * 1+0) 5) (drK (rds S r) (4 * 1+0) 10) (drK (rds S r) (4 * 1+0) 15))))) (fun _=> rfl) ?_ ?_ ?_ ?_
        ·refine Each.all ?_
         refine ⟨?_,(fun _ h=> absurd h (by decide)),(fun _ h=> absurd h (by decide)),(fun _ h=> absurd h (by decide)),?_,?_,?_,?_,?_,?_,?_,?_,?_,?_,?_,?_,?_,?_,?_,(fun _ h=> absurd h (by decide)),(fun _ h=> absurd h (by decide)),(fun _ h=> absurd h (by decide)),?_,(fun h=> absurd h (by decide)),(fun _ h=> absurd h (by decide)),(fun h=> absurd h (by decide)),(fun _ h=> absurd h (by decide)),(fun h=> absurd h (by decide)),(fun _ h=> absurd h (by decide)),(fun h=> absurd h (by decide)),trivial⟩
         ·intro _ _ a w2 hB hF hd
          rw [if_pos (wanted_none rfl)]
          exact flow_move _ (.inl rfl) (by simp) (hF.same 10 rfl)
         ·intro _ _ a w2 hB hF hd
          rw [if_pos (wanted_none rfl)]
          exact flow_move _ (.inl rfl) (by simp) (hF.same 10 rfl)
         ·intro _ _ a w2 hB hF hd
          rw [if_pos (wanted_none rfl)]
          exact flow_val (fun h=> by cases h) (run_index_addr rfl (hF.same 8 rfl) (hd 4 _ rfl rfl (waits_spec rfl)) Try.underlying122 (by kernel_rfl) (by decide) (by decide)) rfl
         ·intro _ _ a w2 hB hF hd
          rw [if_pos (wanted_none rfl)]
          exact flow_val (fun h=> by cases h) (run_load_cell rfl (hd 5 _ rfl rfl (waits_spec rfl)) Try.underlying99 ((hW.kept hB).cell 0 (by decide))) rfl
         ·intro _ _ a w2 hB hF hd
          rw [if_pos (wanted_none rfl)]
          exact flow_move _ (.inl rfl) (by simp) (hF.same 11 rfl)
         ·intro _ _ a w2 hB hF hd
          rw [if_pos (wanted_none rfl)]
          exact flow_val (fun h=> by cases h) (run_index_addr rfl (hF.same 8 rfl) (hd 7 _ rfl rfl (waits_spec rfl)) Try.underlying122 (by kernel_rfl) (by decide) (by decide)) rfl
         ·intro _ _ a w2 hB hF hd
          rw [if_pos (wanted_none rfl)]
          exact flow_val (fun h=> by cases h) (run_load_cell rfl (hd 8 _ rfl rfl (waits_spec rfl)) Try.underlying99 ((hW.kept hB).cell 5 (by decide))) rfl
         ·intro _ _ a w2 hB hF hd
          rw [if_pos (wanted_none rfl)]
          exact flow_move _ (.inl rfl) (by simp) (hF.same 12 rfl)
         ·intro _ _ a w2 hB hF hd
          rw [if_pos (wanted_none rfl)]
          exact flow_val (fun h=> by cases h) (run_index_addr rfl (hF.same 8 rfl) (hd 10 _ rfl rfl (waits_spec rfl)) Try.underlying122 (by kernel_rfl) (by decide) (by decide)) rfl
         ·intro _ _ a w2 hB hF hd
          rw [if_pos (wanted_none rfl)]
          exact flow_val (fun h=> by cases h) (run_load_cell rfl (hd 11 _ rfl rfl (waits_spec rfl)) Try.underlying99 ((hW.kept hB).cell 10 (by decide))) rfl
         ·intro _ _ a w2 hB hF hd
          rw [if_pos (wanted_none rfl)]
          exact flow_move _ (.inl rfl) (by simp) (hF.same 13 rfl)
         ·intro _ _ a w2 hB hF hd
          rw [if_pos (wanted_none rfl)]
          exact flow_val (fun h=> by cases h) (run_index_addr rfl (hF.same 8 rfl) (hd 13 _ rfl rfl (waits_spec rfl)) Try.underlying122 (by kernel_rfl) (by decide) (by decide)) rfl
         ·intro _ _ a w2 hB hF hd
          rw [if_pos (wanted_none rfl)]
          exact flow_val (fun h=> by cases h) (run_load_cell rfl (hd 14 _ rfl rfl (waits_spec rfl)) Try.underlying99 ((hW.kept hB).cell 15 (by decide))) rfl
         ·intro _ _ a w2 hB hF hd
          rw [if_pos (wanted_none rfl)]
          refine flow_call _ _ _ rfl Try.call77 _ (args4 (hd 6 _ rfl rfl (waits_spec rfl)) (hd 9 _ rfl rfl (waits_spec rfl)) (hd 12 _ rfl rfl (waits_spec rfl)) (hd 15 _ rfl rfl (waits_spec rfl))) (by simp) ((QuarterB_any (drK (rds S r) (4 * 1+0) 0) (drK (rds S r) (4 * 1+0) 5) (drK (rds S r) (4 * 1+0) 10) (drK (rds S r) (4 * 1+0) 15) B0 B5 B10 B15 w2).mono ?_)
          rintro e w3 ⟨rfl,hb⟩;exact ⟨_,rfl,rfl,hb⟩
         ·intro _ _ a w2 hB hF hd
          rw [if_pos (wanted_none rfl)]
          exact flow_move _ (.inl rfl) (by simp) (hd 16 _ rfl rfl (waits_spec rfl))
         ·intro _ _ a w2 hB hF hd
          rw [if_pos (wanted_none rfl)]
          exact flow_val (fun h=> by cases h) (run_extract rfl (hd 17 _ rfl rfl (waits_spec rfl)) rfl) rfl
         ·intro _ _ a w2 hB hF hd
          rw [if_pos (wanted_none rfl)]
          exact flow_val (fun h=> by cases h) (run_index_addr rfl (hF.same 8 rfl) (hd 0 _ rfl rfl (waits_spec rfl)) Try.underlying122 (by kernel_rfl) (by decide) (by decide)) rfl
        ·refine Each.all ?_
         refine ⟨(fun _ h=> absurd h (by decide)),?_,?_,?_,(fun _ h=> absurd h (by decide)),(fun _ h=> absurd h (by decide)),(fun _ h=> absurd h (by decide)),(fun _ h=> absurd h (by decide)),(fun _ h=> absurd h (by decide)),(fun _ h=> absurd h (by decide)),(fun _ h=> absurd h (by decide)),(fun _ h=> absurd h (by decide)),(fun _ h=> absurd h (by decide)),(fun _ h=> absurd h (by decide)),(fun _ h=> absurd h (by decide)),(fun _ h=> absurd h (by decide)),(fun _ h=> absurd h (by decide)),(fun _ h=> absurd h (by decide)),(fun _ h=> absurd h (by decide)),?_,?_,?_,(fun _ h=> absurd h (by decide)),(fun h=> absurd h (by decide)),?_,(fun h=> absurd h (by decide)),?_,(fun h=> absurd h (by decide)),?_,(fun h=> absurd h (by decide)),trivial⟩
         ·intro _ _ a w1 w2 hB hF hd
          rw [if_pos (wanted_none rfl)]
          exact pure_move _ (.inl rfl) (by simp) (hF.same 11 rfl)
         ·intro _ _ a w1 w2 hB hF hd
          rw [if_pos (wanted_none rfl)]
          exact pure_move _ (.inl rfl) (by simp) (hF.same 12 rfl)
         ·intro _ _ a w1 w2 hB hF hd
          rw [if_pos (wanted_none rfl)]
          exact pure_move _ (.inl rfl) (by simp) (hF.same 13 rfl)
         ·intro _ _ a w1 w2 hB hF hd
          rw [if_pos (wanted_none rfl)]
          exact pure_val (fun h=> by cases h) (run_extract rfl (hd 17 _ rfl rfl (waits_spec rfl)) rfl) rfl
         ·intro _ _ a w1 w2 hB hF hd
          rw [if_pos (wanted_none rfl)]
          exact pure_val (fun h=> by cases h) (run_extract rfl (hd 17 _ rfl rfl (waits_spec rfl)) rfl) rfl
         ·intro _ _ a w1 w2 hB hF hd
          rw [if_pos (wanted_none rfl)]
          exact pure_val (fun h=> by cases h) (run_extract rfl (hd 17 _ rfl rfl (waits_spec rfl)) rfl) rfl
         ·intro _ _ a w1 w2 hB hF hd
          rw [if_pos (wanted_none rfl)]
          exact pure_val (fun h=> by cases h) (run_index_addr rfl (hF.same 8 rfl) (hd 1 _ rfl rfl (waits_spec rfl)) Try.underlying122 (by kernel_rfl) (by decide) (by decide)) rfl
         ·intro _ _ a w1 w2 hB hF hd
          rw [if_pos (wanted_none rfl)]
          exact pure_val (fun h=> by cases h) (run_index_addr rfl (hF.same 8 rfl) (hd 2 _ rfl rfl (waits_spec rfl)) Try.underlying122 (by kernel_rfl) (by decide) (by decide)) rfl
         ·intro _ _ a w1 w2 hB hF hd
          rw [if_pos (wanted_none rfl)]
          exact pure_val (fun h=> by cases h) (run_index_addr rfl (hF.same 8 rfl) (hd 3 _ rfl rfl (waits_spec rfl)) Try.underlying122 (by kernel_rfl) (by decide) (by decide)) rfl
        ·intro q o hq ho
         rcases (by simp at hq;omega:q=0∨q=1∨q=2∨q=3) with rfl | rfl | rfl | rfl
         ·obtain rfl:=Option.some.inj ho
          intro a w2 K hB hF hd hK
          exact wp_store_cell 99 _ _ rfl rfl (A+1) (0) 16 _ (qA (drK (rds S r) (4 * 1+0) 0) (drK (rds S r) (4 * 1+0) 5) (drK (rds S r) (4 * 1+0) 10) (drK (rds S r) (4 * 1+0) 15)) Try.size99 (hd 22 _ rfl rfl (waits_spec rfl)) (hd 18 _ rfl rfl (waits_spec rfl)) (hW.kept hB) (by first | decide | omega) hK
         ·obtain rfl:=Option.some.inj ho
          intro a w2 K hB hF hd hK
          exact wp_store_cell 99 _ _ rfl rfl (A+1) (5) 16 _ (qB (drK (rds S r) (4 * 1+0) 0) (drK (rds S r) (4 * 1+0) 5) (drK (rds S r) (4 * 1+0) 10) (drK (rds S r) (4 * 1+0) 15)) Try.size99 (hd 24 _ rfl rfl (waits_spec rfl)) (hd 19 _ rfl rfl (waits_spec rfl)) ((hW.kept hB).set (0) (qA (drK (rds S r) (4 * 1+0) 0) (drK (rds S r) (4 * 1+0) 5) (drK (rds S r) (4 * 1+0) 10) (drK (rds S r) (4 * 1+0) 15))) (by first | decide | omega) hK
         ·obtain rfl:=Option.some.inj ho
          intro a w2 K hB hF hd hK
          exact wp_store_cell 99 _ _ rfl rfl (A+1) (10) 16 _ (qC (drK (rds S r) (4 * 1+0) 0) (drK (rds S r) (4 * 1+0) 5) (drK (rds S r) (4 * 1+0) 10) (drK (rds S r) (4 * 1+0) 15)) Try.size99 (hd 26 _ rfl rfl (waits_spec rfl)) (hd 20 _ rfl rfl (waits_spec rfl)) (((hW.kept hB).set (0) (qA (drK (rds S r) (4 * 1+0) 0) (drK (rds S r) (4 * 1+0) 5) (drK (rds S r) (4 * 1+0) 10) (drK (rds S r) (4 * 1+0) 15))).set (5) (qB (drK (rds S r) (4 * 1+0) 0) (drK (rds S r) (4 * 1+0) 5) (drK (rds S r) (4 * 1+0) 10) (drK (rds S r) (4 * 1+0) 15))) (by first | decide | omega) hK
         ·obtain rfl:=Option.some.inj ho
          intro a w2 K hB hF hd hK
          exact wp_store_cell 99 _ _ rfl rfl (A+1) (15) 16 _ (qD (drK (rds S r) (4 * 1+0) 0) (drK (rds S r) (4 * 1+0) 5) (drK (rds S r) (4 * 1+0) 10) (drK (rds S r) (4 * 1+0) 15)) Try.size99 (hd 28 _ rfl rfl (waits_spec rfl)) (hd 21 _ rfl rfl (waits_spec rfl)) ((((hW.kept hB).set (0) (qA (drK (rds S r) (4 * 1+0) 0) (drK (rds S r) (4 * 1+0) 5) (drK (rds S r) (4 * 1+0) 10) (drK (rds S r) (4 * 1+0) 15))).set (5) (qB (drK (rds S r) (4 * 1+0) 0) (drK (rds S r) (4 * 1+0) 5) (drK (rds S r) (4 * 1+0) 10) (drK (rds S r) (4 * 1+0) 15))).set (10) (qC (drK (rds S r) (4 * 1+0) 0) (drK (rds S r) (4 * 1+0) 5) (drK (rds S r) (4 * 1+0) 10) (drK (rds S r) (4 * 1+0) 15))) (by first | decide | omega) hK
        ·intro a w4 hB hF hS
         have ha:=puts_each rfl rfl hF [_,_,_,_,_,_,_,_,_,_,_,_,_,_,_,_,_,_,_,_,_,_,_,undef,_,undef,_,undef,_,undef] rfl ⟨hS 0 _ rfl rfl,hS 1 _ rfl rfl,hS 2 _ rfl rfl,hS 3 _ rfl rfl,hS 4 _ rfl rfl,hS 5 _ rfl rfl,hS 6 _ rfl rfl,hS 7 _ rfl rfl,hS 8 _ rfl rfl,hS 9 _ rfl rfl,hS 10 _ rfl rfl,hS 11 _ rfl rfl,hS 12 _ rfl rfl,hS 13 _ rfl rfl,hS 14 _ rfl rfl,hS 15 _ rfl rfl,hS 16 _ rfl rfl,hS 17 _ rfl rfl,hS 18 _ rfl rfl,hS 19 _ rfl rfl,hS 20 _ rfl rfl,hS 21 _ rfl rfl,hS 22 _ rfl rfl,trivial,hS 24 _ rfl rfl,trivial,hS 26 _ rfl rfl,trivial,hS 28 _ rfl rfl,trivial,trivial⟩
         simp only [puts,Act.put,List.setIfInBounds_toArray,List.set_cons_succ,List.set_cons_zero] at ha
         subst ha
         have VA:=(((((hW.kept hB).set (0) (qA (drK (rds S r) (4 * 1+0) 0) (drK (rds S r) (4 * 1+0) 5) (drK (rds S r) (4 * 1+0) 10) (drK (rds S r) (4 * 1+0) 15))).set (5) (qB (drK (rds S r) (4 * 1+0) 0) (drK (rds S r) (4 * 1+0) 5) (drK (rds S r) (4 * 1+0) 10) (drK (rds S r) (4 * 1+0) 15))).set (10) (qC (drK (rds S r) (4 * 1+0) 0) (drK (rds S r) (4 * 1+0) 5) (drK (rds S r) (4 * 1+0) 10) (drK (rds S r) (4 * 1+0) 15))).set (15) (qD (drK (rds S r) (4 * 1+0) 0) (drK (rds S r) (4 * 1+0) 5) (drK (rds S r) (4 * 1+0) 10) (drK (rds S r) (4 * 1+0) 15)))
         clear hS hF
         have hZ4:=(((((HZ.out.kept hB).other (p:=⟨A+1,0,none⟩) (by simp;omega) (.int .u32 (qA (drK (rds S r) (4 * 1+0) 0) (drK (rds S r) (4 * 1+0) 5) (drK (rds S r) (4 * 1+0) 10) (drK (rds S r) (4 * 1+0) 15)))).other (p:=⟨A+1,5,none⟩) (by simp;omega) (.int .u32 (qB (drK (rds S r) (4 * 1+0) 0) (drK (rds S r) (4 * 1+0) 5) (drK (rds S r) (4 * 1+0) 10) (drK (rds S r) (4 * 1+0) 15)))).other (p:=⟨A+1,10,none⟩) (by simp;omega) (.int .u32 (qC (drK (rds S r) (4 * 1+0) 0) (drK (rds S r) (4 * 1+0) 5) (drK (rds S r) (4 * 1+0) 10) (drK (rds S r) (4 * 1+0) 15)))).other (p:=⟨A+1,15,none⟩) (by simp;omega) (.int .u32 (qD (drK (rds S r) (4 * 1+0) 0) (drK (rds S r) (4 * 1+0) 5) (drK (rds S r) (4 * 1+0) 10) (drK (rds S r) (4 * 1+0) 15))))
         have hA4:=(((((HA.out.kept hB).other (p:=⟨A+1,0,none⟩) (by simp) (.int .u32 (qA (drK (rds S r) (4 * 1+0) 0) (drK (rds S r) (4 * 1+0) 5) (drK (rds S r) (4 * 1+0) 10) (drK (rds S r) (4 * 1+0) 15)))).other (p:=⟨A+1,5,none⟩) (by simp) (.int .u32 (qB (drK (rds S r) (4 * 1+0) 0) (drK (rds S r) (4 * 1+0) 5) (drK (rds S r) (4 * 1+0) 10) (drK (rds S r) (4 * 1+0) 15)))).other (p:=⟨A+1,10,none⟩) (by simp) (.int .u32 (qC (drK (rds S r) (4 * 1+0) 0) (drK (rds S r) (4 * 1+0) 5) (drK (rds S r) (4 * 1+0) 10) (drK (rds S r) (4 * 1+0) 15)))).other (p:=⟨A+1,15,none⟩) (by simp) (.int .u32 (qD (drK (rds S r) (4 * 1+0) 0) (drK (rds S r) (4 * 1+0) 5) (drK (rds S r) (4 * 1+0) 10) (drK (rds S r) (4 * 1+0) 15))))
         have hb4:=(((((HB.out.trans (hB.mono HB.out.size)).setCell (p:=⟨A+1,0,none⟩) (by simp;omega) (.int .u32 (qA (drK (rds S r) (4 * 1+0) 0) (drK (rds S r) (4 * 1+0) 5) (drK (rds S r) (4 * 1+0) 10) (drK (rds S r) (4 * 1+0) 15)))).setCell (p:=⟨A+1,5,none⟩) (by simp;omega) (.int .u32 (qB (drK (rds S r) (4 * 1+0) 0) (drK (rds S r) (4 * 1+0) 5) (drK (rds S r) (4 * 1+0) 10) (drK (rds S r) (4 * 1+0) 15)))).setCell (p:=⟨A+1,10,none⟩) (by simp;omega) (.int .u32 (qC (drK (rds S r) (4 * 1+0) 0) (drK (rds S r) (4 * 1+0) 5) (drK (rds S r) (4 * 1+0) 10) (drK (rds S r) (4 * 1+0) 15)))).setCell (p:=⟨A+1,15,none⟩) (by simp;omega) (.int .u32 (qD (drK (rds S r) (4 * 1+0) 0) (drK (rds S r) (4 * 1+0) 5) (drK (rds S r) (4 * 1+0) 10) (drK (rds S r) (4 * 1+0) 15))))
         have hW4:=VA.congr (g:=drK (rds S r) (4 * 1+(0+1))) (fun i _=> upd4_qrF (drK (rds S r) (4 * 1+0)) 0 5 10 15 (by decide) i)
         clear VA hW hB
         go_upto_region 13 with (fail)
         refine wp_world (fun w5=> Arr .u8 w5 (w.heap.size+2) 64 (fun _=> 0)∧Arr .u32 w5 A 16 S∧Arr .u32 w5 (A+1) 16 (drK (rds S r) (4 * 1+(0+1)))∧Below w.heap.size w w5) ⟨hZ4,hA4,hW4,hb4⟩ ?_
         rintro w5 ⟨hZ5,hA5,hW5,hb5⟩
         clear hZ4 hA4 hW4 hb4 HZ HA HW HB
         go_wp2
         go_roundw
         case rel=> exact ⟨0+1,by decide,rfl,hZ5,hA5,hW5,hb5⟩
         case measure=> simp [intOf]
       ·go_upto_region 12 with (fail)
        have hW:=HW.out
        have B1:=HDB.out r (4 * 0+1) 1 (by decide)
        have B5:=HDB.out r (4 * 0+1) 5 (by decide)
        have B9:=HDB.out r (4 * 0+1) 9 (by decide)
        have B13:=HDB.out r (4 * 0+1) 13 (by decide)
        refine region_chain (n:=90) [23,25,27,29] (fun i=> [1,2,3,19,20,21,24,26,28].contains i) (by kernel_rfl) (by kernel_rfl) (by kernel_rfl) (by kernel_rfl) rfl
         (fun ii vv _=> (match ii with | 0 | 4=> vv=.int .i64 (1) | 1 | 7=> vv=.int .i64 (5) | 2 | 10=> vv=.int .i64 (9) | 3 | 13=> vv=.int .i64 (13) | 5 | 22=> vv=.pointer (some ⟨A+1,1,none⟩) | 6=> vv=.int .u32 (drK (rds S r) (4 * 0+1) 1) | 8 | 24=> vv=.pointer (some ⟨A+1,5,none⟩) | 9=> vv=.int .u32 (drK (rds S r) (4 * 0+1) 5) | 11 | 26=> vv=.pointer (some ⟨A+1,9,none⟩) | 12=> vv=.int .u32 (drK (rds S r) (4 * 0+1) 9) | 14 | 28=> vv=.pointer (some ⟨A+1,13,none⟩) | 15=> vv=.int .u32 (drK (rds S r) (4 * 0+1) 13) | 16 | 17=> vv=.tuple #[.int .u32 (qA (drK (rds S r) (4 * 0+1) 1) (drK (rds S r) (4 * 0+1) 5) (drK (rds S r) (4 * 0+1) 9) (drK (rds S r) (4 * 0+1) 13)),.int .u32 (qB (drK (rds S r) (4 * 0+1) 1) (drK (rds S r) (4 * 0+1) 5) (drK (rds S r) (4 * 0+1) 9) (drK (rds S r) (4 * 0+1) 13)),.int .u32 (qC (drK (rds S r) (4 * 0+1) 1) (drK (rds S r) (4 * 0+1) 5) (drK (rds S r) (4 * 0+1) 9) (drK (rds S r) (4 * 0+1) 13)),.int .u32 (qD (drK (rds S r) (4 * 0+1) 1) (drK (rds S r) (4 * 0+1) 5) (drK (rds S r) (4 * 0+1) 9) (drK (rds S r) (4 * 0+1) 13))] | 18=> vv=.int .u32 (qA (drK (rds S r) (4 * 0+1) 1) (drK (rds S r) (4 * 0+1) 5) (drK (rds S r) (4 * 0+1) 9) (drK (rds S r) (4 * 0+1) 13)) | 19=> vv=.int .u32 (qB (drK (rds S r) (4 * 0+1) 1) (drK (rds S r) (4 * 0+1) 5) (drK (rds S r) (4 * 0+1) 9) (drK (rds S r) (4 * 0+1) 13)) | 20=> vv=.int .u32 (qC (drK (rds S r) (4 * 0+1) 1) (drK (rds S r) (4 * 0+1) 5) (drK (rds S r) (4 * 0+1) 9) (drK (rds S r) (4 * 0+1) 13)) | 21=> vv=.int .u32 (qD (drK (rds S r) (4 * 0+1) 1) (drK (rds S r) (4 * 0+1) 5) (drK (rds S r) (4 * 0+1) 9) (drK (rds S r) (4 * 0+1) 13)) | _=> True))
         (fun _ _ _ _ h _=> h)
         (fun m ww=> match m with | 0=> ww | 1=> (ww.setCell ⟨A+1,1,none⟩ (.int .u32 (qA (drK (rds S r) (4 * 0+1) 1) (drK (rds S r) (4 * 0+1) 5) (drK (rds S r) (4 * 0+1) 9) (drK (rds S r) (4 * 0+1) 13)))) | 2=> ((ww.setCell ⟨A+1,1,none⟩ (.int .u32 (qA (drK (rds S r) (4 * 0+1) 1) (drK (rds S r) (4 * 0+1) 5) (drK (rds S r) (4 * 0+1) 9) (drK (rds S r) (4 * 0+1) 13)))).setCell ⟨A+1,5,none⟩ (.int .u32 (qB (drK (rds S r) (4 * 0+1) 1) (drK (rds S r) (4 * 0+1) 5) (drK (rds S r) (4 * 0+1) 9) (drK (rds S r) (4 * 0+1) 13)))) | 3=> (((ww.setCell ⟨A+1,1,none⟩ (.int .u32 (qA (drK (rds S r) (4 * 0+1) 1) (drK (rds S r) (4 * 0+1) 5) (drK (rds S r) (4 * 0+1) 9) (drK (rds S r) (4 * 0+1) 13)))).setCell ⟨A+1,5,none⟩ (.int .u32 (qB (drK (rds S r) (4 * 0+1) 1) (drK (rds S r) (4 * 0+1) 5) (drK (rds S r) (4 * 0+1) 9) (drK (rds S r) (4 * 0+1) 13)))).setCell ⟨A+1,9,none⟩ (.int .u32 (qC (drK (rds S r) (4 * 0+1) 1) (drK (rds S r) (4 * 0+1) 5) (drK (rds S r) (4 * 0+1) 9) (drK (rds S r) (4 * 0+1) 13)))) | _=> ((((ww.setCell ⟨A+1,1,none⟩ (.int .u32 (qA (drK (rds S r) (4 * 0+1) 1) (drK (rds S r) (4 * 0+1) 5) (drK (rds S r) (4 * 0+1) 9) (drK (rds S r) (4 * 0+1) 13)))).setCell ⟨A+1,5,none⟩ (.int .u32 (qB (drK (rds S r) (4 * 0+1) 1) (drK (rds S r) (4 * 0+1) 5) (drK (rds S r) (4 * 0+1) 9) (drK (rds S r) (4 * 0+1) 13)))).setCell ⟨A+1,9,none⟩ (.int .u32 (qC (drK (rds S r) (4 * 0+1) 1) (drK (rds S r) (4 * 0+1) 5) (drK (rds S r) (4 * 0+1) 9) (drK (rds S r) (4 * 0+1) 13)))).setCell ⟨A+1,13,none⟩ (.int .u32 (qD (drK (rds S r) (4 * 0+1) 1) (drK (rds S r) (4 * 0+1) 5) (drK (rds S r) (4 * 0+1) 9) (drK (rds S r) (4 * 0+1) 13))))) (fun _=> rfl) ?_ ?_ ?_ ?_
        ·refine Each.all ?_
         refine ⟨?_,(fun _ h=> absurd h (by decide)),(fun _ h=> absurd h (by decide)),(fun _ h=> absurd h (by decide)),?_,?_,?_,?_,?_,?_,?_,?_,?_,?_,?_,?_,?_,?_,?_,(fun _ h=> absurd h (by decide)),(fun _ h=> absurd h (by decide)),(fun _ h=> absurd h (by decide)),?_,(fun h=> absurd h (by decide)),(fun _ h=> absurd h (by decide)),(fun h=> absurd h (by decide)),(fun _ h=> absurd h (by decide)),(fun h=> absurd h (by decide)),(fun _ h=> absurd h (by decide)),(fun h=> absurd h (by decide)),trivial⟩
         ·intro _ _ a w2 hB hF hd
          rw [if_pos (wanted_none rfl)]
          exact flow_move _ (.inl rfl) (by simp) (hF.same 10 rfl)
         ·intro _ _ a w2 hB hF hd
          rw [if_pos (wanted_none rfl)]
          exact flow_move _ (.inl rfl) (by simp) (hF.same 10 rfl)
         ·intro _ _ a w2 hB hF hd
          rw [if_pos (wanted_none rfl)]
          exact flow_val (fun h=> by cases h) (run_index_addr rfl (hF.same 8 rfl) (hd 4 _ rfl rfl (waits_spec rfl)) Try.underlying122 (by kernel_rfl) (by decide) (by decide)) rfl
         ·intro _ _ a w2 hB hF hd
          rw [if_pos (wanted_none rfl)]
          exact flow_val (fun h=> by cases h) (run_load_cell rfl (hd 5 _ rfl rfl (waits_spec rfl)) Try.underlying99 ((hW.kept hB).cell 1 (by decide))) rfl
         ·intro _ _ a w2 hB hF hd
          rw [if_pos (wanted_none rfl)]
          exact flow_move _ (.inl rfl) (by simp) (hF.same 11 rfl)
         ·intro _ _ a w2 hB hF hd
          rw [if_pos (wanted_none rfl)]
          exact flow_val (fun h=> by cases h) (run_index_addr rfl (hF.same 8 rfl) (hd 7 _ rfl rfl (waits_spec rfl)) Try.underlying122 (by kernel_rfl) (by decide) (by decide)) rfl
         ·intro _ _ a w2 hB hF hd
          rw [if_pos (wanted_none rfl)]
          exact flow_val (fun h=> by cases h) (run_load_cell rfl (hd 8 _ rfl rfl (waits_spec rfl)) Try.underlying99 ((hW.kept hB).cell 5 (by decide))) rfl
         ·intro _ _ a w2 hB hF hd
          rw [if_pos (wanted_none rfl)]
          exact flow_move _ (.inl rfl) (by simp) (hF.same 12 rfl)
         ·intro _ _ a w2 hB hF hd
          rw [if_pos (wanted_none rfl)]
          exact flow_val (fun h=> by cases h) (run_index_addr rfl (hF.same 8 rfl) (hd 10 _ rfl rfl (waits_spec rfl)) Try.underlying122 (by kernel_rfl) (by decide) (by decide)) rfl
         ·intro _ _ a w2 hB hF hd
          rw [if_pos (wanted_none rfl)]
          exact flow_val (fun h=> by cases h) (run_load_cell rfl (hd 11 _ rfl rfl (waits_spec rfl)) Try.underlying99 ((hW.kept hB).cell 9 (by decide))) rfl
         ·intro _ _ a w2 hB hF hd
          rw [if_pos (wanted_none rfl)]
          exact flow_move _ (.inl rfl) (by simp) (hF.same 13 rfl)
         ·intro _ _ a w2 hB hF hd
          rw [if_pos (wanted_none rfl)]
          exact flow_val (fun h=> by cases h) (run_index_addr rfl (hF.same 8 rfl) (hd 13 _ rfl rfl (waits_spec rfl)) Try.underlying122 (by kernel_rfl) (by decide) (by decide)) rfl
         ·intro _ _ a w2 hB hF hd
          rw [if_pos (wanted_none rfl)]
          exact flow_val (fun h=> by cases h) (run_load_cell rfl (hd 14 _ rfl rfl (waits_spec rfl)) Try.underlying99 ((hW.kept hB).cell 13 (by decide))) rfl
         ·intro _ _ a w2 hB hF hd
          rw [if_pos (wanted_none rfl)]
          refine flow_call _ _ _ rfl Try.call77 _ (args4 (hd 6 _ rfl rfl (waits_spec rfl)) (hd 9 _ rfl rfl (waits_spec rfl)) (hd 12 _ rfl rfl (waits_spec rfl)) (hd 15 _ rfl rfl (waits_spec rfl))) (by simp) ((QuarterB_any (drK (rds S r) (4 * 0+1) 1) (drK (rds S r) (4 * 0+1) 5) (drK (rds S r) (4 * 0+1) 9) (drK (rds S r) (4 * 0+1) 13) B1 B5 B9 B13 w2).mono ?_)
          rintro e w3 ⟨rfl,hb⟩;exact ⟨_,rfl,rfl,hb⟩
         ·intro _ _ a w2 hB hF hd
          rw [if_pos (wanted_none rfl)]
          exact flow_move _ (.inl rfl) (by simp) (hd 16 _ rfl rfl (waits_spec rfl))
         ·intro _ _ a w2 hB hF hd
          rw [if_pos (wanted_none rfl)]
          exact flow_val (fun h=> by cases h) (run_extract rfl (hd 17 _ rfl rfl (waits_spec rfl)) rfl) rfl
         ·intro _ _ a w2 hB hF hd
          rw [if_pos (wanted_none rfl)]
          exact flow_val (fun h=> by cases h) (run_index_addr rfl (hF.same 8 rfl) (hd 0 _ rfl rfl (waits_spec rfl)) Try.underlying122 (by kernel_rfl) (by decide) (by decide)) rfl
        ·refine Each.all ?_
         refine ⟨(fun _ h=> absurd h (by decide)),?_,?_,?_,(fun _ h=> absurd h (by decide)),(fun _ h=> absurd h (by decide)),(fun _ h=> absurd h (by decide)),(fun _ h=> absurd h (by decide)),(fun _ h=> absurd h (by decide)),(fun _ h=> absurd h (by decide)),(fun _ h=> absurd h (by decide)),(fun _ h=> absurd h (by decide)),(fun _ h=> absurd h (by decide)),(fun _ h=> absurd h (by decide)),(fun _ h=> absurd h (by decide)),(fun _ h=> absurd h (by decide)),(fun _ h=> absurd h (by decide)),(fun _ h=> absurd h (by decide)),(fun _ h=> absurd h (by decide)),?_,?_,?_,(fun _ h=> absurd h (by decide)),(fun h=> absurd h (by decide)),?_,(fun h=> absurd h (by decide)),?_,(fun h=> absurd h (by decide)),?_,(fun h=> absurd h (by decide)),trivial⟩
         ·intro _ _ a w1 w2 hB hF hd
          rw [if_pos (wanted_none rfl)]
          exact pure_move _ (.inl rfl) (by simp) (hF.same 11 rfl)
         ·intro _ _ a w1 w2 hB hF hd
          rw [if_pos (wanted_none rfl)]
          exact pure_move _ (.inl rfl) (by simp) (hF.same 12 rfl)
         ·intro _ _ a w1 w2 hB hF hd
          rw [if_pos (wanted_none rfl)]
          exact pure_move _ (.inl rfl) (by simp) (hF.same 13 rfl)
         ·intro _ _ a w1 w2 hB hF hd
          rw [if_pos (wanted_none rfl)]
          exact pure_val (fun h=> by cases h) (run_extract rfl (hd 17 _ rfl rfl (waits_spec rfl)) rfl) rfl
         ·intro _ _ a w1 w2 hB hF hd
          rw [if_pos (wanted_none rfl)]
          exact pure_val (fun h=> by cases h) (run_extract rfl (hd 17 _ rfl rfl (waits_spec rfl)) rfl) rfl
         ·intro _ _ a w1 w2 hB hF hd
          rw [if_pos (wanted_none rfl)]
          exact pure_val (fun h=> by cases h) (run_extract rfl (hd 17 _ rfl rfl (waits_spec rfl)) rfl) rfl
         ·intro _ _ a w1 w2 hB hF hd
          rw [if_pos (wanted_none rfl)]
          exact pure_val (fun h=> by cases h) (run_index_addr rfl (hF.same 8 rfl) (hd 1 _ rfl rfl (waits_spec rfl)) Try.underlying122 (by kernel_rfl) (by decide) (by decide)) rfl
         ·intro _ _ a w1 w2 hB hF hd
          rw [if_pos (wanted_none rfl)]
          exact pure_val (fun h=> by cases h) (run_index_addr rfl (hF.same 8 rfl) (hd 2 _ rfl rfl (waits_spec rfl)) Try.underlying122 (by kernel_rfl) (by decide) (by decide)) rfl
         ·intro _ _ a w1 w2 hB hF hd
          rw [if_pos (wanted_none rfl)]
          exact pure_val (fun h=> by cases h) (run_index_addr rfl (hF.same 8 rfl) (hd 3 _ rfl rfl (waits_spec rfl)) Try.underlying122 (by kernel_rfl) (by decide) (by decide)) rfl
        ·intro q o hq ho
         rcases (by simp at hq;omega:q=0∨q=1∨q=2∨q=3) with rfl | rfl | rfl | rfl
         ·obtain rfl:=Option.some.inj ho
          intro a w2 K hB hF hd hK
          exact wp_store_cell 99 _ _ rfl rfl (A+1) (1) 16 _ (qA (drK (rds S r) (4 * 0+1) 1) (drK (rds S r) (4 * 0+1) 5) (drK (rds S r) (4 * 0+1) 9) (drK (rds S r) (4 * 0+1) 13)) Try.size99 (hd 22 _ rfl rfl (waits_spec rfl)) (hd 18 _ rfl rfl (waits_spec rfl)) (hW.kept hB) (by first | decide | omega) hK
         ·obtain rfl:=Option.some.inj ho
          intro a w2 K hB hF hd hK
          exact wp_store_cell 99 _ _ rfl rfl (A+1) (5) 16 _ (qB (drK (rds S r) (4 * 0+1) 1) (drK (rds S r) (4 * 0+1) 5) (drK (rds S r) (4 * 0+1) 9) (drK (rds S r) (4 * 0+1) 13)) Try.size99 (hd 24 _ rfl rfl (waits_spec rfl)) (hd 19 _ rfl rfl (waits_spec rfl)) ((hW.kept hB).set (1) (qA (drK (rds S r) (4 * 0+1) 1) (drK (rds S r) (4 * 0+1) 5) (drK (rds S r) (4 * 0+1) 9) (drK (rds S r) (4 * 0+1) 13))) (by first | decide | omega) hK
         ·obtain rfl:=Option.some.inj ho
          intro a w2 K hB hF hd hK
          exact wp_store_cell 99 _ _ rfl rfl (A+1) (9) 16 _ (qC (drK (rds S r) (4 * 0+1) 1) (drK (rds S r) (4 * 0+1) 5) (drK (rds S r) (4 * 0+1) 9) (drK (rds S r) (4 * 0+1) 13)) Try.size99 (hd 26 _ rfl rfl (waits_spec rfl)) (hd 20 _ rfl rfl (waits_spec rfl)) (((hW.kept hB).set (1) (qA (drK (rds S r) (4 * 0+1) 1) (drK (rds S r) (4 * 0+1) 5) (drK (rds S r) (4 * 0+1) 9) (drK (rds S r) (4 * 0+1) 13))).set (5) (qB (drK (rds S r) (4 * 0+1) 1) (drK (rds S r) (4 * 0+1) 5) (drK (rds S r) (4 * 0+1) 9) (drK (rds S r) (4 * 0+1) 13))) (by first | decide | omega) hK
         ·obtain rfl:=Option.some.inj ho
          intro a w2 K hB hF hd hK
          exact wp_store_cell 99 _ _ rfl rfl (A+1) (13) 16 _ (qD (drK (rds S r) (4 * 0+1) 1) (drK (rds S r) (4 * 0+1) 5) (drK (rds S r) (4 * 0+1) 9) (drK (rds S r) (4 * 0+1) 13)) Try.size99 (hd 28 _ rfl rfl (waits_spec rfl)) (hd 21 _ rfl rfl (waits_spec rfl)) ((((hW.kept hB).set (1) (qA (drK (rds S r) (4 * 0+1) 1) (drK (rds S r) (4 * 0+1) 5) (drK (rds S r) (4 * 0+1) 9) (drK (rds S r) (4 * 0+1) 13))).set (5) (qB (drK (rds S r) (4 * 0+1) 1) (drK (rds S r) (4 * 0+1) 5) (drK (rds S r) (4 * 0+1) 9) (drK (rds S r) (4 * 0+1) 13))).set (9) (qC (drK (rds S r) (4 * 0+1) 1) (drK (rds S r) (4 * 0+1) 5) (drK (rds S r) (4 * 0+1) 9) (drK (rds S r) (4 * 0+1) 13))) (by first | decide | omega) hK
        ·intro a w4 hB hF hS
         have ha:=puts_each rfl rfl hF [_,_,_,_,_,_,_,_,_,_,_,_,_,_,_,_,_,_,_,_,_,_,_,undef,_,undef,_,undef,_,undef] rfl ⟨hS 0 _ rfl rfl,hS 1 _ rfl rfl,hS 2 _ rfl rfl,hS 3 _ rfl rfl,hS 4 _ rfl rfl,hS 5 _ rfl rfl,hS 6 _ rfl rfl,hS 7 _ rfl rfl,hS 8 _ rfl rfl,hS 9 _ rfl rfl,hS 10 _ rfl rfl,hS 11 _ rfl rfl,hS 12 _ rfl rfl,hS 13 _ rfl rfl,hS 14 _ rfl rfl,hS 15 _ rfl rfl,hS 16 _ rfl rfl,hS 17 _ rfl rfl,hS 18 _ rfl rfl,hS 19 _ rfl rfl,hS 20 _ rfl rfl,hS 21 _ rfl rfl,hS 22 _ rfl rfl,trivial,hS 24 _ rfl rfl,trivial,hS 26 _ rfl rfl,trivial,hS 28 _ rfl rfl,trivial,trivial⟩
         simp only [puts,Act.put,List.setIfInBounds_toArray,List.set_cons_succ,List.set_cons_zero] at ha
         subst ha
         have VA:=(((((hW.kept hB).set (1) (qA (drK (rds S r) (4 * 0+1) 1) (drK (rds S r) (4 * 0+1) 5) (drK (rds S r) (4 * 0+1) 9) (drK (rds S r) (4 * 0+1) 13))).set (5) (qB (drK (rds S r) (4 * 0+1) 1) (drK (rds S r) (4 * 0+1) 5) (drK (rds S r) (4 * 0+1) 9) (drK (rds S r) (4 * 0+1) 13))).set (9) (qC (drK (rds S r) (4 * 0+1) 1) (drK (rds S r) (4 * 0+1) 5) (drK (rds S r) (4 * 0+1) 9) (drK (rds S r) (4 * 0+1) 13))).set (13) (qD (drK (rds S r) (4 * 0+1) 1) (drK (rds S r) (4 * 0+1) 5) (drK (rds S r) (4 * 0+1) 9) (drK (rds S r) (4 * 0+1) 13)))
         clear hS hF
         have hZ4:=(((((HZ.out.kept hB).other (p:=⟨A+1,1,none⟩) (by simp;omega) (.int .u32 (qA (drK (rds S r) (4 * 0+1) 1) (drK (rds S r) (4 * 0+1) 5) (drK (rds S r) (4 * 0+1) 9) (drK (rds S r) (4 * 0+1) 13)))).other (p:=⟨A+1,5,none⟩) (by simp;omega) (.int .u32 (qB (drK (rds S r) (4 * 0+1) 1) (drK (rds S r) (4 * 0+1) 5) (drK (rds S r) (4 * 0+1) 9) (drK (rds S r) (4 * 0+1) 13)))).other (p:=⟨A+1,9,none⟩) (by simp;omega) (.int .u32 (qC (drK (rds S r) (4 * 0+1) 1) (drK (rds S r) (4 * 0+1) 5) (drK (rds S r) (4 * 0+1) 9) (drK (rds S r) (4 * 0+1) 13)))).other (p:=⟨A+1,13,none⟩) (by simp;omega) (.int .u32 (qD (drK (rds S r) (4 * 0+1) 1) (drK (rds S r) (4 * 0+1) 5) (drK (rds S r) (4 * 0+1) 9) (drK (rds S r) (4 * 0+1) 13))))
         have hA4:=(((((HA.out.kept hB).other (p:=⟨A+1,1,none⟩) (by simp) (.int .u32 (qA (drK (rds S r) (4 * 0+1) 1) (drK (rds S r) (4 * 0+1) 5) (drK (rds S r) (4 * 0+1) 9) (drK (rds S r) (4 * 0+1) 13)))).other (p:=⟨A+1,5,none⟩) (by simp) (.int .u32 (qB (drK (rds S r) (4 * 0+1) 1) (drK (rds S r) (4 * 0+1) 5) (drK (rds S r) (4 * 0+1) 9) (drK (rds S r) (4 * 0+1) 13)))).other (p:=⟨A+1,9,none⟩) (by simp) (.int .u32 (qC (drK (rds S r) (4 * 0+1) 1) (drK (rds S r) (4 * 0+1) 5) (drK (rds S r) (4 * 0+1) 9) (drK (rds S r) (4 * 0+1) 13)))).other (p:=⟨A+1,13,none⟩) (by simp) (.int .u32 (qD (drK (rds S r) (4 * 0+1) 1) (drK (rds S r) (4 * 0+1) 5) (drK (rds S r) (4 * 0+1) 9) (drK (rds S r) (4 * 0+1) 13))))
         have hb4:=(((((HB.out.trans (hB.mono HB.out.size)).setCell (p:=⟨A+1,1,none⟩) (by simp;omega) (.int .u32 (qA (drK (rds S r) (4 * 0+1) 1) (drK (rds S r) (4 * 0+1) 5) (drK (rds S r) (4 * 0+1) 9) (drK (rds S r) (4 * 0+1) 13)))).setCell (p:=⟨A+1,5,none⟩) (by simp;omega) (.int .u32 (qB (drK (rds S r) (4 * 0+1) 1) (drK (rds S r) (4 * 0+1) 5) (drK (rds S r) (4 * 0+1) 9) (drK (rds S r) (4 * 0+1) 13)))).setCell (p:=⟨A+1,9,none⟩) (by simp;omega) (.int .u32 (qC (drK (rds S r) (4 * 0+1) 1) (drK (rds S r) (4 * 0+1) 5) (drK (rds S r) (4 * 0+1) 9) (drK (rds S r) (4 * 0+1) 13)))).setCell (p:=⟨A+1,13,none⟩) (by simp;omega) (.int .u32 (qD (drK (rds S r) (4 * 0+1) 1) (drK (rds S r) (4 * 0+1) 5) (drK (rds S r) (4 * 0+1) 9) (drK (rds S r) (4 * 0+1) 13))))
         have hW4:=VA.congr (g:=drK (rds S r) (4 * 0+(1+1))) (fun i _=> upd4_qrF (drK (rds S r) (4 * 0+1)) 1 5 9 13 (by decide) i)
         clear VA hW hB
         go_upto_region 13 with (fail)
         refine wp_world (fun w5=> Arr .u8 w5 (w.heap.size+2) 64 (fun _=> 0)∧Arr .u32 w5 A 16 S∧Arr .u32 w5 (A+1) 16 (drK (rds S r) (4 * 0+(1+1)))∧Below w.heap.size w w5) ⟨hZ4,hA4,hW4,hb4⟩ ?_
         rintro w5 ⟨hZ5,hA5,hW5,hb5⟩
         clear hZ4 hA4 hW4 hb4 HZ HA HW HB
         go_wp2
         go_roundw
         case rel=> exact ⟨1+1,by decide,rfl,hZ5,hA5,hW5,hb5⟩
         case measure=> simp [intOf]
       ·go_upto_region 12 with (fail)
        have hW:=HW.out
        have B1:=HDB.out r (4 * 1+1) 1 (by decide)
        have B6:=HDB.out r (4 * 1+1) 6 (by decide)
        have B11:=HDB.out r (4 * 1+1) 11 (by decide)
        have B12:=HDB.out r (4 * 1+1) 12 (by decide)
        refine region_chain (n:=90) [23,25,27,29] (fun i=> [1,2,3,19,20,21,24,26,28].contains i) (by kernel_rfl) (by kernel_rfl) (by kernel_rfl) (by kernel_rfl) rfl
         (fun ii vv _=> (match ii with | 0 | 4=> vv=.int .i64 (1) | 1 | 7=> vv=.int .i64 (6) | 2 | 10=> vv=.int .i64 (11) | 3 | 13=> vv=.int .i64 (12) | 5 | 22=> vv=.pointer (some ⟨A+1,1,none⟩) | 6=> vv=.int .u32 (drK (rds S r) (4 * 1+1) 1) | 8 | 24=> vv=.pointer (some ⟨A+1,6,none⟩) | 9=> vv=.int .u32 (drK (rds S r) (4 * 1+1) 6) | 11 | 26=> vv=.pointer (some ⟨A+1,11,none⟩) | 12=> vv=.int .u32 (drK (rds S r) (4 * 1+1) 11) | 14 | 28=> vv=.pointer (some ⟨A+1,12,none⟩) | 15=> vv=.int .u32 (drK (rds S r) (4 * 1+1) 12) | 16 | 17=> vv=.tuple #[.int .u32 (qA (drK (rds S r) (4 * 1+1) 1) (drK (rds S r) (4 * 1+1) 6) (drK (rds S r) (4 * 1+1) 11) (drK (rds S r) (4 * 1+1) 12)),.int .u32 (qB (drK (rds S r) (4 * 1+1) 1) (drK (rds S r) (4 * 1+1) 6) (drK (rds S r) (4 * 1+1) 11) (drK (rds S r) (4 * 1+1) 12)),.int .u32 (qC (drK (rds S r) (4 * 1+1) 1) (drK (rds S r) (4 * 1+1) 6) (drK (rds S r) (4 * 1+1) 11) (drK (rds S r) (4 * 1+1) 12)),.int .u32 (qD (drK (rds S r) (4 * 1+1) 1) (drK (rds S r) (4 * 1+1) 6) (drK (rds S r) (4 * 1+1) 11) (drK (rds S r) (4 * 1+1) 12))] | 18=> vv=.int .u32 (qA (drK (rds S r) (4 * 1+1) 1) (drK (rds S r) (4 * 1+1) 6) (drK (rds S r) (4 * 1+1) 11) (drK (rds S r) (4 * 1+1) 12)) | 19=> vv=.int .u32 (qB (drK (rds S r) (4 * 1+1) 1) (drK (rds S r) (4 * 1+1) 6) (drK (rds S r) (4 * 1+1) 11) (drK (rds S r) (4 * 1+1) 12)) | 20=> vv=.int .u32 (qC (drK (rds S r) (4 * 1+1) 1) (drK (rds S r) (4 * 1+1) 6) (drK (rds S r) (4 * 1+1) 11) (drK (rds S r) (4 * 1+1) 12)) | 21=> vv=.int .u32 (qD (drK (rds S r) (4 * 1+1) 1) (drK (rds S r) (4 * 1+1) 6) (drK (rds S r) (4 * 1+1) 11) (drK (rds S r) (4 * 1+1) 12)) | _=> True))
         (fun _ _ _ _ h _=> h)
         (fun m ww=> match m with | 0=> ww | 1=> (ww.setCell ⟨A+1,1,none⟩ (.int .u32 (qA (drK (rds S r) (4 * 1+1) 1) (drK (rds S r) (4 * 1+1) 6) (drK (rds S r) (4 * 1+1) 11) (drK (rds S r) (4 * 1+1) 12)))) | 2=> ((ww.setCell ⟨A+1,1,none⟩ (.int .u32 (qA (drK (rds S r) (4 * 1+1) 1) (drK (rds S r) (4 * 1+1) 6) (drK (rds S r) (4 * 1+1) 11) (drK (rds S r) (4 * 1+1) 12)))).setCell ⟨A+1,6,none⟩ (.int .u32 (qB (drK (rds S r) (4 * 1+1) 1) (drK (rds S r) (4 * 1+1) 6) (drK (rds S r) (4 * 1+1) 11) (drK (rds S r) (4 * 1+1) 12)))) | 3=> (((ww.setCell ⟨A+1,1,none⟩ (.int .u32 (qA (drK (rds S r) (4 * 1+1) 1) (drK (rds S r) (4 * 1+1) 6) (drK (rds S r) (4 * 1+1) 11) (drK (rds S r) (4 * 1+1) 12)))).setCell ⟨A+1,6,none⟩ (.int .u32 (qB (drK (rds S r) (4 * 1+1) 1) (drK (rds S r) (4 * 1+1) 6) (drK (rds S r) (4 * 1+1) 11) (drK (rds S r) (4 * 1+1) 12)))).setCell ⟨A+1,11,none⟩ (.int .u32 (qC (drK (rds S r) (4 * 1+1) 1) (drK (rds S r) (4 * 1+1) 6) (drK (rds S r) (4 * 1+1) 11) (drK (rds S r) (4 * 1+1) 12)))) | _=> ((((ww.setCell ⟨A+1,1,none⟩ (.int .u32 (qA (drK (rds S r) (4 * 1+1) 1) (drK (rds S r) (4 * 1+1) 6) (drK (rds S r) (4 * 1+1) 11) (drK (rds S r) (4 * 1+1) 12)))).setCell ⟨A+1,6,none⟩ (.int .u32 (qB (drK (rds S r) (4 * 1+1) 1) (drK (rds S r) (4 * 1+1) 6) (drK (rds S r) (4 * 1+1) 11) (drK (rds S r) (4 * 1+1) 12)))).setCell ⟨A+1,11,none⟩ (.int .u32 (qC (drK (rds S r) (4 * 1+1) 1) (drK (rds S r) (4 * 1+1) 6) (drK (rds S r) (4 * 1+1) 11) (drK (rds S r) (4 * 1+1) 12)))).setCell ⟨A+1,12,none⟩ (.int .u32 (qD (drK (rds S r) (4 * 1+1) 1) (drK (rds S r) (4 * 1+1) 6) (drK (rds S r) (4 * 1+1) 11) (drK (rds S r) (4 * 1+1) 12))))) (fun _=> rfl) ?_ ?_ ?_ ?_
        ·refine Each.all ?_
         refine ⟨?_,(fun _ h=> absurd h (by decide)),(fun _ h=> absurd h (by decide)),(fun _ h=> absurd h (by decide)),?_,?_,?_,?_,?_,?_,?_,?_,?_,?_,?_,?_,?_,?_,?_,(fun _ h=> absurd h (by decide)),(fun _ h=> absurd h (by decide)),(fun _ h=> absurd h (by decide)),?_,(fun h=> absurd h (by decide)),(fun _ h=> absurd h (by decide)),(fun h=> absurd h (by decide)),(fun _ h=> absurd h (by decide)),(fun h=> absurd h (by decide)),(fun _ h=> absurd h (by decide)),(fun h=> absurd h (by decide)),trivial⟩
         ·intro _ _ a w2 hB hF hd
          rw [if_pos (wanted_none rfl)]
          exact flow_move _ (.inl rfl) (by simp) (hF.same 10 rfl)
         ·intro _ _ a w2 hB hF hd
          rw [if_pos (wanted_none rfl)]
          exact flow_move _ (.inl rfl) (by simp) (hF.same 10 rfl)
         ·intro _ _ a w2 hB hF hd
          rw [if_pos (wanted_none rfl)]
          exact flow_val (fun h=> by cases h) (run_index_addr rfl (hF.same 8 rfl) (hd 4 _ rfl rfl (waits_spec rfl)) Try.underlying122 (by kernel_rfl) (by decide) (by decide)) rfl
         ·intro _ _ a w2 hB hF hd
          rw [if_pos (wanted_none rfl)]
          exact flow_val (fun h=> by cases h) (run_load_cell rfl (hd 5 _ rfl rfl (waits_spec rfl)) Try.underlying99 ((hW.kept hB).cell 1 (by decide))) rfl
         ·intro _ _ a w2 hB hF hd
          rw [if_pos (wanted_none rfl)]
          exact flow_move _ (.inl rfl) (by simp) (hF.same 11 rfl)
         ·intro _ _ a w2 hB hF hd
          rw [if_pos (wanted_none rfl)]
          exact flow_val (fun h=> by cases h) (run_index_addr rfl (hF.same 8 rfl) (hd 7 _ rfl rfl (waits_spec rfl)) Try.underlying122 (by kernel_rfl) (by decide) (by decide)) rfl
         ·intro _ _ a w2 hB hF hd
          rw [if_pos (wanted_none rfl)]
          exact flow_val (fun h=> by cases h) (run_load_cell rfl (hd 8 _ rfl rfl (waits_spec rfl)) Try.underlying99 ((hW.kept hB).cell 6 (by decide))) rfl
         ·intro _ _ a w2 hB hF hd
          rw [if_pos (wanted_none rfl)]
          exact flow_move _ (.inl rfl) (by simp) (hF.same 12 rfl)
         ·intro _ _ a w2 hB hF hd
          rw [if_pos (wanted_none rfl)]
          exact flow_val (fun h=> by cases h) (run_index_addr rfl (hF.same 8 rfl) (hd 10 _ rfl rfl (waits_spec rfl)) Try.underlying122 (by kernel_rfl) (by decide) (by decide)) rfl
         ·intro _ _ a w2 hB hF hd
          rw [if_pos (wanted_none rfl)]
          exact flow_val (fun h=> by cases h) (run_load_cell rfl (hd 11 _ rfl rfl (waits_spec rfl)) Try.underlying99 ((hW.kept hB).cell 11 (by decide))) rfl
         ·intro _ _ a w2 hB hF hd
          rw [if_pos (wanted_none rfl)]
          exact flow_move _ (.inl rfl) (by simp) (hF.same 13 rfl)
         ·intro _ _ a w2 hB hF hd
          rw [if_pos (wanted_none rfl)]
          exact flow_val (fun h=> by cases h) (run_index_addr rfl (hF.same 8 rfl) (hd 13 _ rfl rfl (waits_spec rfl)) Try.underlying122 (by kernel_rfl) (by decide) (by decide)) rfl
         ·intro _ _ a w2 hB hF hd
          rw [if_pos (wanted_none rfl)]
          exact flow_val (fun h=> by cases h) (run_load_cell rfl (hd 14 _ rfl rfl (waits_spec rfl)) Try.underlying99 ((hW.kept hB).cell 12 (by decide))) rfl
         ·intro _ _ a w2 hB hF hd
          rw [if_pos (wanted_none rfl)]
          refine flow_call _ _ _ rfl Try.call77 _ (args4 (hd 6 _ rfl rfl (waits_spec rfl)) (hd 9 _ rfl rfl (waits_spec rfl)) (hd 12 _ rfl rfl (waits_spec rfl)) (hd 15 _ rfl rfl (waits_spec rfl))) (by simp) ((QuarterB_any (drK (rds S r) (4 * 1+1) 1) (drK (rds S r) (4 * 1+1) 6) (drK (rds S r) (4 * 1+1) 11) (drK (rds S r) (4 * 1+1) 12) B1 B6 B11 B12 w2).mono ?_)
          rintro e w3 ⟨rfl,hb⟩;exact ⟨_,rfl,rfl,hb⟩
         ·intro _ _ a w2 hB hF hd
          rw [if_pos (wanted_none rfl)]
          exact flow_move _ (.inl rfl) (by simp) (hd 16 _ rfl rfl (waits_spec rfl))
         ·intro _ _ a w2 hB hF hd
          rw [if_pos (wanted_none rfl)]
          exact flow_val (fun h=> by cases h) (run_extract rfl (hd 17 _ rfl rfl (waits_spec rfl)) rfl) rfl
         ·intro _ _ a w2 hB hF hd
          rw [if_pos (wanted_none rfl)]
          exact flow_val (fun h=> by cases h) (run_index_addr rfl (hF.same 8 rfl) (hd 0 _ rfl rfl (waits_spec rfl)) Try.underlying122 (by kernel_rfl) (by decide) (by decide)) rfl
        ·refine Each.all ?_
         refine ⟨(fun _ h=> absurd h (by decide)),?_,?_,?_,(fun _ h=> absurd h (by decide)),(fun _ h=> absurd h (by decide)),(fun _ h=> absurd h (by decide)),(fun _ h=> absurd h (by decide)),(fun _ h=> absurd h (by decide)),(fun _ h=> absurd h (by decide)),(fun _ h=> absurd h (by decide)),(fun _ h=> absurd h (by decide)),(fun _ h=> absurd h (by decide)),(fun _ h=> absurd h (by decide)),(fun _ h=> absurd h (by decide)),(fun _ h=> absurd h (by decide)),(fun _ h=> absurd h (by decide)),(fun _ h=> absurd h (by decide)),(fun _ h=> absurd h (by decide)),?_,?_,?_,(fun _ h=> absurd h (by decide)),(fun h=> absurd h (by decide)),?_,(fun h=> absurd h (by decide)),?_,(fun h=> absurd h (by decide)),?_,(fun h=> absurd h (by decide)),trivial⟩
         ·intro _ _ a w1 w2 hB hF hd
          rw [if_pos (wanted_none rfl)]
          exact pure_move _ (.inl rfl) (by simp) (hF.same 11 rfl)
         ·intro _ _ a w1 w2 hB hF hd
          rw [if_pos (wanted_none rfl)]
          exact pure_move _ (.inl rfl) (by simp) (hF.same 12 rfl)
         ·intro _ _ a w1 w2 hB hF hd
          rw [if_pos (wanted_none rfl)]
          exact pure_move _ (.inl rfl) (by simp) (hF.same 13 rfl)
         ·intro _ _ a w1 w2 hB hF hd
          rw [if_pos (wanted_none rfl)]
          exact pure_val (fun h=> by cases h) (run_extract rfl (hd 17 _ rfl rfl (waits_spec rfl)) rfl) rfl
         ·intro _ _ a w1 w2 hB hF hd
          rw [if_pos (wanted_none rfl)]
          exact pure_val (fun h=> by cases h) (run_extract rfl (hd 17 _ rfl rfl (waits_spec rfl)) rfl) rfl
         ·intro _ _ a w1 w2 hB hF hd
          rw [if_pos (wanted_none rfl)]
          exact pure_val (fun h=> by cases h) (run_extract rfl (hd 17 _ rfl rfl (waits_spec rfl)) rfl) rfl
         ·intro _ _ a w1 w2 hB hF hd
          rw [if_pos (wanted_none rfl)]
          exact pure_val (fun h=> by cases h) (run_index_addr rfl (hF.same 8 rfl) (hd 1 _ rfl rfl (waits_spec rfl)) Try.underlying122 (by kernel_rfl) (by decide) (by decide)) rfl
         ·intro _ _ a w1 w2 hB hF hd
          rw [if_pos (wanted_none rfl)]
          exact pure_val (fun h=> by cases h) (run_index_addr rfl (hF.same 8 rfl) (hd 2 _ rfl rfl (waits_spec rfl)) Try.underlying122 (by kernel_rfl) (by decide) (by decide)) rfl
         ·intro _ _ a w1 w2 hB hF hd
          rw [if_pos (wanted_none rfl)]
          exact pure_val (fun h=> by cases h) (run_index_addr rfl (hF.same 8 rfl) (hd 3 _ rfl rfl (waits_spec rfl)) Try.underlying122 (by kernel_rfl) (by decide) (by decide)) rfl
        ·intro q o hq ho
         rcases (by simp at hq;omega:q=0∨q=1∨q=2∨q=3) with rfl | rfl | rfl | rfl
         ·obtain rfl:=Option.some.inj ho
          intro a w2 K hB hF hd hK
          exact wp_store_cell 99 _ _ rfl rfl (A+1) (1) 16 _ (qA (drK (rds S r) (4 * 1+1) 1) (drK (rds S r) (4 * 1+1) 6) (drK (rds S r) (4 * 1+1) 11) (drK (rds S r) (4 * 1+1) 12)) Try.size99 (hd 22 _ rfl rfl (waits_spec rfl)) (hd 18 _ rfl rfl (waits_spec rfl)) (hW.kept hB) (by first | decide | omega) hK
         ·obtain rfl:=Option.some.inj ho
          intro a w2 K hB hF hd hK
          exact wp_store_cell 99 _ _ rfl rfl (A+1) (6) 16 _ (qB (drK (rds S r) (4 * 1+1) 1) (drK (rds S r) (4 * 1+1) 6) (drK (rds S r) (4 * 1+1) 11) (drK (rds S r) (4 * 1+1) 12)) Try.size99 (hd 24 _ rfl rfl (waits_spec rfl)) (hd 19 _ rfl rfl (waits_spec rfl)) ((hW.kept hB).set (1) (qA (drK (rds S r) (4 * 1+1) 1) (drK (rds S r) (4 * 1+1) 6) (drK (rds S r) (4 * 1+1) 11) (drK (rds S r) (4 * 1+1) 12))) (by first | decide | omega) hK
         ·obtain rfl:=Option.some.inj ho
          intro a w2 K hB hF hd hK
          exact wp_store_cell 99 _ _ rfl rfl (A+1) (11) 16 _ (qC (drK (rds S r) (4 * 1+1) 1) (drK (rds S r) (4 * 1+1) 6) (drK (rds S r) (4 * 1+1) 11) (drK (rds S r) (4 * 1+1) 12)) Try.size99 (hd 26 _ rfl rfl (waits_spec rfl)) (hd 20 _ rfl rfl (waits_spec rfl)) (((hW.kept hB).set (1) (qA (drK (rds S r) (4 * 1+1) 1) (drK (rds S r) (4 * 1+1) 6) (drK (rds S r) (4 * 1+1) 11) (drK (rds S r) (4 * 1+1) 12))).set (6) (qB (drK (rds S r) (4 * 1+1) 1) (drK (rds S r) (4 * 1+1) 6) (drK (rds S r) (4 * 1+1) 11) (drK (rds S r) (4 * 1+1) 12))) (by first | decide | omega) hK
         ·obtain rfl:=Option.some.inj ho
          intro a w2 K hB hF hd hK
          exact wp_store_cell 99 _ _ rfl rfl (A+1) (12) 16 _ (qD (drK (rds S r) (4 * 1+1) 1) (drK (rds S r) (4 * 1+1) 6) (drK (rds S r) (4 * 1+1) 11) (drK (rds S r) (4 * 1+1) 12)) Try.size99 (hd 28 _ rfl rfl (waits_spec rfl)) (hd 21 _ rfl rfl (waits_spec rfl)) ((((hW.kept hB).set (1) (qA (drK (rds S r) (4 * 1+1) 1) (drK (rds S r) (4 * 1+1) 6) (drK (rds S r) (4 * 1+1) 11) (drK (rds S r) (4 * 1+1) 12))).set (6) (qB (drK (rds S r) (4 * 1+1) 1) (drK (rds S r) (4 * 1+1) 6) (drK (rds S r) (4 * 1+1) 11) (drK (rds S r) (4 * 1+1) 12))).set (11) (qC (drK (rds S r) (4 * 1+1) 1) (drK (rds S r) (4 * 1+1) 6) (drK (rds S r) (4 * 1+1) 11) (drK (rds S r) (4 * 1+1) 12))) (by first | decide | omega) hK
        ·intro a w4 hB hF hS
         have ha:=puts_each rfl rfl hF [_,_,_,_,_,_,_,_,_,_,_,_,_,_,_,_,_,_,_,_,_,_,_,undef,_,undef,_,undef,_,undef] rfl ⟨hS 0 _ rfl rfl,hS 1 _ rfl rfl,hS 2 _ rfl rfl,hS 3 _ rfl rfl,hS 4 _ rfl rfl,hS 5 _ rfl rfl,hS 6 _ rfl rfl,hS 7 _ rfl rfl,hS 8 _ rfl rfl,hS 9 _ rfl rfl,hS 10 _ rfl rfl,hS 11 _ rfl rfl,hS 12 _ rfl rfl,hS 13 _ rfl rfl,hS 14 _ rfl rfl,hS 15 _ rfl rfl,hS 16 _ rfl rfl,hS 17 _ rfl rfl,hS 18 _ rfl rfl,hS 19 _ rfl rfl,hS 20 _ rfl rfl,hS 21 _ rfl rfl,hS 22 _ rfl rfl,trivial,hS 24 _ rfl rfl,trivial,hS 26 _ rfl rfl,trivial,hS 28 _ rfl rfl,trivial,trivial⟩
         simp only [puts,Act.put,List.setIfInBounds_toArray,List.set_cons_succ,List.set_cons_zero] at ha
         subst ha
         have VA:=(((((hW.kept hB).set (1) (qA (drK (rds S r) (4 * 1+1) 1) (drK (rds S r) (4 * 1+1) 6) (drK (rds S r) (4 * 1+1) 11) (drK (rds S r) (4 * 1+1) 12))).set (6) (qB (drK (rds S r) (4 * 1+1) 1) (drK (rds S r) (4 * 1+1) 6) (drK (rds S r) (4 * 1+1) 11) (drK (rds S r) (4 * 1+1) 12))).set (11) (qC (drK (rds S r) (4 * 1+1) 1) (drK (rds S r) (4 * 1+1) 6) (drK (rds S r) (4 * 1+1) 11) (drK (rds S r) (4 * 1+1) 12))).set (12) (qD (drK (rds S r) (4 * 1+1) 1) (drK (rds S r) (4 * 1+1) 6) (drK (rds S r) (4 * 1+1) 11) (drK (rds S r) (4 * 1+1) 12)))
         clear hS hF
         have hZ4:=(((((HZ.out.kept hB).other (p:=⟨A+1,1,none⟩) (by simp;omega) (.int .u32 (qA (drK (rds S r) (4 * 1+1) 1) (drK (rds S r) (4 * 1+1) 6) (drK (rds S r) (4 * 1+1) 11) (drK (rds S r) (4 * 1+1) 12)))).other (p:=⟨A+1,6,none⟩) (by simp;omega) (.int .u32 (qB (drK (rds S r) (4 * 1+1) 1) (drK (rds S r) (4 * 1+1) 6) (drK (rds S r) (4 * 1+1) 11) (drK (rds S r) (4 * 1+1) 12)))).other (p:=⟨A+1,11,none⟩) (by simp;omega) (.int .u32 (qC (drK (rds S r) (4 * 1+1) 1) (drK (rds S r) (4 * 1+1) 6) (drK (rds S r) (4 * 1+1) 11) (drK (rds S r) (4 * 1+1) 12)))).other (p:=⟨A+1,12,none⟩) (by simp;omega) (.int .u32 (qD (drK (rds S r) (4 * 1+1) 1) (drK (rds S r) (4 * 1+1) 6) (drK (rds S r) (4 * 1+1) 11) (drK (rds S r) (4 * 1+1) 12))))
         have hA4:=(((((HA.out.kept hB).other (p:=⟨A+1,1,none⟩) (by simp) (.int .u32 (qA (drK (rds S r) (4 * 1+1) 1) (drK (rds S r) (4 * 1+1) 6) (drK (rds S r) (4 * 1+1) 11) (drK (rds S r) (4 * 1+1) 12)))).other (p:=⟨A+1,6,none⟩) (by simp) (.int .u32 (qB (drK (rds S r) (4 * 1+1) 1) (drK (rds S r) (4 * 1+1) 6) (drK (rds S r) (4 * 1+1) 11) (drK (rds S r) (4 * 1+1) 12)))).other (p:=⟨A+1,11,none⟩) (by simp) (.int .u32 (qC (drK (rds S r) (4 * 1+1) 1) (drK (rds S r) (4 * 1+1) 6) (drK (rds S r) (4 * 1+1) 11) (drK (rds S r) (4 * 1+1) 12)))).other (p:=⟨A+1,12,none⟩) (by simp) (.int .u32 (qD (drK (rds S r) (4 * 1+1) 1) (drK (rds S r) (4 * 1+1) 6) (drK (rds S r) (4 * 1+1) 11) (drK (rds S r) (4 * 1+1) 12))))
         have hb4:=(((((HB.out.trans (hB.mono HB.out.size)).setCell (p:=⟨A+1,1,none⟩) (by simp;omega) (.int .u32 (qA (drK (rds S r) (4 * 1+1) 1) (drK (rds S r) (4 * 1+1) 6) (drK (rds S r) (4 * 1+1) 11) (drK (rds S r) (4 * 1+1) 12)))).setCell (p:=⟨A+1,6,none⟩) (by simp;omega) (.int .u32 (qB (drK (rds S r) (4 * 1+1) 1) (drK (rds S r) (4 * 1+1) 6) (drK (rds S r) (4 * 1+1) 11) (drK (rds S r) (4 * 1+1) 12)))).setCell (p:=⟨A+1,11,none⟩) (by simp;omega) (.int .u32 (qC (drK (rds S r) (4 * 1+1) 1) (drK (rds S r) (4 * 1+1) 6) (drK (rds S r) (4 * 1+1) 11) (drK (rds S r) (4 * 1+1) 12)))).setCell (p:=⟨A+1,12,none⟩) (by simp;omega) (.int .u32 (qD (drK (rds S r) (4 * 1+1) 1) (drK (rds S r) (4 * 1+1) 6) (drK (rds S r) (4 * 1+1) 11) (drK (rds S r) (4 * 1+1) 12))))
         have hW4:=VA.congr (g:=drK (rds S r) (4 * 1+(1+1))) (fun i _=> upd4_qrF (drK (rds S r) (4 * 1+1)) 1 6 11 12 (by decide) i)
         clear VA hW hB
         go_upto_region 13 with (fail)
         refine wp_world (fun w5=> Arr .u8 w5 (w.heap.size+2) 64 (fun _=> 0)∧Arr .u32 w5 A 16 S∧Arr .u32 w5 (A+1) 16 (drK (rds S r) (4 * 1+(1+1)))∧Below w.heap.size w w5) ⟨hZ4,hA4,hW4,hb4⟩ ?_
         rintro w5 ⟨hZ5,hA5,hW5,hb5⟩
         clear hZ4 hA4 hW4 hb4 HZ HA HW HB
         go_wp2
         go_roundw
         case rel=> exact ⟨1+1,by decide,rfl,hZ5,hA5,hW5,hb5⟩
         case measure=> simp [intOf]
       ·go_upto_region 12 with (fail)
        have hW:=HW.out
        have B2:=HDB.out r (4 * 0+2) 2 (by decide)
        have B6:=HDB.out r (4 * 0+2) 6 (by decide)
        have B10:=HDB.out r (4 * 0+2) 10 (by decide)
        have B14:=HDB.out r (4 * 0+2) 14 (by decide)
        refine region_chain (n:=90) [23,25,27,29] (fun i=> [1,2,3,19,20,21,24,26,28].contains i) (by kernel_rfl) (by kernel_rfl) (by kernel_rfl) (by kernel_rfl) rfl
         (fun ii vv _=> (match ii with | 0 | 4=> vv=.int .i64 (2) | 1 | 7=> vv=.int .i64 (6) | 2 | 10=> vv=.int .i64 (10) | 3 | 13=> vv=.int .i64 (14) | 5 | 22=> vv=.pointer (some ⟨A+1,2,none⟩) | 6=> vv=.int .u32 (drK (rds S r) (4 * 0+2) 2) | 8 | 24=> vv=.pointer (some ⟨A+1,6,none⟩) | 9=> vv=.int .u32 (drK (rds S r) (4 * 0+2) 6) | 11 | 26=> vv=.pointer (some ⟨A+1,10,none⟩) | 12=> vv=.int .u32 (drK (rds S r) (4 * 0+2) 10) | 14 | 28=> vv=.pointer (some ⟨A+1,14,none⟩) | 15=> vv=.int .u32 (drK (rds S r) (4 * 0+2) 14) | 16 | 17=> vv=.tuple #[.int .u32 (qA (drK (rds S r) (4 * 0+2) 2) (drK (rds S r) (4 * 0+2) 6) (drK (rds S r) (4 * 0+2) 10) (drK (rds S r) (4 * 0+2) 14)),.int .u32 (qB (drK (rds S r) (4 * 0+2) 2) (drK (rds S r) (4 * 0+2) 6) (drK (rds S r) (4 * 0+2) 10) (drK (rds S r) (4 * 0+2) 14)),.int .u32 (qC (drK (rds S r) (4 * 0+2) 2) (drK (rds S r) (4 * 0+2) 6) (drK (rds S r) (4 * 0+2) 10) (drK (rds S r) (4 * 0+2) 14)),.int .u32 (qD (drK (rds S r) (4 * 0+2) 2) (drK (rds S r) (4 * 0+2) 6) (drK (rds S r) (4 * 0+2) 10) (drK (rds S r) (4 * 0+2) 14))] | 18=> vv=.int .u32 (qA (drK (rds S r) (4 * 0+2) 2) (drK (rds S r) (4 * 0+2) 6) (drK (rds S r) (4 * 0+2) 10) (drK (rds S r) (4 * 0+2) 14)) | 19=> vv=.int .u32 (qB (drK (rds S r) (4 * 0+2) 2) (drK (rds S r) (4 * 0+2) 6) (drK (rds S r) (4 * 0+2) 10) (drK (rds S r) (4 * 0+2) 14)) | 20=> vv=.int .u32 (qC (drK (rds S r) (4 * 0+2) 2) (drK (rds S r) (4 * 0+2) 6) (drK (rds S r) (4 * 0+2) 10) (drK (rds S r) (4 * 0+2) 14)) | 21=> vv=.int .u32 (qD (drK (rds S r) (4 * 0+2) 2) (drK (rds S r) (4 * 0+2) 6) (drK (rds S r) (4 * 0+2) 10) (drK (rds S r) (4 * 0+2) 14)) | _=> True))
         (fun _ _ _ _ h _=> h)
         (fun m ww=> match m with | 0=> ww | 1=> (ww.setCell ⟨A+1,2,none⟩ (.int .u32 (qA (drK (rds S r) (4 * 0+2) 2) (drK (rds S r) (4 * 0+2) 6) (drK (rds S r) (4 * 0+2) 10) (drK (rds S r) (4 * 0+2) 14)))) | 2=> ((ww.setCell ⟨A+1,2,none⟩ (.int .u32 (qA (drK (rds S r) (4 * 0+2) 2) (drK (rds S r) (4 * 0+2) 6) (drK (rds S r) (4 * 0+2) 10) (drK (rds S r) (4 * 0+2) 14)))).setCell ⟨A+1,6,none⟩ (.int .u32 (qB (drK (rds S r) (4 * 0+2) 2) (drK (rds S r) (4 * 0+2) 6) (drK (rds S r) (4 * 0+2) 10) (drK (rds S r) (4 * 0+2) 14)))) | 3=> (((ww.setCell ⟨A+1,2,none⟩ (.int .u32 (qA (drK (rds S r) (4 * 0+2) 2) (drK (rds S r) (4 * 0+2) 6) (drK (rds S r) (4 * 0+2) 10) (drK (rds S r) (4 * 0+2) 14)))).setCell ⟨A+1,6,none⟩ (.int .u32 (qB (drK (rds S r) (4 * 0+2) 2) (drK (rds S r) (4 * 0+2) 6) (drK (rds S r) (4 * 0+2) 10) (drK (rds S r) (4 * 0+2) 14)))).setCell ⟨A+1,10,none⟩ (.int .u32 (qC (drK (rds S r) (4 * 0+2) 2) (drK (rds S r) (4 * 0+2) 6) (drK (rds S r) (4 * 0+2) 10) (drK (rds S r) (4 * 0+2) 14)))) | _=> ((((ww.setCell ⟨A+1,2,none⟩ (.int .u32 (qA (drK (rds S r) (4 * 0+2) 2) (drK (rds S r) (4 * 0+2) 6) (drK (rds S r) (4 * 0+2) 10) (drK (rds S r) (4 * 0+2) 14)))).setCell ⟨A+1,6,none⟩ (.int .u32 (qB (drK (rds S r) (4 * 0+2) 2) (drK (rds S r) (4 * 0+2) 6) (drK (rds S r) (4 * 0+2) 10) (drK (rds S r) (4 * 0+2) 14)))).setCell ⟨A+1,10,none⟩ (.int .u32 (qC (drK (rds S r) (4 * 0+2) 2) (drK (rds S r) (4 * 0+2) 6) (drK (rds S r) (4 * 0+2) 10) (drK (rds S r) (4 * 0+2) 14)))).setCell ⟨A+1,14,none⟩ (.int .u32 (qD (drK (rds S r) (4 * 0+2) 2) (drK (rds S r) (4 * 0+2) 6) (drK (rds S r) (4 * 0+2) 10) (drK (rds S r) (4 * 0+2) 14))))) (fun _=> rfl) ?_ ?_ ?_ ?_
        ·refine Each.all ?_
         refine ⟨?_,(fun _ h=> absurd h (by decide)),(fun _ h=> absurd h (by decide)),(fun _ h=> absurd h (by decide)),?_,?_,?_,?_,?_,?_,?_,?_,?_,?_,?_,?_,?_,?_,?_,(fun _ h=> absurd h (by decide)),(fun _ h=> absurd h (by decide)),(fun _ h=> absurd h (by decide)),?_,(fun h=> absurd h (by decide)),(fun _ h=> absurd h (by decide)),(fun h=> absurd h (by decide)),(fun _ h=> absurd h (by decide)),(fun h=> absurd h (by decide)),(fun _ h=> absurd h (by decide)),(fun h=> absurd h (by decide)),trivial⟩
         ·intro _ _ a w2 hB hF hd
          rw [if_pos (wanted_none rfl)]
          exact flow_move _ (.inl rfl) (by simp) (hF.same 10 rfl)
         ·intro _ _ a w2 hB hF hd
          rw [if_pos (wanted_none rfl)]
          exact flow_move _ (.inl rfl) (by simp) (hF.same 10 rfl)
         ·intro _ _ a w2 hB hF hd
          rw [if_pos (wanted_none rfl)]
          exact flow_val (fun h=> by cases h) (run_index_addr rfl (hF.same 8 rfl) (hd 4 _ rfl rfl (waits_spec rfl)) Try.underlying122 (by kernel_rfl) (by decide) (by decide)) rfl
         ·intro _ _ a w2 hB hF hd
          rw [if_pos (wanted_none rfl)]
          exact flow_val (fun h=> by cases h) (run_load_cell rfl (hd 5 _ rfl rfl (waits_spec rfl)) Try.underlying99 ((hW.kept hB).cell 2 (by decide))) rfl
         ·intro _ _ a w2 hB hF hd
          rw [if_pos (wanted_none rfl)]
          exact flow_move _ (.inl rfl) (by simp) (hF.same 11 rfl)
         ·intro _ _ a w2 hB hF hd
          rw [if_pos (wanted_none rfl)]
          exact flow_val (fun h=> by cases h) (run_index_addr rfl (hF.same 8 rfl) (hd 7 _ rfl rfl (waits_spec rfl)) Try.underlying122 (by kernel_rfl) (by decide) (by decide)) rfl
         ·intro _ _ a w2 hB hF hd
          rw [if_pos (wanted_none rfl)]
          exact flow_val (fun h=> by cases h) (run_load_cell rfl (hd 8 _ rfl rfl (waits_spec rfl)) Try.underlying99 ((hW.kept hB).cell 6 (by decide))) rfl
         ·intro _ _ a w2 hB hF hd
          rw [if_pos (wanted_none rfl)]
          exact flow_move _ (.inl rfl) (by simp) (hF.same 12 rfl)
         ·intro _ _ a w2 hB hF hd
          rw [if_pos (wanted_none rfl)]
          exact flow_val (fun h=> by cases h) (run_index_addr rfl (hF.same 8 rfl) (hd 10 _ rfl rfl (waits_spec rfl)) Try.underlying122 (by kernel_rfl) (by decide) (by decide)) rfl
         ·intro _ _ a w2 hB hF hd
          rw [if_pos (wanted_none rfl)]
          exact flow_val (fun h=> by cases h) (run_load_cell rfl (hd 11 _ rfl rfl (waits_spec rfl)) Try.underlying99 ((hW.kept hB).cell 10 (by decide))) rfl
         ·intro _ _ a w2 hB hF hd
          rw [if_pos (wanted_none rfl)]
          exact flow_move _ (.inl rfl) (by simp) (hF.same 13 rfl)
         ·intro _ _ a w2 hB hF hd
          rw [if_pos (wanted_none rfl)]
          exact flow_val (fun h=> by cases h) (run_index_addr rfl (hF.same 8 rfl) (hd 13 _ rfl rfl (waits_spec rfl)) Try.underlying122 (by kernel_rfl) (by decide) (by decide)) rfl
         ·intro _ _ a w2 hB hF hd
          rw [if_pos (wanted_none rfl)]
          exact flow_val (fun h=> by cases h) (run_load_cell rfl (hd 14 _ rfl rfl (waits_spec rfl)) Try.underlying99 ((hW.kept hB).cell 14 (by decide))) rfl
         ·intro _ _ a w2 hB hF hd
          rw [if_pos (wanted_none rfl)]
          refine flow_call _ _ _ rfl Try.call77 _ (args4 (hd 6 _ rfl rfl (waits_spec rfl)) (hd 9 _ rfl rfl (waits_spec rfl)) (hd 12 _ rfl rfl (waits_spec rfl)) (hd 15 _ rfl rfl (waits_spec rfl))) (by simp) ((QuarterB_any (drK (rds S r) (4 * 0+2) 2) (drK (rds S r) (4 * 0+2) 6) (drK (rds S r) (4 * 0+2) 10) (drK (rds S r) (4 * 0+2) 14) B2 B6 B10 B14 w2).mono ?_)
          rintro e w3 ⟨rfl,hb⟩;exact ⟨_,rfl,rfl,hb⟩
         ·intro _ _ a w2 hB hF hd
          rw [if_pos (wanted_none rfl)]
          exact flow_move _ (.inl rfl) (by simp) (hd 16 _ rfl rfl (waits_spec rfl))
         ·intro _ _ a w2 hB hF hd
          rw [if_pos (wanted_none rfl)]
          exact flow_val (fun h=> by cases h) (run_extract rfl (hd 17 _ rfl rfl (waits_spec rfl)) rfl) rfl
         ·intro _ _ a w2 hB hF hd
          rw [if_pos (wanted_none rfl)]
          exact flow_val (fun h=> by cases h) (run_index_addr rfl (hF.same 8 rfl) (hd 0 _ rfl rfl (waits_spec rfl)) Try.underlying122 (by kernel_rfl) (by decide) (by decide)) rfl
        ·refine Each.all ?_
         refine ⟨(fun _ h=> absurd h (by decide)),?_,?_,?_,(fun _ h=> absurd h (by decide)),(fun _ h=> absurd h (by decide)),(fun _ h=> absurd h (by decide)),(fun _ h=> absurd h (by decide)),(fun _ h=> absurd h (by decide)),(fun _ h=> absurd h (by decide)),(fun _ h=> absurd h (by decide)),(fun _ h=> absurd h (by decide)),(fun _ h=> absurd h (by decide)),(fun _ h=> absurd h (by decide)),(fun _ h=> absurd h (by decide)),(fun _ h=> absurd h (by decide)),(fun _ h=> absurd h (by decide)),(fun _ h=> absurd h (by decide)),(fun _ h=> absurd h (by decide)),?_,?_,?_,(fun _ h=> absurd h (by decide)),(fun h=> absurd h (by decide)),?_,(fun h=> absurd h (by decide)),?_,(fun h=> absurd h (by decide)),?_,(fun h=> absurd h (by decide)),trivial⟩
         ·intro _ _ a w1 w2 hB hF hd
          rw [if_pos (wanted_none rfl)]
          exact pure_move _ (.inl rfl) (by simp) (hF.same 11 rfl)
         ·intro _ _ a w1 w2 hB hF hd
          rw [if_pos (wanted_none rfl)]
          exact pure_move _ (.inl rfl) (by simp) (hF.same 12 rfl)
         ·intro _ _ a w1 w2 hB hF hd
          rw [if_pos (wanted_none rfl)]
          exact pure_move _ (.inl rfl) (by simp) (hF.same 13 rfl)
         ·intro _ _ a w1 w2 hB hF hd
          rw [if_pos (wanted_none rfl)]
          exact pure_val (fun h=> by cases h) (run_extract rfl (hd 17 _ rfl rfl (waits_spec rfl)) rfl) rfl
         ·intro _ _ a w1 w2 hB hF hd
          rw [if_pos (wanted_none rfl)]
          exact pure_val (fun h=> by cases h) (run_extract rfl (hd 17 _ rfl rfl (waits_spec rfl)) rfl) rfl
         ·intro _ _ a w1 w2 hB hF hd
          rw [if_pos (wanted_none rfl)]
          exact pure_val (fun h=> by cases h) (run_extract rfl (hd 17 _ rfl rfl (waits_spec rfl)) rfl) rfl
         ·intro _ _ a w1 w2 hB hF hd
          rw [if_pos (wanted_none rfl)]
          exact pure_val (fun h=> by cases h) (run_index_addr rfl (hF.same 8 rfl) (hd 1 _ rfl rfl (waits_spec rfl)) Try.underlying122 (by kernel_rfl) (by decide) (by decide)) rfl
         ·intro _ _ a w1 w2 hB hF hd
          rw [if_pos (wanted_none rfl)]
          exact pure_val (fun h=> by cases h) (run_index_addr rfl (hF.same 8 rfl) (hd 2 _ rfl rfl (waits_spec rfl)) Try.underlying122 (by kernel_rfl) (by decide) (by decide)) rfl
         ·intro _ _ a w1 w2 hB hF hd
          rw [if_pos (wanted_none rfl)]
          exact pure_val (fun h=> by cases h) (run_index_addr rfl (hF.same 8 rfl) (hd 3 _ rfl rfl (waits_spec rfl)) Try.underlying122 (by kernel_rfl) (by decide) (by decide)) rfl
        ·intro q o hq ho
         rcases (by simp at hq;omega:q=0∨q=1∨q=2∨q=3) with rfl | rfl | rfl | rfl
         ·obtain rfl:=Option.some.inj ho
          intro a w2 K hB hF hd hK
          exact wp_store_cell 99 _ _ rfl rfl (A+1) (2) 16 _ (qA (drK (rds S r) (4 * 0+2) 2) (drK (rds S r) (4 * 0+2) 6) (drK (rds S r) (4 * 0+2) 10) (drK (rds S r) (4 * 0+2) 14)) Try.size99 (hd 22 _ rfl rfl (waits_spec rfl)) (hd 18 _ rfl rfl (waits_spec rfl)) (hW.kept hB) (by first | decide | omega) hK
         ·obtain rfl:=Option.some.inj ho
          intro a w2 K hB hF hd hK
          exact wp_store_cell 99 _ _ rfl rfl (A+1) (6) 16 _ (qB (drK (rds S r) (4 * 0+2) 2) (drK (rds S r) (4 * 0+2) 6) (drK (rds S r) (4 * 0+2) 10) (drK (rds S r) (4 * 0+2) 14)) Try.size99 (hd 24 _ rfl rfl (waits_spec rfl)) (hd 19 _ rfl rfl (waits_spec rfl)) ((hW.kept hB).set (2) (qA (drK (rds S r) (4 * 0+2) 2) (drK (rds S r) (4 * 0+2) 6) (drK (rds S r) (4 * 0+2) 10) (drK (rds S r) (4 * 0+2) 14))) (by first | decide | omega) hK
         ·obtain rfl:=Option.some.inj ho
          intro a w2 K hB hF hd hK
          exact wp_store_cell 99 _ _ rfl rfl (A+1) (10) 16 _ (qC (drK (rds S r) (4 * 0+2) 2) (drK (rds S r) (4 * 0+2) 6) (drK (rds S r) (4 * 0+2) 10) (drK (rds S r) (4 * 0+2) 14)) Try.size99 (hd 26 _ rfl rfl (waits_spec rfl)) (hd 20 _ rfl rfl (waits_spec rfl)) (((hW.kept hB).set (2) (qA (drK (rds S r) (4 * 0+2) 2) (drK (rds S r) (4 * 0+2) 6) (drK (rds S r) (4 * 0+2) 10) (drK (rds S r) (4 * 0+2) 14))).set (6) (qB (drK (rds S r) (4 * 0+2) 2) (drK (rds S r) (4 * 0+2) 6) (drK (rds S r) (4 * 0+2) 10) (drK (rds S r) (4 * 0+2) 14))) (by first | decide | omega) hK
         ·obtain rfl:=Option.some.inj ho
          intro a w2 K hB hF hd hK
          exact wp_store_cell 99 _ _ rfl rfl (A+1) (14) 16 _ (qD (drK (rds S r) (4 * 0+2) 2) (drK (rds S r) (4 * 0+2) 6) (drK (rds S r) (4 * 0+2) 10) (drK (rds S r) (4 * 0+2) 14)) Try.size99 (hd 28 _ rfl rfl (waits_spec rfl)) (hd 21 _ rfl rfl (waits_spec rfl)) ((((hW.kept hB).set (2) (qA (drK (rds S r) (4 * 0+2) 2) (drK (rds S r) (4 * 0+2) 6) (drK (rds S r) (4 * 0+2) 10) (drK (rds S r) (4 * 0+2) 14))).set (6) (qB (drK (rds S r) (4 * 0+2) 2) (drK (rds S r) (4 * 0+2) 6) (drK (rds S r) (4 * 0+2) 10) (drK (rds S r) (4 * 0+2) 14))).set (10) (qC (drK (rds S r) (4 * 0+2) 2) (drK (rds S r) (4 * 0+2) 6) (drK (rds S r) (4 * 0+2) 10) (drK (rds S r) (4 * 0+2) 14))) (by first | decide | omega) hK
        ·intro a w4 hB hF hS
         have ha:=puts_each rfl rfl hF [_,_,_,_,_,_,_,_,_,_,_,_,_,_,_,_,_,_,_,_,_,_,_,undef,_,undef,_,undef,_,undef] rfl ⟨hS 0 _ rfl rfl,hS 1 _ rfl rfl,hS 2 _ rfl rfl,hS 3 _ rfl rfl,hS 4 _ rfl rfl,hS 5 _ rfl rfl,hS 6 _ rfl rfl,hS 7 _ rfl rfl,hS 8 _ rfl rfl,hS 9 _ rfl rfl,hS 10 _ rfl rfl,hS 11 _ rfl rfl,hS 12 _ rfl rfl,hS 13 _ rfl rfl,hS 14 _ rfl rfl,hS 15 _ rfl rfl,hS 16 _ rfl rfl,hS 17 _ rfl rfl,hS 18 _ rfl rfl,hS 19 _ rfl rfl,hS 20 _ rfl rfl,hS 21 _ rfl rfl,hS 22 _ rfl rfl,trivial,hS 24 _ rfl rfl,trivial,hS 26 _ rfl rfl,trivial,hS 28 _ rfl rfl,trivial,trivial⟩
         simp only [puts,Act.put,List.setIfInBounds_toArray,List.set_cons_succ,List.set_cons_zero] at ha
         subst ha
         have VA:=(((((hW.kept hB).set (2) (qA (drK (rds S r) (4 * 0+2) 2) (drK (rds S r) (4 * 0+2) 6) (drK (rds S r) (4 * 0+2) 10) (drK (rds S r) (4 * 0+2) 14))).set (6) (qB (drK (rds S r) (4 * 0+2) 2) (drK (rds S r) (4 * 0+2) 6) (drK (rds S r) (4 * 0+2) 10) (drK (rds S r) (4 * 0+2) 14))).set (10) (qC (drK (rds S r) (4 * 0+2) 2) (drK (rds S r) (4 * 0+2) 6) (drK (rds S r) (4 * 0+2) 10) (drK (rds S r) (4 * 0+2) 14))).set (14) (qD (drK (rds S r) (4 * 0+2) 2) (drK (rds S r) (4 * 0+2) 6) (drK (rds S r) (4 * 0+2) 10) (drK (rds S r) (4 * 0+2) 14)))
         clear hS hF
         have hZ4:=(((((HZ.out.kept hB).other (p:=⟨A+1,2,none⟩) (by simp;omega) (.int .u32 (qA (drK (rds S r) (4 * 0+2) 2) (drK (rds S r) (4 * 0+2) 6) (drK (rds S r) (4 * 0+2) 10) (drK (rds S r) (4 * 0+2) 14)))).other (p:=⟨A+1,6,none⟩) (by simp;omega) (.int .u32 (qB (drK (rds S r) (4 * 0+2) 2) (drK (rds S r) (4 * 0+2) 6) (drK (rds S r) (4 * 0+2) 10) (drK (rds S r) (4 * 0+2) 14)))).other (p:=⟨A+1,10,none⟩) (by simp;omega) (.int .u32 (qC (drK (rds S r) (4 * 0+2) 2) (drK (rds S r) (4 * 0+2) 6) (drK (rds S r) (4 * 0+2) 10) (drK (rds S r) (4 * 0+2) 14)))).other (p:=⟨A+1,14,none⟩) (by simp;omega) (.int .u32 (qD (drK (rds S r) (4 * 0+2) 2) (drK (rds S r) (4 * 0+2) 6) (drK (rds S r) (4 * 0+2) 10) (drK (rds S r) (4 * 0+2) 14))))
         have hA4:=(((((HA.out.kept hB).other (p:=⟨A+1,2,none⟩) (by simp) (.int .u32 (qA (drK (rds S r) (4 * 0+2) 2) (drK (rds S r) (4 * 0+2) 6) (drK (rds S r) (4 * 0+2) 10) (drK (rds S r) (4 * 0+2) 14)))).other (p:=⟨A+1,6,none⟩) (by simp) (.int .u32 (qB (drK (rds S r) (4 * 0+2) 2) (drK (rds S r) (4 * 0+2) 6) (drK (rds S r) (4 * 0+2) 10) (drK (rds S r) (4 * 0+2) 14)))).other (p:=⟨A+1,10,none⟩) (by simp) (.int .u32 (qC (drK (rds S r) (4 * 0+2) 2) (drK (rds S r) (4 * 0+2) 6) (drK (rds S r) (4 * 0+2) 10) (drK (rds S r) (4 * 0+2) 14)))).other (p:=⟨A+1,14,none⟩) (by simp) (.int .u32 (qD (drK (rds S r) (4 * 0+2) 2) (drK (rds S r) (4 * 0+2) 6) (drK (rds S r) (4 * 0+2) 10) (drK (rds S r) (4 * 0+2) 14))))
         have hb4:=(((((HB.out.trans (hB.mono HB.out.size)).setCell (p:=⟨A+1,2,none⟩) (by simp;omega) (.int .u32 (qA (drK (rds S r) (4 * 0+2) 2) (drK (rds S r) (4 * 0+2) 6) (drK (rds S r) (4 * 0+2) 10) (drK (rds S r) (4 * 0+2) 14)))).setCell (p:=⟨A+1,6,none⟩) (by simp;omega) (.int .u32 (qB (drK (rds S r) (4 * 0+2) 2) (drK (rds S r) (4 * 0+2) 6) (drK (rds S r) (4 * 0+2) 10) (drK (rds S r) (4 * 0+2) 14)))).setCell (p:=⟨A+1,10,none⟩) (by simp;omega) (.int .u32 (qC (drK (rds S r) (4 * 0+2) 2) (drK (rds S r) (4 * 0+2) 6) (drK (rds S r) (4 * 0+2) 10) (drK (rds S r) (4 * 0+2) 14)))).setCell (p:=⟨A+1,14,none⟩) (by simp;omega) (.int .u32 (qD (drK (rds S r) (4 * 0+2) 2) (drK (rds S r) (4 * 0+2) 6) (drK (rds S r) (4 * 0+2) 10) (drK (rds S r) (4 * 0+2) 14))))
         have hW4:=VA.congr (g:=drK (rds S r) (4 * 0+(2+1))) (fun i _=> upd4_qrF (drK (rds S r) (4 * 0+2)) 2 6 10 14 (by decide) i)
         clear VA hW hB
         go_upto_region 13 with (fail)
         refine wp_world (fun w5=> Arr .u8 w5 (w.heap.size+2) 64 (fun _=> 0)∧Arr .u32 w5 A 16 S∧Arr .u32 w5 (A+1) 16 (drK (rds S r) (4 * 0+(2+1)))∧Below w.heap.size w w5) ⟨hZ4,hA4,hW4,hb4⟩ ?_
         rintro w5 ⟨hZ5,hA5,hW5,hb5⟩
         clear hZ4 hA4 hW4 hb4 HZ HA HW HB
         go_wp2
         go_roundw
         case rel=> exact ⟨2+1,by decide,rfl,hZ5,hA5,hW5,hb5⟩
         case measure=> simp [intOf]
       ·go_upto_region 12 with (fail)
        have hW:=HW.out
        have B2:=HDB.out r (4 * 1+2) 2 (by decide)
        have B7:=HDB.out r (4 * 1+2) 7 (by decide)
        have B8:=HDB.out r (4 * 1+2) 8 (by decide)
        have B13:=HDB.out r (4 * 1+2) 13 (by decide)
        refine region_chain (n:=90) [23,25,27,29] (fun i=> [1,2,3,19,20,21,24,26,28].contains i) (by kernel_rfl) (by kernel_rfl) (by kernel_rfl) (by kernel_rfl) rfl
         (fun ii vv _=> (match ii with | 0 | 4=> vv=.int .i64 (2) | 1 | 7=> vv=.int .i64 (7) | 2 | 10=> vv=.int .i64 (8) | 3 | 13=> vv=.int .i64 (13) | 5 | 22=> vv=.pointer (some ⟨A+1,2,none⟩) | 6=> vv=.int .u32 (drK (rds S r) (4 * 1+2) 2) | 8 | 24=> vv=.pointer (some ⟨A+1,7,none⟩) | 9=> vv=.int .u32 (drK (rds S r) (4 * 1+2) 7) | 11 | 26=> vv=.pointer (some ⟨A+1,8,none⟩) | 12=> vv=.int .u32 (drK (rds S r) (4 * 1+2) 8) | 14 | 28=> vv=.pointer (some ⟨A+1,13,none⟩) | 15=> vv=.int .u32 (drK (rds S r) (4 * 1+2) 13) | 16 | 17=> vv=.tuple #[.int .u32 (qA (drK (rds S r) (4 * 1+2) 2) (drK (rds S r) (4 * 1+2) 7) (drK (rds S r) (4 * 1+2) 8) (drK (rds S r) (4 * 1+2) 13)),.int .u32 (qB (drK (rds S r) (4 * 1+2) 2) (drK (rds S r) (4 * 1+2) 7) (drK (rds S r) (4 * 1+2) 8) (drK (rds S r) (4 * 1+2) 13)),.int .u32 (qC (drK (rds S r) (4 * 1+2) 2) (drK (rds S r) (4 * 1+2) 7) (drK (rds S r) (4 * 1+2) 8) (drK (rds S r) (4 * 1+2) 13)),.int .u32 (qD (drK (rds S r) (4 * 1+2) 2) (drK (rds S r) (4 * 1+2) 7) (drK (rds S r) (4 * 1+2) 8) (drK (rds S r) (4 * 1+2) 13))] | 18=> vv=.int .u32 (qA (drK (rds S r) (4 * 1+2) 2) (drK (rds S r) (4 * 1+2) 7) (drK (rds S r) (4 * 1+2) 8) (drK (rds S r) (4 * 1+2) 13)) | 19=> vv=.int .u32 (qB (drK (rds S r) (4 * 1+2) 2) (drK (rds S r) (4 * 1+2) 7) (drK (rds S r) (4 * 1+2) 8) (drK (rds S r) (4 * 1+2) 13)) | 20=> vv=.int .u32 (qC (drK (rds S r) (4 * 1+2) 2) (drK (rds S r) (4 * 1+2) 7) (drK (rds S r) (4 * 1+2) 8) (drK (rds S r) (4 * 1+2) 13)) | 21=> vv=.int .u32 (qD (drK (rds S r) (4 * 1+2) 2) (drK (rds S r) (4 * 1+2) 7) (drK (rds S r) (4 * 1+2) 8) (drK (rds S r) (4 * 1+2) 13)) | _=> True))
         (fun _ _ _ _ h _=> h)
         (fun m ww=> match m with | 0=> ww | 1=> (ww.setCell ⟨A+1,2,none⟩ (.int .u32 (qA (drK (rds S r) (4 * 1+2) 2) (drK (rds S r) (4 * 1+2) 7) (drK (rds S r) (4 * 1+2) 8) (drK (rds S r) (4 * 1+2) 13)))) | 2=> ((ww.setCell ⟨A+1,2,none⟩ (.int .u32 (qA (drK (rds S r) (4 * 1+2) 2) (drK (rds S r) (4 * 1+2) 7) (drK (rds S r) (4 * 1+2) 8) (drK (rds S r) (4 * 1+2) 13)))).setCell ⟨A+1,7,none⟩ (.int .u32 (qB (drK (rds S r) (4 * 1+2) 2) (drK (rds S r) (4 * 1+2) 7) (drK (rds S r) (4 * 1+2) 8) (drK (rds S r) (4 * 1+2) 13)))) | 3=> (((ww.setCell ⟨A+1,2,none⟩ (.int .u32 (qA (drK (rds S r) (4 * 1+2) 2) (drK (rds S r) (4 * 1+2) 7) (drK (rds S r) (4 * 1+2) 8) (drK (rds S r) (4 * 1+2) 13)))).setCell ⟨A+1,7,none⟩ (.int .u32 (qB (drK (rds S r) (4 * 1+2) 2) (drK (rds S r) (4 * 1+2) 7) (drK (rds S r) (4 * 1+2) 8) (drK (rds S r) (4 * 1+2) 13)))).setCell ⟨A+1,8,none⟩ (.int .u32 (qC (drK (rds S r) (4 * 1+2) 2) (drK (rds S r) (4 * 1+2) 7) (drK (rds S r) (4 * 1+2) 8) (drK (rds S r) (4 * 1+2) 13)))) | _=> ((((ww.setCell ⟨A+1,2,none⟩ (.int .u32 (qA (drK (rds S r) (4 * 1+2) 2) (drK (rds S r) (4 * 1+2) 7) (drK (rds S r) (4 * 1+2) 8) (drK (rds S r) (4 * 1+2) 13)))).setCell ⟨A+1,7,none⟩ (.int .u32 (qB (drK (rds S r) (4 * 1+2) 2) (drK (rds S r) (4 * 1+2) 7) (drK (rds S r) (4 * 1+2) 8) (drK (rds S r) (4 * 1+2) 13)))).setCell ⟨A+1,8,none⟩ (.int .u32 (qC (drK (rds S r) (4 * 1+2) 2) (drK (rds S r) (4 * 1+2) 7) (drK (rds S r) (4 * 1+2) 8) (drK (rds S r) (4 * 1+2) 13)))).setCell ⟨A+1,13,none⟩ (.int .u32 (qD (drK (rds S r) (4 * 1+2) 2) (drK (rds S r) (4 * 1+2) 7) (drK (rds S r) (4 * 1+2) 8) (drK (rds S r) (4 * 1+2) 13))))) (fun _=> rfl) ?_ ?_ ?_ ?_
        ·refine Each.all ?_
         refine ⟨?_,(fun _ h=> absurd h (by decide)),(fun _ h=> absurd h (by decide)),(fun _ h=> absurd h (by decide)),?_,?_,?_,?_,?_,?_,?_,?_,?_,?_,?_,?_,?_,?_,?_,(fun _ h=> absurd h (by decide)),(fun _ h=> absurd h (by decide)),(fun _ h=> absurd h (by decide)),?_,(fun h=> absurd h (by decide)),(fun _ h=> absurd h (by decide)),(fun h=> absurd h (by decide)),(fun _ h=> absurd h (by decide)),(fun h=> absurd h (by decide)),(fun _ h=> absurd h (by decide)),(fun h=> absurd h (by decide)),trivial⟩
         ·intro _ _ a w2 hB hF hd
          rw [if_pos (wanted_none rfl)]
          exact flow_move _ (.inl rfl) (by simp) (hF.same 10 rfl)
         ·intro _ _ a w2 hB hF hd
          rw [if_pos (wanted_none rfl)]
          exact flow_move _ (.inl rfl) (by simp) (hF.same 10 rfl)
         ·intro _ _ a w2 hB hF hd
          rw [if_pos (wanted_none rfl)]
          exact flow_val (fun h=> by cases h) (run_index_addr rfl (hF.same 8 rfl) (hd 4 _ rfl rfl (waits_spec rfl)) Try.underlying122 (by kernel_rfl) (by decide) (by decide)) rfl
         ·intro _ _ a w2 hB hF hd
          rw [if_pos (wanted_none rfl)]
          exact flow_val (fun h=> by cases h) (run_load_cell rfl (hd 5 _ rfl rfl (waits_spec rfl)) Try.underlying99 ((hW.kept hB).cell 2 (by decide))) rfl
         ·intro _ _ a w2 hB hF hd
          rw [if_pos (wanted_none rfl)]
          exact flow_move _ (.inl rfl) (by simp) (hF.same 11 rfl)
         ·intro _ _ a w2 hB hF hd
          rw [if_pos (wanted_none rfl)]
          exact flow_val (fun h=> by cases h) (run_index_addr rfl (hF.same 8 rfl) (hd 7 _ rfl rfl (waits_spec rfl)) Try.underlying122 (by kernel_rfl) (by decide) (by decide)) rfl
         ·intro _ _ a w2 hB hF hd
          rw [if_pos (wanted_none rfl)]
          exact flow_val (fun h=> by cases h) (run_load_cell rfl (hd 8 _ rfl rfl (waits_spec rfl)) Try.underlying99 ((hW.kept hB).cell 7 (by decide))) rfl
         ·intro _ _ a w2 hB hF hd
          rw [if_pos (wanted_none rfl)]
          exact flow_move _ (.inl rfl) (by simp) (hF.same 12 rfl)
         ·intro _ _ a w2 hB hF hd
          rw [if_pos (wanted_none rfl)]
          exact flow_val (fun h=> by cases h) (run_index_addr rfl (hF.same 8 rfl) (hd 10 _ rfl rfl (waits_spec rfl)) Try.underlying122 (by kernel_rfl) (by decide) (by decide)) rfl
         ·intro _ _ a w2 hB hF hd
          rw [if_pos (wanted_none rfl)]
          exact flow_val (fun h=> by cases h) (run_load_cell rfl (hd 11 _ rfl rfl (waits_spec rfl)) Try.underlying99 ((hW.kept hB).cell 8 (by decide))) rfl
         ·intro _ _ a w2 hB hF hd
          rw [if_pos (wanted_none rfl)]
          exact flow_move _ (.inl rfl) (by simp) (hF.same 13 rfl)
         ·intro _ _ a w2 hB hF hd
          rw [if_pos (wanted_none rfl)]
          exact flow_val (fun h=> by cases h) (run_index_addr rfl (hF.same 8 rfl) (hd 13 _ rfl rfl (waits_spec rfl)) Try.underlying122 (by kernel_rfl) (by decide) (by decide)) rfl
         ·intro _ _ a w2 hB hF hd
          rw [if_pos (wanted_none rfl)]
          exact flow_val (fun h=> by cases h) (run_load_cell rfl (hd 14 _ rfl rfl (waits_spec rfl)) Try.underlying99 ((hW.kept hB).cell 13 (by decide))) rfl
         ·intro _ _ a w2 hB hF hd
          rw [if_pos (wanted_none rfl)]
          refine flow_call _ _ _ rfl Try.call77 _ (args4 (hd 6 _ rfl rfl (waits_spec rfl)) (hd 9 _ rfl rfl (waits_spec rfl)) (hd 12 _ rfl rfl (waits_spec rfl)) (hd 15 _ rfl rfl (waits_spec rfl))) (by simp) ((QuarterB_any (drK (rds S r) (4 * 1+2) 2) (drK (rds S r) (4 * 1+2) 7) (drK (rds S r) (4 * 1+2) 8) (drK (rds S r) (4 * 1+2) 13) B2 B7 B8 B13 w2).mono ?_)
          rintro e w3 ⟨rfl,hb⟩;exact ⟨_,rfl,rfl,hb⟩
         ·intro _ _ a w2 hB hF hd
          rw [if_pos (wanted_none rfl)]
          exact flow_move _ (.inl rfl) (by simp) (hd 16 _ rfl rfl (waits_spec rfl))
         ·intro _ _ a w2 hB hF hd
          rw [if_pos (wanted_none rfl)]
          exact flow_val (fun h=> by cases h) (run_extract rfl (hd 17 _ rfl rfl (waits_spec rfl)) rfl) rfl
         ·intro _ _ a w2 hB hF hd
          rw [if_pos (wanted_none rfl)]
          exact flow_val (fun h=> by cases h) (run_index_addr rfl (hF.same 8 rfl) (hd 0 _ rfl rfl (waits_spec rfl)) Try.underlying122 (by kernel_rfl) (by decide) (by decide)) rfl
        ·refine Each.all ?_
         refine ⟨(fun _ h=> absurd h (by decide)),?_,?_,?_,(fun _ h=> absurd h (by decide)),(fun _ h=> absurd h (by decide)),(fun _ h=> absurd h (by decide)),(fun _ h=> absurd h (by decide)),(fun _ h=> absurd h (by decide)),(fun _ h=> absurd h (by decide)),(fun _ h=> absurd h (by decide)),(fun _ h=> absurd h (by decide)),(fun _ h=> absurd h (by decide)),(fun _ h=> absurd h (by decide)),(fun _ h=> absurd h (by decide)),(fun _ h=> absurd h (by decide)),(fun _ h=> absurd h (by decide)),(fun _ h=> absurd h (by decide)),(fun _ h=> absurd h (by decide)),?_,?_,?_,(fun _ h=> absurd h (by decide)),(fun h=> absurd h (by decide)),?_,(fun h=> absurd h (by decide)),?_,(fun h=> absurd h (by decide)),?_,(fun h=> absurd h (by decide)),trivial⟩
         ·intro _ _ a w1 w2 hB hF hd
          rw [if_pos (wanted_none rfl)]
          exact pure_move _ (.inl rfl) (by simp) (hF.same 11 rfl)
         ·intro _ _ a w1 w2 hB hF hd
          rw [if_pos (wanted_none rfl)]
          exact pure_move _ (.inl rfl) (by simp) (hF.same 12 rfl)
         ·intro _ _ a w1 w2 hB hF hd
          rw [if_pos (wanted_none rfl)]
          exact pure_move _ (.inl rfl) (by simp) (hF.same 13 rfl)
         ·intro _ _ a w1 w2 hB hF hd
          rw [if_pos (wanted_none rfl)]
          exact pure_val (fun h=> by cases h) (run_extract rfl (hd 17 _ rfl rfl (waits_spec rfl)) rfl) rfl
         ·intro _ _ a w1 w2 hB hF hd
          rw [if_pos (wanted_none rfl)]
          exact pure_val (fun h=> by cases h) (run_extract rfl (hd 17 _ rfl rfl (waits_spec rfl)) rfl) rfl
         ·intro _ _ a w1 w2 hB hF hd
          rw [if_pos (wanted_none rfl)]
          exact pure_val (fun h=> by cases h) (run_extract rfl (hd 17 _ rfl rfl (waits_spec rfl)) rfl) rfl
         ·intro _ _ a w1 w2 hB hF hd
          rw [if_pos (wanted_none rfl)]
          exact pure_val (fun h=> by cases h) (run_index_addr rfl (hF.same 8 rfl) (hd 1 _ rfl rfl (waits_spec rfl)) Try.underlying122 (by kernel_rfl) (by decide) (by decide)) rfl
         ·intro _ _ a w1 w2 hB hF hd
          rw [if_pos (wanted_none rfl)]
          exact pure_val (fun h=> by cases h) (run_index_addr rfl (hF.same 8 rfl) (hd 2 _ rfl rfl (waits_spec rfl)) Try.underlying122 (by kernel_rfl) (by decide) (by decide)) rfl
         ·intro _ _ a w1 w2 hB hF hd
          rw [if_pos (wanted_none rfl)]
          exact pure_val (fun h=> by cases h) (run_index_addr rfl (hF.same 8 rfl) (hd 3 _ rfl rfl (waits_spec rfl)) Try.underlying122 (by kernel_rfl) (by decide) (by decide)) rfl
        ·intro q o hq ho
         rcases (by simp at hq;omega:q=0∨q=1∨q=2∨q=3) with rfl | rfl | rfl | rfl
         ·obtain rfl:=Option.some.inj ho
          intro a w2 K hB hF hd hK
          exact wp_store_cell 99 _ _ rfl rfl (A+1) (2) 16 _ (qA (drK (rds S r) (4 * 1+2) 2) (drK (rds S r) (4 * 1+2) 7) (drK (rds S r) (4 * 1+2) 8) (drK (rds S r) (4 * 1+2) 13)) Try.size99 (hd 22 _ rfl rfl (waits_spec rfl)) (hd 18 _ rfl rfl (waits_spec rfl)) (hW.kept hB) (by first | decide | omega) hK
         ·obtain rfl:=Option.some.inj ho
          intro a w2 K hB hF hd hK
          exact wp_store_cell 99 _ _ rfl rfl (A+1) (7) 16 _ (qB (drK (rds S r) (4 * 1+2) 2) (drK (rds S r) (4 * 1+2) 7) (drK (rds S r) (4 * 1+2) 8) (drK (rds S r) (4 * 1+2) 13)) Try.size99 (hd 24 _ rfl rfl (waits_spec rfl)) (hd 19 _ rfl rfl (waits_spec rfl)) ((hW.kept hB).set (2) (qA (drK (rds S r) (4 * 1+2) 2) (drK (rds S r) (4 * 1+2) 7) (drK (rds S r) (4 * 1+2) 8) (drK (rds S r) (4 * 1+2) 13))) (by first | decide | omega) hK
         ·obtain rfl:=Option.some.inj ho
          intro a w2 K hB hF hd hK
          exact wp_store_cell 99 _ _ rfl rfl (A+1) (8) 16 _ (qC (drK (rds S r) (4 * 1+2) 2) (drK (rds S r) (4 * 1+2) 7) (drK (rds S r) (4 * 1+2) 8) (drK (rds S r) (4 * 1+2) 13)) Try.size99 (hd 26 _ rfl rfl (waits_spec rfl)) (hd 20 _ rfl rfl (waits_spec rfl)) (((hW.kept hB).set (2) (qA (drK (rds S r) (4 * 1+2) 2) (drK (rds S r) (4 * 1+2) 7) (drK (rds S r) (4 * 1+2) 8) (drK (rds S r) (4 * 1+2) 13))).set (7) (qB (drK (rds S r) (4 * 1+2) 2) (drK (rds S r) (4 * 1+2) 7) (drK (rds S r) (4 * 1+2) 8) (drK (rds S r) (4 * 1+2) 13))) (by first | decide | omega) hK
         ·obtain rfl:=Option.some.inj ho
          intro a w2 K hB hF hd hK
          exact wp_store_cell 99 _ _ rfl rfl (A+1) (13) 16 _ (qD (drK (rds S r) (4 * 1+2) 2) (drK (rds S r) (4 * 1+2) 7) (drK (rds S r) (4 * 1+2) 8) (drK (rds S r) (4 * 1+2) 13)) Try.size99 (hd 28 _ rfl rfl (waits_spec rfl)) (hd 21 _ rfl rfl (waits_spec rfl)) ((((hW.kept hB).set (2) (qA (drK (rds S r) (4 * 1+2) 2) (drK (rds S r) (4 * 1+2) 7) (drK (rds S r) (4 * 1+2) 8) (drK (rds S r) (4 * 1+2) 13))).set (7) (qB (drK (rds S r) (4 * 1+2) 2) (drK (rds S r) (4 * 1+2) 7) (drK (rds S r) (4 * 1+2) 8) (drK (rds S r) (4 * 1+2) 13))).set (8) (qC (drK (rds S r) (4 * 1+2) 2) (drK (rds S r) (4 * 1+2) 7) (drK (rds S r) (4 * 1+2) 8) (drK (rds S r) (4 * 1+2) 13))) (by first | decide | omega) hK
        ·intro a w4 hB hF hS
         have ha:=puts_each rfl rfl hF [_,_,_,_,_,_,_,_,_,_,_,_,_,_,_,_,_,_,_,_,_,_,_,undef,_,undef,_,undef,_,undef] rfl ⟨hS 0 _ rfl rfl,hS 1 _ rfl rfl,hS 2 _ rfl rfl,hS 3 _ rfl rfl,hS 4 _ rfl rfl,hS 5 _ rfl rfl,hS 6 _ rfl rfl,hS 7 _ rfl rfl,hS 8 _ rfl rfl,hS 9 _ rfl rfl,hS 10 _ rfl rfl,hS 11 _ rfl rfl,hS 12 _ rfl rfl,hS 13 _ rfl rfl,hS 14 _ rfl rfl,hS 15 _ rfl rfl,hS 16 _ rfl rfl,hS 17 _ rfl rfl,hS 18 _ rfl rfl,hS 19 _ rfl rfl,hS 20 _ rfl rfl,hS 21 _ rfl rfl,hS 22 _ rfl rfl,trivial,hS 24 _ rfl rfl,trivial,hS 26 _ rfl rfl,trivial,hS 28 _ rfl rfl,trivial,trivial⟩
         simp only [puts,Act.put,List.setIfInBounds_toArray,List.set_cons_succ,List.set_cons_zero] at ha
         subst ha
         have VA:=(((((hW.kept hB).set (2) (qA (drK (rds S r) (4 * 1+2) 2) (drK (rds S r) (4 * 1+2) 7) (drK (rds S r) (4 * 1+2) 8) (drK (rds S r) (4 * 1+2) 13))).set (7) (qB (drK (rds S r) (4 * 1+2) 2) (drK (rds S r) (4 * 1+2) 7) (drK (rds S r) (4 * 1+2) 8) (drK (rds S r) (4 * 1+2) 13))).set (8) (qC (drK (rds S r) (4 * 1+2) 2) (drK (rds S r) (4 * 1+2) 7) (drK (rds S r) (4 * 1+2) 8) (drK (rds S r) (4 * 1+2) 13))).set (13) (qD (drK (rds S r) (4 * 1+2) 2) (drK (rds S r) (4 * 1+2) 7) (drK (rds S r) (4 * 1+2) 8) (drK (rds S r) (4 * 1+2) 13)))
         clear hS hF
         have hZ4:=(((((HZ.out.kept hB).other (p:=⟨A+1,2,none⟩) (by simp;omega) (.int .u32 (qA (drK (rds S r) (4 * 1+2) 2) (drK (rds S r) (4 * 1+2) 7) (drK (rds S r) (4 * 1+2) 8) (drK (rds S r) (4 * 1+2) 13)))).other (p:=⟨A+1,7,none⟩) (by simp;omega) (.int .u32 (qB (drK (rds S r) (4 * 1+2) 2) (drK (rds S r) (4 * 1+2) 7) (drK (rds S r) (4 * 1+2) 8) (drK (rds S r) (4 * 1+2) 13)))).other (p:=⟨A+1,8,none⟩) (by simp;omega) (.int .u32 (qC (drK (rds S r) (4 * 1+2) 2) (drK (rds S r) (4 * 1+2) 7) (drK (rds S r) (4 * 1+2) 8) (drK (rds S r) (4 * 1+2) 13)))).other (p:=⟨A+1,13,none⟩) (by simp;omega) (.int .u32 (qD (drK (rds S r) (4 * 1+2) 2) (drK (rds S r) (4 * 1+2) 7) (drK (rds S r) (4 * 1+2) 8) (drK (rds S r) (4 * 1+2) 13))))
         have hA4:=(((((HA.out.kept hB).other (p:=⟨A+1,2,none⟩) (by simp) (.int .u32 (qA (drK (rds S r) (4 * 1+2) 2) (drK (rds S r) (4 * 1+2) 7) (drK (rds S r) (4 * 1+2) 8) (drK (rds S r) (4 * 1+2) 13)))).other (p:=⟨A+1,7,none⟩) (by simp) (.int .u32 (qB (drK (rds S r) (4 * 1+2) 2) (drK (rds S r) (4 * 1+2) 7) (drK (rds S r) (4 * 1+2) 8) (drK (rds S r) (4 * 1+2) 13)))).other (p:=⟨A+1,8,none⟩) (by simp) (.int .u32 (qC (drK (rds S r) (4 * 1+2) 2) (drK (rds S r) (4 * 1+2) 7) (drK (rds S r) (4 * 1+2) 8) (drK (rds S r) (4 * 1+2) 13)))).other (p:=⟨A+1,13,none⟩) (by simp) (.int .u32 (qD (drK (rds S r) (4 * 1+2) 2) (drK (rds S r) (4 * 1+2) 7) (drK (rds S r) (4 * 1+2) 8) (drK (rds S r) (4 * 1+2) 13))))
         have hb4:=(((((HB.out.trans (hB.mono HB.out.size)).setCell (p:=⟨A+1,2,none⟩) (by simp;omega) (.int .u32 (qA (drK (rds S r) (4 * 1+2) 2) (drK (rds S r) (4 * 1+2) 7) (drK (rds S r) (4 * 1+2) 8) (drK (rds S r) (4 * 1+2) 13)))).setCell (p:=⟨A+1,7,none⟩) (by simp;omega) (.int .u32 (qB (drK (rds S r) (4 * 1+2) 2) (drK (rds S r) (4 * 1+2) 7) (drK (rds S r) (4 * 1+2) 8) (drK (rds S r) (4 * 1+2) 13)))).setCell (p:=⟨A+1,8,none⟩) (by simp;omega) (.int .u32 (qC (drK (rds S r) (4 * 1+2) 2) (drK (rds S r) (4 * 1+2) 7) (drK (rds S r) (4 * 1+2) 8) (drK (rds S r) (4 * 1+2) 13)))).setCell (p:=⟨A+1,13,none⟩) (by simp;omega) (.int .u32 (qD (drK (rds S r) (4 * 1+2) 2) (drK (rds S r) (4 * 1+2) 7) (drK (rds S r) (4 * 1+2) 8) (drK (rds S r) (4 * 1+2) 13))))
         have hW4:=VA.congr (g:=drK (rds S r) (4 * 1+(2+1))) (fun i _=> upd4_qrF (drK (rds S r) (4 * 1+2)) 2 7 8 13 (by decide) i)
         clear VA hW hB
         go_upto_region 13 with (fail)
         refine wp_world (fun w5=> Arr .u8 w5 (w.heap.size+2) 64 (fun _=> 0)∧Arr .u32 w5 A 16 S∧Arr .u32 w5 (A+1) 16 (drK (rds S r) (4 * 1+(2+1)))∧Below w.heap.size w w5) ⟨hZ4,hA4,hW4,hb4⟩ ?_
         rintro w5 ⟨hZ5,hA5,hW5,hb5⟩
         clear hZ4 hA4 hW4 hb4 HZ HA HW HB
         go_wp2
         go_roundw
         case rel=> exact ⟨2+1,by decide,rfl,hZ5,hA5,hW5,hb5⟩
         case measure=> simp [intOf]
       ·go_upto_region 12 with (fail)
        have hW:=HW.out
        have B3:=HDB.out r (4 * 0+3) 3 (by decide)
        have B7:=HDB.out r (4 * 0+3) 7 (by decide)
        have B11:=HDB.out r (4 * 0+3) 11 (by decide)
        have B15:=HDB.out r (4 * 0+3) 15 (by decide)
        refine region_chain (n:=90) [23,25,27,29] (fun i=> [1,2,3,19,20,21,24,26,28].contains i) (by kernel_rfl) (by kernel_rfl) (by kernel_rfl) (by kernel_rfl) rfl
         (fun ii vv _=> (match ii with | 0 | 4=> vv=.int .i64 (3) | 1 | 7=> vv=.int .i64 (7) | 2 | 10=> vv=.int .i64 (11) | 3 | 13=> vv=.int .i64 (15) | 5 | 22=> vv=.pointer (some ⟨A+1,3,none⟩) | 6=> vv=.int .u32 (drK (rds S r) (4 * 0+3) 3) | 8 | 24=> vv=.pointer (some ⟨A+1,7,none⟩) | 9=> vv=.int .u32 (drK (rds S r) (4 * 0+3) 7) | 11 | 26=> vv=.pointer (some ⟨A+1,11,none⟩) | 12=> vv=.int .u32 (drK (rds S r) (4 * 0+3) 11) | 14 | 28=> vv=.pointer (some ⟨A+1,15,none⟩) | 15=> vv=.int .u32 (drK (rds S r) (4 * 0+3) 15) | 16 | 17=> vv=.tuple #[.int .u32 (qA (drK (rds S r) (4 * 0+3) 3) (drK (rds S r) (4 * 0+3) 7) (drK (rds S r) (4 * 0+3) 11) (drK (rds S r) (4 * 0+3) 15)),.int .u32 (qB (drK (rds S r) (4 * 0+3) 3) (drK (rds S r) (4 * 0+3) 7) (drK (rds S r) (4 * 0+3) 11) (drK (rds S r) (4 * 0+3) 15)),.int .u32 (qC (drK (rds S r) (4 * 0+3) 3) (drK (rds S r) (4 * 0+3) 7) (drK (rds S r) (4 * 0+3) 11) (drK (rds S r) (4 * 0+3) 15)),.int .u32 (qD (drK (rds S r) (4 * 0+3) 3) (drK (rds S r) (4 * 0+3) 7) (drK (rds S r) (4 * 0+3) 11) (drK (rds S r) (4 * 0+3) 15))] | 18=> vv=.int .u32 (qA (drK (rds S r) (4 * 0+3) 3) (drK (rds S r) (4 * 0+3) 7) (drK (rds S r) (4 * 0+3) 11) (drK (rds S r) (4 * 0+3) 15)) | 19=> vv=.int .u32 (qB (drK (rds S r) (4 * 0+3) 3) (drK (rds S r) (4 * 0+3) 7) (drK (rds S r) (4 * 0+3) 11) (drK (rds S r) (4 * 0+3) 15)) | 20=> vv=.int .u32 (qC (drK (rds S r) (4 * 0+3) 3) (drK (rds S r) (4 * 0+3) 7) (drK (rds S r) (4 * 0+3) 11) (drK (rds S r) (4 * 0+3) 15)) | 21=> vv=.int .u32 (qD (drK (rds S r) (4 * 0+3) 3) (drK (rds S r) (4 * 0+3) 7) (drK (rds S r) (4 * 0+3) 11) (drK (rds S r) (4 * 0+3) 15)) | _=> True))
         (fun _ _ _ _ h _=> h)
         (fun m ww=> match m with | 0=> ww | 1=> (ww.setCell ⟨A+1,3,none⟩ (.int .u32 (qA (drK (rds S r) (4 * 0+3) 3) (drK (rds S r) (4 * 0+3) 7) (drK (rds S r) (4 * 0+3) 11) (drK (rds S r) (4 * 0+3) 15)))) | 2=> ((ww.setCell ⟨A+1,3,none⟩ (.int .u32 (qA (drK (rds S r) (4 * 0+3) 3) (drK (rds S r) (4 * 0+3) 7) (drK (rds S r) (4 * 0+3) 11) (drK (rds S r) (4 * 0+3) 15)))).setCell ⟨A+1,7,none⟩ (.int .u32 (qB (drK (rds S r) (4 * 0+3) 3) (drK (rds S r) (4 * 0+3) 7) (drK (rds S r) (4 * 0+3) 11) (drK (rds S r) (4 * 0+3) 15)))) | 3=> (((ww.setCell ⟨A+1,3,none⟩ (.int .u32 (qA (drK (rds S r) (4 * 0+3) 3) (drK (rds S r) (4 * 0+3) 7) (drK (rds S r) (4 * 0+3) 11) (drK (rds S r) (4 * 0+3) 15)))).setCell ⟨A+1,7,none⟩ (.int .u32 (qB (drK (rds S r) (4 * 0+3) 3) (drK (rds S r) (4 * 0+3) 7) (drK (rds S r) (4 * 0+3) 11) (drK (rds S r) (4 * 0+3) 15)))).setCell ⟨A+1,11,none⟩ (.int .u32 (qC (drK (rds S r) (4 * 0+3) 3) (drK (rds S r) (4 * 0+3) 7) (drK (rds S r) (4 * 0+3) 11) (drK (rds S r) (4 * 0+3) 15)))) | _=> ((((ww.setCell ⟨A+1,3,none⟩ (.int .u32 (qA (drK (rds S r) (4 * 0+3) 3) (drK (rds S r) (4 * 0+3) 7) (drK (rds S r) (4 * 0+3) 11) (drK (rds S r) (4 * 0+3) 15)))).setCell ⟨A+1,7,none⟩ (.int .u32 (qB (drK (rds S r) (4 * 0+3) 3) (drK (rds S r) (4 * 0+3) 7) (drK (rds S r) (4 * 0+3) 11) (drK (rds S r) (4 * 0+3) 15)))).setCell ⟨A+1,11,none⟩ (.int .u32 (qC (drK (rds S r) (4 * 0+3) 3) (drK (rds S r) (4 * 0+3) 7) (drK (rds S r) (4 * 0+3) 11) (drK (rds S r) (4 * 0+3) 15)))).setCell ⟨A+1,15,none⟩ (.int .u32 (qD (drK (rds S r) (4 * 0+3) 3) (drK (rds S r) (4 * 0+3) 7) (drK (rds S r) (4 * 0+3) 11) (drK (rds S r) (4 * 0+3) 15))))) (fun _=> rfl) ?_ ?_ ?_ ?_
        ·refine Each.all ?_
         refine ⟨?_,(fun _ h=> absurd h (by decide)),(fun _ h=> absurd h (by decide)),(fun _ h=> absurd h (by decide)),?_,?_,?_,?_,?_,?_,?_,?_,?_,?_,?_,?_,?_,?_,?_,(fun _ h=> absurd h (by decide)),(fun _ h=> absurd h (by decide)),(fun _ h=> absurd h (by decide)),?_,(fun h=> absurd h (by decide)),(fun _ h=> absurd h (by decide)),(fun h=> absurd h (by decide)),(fun _ h=> absurd h (by decide)),(fun h=> absurd h (by decide)),(fun _ h=> absurd h (by decide)),(fun h=> absurd h (by decide)),trivial⟩
         ·intro _ _ a w2 hB hF hd
          rw [if_pos (wanted_none rfl)]
          exact flow_move _ (.inl rfl) (by simp) (hF.same 10 rfl)
         ·intro _ _ a w2 hB hF hd
          rw [if_pos (wanted_none rfl)]
          exact flow_move _ (.inl rfl) (by simp) (hF.same 10 rfl)
         ·intro _ _ a w2 hB hF hd
          rw [if_pos (wanted_none rfl)]
          exact flow_val (fun h=> by cases h) (run_index_addr rfl (hF.same 8 rfl) (hd 4 _ rfl rfl (waits_spec rfl)) Try.underlying122 (by kernel_rfl) (by decide) (by decide)) rfl
         ·intro _ _ a w2 hB hF hd
          rw [if_pos (wanted_none rfl)]
          exact flow_val (fun h=> by cases h) (run_load_cell rfl (hd 5 _ rfl rfl (waits_spec rfl)) Try.underlying99 ((hW.kept hB).cell 3 (by decide))) rfl
         ·intro _ _ a w2 hB hF hd
          rw [if_pos (wanted_none rfl)]
          exact flow_move _ (.inl rfl) (by simp) (hF.same 11 rfl)
         ·intro _ _ a w2 hB hF hd
          rw [if_pos (wanted_none rfl)]
          exact flow_val (fun h=> by cases h) (run_index_addr rfl (hF.same 8 rfl) (hd 7 _ rfl rfl (waits_spec rfl)) Try.underlying122 (by kernel_rfl) (by decide) (by decide)) rfl
         ·intro _ _ a w2 hB hF hd
          rw [if_pos (wanted_none rfl)]
          exact flow_val (fun h=> by cases h) (run_load_cell rfl (hd 8 _ rfl rfl (waits_spec rfl)) Try.underlying99 ((hW.kept hB).cell 7 (by decide))) rfl
         ·intro _ _ a w2 hB hF hd
          rw [if_pos (wanted_none rfl)]
          exact flow_move _ (.inl rfl) (by simp) (hF.same 12 rfl)
         ·intro _ _ a w2 hB hF hd
          rw [if_pos (wanted_none rfl)]
          exact flow_val (fun h=> by cases h) (run_index_addr rfl (hF.same 8 rfl) (hd 10 _ rfl rfl (waits_spec rfl)) Try.underlying122 (by kernel_rfl) (by decide) (by decide)) rfl
         ·intro _ _ a w2 hB hF hd
          rw [if_pos (wanted_none rfl)]
          exact flow_val (fun h=> by cases h) (run_load_cell rfl (hd 11 _ rfl rfl (waits_spec rfl)) Try.underlying99 ((hW.kept hB).cell 11 (by decide))) rfl
         ·intro _ _ a w2 hB hF hd
          rw [if_pos (wanted_none rfl)]
          exact flow_move _ (.inl rfl) (by simp) (hF.same 13 rfl)
         ·intro _ _ a w2 hB hF hd
          rw [if_pos (wanted_none rfl)]
          exact flow_val (fun h=> by cases h) (run_index_addr rfl (hF.same 8 rfl) (hd 13 _ rfl rfl (waits_spec rfl)) Try.underlying122 (by kernel_rfl) (by decide) (by decide)) rfl
         ·intro _ _ a w2 hB hF hd
          rw [if_pos (wanted_none rfl)]
          exact flow_val (fun h=> by cases h) (run_load_cell rfl (hd 14 _ rfl rfl (waits_spec rfl)) Try.underlying99 ((hW.kept hB).cell 15 (by decide))) rfl
         ·intro _ _ a w2 hB hF hd
          rw [if_pos (wanted_none rfl)]
          refine flow_call _ _ _ rfl Try.call77 _ (args4 (hd 6 _ rfl rfl (waits_spec rfl)) (hd 9 _ rfl rfl (waits_spec rfl)) (hd 12 _ rfl rfl (waits_spec rfl)) (hd 15 _ rfl rfl (waits_spec rfl))) (by simp) ((QuarterB_any (drK (rds S r) (4 * 0+3) 3) (drK (rds S r) (4 * 0+3) 7) (drK (rds S r) (4 * 0+3) 11) (drK (rds S r) (4 * 0+3) 15) B3 B7 B11 B15 w2).mono ?_)
          rintro e w3 ⟨rfl,hb⟩;exact ⟨_,rfl,rfl,hb⟩
         ·intro _ _ a w2 hB hF hd
          rw [if_pos (wanted_none rfl)]
          exact flow_move _ (.inl rfl) (by simp) (hd 16 _ rfl rfl (waits_spec rfl))
         ·intro _ _ a w2 hB hF hd
          rw [if_pos (wanted_none rfl)]
          exact flow_val (fun h=> by cases h) (run_extract rfl (hd 17 _ rfl rfl (waits_spec rfl)) rfl) rfl
         ·intro _ _ a w2 hB hF hd
          rw [if_pos (wanted_none rfl)]
          exact flow_val (fun h=> by cases h) (run_index_addr rfl (hF.same 8 rfl) (hd 0 _ rfl rfl (waits_spec rfl)) Try.underlying122 (by kernel_rfl) (by decide) (by decide)) rfl
        ·refine Each.all ?_
         refine ⟨(fun _ h=> absurd h (by decide)),?_,?_,?_,(fun _ h=> absurd h (by decide)),(fun _ h=> absurd h (by decide)),(fun _ h=> absurd h (by decide)),(fun _ h=> absurd h (by decide)),(fun _ h=> absurd h (by decide)),(fun _ h=> absurd h (by decide)),(fun _ h=> absurd h (by decide)),(fun _ h=> absurd h (by decide)),(fun _ h=> absurd h (by decide)),(fun _ h=> absurd h (by decide)),(fun _ h=> absurd h (by decide)),(fun _ h=> absurd h (by decide)),(fun _ h=> absurd h (by decide)),(fun _ h=> absurd h (by decide)),(fun _ h=> absurd h (by decide)),?_,?_,?_,(fun _ h=> absurd h (by decide)),(fun h=> absurd h (by decide)),?_,(fun h=> absurd h (by decide)),?_,(fun h=> absurd h (by decide)),?_,(fun h=> absurd h (by decide)),trivial⟩
         ·intro _ _ a w1 w2 hB hF hd
          rw [if_pos (wanted_none rfl)]
          exact pure_move _ (.inl rfl) (by simp) (hF.same 11 rfl)
         ·intro _ _ a w1 w2 hB hF hd
          rw [if_pos (wanted_none rfl)]
          exact pure_move _ (.inl rfl) (by simp) (hF.same 12 rfl)
         ·intro _ _ a w1 w2 hB hF hd
          rw [if_pos (wanted_none rfl)]
          exact pure_move _ (.inl rfl) (by simp) (hF.same 13 rfl)
         ·intro _ _ a w1 w2 hB hF hd
          rw [if_pos (wanted_none rfl)]
          exact pure_val (fun h=> by cases h) (run_extract rfl (hd 17 _ rfl rfl (waits_spec rfl)) rfl) rfl
         ·intro _ _ a w1 w2 hB hF hd
          rw [if_pos (wanted_none rfl)]
          exact pure_val (fun h=> by cases h) (run_extract rfl (hd 17 _ rfl rfl (waits_spec rfl)) rfl) rfl
         ·intro _ _ a w1 w2 hB hF hd
          rw [if_pos (wanted_none rfl)]
          exact pure_val (fun h=> by cases h) (run_extract rfl (hd 17 _ rfl rfl (waits_spec rfl)) rfl) rfl
         ·intro _ _ a w1 w2 hB hF hd
          rw [if_pos (wanted_none rfl)]
          exact pure_val (fun h=> by cases h) (run_index_addr rfl (hF.same 8 rfl) (hd 1 _ rfl rfl (waits_spec rfl)) Try.underlying122 (by kernel_rfl) (by decide) (by decide)) rfl
         ·intro _ _ a w1 w2 hB hF hd
          rw [if_pos (wanted_none rfl)]
          exact pure_val (fun h=> by cases h) (run_index_addr rfl (hF.same 8 rfl) (hd 2 _ rfl rfl (waits_spec rfl)) Try.underlying122 (by kernel_rfl) (by decide) (by decide)) rfl
         ·intro _ _ a w1 w2 hB hF hd
          rw [if_pos (wanted_none rfl)]
          exact pure_val (fun h=> by cases h) (run_index_addr rfl (hF.same 8 rfl) (hd 3 _ rfl rfl (waits_spec rfl)) Try.underlying122 (by kernel_rfl) (by decide) (by decide)) rfl
        ·intro q o hq ho
         rcases (by simp at hq;omega:q=0∨q=1∨q=2∨q=3) with rfl | rfl | rfl | rfl
         ·obtain rfl:=Option.some.inj ho
          intro a w2 K hB hF hd hK
          exact wp_store_cell 99 _ _ rfl rfl (A+1) (3) 16 _ (qA (drK (rds S r) (4 * 0+3) 3) (drK (rds S r) (4 * 0+3) 7) (drK (rds S r) (4 * 0+3) 11) (drK (rds S r) (4 * 0+3) 15)) Try.size99 (hd 22 _ rfl rfl (waits_spec rfl)) (hd 18 _ rfl rfl (waits_spec rfl)) (hW.kept hB) (by first | decide | omega) hK
         ·obtain rfl:=Option.some.inj ho
          intro a w2 K hB hF hd hK
          exact wp_store_cell 99 _ _ rfl rfl (A+1) (7) 16 _ (qB (drK (rds S r) (4 * 0+3) 3) (drK (rds S r) (4 * 0+3) 7) (drK (rds S r) (4 * 0+3) 11) (drK (rds S r) (4 * 0+3) 15)) Try.size99 (hd 24 _ rfl rfl (waits_spec rfl)) (hd 19 _ rfl rfl (waits_spec rfl)) ((hW.kept hB).set (3) (qA (drK (rds S r) (4 * 0+3) 3) (drK (rds S r) (4 * 0+3) 7) (drK (rds S r) (4 * 0+3) 11) (drK (rds S r) (4 * 0+3) 15))) (by first | decide | omega) hK
         ·obtain rfl:=Option.some.inj ho
          intro a w2 K hB hF hd hK
          exact wp_store_cell 99 _ _ rfl rfl (A+1) (11) 16 _ (qC (drK (rds S r) (4 * 0+3) 3) (drK (rds S r) (4 * 0+3) 7) (drK (rds S r) (4 * 0+3) 11) (drK (rds S r) (4 * 0+3) 15)) Try.size99 (hd 26 _ rfl rfl (waits_spec rfl)) (hd 20 _ rfl rfl (waits_spec rfl)) (((hW.kept hB).set (3) (qA (drK (rds S r) (4 * 0+3) 3) (drK (rds S r) (4 * 0+3) 7) (drK (rds S r) (4 * 0+3) 11) (drK (rds S r) (4 * 0+3) 15))).set (7) (qB (drK (rds S r) (4 * 0+3) 3) (drK (rds S r) (4 * 0+3) 7) (drK (rds S r) (4 * 0+3) 11) (drK (rds S r) (4 * 0+3) 15))) (by first | decide | omega) hK
         ·obtain rfl:=Option.some.inj ho
          intro a w2 K hB hF hd hK
          exact wp_store_cell 99 _ _ rfl rfl (A+1) (15) 16 _ (qD (drK (rds S r) (4 * 0+3) 3) (drK (rds S r) (4 * 0+3) 7) (drK (rds S r) (4 * 0+3) 11) (drK (rds S r) (4 * 0+3) 15)) Try.size99 (hd 28 _ rfl rfl (waits_spec rfl)) (hd 21 _ rfl rfl (waits_spec rfl)) ((((hW.kept hB).set (3) (qA (drK (rds S r) (4 * 0+3) 3) (drK (rds S r) (4 * 0+3) 7) (drK (rds S r) (4 * 0+3) 11) (drK (rds S r) (4 * 0+3) 15))).set (7) (qB (drK (rds S r) (4 * 0+3) 3) (drK (rds S r) (4 * 0+3) 7) (drK (rds S r) (4 * 0+3) 11) (drK (rds S r) (4 * 0+3) 15))).set (11) (qC (drK (rds S r) (4 * 0+3) 3) (drK (rds S r) (4 * 0+3) 7) (drK (rds S r) (4 * 0+3) 11) (drK (rds S r) (4 * 0+3) 15))) (by first | decide | omega) hK
        ·intro a w4 hB hF hS
         have ha:=puts_each rfl rfl hF [_,_,_,_,_,_,_,_,_,_,_,_,_,_,_,_,_,_,_,_,_,_,_,undef,_,undef,_,undef,_,undef] rfl ⟨hS 0 _ rfl rfl,hS 1 _ rfl rfl,hS 2 _ rfl rfl,hS 3 _ rfl rfl,hS 4 _ rfl rfl,hS 5 _ rfl rfl,hS 6 _ rfl rfl,hS 7 _ rfl rfl,hS 8 _ rfl rfl,hS 9 _ rfl rfl,hS 10 _ rfl rfl,hS 11 _ rfl rfl,hS 12 _ rfl rfl,hS 13 _ rfl rfl,hS 14 _ rfl rfl,hS 15 _ rfl rfl,hS 16 _ rfl rfl,hS 17 _ rfl rfl,hS 18 _ rfl rfl,hS 19 _ rfl rfl,hS 20 _ rfl rfl,hS 21 _ rfl rfl,hS 22 _ rfl rfl,trivial,hS 24 _ rfl rfl,trivial,hS 26 _ rfl rfl,trivial,hS 28 _ rfl rfl,trivial,trivial⟩
         simp only [puts,Act.put,List.setIfInBounds_toArray,List.set_cons_succ,List.set_cons_zero] at ha
         subst ha
         have VA:=(((((hW.kept hB).set (3) (qA (drK (rds S r) (4 * 0+3) 3) (drK (rds S r) (4 * 0+3) 7) (drK (rds S r) (4 * 0+3) 11) (drK (rds S r) (4 * 0+3) 15))).set (7) (qB (drK (rds S r) (4 * 0+3) 3) (drK (rds S r) (4 * 0+3) 7) (drK (rds S r) (4 * 0+3) 11) (drK (rds S r) (4 * 0+3) 15))).set (11) (qC (drK (rds S r) (4 * 0+3) 3) (drK (rds S r) (4 * 0+3) 7) (drK (rds S r) (4 * 0+3) 11) (drK (rds S r) (4 * 0+3) 15))).set (15) (qD (drK (rds S r) (4 * 0+3) 3) (drK (rds S r) (4 * 0+3) 7) (drK (rds S r) (4 * 0+3) 11) (drK (rds S r) (4 * 0+3) 15)))
         clear hS hF
         have hZ4:=(((((HZ.out.kept hB).other (p:=⟨A+1,3,none⟩) (by simp;omega) (.int .u32 (qA (drK (rds S r) (4 * 0+3) 3) (drK (rds S r) (4 * 0+3) 7) (drK (rds S r) (4 * 0+3) 11) (drK (rds S r) (4 * 0+3) 15)))).other (p:=⟨A+1,7,none⟩) (by simp;omega) (.int .u32 (qB (drK (rds S r) (4 * 0+3) 3) (drK (rds S r) (4 * 0+3) 7) (drK (rds S r) (4 * 0+3) 11) (drK (rds S r) (4 * 0+3) 15)))).other (p:=⟨A+1,11,none⟩) (by simp;omega) (.int .u32 (qC (drK (rds S r) (4 * 0+3) 3) (drK (rds S r) (4 * 0+3) 7) (drK (rds S r) (4 * 0+3) 11) (drK (rds S r) (4 * 0+3) 15)))).other (p:=⟨A+1,15,none⟩) (by simp;omega) (.int .u32 (qD (drK (rds S r) (4 * 0+3) 3) (drK (rds S r) (4 * 0+3) 7) (drK (rds S r) (4 * 0+3) 11) (drK (rds S r) (4 * 0+3) 15))))
         have hA4:=(((((HA.out.kept hB).other (p:=⟨A+1,3,none⟩) (by simp) (.int .u32 (qA (drK (rds S r) (4 * 0+3) 3) (drK (rds S r) (4 * 0+3) 7) (drK (rds S r) (4 * 0+3) 11) (drK (rds S r) (4 * 0+3) 15)))).other (p:=⟨A+1,7,none⟩) (by simp) (.int .u32 (qB (drK (rds S r) (4 * 0+3) 3) (drK (rds S r) (4 * 0+3) 7) (drK (rds S r) (4 * 0+3) 11) (drK (rds S r) (4 * 0+3) 15)))).other (p:=⟨A+1,11,none⟩) (by simp) (.int .u32 (qC (drK (rds S r) (4 * 0+3) 3) (drK (rds S r) (4 * 0+3) 7) (drK (rds S r) (4 * 0+3) 11) (drK (rds S r) (4 * 0+3) 15)))).other (p:=⟨A+1,15,none⟩) (by simp) (.int .u32 (qD (drK (rds S r) (4 * 0+3) 3) (drK (rds S r) (4 * 0+3) 7) (drK (rds S r) (4 * 0+3) 11) (drK (rds S r) (4 * 0+3) 15))))
         have hb4:=(((((HB.out.trans (hB.mono HB.out.size)).setCell (p:=⟨A+1,3,none⟩) (by simp;omega) (.int .u32 (qA (drK (rds S r) (4 * 0+3) 3) (drK (rds S r) (4 * 0+3) 7) (drK (rds S r) (4 * 0+3) 11) (drK (rds S r) (4 * 0+3) 15)))).setCell (p:=⟨A+1,7,none⟩) (by simp;omega) (.int .u32 (qB (drK (rds S r) (4 * 0+3) 3) (drK (rds S r) (4 * 0+3) 7) (drK (rds S r) (4 * 0+3) 11) (drK (rds S r) (4 * 0+3) 15)))).setCell (p:=⟨A+1,11,none⟩) (by simp;omega) (.int .u32 (qC (drK (rds S r) (4 * 0+3) 3) (drK (rds S r) (4 * 0+3) 7) (drK (rds S r) (4 * 0+3) 11) (drK (rds S r) (4 * 0+3) 15)))).setCell (p:=⟨A+1,15,none⟩) (by simp;omega) (.int .u32 (qD (drK (rds S r) (4 * 0+3) 3) (drK (rds S r) (4 * 0+3) 7) (drK (rds S r) (4 * 0+3) 11) (drK (rds S r) (4 * 0+3) 15))))
         have hW4:=VA.congr (g:=drK (rds S r) (4 * 0+(3+1))) (fun i _=> upd4_qrF (drK (rds S r) (4 * 0+3)) 3 7 11 15 (by decide) i)
         clear VA hW hB
         go_upto_region 13 with (fail)
         refine wp_world (fun w5=> Arr .u8 w5 (w.heap.size+2) 64 (fun _=> 0)∧Arr .u32 w5 A 16 S∧Arr .u32 w5 (A+1) 16 (drK (rds S r) (4 * 0+(3+1)))∧Below w.heap.size w w5) ⟨hZ4,hA4,hW4,hb4⟩ ?_
         rintro w5 ⟨hZ5,hA5,hW5,hb5⟩
         clear hZ4 hA4 hW4 hb4 HZ HA HW HB
         go_wp2
         go_roundw
         case rel=> exact ⟨3+1,by decide,rfl,hZ5,hA5,hW5,hb5⟩
         case measure=> simp [intOf]
       ·go_upto_region 12 with (fail)
        have hW:=HW.out
        have B3:=HDB.out r (4 * 1+3) 3 (by decide)
        have B4:=HDB.out r (4 * 1+3) 4 (by decide)
        have B9:=HDB.out r (4 * 1+3) 9 (by decide)
        have B14:=HDB.out r (4 * 1+3) 14 (by decide)
        refine region_chain (n:=90) [23,25,27,29] (fun i=> [1,2,3,19,20,21,24,26,28].contains i) (by kernel_rfl) (by kernel_rfl) (by kernel_rfl) (by kernel_rfl) rfl
         (fun ii vv _=> (match ii with | 0 | 4=> vv=.int .i64 (3) | 1 | 7=> vv=.int .i64 (4) | 2 | 10=> vv=.int .i64 (9) | 3 | 13=> vv=.int .i64 (14) | 5 | 22=> vv=.pointer (some ⟨A+1,3,none⟩) | 6=> vv=.int .u32 (drK (rds S r) (4 * 1+3) 3) | 8 | 24=> vv=.pointer (some ⟨A+1,4,none⟩) | 9=> vv=.int .u32 (drK (rds S r) (4 * 1+3) 4) | 11 | 26=> vv=.pointer (some ⟨A+1,9,none⟩) | 12=> vv=.int .u32 (drK (rds S r) (4 * 1+3) 9) | 14 | 28=> vv=.pointer (some ⟨A+1,14,none⟩) | 15=> vv=.int .u32 (drK (rds S r) (4 * 1+3) 14) | 16 | 17=> vv=.tuple #[.int .u32 (qA (drK (rds S r) (4 * 1+3) 3) (drK (rds S r) (4 * 1+3) 4) (drK (rds S r) (4 * 1+3) 9) (drK (rds S r) (4 * 1+3) 14)),.int .u32 (qB (drK (rds S r) (4 * 1+3) 3) (drK (rds S r) (4 * 1+3) 4) (drK (rds S r) (4 * 1+3) 9) (drK (rds S r) (4 * 1+3) 14)),.int .u32 (qC (drK (rds S r) (4 * 1+3) 3) (drK (rds S r) (4 * 1+3) 4) (drK (rds S r) (4 * 1+3) 9) (drK (rds S r) (4 * 1+3) 14)),.int .u32 (qD (drK (rds S r) (4 * 1+3) 3) (drK (rds S r) (4 * 1+3) 4) (drK (rds S r) (4 * 1+3) 9) (drK (rds S r) (4 * 1+3) 14))] | 18=> vv=.int .u32 (qA (drK (rds S r) (4 * 1+3) 3) (drK (rds S r) (4 * 1+3) 4) (drK (rds S r) (4 * 1+3) 9) (drK (rds S r) (4 * 1+3) 14)) | 19=> vv=.int .u32 (qB (drK (rds S r) (4 * 1+3) 3) (drK (rds S r) (4 * 1+3) 4) (drK (rds S r) (4 * 1+3) 9) (drK (rds S r) (4 * 1+3) 14)) | 20=> vv=.int .u32 (qC (drK (rds S r) (4 * 1+3) 3) (drK (rds S r) (4 * 1+3) 4) (drK (rds S r) (4 * 1+3) 9) (drK (rds S r) (4 * 1+3) 14)) | 21=> vv=.int .u32 (qD (drK (rds S r) (4 * 1+3) 3) (drK (rds S r) (4 * 1+3) 4) (drK (rds S r) (4 * 1+3) 9) (drK (rds S r) (4 * 1+3) 14)) | _=> True))
         (fun _ _ _ _ h _=> h)
         (fun m ww=> match m with | 0=> ww | 1=> (ww.setCell ⟨A+1,3,none⟩ (.int .u32 (qA (drK (rds S r) (4 * 1+3) 3) (drK (rds S r) (4 * 1+3) 4) (drK (rds S r) (4 * 1+3) 9) (drK (rds S r) (4 * 1+3) 14)))) | 2=> ((ww.setCell ⟨A+1,3,none⟩ (.int .u32 (qA (drK (rds S r) (4 * 1+3) 3) (drK (rds S r) (4 * 1+3) 4) (drK (rds S r) (4 * 1+3) 9) (drK (rds S r) (4 * 1+3) 14)))).setCell ⟨A+1,4,none⟩ (.int .u32 (qB (drK (rds S r) (4 * 1+3) 3) (drK (rds S r) (4 * 1+3) 4) (drK (rds S r) (4 * 1+3) 9) (drK (rds S r) (4 * 1+3) 14)))) | 3=> (((ww.setCell ⟨A+1,3,none⟩ (.int .u32 (qA (drK (rds S r) (4 * 1+3) 3) (drK (rds S r) (4 * 1+3) 4) (drK (rds S r) (4 * 1+3) 9) (drK (rds S r) (4 * 1+3) 14)))).setCell ⟨A+1,4,none⟩ (.int .u32 (qB (drK (rds S r) (4 * 1+3) 3) (drK (rds S r) (4 * 1+3) 4) (drK (rds S r) (4 * 1+3) 9) (drK (rds S r) (4 * 1+3) 14)))).setCell ⟨A+1,9,none⟩ (.int .u32 (qC (drK (rds S r) (4 * 1+3) 3) (drK (rds S r) (4 * 1+3) 4) (drK (rds S r) (4 * 1+3) 9) (drK (rds S r) (4 * 1+3) 14)))) | _=> ((((ww.setCell ⟨A+1,3,none⟩ (.int .u32 (qA (drK (rds S r) (4 * 1+3) 3) (drK (rds S r) (4 * 1+3) 4) (drK (rds S r) (4 * 1+3) 9) (drK (rds S r) (4 * 1+3) 14)))).setCell ⟨A+1,4,none⟩ (.int .u32 (qB (drK (rds S r) (4 * 1+3) 3) (drK (rds S r) (4 * 1+3) 4) (drK (rds S r) (4 * 1+3) 9) (drK (rds S r) (4 * 1+3) 14)))).setCell ⟨A+1,9,none⟩ (.int .u32 (qC (drK (rds S r) (4 * 1+3) 3) (drK (rds S r) (4 * 1+3) 4) (drK (rds S r) (4 * 1+3) 9) (drK (rds S r) (4 * 1+3) 14)))).setCell ⟨A+1,14,none⟩ (.int .u32 (qD (drK (rds S r) (4 * 1+3) 3) (drK (rds S r) (4 * 1+3) 4) (drK (rds S r) (4 * 1+3) 9) (drK (rds S r) (4 * 1+3) 14))))) (fun _=> rfl) ?_ ?_ ?_ ?_
        ·refine Each.all ?_
         refine ⟨?_,(fun _ h=> absurd h (by decide)),(fun _ h=> absurd h (by decide)),(fun _ h=> absurd h (by decide)),?_,?_,?_,?_,?_,?_,?_,?_,?_,?_,?_,?_,?_,?_,?_,(fun _ h=> absurd h (by decide)),(fun _ h=> absurd h (by decide)),(fun _ h=> absurd h (by decide)),?_,(fun h=> absurd h (by decide)),(fun _ h=> absurd h (by decide)),(fun h=> absurd h (by decide)),(fun _ h=> absurd h (by decide)),(fun h=> absurd h (by decide)),(fun _ h=> absurd h (by decide)),(fun h=> absurd h (by decide)),trivial⟩
         ·intro _ _ a w2 hB hF hd
          rw [if_pos (wanted_none rfl)]
          exact flow_move _ (.inl rfl) (by simp) (hF.same 10 rfl)
         ·intro _ _ a w2 hB hF hd
          rw [if_pos (wanted_none rfl)]
          exact flow_move _ (.inl rfl) (by simp) (hF.same 10 rfl)
         ·intro _ _ a w2 hB hF hd
          rw [if_pos (wanted_none rfl)]
          exact flow_val (fun h=> by cases h) (run_index_addr rfl (hF.same 8 rfl) (hd 4 _ rfl rfl (waits_spec rfl)) Try.underlying122 (by kernel_rfl) (by decide) (by decide)) rfl
         ·intro _ _ a w2 hB hF hd
          rw [if_pos (wanted_none rfl)]
          exact flow_val (fun h=> by cases h) (run_load_cell rfl (hd 5 _ rfl rfl (waits_spec rfl)) Try.underlying99 ((hW.kept hB).cell 3 (by decide))) rfl
         ·intro _ _ a w2 hB hF hd
          rw [if_pos (wanted_none rfl)]
          exact flow_move _ (.inl rfl) (by simp) (hF.same 11 rfl)
         ·intro _ _ a w2 hB hF hd
          rw [if_pos (wanted_none rfl)]
          exact flow_val (fun h=> by cases h) (run_index_addr rfl (hF.same 8 rfl) (hd 7 _ rfl rfl (waits_spec rfl)) Try.underlying122 (by kernel_rfl) (by decide) (by decide)) rfl
         ·intro _ _ a w2 hB hF hd
          rw [if_pos (wanted_none rfl)]
          exact flow_val (fun h=> by cases h) (run_load_cell rfl (hd 8 _ rfl rfl (waits_spec rfl)) Try.underlying99 ((hW.kept hB).cell 4 (by decide))) rfl
         ·intro _ _ a w2 hB hF hd
          rw [if_pos (wanted_none rfl)]
          exact flow_move _ (.inl rfl) (by simp) (hF.same 12 rfl)
         ·intro _ _ a w2 hB hF hd
          rw [if_pos (wanted_none rfl)]
          exact flow_val (fun h=> by cases h) (run_index_addr rfl (hF.same 8 rfl) (hd 10 _ rfl rfl (waits_spec rfl)) Try.underlying122 (by kernel_rfl) (by decide) (by decide)) rfl
         ·intro _ _ a w2 hB hF hd
          rw [if_pos (wanted_none rfl)]
          exact flow_val (fun h=> by cases h) (run_load_cell rfl (hd 11 _ rfl rfl (waits_spec rfl)) Try.underlying99 ((hW.kept hB).cell 9 (by decide))) rfl
         ·intro _ _ a w2 hB hF hd
          rw [if_pos (wanted_none rfl)]
          exact flow_move _ (.inl rfl) (by simp) (hF.same 13 rfl)
         ·intro _ _ a w2 hB hF hd
          rw [if_pos (wanted_none rfl)]
          exact flow_val (fun h=> by cases h) (run_index_addr rfl (hF.same 8 rfl) (hd 13 _ rfl rfl (waits_spec rfl)) Try.underlying122 (by kernel_rfl) (by decide) (by decide)) rfl
         ·intro _ _ a w2 hB hF hd
          rw [if_pos (wanted_none rfl)]
          exact flow_val (fun h=> by cases h) (run_load_cell rfl (hd 14 _ rfl rfl (waits_spec rfl)) Try.underlying99 ((hW.kept hB).cell 14 (by decide))) rfl
         ·intro _ _ a w2 hB hF hd
          rw [if_pos (wanted_none rfl)]
          refine flow_call _ _ _ rfl Try.call77 _ (args4 (hd 6 _ rfl rfl (waits_spec rfl)) (hd 9 _ rfl rfl (waits_spec rfl)) (hd 12 _ rfl rfl (waits_spec rfl)) (hd 15 _ rfl rfl (waits_spec rfl))) (by simp) ((QuarterB_any (drK (rds S r) (4 * 1+3) 3) (drK (rds S r) (4 * 1+3) 4) (drK (rds S r) (4 * 1+3) 9) (drK (rds S r) (4 * 1+3) 14) B3 B4 B9 B14 w2).mono ?_)
          rintro e w3 ⟨rfl,hb⟩;exact ⟨_,rfl,rfl,hb⟩
         ·intro _ _ a w2 hB hF hd
          rw [if_pos (wanted_none rfl)]
          exact flow_move _ (.inl rfl) (by simp) (hd 16 _ rfl rfl (waits_spec rfl))
         ·intro _ _ a w2 hB hF hd
          rw [if_pos (wanted_none rfl)]
          exact flow_val (fun h=> by cases h) (run_extract rfl (hd 17 _ rfl rfl (waits_spec rfl)) rfl) rfl
         ·intro _ _ a w2 hB hF hd
          rw [if_pos (wanted_none rfl)]
          exact flow_val (fun h=> by cases h) (run_index_addr rfl (hF.same 8 rfl) (hd 0 _ rfl rfl (waits_spec rfl)) Try.underlying122 (by kernel_rfl) (by decide) (by decide)) rfl
        ·refine Each.all ?_
         refine ⟨(fun _ h=> absurd h (by decide)),?_,?_,?_,(fun _ h=> absurd h (by decide)),(fun _ h=> absurd h (by decide)),(fun _ h=> absurd h (by decide)),(fun _ h=> absurd h (by decide)),(fun _ h=> absurd h (by decide)),(fun _ h=> absurd h (by decide)),(fun _ h=> absurd h (by decide)),(fun _ h=> absurd h (by decide)),(fun _ h=> absurd h (by decide)),(fun _ h=> absurd h (by decide)),(fun _ h=> absurd h (by decide)),(fun _ h=> absurd h (by decide)),(fun _ h=> absurd h (by decide)),(fun _ h=> absurd h (by decide)),(fun _ h=> absurd h (by decide)),?_,?_,?_,(fun _ h=> absurd h (by decide)),(fun h=> absurd h (by decide)),?_,(fun h=> absurd h (by decide)),?_,(fun h=> absurd h (by decide)),?_,(fun h=> absurd h (by decide)),trivial⟩
         ·intro _ _ a w1 w2 hB hF hd
          rw [if_pos (wanted_none rfl)]
          exact pure_move _ (.inl rfl) (by simp) (hF.same 11 rfl)
         ·intro _ _ a w1 w2 hB hF hd
          rw [if_pos (wanted_none rfl)]
          exact pure_move _ (.inl rfl) (by simp) (hF.same 12 rfl)
         ·intro _ _ a w1 w2 hB hF hd
          rw [if_pos (wanted_none rfl)]
          exact pure_move _ (.inl rfl) (by simp) (hF.same 13 rfl)
         ·intro _ _ a w1 w2 hB hF hd
          rw [if_pos (wanted_none rfl)]
          exact pure_val (fun h=> by cases h) (run_extract rfl (hd 17 _ rfl rfl (waits_spec rfl)) rfl) rfl
         ·intro _ _ a w1 w2 hB hF hd
          rw [if_pos (wanted_none rfl)]
          exact pure_val (fun h=> by cases h) (run_extract rfl (hd 17 _ rfl rfl (waits_spec rfl)) rfl) rfl
         ·intro _ _ a w1 w2 hB hF hd
          rw [if_pos (wanted_none rfl)]
          exact pure_val (fun h=> by cases h) (run_extract rfl (hd 17 _ rfl rfl (waits_spec rfl)) rfl) rfl
         ·intro _ _ a w1 w2 hB hF hd
          rw [if_pos (wanted_none rfl)]
          exact pure_val (fun h=> by cases h) (run_index_addr rfl (hF.same 8 rfl) (hd 1 _ rfl rfl (waits_spec rfl)) Try.underlying122 (by kernel_rfl) (by decide) (by decide)) rfl
         ·intro _ _ a w1 w2 hB hF hd
          rw [if_pos (wanted_none rfl)]
          exact pure_val (fun h=> by cases h) (run_index_addr rfl (hF.same 8 rfl) (hd 2 _ rfl rfl (waits_spec rfl)) Try.underlying122 (by kernel_rfl) (by decide) (by decide)) rfl
         ·intro _ _ a w1 w2 hB hF hd
          rw [if_pos (wanted_none rfl)]
          exact pure_val (fun h=> by cases h) (run_index_addr rfl (hF.same 8 rfl) (hd 3 _ rfl rfl (waits_spec rfl)) Try.underlying122 (by kernel_rfl) (by decide) (by decide)) rfl
        ·intro q o hq ho
         rcases (by simp at hq;omega:q=0∨q=1∨q=2∨q=3) with rfl | rfl | rfl | rfl
         ·obtain rfl:=Option.some.inj ho
          intro a w2 K hB hF hd hK
          exact wp_store_cell 99 _ _ rfl rfl (A+1) (3) 16 _ (qA (drK (rds S r) (4 * 1+3) 3) (drK (rds S r) (4 * 1+3) 4) (drK (rds S r) (4 * 1+3) 9) (drK (rds S r) (4 * 1+3) 14)) Try.size99 (hd 22 _ rfl rfl (waits_spec rfl)) (hd 18 _ rfl rfl (waits_spec rfl)) (hW.kept hB) (by first | decide | omega) hK
         ·obtain rfl:=Option.some.inj ho
          intro a w2 K hB hF hd hK
          exact wp_store_cell 99 _ _ rfl rfl (A+1) (4) 16 _ (qB (drK (rds S r) (4 * 1+3) 3) (drK (rds S r) (4 * 1+3) 4) (drK (rds S r) (4 * 1+3) 9) (drK (rds S r) (4 * 1+3) 14)) Try.size99 (hd 24 _ rfl rfl (waits_spec rfl)) (hd 19 _ rfl rfl (waits_spec rfl)) ((hW.kept hB).set (3) (qA (drK (rds S r) (4 * 1+3) 3) (drK (rds S r) (4 * 1+3) 4) (drK (rds S r) (4 * 1+3) 9) (drK (rds S r) (4 * 1+3) 14))) (by first | decide | omega) hK
         ·obtain rfl:=Option.some.inj ho
          intro a w2 K hB hF hd hK
          exact wp_store_cell 99 _ _ rfl rfl (A+1) (9) 16 _ (qC (drK (rds S r) (4 * 1+3) 3) (drK (rds S r) (4 * 1+3) 4) (drK (rds S r) (4 * 1+3) 9) (drK (rds S r) (4 * 1+3) 14)) Try.size99 (hd 26 _ rfl rfl (waits_spec rfl)) (hd 20 _ rfl rfl (waits_spec rfl)) (((hW.kept hB).set (3) (qA (drK (rds S r) (4 * 1+3) 3) (drK (rds S r) (4 * 1+3) 4) (drK (rds S r) (4 * 1+3) 9) (drK (rds S r) (4 * 1+3) 14))).set (4) (qB (drK (rds S r) (4 * 1+3) 3) (drK (rds S r) (4 * 1+3) 4) (drK (rds S r) (4 * 1+3) 9) (drK (rds S r) (4 * 1+3) 14))) (by first | decide | omega) hK
         ·obtain rfl:=Option.some.inj ho
          intro a w2 K hB hF hd hK
          exact wp_store_cell 99 _ _ rfl rfl (A+1) (14) 16 _ (qD (drK (rds S r) (4 * 1+3) 3) (drK (rds S r) (4 * 1+3) 4) (drK (rds S r) (4 * 1+3) 9) (drK (rds S r) (4 * 1+3) 14)) Try.size99 (hd 28 _ rfl rfl (waits_spec rfl)) (hd 21 _ rfl rfl (waits_spec rfl)) ((((hW.kept hB).set (3) (qA (drK (rds S r) (4 * 1+3) 3) (drK (rds S r) (4 * 1+3) 4) (drK (rds S r) (4 * 1+3) 9) (drK (rds S r) (4 * 1+3) 14))).set (4) (qB (drK (rds S r) (4 * 1+3) 3) (drK (rds S r) (4 * 1+3) 4) (drK (rds S r) (4 * 1+3) 9) (drK (rds S r) (4 * 1+3) 14))).set (9) (qC (drK (rds S r) (4 * 1+3) 3) (drK (rds S r) (4 * 1+3) 4) (drK (rds S r) (4 * 1+3) 9) (drK (rds S r) (4 * 1+3) 14))) (by first | decide | omega) hK
        ·intro a w4 hB hF hS
         have ha:=puts_each rfl rfl hF [_,_,_,_,_,_,_,_,_,_,_,_,_,_,_,_,_,_,_,_,_,_,_,undef,_,undef,_,undef,_,undef] rfl ⟨hS 0 _ rfl rfl,hS 1 _ rfl rfl,hS 2 _ rfl rfl,hS 3 _ rfl rfl,hS 4 _ rfl rfl,hS 5 _ rfl rfl,hS 6 _ rfl rfl,hS 7 _ rfl rfl,hS 8 _ rfl rfl,hS 9 _ rfl rfl,hS 10 _ rfl rfl,hS 11 _ rfl rfl,hS 12 _ rfl rfl,hS 13 _ rfl rfl,hS 14 _ rfl rfl,hS 15 _ rfl rfl,hS 16 _ rfl rfl,hS 17 _ rfl rfl,hS 18 _ rfl rfl,hS 19 _ rfl rfl,hS 20 _ rfl rfl,hS 21 _ rfl rfl,hS 22 _ rfl rfl,trivial,hS 24 _ rfl rfl,trivial,hS 26 _ rfl rfl,trivial,hS 28 _ rfl rfl,trivial,trivial⟩
         simp only [puts,Act.put,List.setIfInBounds_toArray,List.set_cons_succ,List.set_cons_zero] at ha
         subst ha
         have VA:=(((((hW.kept hB).set (3) (qA (drK (rds S r) (4 * 1+3) 3) (drK (rds S r) (4 * 1+3) 4) (drK (rds S r) (4 * 1+3) 9) (drK (rds S r) (4 * 1+3) 14))).set (4) (qB (drK (rds S r) (4 * 1+3) 3) (drK (rds S r) (4 * 1+3) 4) (drK (rds S r) (4 * 1+3) 9) (drK (rds S r) (4 * 1+3) 14))).set (9) (qC (drK (rds S r) (4 * 1+3) 3) (drK (rds S r) (4 * 1+3) 4) (drK (rds S r) (4 * 1+3) 9) (drK (rds S r) (4 * 1+3) 14))).set (14) (qD (drK (rds S r) (4 * 1+3) 3) (drK (rds S r) (4 * 1+3) 4) (drK (rds S r) (4 * 1+3) 9) (drK (rds S r) (4 * 1+3) 14)))
         clear hS hF
         have hZ4:=(((((HZ.out.kept hB).other (p:=⟨A+1,3,none⟩) (by simp;omega) (.int .u32 (qA (drK (rds S r) (4 * 1+3) 3) (drK (rds S r) (4 * 1+3) 4) (drK (rds S r) (4 * 1+3) 9) (drK (rds S r) (4 * 1+3) 14)))).other (p:=⟨A+1,4,none⟩) (by simp;omega) (.int .u32 (qB (drK (rds S r) (4 * 1+3) 3) (drK (rds S r) (4 * 1+3) 4) (drK (rds S r) (4 * 1+3) 9) (drK (rds S r) (4 * 1+3) 14)))).other (p:=⟨A+1,9,none⟩) (by simp;omega) (.int .u32 (qC (drK (rds S r) (4 * 1+3) 3) (drK (rds S r) (4 * 1+3) 4) (drK (rds S r) (4 * 1+3) 9) (drK (rds S r) (4 * 1+3) 14)))).other (p:=⟨A+1,14,none⟩) (by simp;omega) (.int .u32 (qD (drK (rds S r) (4 * 1+3) 3) (drK (rds S r) (4 * 1+3) 4) (drK (rds S r) (4 * 1+3) 9) (drK (rds S r) (4 * 1+3) 14))))
         have hA4:=(((((HA.out.kept hB).other (p:=⟨A+1,3,none⟩) (by simp) (.int .u32 (qA (drK (rds S r) (4 * 1+3) 3) (drK (rds S r) (4 * 1+3) 4) (drK (rds S r) (4 * 1+3) 9) (drK (rds S r) (4 * 1+3) 14)))).other (p:=⟨A+1,4,none⟩) (by simp) (.int .u32 (qB (drK (rds S r) (4 * 1+3) 3) (drK (rds S r) (4 * 1+3) 4) (drK (rds S r) (4 * 1+3) 9) (drK (rds S r) (4 * 1+3) 14)))).other (p:=⟨A+1,9,none⟩) (by simp) (.int .u32 (qC (drK (rds S r) (4 * 1+3) 3) (drK (rds S r) (4 * 1+3) 4) (drK (rds S r) (4 * 1+3) 9) (drK (rds S r) (4 * 1+3) 14)))).other (p:=⟨A+1,14,none⟩) (by simp) (.int .u32 (qD (drK (rds S r) (4 * 1+3) 3) (drK (rds S r) (4 * 1+3) 4) (drK (rds S r) (4 * 1+3) 9) (drK (rds S r) (4 * 1+3) 14))))
         have hb4:=(((((HB.out.trans (hB.mono HB.out.size)).setCell (p:=⟨A+1,3,none⟩) (by simp;omega) (.int .u32 (qA (drK (rds S r) (4 * 1+3) 3) (drK (rds S r) (4 * 1+3) 4) (drK (rds S r) (4 * 1+3) 9) (drK (rds S r) (4 * 1+3) 14)))).setCell (p:=⟨A+1,4,none⟩) (by simp;omega) (.int .u32 (qB (drK (rds S r) (4 * 1+3) 3) (drK (rds S r) (4 * 1+3) 4) (drK (rds S r) (4 * 1+3) 9) (drK (rds S r) (4 * 1+3) 14)))).setCell (p:=⟨A+1,9,none⟩) (by simp;omega) (.int .u32 (qC (drK (rds S r) (4 * 1+3) 3) (drK (rds S r) (4 * 1+3) 4) (drK (rds S r) (4 * 1+3) 9) (drK (rds S r) (4 * 1+3) 14)))).setCell (p:=⟨A+1,14,none⟩) (by simp;omega) (.int .u32 (qD (drK (rds S r) (4 * 1+3) 3) (drK (rds S r) (4 * 1+3) 4) (drK (rds S r) (4 * 1+3) 9) (drK (rds S r) (4 * 1+3) 14))))
         have hW4:=VA.congr (g:=drK (rds S r) (4 * 1+(3+1))) (fun i _=> upd4_qrF (drK (rds S r) (4 * 1+3)) 3 4 9 14 (by decide) i)
         clear VA hW hB
         go_upto_region 13 with (fail)
         refine wp_world (fun w5=> Arr .u8 w5 (w.heap.size+2) 64 (fun _=> 0)∧Arr .u32 w5 A 16 S∧Arr .u32 w5 (A+1) 16 (drK (rds S r) (4 * 1+(3+1)))∧Below w.heap.size w w5) ⟨hZ4,hA4,hW4,hb4⟩ ?_
         rintro w5 ⟨hZ5,hA5,hW5,hb5⟩
         clear hZ4 hA4 hW4 hb4 HZ HA HW HB
         go_wp2
         go_roundw
         case rel=> exact ⟨3+1,by decide,rfl,hZ5,hA5,hW5,hb5⟩
         case measure=> simp [intOf]
      ·obtain rfl:j=4:=by omega
       have HZ:=Lib.hid hZ
       have HA:=Lib.hid hA
       have HW:=Lib.hid hW
       have HB:=Lib.hid hbel
       clear hZ hA hW hbel
       go_wp2
       go_roundw
       case rel=> exact ⟨s+1,by omega,by go_num,HZ.out,HA.out,HW.out,HB.out⟩
       case measure=> simp [intOf] <;> omega
    ·obtain rfl:s=2:=by omega
     go_wp2
     go_roundw
     case rel=> exact ⟨r+1,by omega,by go_num,HZ.out,HA.out,HW.out,HB.out⟩
     case measure=> simp [intOf] <;> omega
  ·obtain rfl:r=10:=by omega
   have HZ:=Lib.hid hZ
   have HA:=Lib.hid hA
   have HW:=Lib.hid hW
   have HB:=Lib.hid hbel
   clear hZ hA hW hbel
   go_wp2
   go_loopw [74] (fun i wr=> ∃k:Nat,k≤16∧i=.int .i64 k∧Arr .u8 wr (w.heap.size+2) 64 (fun _=> 0)∧Arr .u32 wr A 16 S∧Arr .u32 wr (A+1) 16 (upto k (blk32 key nonce c) (rds S 10))∧Below w.heap.size w wr) (fun i _=> 16 - (intOf i).toNat)
   case atStart=> exact ⟨0,Nat.zero_le _,rfl,HZ.out,HA.out,by rw [upto_zero];exact HW.out,HB.out⟩
   case round=>
    clear HZ HA HW HB
    obtain ⟨k,hk,rfl,hZ,hA,hW,hbel⟩:=hrel
    have HZ:=Lib.hid hZ
    have HA:=Lib.hid hA
    have HW:=Lib.hid hW
    by_cases hkt:k<16
    ·have e1:=hW.cell k hkt
     rw [upto_at] at e1
     have e2:=hA.cell k hkt
     have f1:=hW.free k
     obtain ⟨b0,b1⟩:=HSB.out k hkt
     obtain ⟨b2,b3⟩:=rds_bound HSB.out 10 k hkt
     have HV:Hid ((rds S 10 k+S k) % 4294967296=blk32 key nonce c k):=by unfold Hid blk32;rw [HSE.out]
     clear hZ hA hW
     go_wp2
     go_region
     all_goals
      go_wp2
      go_roundw
      case rel=> exact ⟨k+1,by omega,by go_num,(HZ.out.other (by simp;omega) _).drew,(HA.out.other (by simp) _).drew,by rw [←upto_step HV.out];exact (HW.out.set k _).drew,(hbel.setCell (by simp;omega) _).drew⟩
      case measure=> simp [intOf] <;> omega
    ·obtain rfl:k=16:=by omega
     have hW2:=hW.congr (upto_full _ _ (Nat.le_refl _))
     clear hW hA
     go_wp2_with fail
     refine (bytes32_any _ 16 (blk32 key nonce c) _ (hW2.rd (by decide)) (fun i _=> by unfold blk32;omega) (by decide)).mono ?_
     rintro e w5 ⟨v,rfl,hv,hb5⟩
     have hZ5:=hZ.kept hb5
     have hbel5:=hbel.trans (hb5.mono hbel.size)
     obtain ⟨g,cc,rfl,q1,q2,q3,q4,hcells,q5⟩:=hv.form (by decide)
     have HCL:Hid (∀i,i<64→w5.cell? ⟨g,0+i,none⟩=some (.int .u8 (blkB key nonce c i))):=fun i hi=> by rw [Nat.zero_add];exact hcells i (by omega)
     have hat:=arrayAt_part (a:=some ⟨g,0,none⟩) (len:=64) (cap:=cc) Try.underlying88 (by decide)
     clear hv hcells q5 hZ hbel hb5 hW2 HZ HA HW
     go_wp2_with (first
      | (refine load_part rfl 88 _ rfl .u8 g 0 64 (blkB key nonce c) 5 Try.underlying88 Try.size88 rfl HCL.out ?_)
      | (refine store_arr rfl 88 _ _ rfl .u8 (w.heap.size+2) 64 (fun _=> 0) _ Try.size88 rfl rfl hZ5 ?_))
     exact bodyPost_ret (results_arr rfl _ _ .u8 (w.heap.size+2) 64 _ 5 rfl (hZ5.setRow _ _) Try.underlying88 Try.size88) rfl ⟨rfl,below_setRow' hbel5 (by omega) _⟩
end Go.Proofs.Ytpcjekgfnfjbpaa
