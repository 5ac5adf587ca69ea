/-
  Part 15 of the texts that the proof of BoxUnwraps rests on, one after the other. Conditions: named in each theorem.
-/
import Derived.Test.YtdhejcaapdhhfaaGreatPkBoxUnwraps14
import Derived.Test.YtdhejcaapdhhfaaGreatPkBoxUnwraps6
import Derived.Test.YtdhejcaapdhhfaaGreatPkBoxUnwraps3
import Derived.Test.YtdhejcaapdhhfaaGreatPkBoxUnwraps2
import Derived.Test.YtdhejcaapdhhfaaGreatPkBoxUnwraps4
import Derived.Test.YtdhejcaapdhhfaaGreatPkBoxUnwraps5
import Derived.Test.YtdhejcaapdhhfaaGreatPkBoxUnwraps7
import Derived.Test.YtdhejcaapdhhfaaGreatPkBoxUnwraps9
import Derived.Test.YtdhejcaapdhhfaaGreatPkBoxUnwraps8
import Derived.Test.YtdhejcaapdhhfaaGreatPkBoxUnwraps1
import Derived.Test.YtdhejcaapdhhfaaGreatPkBoxUnwraps10
import Derived.BigFrame
import Derived.BigQuiet
import Derived.ChangeKeysEq
import Derived.Deep.Cut
import Derived.Deep.DrawnRows
import Derived.Deep.LoopGhost
import Derived.Deep.QuietTactic
import Derived.Deep.RegionHeld3
import Derived.Deep.RegionLaw
import Derived.Deep.WholeRow
import Derived.Laws.BitsAllLaws
import Derived.Laws.CopyOwn
import Derived.Laws.StructEq
import Derived.Lib.Hide
import Derived.Maps.AppendAt
import Derived.Maps.Range
import Derived.OpenShut
import Derived.Orders
import Derived.Test.YtdhejcaapdhhfaaGreatArr
import Derived.Test.YtdhejcaapdhhfaaGreatFlow
import Derived.Test.YtdhejcaapdhhfaaGreatKit
import Derived.Test.YtdhejcaapdhhfaaGreatRows
import Derived.WalkKit
import Derived.WalkLawsBesides
import Derived.WalkSmall
import Derived.WalkSpells
set_option linter.unusedVariables false
set_option linter.unusedSimpArgs false
set_option maxRecDepth 100000
set_option maxHeartbeats 6400000
namespace Go.Proofs.YtdhejcaapdhhfaaGreat
open Go.RowKit Go.Bas Go.ChangeShapes
attribute [local go_sem ↓] Go.wp_at_zero Go.wp_at_succ
theorem lit_nil:(#[.int .u8 0,.int .u8 0,.int .u8 0,.int .u8 0,.int .u8 0,.int .u8 0,.int .u8 0,.int .u8 0,.int .u8 0,.int .u8 0,.int .u8 0,.int .u8 0,.int .u8 0,.int .u8 0,.int .u8 0,.int .u8 0,.int .u8 0,.int .u8 0,.int .u8 0,.int .u8 0,.int .u8 0,.int .u8 0,.int .u8 0,.int .u8 0,.int .u8 0,.int .u8 0,.int .u8 0,.int .u8 0,.int .u8 0,.int .u8 0,.int .u8 0,.int .u8 0] :Array Value)=arr .u8 32 (dg 256 0):=by kernel_rfl
theorem build_nil {a:Act} (w:World):(Instr.build 22 ((#[] :Array (Nat × Operand)).map fun (i,x)=> (i,a.eval x))).run Tryz.prog w=.ok (.agg (arr .u8 32 (dg 256 0))) w:=by
 simp only [List.map_toArray,List.map_nil]
 rw [Go.run_build w _ _ #[.int .u8 0,.int .u8 0,.int .u8 0,.int .u8 0,.int .u8 0,.int .u8 0,.int .u8 0,.int .u8 0,.int .u8 0,.int .u8 0,.int .u8 0,.int .u8 0,.int .u8 0,.int .u8 0,.int .u8 0,.int .u8 0,.int .u8 0,.int .u8 0,.int .u8 0,.int .u8 0,.int .u8 0,.int .u8 0,.int .u8 0,.int .u8 0,.int .u8 0,.int .u8 0,.int .u8 0,.int .u8 0,.int .u8 0,.int .u8 0,.int .u8 0,.int .u8 0] (by kernel_rfl),lit_nil]
theorem num32 (f:Nat→Int) (h:∀i,i<32→(Lit.int .u8 (f i)).wf=true):∃X:Int,arr .u8 32 f=arr .u8 32 (dg 256 X)∧0≤X∧X<256 ^ 32:=by
 have h':∀i,i<32→0≤f i∧f i<256:=fun i hi=> by have:=bounds_u8 (h i hi);omega
 exact ⟨sm 256 f 32,arr_congr fun i hi=> (dg_sm (by decide) h' i hi).symm,sm_bound (by decide) h'⟩
theorem rd_of {w w':World} {e:Ending} {X:Int} {b:Nat} (h:∃v,e=.returned v∧Own .i64 3 b w' v 16 (dg 65536 X)∧Below w.heap.size w w'):∃v,e=.returned v∧Rd .i64 w' v 16 (dg 65536 X)∧Below w.heap.size w w':=by
 obtain ⟨v,h1,h2,h3⟩:=h
 exact ⟨v,h1,h2.rd,h3⟩
theorem fOf_rd (X:Int) (w:World):Calls Tryz.prog 94 #[.agg (arr .u8 32 (dg 256 X))] w fun e w'=> ∃v,e=.returned v∧Rd .i64 w' v 16 (dg 65536 (X % 2 ^ 255 % Pr))∧Below w.heap.size w w':=(fOf_any X w).mono fun _ _ h=> rd_of h
theorem rSmall_rd (n:Int) (h0:0≤n) (h1:n<65536) (w:World):Calls Tryz.prog 80 #[.int .i64 n] w fun e w'=> ∃v,e=.returned v∧Rd .i64 w' v 16 (dg 65536 n)∧Below w.heap.size w w':=(rSmall_any n h0 h1 w).mono fun _ _ h=> rd_of h
theorem fAdd_rd (A B:Int) (va vb:Value) (w:World) (ha:Rd .i64 w va 16 (dg 65536 (A % Pr))) (hb:Rd .i64 w vb 16 (dg 65536 (B % Pr))):Calls Tryz.prog 95 #[va,vb] w fun e w'=> ∃v,e=.returned v∧Rd .i64 w' v 16 (dg 65536 ((A+B) % Pr))∧Below w.heap.size w w':=by
 have h:=(fAdd_any va vb (A % Pr) (B % Pr) (modP16 A) (modP16 B) w ha hb).mono fun _ _ h=> rd_of h
 rwa [←Int.add_emod] at h
theorem fSub_rd (A B:Int) (va vb:Value) (w:World) (ha:Rd .i64 w va 16 (dg 65536 (A % Pr))) (hb:Rd .i64 w vb 16 (dg 65536 (B % Pr))):Calls Tryz.prog 96 #[va,vb] w fun e w'=> ∃v,e=.returned v∧Rd .i64 w' v 16 (dg 65536 ((A - B) % Pr))∧Below w.heap.size w w':=by
 have h:=(fSub_any va vb (A % Pr) (B % Pr) (modP A) (modP B) w ha hb).mono fun _ _ h=> rd_of h
 rwa [←Int.sub_emod] at h
theorem fMul_rd (A B:Int) (va vb:Value) (w:World) (ha:Rd .i64 w va 16 (dg 65536 (A % Pr))) (hb:Rd .i64 w vb 16 (dg 65536 (B % Pr))):Calls Tryz.prog 76 #[va,vb] w fun e w'=> ∃v,e=.returned v∧Rd .i64 w' v 16 (dg 65536 (A * B % Pr))∧Below w.heap.size w w':=by
 have h:=(fMul_any va vb (A % Pr) (B % Pr) (modP16 A) (modP16 B) w ha hb).mono fun _ _ h=> rd_of h
 rwa [←Int.mul_emod] at h
theorem feOf_fe (X:Int):Fe (dg 65536 (X % 2 ^ 255)) (X % 2 ^ 255):=Fe.dg (mod255 X).1 (mod255 X).2 rfl
end Go.Proofs.YtdhejcaapdhhfaaGreat
namespace Go.Proofs.YtdhejcaapdhhfaaGreat
open Go.RowKit Go.Bas
attribute [local go_sem ↓] Go.wp_at_zero Go.wp_at_succ
theorem pwF_step (f:Nat→Int) (N:Int) (m:Nat) (h:m<256):pwF f N (256 - m)=if N / 2 ^ m % 2=1 then mulF (mulF (pwF f N (256 - (m+1))) (pwF f N (256 - (m+1)))) f else mulF (pwF f N (256 - (m+1))) (pwF f N (256 - (m+1))):=by
 obtain ⟨k,hk⟩:∃k,256 - m=k+1:=⟨255 - m,by omega⟩
 rw [hk,show 256 - (m+1)=k by omega]
 show (if N / 2 ^ (255 - k) % 2=1 then _ else _)= _
 rw [show 255 - k=m by omega]
theorem fePower_any (f:Nat→Int) (X N:Int) (hf:Fe f X) (h0:0≤N) (h1:N<2 ^ 256) (w:World):
  Calls Tryz.prog 111 #[El f,.agg (arr .u8 32 (dg 256 N))] w fun e w'=> e=.returned (El (powF f N))∧Below w.heap.size w w':=by
 have HF:=Lib.hid hf
 have H0:=Lib.hid h0
 have H1:=Lib.hid h1
 clear hf h0 h1
 unfold El
 go_enter Tryz.func111,Tryz.ntmps111
 go_wp2_with fail
 refine (feSmall_any 1 _).mono ?_
 rintro e w1 ⟨rfl,hb1⟩
 have hA1:Arr .i64 w1 w.heap.size 16 f:=Arr.kept (Arr.alloc (Arr.alloc (Arr.newAt (by first | omega | (simp<;> omega)) (by rfl)) _) _) hb1
 have hB1:Arr .u8 w1 (w.heap.size+1) 32 (dg 256 N):=Arr.kept (Arr.alloc (Arr.newAt (by first | omega | (simp<;> omega)) (by rfl)) _) hb1
 have hZ1:Arr .i64 w1 (w.heap.size+2) 16 (fun _=> 0):=Arr.kept (Arr.newAt (by first | omega | (simp<;> omega)) (by rfl)) hb1
 have hbel1:Below w.heap.size w w1:=((((Below.refl _ _).alloc (Nat.le_refl _) _).alloc (by simp) _).alloc (by simp;omega) _).trans (hb1.mono (by simp;omega))
 have l1:=hZ1.lt
 clear hb1
 go_upto_region 2 with (refine store_arr rfl 53 _ _ rfl .i64 w1.heap.size 16 (fun _=> 0) _ Tryz.size53 rfl rfl (Arr.newAt rfl rfl) ?_)
 refine wp_world (fun w2=> Arr .i64 w2 w.heap.size 16 f∧Arr .u8 w2 (w.heap.size+1) 32 (dg 256 N)∧Arr .i64 w2 (w.heap.size+2) 16 (fun _=> 0)∧Arr .i64 w2 w1.heap.size 16 (pwF f N (256 - 256))∧Below w.heap.size w w2)
  ⟨Arr.setRowOther (Arr.alloc hA1 _) _ (by omega) _,Arr.setRowOther (Arr.alloc hB1 _) _ (by omega) _,Arr.setRowOther (Arr.alloc hZ1 _) _ (by omega) _,Arr.setRow (Arr.newAt (n:=16) (f:=fun _=> 0) rfl rfl) _ _,below_setRow' (hbel1.alloc hbel1.size _) hbel1.size _⟩ ?_
 rintro w2 ⟨hA,hB,hZ,hO,hbel⟩
 obtain ⟨b,hb⟩:∃b,b=w1.heap.size:=⟨_,rfl⟩
 rw [←hb] at hO l1 ⊢
 clear hb hA1 hB1 hZ1 hbel1
 go_wp2
 go_loopw [6] (fun i wr=> ∃k:Nat,k≤256∧i=.int .i64 ((k:Int) - 1)∧Arr .i64 wr w.heap.size 16 f∧Arr .u8 wr (w.heap.size+1) 32 (dg 256 N)∧Arr .i64 wr (w.heap.size+2) 16 (fun _=> 0)∧Arr .i64 wr b 16 (pwF f N (256 - k))∧Below w.heap.size w wr) (fun i _=> (intOf i+1).toNat)
 case atStart=> exact ⟨256,Nat.le_refl _,rfl,hA,hB,hZ,hO,hbel⟩
 case round=>
  clear hA hB hZ hO hbel
  obtain ⟨k,hk,rfl,hA,hB,hZ,hO,hbel⟩:=hrel
  obtain _ | m:=k
  ·go_wp2_with (first
    | (refine load_str rfl 53 _ rfl .i64 b 16 _ Tryz.underlying53 rfl Tryz.size53 rfl hO ?_)
    | (refine store_arr rfl 53 _ _ rfl .i64 (w.heap.size+2) 16 (fun _=> 0) _ Tryz.size53 rfl rfl hZ ?_))
   exact bodyPost_ret (results_str rfl _ _ .i64 (w.heap.size+2) 16 _ rfl (hZ.setRow _ _) Tryz.underlying53 rfl Tryz.size53) rfl ⟨rfl,below_setRow' hbel (by omega) _⟩
  ·have hkm:((m+1:Nat):Int) - 1=(m:Int):=by omega
   rw [hkm]
   have HP:=Lib.hid (HF.out.pwF H0.out H1.out (256 - (m+1)) (by omega))
   have HST:=Lib.hid (pwF_step f N m (by omega))
   obtain ⟨g,hg⟩:∃g,g=pwF f N (256 - (m+1)):=⟨_,rfl⟩
   rw [←hg] at HP HST hO
   clear hkm hg
   go_wp2_with (refine load_str rfl 53 _ rfl .i64 b 16 _ Tryz.underlying53 rfl Tryz.size53 rfl hO ?_)
   refine (feMul_any g g _ _ HP.out HP.out _).mono ?_
   rintro e w3 ⟨rfl,hb3⟩
   have hA3:=hA.kept hb3
   have hB3:=hB.kept hb3
   have hZ3:=hZ.kept hb3
   have hO3:=hO.kept hb3
   have hbel3:=hbel.trans (hb3.mono hbel.size)
   clear hA hB hZ hO hbel hb3
   go_upto_region 6 with (refine store_arr rfl 53 _ _ rfl .i64 b 16 _ _ Tryz.size53 rfl rfl hO3 ?_)
   refine wp_world (fun w4=> Arr .i64 w4 w.heap.size 16 f∧Arr .u8 w4 (w.heap.size+1) 32 (dg 256 N)∧Arr .i64 w4 (w.heap.size+2) 16 (fun _=> 0)∧Arr .i64 w4 b 16 (mulF g g)∧Below w.heap.size w w4)
    ⟨Arr.setRowOther hA3 _ (by omega) _,Arr.setRowOther hB3 _ (by omega) _,Arr.setRowOther hZ3 _ (by omega) _,Arr.setRow hO3 _ _,below_setRow' hbel3 (by omega) _⟩ ?_
   rintro w4 ⟨hA,hB',hZ,hO,hbel⟩
   clear hA3 hB3 hZ3 hO3 hbel3
   have hm9:m % 8<8:=Nat.mod_lt _ (by decide)
   have hq:IntKind.i64.wrap (Int.tdiv (m:Int) 8)=((m / 8:Nat):Int):=by rw [Int.tdiv_eq_ediv_of_nonneg (by omega),wrap_i64_id] <;> omega
   have hr:Int.tmod (m:Int) 8=((m % 8:Nat):Int):=by rw [Int.tmod_eq_emod_of_nonneg (by omega)];omega
   have hc:IntKind.u64.wrap ((m % 8:Nat):Int)=((m % 8:Nat):Int):=wrap_u64_id (by omega) (by omega)
   obtain ⟨d0,d1⟩:=dg_bound (by decide:(0:Int)<256) N (m / 8)
   have hsh:=byte_shr (x:=dg 256 N (m / 8)) (m % 8) hm9
   have hand:bits .and .u8 (dg 256 N (m / 8) / 2 ^ (m % 8)) 1=N / 2 ^ m % 2:=by
    rw [and1_u8x (Int.ediv_nonneg d0 (Int.le_of_lt (pow_pos' (by decide) _))) (Int.lt_of_le_of_lt (Int.ediv_le_self _ d0) d1),bit_of N m]
   have hpl:((m / 8:Nat):Int).toNat=m / 8:=Int.toNat_natCast _
   have hm8:m / 8<32:=by omega
   have hce:=hB'.cell (m / 8) hm8
   have hBl:=hB'.lt
   refine region_flow (n:=29) (by kernel_rfl) (by kernel_rfl) (by kernel_rfl) rfl
    (fun ii vv _=> (match ii with | 0 | 4=> vv=.int .i64 ((m:Int)) | 1=> vv=.int .i64 ((m / 8:Nat)) | 2=> vv=.pointer (some ⟨(w.heap.size+1),(m / 8),none⟩) | 3=> vv=.int .u8 (dg 256 N (m / 8)) | 5=> vv=.int .i64 ((m % 8:Nat)) | 6=> vv=.int .u64 ((m % 8:Nat)) | 7=> vv=.int .u8 (dg 256 N (m / 8) / 2 ^ (m % 8)) | 8=> vv=.int .u8 (N / 2 ^ m % 2) | 9=> vv=.bool ((N / 2 ^ m % 2)==(1)) | _=> True))
    (fun w w'=> Below w.heap.size w w') (fun _ _ h=> h) (fun _ _ _ _ h _=> h) ?_ ?_
   ·refine Each.all ?_
    refine ⟨?_,?_,?_,?_,?_,?_,?_,?_,?_,?_,trivial⟩
    ·intro a w2 hB hF hd
     rw [if_pos (wanted_none rfl)]
     exact flow_move _ (.inl rfl) (by simp) (hF.same 6 rfl)
    ·intro a w2 hB hF hd
     rw [if_pos (wanted_none rfl)]
     exact flow_val (fun h=> by cases h) (Go.Bas.run_quo rfl (hd 0 _ rfl (waits_spec rfl)) rfl (by decide)) (congrArg (Value.int .i64) (hq))
    ·intro a w2 hB hF hd
     rw [if_pos (wanted_none rfl)]
     exact flow_val (fun h=> by cases h) (run_index_addr rfl (hF.same 3 rfl) (hd 1 _ rfl (waits_spec rfl)) Tryz.underlying22 (by kernel_rfl) (by omega) (by omega)) (congrArg (fun z=> Value.pointer (some ⟨w.heap.size+1,z,none⟩)) hpl)
    ·intro a w2 hB hF hd
     rw [if_pos (wanted_none rfl)]
     exact flow_val (fun h=> by cases h) (run_load_cell rfl (hd 2 _ rfl (waits_spec rfl)) Tryz.underlying5 ((hB.cell (p:=⟨w.heap.size+1,m / 8,none⟩) hBl).trans hce)) rfl
    ·intro a w2 hB hF hd
     rw [if_pos (wanted_none rfl)]
     exact flow_move _ (.inl rfl) (by simp) (hF.same 6 rfl)
    ·intro a w2 hB hF hd
     rw [if_pos (wanted_none rfl)]
     exact flow_val (fun h=> by cases h) (Go.Bas.run_rem rfl (hd 4 _ rfl (waits_spec rfl)) rfl (by decide)) (congrArg (Value.int .i64) (hr))
    ·intro a w2 hB hF hd
     rw [if_pos (wanted_none rfl)]
     exact flow_val (fun h=> by cases h) (run_conv rfl (hd 5 _ rfl (waits_spec rfl)) Tryz.underlying3 Tryz.underlying92) (congrArg (Value.int .u64) (hc))
    ·intro a w2 hB hF hd
     rw [if_pos (wanted_none rfl)]
     exact flow_val (fun h=> by cases h) (Go.Bas.run_shr rfl (hd 3 _ rfl (waits_spec rfl)) (hd 6 _ rfl (waits_spec rfl)) (by omega)) (congrArg (Value.int .u8) (hsh))
    ·intro a w2 hB hF hd
     rw [if_pos (wanted_none rfl)]
     exact flow_val (fun h=> by cases h) (Go.Bas.run_and rfl (hd 7 _ rfl (waits_spec rfl)) rfl) (congrArg (Value.int .u8) (hand))
    ·intro a w2 hB hF hd
     rw [if_pos (wanted_none rfl)]
     refine flow_val (fun h=> by cases h) (Go.Bas.run_eql_int rfl (hd 8 _ rfl (waits_spec rfl)) rfl) ?_
     exact rfl
   ·intro a w5 hB hF hS
    have ha:=puts_each rfl rfl hF [_,_,_,_,_,_,_,_,_,_] rfl ⟨hS 0 _ rfl,hS 1 _ rfl,hS 2 _ rfl,hS 3 _ rfl,hS 4 _ rfl,hS 5 _ rfl,hS 6 _ rfl,hS 7 _ rfl,hS 8 _ rfl,hS 9 _ rfl,trivial⟩
    simp only [puts,Act.put,List.setIfInBounds_toArray,List.set_cons_succ,List.set_cons_zero] at ha
    subst ha
    clear hS hF
    have hA5:=hA.below hB hA.lt
    have hB5:=hB'.below hB hB'.lt
    have hZ5:=hZ.below hB hZ.lt
    have hO5:=hO.below hB hO.lt
    have hbel5:=hbel.trans (hB.mono hbel.size)
    clear hA hB' hZ hO hbel hB hq hr hc hsh hand hce hpl
    by_cases hbit:N / 2 ^ m % 2=1
    ·have hbb:(N / 2 ^ m % 2==1)=true:=by rw [hbit];rfl
     rw [if_pos hbit] at HST
     clear hbit
     go_wp2_with (first
      | (refine load_str rfl 53 (.tmp 5) rfl .i64 b 16 _ Tryz.underlying53 rfl Tryz.size53 rfl hO5 ?_)
      | (refine load_str rfl 53 (.tmp 2) rfl .i64 w.heap.size 16 _ Tryz.underlying53 rfl Tryz.size53 rfl hA5 ?_))
     refine (feMul_any (mulF g g) f _ _ (HP.out.mulF HP.out) HF.out _).mono ?_
     rintro e w6 ⟨rfl,hb6⟩
     have hA6:=hA5.kept hb6
     have hB6:=hB5.kept hb6
     have hZ6:=hZ5.kept hb6
     have hO6:=hO5.kept hb6
     have hbel6:=hbel5.trans (hb6.mono hbel5.size)
     clear hA5 hB5 hZ5 hO5 hbel5 hb6
     go_wp2_with (refine store_arr rfl 53 _ _ rfl .i64 b 16 _ _ Tryz.size53 rfl rfl hO6 ?_)
     go_roundw
     case rel=> exact ⟨m,by omega,by go_num,Arr.setRowOther hA6 _ (by omega) _,Arr.setRowOther hB6 _ (by omega) _,Arr.setRowOther hZ6 _ (by omega) _,by rw [HST.out];exact Arr.setRow hO6 _ _,below_setRow' hbel6 (by omega) _⟩
     case measure=> simp [intOf] <;> omega
    ·have hbb:(N / 2 ^ m % 2==1)=false:=by simpa using hbit
     rw [if_neg hbit] at HST
     clear hbit
     go_wp2
     go_roundw
     case rel=> exact ⟨m,by omega,by go_num,hA5,hB5,hZ5,by rw [HST.out];exact hO5,hbel5⟩
     case measure=> simp [intOf] <;> omega
theorem feNumber_any (l:Int) (s:Nat) (h0:1≤l) (h1:l≤255) (hs:s≤8) (w:World):
  Calls Tryz.prog 112 #[.int .u8 l,.int .u64 s] w fun e w'=> e=.returned (.agg (arr .u8 32 (dg 256 ((2 ^ 255 - l) / 2 ^ s))))∧Below w.heap.size w w':=by
 have HD:=Lib.hid (num_digits h0 h1)
 obtain ⟨M,hM⟩:∃M:Int,M=2 ^ 255 - l:=⟨_,rfl⟩
 have hMb:0≤M∧M<256 ^ 32:=by (rw [hM];have e:(256:Int) ^ 32=2 * 2 ^ 255:=by decide);(rw [e];have:(255:Int)<2 ^ 255:=by decide);omega
 rw [←hM] at HD ⊢
 have HMB:=Lib.hid hMb
 have hneg:IntKind.u8.wrap (-l)=256 - l:=by rw [IntKind.wrap_u8];omega
 have HN:=Lib.hid hneg
 clear hM hMb hneg
 go_enter Tryz.func112,Tryz.ntmps112
 go_wp2
 go_loopw [8] (fun i wr=> ∃k:Nat,k≤32∧i=.int .i64 k∧Arr .u8 wr w.heap.size 32 (fun _=> 0)∧Arr .u8 wr (w.heap.size+1) 32 (upto k (fun _=> 255) (fun _=> 0))∧Below w.heap.size w wr) (fun i _=> 32 - (intOf i).toNat)
 case atStart=> exact ⟨0,Nat.zero_le _,rfl,Arr.alloc (Arr.newAt (by first | omega | (simp<;> omega)) (by rfl)) _,by rw [upto_zero];exact Arr.newAt (by first | omega | (simp<;> omega)) (by rfl),((Below.refl _ _).alloc (Nat.le_refl _) _).alloc (by simp) _⟩
 case round=>
  obtain ⟨k,hk,rfl,hZ,hA,hbel⟩:=hrel
  by_cases hlt:k<32
  ·have e1:=hA.cell k hlt
   have f1:=hA.free k
   have HA:=Lib.hid hA
   have HZ:=Lib.hid hZ
   clear hA hZ
   go_wp2
   go_roundw
   case rel=> exact ⟨k+1,by omega,by go_num,HZ.out.other (by first | omega | (simp<;> omega)) _,by rw [←upto_step rfl];exact HA.out.set k _,hbel.setCell (by first | omega | (simp<;> omega)) _⟩
   case measure=> simp [intOf] <;> omega
  ·obtain rfl:k=32:=by omega
   have hA2:=hA.congr (upto_full _ _ (Nat.le_refl _))
   have e0:=hA2.cell 0 (by decide)
   have e31:=hA2.cell 31 (by decide)
   have f0:=hA2.free 0
   have f31:=hA2.free 31
   have HA:=Lib.hid hA2
   have HZ:=Lib.hid hZ
   have HB:=Lib.hid hbel
   clear hA hA2 hZ hbel
   have hneg:=HN.out
   go_upto_region 8 with (fail)
   refine wp_world (fun w1=> Arr .u8 w1 w.heap.size 32 (fun _=> 0)∧Arr .u8 w1 (w.heap.size+1) 32 (dg 256 M)∧Below w.heap.size w w1)
    ⟨(HZ.out.other (by first | omega | (simp<;> omega)) _).other (by first | omega | (simp<;> omega)) _,((HA.out.set 0 (256 - l)).set 31 127).congr HD.out,(HB.out.setCell (by first | omega | (simp<;> omega)) _).setCell (by first | omega | (simp<;> omega)) _⟩ ?_
   rintro w1 ⟨hZ,hA,hbel⟩
   clear e0 e31 f0 f31 HA HZ HB hneg
   go_wp2
   go_loopw [19] (fun i wr=> ∃j:Nat,j≤s∧i=.int .u64 j∧Arr .u8 wr w.heap.size 32 (fun _=> 0)∧Arr .u8 wr (w.heap.size+1) 32 (dg 256 (M / 2 ^ j))∧Below w.heap.size w wr) (fun i _=> s - (intOf i).toNat)
   case atStart=> exact ⟨0,Nat.zero_le _,rfl,hZ,by rw [Int.pow_zero,Int.ediv_one];exact hA,hbel⟩
   case round=>
    clear hZ hA hbel
    obtain ⟨j,hj,rfl,hZ,hA,hbel⟩:=hrel
    by_cases hlt2:j<s
    ·obtain ⟨Y,hY⟩:∃Y,Y=M / 2 ^ j:=⟨_,rfl⟩
     have hY2:M / 2 ^ (j+1)=Y / 2:=by rw [hY,div_succ (by decide)]
     have hYb:0≤Y∧Y<256 ^ 32:=by rw [hY];exact ⟨Int.ediv_nonneg HMB.out.1 (Int.le_of_lt (pow_pos' (by decide) _)),Int.lt_of_le_of_lt (Int.ediv_le_self _ HMB.out.1) HMB.out.2⟩
     rw [←hY] at hA
     have HY2:=Lib.hid hY2
     have HYB:=Lib.hid hYb
     have HZ:=Lib.hid hZ
     have HA:=Lib.hid hA
     have HB:=Lib.hid hbel
     clear hY hY2 hYb hZ hA hbel
     go_wp2
     go_loopw [21] (fun i wr=> ∃k:Nat,k≤32∧i=.int .i64 k∧Arr .u8 wr w.heap.size 32 (fun _=> 0)∧Arr .u8 wr (w.heap.size+1) 32 (upto k (dg 256 (Y / 2)) (dg 256 Y))∧Below w.heap.size w wr) (fun i _=> 32 - (intOf i).toNat)
     case atStart=> exact ⟨0,Nat.zero_le _,rfl,HZ.out,by rw [upto_zero];exact HA.out,HB.out⟩
     case round=>
      clear HZ HA HB
      obtain ⟨k,hk,rfl,hZ,hA,hbel⟩:=hrel
      by_cases hlt3:k<32
      ·have e1:=hA.cell k hlt3
       have f1:=hA.free k
       rw [upto_at] at e1
       obtain ⟨a0,a1⟩:=dg_bound (by decide:(0:Int)<256) Y k
       obtain ⟨c0,c1⟩:=dg_bound (by decide:(0:Int)<256) Y (k+1)
       have hh:=half_digit Y k
       obtain ⟨a,ha⟩:∃a,a=dg 256 Y k:=⟨_,rfl⟩
       obtain ⟨c,hc⟩:∃c,c=dg 256 Y (k+1):=⟨_,rfl⟩
       rw [←ha] at e1 a0 a1 hh
       rw [←hc] at c0 c1 hh
       have HH:=Lib.hid hh
       have HC:=Lib.hid hc
       clear hh ha
       by_cases hk31:k<31
       ·have e2:=hA.cell (k+1) (by omega)
        have hu:upto k (dg 256 (Y / 2)) (dg 256 Y) (k+1)=c:=by rw [hc];exact if_neg (by omega)
        rw [hu] at e2
        have HA:=Lib.hid hA
        have HZ:=Lib.hid hZ
        have HB:=Lib.hid hbel
        have HU:=Lib.hid hu
        clear hA hZ hbel hc hu
        go_upto_region 14 with (fail)
        refine wp_world (fun w2=> Arr .u8 w2 w.heap.size 32 (fun _=> 0)∧Arr .u8 w2 (w.heap.size+1) 32 (upd (upto k (dg 256 (Y / 2)) (dg 256 Y)) k (a / 2))∧Below w.heap.size w w2)
         ⟨HZ.out.other (by first | omega | (simp<;> omega)) _,HA.out.set k _,HB.out.setCell (by first | omega | (simp<;> omega)) _⟩ ?_
        rintro w2 ⟨hZ2,hA2,hb2⟩
        have e3:=hA2.cell (k+1) (by omega)
        rw [upd_ne _ _ (by omega),HU.out] at e3
        have e4:=hA2.cell k hlt3
        have f4:=hA2.free k
        rw [upd_at] at e4
        have hor:=Go.Bas.u8_or128 (a:=a / 2) (b:=c % 2) (by omega) (by omega) (by omega) (by omega)
        have hmm:c * 128 % 256=c % 2 * 128:=by omega
        rw [←hmm] at hor
        have HMM:=Lib.hid hmm
        have HA2:=Lib.hid hA2
        clear e1 e2 f1 HA HZ HB hA2 hmm
        go_wp2
        go_region
        all_goals
         go_wp2
         go_roundw
         case rel=> exact ⟨k+1,by omega,by go_num,(hZ2.other (by first | omega | (simp<;> omega)) _).drew,by have h3:=(HA2.out.set k (a / 2+c * 128 % 256)).drew;rw [HMM.out] at h3;rw [HMM.out,←upto_step HH.out.symm];exact h3.congr (fun i _=> upd_upd _ _ _ _ i),(hb2.setCell (by first | omega | (simp<;> omega)) _).drew⟩
         case measure=> simp [intOf] <;> omega
       ·obtain rfl:k=31:=by omega
        have hc0:c=0:=by rw [hc];exact dg_small HYB.out
        have HH2:Hid (a / 2=dg 256 (Y / 2) 31):=by show _= _;have:=HH.out;omega
        have HA:=Lib.hid hA
        have HZ:=Lib.hid hZ
        have HB:=Lib.hid hbel
        clear hA hZ hbel hc hc0
        go_wp2
        go_roundw
        case rel=> exact ⟨32,by omega,by go_num,HZ.out.other (by first | omega | (simp<;> omega)) _,by rw [←upto_step HH2.out];exact HA.out.set 31 _,HB.out.setCell (by first | omega | (simp<;> omega)) _⟩
        case measure=> simp [intOf] <;> omega
      ·obtain rfl:k=32:=by omega
       have hA2:=hA.congr (upto_full _ _ (Nat.le_refl _))
       clear hA
       go_wp2
       go_roundw
       case rel=> exact ⟨j+1,by omega,by go_num,hZ,by rw [HY2.out];exact hA2,hbel⟩
       case measure=> simp [intOf] <;> omega
    ·obtain rfl:j=s:=by omega
     go_wp2_with (first
      | (refine load_arr rfl 22 _ rfl .u8 (w.heap.size+1) 32 _ 5 Tryz.underlying22 Tryz.size22 rfl hA ?_)
      | (refine store_arr rfl 22 _ _ rfl .u8 w.heap.size 32 (fun _=> 0) _ Tryz.size22 rfl rfl hZ ?_))
     exact bodyPost_ret (results_arr rfl _ _ .u8 w.heap.size 32 _ 5 rfl (hZ.setRow _ _) Tryz.underlying22 Tryz.size22) rfl ⟨rfl,below_setRow' hbel (Nat.le_refl _) _⟩
theorem inv_exp:((2 ^ 255 - 21) / 2 ^ 0:Int)=((PN - 2:Nat):Int):=by decide
theorem inv_exp_bound:(0:Int)≤((PN - 2:Nat):Int)∧((PN - 2:Nat):Int)<2 ^ 256:=by decide
theorem number_inv (w:World):Calls Tryz.prog 112 #[.int .u8 21,.int .u64 0] w fun e w'=> e=.returned (.agg (arr .u8 32 (dg 256 ((PN - 2:Nat):Int))))∧Below w.heap.size w w':=by
 have h:=feNumber_any 21 0 (by decide) (by decide) (by decide) w
 rw [inv_exp] at h
 exact h
def invF (f:Nat→Int):Nat→Int:=powF f ((PN - 2:Nat):Int)
def invN (X:Int):Int:=X ^ (PN - 2)
theorem fe_inv {f:Nat→Int} {X:Int} (hf:Fe f X):Fe (invF f) (invN X):=by
 unfold invN
 have h:=hf.powF inv_exp_bound.1 inv_exp_bound.2
 rwa [Int.toNat_natCast] at h
theorem feInverse_any (f:Nat→Int) (X:Int) (hf:Fe f X) (w:World):
  Calls Tryz.prog 54 #[El f] w fun e w'=> e=.returned (El (invF f))∧Below w.heap.size w w':=by
 have HF:=Lib.hid hf
 clear hf
 unfold El
 go_enter Tryz.func54,Tryz.ntmps54
 go_wp2
 refine wp_world (fun w1=> Arr .i64 w1 w.heap.size 16 f∧Arr .i64 w1 (w.heap.size+1) 16 (fun _=> 0)∧Below w.heap.size w w1)
  ⟨Arr.alloc (Arr.newAt (by first | omega | (simp<;> omega)) (by rfl)) _,Arr.newAt (by first | omega | (simp<;> omega)) (by rfl),((Below.refl _ _).alloc (Nat.le_refl _) _).alloc (by simp) _⟩ ?_
 rintro w1 ⟨hA,hZ,hbel⟩
 refine region_lasts (n:=6) (fun i=> i==3) (by kernel_rfl) (by kernel_rfl) (by kernel_rfl) (by kernel_rfl) rfl
  (fun ii vv _=> (match ii with | 0=> vv=.agg (arr .i64 16 (f)) | 1=> vv=.agg (arr .u8 32 (dg 256 ((PN - 2:Nat):Int))) | 2=> vv=.agg (arr .i64 16 (invF f)) | _=> True))
  (fun w w'=> Below w.heap.size w w') (fun _ _ h=> h) (fun _ _ _ _ h _=> h)
  (fun _=> (w.heap.size+1)) (fun _=> (arr .i64 16 (fun _=> 0))) (fun _=> (arr .i64 16 (invF f)))
  (by intro i j _ _ hpi hpj hne;simp only [beq_iff_eq] at hpi hpj;omega)
  (by intro i _ hpi;exact (hZ).row)
  ?_ ?_ ?_
 ·refine Each.all ?_
  refine ⟨?_,?_,?_,(fun h=> absurd h (by decide)),trivial⟩
  ·intro _ a w2 hB hF hd
   rw [if_pos (wanted_none rfl)]
   exact flow_val (fun h=> by cases h) (run_load_str rfl Tryz.underlying53 rfl Tryz.size53 (hF.same 1 rfl) (hA.below hB hA.lt)) rfl
  ·intro _ a w2 hB hF hd
   rw [if_pos (wanted_none rfl)]
   refine flow_call _ _ _ rfl Tryz.call112 _ (args2 rfl rfl) (by simp) ((number_inv w2).mono ?_)
   rintro e w3 ⟨rfl,hb⟩;exact ⟨_,rfl,rfl,hb⟩
  ·intro _ a w2 hB hF hd
   rw [if_pos (wanted_none rfl)]
   refine flow_call _ _ _ rfl Tryz.call111 _ (args2 (hd 0 _ rfl rfl (waits_spec rfl)) (hd 1 _ rfl rfl (waits_spec rfl))) (by simp) ((fePower_any f X ((PN - 2:Nat):Int) HF.out inv_exp_bound.1 inv_exp_bound.2 w2).mono ?_)
   rintro e w3 ⟨rfl,hb⟩;exact ⟨_,rfl,rfl,hb⟩
 ·refine Each.all ?_
  refine ⟨(fun h=> absurd h (by decide)),(fun h=> absurd h (by decide)),(fun h=> absurd h (by decide)),?_,trivial⟩
  ·intro _ a w1 w2 K hB hF hS hr hK
   exact wp_store_arr 53 _ _ rfl .i64 ((w.heap.size+1)) 16 (fun _=> 0) (invF f) Tryz.size53 (hF.same 2 rfl) (hS 2 _ rfl rfl) hr hK
 ·intro a wf w3 hB hF hS hfil
  have other:∀{k:IntKind} {qb n:Nat} {f:Nat→Int},qb≠(w.heap.size+1)→Arr k wf qb n f→Arr k w3 qb n f:=fun {k qb n f} e0 hA=> hfil.arr (by intro i _ hpi;simp only [Bool.or_eq_true,beq_iff_eq] at hpi;subst hpi<;> ((try simp only []);(try dsimp only);omega)) hA
  have belowT:∀{B:Nat} {w0:World},B≤(w.heap.size+1)→Below B w0 wf→Below B w0 w3:=fun {B w0} e0 hA=> hfil.below (by intro i _ hpi;simp only [Bool.or_eq_true,beq_iff_eq] at hpi;subst hpi<;> ((try simp only []);(try dsimp only);omega)) hA
  have V3:Arr .i64 w3 ((w.heap.size+1)) 16 (invF f):=hfil.at 3 (by decide) rfl
  have hszf:=hfil.size
  clear hfil
  have ha:=puts_each rfl rfl hF [_,_,_,undef] rfl ⟨hS 0 _ rfl rfl,hS 1 _ rfl rfl,hS 2 _ rfl rfl,trivial,trivial⟩
  simp only [puts,Act.put,List.setIfInBounds_toArray,List.set_cons_succ,List.set_cons_zero] at ha
  subst ha
  clear hS hF
  have hb:=belowT (by omega) (hbel.trans (hB.mono hbel.size))
  clear hA hZ hbel hB other belowT
  go_wp2
  exact bodyPost_ret (results_str rfl _ _ .i64 (w.heap.size+1) 16 _ rfl V3 Tryz.underlying53 rfl Tryz.size53) rfl ⟨rfl,hb⟩
theorem feSwap_yes (f g:Nat→Int) (X Y:Int) (hf:Fe f X) (hg:Fe g Y) (w:World):
  Calls Tryz.prog 115 #[El f,El g,.bool true] w fun e w'=> e=.returned (.tuple #[El g,El f])∧Below w.heap.size w w':=by
 have C1:∀w,Calls Tryz.prog 145 #[El f,El g,.int .i64 1] w fun e w'=> e=.returned (El g)∧Below w.heap.size w w':=fun w=> feChoose_any f g 1 (by decide) (fun i hi=> by have:=hf.1.bound i hi;omega) (fun i hi=> by have:=hg.1.bound i hi;omega) w
 have C2:∀w,Calls Tryz.prog 145 #[El g,El f,.int .i64 1] w fun e w'=> e=.returned (El f)∧Below w.heap.size w w':=fun w=> feChoose_any g f 1 (by decide) (fun i hi=> by have:=hg.1.bound i hi;omega) (fun i hi=> by have:=hf.1.bound i hi;omega) w
 have K1:=Lib.hid C1
 have K2:=Lib.hid C2
 clear C1 C2 hf hg
 unfold El
 go_enter Tryz.func115,Tryz.ntmps115
 go_wp2
 refine wp_world (fun w1=> Arr .i64 w1 w.heap.size 16 f∧Arr .i64 w1 (w.heap.size+1) 16 g∧Arr .i64 w1 (w.heap.size+2) 16 (fun _=> 0)∧Arr .i64 w1 (w.heap.size+3) 16 (fun _=> 0)∧Below w.heap.size w w1)
  ⟨Arr.alloc (Arr.alloc (Arr.alloc (Arr.newAt (by first | omega | (simp<;> omega)) (by rfl)) _) _) _,Arr.alloc (Arr.alloc (Arr.newAt (by first | omega | (simp<;> omega)) (by rfl)) _) _,Arr.alloc (Arr.newAt (by first | omega | (simp<;> omega)) (by rfl)) _,Arr.newAt (by first | omega | (simp<;> omega)) (by rfl),((((Below.refl _ _).alloc (Nat.le_refl _) _).alloc (by simp) _).alloc (by simp;omega) _).alloc (by simp;omega) _⟩ ?_
 rintro w1 ⟨hA,hG,hZ,hY,hbel⟩
 refine region_lasts (n:=18) (fun i=> i==8 || i==9) (by kernel_rfl) (by kernel_rfl) (by kernel_rfl) (by kernel_rfl) rfl
  (fun ii vv _=> (match ii with | 0 | 5 | 7=> vv=.agg (arr .i64 16 (f)) | 1 | 3 | 4=> vv=.agg (arr .i64 16 (g)) | 2 | 6=> vv=.int .i64 (1) | _=> True))
  (fun w w'=> Below w.heap.size w w') (fun _ _ h=> h) (fun _ _ _ _ h _=> h)
  (fun i=> match i with | 8=> (w.heap.size+2) | _=> (w.heap.size+3)) (fun i=> match i with | 8=> (arr .i64 16 (fun _=> 0)) | _=> (arr .i64 16 (fun _=> 0))) (fun i=> match i with | 8=> (arr .i64 16 (g)) | _=> (arr .i64 16 (f)))
  (by intro i j _ _ hpi hpj hne;simp only [Bool.or_eq_true,beq_iff_eq] at hpi hpj;rcases hpi with rfl | rfl<;> rcases hpj with rfl | rfl<;> first | exact absurd rfl hne | (simp only [];omega))
  (by intro i _ hpi;simp only [Bool.or_eq_true,beq_iff_eq] at hpi;rcases hpi with rfl | rfl<;> first | exact (hZ).row | exact (hY).row)
  ?_ ?_ ?_
 ·refine Each.all ?_
  refine ⟨?_,?_,?_,?_,?_,?_,?_,?_,(fun h=> absurd h (by decide)),(fun h=> absurd h (by decide)),trivial⟩
  ·intro _ a w2 hB hF hd
   rw [if_pos (wanted_none rfl)]
   exact flow_val (fun h=> by cases h) (run_load_str rfl Tryz.underlying53 rfl Tryz.size53 (hF.same 3 rfl) (hA.below hB hA.lt)) rfl
  ·intro _ a w2 hB hF hd
   rw [if_pos (wanted_none rfl)]
   exact flow_val (fun h=> by cases h) (run_load_str rfl Tryz.underlying53 rfl Tryz.size53 (hF.same 4 rfl) (hG.below hB hG.lt)) rfl
  ·intro _ a w2 hB hF hd
   rw [if_pos (wanted_none rfl)]
   exact flow_move _ (.inl rfl) (by simp) (hF.same 8 rfl)
  ·intro _ a w2 hB hF hd
   rw [if_pos (wanted_none rfl)]
   refine flow_call _ _ _ rfl Tryz.call145 _ (args3 (hd 0 _ rfl rfl (waits_spec rfl)) (hd 1 _ rfl rfl (waits_spec rfl)) (hd 2 _ rfl rfl (waits_spec rfl))) (by simp) ((K1.out w2).mono ?_)
   rintro e w3 ⟨rfl,hb⟩;exact ⟨_,rfl,rfl,hb⟩
  ·intro _ a w2 hB hF hd
   rw [if_pos (wanted_none rfl)]
   exact flow_val (fun h=> by cases h) (run_load_str rfl Tryz.underlying53 rfl Tryz.size53 (hF.same 4 rfl) (hG.below hB hG.lt)) rfl
  ·intro _ a w2 hB hF hd
   rw [if_pos (wanted_none rfl)]
   exact flow_val (fun h=> by cases h) (run_load_str rfl Tryz.underlying53 rfl Tryz.size53 (hF.same 3 rfl) (hA.below hB hA.lt)) rfl
  ·intro _ a w2 hB hF hd
   rw [if_pos (wanted_none rfl)]
   exact flow_move _ (.inl rfl) (by simp) (hF.same 8 rfl)
  ·intro _ a w2 hB hF hd
   rw [if_pos (wanted_none rfl)]
   refine flow_call _ _ _ rfl Tryz.call145 _ (args3 (hd 4 _ rfl rfl (waits_spec rfl)) (hd 5 _ rfl rfl (waits_spec rfl)) (hd 6 _ rfl rfl (waits_spec rfl))) (by simp) ((K2.out w2).mono ?_)
   rintro e w3 ⟨rfl,hb⟩;exact ⟨_,rfl,rfl,hb⟩
 ·refine Each.all ?_
  refine ⟨(fun h=> absurd h (by decide)),(fun h=> absurd h (by decide)),(fun h=> absurd h (by decide)),(fun h=> absurd h (by decide)),(fun h=> absurd h (by decide)),(fun h=> absurd h (by decide)),(fun h=> absurd h (by decide)),(fun h=> absurd h (by decide)),?_,?_,trivial⟩
  ·intro _ a w1 w2 K hB hF hS hr hK
   exact wp_store_arr 53 _ _ rfl .i64 ((w.heap.size+2)) 16 (fun _=> 0) (g) Tryz.size53 (hF.same 6 rfl) (hS 3 _ rfl rfl) hr hK
  ·intro _ a w1 w2 K hB hF hS hr hK
   exact wp_store_arr 53 _ _ rfl .i64 ((w.heap.size+3)) 16 (fun _=> 0) (f) Tryz.size53 (hF.same 7 rfl) (hS 7 _ rfl rfl) hr hK
 ·intro a wf w3 hB hF hS hfil
  have other:∀{k:IntKind} {qb n:Nat} {f:Nat→Int},qb≠(w.heap.size+2)→qb≠(w.heap.size+3)→Arr k wf qb n f→Arr k w3 qb n f:=fun {k qb n f} e0 e1 hA=> hfil.arr (by intro i _ hpi;simp only [Bool.or_eq_true,beq_iff_eq] at hpi;rcases hpi with rfl | rfl<;> ((try simp only []);(try dsimp only);omega)) hA
  have belowT:∀{B:Nat} {w0:World},B≤(w.heap.size+2)→B≤(w.heap.size+3)→Below B w0 wf→Below B w0 w3:=fun {B w0} e0 e1 hA=> hfil.below (by intro i _ hpi;simp only [Bool.or_eq_true,beq_iff_eq] at hpi;rcases hpi with rfl | rfl<;> ((try simp only []);(try dsimp only);omega)) hA
  have V8:Arr .i64 w3 ((w.heap.size+2)) 16 (g):=hfil.at 8 (by decide) rfl
  have V9:Arr .i64 w3 ((w.heap.size+3)) 16 (f):=hfil.at 9 (by decide) rfl
  have hszf:=hfil.size
  clear hfil
  have ha:=puts_each rfl rfl hF [_,_,_,_,_,_,_,_,undef,undef] rfl ⟨hS 0 _ rfl rfl,hS 1 _ rfl rfl,hS 2 _ rfl rfl,hS 3 _ rfl rfl,hS 4 _ rfl rfl,hS 5 _ rfl rfl,hS 6 _ rfl rfl,hS 7 _ rfl rfl,trivial,trivial,trivial⟩
  simp only [puts,Act.put,List.setIfInBounds_toArray,List.set_cons_succ,List.set_cons_zero] at ha
  subst ha
  clear hS hF
  have hb:=belowT (by omega) (by omega) (hbel.trans (hB.mono hbel.size))
  clear hA hG hZ hY hbel hB other belowT
  go_wp2
  exact bodyPost_ret (results_strs rfl _ _ .i64 (w.heap.size+2) 16 _ .i64 (w.heap.size+3) 16 _ rfl V8 Tryz.underlying53 rfl Tryz.size53 rfl V9 Tryz.underlying53 rfl Tryz.size53) rfl ⟨rfl,hb⟩
theorem feSwap_no (f g:Nat→Int) (X Y:Int) (hf:Fe f X) (hg:Fe g Y) (w:World):
  Calls Tryz.prog 115 #[El f,El g,.bool false] w fun e w'=> e=.returned (.tuple #[El f,El g])∧Below w.heap.size w w':=by
 have C1:∀w,Calls Tryz.prog 145 #[El f,El g,.int .i64 0] w fun e w'=> e=.returned (El f)∧Below w.heap.size w w':=fun w=> feChoose_any f g 0 (by decide) (fun i hi=> by have:=hf.1.bound i hi;omega) (fun i hi=> by have:=hg.1.bound i hi;omega) w
 have C2:∀w,Calls Tryz.prog 145 #[El g,El f,.int .i64 0] w fun e w'=> e=.returned (El g)∧Below w.heap.size w w':=fun w=> feChoose_any g f 0 (by decide) (fun i hi=> by have:=hg.1.bound i hi;omega) (fun i hi=> by have:=hf.1.bound i hi;omega) w
 have K1:=Lib.hid C1
 have K2:=Lib.hid C2
 clear C1 C2 hf hg
 unfold El
 go_enter Tryz.func115,Tryz.ntmps115
 go_wp2
 refine wp_world (fun w1=> Arr .i64 w1 w.heap.size 16 f∧Arr .i64 w1 (w.heap.size+1) 16 g∧Arr .i64 w1 (w.heap.size+2) 16 (fun _=> 0)∧Arr .i64 w1 (w.heap.size+3) 16 (fun _=> 0)∧Below w.heap.size w w1)
  ⟨Arr.alloc (Arr.alloc (Arr.alloc (Arr.newAt (by first | omega | (simp<;> omega)) (by rfl)) _) _) _,Arr.alloc (Arr.alloc (Arr.newAt (by first | omega | (simp<;> omega)) (by rfl)) _) _,Arr.alloc (Arr.newAt (by first | omega | (simp<;> omega)) (by rfl)) _,Arr.newAt (by first | omega | (simp<;> omega)) (by rfl),((((Below.refl _ _).alloc (Nat.le_refl _) _).alloc (by simp) _).alloc (by simp;omega) _).alloc (by simp;omega) _⟩ ?_
 rintro w1 ⟨hA,hG,hZ,hY,hbel⟩
 refine region_lasts (n:=18) (fun i=> i==8 || i==9) (by kernel_rfl) (by kernel_rfl) (by kernel_rfl) (by kernel_rfl) rfl
  (fun ii vv _=> (match ii with | 0 | 3 | 5=> vv=.agg (arr .i64 16 (f)) | 1 | 4 | 7=> vv=.agg (arr .i64 16 (g)) | 2 | 6=> vv=.int .i64 (0) | _=> True))
  (fun w w'=> Below w.heap.size w w') (fun _ _ h=> h) (fun _ _ _ _ h _=> h)
  (fun i=> match i with | 8=> (w.heap.size+2) | _=> (w.heap.size+3)) (fun i=> match i with | 8=> (arr .i64 16 (fun _=> 0)) | _=> (arr .i64 16 (fun _=> 0))) (fun i=> match i with | 8=> (arr .i64 16 (f)) | _=> (arr .i64 16 (g)))
  (by intro i j _ _ hpi hpj hne;simp only [Bool.or_eq_true,beq_iff_eq] at hpi hpj;rcases hpi with rfl | rfl<;> rcases hpj with rfl | rfl<;> first | exact absurd rfl hne | (simp only [];omega))
  (by intro i _ hpi;simp only [Bool.or_eq_true,beq_iff_eq] at hpi;rcases hpi with rfl | rfl<;> first | exact (hZ).row | exact (hY).row)
  ?_ ?_ ?_
 ·refine Each.all ?_
  refine ⟨?_,?_,?_,?_,?_,?_,?_,?_,(fun h=> absurd h (by decide)),(fun h=> absurd h (by decide)),trivial⟩
  ·intro _ a w2 hB hF hd
   rw [if_pos (wanted_none rfl)]
   exact flow_val (fun h=> by cases h) (run_load_str rfl Tryz.underlying53 rfl Tryz.size53 (hF.same 3 rfl) (hA.below hB hA.lt)) rfl
  ·intro _ a w2 hB hF hd
   rw [if_pos (wanted_none rfl)]
   exact flow_val (fun h=> by cases h) (run_load_str rfl Tryz.underlying53 rfl Tryz.size53 (hF.same 4 rfl) (hG.below hB hG.lt)) rfl
  ·intro _ a w2 hB hF hd
   rw [if_pos (wanted_none rfl)]
   exact flow_move _ (.inl rfl) (by simp) (hF.same 8 rfl)
  ·intro _ a w2 hB hF hd
   rw [if_pos (wanted_none rfl)]
   refine flow_call _ _ _ rfl Tryz.call145 _ (args3 (hd 0 _ rfl rfl (waits_spec rfl)) (hd 1 _ rfl rfl (waits_spec rfl)) (hd 2 _ rfl rfl (waits_spec rfl))) (by simp) ((K1.out w2).mono ?_)
   rintro e w3 ⟨rfl,hb⟩;exact ⟨_,rfl,rfl,hb⟩
  ·intro _ a w2 hB hF hd
   rw [if_pos (wanted_none rfl)]
   exact flow_val (fun h=> by cases h) (run_load_str rfl Tryz.underlying53 rfl Tryz.size53 (hF.same 4 rfl) (hG.below hB hG.lt)) rfl
  ·intro _ a w2 hB hF hd
   rw [if_pos (wanted_none rfl)]
   exact flow_val (fun h=> by cases h) (run_load_str rfl Tryz.underlying53 rfl Tryz.size53 (hF.same 3 rfl) (hA.below hB hA.lt)) rfl
  ·intro _ a w2 hB hF hd
   rw [if_pos (wanted_none rfl)]
   exact flow_move _ (.inl rfl) (by simp) (hF.same 8 rfl)
  ·intro _ a w2 hB hF hd
   rw [if_pos (wanted_none rfl)]
   refine flow_call _ _ _ rfl Tryz.call145 _ (args3 (hd 4 _ rfl rfl (waits_spec rfl)) (hd 5 _ rfl rfl (waits_spec rfl)) (hd 6 _ rfl rfl (waits_spec rfl))) (by simp) ((K2.out w2).mono ?_)
   rintro e w3 ⟨rfl,hb⟩;exact ⟨_,rfl,rfl,hb⟩
 ·refine Each.all ?_
  refine ⟨(fun h=> absurd h (by decide)),(fun h=> absurd h (by decide)),(fun h=> absurd h (by decide)),(fun h=> absurd h (by decide)),(fun h=> absurd h (by decide)),(fun h=> absurd h (by decide)),(fun h=> absurd h (by decide)),(fun h=> absurd h (by decide)),?_,?_,trivial⟩
  ·intro _ a w1 w2 K hB hF hS hr hK
   exact wp_store_arr 53 _ _ rfl .i64 ((w.heap.size+2)) 16 (fun _=> 0) (f) Tryz.size53 (hF.same 6 rfl) (hS 3 _ rfl rfl) hr hK
  ·intro _ a w1 w2 K hB hF hS hr hK
   exact wp_store_arr 53 _ _ rfl .i64 ((w.heap.size+3)) 16 (fun _=> 0) (g) Tryz.size53 (hF.same 7 rfl) (hS 7 _ rfl rfl) hr hK
 ·intro a wf w3 hB hF hS hfil
  have other:∀{k:IntKind} {qb n:Nat} {f:Nat→Int},qb≠(w.heap.size+2)→qb≠(w.heap.size+3)→Arr k wf qb n f→Arr k w3 qb n f:=fun {k qb n f} e0 e1 hA=> hfil.arr (by intro i _ hpi;simp only [Bool.or_eq_true,beq_iff_eq] at hpi;rcases hpi with rfl | rfl<;> ((try simp only []);(try dsimp only);omega)) hA
  have belowT:∀{B:Nat} {w0:World},B≤(w.heap.size+2)→B≤(w.heap.size+3)→Below B w0 wf→Below B w0 w3:=fun {B w0} e0 e1 hA=> hfil.below (by intro i _ hpi;simp only [Bool.or_eq_true,beq_iff_eq] at hpi;rcases hpi with rfl | rfl<;> ((try simp only []);(try dsimp only);omega)) hA
  have V8:Arr .i64 w3 ((w.heap.size+2)) 16 (f):=hfil.at 8 (by decide) rfl
  have V9:Arr .i64 w3 ((w.heap.size+3)) 16 (g):=hfil.at 9 (by decide) rfl
  have hszf:=hfil.size
  clear hfil
  have ha:=puts_each rfl rfl hF [_,_,_,_,_,_,_,_,undef,undef] rfl ⟨hS 0 _ rfl rfl,hS 1 _ rfl rfl,hS 2 _ rfl rfl,hS 3 _ rfl rfl,hS 4 _ rfl rfl,hS 5 _ rfl rfl,hS 6 _ rfl rfl,hS 7 _ rfl rfl,trivial,trivial,trivial⟩
  simp only [puts,Act.put,List.setIfInBounds_toArray,List.set_cons_succ,List.set_cons_zero] at ha
  subst ha
  clear hS hF
  have hb:=belowT (by omega) (by omega) (hbel.trans (hB.mono hbel.size))
  clear hA hG hZ hY hbel hB other belowT
  go_wp2
  exact bodyPost_ret (results_strs rfl _ _ .i64 (w.heap.size+2) 16 _ .i64 (w.heap.size+3) 16 _ rfl V8 Tryz.underlying53 rfl Tryz.size53 rfl V9 Tryz.underlying53 rfl Tryz.size53) rfl ⟨rfl,hb⟩
end Go.Proofs.YtdhejcaapdhhfaaGreat
namespace Go.Bas
open Go.RowKit
theorem clamp_digits (S:Int):∀i,i<32→upd (upd (dg 256 S) 0 (dg 256 S 0 / 8 * 8)) 31 (dg 256 S 31 % 64+64) i=dg 256 (clampN S) i:=by
 have key:∀i:Fin 32,upd (upd (dg 256 S) 0 (dg 256 S 0 / 8 * 8)) 31 (dg 256 S 31 % 64+64) i.val=dg 256 (clampN S) i.val:=by
  intro ⟨i,hi⟩
  have e:∀j,dg 256 (clampN S) j=(S % 2 ^ 254 / 8 * 8+2 ^ 254) / 256 ^ j % 256:=fun _=> rfl
  have e':∀j,dg 256 S j=S / 256 ^ j % 256:=fun _=> rfl
  rcases i with _ | _ | _ | _ | _ | _ | _ | _ | _ | _ | _ | _ | _ | _ | _ | _ | _ | _ | _ | _ | _ | _ | _ | _ | _ | _ | _ | _ | _ | _ | _ | _ | i
  all_goals first
   | omega
   | (simp only [upd,e,e'];simp;omega)
 exact fun i h=> key ⟨i,h⟩
theorem results_str4 {P:Program} {fn:Func} {p q p2 q2:Tmp} {T:TypeId} (h:fn.results=#[.cell p T,.cell q T,.cell p2 T,.cell q2 T]) (tmps:Array Value) (w:World) (k:IntKind) (n:Nat) {d:TypeDesc} (hu:P.underlying T=some d) (hd:aggB d=true) (hi:(P.info? T).map (·.size)=some n)
  (b1 b2 b3 b4:Nat) (f1 f2 f3 f4:Nat→Int) (hp:tmps.getD p undef=.pointer (some ⟨b1,0,none⟩)) (ha:Arr k w b1 n f1) (hp2:tmps.getD q undef=.pointer (some ⟨b2,0,none⟩)) (ha2:Arr k w b2 n f2)
  (hp3:tmps.getD p2 undef=.pointer (some ⟨b3,0,none⟩)) (ha3:Arr k w b3 n f3) (hp4:tmps.getD q2 undef=.pointer (some ⟨b4,0,none⟩)) (ha4:Arr k w b4 n f4):
  (results fn tmps).run P w=.ok (.tuple #[.agg (arr k n f1),.agg (arr k n f2),.agg (arr k n f3),.agg (arr k n f4)]) w:=by
 obtain ⟨t,ht⟩:=ha
 obtain ⟨t2,ht2⟩:=ha2
 obtain ⟨t3,ht3⟩:=ha3
 obtain ⟨t4,ht4⟩:=ha4
 have e1:tmps[p]?.getD undef=.pointer (some ⟨b1,0,none⟩):=by simpa using hp
 have e2:tmps[q]?.getD undef=.pointer (some ⟨b2,0,none⟩):=by simpa using hp2
 have e3:tmps[p2]?.getD undef=.pointer (some ⟨b3,0,none⟩):=by simpa using hp3
 have e4:tmps[q2]?.getD undef=.pointer (some ⟨b4,0,none⟩):=by simpa using hp4
 have key:∀(b t:Nat) (f:Nat→Int),w.heap[b]? =some (.cells (arr k n f) t (0,0))→(loadVar T ⟨b,0,none⟩).run P w=.ok (.agg (arr k n f)) w:=fun b t f hb=> run_loadVar_row w b t T (arr k n f) (0,0) _ hb hu (by cases d<;> first | rfl | cases hd) (by rw [hi,arr_size])
 simp [results,h,e1,e2,e3,e4,asAddr,key _ _ _ ht,key _ _ _ ht2,key _ _ _ ht3,key _ _ _ ht4]
theorem and_248 (x:Int) (h0:0≤x) (h1:x<256):bits .and .u8 x 248=x / 8 * 8:=by
 obtain ⟨n,rfl⟩:=Int.eq_ofNat_of_zero_le h0
 have key:∀n:Fin 256,bits .and .u8 ((n.val:Nat):Int) 248=(n.val:Int) / 8 * 8:=by decide+kernel
 exact key ⟨n,by omega⟩
theorem and_127 (x:Int) (h0:0≤x) (h1:x<256):bits .and .u8 x 127=x % 128:=by
 obtain ⟨n,rfl⟩:=Int.eq_ofNat_of_zero_le h0
 have key:∀n:Fin 256,bits .and .u8 ((n.val:Nat):Int) 127=(n.val:Int) % 128:=by decide+kernel
 exact key ⟨n,by omega⟩
theorem or_64 (x:Int) (h0:0≤x) (h1:x<128):bits .or .u8 x 64=x % 64+64:=by
 obtain ⟨n,rfl⟩:=Int.eq_ofNat_of_zero_le h0
 have key:∀n:Fin 128,bits .or .u8 ((n.val:Nat):Int) 64=(n.val:Int) % 64+64:=by decide+kernel
 exact key ⟨n,by omega⟩
end Go.Bas
namespace Go.Proofs.YtdhejcaapdhhfaaGreat
open Go.RowKit Go.Bas Go.ChangeShapes
attribute [local go_sem ↓] Go.wp_at_zero Go.wp_at_succ
theorem ldClamp_any (S:Int) (w:World):
  Calls Tryz.prog 29 #[.agg (arr .u8 32 (dg 256 S))] w fun e w'=> e=.returned (.agg (arr .u8 32 (dg 256 (clampN S))))∧Below w.heap.size w w':=by
 have HQ:=Lib.hid (clamp_digits S)
 have HB:Hid (∀i,0≤dg 256 S i∧dg 256 S i<256):=fun i=> dg_bound (by decide) S i
 obtain ⟨F,hF⟩:∃F,F=dg 256 S:=⟨_,rfl⟩
 rw [←hF] at HQ HB ⊢
 clear hF
 go_enter Tryz.func29,Tryz.ntmps29
 go_upto_region 1 with (fail)
 refine wp_world (fun w1=> Arr .u8 w1 w.heap.size 32 F∧Arr .u8 w1 (w.heap.size+1) 32 (fun _=> 0)∧Below w.heap.size w w1) ⟨Arr.alloc (Arr.newAt rfl rfl) _,Arr.newAt (by simp) (by rfl),((Below.refl _ _).alloc (Nat.le_refl _) _).alloc (by simp) _⟩ ?_
 rintro w1 ⟨hA,hZ,hb⟩
 have e0:=hA.cell 0 (by decide)
 have f0:=hA.free 0
 obtain ⟨x0,x1⟩:=HB.out 0
 obtain ⟨x,hx⟩:∃x,x=F 0:=⟨_,rfl⟩
 rw [←hx] at e0 x0 x1
 have a1:=and_248 x x0 x1
 have HX:=Lib.hid hx
 have HA:=Lib.hid hA
 clear hx hA
 go_upto_region 2 with (fail)
 refine wp_world (fun w2=> Arr .u8 w2 w.heap.size 32 (upd F 0 (x / 8 * 8))∧Arr .u8 w2 (w.heap.size+1) 32 (fun _=> 0)∧Below w.heap.size w w2) ⟨HA.out.set 0 _,hZ.other (by first | omega | (simp<;> omega)) _,hb.setCell (by first | omega | (simp<;> omega)) _⟩ ?_
 rintro w2 ⟨hA2,hZ2,hb2⟩
 have e1:=hA2.cell 31 (by decide)
 have f1:=hA2.free 31
 obtain ⟨y0,y1⟩:=HB.out 31
 obtain ⟨y,hy⟩:∃y,y=F 31:=⟨_,rfl⟩
 rw [upd_ne _ _ (by decide),←hy] at e1
 rw [←hy] at y0 y1
 have a2:=and_127 y y0 y1
 have a3:=or_64 (y % 128) (by omega) (by omega)
 have a4:y % 128 % 64+64=y % 64+64:=by omega
 rw [a4] at a3
 have HY:=Lib.hid hy
 have HA2:=Lib.hid hA2
 clear hy hA2 e0 f0 hZ hb a4 a1
 go_upto_region 3 with (fail)
 refine wp_world (fun w3=> Arr .u8 w3 w.heap.size 32 (dg 256 (clampN S))∧Arr .u8 w3 (w.heap.size+1) 32 (fun _=> 0)∧Below w.heap.size w w3) ⟨((HA2.out.set 31 (y % 64+64)).congr (fun i hi=> by rw [HX.out,HY.out];exact HQ.out i hi)),hZ2.other (by first | omega | (simp<;> omega)) _,hb2.setCell (by first | omega | (simp<;> omega)) _⟩ ?_
 rintro w3 ⟨hA3,hZ3,hb3⟩
 clear e1 f1 hZ2 hb2
 go_wp2_with (first
  | (refine load_arr rfl 22 _ rfl .u8 w.heap.size 32 (dg 256 (clampN S)) 5 Tryz.underlying22 Tryz.size22 rfl hA3 ?_)
  | (refine store_arr rfl 22 _ _ rfl .u8 (w.heap.size+1) 32 (fun _=> 0) (dg 256 (clampN S)) Tryz.size22 rfl rfl hZ3 ?_))
 exact bodyPost_ret (results_arr rfl _ _ .u8 (w.heap.size+1) 32 _ 5 rfl (hZ3.setRow _ _) Tryz.underlying22 Tryz.size22) rfl ⟨rfl,below_setRow' hb3 (by omega) _⟩
theorem rdClamp_any (S:Int) (w:World):
  Calls Tryz.prog 74 #[.agg (arr .u8 32 (dg 256 S))] w fun e w'=> e=.returned (.agg (arr .u8 32 (dg 256 (clampN S))))∧Below w.heap.size w w':=by
 have HQ:=Lib.hid (clamp_digits S)
 have HB:Hid (∀i,0≤dg 256 S i∧dg 256 S i<256):=fun i=> dg_bound (by decide) S i
 obtain ⟨F,hF⟩:∃F,F=dg 256 S:=⟨_,rfl⟩
 rw [←hF] at HQ HB ⊢
 clear hF
 go_enter Tryz.func74,Tryz.ntmps74
 go_upto_region 1 with (fail)
 refine wp_world (fun w1=> Arr .u8 w1 w.heap.size 32 F∧Arr .u8 w1 (w.heap.size+1) 32 (fun _=> 0)∧Below w.heap.size w w1) ⟨Arr.alloc (Arr.newAt rfl rfl) _,Arr.newAt (by simp) (by rfl),((Below.refl _ _).alloc (Nat.le_refl _) _).alloc (by simp) _⟩ ?_
 rintro w1 ⟨hA,hZ,hb⟩
 have e0:=hA.cell 0 (by decide)
 have f0:=hA.free 0
 obtain ⟨x0,x1⟩:=HB.out 0
 obtain ⟨x,hx⟩:∃x,x=F 0:=⟨_,rfl⟩
 rw [←hx] at e0 x0 x1
 have a1:=and_248 x x0 x1
 have HX:=Lib.hid hx
 have HA:=Lib.hid hA
 clear hx hA
 go_upto_region 2 with (fail)
 refine wp_world (fun w2=> Arr .u8 w2 w.heap.size 32 (upd F 0 (x / 8 * 8))∧Arr .u8 w2 (w.heap.size+1) 32 (fun _=> 0)∧Below w.heap.size w w2) ⟨HA.out.set 0 _,hZ.other (by first | omega | (simp<;> omega)) _,hb.setCell (by first | omega | (simp<;> omega)) _⟩ ?_
 rintro w2 ⟨hA2,hZ2,hb2⟩
 have e1:=hA2.cell 31 (by decide)
 have f1:=hA2.free 31
 obtain ⟨y0,y1⟩:=HB.out 31
 obtain ⟨y,hy⟩:∃y,y=F 31:=⟨_,rfl⟩
 rw [upd_ne _ _ (by decide),←hy] at e1
 rw [←hy] at y0 y1
 have a2:=and_127 y y0 y1
 have a3:=or_64 (y % 128) (by omega) (by omega)
 have a4:y % 128 % 64+64=y % 64+64:=by omega
 rw [a4] at a3
 have HY:=Lib.hid hy
 have HA2:=Lib.hid hA2
 clear hy hA2 e0 f0 hZ hb a4 a1
 go_upto_region 3 with (fail)
 refine wp_world (fun w3=> Arr .u8 w3 w.heap.size 32 (dg 256 (clampN S))∧Arr .u8 w3 (w.heap.size+1) 32 (fun _=> 0)∧Below w.heap.size w w3) ⟨((HA2.out.set 31 (y % 64+64)).congr (fun i hi=> by rw [HX.out,HY.out];exact HQ.out i hi)),hZ2.other (by first | omega | (simp<;> omega)) _,hb2.setCell (by first | omega | (simp<;> omega)) _⟩ ?_
 rintro w3 ⟨hA3,hZ3,hb3⟩
 clear e1 f1 hZ2 hb2
 go_wp2_with (first
  | (refine load_arr rfl 22 _ rfl .u8 w.heap.size 32 (dg 256 (clampN S)) 5 Tryz.underlying22 Tryz.size22 rfl hA3 ?_)
  | (refine store_arr rfl 22 _ _ rfl .u8 (w.heap.size+1) 32 (fun _=> 0) (dg 256 (clampN S)) Tryz.size22 rfl rfl hZ3 ?_))
 exact bodyPost_ret (results_arr rfl _ _ .u8 (w.heap.size+1) 32 _ 5 rfl (hZ3.setRow _ _) Tryz.underlying22 Tryz.size22) rfl ⟨rfl,below_setRow' hb3 (by omega) _⟩
theorem build_nine {a:Act} (w:World):(Instr.build 22 ((#[(0,Operand.const (.int .u8 9))] :Array (Nat × Operand)).map fun (i,x)=> (i,a.eval x))).run Tryz.prog w=.ok (.agg (arr .u8 32 (dg 256 9))) w:=by
 simp only [List.map_toArray,List.map_cons,List.map_nil,Act.eval]
 rw [Go.run_build w _ _ (arr .u8 32 (dg 256 9)) (by kernel_rfl)]
theorem ldBase_any (w:World):Calls Tryz.prog 87 #[] w fun e w'=> e=.returned (.agg (arr .u8 32 (dg 256 9)))∧Below w.heap.size w w':=by
 go_enter Tryz.func87,Tryz.ntmps87
 go_upto_region 1 with (fail)
 refine wp_world (fun w1=> Arr .u8 w1 w.heap.size 32 (fun _=> 0)∧Below w.heap.size w w1) ⟨Arr.newAt rfl (by rfl),(Below.refl _ _).alloc (Nat.le_refl _) _⟩ ?_
 rintro w1 ⟨hZ,hb⟩
 go_wp2_with (first
  | (refine step_val rfl (run_built rfl (build_nine _)) ?_)
  | (refine store_arr rfl 22 _ _ rfl .u8 w.heap.size 32 (fun _=> 0) (dg 256 9) Tryz.size22 rfl rfl hZ ?_))
 exact bodyPost_ret (results_arr rfl _ _ .u8 w.heap.size 32 _ 5 rfl (hZ.setRow _ _) Tryz.underlying22 Tryz.size22) rfl ⟨rfl,below_setRow' hb (Nat.le_refl _) _⟩
theorem fac_digits:∀i,i<32→upto 3 (dg 256 121665) (fun _=> 0) i=dg 256 121665 i:=by
 have key:∀i:Fin 32,upto 3 (dg 256 121665) (fun _=> 0) i.val=dg 256 121665 i.val:=by decide+kernel
 exact fun i h=> key ⟨i,h⟩
def facF:Nat→Int:=dg 65536 (121665 % 2 ^ 255)
theorem fe_fac:Fe facF 121665:=by have h:=feOf_fe 121665;rwa [show (121665:Int) % 2 ^ 255=121665 by decide] at h
theorem ldFactor_any (w:World):Calls Tryz.prog 149 #[] w fun e w'=> e=.returned (El facF)∧Below w.heap.size w w':=by
 have HC:=Lib.hid (fun w=> feOf_any 121665 w)
 unfold El
 unfold El at HC
 change Hid (∀w,Calls _ _ _ w fun e w'=> e=.returned (.agg (arr .i64 16 facF))∧_) at HC
 go_enter Tryz.func149,Tryz.ntmps149
 go_upto_region 2 with (fail)
 refine wp_world (fun w1=> Arr .i64 w1 w.heap.size 16 (fun _=> 0)∧Arr .u8 w1 (w.heap.size+1) 32 (upto 0 (dg 256 121665) (fun _=> 0))∧Below w.heap.size w w1) ⟨Arr.alloc (Arr.newAt rfl (by rfl)) _,by rw [upto_zero];exact Arr.newAt (by simp) (by rfl),((Below.refl _ _).alloc (Nat.le_refl _) _).alloc (by simp) _⟩ ?_
 rintro w1 ⟨hZ,hA,hb⟩
 go_wp2
 go_loopw [4] (fun i wr=> ∃k:Nat,k≤3∧i=.int .i64 k∧Arr .i64 wr w.heap.size 16 (fun _=> 0)∧Arr .u8 wr (w.heap.size+1) 32 (upto k (dg 256 121665) (fun _=> 0))∧Below w.heap.size w wr) (fun i _=> 3 - (intOf i).toNat)
 case atStart=> exact ⟨0,Nat.zero_le _,rfl,hZ,hA,hb⟩
 case round=>
  clear hZ hA hb
  obtain ⟨k,hk,rfl,hZ,hA,hb⟩:=hrel
  rcases (by omega:k=0∨k=1∨k=2∨k=3) with rfl | rfl | rfl | rfl
  case inl=>
   have f1:=hA.free 0
   have e1:=hA.cell 0 (by decide)
   have HA:=Lib.hid hA
   clear hA
   go_wp2
   go_roundw
   case rel=> exact ⟨1,by omega,by rfl,hZ.other (by first | omega | (simp<;> omega)) _,by rw [←upto_step (show dg 256 121665 0= _ from rfl)];exact HA.out.set _ _,hb.setCell (by first | omega | (simp<;> omega)) _⟩
   case measure=> simp [intOf] <;> omega
  case inr.inl=>
   have f1:=hA.free 1
   have e1:=hA.cell 1 (by decide)
   have HA:=Lib.hid hA
   clear hA
   go_wp2
   go_roundw
   case rel=> exact ⟨2,by omega,by rfl,hZ.other (by first | omega | (simp<;> omega)) _,by rw [←upto_step (show dg 256 121665 1= _ from rfl)];exact HA.out.set _ _,hb.setCell (by first | omega | (simp<;> omega)) _⟩
   case measure=> simp [intOf] <;> omega
  case inr.inr.inl=>
   have f1:=hA.free 2
   have e1:=hA.cell 2 (by decide)
   have HA:=Lib.hid hA
   clear hA
   go_wp2
   go_roundw
   case rel=> exact ⟨3,by omega,by rfl,hZ.other (by first | omega | (simp<;> omega)) _,by rw [←upto_step (show dg 256 121665 2= _ from rfl)];exact HA.out.set _ _,hb.setCell (by first | omega | (simp<;> omega)) _⟩
   case measure=> simp [intOf] <;> omega
  case inr.inr.inr=>
   have hA2:=hA.congr fac_digits
   go_wp2_with (refine load_arr rfl 22 _ rfl .u8 (w.heap.size+1) 32 (dg 256 121665) 5 Tryz.underlying22 Tryz.size22 rfl hA2 ?_)
   refine (HC.out _).mono ?_
   rintro e w3 ⟨rfl,hb3⟩
   have hZ3:=hZ.kept hb3
   have hb4:=hb.trans (hb3.mono hb.size)
   clear hZ hA hA2 hb hb3
   go_wp2_with (refine store_arr rfl 53 _ _ rfl .i64 w.heap.size 16 (fun _=> 0) facF Tryz.size53 rfl rfl hZ3 ?_)
   exact bodyPost_ret (results_str rfl _ _ .i64 w.heap.size 16 _ rfl (hZ3.setRow _ _) Tryz.underlying53 rfl Tryz.size53) rfl ⟨rfl,below_setRow' hb4 (Nat.le_refl _) _⟩
theorem ldRung_any (f2 k2 f3 k3 fu:Nat→Int) (A B C D U:Int) (h2:Fe f2 A) (i2:Fe k2 B) (h3:Fe f3 C) (i3:Fe k3 D) (hu:Fe fu U) (w:World):
  Calls Tryz.prog 129 #[El f2,El k2,El f3,El k3,El fu] w fun e w'=> ∃a b c d,e=.returned (.tuple #[El a,El b,El c,El d])∧(Fe a (dX A B)∧Fe b (dZ A B)∧Fe c (sX A B C D)∧Fe d (sZ U A B C D))∧Below w.heap.size w w':=by
 have H2:=Lib.hid h2
 have I2:=Lib.hid i2
 have H3:=Lib.hid h3
 have I3:=Lib.hid i3
 have HU:=Lib.hid hu
 clear h2 i2 h3 i3 hu
 unfold El
 go_enter Tryz.func129,Tryz.ntmps129
 go_upto_region 1 with (fail)
 refine wp_world (fun w1=> (Arr .i64 w1 w.heap.size 16 f2∧Arr .i64 w1 (w.heap.size+1) 16 k2∧Arr .i64 w1 (w.heap.size+2) 16 f3∧Arr .i64 w1 (w.heap.size+3) 16 k3∧Arr .i64 w1 (w.heap.size+4) 16 fu)∧(Arr .i64 w1 (w.heap.size+5) 16 (fun _=> 0)∧Arr .i64 w1 (w.heap.size+6) 16 (fun _=> 0)∧Arr .i64 w1 (w.heap.size+7) 16 (fun _=> 0)∧Arr .i64 w1 (w.heap.size+8) 16 (fun _=> 0))∧Below w.heap.size w w1)
  ⟨⟨.alloc (.alloc (.alloc (.alloc (.alloc (.alloc (.alloc (.alloc (Arr.newAt (by first | omega | (simp<;> omega)) (by rfl)) _) _) _) _) _) _) _) _,.alloc (.alloc (.alloc (.alloc (.alloc (.alloc (.alloc (Arr.newAt (by first | omega | (simp<;> omega)) (by rfl)) _) _) _) _) _) _) _,.alloc (.alloc (.alloc (.alloc (.alloc (.alloc (Arr.newAt (by first | omega | (simp<;> omega)) (by rfl)) _) _) _) _) _) _,.alloc (.alloc (.alloc (.alloc (.alloc (Arr.newAt (by first | omega | (simp<;> omega)) (by rfl)) _) _) _) _) _,.alloc (.alloc (.alloc (.alloc (Arr.newAt (by first | omega | (simp<;> omega)) (by rfl)) _) _) _) _⟩,
   ⟨.alloc (.alloc (.alloc (Arr.newAt (by first | omega | (simp<;> omega)) (by rfl)) _) _) _,.alloc (.alloc (Arr.newAt (by first | omega | (simp<;> omega)) (by rfl)) _) _,.alloc (Arr.newAt (by first | omega | (simp<;> omega)) (by rfl)) _,Arr.newAt (by first | omega | (simp<;> omega)) (by rfl)⟩,
   ((((((((((Below.refl _ _).alloc (Nat.le_refl _) _).alloc (by first | omega | (simp<;> omega)) _).alloc (by first | omega | (simp<;> omega)) _).alloc (by first | omega | (simp<;> omega)) _).alloc (by first | omega | (simp<;> omega)) _).alloc (by first | omega | (simp<;> omega)) _).alloc (by first | omega | (simp<;> omega)) _).alloc (by first | omega | (simp<;> omega)) _).alloc (by first | omega | (simp<;> omega)) _)⟩ ?_
 rintro w1 ⟨⟨hA,hB',hC,hD,hE⟩,⟨hR1,hR2,hR3,hR4⟩,hbel⟩
 have hsz:w.heap.size+9≤w1.heap.size:=by have:=hR4.lt;omega
 refine region_vars (n:=72) (by kernel_rfl) (by kernel_rfl) (by kernel_rfl) rfl
  (isAl [(8,6),(9,7)]) (putOf [(8,6),(9,7)]) (fun _=> arr .i64 16 (fun _=> 0)) (fun i=> match i with | 6=> (arr .i64 16 (addF (f2) (k2))) | 7=> (arr .i64 16 (subF (f2) (k2))) | _=> #[]) (fun _=> 53) (fun i=> match i with | 6=> 14 | 7=> 15 | _=> 0)
  (fun ii vv _=> (match ii with | 0 | 3=> vv=.agg (arr .i64 16 (f2)) | 1 | 4=> vv=.agg (arr .i64 16 (k2)) | 2=> vv=.agg (arr .i64 16 (addF (f2) (k2))) | 5=> vv=.agg (arr .i64 16 (subF (f2) (k2))) | _=> True)) (fun _ _=> True) (fun _ _ _=> trivial) (fun _ _ _ _ _ _ _=> trivial) (fun _ _ _ _ h _=> h)
  (vs_al rfl) (vs_inj rfl) ?_ ?_ ?_ ?_
 ·refine Each.all ?_
  refine ⟨?_,?_,?_,?_,?_,?_,(fun h=> by cases h),(fun h=> by cases h),(fun _ h=> by cases h),(fun _ h=> by cases h),trivial⟩
  ·intro _ _ a w2 hB hF hd
   rw [if_pos (wanted_none rfl)]
   exact flow_val (fun h=> by cases h) (run_load_str rfl Tryz.underlying53 rfl Tryz.size53 (hF.same 5 rfl) (hA.below hB hA.lt)) rfl
  ·intro _ _ a w2 hB hF hd
   rw [if_pos (wanted_none rfl)]
   exact flow_val (fun h=> by cases h) (run_load_str rfl Tryz.underlying53 rfl Tryz.size53 (hF.same 6 rfl) (hB'.below hB hB'.lt)) rfl
  ·intro _ _ a w2 hB hF hd
   rw [if_pos (wanted_none rfl)]
   refine flow_call _ _ _ rfl Tryz.call59 _ (args2 (hd 0 _ rfl rfl rfl (waits_spec rfl)) (hd 1 _ rfl rfl rfl (waits_spec rfl))) (by simp) ((feAdd_any _ _ _ _ H2.out I2.out w2).mono ?_)
   rintro e w3 ⟨rfl,hb⟩;exact ⟨_,rfl,rfl,hb⟩
  ·intro _ _ a w2 hB hF hd
   rw [if_pos (wanted_none rfl)]
   exact flow_val (fun h=> by cases h) (run_load_str rfl Tryz.underlying53 rfl Tryz.size53 (hF.same 5 rfl) (hA.below hB hA.lt)) rfl
  ·intro _ _ a w2 hB hF hd
   rw [if_pos (wanted_none rfl)]
   exact flow_val (fun h=> by cases h) (run_load_str rfl Tryz.underlying53 rfl Tryz.size53 (hF.same 6 rfl) (hB'.below hB hB'.lt)) rfl
  ·intro _ _ a w2 hB hF hd
   rw [if_pos (wanted_none rfl)]
   refine flow_call _ _ _ rfl Tryz.call113 _ (args2 (hd 3 _ rfl rfl rfl (waits_spec rfl)) (hd 4 _ rfl rfl rfl (waits_spec rfl))) (by simp) ((feSub_any _ _ _ _ H2.out I2.out w2).mono ?_)
   rintro e w3 ⟨rfl,hb⟩;exact ⟨_,rfl,rfl,hb⟩
 ·refine Each.all ?_
  refine ⟨(fun h=> by cases h),(fun h=> by cases h),(fun h=> by cases h),(fun h=> by cases h),(fun h=> by cases h),(fun h=> by cases h),?_,?_,(fun h=> by cases h),(fun h=> by cases h),trivial⟩
  ·exact fun _=> ⟨rfl,rfl,fun a w2 K h=> flow_alloc rfl rfl Tryz.zeroValue53 (by simp) h⟩
  ·exact fun _=> ⟨rfl,rfl,fun a w2 K h=> flow_alloc rfl rfl Tryz.zeroValue53 (by simp) h⟩
 ·refine Each.all ?_
  refine ⟨(fun _ h=> by cases h),(fun _ h=> by cases h),(fun _ h=> by cases h),(fun _ h=> by cases h),(fun _ h=> by cases h),(fun _ h=> by cases h),(fun _ h=> by cases h),(fun _ h=> by cases h),?_,?_,trivial⟩
  ·intro p hp
   obtain rfl:6=p:=Option.some.inj hp
   exact ⟨rfl,rfl,⟨_,rfl⟩,waits_spec rfl,fun a w2 b K hB hF hd hx hb h=> flow_put rfl rfl Tryz.size53 hx (hd 2 _ rfl rfl rfl (waits_spec rfl)) hb h⟩
  ·intro p hp
   obtain rfl:7=p:=Option.some.inj hp
   exact ⟨rfl,rfl,⟨_,rfl⟩,waits_spec rfl,fun a w2 b K hB hF hd hx hb h=> flow_put rfl rfl Tryz.size53 hx (hd 5 _ rfl rfl rfl (waits_spec rfl)) hb h⟩
 ·intro a w2 blk hB hF hS hv hfin hdis
  obtain ⟨v6,v6l,v6u⟩:=hv 6 _ rfl rfl
  obtain ⟨v7,v7l,v7u⟩:=hv 7 _ rfl rfl
  have ha:=puts_each rfl rfl hF [_,_,_,_,_,_,_,_,undef,undef] rfl ⟨hS 0 _ rfl rfl rfl,hS 1 _ rfl rfl rfl,hS 2 _ rfl rfl rfl,hS 3 _ rfl rfl rfl,hS 4 _ rfl rfl rfl,hS 5 _ rfl rfl rfl,v6,v7,trivial,trivial,trivial⟩
  have f6:=hfin 8 _ 6 rfl rfl
  have f7:=hfin 9 _ 7 rfl rfl
  have d6_7:=hdis 6 7 _ _ rfl rfl rfl rfl (by decide)
  simp only [puts,Act.put,List.setIfInBounds_toArray,List.set_cons_succ,List.set_cons_zero] at ha
  subst ha
  have V6:Arr .i64 w2 (blk 6) 16 (addF (f2) (k2)):=⟨_,f6⟩
  have V7:Arr .i64 w2 (blk 7) 16 (subF (f2) (k2)):=⟨_,f7⟩
  clear hS hv hfin hdis hF v6 v7 f6 f7
  replace hA:=hA.kept hB
  replace hB':=hB'.kept hB
  replace hC:=hC.kept hB
  replace hD:=hD.kept hB
  replace hE:=hE.kept hB
  replace hR1:=hR1.kept hB
  replace hR2:=hR2.kept hB
  replace hR3:=hR3.kept hB
  replace hR4:=hR4.kept hB
  obtain ⟨bpl,hbpl⟩:∃x,x=blk 6:=⟨_,rfl⟩
  obtain ⟨pl,hpl,Hpl⟩:∃x,x=addF f2 k2∧Hid (Fe x (A+B)):=⟨_,rfl,H2.out.addF I2.out⟩
  rw [←hpl,←hbpl] at V6
  rw [←hbpl] at v6l ⊢
  have lpl:w.heap.size+9≤bpl:=Nat.le_trans hsz v6l
  obtain ⟨bmi,hbmi⟩:∃x,x=blk 7:=⟨_,rfl⟩
  obtain ⟨mi,hmi,Hmi⟩:∃x,x=subF f2 k2∧Hid (Fe x (A - B)):=⟨_,rfl,H2.out.subF I2.out⟩
  rw [←hmi,←hbmi] at V7
  rw [←hbmi] at v7l ⊢
  have lmi:w.heap.size+9≤bmi:=Nat.le_trans hsz v7l
  replace hbel:=hbel.trans (hB.mono hbel.size)
  replace hsz:=Nat.le_trans hsz hB.size
  clear hB hpl hbpl hmi hbmi
  have hvpl:=V6
  clear V6 v6l v6u
  have hvmi:=V7
  clear V7 v7l v7u
  go_upto_region 2 with (fail)
  refine region_vars (n:=72) (by kernel_rfl) (by kernel_rfl) (by kernel_rfl) rfl
   (isAl [(8,6),(9,7)]) (putOf [(8,6),(9,7)]) (fun _=> arr .i64 16 (fun _=> 0)) (fun i=> match i with | 6=> (arr .i64 16 (mulF (pl) (pl))) | 7=> (arr .i64 16 (mulF (mi) (mi))) | _=> #[]) (fun _=> 53) (fun i=> match i with | 6=> 16 | 7=> 17 | _=> 0)
   (fun ii vv _=> (match ii with | 0 | 1=> vv=.agg (arr .i64 16 (pl)) | 2=> vv=.agg (arr .i64 16 (mulF (pl) (pl))) | 3 | 4=> vv=.agg (arr .i64 16 (mi)) | 5=> vv=.agg (arr .i64 16 (mulF (mi) (mi))) | _=> True)) (fun _ _=> True) (fun _ _ _=> trivial) (fun _ _ _ _ _ _ _=> trivial) (fun _ _ _ _ h _=> h)
   (vs_al rfl) (vs_inj rfl) ?_ ?_ ?_ ?_
  ·refine Each.all ?_
   refine ⟨?_,?_,?_,?_,?_,?_,(fun h=> by cases h),(fun h=> by cases h),(fun _ h=> by cases h),(fun _ h=> by cases h),trivial⟩
   ·intro _ _ a w2 hB hF hd
    rw [if_pos (wanted_none rfl)]
    exact flow_val (fun h=> by cases h) (run_load_str rfl Tryz.underlying53 rfl Tryz.size53 (hF.same 14 rfl) (hvpl.below hB hvpl.lt)) rfl
   ·intro _ _ a w2 hB hF hd
    rw [if_pos (wanted_none rfl)]
    exact flow_val (fun h=> by cases h) (run_load_str rfl Tryz.underlying53 rfl Tryz.size53 (hF.same 14 rfl) (hvpl.below hB hvpl.lt)) rfl
   ·intro _ _ a w2 hB hF hd
    rw [if_pos (wanted_none rfl)]
    refine flow_call _ _ _ rfl Tryz.call53 _ (args2 (hd 0 _ rfl rfl rfl (waits_spec rfl)) (hd 1 _ rfl rfl rfl (waits_spec rfl))) (by simp) ((feMul_any _ _ _ _ Hpl.out Hpl.out w2).mono ?_)
    rintro e w3 ⟨rfl,hb⟩;exact ⟨_,rfl,rfl,hb⟩
   ·intro _ _ a w2 hB hF hd
    rw [if_pos (wanted_none rfl)]
    exact flow_val (fun h=> by cases h) (run_load_str rfl Tryz.underlying53 rfl Tryz.size53 (hF.same 15 rfl) (hvmi.below hB hvmi.lt)) rfl
   ·intro _ _ a w2 hB hF hd
    rw [if_pos (wanted_none rfl)]
    exact flow_val (fun h=> by cases h) (run_load_str rfl Tryz.underlying53 rfl Tryz.size53 (hF.same 15 rfl) (hvmi.below hB hvmi.lt)) rfl
   ·intro _ _ a w2 hB hF hd
    rw [if_pos (wanted_none rfl)]
    refine flow_call _ _ _ rfl Tryz.call53 _ (args2 (hd 3 _ rfl rfl rfl (waits_spec rfl)) (hd 4 _ rfl rfl rfl (waits_spec rfl))) (by simp) ((feMul_any _ _ _ _ Hmi.out Hmi.out w2).mono ?_)
    rintro e w3 ⟨rfl,hb⟩;exact ⟨_,rfl,rfl,hb⟩
  ·refine Each.all ?_
   refine ⟨(fun h=> by cases h),(fun h=> by cases h),(fun h=> by cases h),(fun h=> by cases h),(fun h=> by cases h),(fun h=> by cases h),?_,?_,(fun h=> by cases h),(fun h=> by cases h),trivial⟩
   ·exact fun _=> ⟨rfl,rfl,fun a w2 K h=> flow_alloc rfl rfl Tryz.zeroValue53 (by simp) h⟩
   ·exact fun _=> ⟨rfl,rfl,fun a w2 K h=> flow_alloc rfl rfl Tryz.zeroValue53 (by simp) h⟩
  ·refine Each.all ?_
   refine ⟨(fun _ h=> by cases h),(fun _ h=> by cases h),(fun _ h=> by cases h),(fun _ h=> by cases h),(fun _ h=> by cases h),(fun _ h=> by cases h),(fun _ h=> by cases h),(fun _ h=> by cases h),?_,?_,trivial⟩
   ·intro p hp
    obtain rfl:6=p:=Option.some.inj hp
    exact ⟨rfl,rfl,⟨_,rfl⟩,waits_spec rfl,fun a w2 b K hB hF hd hx hb h=> flow_put rfl rfl Tryz.size53 hx (hd 2 _ rfl rfl rfl (waits_spec rfl)) hb h⟩
   ·intro p hp
    obtain rfl:7=p:=Option.some.inj hp
    exact ⟨rfl,rfl,⟨_,rfl⟩,waits_spec rfl,fun a w2 b K hB hF hd hx hb h=> flow_put rfl rfl Tryz.size53 hx (hd 5 _ rfl rfl rfl (waits_spec rfl)) hb h⟩
  ·intro a w3 blk hB hF hS hv hfin hdis
   obtain ⟨v6,v6l,v6u⟩:=hv 6 _ rfl rfl
   obtain ⟨v7,v7l,v7u⟩:=hv 7 _ rfl rfl
   have ha:=puts_each rfl rfl hF [_,_,_,_,_,_,_,_,undef,undef] rfl ⟨hS 0 _ rfl rfl rfl,hS 1 _ rfl rfl rfl,hS 2 _ rfl rfl rfl,hS 3 _ rfl rfl rfl,hS 4 _ rfl rfl rfl,hS 5 _ rfl rfl rfl,v6,v7,trivial,trivial,trivial⟩
   have f6:=hfin 8 _ 6 rfl rfl
   have f7:=hfin 9 _ 7 rfl rfl
   have d6_7:=hdis 6 7 _ _ rfl rfl rfl rfl (by decide)
   simp only [puts,Act.put,List.setIfInBounds_toArray,List.set_cons_succ,List.set_cons_zero] at ha
   subst ha
   have V6:Arr .i64 w3 (blk 6) 16 (mulF (pl) (pl)):=⟨_,f6⟩
   have V7:Arr .i64 w3 (blk 7) 16 (mulF (mi) (mi)):=⟨_,f7⟩
   clear hS hv hfin hdis hF v6 v7 f6 f7
   replace hA:=hA.kept hB
   replace hB':=hB'.kept hB
   replace hC:=hC.kept hB
   replace hD:=hD.kept hB
   replace hE:=hE.kept hB
   replace hR1:=hR1.kept hB
   replace hR2:=hR2.kept hB
   replace hR3:=hR3.kept hB
   replace hR4:=hR4.kept hB
   replace hvpl:=hvpl.kept hB
   replace hvmi:=hvmi.kept hB
   obtain ⟨baa,hbaa⟩:∃x,x=blk 6:=⟨_,rfl⟩
   obtain ⟨aa,haa,Haa⟩:∃x,x=mulF pl pl∧Hid (Fe x ((A+B) * (A+B))):=⟨_,rfl,Hpl.out.mulF Hpl.out⟩
   rw [←haa,←hbaa] at V6
   rw [←hbaa] at v6l ⊢
   have laa:w.heap.size+9≤baa:=Nat.le_trans hsz v6l
   obtain ⟨bbb,hbbb⟩:∃x,x=blk 7:=⟨_,rfl⟩
   obtain ⟨bb,hbb,Hbb⟩:∃x,x=mulF mi mi∧Hid (Fe x ((A - B) * (A - B))):=⟨_,rfl,Hmi.out.mulF Hmi.out⟩
   rw [←hbb,←hbbb] at V7
   rw [←hbbb] at v7l ⊢
   have lbb:w.heap.size+9≤bbb:=Nat.le_trans hsz v7l
   replace hbel:=hbel.trans (hB.mono hbel.size)
   replace hsz:=Nat.le_trans hsz hB.size
   clear hB haa hbaa hbb hbbb
   have hvaa:=V6
   clear V6 v6l v6u
   have hvbb:=V7
   clear V7 v7l v7u
   go_upto_region 3 with (fail)
   refine region_vars (n:=72) (by kernel_rfl) (by kernel_rfl) (by kernel_rfl) rfl
    (isAl [(4,3)]) (putOf [(4,3)]) (fun _=> arr .i64 16 (fun _=> 0)) (fun _=> (arr .i64 16 (subF (aa) (bb)))) (fun _=> 53) (fun _=> 18)
    (fun ii vv _=> (match ii with | 0=> vv=.agg (arr .i64 16 (aa)) | 1=> vv=.agg (arr .i64 16 (bb)) | 2=> vv=.agg (arr .i64 16 (subF (aa) (bb))) | _=> True)) (fun _ _=> True) (fun _ _ _=> trivial) (fun _ _ _ _ _ _ _=> trivial) (fun _ _ _ _ h _=> h)
    (vs_al rfl) (vs_inj rfl) ?_ ?_ ?_ ?_
   ·refine Each.all ?_
    refine ⟨?_,?_,?_,(fun h=> by cases h),(fun _ h=> by cases h),trivial⟩
    ·intro _ _ a w2 hB hF hd
     rw [if_pos (wanted_none rfl)]
     exact flow_val (fun h=> by cases h) (run_load_str rfl Tryz.underlying53 rfl Tryz.size53 (hF.same 16 rfl) (hvaa.below hB hvaa.lt)) rfl
    ·intro _ _ a w2 hB hF hd
     rw [if_pos (wanted_none rfl)]
     exact flow_val (fun h=> by cases h) (run_load_str rfl Tryz.underlying53 rfl Tryz.size53 (hF.same 17 rfl) (hvbb.below hB hvbb.lt)) rfl
    ·intro _ _ a w2 hB hF hd
     rw [if_pos (wanted_none rfl)]
     refine flow_call _ _ _ rfl Tryz.call113 _ (args2 (hd 0 _ rfl rfl rfl (waits_spec rfl)) (hd 1 _ rfl rfl rfl (waits_spec rfl))) (by simp) ((feSub_any _ _ _ _ Haa.out Hbb.out w2).mono ?_)
     rintro e w3 ⟨rfl,hb⟩;exact ⟨_,rfl,rfl,hb⟩
   ·refine Each.all ?_
    refine ⟨(fun h=> by cases h),(fun h=> by cases h),(fun h=> by cases h),?_,(fun h=> by cases h),trivial⟩
    ·exact fun _=> ⟨rfl,rfl,fun a w2 K h=> flow_alloc rfl rfl Tryz.zeroValue53 (by simp) h⟩
   ·refine Each.all ?_
    refine ⟨(fun _ h=> by cases h),(fun _ h=> by cases h),(fun _ h=> by cases h),(fun _ h=> by cases h),?_,trivial⟩
    ·intro p hp
     obtain rfl:3=p:=Option.some.inj hp
     exact ⟨rfl,rfl,⟨_,rfl⟩,waits_spec rfl,fun a w2 b K hB hF hd hx hb h=> flow_put rfl rfl Tryz.size53 hx (hd 2 _ rfl rfl rfl (waits_spec rfl)) hb h⟩
   ·intro a w4 blk hB hF hS hv hfin hdis
    obtain ⟨v3,v3l,v3u⟩:=hv 3 _ rfl rfl
    have ha:=puts_each rfl rfl hF [_,_,_,_,undef] rfl ⟨hS 0 _ rfl rfl rfl,hS 1 _ rfl rfl rfl,hS 2 _ rfl rfl rfl,v3,trivial,trivial⟩
    have f3:=hfin 4 _ 3 rfl rfl
    simp only [puts,Act.put,List.setIfInBounds_toArray,List.set_cons_succ,List.set_cons_zero] at ha
    subst ha
    have V3:Arr .i64 w4 (blk 3) 16 (subF (aa) (bb)):=⟨_,f3⟩
    clear hS hv hfin hdis hF v3 f3
    replace hA:=hA.kept hB
    replace hB':=hB'.kept hB
    replace hC:=hC.kept hB
    replace hD:=hD.kept hB
    replace hE:=hE.kept hB
    replace hR1:=hR1.kept hB
    replace hR2:=hR2.kept hB
    replace hR3:=hR3.kept hB
    replace hR4:=hR4.kept hB
    replace hvpl:=hvpl.kept hB
    replace hvmi:=hvmi.kept hB
    replace hvaa:=hvaa.kept hB
    replace hvbb:=hvbb.kept hB
    obtain ⟨bee,hbee⟩:∃x,x=blk 3:=⟨_,rfl⟩
    obtain ⟨ee,hee,Hee⟩:∃x,x=subF aa bb∧Hid (Fe x ((A+B) * (A+B) - (A - B) * (A - B))):=⟨_,rfl,Haa.out.subF Hbb.out⟩
    rw [←hee,←hbee] at V3
    rw [←hbee] at v3l ⊢
    have lee:w.heap.size+9≤bee:=Nat.le_trans hsz v3l
    replace hbel:=hbel.trans (hB.mono hbel.size)
    replace hsz:=Nat.le_trans hsz hB.size
    clear hB hee hbee
    have hvee:=V3
    clear V3 v3l v3u
    go_upto_region 4 with (fail)
    refine region_vars (n:=72) (by kernel_rfl) (by kernel_rfl) (by kernel_rfl) rfl
     (isAl [(12,10),(13,11)]) (putOf [(12,10),(13,11)]) (fun _=> arr .i64 16 (fun _=> 0)) (fun i=> match i with | 10=> (arr .i64 16 (mulF (subF (f3) (k3)) (pl))) | 11=> (arr .i64 16 (mulF (addF (f3) (k3)) (mi))) | _=> #[]) (fun _=> 53) (fun i=> match i with | 10=> 19 | 11=> 20 | _=> 0)
     (fun ii vv _=> (match ii with | 0 | 5=> vv=.agg (arr .i64 16 (f3)) | 1 | 6=> vv=.agg (arr .i64 16 (k3)) | 2=> vv=.agg (arr .i64 16 (subF (f3) (k3))) | 3=> vv=.agg (arr .i64 16 (pl)) | 4=> vv=.agg (arr .i64 16 (mulF (subF (f3) (k3)) (pl))) | 7=> vv=.agg (arr .i64 16 (addF (f3) (k3))) | 8=> vv=.agg (arr .i64 16 (mi)) | 9=> vv=.agg (arr .i64 16 (mulF (addF (f3) (k3)) (mi))) | _=> True)) (fun _ _=> True) (fun _ _ _=> trivial) (fun _ _ _ _ _ _ _=> trivial) (fun _ _ _ _ h _=> h)
     (vs_al rfl) (vs_inj rfl) ?_ ?_ ?_ ?_
    ·refine Each.all ?_
     refine ⟨?_,?_,?_,?_,?_,?_,?_,?_,?_,?_,(fun h=> by cases h),(fun h=> by cases h),(fun _ h=> by cases h),(fun _ h=> by cases h),trivial⟩
     ·intro _ _ a w2 hB hF hd
      rw [if_pos (wanted_none rfl)]
      exact flow_val (fun h=> by cases h) (run_load_str rfl Tryz.underlying53 rfl Tryz.size53 (hF.same 7 rfl) (hC.below hB hC.lt)) rfl
     ·intro _ _ a w2 hB hF hd
      rw [if_pos (wanted_none rfl)]
      exact flow_val (fun h=> by cases h) (run_load_str rfl Tryz.underlying53 rfl Tryz.size53 (hF.same 8 rfl) (hD.below hB hD.lt)) rfl
     ·intro _ _ a w2 hB hF hd
      rw [if_pos (wanted_none rfl)]
      refine flow_call _ _ _ rfl Tryz.call113 _ (args2 (hd 0 _ rfl rfl rfl (waits_spec rfl)) (hd 1 _ rfl rfl rfl (waits_spec rfl))) (by simp) ((feSub_any _ _ _ _ H3.out I3.out w2).mono ?_)
      rintro e w3 ⟨rfl,hb⟩;exact ⟨_,rfl,rfl,hb⟩
     ·intro _ _ a w2 hB hF hd
      rw [if_pos (wanted_none rfl)]
      exact flow_val (fun h=> by cases h) (run_load_str rfl Tryz.underlying53 rfl Tryz.size53 (hF.same 14 rfl) (hvpl.below hB hvpl.lt)) rfl
     ·intro _ _ a w2 hB hF hd
      rw [if_pos (wanted_none rfl)]
      refine flow_call _ _ _ rfl Tryz.call53 _ (args2 (hd 2 _ rfl rfl rfl (waits_spec rfl)) (hd 3 _ rfl rfl rfl (waits_spec rfl))) (by simp) ((feMul_any _ _ _ _ ((H3.out).subF I3.out) Hpl.out w2).mono ?_)
      rintro e w3 ⟨rfl,hb⟩;exact ⟨_,rfl,rfl,hb⟩
     ·intro _ _ a w2 hB hF hd
      rw [if_pos (wanted_none rfl)]
      exact flow_val (fun h=> by cases h) (run_load_str rfl Tryz.underlying53 rfl Tryz.size53 (hF.same 7 rfl) (hC.below hB hC.lt)) rfl
     ·intro _ _ a w2 hB hF hd
      rw [if_pos (wanted_none rfl)]
      exact flow_val (fun h=> by cases h) (run_load_str rfl Tryz.underlying53 rfl Tryz.size53 (hF.same 8 rfl) (hD.below hB hD.lt)) rfl
     ·intro _ _ a w2 hB hF hd
      rw [if_pos (wanted_none rfl)]
      refine flow_call _ _ _ rfl Tryz.call59 _ (args2 (hd 5 _ rfl rfl rfl (waits_spec rfl)) (hd 6 _ rfl rfl rfl (waits_spec rfl))) (by simp) ((feAdd_any _ _ _ _ H3.out I3.out w2).mono ?_)
      rintro e w3 ⟨rfl,hb⟩;exact ⟨_,rfl,rfl,hb⟩
     ·intro _ _ a w2 hB hF hd
      rw [if_pos (wanted_none rfl)]
      exact flow_val (fun h=> by cases h) (run_load_str rfl Tryz.underlying53 rfl Tryz.size53 (hF.same 15 rfl) (hvmi.below hB hvmi.lt)) rfl
     ·intro _ _ a w2 hB hF hd
      rw [if_pos (wanted_none rfl)]
      refine flow_call _ _ _ rfl Tryz.call53 _ (args2 (hd 7 _ rfl rfl rfl (waits_spec rfl)) (hd 8 _ rfl rfl rfl (waits_spec rfl))) (by simp) ((feMul_any _ _ _ _ ((H3.out).addF I3.out) Hmi.out w2).mono ?_)
      rintro e w3 ⟨rfl,hb⟩;exact ⟨_,rfl,rfl,hb⟩
    ·refine Each.all ?_
     refine ⟨(fun h=> by cases h),(fun h=> by cases h),(fun h=> by cases h),(fun h=> by cases h),(fun h=> by cases h),(fun h=> by cases h),(fun h=> by cases h),(fun h=> by cases h),(fun h=> by cases h),(fun h=> by cases h),?_,?_,(fun h=> by cases h),(fun h=> by cases h),trivial⟩
     ·exact fun _=> ⟨rfl,rfl,fun a w2 K h=> flow_alloc rfl rfl Tryz.zeroValue53 (by simp) h⟩
     ·exact fun _=> ⟨rfl,rfl,fun a w2 K h=> flow_alloc rfl rfl Tryz.zeroValue53 (by simp) h⟩
    ·refine Each.all ?_
     refine ⟨(fun _ h=> by cases h),(fun _ h=> by cases h),(fun _ h=> by cases h),(fun _ h=> by cases h),(fun _ h=> by cases h),(fun _ h=> by cases h),(fun _ h=> by cases h),(fun _ h=> by cases h),(fun _ h=> by cases h),(fun _ h=> by cases h),(fun _ h=> by cases h),(fun _ h=> by cases h),?_,?_,trivial⟩
     ·intro p hp
      obtain rfl:10=p:=Option.some.inj hp
      exact ⟨rfl,rfl,⟨_,rfl⟩,waits_spec rfl,fun a w2 b K hB hF hd hx hb h=> flow_put rfl rfl Tryz.size53 hx (hd 4 _ rfl rfl rfl (waits_spec rfl)) hb h⟩
     ·intro p hp
      obtain rfl:11=p:=Option.some.inj hp
      exact ⟨rfl,rfl,⟨_,rfl⟩,waits_spec rfl,fun a w2 b K hB hF hd hx hb h=> flow_put rfl rfl Tryz.size53 hx (hd 9 _ rfl rfl rfl (waits_spec rfl)) hb h⟩
    ·intro a w5 blk hB hF hS hv hfin hdis
     obtain ⟨v10,v10l,v10u⟩:=hv 10 _ rfl rfl
     obtain ⟨v11,v11l,v11u⟩:=hv 11 _ rfl rfl
     have ha:=puts_each rfl rfl hF [_,_,_,_,_,_,_,_,_,_,_,_,undef,undef] rfl ⟨hS 0 _ rfl rfl rfl,hS 1 _ rfl rfl rfl,hS 2 _ rfl rfl rfl,hS 3 _ rfl rfl rfl,hS 4 _ rfl rfl rfl,hS 5 _ rfl rfl rfl,hS 6 _ rfl rfl rfl,hS 7 _ rfl rfl rfl,hS 8 _ rfl rfl rfl,hS 9 _ rfl rfl rfl,v10,v11,trivial,trivial,trivial⟩
     have f10:=hfin 12 _ 10 rfl rfl
     have f11:=hfin 13 _ 11 rfl rfl
     have d10_11:=hdis 10 11 _ _ rfl rfl rfl rfl (by decide)
     simp only [puts,Act.put,List.setIfInBounds_toArray,List.set_cons_succ,List.set_cons_zero] at ha
     subst ha
     have V10:Arr .i64 w5 (blk 10) 16 (mulF (subF (f3) (k3)) (pl)):=⟨_,f10⟩
     have V11:Arr .i64 w5 (blk 11) 16 (mulF (addF (f3) (k3)) (mi)):=⟨_,f11⟩
     clear hS hv hfin hdis hF v10 v11 f10 f11
     replace hA:=hA.kept hB
     replace hB':=hB'.kept hB
     replace hC:=hC.kept hB
     replace hD:=hD.kept hB
     replace hE:=hE.kept hB
     replace hR1:=hR1.kept hB
     replace hR2:=hR2.kept hB
     replace hR3:=hR3.kept hB
     replace hR4:=hR4.kept hB
     replace hvpl:=hvpl.kept hB
     replace hvmi:=hvmi.kept hB
     replace hvaa:=hvaa.kept hB
     replace hvbb:=hvbb.kept hB
     replace hvee:=hvee.kept hB
     obtain ⟨bda,hbda⟩:∃x,x=blk 10:=⟨_,rfl⟩
     obtain ⟨da,hda,Hda⟩:∃x,x=mulF (subF f3 k3) pl∧Hid (Fe x ((C - D) * (A+B))):=⟨_,rfl,(H3.out.subF I3.out).mulF Hpl.out⟩
     rw [←hda,←hbda] at V10
     rw [←hbda] at v10l ⊢
     have lda:w.heap.size+9≤bda:=Nat.le_trans hsz v10l
     obtain ⟨bcb,hbcb⟩:∃x,x=blk 11:=⟨_,rfl⟩
     obtain ⟨cb,hcb,Hcb⟩:∃x,x=mulF (addF f3 k3) mi∧Hid (Fe x ((C+D) * (A - B))):=⟨_,rfl,(H3.out.addF I3.out).mulF Hmi.out⟩
     rw [←hcb,←hbcb] at V11
     rw [←hbcb] at v11l ⊢
     have lcb:w.heap.size+9≤bcb:=Nat.le_trans hsz v11l
     replace hbel:=hbel.trans (hB.mono hbel.size)
     replace hsz:=Nat.le_trans hsz hB.size
     clear hB hda hbda hcb hbcb
     have hvda:=V10
     clear V10 v10l v10u
     have hvcb:=V11
     clear V11 v11l v11u
     go_upto_region 5 with (fail)
     refine region_vars (n:=72) (by kernel_rfl) (by kernel_rfl) (by kernel_rfl) rfl
      (isAl [(8,6),(9,7)]) (putOf [(8,6),(9,7)]) (fun _=> arr .i64 16 (fun _=> 0)) (fun i=> match i with | 6=> (arr .i64 16 (addF (da) (cb))) | 7=> (arr .i64 16 (subF (da) (cb))) | _=> #[]) (fun _=> 53) (fun i=> match i with | 6=> 21 | 7=> 22 | _=> 0)
      (fun ii vv _=> (match ii with | 0 | 3=> vv=.agg (arr .i64 16 (da)) | 1 | 4=> vv=.agg (arr .i64 16 (cb)) | 2=> vv=.agg (arr .i64 16 (addF (da) (cb))) | 5=> vv=.agg (arr .i64 16 (subF (da) (cb))) | _=> True)) (fun _ _=> True) (fun _ _ _=> trivial) (fun _ _ _ _ _ _ _=> trivial) (fun _ _ _ _ h _=> h)
      (vs_al rfl) (vs_inj rfl) ?_ ?_ ?_ ?_
     ·refine Each.all ?_
      refine ⟨?_,?_,?_,?_,?_,?_,(fun h=> by cases h),(fun h=> by cases h),(fun _ h=> by cases h),(fun _ h=> by cases h),trivial⟩
      ·intro _ _ a w2 hB hF hd
       rw [if_pos (wanted_none rfl)]
       exact flow_val (fun h=> by cases h) (run_load_str rfl Tryz.underlying53 rfl Tryz.size53 (hF.same 19 rfl) (hvda.below hB hvda.lt)) rfl
      ·intro _ _ a w2 hB hF hd
       rw [if_pos (wanted_none rfl)]
       exact flow_val (fun h=> by cases h) (run_load_str rfl Tryz.underlying53 rfl Tryz.size53 (hF.same 20 rfl) (hvcb.below hB hvcb.lt)) rfl
      ·intro _ _ a w2 hB hF hd
       rw [if_pos (wanted_none rfl)]
       refine flow_call _ _ _ rfl Tryz.call59 _ (args2 (hd 0 _ rfl rfl rfl (waits_spec rfl)) (hd 1 _ rfl rfl rfl (waits_spec rfl))) (by simp) ((feAdd_any _ _ _ _ Hda.out Hcb.out w2).mono ?_)
       rintro e w3 ⟨rfl,hb⟩;exact ⟨_,rfl,rfl,hb⟩
      ·intro _ _ a w2 hB hF hd
       rw [if_pos (wanted_none rfl)]
       exact flow_val (fun h=> by cases h) (run_load_str rfl Tryz.underlying53 rfl Tryz.size53 (hF.same 19 rfl) (hvda.below hB hvda.lt)) rfl
      ·intro _ _ a w2 hB hF hd
       rw [if_pos (wanted_none rfl)]
       exact flow_val (fun h=> by cases h) (run_load_str rfl Tryz.underlying53 rfl Tryz.size53 (hF.same 20 rfl) (hvcb.below hB hvcb.lt)) rfl
      ·intro _ _ a w2 hB hF hd
       rw [if_pos (wanted_none rfl)]
       refine flow_call _ _ _ rfl Tryz.call113 _ (args2 (hd 3 _ rfl rfl rfl (waits_spec rfl)) (hd 4 _ rfl rfl rfl (waits_spec rfl))) (by simp) ((feSub_any _ _ _ _ Hda.out Hcb.out w2).mono ?_)
       rintro e w3 ⟨rfl,hb⟩;exact ⟨_,rfl,rfl,hb⟩
     ·refine Each.all ?_
      refine ⟨(fun h=> by cases h),(fun h=> by cases h),(fun h=> by cases h),(fun h=> by cases h),(fun h=> by cases h),(fun h=> by cases h),?_,?_,(fun h=> by cases h),(fun h=> by cases h),trivial⟩
      ·exact fun _=> ⟨rfl,rfl,fun a w2 K h=> flow_alloc rfl rfl Tryz.zeroValue53 (by simp) h⟩
      ·exact fun _=> ⟨rfl,rfl,fun a w2 K h=> flow_alloc rfl rfl Tryz.zeroValue53 (by simp) h⟩
     ·refine Each.all ?_
      refine ⟨(fun _ h=> by cases h),(fun _ h=> by cases h),(fun _ h=> by cases h),(fun _ h=> by cases h),(fun _ h=> by cases h),(fun _ h=> by cases h),(fun _ h=> by cases h),(fun _ h=> by cases h),?_,?_,trivial⟩
      ·intro p hp
       obtain rfl:6=p:=Option.some.inj hp
       exact ⟨rfl,rfl,⟨_,rfl⟩,waits_spec rfl,fun a w2 b K hB hF hd hx hb h=> flow_put rfl rfl Tryz.size53 hx (hd 2 _ rfl rfl rfl (waits_spec rfl)) hb h⟩
      ·intro p hp
       obtain rfl:7=p:=Option.some.inj hp
       exact ⟨rfl,rfl,⟨_,rfl⟩,waits_spec rfl,fun a w2 b K hB hF hd hx hb h=> flow_put rfl rfl Tryz.size53 hx (hd 5 _ rfl rfl rfl (waits_spec rfl)) hb h⟩
     ·intro a w6 blk hB hF hS hv hfin hdis
      obtain ⟨v6,v6l,v6u⟩:=hv 6 _ rfl rfl
      obtain ⟨v7,v7l,v7u⟩:=hv 7 _ rfl rfl
      have ha:=puts_each rfl rfl hF [_,_,_,_,_,_,_,_,undef,undef] rfl ⟨hS 0 _ rfl rfl rfl,hS 1 _ rfl rfl rfl,hS 2 _ rfl rfl rfl,hS 3 _ rfl rfl rfl,hS 4 _ rfl rfl rfl,hS 5 _ rfl rfl rfl,v6,v7,trivial,trivial,trivial⟩
      have f6:=hfin 8 _ 6 rfl rfl
      have f7:=hfin 9 _ 7 rfl rfl
      have d6_7:=hdis 6 7 _ _ rfl rfl rfl rfl (by decide)
      simp only [puts,Act.put,List.setIfInBounds_toArray,List.set_cons_succ,List.set_cons_zero] at ha
      subst ha
      have V6:Arr .i64 w6 (blk 6) 16 (addF (da) (cb)):=⟨_,f6⟩
      have V7:Arr .i64 w6 (blk 7) 16 (subF (da) (cb)):=⟨_,f7⟩
      clear hS hv hfin hdis hF v6 v7 f6 f7
      replace hA:=hA.kept hB
      replace hB':=hB'.kept hB
      replace hC:=hC.kept hB
      replace hD:=hD.kept hB
      replace hE:=hE.kept hB
      replace hR1:=hR1.kept hB
      replace hR2:=hR2.kept hB
      replace hR3:=hR3.kept hB
      replace hR4:=hR4.kept hB
      replace hvpl:=hvpl.kept hB
      replace hvmi:=hvmi.kept hB
      replace hvaa:=hvaa.kept hB
      replace hvbb:=hvbb.kept hB
      replace hvee:=hvee.kept hB
      replace hvda:=hvda.kept hB
      replace hvcb:=hvcb.kept hB
      obtain ⟨bsu,hbsu⟩:∃x,x=blk 6:=⟨_,rfl⟩
      obtain ⟨su,hsu,Hsu⟩:∃x,x=addF da cb∧Hid (Fe x ((C - D) * (A+B)+(C+D) * (A - B))):=⟨_,rfl,Hda.out.addF Hcb.out⟩
      rw [←hsu,←hbsu] at V6
      rw [←hbsu] at v6l ⊢
      have lsu:w.heap.size+9≤bsu:=Nat.le_trans hsz v6l
      obtain ⟨bdi,hbdi⟩:∃x,x=blk 7:=⟨_,rfl⟩
      obtain ⟨di,hdi,Hdi⟩:∃x,x=subF da cb∧Hid (Fe x ((C - D) * (A+B) - (C+D) * (A - B))):=⟨_,rfl,Hda.out.subF Hcb.out⟩
      rw [←hdi,←hbdi] at V7
      rw [←hbdi] at v7l ⊢
      have ldi:w.heap.size+9≤bdi:=Nat.le_trans hsz v7l
      replace hbel:=hbel.trans (hB.mono hbel.size)
      replace hsz:=Nat.le_trans hsz hB.size
      clear hB hsu hbsu hdi hbdi
      have hvsu:=V6
      clear V6 v6l v6u
      have hvdi:=V7
      clear V7 v7l v7u
      go_upto_region 6 with (fail)
      refine region_lasts (n:=72) (fun i=> i==18 || i==19 || i==20 || i==21) (by kernel_rfl) (by kernel_rfl) (by kernel_rfl) (by kernel_rfl) rfl
       (fun ii vv _=> (match ii with | 0 | 4=> vv=.agg (arr .i64 16 (aa)) | 1=> vv=.agg (arr .i64 16 (bb)) | 2=> vv=.agg (arr .i64 16 (mulF (aa) (bb))) | 3 | 6=> vv=.agg (arr .i64 16 (ee)) | 5=> vv=.agg (arr .i64 16 (facF)) | 7=> vv=.agg (arr .i64 16 (mulF (facF) (ee))) | 8=> vv=.agg (arr .i64 16 (addF (aa) (mulF (facF) (ee)))) | 9=> vv=.agg (arr .i64 16 (mulF (ee) (addF (aa) (mulF (facF) (ee))))) | 10 | 11=> vv=.agg (arr .i64 16 (su)) | 12=> vv=.agg (arr .i64 16 (mulF (su) (su))) | 13=> vv=.agg (arr .i64 16 (fu)) | 14 | 15=> vv=.agg (arr .i64 16 (di)) | 16=> vv=.agg (arr .i64 16 (mulF (di) (di))) | 17=> vv=.agg (arr .i64 16 (mulF (fu) (mulF (di) (di)))) | _=> True))
       (fun w w'=> Below w.heap.size w w') (fun _ _ h=> h) (fun _ _ _ _ h _=> h)
       (fun i=> match i with | 18=> (w.heap.size+5) | 19=> (w.heap.size+6) | 20=> (w.heap.size+7) | _=> (w.heap.size+8)) (fun i=> match i with | 18=> (arr .i64 16 (fun _=> 0)) | 19=> (arr .i64 16 (fun _=> 0)) | 20=> (arr .i64 16 (fun _=> 0)) | _=> (arr .i64 16 (fun _=> 0))) (fun i=> match i with | 18=> (arr .i64 16 (mulF (aa) (bb))) | 19=> (arr .i64 16 (mulF (ee) (addF (aa) (mulF (facF) (ee))))) | 20=> (arr .i64 16 (mulF (su) (su))) | _=> (arr .i64 16 (mulF (fu) (mulF (di) (di)))))
       (by intro i j _ _ hpi hpj hne;simp only [Bool.or_eq_true,beq_iff_eq] at hpi hpj;rcases hpi with ((rfl | rfl) | rfl) | rfl<;> rcases hpj with ((rfl | rfl) | rfl) | rfl<;> first | exact absurd rfl hne | (simp only [];omega))
       (by intro i _ hpi;simp only [Bool.or_eq_true,beq_iff_eq] at hpi;rcases hpi with ((rfl | rfl) | rfl) | rfl<;> first | exact (hR1).row | exact (hR2).row | exact (hR3).row | exact (hR4).row)
       ?_ ?_ ?_
      ·refine Each.all ?_
       refine ⟨?_,?_,?_,?_,?_,?_,?_,?_,?_,?_,?_,?_,?_,?_,?_,?_,?_,?_,(fun h=> absurd h (by decide)),(fun h=> absurd h (by decide)),(fun h=> absurd h (by decide)),(fun h=> absurd h (by decide)),trivial⟩
       ·intro _ a w2 hB hF hd
        rw [if_pos (wanted_none rfl)]
        exact flow_val (fun h=> by cases h) (run_load_str rfl Tryz.underlying53 rfl Tryz.size53 (hF.same 16 rfl) (hvaa.below hB hvaa.lt)) rfl
       ·intro _ a w2 hB hF hd
        rw [if_pos (wanted_none rfl)]
        exact flow_val (fun h=> by cases h) (run_load_str rfl Tryz.underlying53 rfl Tryz.size53 (hF.same 17 rfl) (hvbb.below hB hvbb.lt)) rfl
       ·intro _ a w2 hB hF hd
        rw [if_pos (wanted_none rfl)]
        refine flow_call _ _ _ rfl Tryz.call53 _ (args2 (hd 0 _ rfl rfl (waits_spec rfl)) (hd 1 _ rfl rfl (waits_spec rfl))) (by simp) ((feMul_any _ _ _ _ Haa.out Hbb.out w2).mono ?_)
        rintro e w3 ⟨rfl,hb⟩;exact ⟨_,rfl,rfl,hb⟩
       ·intro _ a w2 hB hF hd
        rw [if_pos (wanted_none rfl)]
        exact flow_val (fun h=> by cases h) (run_load_str rfl Tryz.underlying53 rfl Tryz.size53 (hF.same 18 rfl) (hvee.below hB hvee.lt)) rfl
       ·intro _ a w2 hB hF hd
        rw [if_pos (wanted_none rfl)]
        exact flow_val (fun h=> by cases h) (run_load_str rfl Tryz.underlying53 rfl Tryz.size53 (hF.same 16 rfl) (hvaa.below hB hvaa.lt)) rfl
       ·intro _ a w2 hB hF hd
        rw [if_pos (wanted_none rfl)]
        refine flow_call _ _ _ rfl Tryz.call149 _ args0 (by simp) ((ldFactor_any w2).mono ?_)
        rintro e w3 ⟨rfl,hb⟩;exact ⟨_,rfl,rfl,hb⟩
       ·intro _ a w2 hB hF hd
        rw [if_pos (wanted_none rfl)]
        exact flow_val (fun h=> by cases h) (run_load_str rfl Tryz.underlying53 rfl Tryz.size53 (hF.same 18 rfl) (hvee.below hB hvee.lt)) rfl
       ·intro _ a w2 hB hF hd
        rw [if_pos (wanted_none rfl)]
        refine flow_call _ _ _ rfl Tryz.call53 _ (args2 (hd 5 _ rfl rfl (waits_spec rfl)) (hd 6 _ rfl rfl (waits_spec rfl))) (by simp) ((feMul_any _ _ _ _ fe_fac Hee.out w2).mono ?_)
        rintro e w3 ⟨rfl,hb⟩;exact ⟨_,rfl,rfl,hb⟩
       ·intro _ a w2 hB hF hd
        rw [if_pos (wanted_none rfl)]
        refine flow_call _ _ _ rfl Tryz.call59 _ (args2 (hd 4 _ rfl rfl (waits_spec rfl)) (hd 7 _ rfl rfl (waits_spec rfl))) (by simp) ((feAdd_any _ _ _ _ Haa.out ((fe_fac).mulF Hee.out) w2).mono ?_)
        rintro e w3 ⟨rfl,hb⟩;exact ⟨_,rfl,rfl,hb⟩
       ·intro _ a w2 hB hF hd
        rw [if_pos (wanted_none rfl)]
        refine flow_call _ _ _ rfl Tryz.call53 _ (args2 (hd 3 _ rfl rfl (waits_spec rfl)) (hd 8 _ rfl rfl (waits_spec rfl))) (by simp) ((feMul_any _ _ _ _ Hee.out ((Haa.out).addF ((fe_fac).mulF Hee.out)) w2).mono ?_)
        rintro e w3 ⟨rfl,hb⟩;exact ⟨_,rfl,rfl,hb⟩
       ·intro _ a w2 hB hF hd
        rw [if_pos (wanted_none rfl)]
        exact flow_val (fun h=> by cases h) (run_load_str rfl Tryz.underlying53 rfl Tryz.size53 (hF.same 21 rfl) (hvsu.below hB hvsu.lt)) rfl
       ·intro _ a w2 hB hF hd
        rw [if_pos (wanted_none rfl)]
        exact flow_val (fun h=> by cases h) (run_load_str rfl Tryz.underlying53 rfl Tryz.size53 (hF.same 21 rfl) (hvsu.below hB hvsu.lt)) rfl
       ·intro _ a w2 hB hF hd
        rw [if_pos (wanted_none rfl)]
        refine flow_call _ _ _ rfl Tryz.call53 _ (args2 (hd 10 _ rfl rfl (waits_spec rfl)) (hd 11 _ rfl rfl (waits_spec rfl))) (by simp) ((feMul_any _ _ _ _ Hsu.out Hsu.out w2).mono ?_)
        rintro e w3 ⟨rfl,hb⟩;exact ⟨_,rfl,rfl,hb⟩
       ·intro _ a w2 hB hF hd
        rw [if_pos (wanted_none rfl)]
        exact flow_val (fun h=> by cases h) (run_load_str rfl Tryz.underlying53 rfl Tryz.size53 (hF.same 9 rfl) (hE.below hB hE.lt)) rfl
       ·intro _ a w2 hB hF hd
        rw [if_pos (wanted_none rfl)]
        exact flow_val (fun h=> by cases h) (run_load_str rfl Tryz.underlying53 rfl Tryz.size53 (hF.same 22 rfl) (hvdi.below hB hvdi.lt)) rfl
       ·intro _ a w2 hB hF hd
        rw [if_pos (wanted_none rfl)]
        exact flow_val (fun h=> by cases h) (run_load_str rfl Tryz.underlying53 rfl Tryz.size53 (hF.same 22 rfl) (hvdi.below hB hvdi.lt)) rfl
       ·intro _ a w2 hB hF hd
        rw [if_pos (wanted_none rfl)]
        refine flow_call _ _ _ rfl Tryz.call53 _ (args2 (hd 14 _ rfl rfl (waits_spec rfl)) (hd 15 _ rfl rfl (waits_spec rfl))) (by simp) ((feMul_any _ _ _ _ Hdi.out Hdi.out w2).mono ?_)
        rintro e w3 ⟨rfl,hb⟩;exact ⟨_,rfl,rfl,hb⟩
       ·intro _ a w2 hB hF hd
        rw [if_pos (wanted_none rfl)]
        refine flow_call _ _ _ rfl Tryz.call53 _ (args2 (hd 13 _ rfl rfl (waits_spec rfl)) (hd 16 _ rfl rfl (waits_spec rfl))) (by simp) ((feMul_any _ _ _ _ HU.out ((Hdi.out).mulF Hdi.out) w2).mono ?_)
        rintro e w3 ⟨rfl,hb⟩;exact ⟨_,rfl,rfl,hb⟩
      ·refine Each.all ?_
       refine ⟨(fun h=> absurd h (by decide)),(fun h=> absurd h (by decide)),(fun h=> absurd h (by decide)),(fun h=> absurd h (by decide)),(fun h=> absurd h (by decide)),(fun h=> absurd h (by decide)),(fun h=> absurd h (by decide)),(fun h=> absurd h (by decide)),(fun h=> absurd h (by decide)),(fun h=> absurd h (by decide)),(fun h=> absurd h (by decide)),(fun h=> absurd h (by decide)),(fun h=> absurd h (by decide)),(fun h=> absurd h (by decide)),(fun h=> absurd h (by decide)),(fun h=> absurd h (by decide)),(fun h=> absurd h (by decide)),(fun h=> absurd h (by decide)),?_,?_,?_,?_,trivial⟩
       ·intro _ a w1 w2 K hB hF hS hr hK
        exact wp_store_arr 53 _ _ rfl .i64 ((w.heap.size+5)) 16 (fun _=> 0) (mulF (aa) (bb)) Tryz.size53 (hF.same 10 rfl) (hS 2 _ rfl rfl) hr hK
       ·intro _ a w1 w2 K hB hF hS hr hK
        exact wp_store_arr 53 _ _ rfl .i64 ((w.heap.size+6)) 16 (fun _=> 0) (mulF (ee) (addF (aa) (mulF (facF) (ee)))) Tryz.size53 (hF.same 11 rfl) (hS 9 _ rfl rfl) hr hK
       ·intro _ a w1 w2 K hB hF hS hr hK
        exact wp_store_arr 53 _ _ rfl .i64 ((w.heap.size+7)) 16 (fun _=> 0) (mulF (su) (su)) Tryz.size53 (hF.same 12 rfl) (hS 12 _ rfl rfl) hr hK
       ·intro _ a w1 w2 K hB hF hS hr hK
        exact wp_store_arr 53 _ _ rfl .i64 ((w.heap.size+8)) 16 (fun _=> 0) (mulF (fu) (mulF (di) (di))) Tryz.size53 (hF.same 13 rfl) (hS 17 _ rfl rfl) hr hK
      ·intro a wf w7 hB hF hS hfil
       have other:∀{k:IntKind} {qb n:Nat} {f:Nat→Int},qb≠(w.heap.size+5)→qb≠(w.heap.size+6)→qb≠(w.heap.size+7)→qb≠(w.heap.size+8)→Arr k wf qb n f→Arr k w7 qb n f:=fun {k qb n f} e0 e1 e2 e3 hA=> hfil.arr (by intro i _ hpi;simp only [Bool.or_eq_true,beq_iff_eq] at hpi;rcases hpi with ((rfl | rfl) | rfl) | rfl<;> ((try simp only []);(try dsimp only);omega)) hA
       have belowT:∀{B:Nat} {w0:World},B≤(w.heap.size+5)→B≤(w.heap.size+6)→B≤(w.heap.size+7)→B≤(w.heap.size+8)→Below B w0 wf→Below B w0 w7:=fun {B w0} e0 e1 e2 e3 hA=> hfil.below (by intro i _ hpi;simp only [Bool.or_eq_true,beq_iff_eq] at hpi;rcases hpi with ((rfl | rfl) | rfl) | rfl<;> ((try simp only []);(try dsimp only);omega)) hA
       have V18:Arr .i64 w7 ((w.heap.size+5)) 16 (mulF (aa) (bb)):=hfil.at 18 (by decide) rfl
       have V19:Arr .i64 w7 ((w.heap.size+6)) 16 (mulF (ee) (addF (aa) (mulF (facF) (ee)))):=hfil.at 19 (by decide) rfl
       have V20:Arr .i64 w7 ((w.heap.size+7)) 16 (mulF (su) (su)):=hfil.at 20 (by decide) rfl
       have V21:Arr .i64 w7 ((w.heap.size+8)) 16 (mulF (fu) (mulF (di) (di))):=hfil.at 21 (by decide) rfl
       have hszf:=hfil.size
       clear hfil
       have ha:=puts_each rfl rfl hF [_,_,_,_,_,_,_,_,_,_,_,_,_,_,_,_,_,_,undef,undef,undef,undef] rfl ⟨hS 0 _ rfl rfl,hS 1 _ rfl rfl,hS 2 _ rfl rfl,hS 3 _ rfl rfl,hS 4 _ rfl rfl,hS 5 _ rfl rfl,hS 6 _ rfl rfl,hS 7 _ rfl rfl,hS 8 _ rfl rfl,hS 9 _ rfl rfl,hS 10 _ rfl rfl,hS 11 _ rfl rfl,hS 12 _ rfl rfl,hS 13 _ rfl rfl,hS 14 _ rfl rfl,hS 15 _ rfl rfl,hS 16 _ rfl rfl,hS 17 _ rfl rfl,trivial,trivial,trivial,trivial,trivial⟩
       simp only [puts,Act.put,List.setIfInBounds_toArray,List.set_cons_succ,List.set_cons_zero] at ha
       subst ha
       clear hS hF
       have hb:=belowT (by omega) (by omega) (by omega) (by omega) (hbel.trans (hB.mono hbel.size))
       go_wp2
       exact bodyPost_ret (results_str4 rfl _ _ .i64 16 Tryz.underlying53 rfl Tryz.size53 (w.heap.size+5) (w.heap.size+6) (w.heap.size+7) (w.heap.size+8) _ _ _ _ rfl V18 rfl V19 rfl V20 rfl V21) rfl ⟨_,_,_,_,rfl,⟨Haa.out.mulF Hbb.out,Hee.out.mulF (Haa.out.addF (fe_fac.mulF Hee.out)),Hsu.out.mulF Hsu.out,HU.out.mulF (Hdi.out.mulF Hdi.out)⟩,hb⟩
end Go.Proofs.YtdhejcaapdhhfaaGreat
namespace Go.Bas
open Go.RowKit
theorem run_max0 {P:Program} {w:World} {a:Act} {o:Oper} {x y:Operand} {t1 t2:TypeId} {k:IntKind} {m:Int} (ho:o.op=.call { callee:=.builtin .max,args:=#[x,y],argTypes:=#[t1,t2] }) (hx:a.eval x=.int k m) (hy:a.eval y=.int k 0) (hm:0≤m):
  (execOp a.eval o).run P w=.ok (.value (.int k m)) w:=by
 unfold execOp
 simp only [ho,resolve,invoke,builtin,Sem.run_bind,Sem.run_pure,Result.andThen_ok,List.map_toArray,List.map_cons,List.map_nil,hx,hy]
 simp [go_sem,Builtin.max_,Builtin.max2]
 omega
def pick2 (p:Bool) (f g:Nat→Int):Nat→Int:=if p then g else f
theorem fe_pick {p:Bool} {f g:Nat→Int} {X Y:Int} (hf:Fe f X) (hg:Fe g Y):Fe (pick2 p f g) (if p then Y else X):=by cases p<;> assumption
end Go.Bas
namespace Go.Proofs.YtdhejcaapdhhfaaGreat
open Go.RowKit Go.Bas Go.ChangeShapes
theorem feSwap_any (p:Bool) (f g:Nat→Int) (X Y:Int) (hf:Fe f X) (hg:Fe g Y) (w:World):
  Calls Tryz.prog 115 #[El f,El g,.bool p] w fun e w'=> e=.returned (.tuple #[El (pick2 p f g),El (pick2 p g f)])∧Below w.heap.size w w':=by
 cases p
 ·exact feSwap_no f g X Y hf hg w
 ·exact feSwap_yes f g X Y hf hg w
end Go.Proofs.YtdhejcaapdhhfaaGreat
namespace Go.Proofs.YtdhejcaapdhhfaaGreat
open Go.RowKit Go.Bas
attribute [local go_sem ↓] Go.wp_at_zero Go.wp_at_succ
theorem fPower_any (va:Value) (A N:Int) (h0:0≤N) (h1:N<2 ^ 256) (w:World) (ha:Rd .i64 w va 16 (dg 65536 (A % Pr))):
  Calls Tryz.prog 97 #[va,.agg (arr .u8 32 (dg 256 N))] w fun e w'=>
   ∃v,e=.returned v∧Rd .i64 w' v 16 (dg 65536 (A ^ N.toNat % Pr))∧Below w.heap.size w w':=by
 have HA:=Lib.hid ha
 have H0:=Lib.hid h0
 have H1:=Lib.hid h1
 clear ha h0 h1
 go_enter Tryz.func97,Tryz.ntmps97
 go_wp2_with fail
 refine (rSmall_any 1 (by decide) (by decide) _).mono ?_
 rintro e w1 ⟨v1,rfl,hv1,hb1⟩
 have hB1:Arr .u8 w1 w.heap.size 32 (dg 256 N):=Arr.kept (Arr.newAt rfl (by rfl)) hb1
 have hbel1:Below w.heap.size w w1:=((Below.refl _ _).alloc (Nat.le_refl _) _).trans (hb1.mono (by simp))
 have HV1:=Lib.hid hv1.rd
 have HA1:=Lib.hid (HA.out.below hbel1)
 clear hv1 hb1
 go_wp2
 go_loopw [0,5,6] (fun a o i wr=> ∃k:Nat,k≤32∧i=.int .i64 k∧Rd .i64 wr a 16 (dg 65536 (A ^ (2 ^ (8 * k)) % Pr))∧Rd .i64 wr o 16 (dg 65536 (pwOut A N (8 * k) % Pr))∧Arr .u8 wr w.heap.size 32 (dg 256 N)∧Below w.heap.size w wr) (fun _ _ i _=> 32 - (intOf i).toNat)
 case atStart=> exact ⟨0,Nat.zero_le _,rfl,by rw [Nat.mul_zero,Nat.pow_zero,Int.pow_succ,Int.pow_zero,Int.one_mul];exact HA1.out,by rw [Nat.mul_zero,pwOut_zero];exact HV1.out,hB1,hbel1⟩
 case round=>
  obtain ⟨k,hk,rfl,ha,ho,hB,hbel⟩:=hrel
  have HAa:=Lib.hid ha
  have HO:=Lib.hid ho
  clear ha ho
  by_cases hlt:k<32
  ·have e1:=hB.cell k hlt
   obtain ⟨d0,d1⟩:=dg_bound (by decide:(0:Int)<256) N k
   have HB:=Lib.hid hB
   have HBel:=Lib.hid hbel
   clear hB hbel
   go_wp2
   rw [show decide ((k:Int)<32)=true by simp;omega]
   go_loopw [0,5,7,8] (fun a o c i wr=> ∃j:Nat,j≤8∧i=.int .i64 j∧c=.int .i64 (dg 256 N k / 2 ^ j)∧Rd .i64 wr a 16 (dg 65536 (A ^ (2 ^ (8 * k+j)) % Pr))∧Rd .i64 wr o 16 (dg 65536 (pwOut A N (8 * k+j) % Pr))∧Arr .u8 wr w.heap.size 32 (dg 256 N)∧Below w.heap.size w wr) (fun _ _ _ i _=> 8 - (intOf i).toNat)
   case atStart=> exact ⟨0,Nat.zero_le _,rfl,by rw [Int.pow_zero,Int.ediv_one],HAa.out,HO.out,HB.out,HBel.out⟩
   case round=>
    clear HAa HO HB HBel e1
    obtain ⟨j,hj,rfl,rfl,ha,ho,hB,hbel⟩:=hrel
    have HAa:=Lib.hid ha
    have HO:=Lib.hid ho
    have HB:=Lib.hid hB
    have HBel:=Lib.hid hbel
    clear ha ho hB hbel
    by_cases hlt2:j<8
    ·have hbit:=byte_bit N k j hlt2
     have hnx:dg 256 N k / 2 ^ (j+1)=dg 256 N k / 2 ^ j / 2:=div_succ (by decide) _ _
     have c0:0≤dg 256 N k / 2 ^ j:=Int.ediv_nonneg d0 (Int.le_of_lt (pow_pos' (by decide) _))
     have c1:dg 256 N k / 2 ^ j<256:=Int.lt_of_le_of_lt (Int.ediv_le_self _ d0) d1
     obtain ⟨c,hc⟩:∃c,c=dg 256 N k / 2 ^ j:=⟨_,rfl⟩
     rw [←hc] at hbit hnx c0 c1 ⊢
     have hps:=pwOut_step A N (8 * k+j)
     rw [←hbit] at hps
     have HPS:=Lib.hid hps
     have HNX:=Lib.hid hnx
     have HSQ:=Lib.hid (sqr_step A (8 * k+j))
     obtain ⟨S,hS⟩:∃S,S=A ^ (2 ^ (8 * k+j)):=⟨_,rfl⟩
     obtain ⟨O,hO⟩:∃O,O=pwOut A N (8 * k+j):=⟨_,rfl⟩
     rw [←hS] at HAa HSQ HPS
     rw [←hO] at HO HPS
     clear hbit hnx hc hps hS hO
     by_cases hodd:c % 2=1
     ·rw [if_pos hodd] at HPS
      have hob:(c % 2==1)=true:=by rw [hodd];rfl
      clear hodd
      go_wp2_with fail
      refine (fMul_rd O S _ _ _ HO.out HAa.out).mono ?_
      rintro e w3 ⟨v3,rfl,hv3,hb3⟩
      have HV3:=Lib.hid hv3
      have HAa3:=Lib.hid (HAa.out.below hb3)
      have HB3:=Lib.hid (HB.out.kept hb3)
      have HBel3:=Lib.hid (HBel.out.trans (hb3.mono HBel.out.size))
      clear hv3 hb3 HAa HB HBel
      go_wp2_with fail
      refine (fMul_rd S S _ _ _ HAa3.out HAa3.out).mono ?_
      rintro e w4 ⟨v4,rfl,hv4,hb4⟩
      have HV4:=Lib.hid hv4
      have HV34:=Lib.hid (HV3.out.below hb4)
      have HB4:=Lib.hid (HB3.out.kept hb4)
      have HBel4:=Lib.hid (HBel3.out.trans (hb4.mono HBel3.out.size))
      clear hv4 hb4
      go_wp2
      go_roundw
      case rel=> exact ⟨j+1,by omega,by go_num,by rw [HNX.out],by rw [show 8 * k+(j+1)=8 * k+j+1 by omega,HSQ.out];exact HV4.out,by rw [show 8 * k+(j+1)=8 * k+j+1 by omega,HPS.out];exact HV34.out,HB4.out,HBel4.out⟩
      case measure=> simp [intOf] <;> omega
     ·rw [if_neg hodd] at HPS
      have hob:(c % 2==1)=false:=by simpa using hodd
      clear hodd
      go_wp2_with fail
      refine (fMul_rd S S _ _ _ HAa.out HAa.out).mono ?_
      rintro e w4 ⟨v4,rfl,hv4,hb4⟩
      have HV4:=Lib.hid hv4
      have HO4:=Lib.hid (HO.out.below hb4)
      have HB4:=Lib.hid (HB.out.kept hb4)
      have HBel4:=Lib.hid (HBel.out.trans (hb4.mono HBel.out.size))
      clear hv4 hb4
      go_wp2
      go_roundw
      case rel=> exact ⟨j+1,by omega,by go_num,by rw [HNX.out],by rw [show 8 * k+(j+1)=8 * k+j+1 by omega,HSQ.out];exact HV4.out,by rw [show 8 * k+(j+1)=8 * k+j+1 by omega,HPS.out];exact HO4.out,HB4.out,HBel4.out⟩
      case measure=> simp [intOf] <;> omega
    ·obtain rfl:j=8:=by omega
     go_wp2
     go_roundw
     case rel=> exact ⟨k+1,by omega,by go_num,HAa.out,HO.out,HB.out,HBel.out⟩
     case measure=> simp [intOf] <;> omega
  ·obtain rfl:k=32:=by omega
   have HF:=Lib.hid (pwOut_full (X:=A) H0.out H1.out)
   have HBel:=Lib.hid hbel
   clear hB hbel
   go_wp2
   go_ret
   exact ⟨_,rfl,by rw [←HF.out];exact HO.out,HBel.out⟩
end Go.Proofs.YtdhejcaapdhhfaaGreat
