/-
  Part 1 of the texts that the proof of DeduceMore rests on, one after the other. Conditions: named in each theorem.
-/

set_option linter.unusedVariables false
set_option linter.unusedSimpArgs false
namespace Go.Bas
theorem nodup_inj {K:Type} {l:List K} (h:l.Nodup) {i j:Nat} (hi:i<l.length) (hj:j<l.length) (e:l[i] =l[j]):i=j:=by
 have hp:=List.pairwise_iff_getElem.1 h
 rcases Nat.lt_trichotomy i j with h1 | h1 | h1
 ·exact absurd e (hp i j hi hj h1)
 ·exact h1
 ·exact absurd e.symm (hp j i hj hi h1)
section
variable {K : Type} [DecidableEq K]
def plc (L:List K) (x:K):Nat:=L.idxOf x
theorem plc_lt {L:List K} {x:K} (h:x ∈ L):plc L x<L.length:=List.idxOf_lt_length_iff.2 h
theorem plc_get {L:List K} {x:K} (h:x ∈ L):L[plc L x]? =some x:=by
 unfold plc
 rw [List.getElem?_eq_getElem (List.idxOf_lt_length_iff.2 h),List.getElem_idxOf]
theorem plc_at {L:List K} (hn:L.Nodup) {j:Nat} {x:K} (h:L[j]? =some x):plc L x=j:=by
 obtain ⟨hj,he⟩:=List.getElem?_eq_some_iff.1 h
 have hm:x ∈ L:=List.mem_of_getElem? h
 obtain ⟨h1,h2⟩:=List.getElem?_eq_some_iff.1 (plc_get hm)
 exact nodup_inj hn h1 hj (h2.trans he.symm)
theorem plc_prefix {L M:List K} (hn:M.Nodup) (hp:L <+:M) {x:K} (h:x ∈ L):plc M x=plc L x:=by
 obtain ⟨t,rfl⟩:=hp
 refine plc_at hn ?_
 rw [List.getElem?_append_left (plc_lt h)]
 exact plc_get h
def fidx (L:List K) (x:K):Int:=if x ∈ L then (L.idxOf x:Int) else -1
theorem fidx_at {L:List K} {x:K} {j:Nat} (h:L[j]? =some x) (hn:∀i,i<j→L[i]?≠some x):fidx L x=j:=by
 obtain ⟨hj,he⟩:=List.getElem?_eq_some_iff.1 h
 have hm:x ∈ L:=List.mem_of_getElem? h
 unfold fidx
 rw [if_pos hm]
 have h1:L.idxOf x<L.length:=List.idxOf_lt_length_iff.2 hm
 have h2:L[L.idxOf x]? =some x:=by rw [List.getElem?_eq_getElem h1,List.getElem_idxOf]
 have h3:¬ L.idxOf x<j:=fun hl=> hn _ hl h2
 have h4:¬ j<L.idxOf x:=fun hl=> by
  have:=List.not_of_lt_findIdx (p:=fun y=> y==x) (xs:=L) hl
  simp [he] at this
 omega
theorem prefix_get {α:Type} {l m:List α} (h:l <+:m) {i:Nat} {x:α} (hx:l[i]? =some x):m[i]? =some x:=by
 obtain ⟨t,rfl⟩:=h
 rw [List.getElem?_append_left (List.getElem?_eq_some_iff.1 hx).1]
 exact hx
variable {E : List (K × K)} {fr : List K}
end
section
variable {K : Type}
end
section
variable {K : Type} [DecidableEq K]
end
end Go.Bas
namespace Go.Bas
abbrev Tm:=Int × Int × Int
structure TS where
 l:List Tm
 tx:List (List Int)
def topT:Int:=4611686018427387904
def kindAt (l:List Tm) (n kind:Int):Bool:=match l[n.toNat]? with | some t=> decide (t.1=kind) | none=> false
def hasT (l:List Tm) (n kind:Int):Bool:=(decide (0≤n) && decide (n<l.length)) && (decide (kind=0) || kindAt l n kind)
def mayT (S:TS) (t:Tm):Bool:=
 if t.1=1 then (decide (1≤t.2.1) && decide (t.2.1≤4)) && decide (0≤t.2.2)
 else if t.1=2∨t.1=3∨t.1=6∨t.1=7 then hasT S.l t.2.1 0 && decide (t.2.2=0)
 else if t.1=4 then hasT S.l t.2.1 2 && hasT S.l t.2.2 0
 else if t.1=5 then hasT S.l t.2.1 0 && hasT S.l t.2.2 0
 else if t.1=8 then hasT S.l t.2.1 0 && hasT S.l t.2.2 9
 else if t.1=9 then (decide (0≤t.2.1) && decide (t.2.1<S.tx.length)) && decide (t.2.2=0)
 else if t.1=10 then hasT S.l t.2.1 9 && decide (t.2.2=0)
 else false
def nxt (l:List Tm) (s:Int):Int:=l.foldl (fun b t=> if t.1=1∧t.2.1=s then max b (min t.2.2 topT+1) else b) 0
def TS.add (S:TS) (t:Tm):TS:=⟨S.l++ [t],S.tx⟩
def TS.put (S:TS) (t:Tm):TS:=if mayT S t=true∧t ∉ S.l then S.add t else S
def putA (S:TS) (t:Tm):Int × Int:=if mayT S t=true then (if t ∈ S.l then (plc S.l t:Int) else (S.l.length:Int),0) else (0,2)
def isSort (s:Int):Bool:=decide (1≤s) && decide (s≤4)
def TS.draw (S:TS) (s:Int):TS:=if isSort s=true∧nxt S.l s≤topT then S.add (1,s,nxt S.l s) else S
def drawA (S:TS) (s:Int):Int × Int:=if isSort s=true then (if nxt S.l s≤topT then ((S.l.length:Int),0) else (0,3)) else (0,2)
def TS.text (S:TS) (b:List Int):TS:=if b ∈ S.tx then S else ⟨S.l++ [(9,(S.tx.length:Int),0)],S.tx++ [b]⟩
def textA (S:TS) (b:List Int):Int:=if b ∈ S.tx then (plc S.l (9,(plc S.tx b:Int),0):Int) else S.l.length
def okT (l:List Tm) (n i:Nat) (t:Tm):Prop:=
 (t.1=1∧(1≤t.2.1∧t.2.1≤4)∧0≤t.2.2)∨
 ((t.1=2∨t.1=3∨t.1=6∨t.1=7)∧(∃a:Nat,t.2.1=a∧a<i)∧t.2.2=0)∨
 (t.1=4∧(∃a:Nat,t.2.1=a∧a<i∧∃u,l[a]? =some u∧u.1=2)∧∃b:Nat,t.2.2=b∧b<i)∨
 (t.1=5∧(∃a:Nat,t.2.1=a∧a<i)∧∃b:Nat,t.2.2=b∧b<i)∨
 (t.1=8∧(∃a:Nat,t.2.1=a∧a<i)∧∃b:Nat,t.2.2=b∧b<i∧∃u,l[b]? =some u∧u.1=9)∨
 (t.1=9∧(∃a:Nat,t.2.1=a∧a<n)∧t.2.2=0)∨
 (t.1=10∧(∃a:Nat,t.2.1=a∧a<i∧∃u,l[a]? =some u∧u.1=9)∧t.2.2=0)
structure TS.Ok (S:TS):Prop where
 nd:S.l.Nodup
 ok:∀i t,S.l[i]? =some t→okT S.l S.tx.length i t
 all:∀j,j<S.tx.length→((9,(j:Int),0):Tm) ∈ S.l
 txn:S.tx.Nodup
theorem hasT_iff {l:List Tm} {n kind:Int}:hasT l n kind=true ↔ ∃a:Nat,n=a∧∃t,l[a]? =some t∧(kind=0∨t.1=kind):=by
 unfold hasT kindAt
 constructor
 ·intro h
  simp only [Bool.and_eq_true,decide_eq_true_eq,Bool.or_eq_true] at h
  obtain ⟨⟨h1,h2⟩,h3⟩:=h
  obtain ⟨a,rfl⟩:=Int.eq_ofNat_of_zero_le h1
  have hl:a<l.length:=by omega
  refine ⟨a,rfl,l[a],List.getElem?_eq_getElem hl,?_⟩
  rw [Int.toNat_natCast,List.getElem?_eq_getElem hl] at h3
  simpa using h3
 ·rintro ⟨a,rfl,t,h1,h2⟩
  have hl:a<l.length:=(List.getElem?_eq_some_iff.1 h1).1
  rw [Int.toNat_natCast,h1]
  simp only [Bool.and_eq_true,decide_eq_true_eq,Bool.or_eq_true]
  exact ⟨⟨by omega,by omega⟩,h2⟩
theorem okT_mono {l l':List Tm} {n n' i:Nat} {t:Tm} (hl:l <+:l') (hn:n≤n') (h:okT l n i t):okT l' n' i t:=by
 have up:∀{a:Nat} {k:Int},(∃u,l[a]? =some u∧u.1=k)→∃u,l'[a]? =some u∧u.1=k:=fun ⟨u,h1,h2⟩=> ⟨u,prefix_get hl h1,h2⟩
 rcases h with h | h | ⟨h,⟨a,h1,h2,h3⟩,h4⟩ | h | ⟨h,h1,b,h2,h3,h4⟩ | ⟨h,⟨a,h1,h2⟩,h3⟩ | ⟨h,⟨a,h1,h2,h3⟩,h4⟩
 ·exact .inl h
 ·exact .inr (.inl h)
 ·exact .inr (.inr (.inl ⟨h,⟨a,h1,h2,up h3⟩,h4⟩))
 ·exact .inr (.inr (.inr (.inl h)))
 ·exact .inr (.inr (.inr (.inr (.inl ⟨h,h1,b,h2,h3,up h4⟩))))
 ·exact .inr (.inr (.inr (.inr (.inr (.inl ⟨h,⟨a,h1,by omega⟩,h3⟩)))))
 ·exact .inr (.inr (.inr (.inr (.inr (.inr ⟨h,⟨a,h1,h2,up h3⟩,h4⟩)))))
theorem hasT_lt {l:List Tm} {n kind:Int} (h:hasT l n kind=true):∃a:Nat,n=a∧a<l.length∧(kind≠0→∃u,l[a]? =some u∧u.1=kind):=by
 obtain ⟨a,h1,t,h2,h3⟩:=hasT_iff.1 h
 exact ⟨a,h1,(List.getElem?_eq_some_iff.1 h2).1,fun hk=> ⟨t,h2,h3.resolve_left hk⟩⟩
theorem mayT_ok {S:TS} {t:Tm} (h:mayT S t=true):okT S.l S.tx.length S.l.length t:=by
 unfold mayT at h
 split at h
 ·rename_i h1
  simp only [Bool.and_eq_true,decide_eq_true_eq] at h
  exact .inl ⟨h1,h.1,h.2⟩
 split at h
 ·rename_i h1
  simp only [Bool.and_eq_true,decide_eq_true_eq] at h
  obtain ⟨a,e1,e2,_⟩:=hasT_lt h.1
  exact .inr (.inl ⟨h1,⟨a,e1,e2⟩,h.2⟩)
 split at h
 ·rename_i h1
  simp only [Bool.and_eq_true] at h
  obtain ⟨a,e1,e2,e3⟩:=hasT_lt h.1
  obtain ⟨b,f1,f2,_⟩:=hasT_lt h.2
  exact .inr (.inr (.inl ⟨h1,⟨a,e1,e2,e3 (by decide)⟩,b,f1,f2⟩))
 split at h
 ·rename_i h1
  simp only [Bool.and_eq_true] at h
  obtain ⟨a,e1,e2,_⟩:=hasT_lt h.1
  obtain ⟨b,f1,f2,_⟩:=hasT_lt h.2
  exact .inr (.inr (.inr (.inl ⟨h1,⟨a,e1,e2⟩,b,f1,f2⟩)))
 split at h
 ·rename_i h1
  simp only [Bool.and_eq_true] at h
  obtain ⟨a,e1,e2,_⟩:=hasT_lt h.1
  obtain ⟨b,f1,f2,f3⟩:=hasT_lt h.2
  exact .inr (.inr (.inr (.inr (.inl ⟨h1,⟨a,e1,e2⟩,b,f1,f2,f3 (by decide)⟩))))
 split at h
 ·rename_i h1
  simp only [Bool.and_eq_true,decide_eq_true_eq] at h
  obtain ⟨a,ha⟩:=Int.eq_ofNat_of_zero_le h.1.1
  exact .inr (.inr (.inr (.inr (.inr (.inl ⟨h1,⟨a,ha,by omega⟩,h.2⟩)))))
 split at h
 ·rename_i h1
  simp only [Bool.and_eq_true,decide_eq_true_eq] at h
  obtain ⟨a,e1,e2,e3⟩:=hasT_lt h.1
  exact .inr (.inr (.inr (.inr (.inr (.inr ⟨h1,⟨a,e1,e2,e3 (by decide)⟩,h.2⟩)))))
 ·cases h
theorem TS.Ok.empty:TS.Ok ⟨[], []⟩:=⟨List.nodup_nil,(fun i t h=> by simp at h),(fun j hj=> absurd hj (Nat.not_lt_zero _)),List.nodup_nil⟩
theorem nodup_snoc {α:Type} {l:List α} {x:α} (h:l.Nodup) (hx:x ∉ l):(l++ [x]).Nodup:=by
 rw [List.nodup_append]
 exact ⟨h,by simp,fun a ha b hb=> by simp at hb;subst hb;intro e;subst e;exact hx ha⟩
theorem TS.Ok.add {S:TS} {t:Tm} (h:S.Ok) (ht:t ∉ S.l) (ho:okT S.l S.tx.length S.l.length t):(S.add t).Ok:=by
 refine ⟨nodup_snoc h.nd ht,fun i u hu=> ?_,fun j hj=> List.mem_append.2 (.inl (h.all j hj)),h.txn⟩
 have hp:S.l <+:S.l++ [t] :=List.prefix_append _ _
 have hu:(S.l++ [t])[i]? =some u:=hu
 by_cases hi:i<S.l.length
 ·rw [List.getElem?_append_left hi] at hu
  exact okT_mono hp (Nat.le_refl _) (h.ok i u hu)
 ·have hl:=(List.getElem?_eq_some_iff.1 hu).1
  rw [List.length_append,List.length_singleton] at hl
  obtain rfl:i=S.l.length:=by omega
  rw [List.getElem?_append_right (Nat.le_refl _),Nat.sub_self] at hu
  cases hu
  exact okT_mono hp (Nat.le_refl _) ho
theorem nxt_foldl (s:Int):∀(l:List Tm) (b:Int),b≤l.foldl (fun b t=> if t.1=1∧t.2.1=s then max b (min t.2.2 topT+1) else b) b∧
  ∀t,t ∈ l→t.1=1→t.2.1=s→min t.2.2 topT+1≤l.foldl (fun b t=> if t.1=1∧t.2.1=s then max b (min t.2.2 topT+1) else b) b:=by
 intro l
 induction l with
 | nil=> intro b;exact ⟨Int.le_refl _,fun t h=> by cases h⟩
 | cons a l ih=>
  intro b
  rw [List.foldl_cons]
  obtain ⟨h1,h2⟩:=ih (if a.1=1∧a.2.1=s then max b (min a.2.2 topT+1) else b)
  refine ⟨Int.le_trans ?_ h1,fun t ht hk hs=> ?_⟩
  ·split<;> omega
  ·rcases List.mem_cons.1 ht with rfl | ht
   ·refine Int.le_trans ?_ h1
    rw [if_pos ⟨hk,hs⟩]
    omega
   ·exact h2 t ht hk hs
theorem nxt_up {l:List Tm} {s:Int} {t:Tm} (ht:t ∈ l) (hk:t.1=1) (hs:t.2.1=s):min t.2.2 topT+1≤nxt l s:=(nxt_foldl s l 0).2 t ht hk hs
theorem nxt_nonneg (l:List Tm) (s:Int):0≤nxt l s:=(nxt_foldl s l 0).1
theorem nxt_snoc (l:List Tm) (t:Tm) (s:Int):nxt (l++ [t]) s=if t.1=1∧t.2.1=s then max (nxt l s) (min t.2.2 topT+1) else nxt l s:=by
 unfold nxt
 rw [List.foldl_append]
 rfl
theorem nxt_le (s:Int):∀(l:List Tm) (b:Int),b≤topT+1→l.foldl (fun b t=> if t.1=1∧t.2.1=s then max b (min t.2.2 topT+1) else b) b≤topT+1:=by
 intro l
 induction l with
 | nil=> intro b h;exact h
 | cons a l ih=>
  intro b h
  rw [List.foldl_cons]
  refine ih _ ?_
  split<;> omega
theorem nxt_top (l:List Tm) (s:Int):nxt l s≤topT+1:=nxt_le s l 0 (by unfold topT;omega)
theorem nxt_new {l:List Tm} {s:Int} (h:nxt l s≤topT):((1,s,nxt l s):Tm) ∉ l:=fun hm=> by
 have:=nxt_up hm rfl rfl
 simp only at this
 omega
theorem TS.Ok.fresh9 {S:TS} (h:S.Ok):((9,(S.tx.length:Int),0):Tm) ∉ S.l:=fun hm=> by
 obtain ⟨j,hj,e⟩:=List.mem_iff_getElem.1 hm
 have:=h.ok j _ (by rw [List.getElem?_eq_getElem hj,e])
 rcases this with ⟨h,_⟩ | ⟨h,_⟩ | ⟨h,_⟩ | ⟨h,_⟩ | ⟨h,_⟩ | ⟨_,⟨a,h1,h2⟩,_⟩ | ⟨h,_⟩
 ·exact absurd h (by show ¬ _;simp)
 ·exact absurd h (by show ¬ _;simp)
 ·exact absurd h (by show ¬ _;simp)
 ·exact absurd h (by show ¬ _;simp)
 ·exact absurd h (by show ¬ _;simp)
 ·simp only at h1;omega
 ·exact absurd h (by show ¬ _;simp)
theorem TS.Ok.text {S:TS} (h:S.Ok) (b:List Int):(S.text b).Ok:=by
 unfold TS.text
 split
 ·exact h
 ·rename_i hb
  have hp:S.l <+:S.l++ [((9,(S.tx.length:Int),0):Tm)] :=List.prefix_append _ _
  refine ⟨nodup_snoc h.nd h.fresh9,fun i u hu=> ?_,fun j hj=> ?_,nodup_snoc h.txn hb⟩
  ·have hu:(S.l++ [((9,(S.tx.length:Int),0):Tm)])[i]? =some u:=hu
   show okT (S.l++ [((9,(S.tx.length:Int),0):Tm)]) (S.tx++ [b]).length i u
   rw [List.length_append,List.length_singleton]
   by_cases hi:i<S.l.length
   ·rw [List.getElem?_append_left hi] at hu
    exact okT_mono hp (by omega) (h.ok i u hu)
   ·have hl:=(List.getElem?_eq_some_iff.1 hu).1
    rw [List.length_append,List.length_singleton] at hl
    obtain rfl:i=S.l.length:=by omega
    rw [List.getElem?_append_right (Nat.le_refl _),Nat.sub_self] at hu
    cases hu
    exact .inr (.inr (.inr (.inr (.inr (.inl ⟨rfl,⟨S.tx.length,rfl,by omega⟩,rfl⟩)))))
  ·have hj:j<(S.tx++ [b]).length:=hj
   rw [List.length_append,List.length_singleton] at hj
   show _ ∈ S.l++_
   rw [List.mem_append,List.mem_singleton]
   by_cases h':j<S.tx.length
   ·exact .inl (h.all j h')
   ·exact .inr (by rw [show j=S.tx.length by omega])
def okI64 (x:Int):Prop:= -9223372036854775808≤x∧x≤9223372036854775807
def okTm (t:Tm):Prop:=okI64 t.1∧okI64 t.2.1∧okI64 t.2.2
theorem add_len (S:TS) (t:Tm):(S.add t).l.length=S.l.length+1:=by simp [TS.add]
theorem put_len (S:TS) (t:Tm):(S.put t).l.length≤S.l.length+1∧(S.put t).tx=S.tx:=by
 unfold TS.put
 split
 ·exact ⟨by rw [add_len];omega,rfl⟩
 ·exact ⟨by omega,rfl⟩
theorem draw_len (S:TS) (s:Int):(S.draw s).l.length≤S.l.length+1∧(S.draw s).tx=S.tx:=by
 unfold TS.draw
 split
 ·exact ⟨by rw [add_len];omega,rfl⟩
 ·exact ⟨by omega,rfl⟩
theorem text_len (S:TS) (b:List Int):(S.text b).l.length≤S.l.length+1∧(S.text b).tx.length≤S.tx.length+1:=by
 unfold TS.text
 split
 ·exact ⟨by omega,by omega⟩
 ·simp
end Go.Bas
namespace Go.Bas
abbrev tmD (l:List Tm) (n:Nat):Tm:=l.getD n (0,0,0)
theorem tmD_eq {l:List Tm} {n:Nat} {t:Tm} (h:l[n]? =some t):tmD l n=t:=by unfold tmD;rw [List.getD_eq_getElem?_getD,h];rfl
def canB (l:List Tm) (h m:Nat→Bool) (n:Nat):Bool:=
 if (tmD l n).1=9 then true
 else if (tmD l n).1=2∨(tmD l n).1=3∨(tmD l n).1=6∨(tmD l n).1=7∨(tmD l n).1=10 then h n || m (tmD l n).2.1.toNat
 else if (tmD l n).1=4∨(tmD l n).1=5∨(tmD l n).1=8 then h n || (m (tmD l n).2.1.toNat && m (tmD l n).2.2.toNat)
 else h n
def mdF (l:List Tm) (h:Nat→Bool):Nat→Nat→Bool
 | 0,_=> false
 | f+1,n=> canB l h (mdF l h f) n
def md (l:List Tm) (h:Nat→Bool) (n:Nat):Bool:=mdF l h (n+1) n
theorem parts {S:TS} (hok:S.Ok) {n:Nat} (hn:n<S.l.length):((tmD S.l n).1=2∨(tmD S.l n).1=3∨(tmD S.l n).1=6∨(tmD S.l n).1=7∨(tmD S.l n).1=10∨(tmD S.l n).1=4∨(tmD S.l n).1=5∨(tmD S.l n).1=8→∃a:Nat,(tmD S.l n).2.1=a∧a<n)∧
  ((tmD S.l n).1=4∨(tmD S.l n).1=5∨(tmD S.l n).1=8→∃a:Nat,(tmD S.l n).2.2=a∧a<n)∧((tmD S.l n).1=4→∃a:Nat,(tmD S.l n).2.1=a∧a<n∧(tmD S.l a).1=2)∧(1≤(tmD S.l n).1∧(tmD S.l n).1≤10):=by
 have ht:S.l[n]? =some (tmD S.l n):=by rw [tmD_eq (List.getElem?_eq_getElem hn)];exact List.getElem?_eq_getElem hn
 generalize tmD S.l n=t at ht
 rcases hok.ok n _ ht with ⟨h1,_⟩ | ⟨h1,⟨a,ha,hai⟩,_⟩ | ⟨h1,⟨a,ha,hai,u,hu,hu2⟩,b,hb,hbi⟩ | ⟨h1,⟨a,ha,hai⟩,b,hb,hbi⟩ | ⟨h1,⟨a,ha,hai⟩,b,hb,hbi,_⟩ | ⟨h1,_⟩ | ⟨h1,⟨a,ha,hai,_⟩,_⟩
 ·exact ⟨fun h=> by omega,fun h=> by omega,fun h=> by omega,by omega⟩
 ·exact ⟨fun _=> ⟨a,ha,hai⟩,fun h=> by omega,fun h=> by omega,by omega⟩
 ·exact ⟨fun _=> ⟨a,ha,hai⟩,fun _=> ⟨b,hb,hbi⟩,fun _=> ⟨a,ha,hai,by rw [tmD_eq hu];exact hu2⟩,by omega⟩
 ·exact ⟨fun _=> ⟨a,ha,hai⟩,fun _=> ⟨b,hb,hbi⟩,fun h=> by omega,by omega⟩
 ·exact ⟨fun _=> ⟨a,ha,hai⟩,fun _=> ⟨b,hb,hbi⟩,fun h=> by omega,by omega⟩
 ·exact ⟨fun h=> by omega,fun h=> by omega,fun h=> by omega,by omega⟩
 ·exact ⟨fun _=> ⟨a,ha,hai⟩,fun h=> by omega,fun h=> by omega,by omega⟩
section
variable {S : TS} (hok : S.Ok)
include hok
theorem canB_congr {h m m':Nat→Bool} {n:Nat} (hn:n<S.l.length) (hm:∀a,a<n→m a=m' a):canB S.l h m n=canB S.l h m' n:=by
 obtain ⟨p1,p2,_⟩:=parts hok hn
 unfold canB
 split
 ·rfl
 split
 ·rename_i h1
  obtain ⟨a,ha,hai⟩:=p1 (by omega)
  rw [ha,Int.toNat_natCast,hm a hai]
 split
 ·rename_i h1
  obtain ⟨a,ha,hai⟩:=p1 (by omega)
  obtain ⟨b,hb,hbi⟩:=p2 (by omega)
  rw [ha,hb,Int.toNat_natCast,Int.toNat_natCast,hm a hai,hm b hbi]
 ·rfl
theorem mdF_eq {h:Nat→Bool}:∀n,n<S.l.length→∀f,n<f→mdF S.l h f n=md S.l h n:=by
 intro n
 induction n using Nat.strongRecOn with
 | _ n ih=>
  intro hn f hf
  obtain ⟨f,rfl⟩:∃g,f=g+1:=⟨f - 1,by omega⟩
  unfold md mdF
  refine canB_congr hok hn fun a ha=> ?_
  rw [ih a ha (by omega) f (by omega),ih a ha (by omega) n ha]
theorem md_at {h:Nat→Bool} {n:Nat} (hn:n<S.l.length):md S.l h n=canB S.l h (md S.l h) n:=by
 show canB S.l h (mdF S.l h n) n= _
 exact canB_congr hok hn fun a ha=> mdF_eq hok a (by omega) n ha
theorem md_mono {h h':Nat→Bool} (hh:∀n,n<S.l.length→h n=true→h' n=true):∀n,n<S.l.length→md S.l h n=true→md S.l h' n=true:=by
 intro n
 induction n using Nat.strongRecOn with
 | _ n ih=>
  intro hn hm
  rw [md_at hok hn] at hm ⊢
  obtain ⟨p1,p2,_⟩:=parts hok hn
  unfold canB at hm ⊢
  split
  ·rfl
  rename_i h9
  rw [if_neg h9] at hm
  split
  ·rename_i h1
   rw [if_pos h1] at hm
   obtain ⟨a,ha,hai⟩:=p1 (by omega)
   rw [ha,Int.toNat_natCast,Bool.or_eq_true] at hm ⊢
   exact hm.imp (hh n hn) (ih a hai (by omega))
  rename_i h2
  rw [if_neg h2] at hm
  split
  ·rename_i h1
   rw [if_pos h1] at hm
   obtain ⟨a,ha,hai⟩:=p1 (by omega)
   obtain ⟨b,hb,hbi⟩:=p2 (by omega)
   rw [ha,hb,Int.toNat_natCast,Int.toNat_natCast,Bool.or_eq_true,Bool.and_eq_true] at hm ⊢
   exact hm.imp (hh n hn) fun ⟨x,y⟩=> ⟨ih a hai (by omega) x,ih b hbi (by omega) y⟩
  ·rename_i h3
   rw [if_neg h3] at hm
   exact hh n hn hm
theorem md_has {h:Nat→Bool} {n:Nat} (hn:n<S.l.length) (hh:h n=true):md S.l h n=true:=by
 rw [md_at hok hn]
 unfold canB
 rw [hh]
 simp
theorem md_congr {h h':Nat→Bool} (hh:∀n,n<S.l.length→h n=h' n) {n:Nat} (hn:n<S.l.length):md S.l h n=md S.l h' n:=by
 rw [Bool.eq_iff_iff]
 exact ⟨md_mono hok (fun n hn h=> by rw [←hh n hn];exact h) n hn,md_mono hok (fun n hn h=> by rw [hh n hn];exact h) n hn⟩
end
def opnB (l:List Tm) (m:Nat→Bool) (n:Nat):Bool:=
 if (tmD l n).1=4 then m (tmD l (tmD l n).2.1.toNat).2.1.toNat else if (tmD l n).1=5 then m (tmD l n).2.1.toNat else decide ((tmD l n).1=8)
def inn (l:List Tm) (n:Nat):Nat:=(tmD l n).2.2.toNat
theorem opn_kind {l:List Tm} {m:Nat→Bool} {n:Nat} (h:opnB l m n=true):(tmD l n).1=4∨(tmD l n).1=5∨(tmD l n).1=8:=by
 unfold opnB at h
 split at h
 ·exact .inl (by assumption)
 split at h
 ·exact .inr (.inl (by assumption))
 ·exact .inr (.inr (by simpa using h))
theorem opn_mono {S:TS} (hok:S.Ok) {m m':Nat→Bool} {n:Nat} (hn:n<S.l.length) (hm:∀a,a<S.l.length→m a=true→m' a=true) (h:opnB S.l m n=true):opnB S.l m' n=true:=by
 obtain ⟨p1,p2,p3,_⟩:=parts hok hn
 unfold opnB at h ⊢
 split
 ·rename_i h4
  rw [if_pos h4] at h
  obtain ⟨a,ha,hai,ha2⟩:=p3 h4
  rw [ha,Int.toNat_natCast] at h ⊢
  obtain ⟨q1,_⟩:=parts hok (show a<S.l.length by omega)
  obtain ⟨b,hb,hbi⟩:=q1 (.inl ha2)
  rw [hb,Int.toNat_natCast] at h ⊢
  exact hm b (by omega) h
 rename_i h4
 rw [if_neg h4] at h
 split
 ·rename_i h5
  rw [if_pos h5] at h
  obtain ⟨a,ha,hai⟩:=p1 (by omega)
  rw [ha,Int.toNat_natCast] at h ⊢
  exact hm a (by omega) h
 ·rename_i h5
  rw [if_neg h5] at h
  exact h
theorem inn_lt {S:TS} (hok:S.Ok) {m:Nat→Bool} {n:Nat} (hn:n<S.l.length) (h:opnB S.l m n=true):inn S.l n<n∧(tmD S.l n).2.2=(inn S.l n:Int):=by
 obtain ⟨_,p2,_⟩:=parts hok hn
 obtain ⟨b,hb,hbi⟩:=p2 (opn_kind h)
 unfold inn
 rw [hb,Int.toNat_natCast]
 exact ⟨hbi,rfl⟩
def ClosedK (l:List Tm) (h:Nat→Bool):Prop:=∀n,n<l.length→h n=true→opnB l (md l h) n=true→h (inn l n)=true
def SoundK (l:List Tm) (g h:Nat→Bool):Prop:=∀h',ClosedK l h'→(∀n,n<l.length→g n=true→h' n=true)→∀n,n<l.length→h n=true→h' n=true
structure IsCl (l:List Tm) (g h:Nat→Bool):Prop where
 cl:ClosedK l h
 up:∀n,n<l.length→g n=true→h n=true
 so:SoundK l g h
theorem IsCl.mono {l:List Tm} {g g' h h':Nat→Bool} (a:IsCl l g h) (b:IsCl l g' h') (hg:∀n,n<l.length→g n=true→h' n=true):∀n,n<l.length→h n=true→h' n=true:=a.so h' b.cl hg
theorem IsCl.same {l:List Tm} {g g' h h':Nat→Bool} (a:IsCl l g h) (b:IsCl l g' h') (h1:∀n,n<l.length→g n=true→h' n=true) (h2:∀n,n<l.length→g' n=true→h n=true):∀n,n<l.length→h n=h' n:=fun n hn=> by
 rw [Bool.eq_iff_iff]
 exact ⟨a.mono b h1 n hn,b.mono a h2 n hn⟩
theorem IsCl.more {l:List Tm} {g h g2 h2:Nat→Bool} (a:IsCl l g h) (b:IsCl l (fun n=> h n || g2 n) h2):IsCl l (fun n=> g n || g2 n) h2:=
 ⟨b.cl,fun n hn h=> by
  rw [Bool.or_eq_true] at h
  exact b.up n hn (by rw [Bool.or_eq_true];exact h.imp (a.up n hn) id),fun h' hc hg n hn hh=> b.so h' hc (fun k hk hgk=> by
   rw [Bool.or_eq_true] at hgk
   rcases hgk with hgk | hgk
   ·exact a.so h' hc (fun j hj hgj=> hg j hj (by rw [hgj,Bool.true_or])) k hk hgk
   ·exact hg k hk (by rw [hgk,Bool.or_true])) n hn hh⟩
theorem IsCl.congr {l:List Tm} {g g' h:Nat→Bool} (a:IsCl l g h) (hg:∀n,n<l.length→g n=g' n):IsCl l g' h:=
 ⟨a.cl,fun n hn h=> a.up n hn (by rw [hg n hn];exact h),fun h' hc hg'=> a.so h' hc fun n hn h=> hg' n hn (by rw [←hg n hn];exact h)⟩
def updB (h:Nat→Bool) (k:Nat):Nat→Bool:=fun n=> if n=k then true else h n
theorem updB_up {h:Nat→Bool} {k n:Nat} (hn:h n=true):updB h k n=true:=by unfold updB;split;rfl;exact hn
def rS (l:List Tm) (m h:Nat→Bool):Nat→(Nat→Bool) × Bool
 | 0=> (h,false)
 | k+1=> if (rS l m h k).1 k && opnB l m k && !(rS l m h k).1 (inn l k) then (updB (rS l m h k).1 (inn l k),true) else rS l m h k
theorem rS_up {l:List Tm} {m h:Nat→Bool} {n:Nat} (hn:h n=true):∀k,(rS l m h k).1 n=true:=by
 intro k
 induction k with
 | zero=> exact hn
 | succ k ih=>
  unfold rS
  split
  ·exact updB_up ih
  ·exact ih
theorem rS_none {l:List Tm} {m h:Nat→Bool}:∀k,(rS l m h k).2=false→(rS l m h k).1=h∧∀n,n<k→h n=true→opnB l m n=true→h (inn l n)=true:=by
 intro k
 induction k with
 | zero=> intro _;exact ⟨rfl,fun n hn=> absurd hn (Nat.not_lt_zero _)⟩
 | succ k ih=>
  intro hf
  unfold rS at hf ⊢
  split at hf
  ·cases hf
  ·rename_i hc
   rw [if_neg hc]
   obtain ⟨h1,h2⟩:=ih hf
   refine ⟨h1,fun n hn hh ho=> ?_⟩
   by_cases hk:n=k
   ·subst hk
    rw [h1,hh,ho,Bool.true_and,Bool.true_and] at hc
    simpa using hc
   ·exact h2 n (by omega) hh ho
theorem rS_sound {S:TS} (hok:S.Ok) {g h:Nat→Bool} (hs:SoundK S.l g h):∀k,k≤S.l.length→SoundK S.l g (rS S.l (md S.l h) h k).1:=by
 intro k
 induction k with
 | zero=> intro _;exact hs
 | succ k ih=>
  intro hk h' hc hg n hn hh
  unfold rS at hh
  split at hh
  ·rename_i hcond
   simp only [Bool.and_eq_true] at hcond
   unfold updB at hh
   simp only at hh
   split at hh
   ·rename_i e
    subst e
    refine hc k hk (ih (by omega) h' hc hg k hk hcond.1.1) (opn_mono hok hk (fun a ha hm=> md_mono hok (fun j hj hhj=> hs h' hc hg j hj hhj) a ha hm) hcond.1.2)
   ·exact ih (by omega) h' hc hg n hn hh
  ·exact ih (by omega) h' hc hg n hn hh
def lft (l:List Tm) (h:Nat→Bool):Nat:=((List.range l.length).filter fun n=> !h n).length
theorem lft_le {l:List Tm} {h h':Nat→Bool} (hh:∀n,h n=true→h' n=true):lft l h'≤lft l h:=by
 unfold lft
 generalize List.range l.length=r
 induction r with
 | nil=> exact Nat.le_refl _
 | cons a r ih=>
  rw [List.filter_cons,List.filter_cons]
  cases h1:h a with
  | true=> rw [hh a h1];simpa using ih
  | false=>
   cases h2:h' a with
   | true=> simp;omega
   | false=> simpa using ih
theorem lft_lt {l:List Tm} {h h':Nat→Bool} (hh:∀n,h n=true→h' n=true) {k:Nat} (hk:k<l.length) (h1:h k=false) (h2:h' k=true):lft l h'<lft l h:=by
 unfold lft
 have hm:k ∈ List.range l.length:=List.mem_range.2 hk
 revert hm
 generalize List.range l.length=r
 intro hm
 have le:∀r:List Nat,(r.filter fun n=> !h' n).length≤(r.filter fun n=> !h n).length:=fun r=> by
  induction r with
  | nil=> exact Nat.le_refl _
  | cons a r ih=>
   rw [List.filter_cons,List.filter_cons]
   cases q1:h a with
   | true=> rw [hh a q1];simpa using ih
   | false=>
    cases q2:h' a with
    | true=> simp;omega
    | false=> simpa using ih
 induction r with
 | nil=> cases hm
 | cons a r ih=>
  rw [List.filter_cons,List.filter_cons]
  rcases List.mem_cons.1 hm with rfl | hm
  ·have:=le r
   rw [h1,h2]
   simp
   omega
  ·have:=ih hm
   cases q1:h a with
   | true=> rw [hh a q1];simpa using this
   | false=>
    cases q2:h' a with
    | true=> simp;omega
    | false=> simpa using this
theorem rS_found {S:TS} (hok:S.Ok) {m h:Nat→Bool}:∀k,k≤S.l.length→(rS S.l m h k).2=true→lft S.l (rS S.l m h k).1<lft S.l h:=by
 intro k
 induction k with
 | zero=> intro _ h;cases h
 | succ k ih=>
  intro hk hf
  unfold rS at hf ⊢
  split
  ·rename_i hc
   simp only [Bool.and_eq_true,Bool.not_eq_true'] at hc
   have h2:lft S.l (updB (rS S.l m h k).1 (inn S.l k))<lft S.l (rS S.l m h k).1:=lft_lt (fun n hn=> updB_up hn) (by have:=(inn_lt hok hk hc.1.2).1;omega) hc.2 (by unfold updB;rw [if_pos rfl])
   exact Nat.lt_of_lt_of_le h2 (lft_le fun n hn=> rS_up hn k)
  ·rename_i hc
   rw [if_neg hc] at hf
   exact ih (by omega) hf
theorem rS_cl {S:TS} (hok:S.Ok) {g h:Nat→Bool} (hg:∀n,n<S.l.length→g n=true→h n=true) (hs:SoundK S.l g h) (hf:(rS S.l (md S.l h) h S.l.length).2=false):IsCl S.l g h:=
 ⟨(rS_none _ hf).2,hg,hs⟩
def givenB (G:List Int) (n:Nat):Bool:=G.contains (n:Int)
theorem SoundK.refl (l:List Tm) (g:Nat→Bool):SoundK l g g:=fun _ _ hg=> hg
end Go.Bas
