/- Parts of the proof of ValueBack: Ig, Iu, Iv, Pua, Iw, Me. No condition of its own. -/
import Derived.Test.YtcpkdjikembpnaaWaaj
import Derived.Test.YtcpkdjikembpnaaWaas
import Derived.Test.YtcpkdjikembpnaaWaav
import Derived.Test.YtcpkdjikembpnaaWaax
import Derived.Test.YtcpkdjikembpnaaWaay
set_option linter.unusedVariables false
set_option linter.unusedSimpArgs false
set_option maxRecDepth 1000000
set_option maxHeartbeats 4000000
namespace Go.Proofs.Ytcpkdjikembpnaa.Ce
section
open Go.RowKit
theorem fitP_inv {T:List Tp} {N t dp:Nat} {kd i:Int} {s:List UInt8} {l:List V} {c:Bool} {x:Tp} (hx:T[t]?=some x) (hf:fitP T (N+1) t (.mk kd i s l c) dp=true) :
  kd=x.kd∧c=false∧(kd=1→(i=0∨i=1)∧s=[]∧l=[])∧(kd=2→s=[]∧l=[])∧(kd=3→i=0∧l=[]∧s.length≤64) ∧
  ((kd=4∨kd=7)→i=0∧s=[]∧l.length≤16∧(kd=4→l.length≤1)∧∀ e∈l,0<dp∧fitP T N x.el.toNat e (dp - 1)=true) ∧
  ((kd≠1∧kd≠2∧kd≠3∧kd≠4∧kd≠7)→i=0∧s=[]∧l.length=(prtT x).length∧∀ (j:Nat) (hj:j<(prtT x).length) (hj2:j<l.length),fitP T N ((prtT x)[j]).toNat l[j] dp=true):=by
 rw [fitP,hx] at hf
 dsimp only at hf
 by_cases e0:kd≠x.kd∨c=true
 ·rw [if_pos e0] at hf;cases hf
 rw [if_neg e0] at hf
 have e1:kd=x.kd:=Classical.byContradiction fun h=>e0 (.inl h)
 have e2:c=false:=by cases c with|false=>rfl|true=>exact absurd (.inr rfl) e0
 refine ⟨e1,e2,?_⟩
 clear e0
 by_cases k1:kd=1
 ·subst k1
  rw [if_pos rfl] at hf
  simp only [Bool.and_eq_true,decide_eq_true_eq] at hf
  exact ⟨fun _=>⟨hf.2.2,hf.1,List.length_eq_zero_iff.1 hf.2.1⟩,(fun h=>by omega),(fun h=>by omega),(fun h=>by omega),fun h=>absurd rfl h.1⟩
 rw [if_neg k1] at hf
 by_cases k2:kd=2
 ·subst k2
  rw [if_pos rfl] at hf
  simp only [Bool.and_eq_true,decide_eq_true_eq] at hf
  exact ⟨(fun h=>by omega),(fun _=>⟨hf.1,List.length_eq_zero_iff.1 hf.2⟩),(fun h=>by omega),(fun h=>by omega),fun h=>absurd rfl h.2.1⟩
 rw [if_neg k2] at hf
 by_cases k3:kd=3
 ·subst k3
  rw [if_pos rfl] at hf
  simp only [Bool.and_eq_true,decide_eq_true_eq] at hf
  exact ⟨(fun h=>by omega),(fun h=>by omega),(fun _=>⟨hf.1,List.length_eq_zero_iff.1 hf.2.1,hf.2.2⟩),(fun h=>by omega),fun h=>absurd rfl h.2.2.1⟩
 rw [if_neg k3] at hf
 by_cases k4:kd=4
 ·subst k4
  rw [if_pos rfl] at hf
  simp only [Bool.and_eq_true,decide_eq_true_eq,List.all_eq_true] at hf
  exact ⟨(fun h=>by omega),(fun h=>by omega),(fun h=>by omega),(fun _=>⟨hf.1,hf.2.1,by omega,fun _=>hf.2.2.1,fun e he=>hf.2.2.2 e he⟩),fun h=>absurd rfl h.2.2.2.1⟩
 rw [if_neg k4] at hf
 by_cases k7:kd=7
 ·subst k7
  rw [if_pos rfl] at hf
  simp only [Bool.and_eq_true,decide_eq_true_eq,List.all_eq_true] at hf
  exact ⟨(fun h=>by omega),(fun h=>by omega),(fun h=>by omega),(fun _=>⟨hf.1,hf.2.1,hf.2.2.1,(fun h=>by omega),fun e he=>hf.2.2.2 e he⟩),fun h=>absurd rfl h.2.2.2.2⟩
 rw [if_neg k7] at hf
 simp only [Bool.and_eq_true,decide_eq_true_eq,List.all_eq_true] at hf
 refine ⟨(fun h=>by omega),(fun h=>by omega),(fun h=>by omega),(fun h=>by omega),fun _=>⟨hf.1,hf.2.1,hf.2.2.1,fun j hj hj2=>?_⟩⟩
 exact hf.2.2.2 ((prtT x)[j],l[j]) (List.mem_iff_getElem.2 ⟨j,by rw [List.length_zip];omega,by rw [List.getElem_zip]⟩)
theorem catP_inv (g:List UInt8→Nat→V→Except Int (List UInt8 × List UInt8)) (I:List UInt8→Prop) (Q:Int × V→List UInt8→Prop):∀ (l:List (Int × V)) (hs:List UInt8) (a:List UInt8 × List (List UInt8)),I hs →
  (∀ p∈l,∀ hs r,I hs→g hs p.1.toNat p.2 = .ok r→I r.1∧Q p r.2)→catP g hs l = .ok a→I a.1∧a.2.length=l.length∧∀ (j:Nat) (hj:j<l.length) (hj2:j<a.2.length),Q l[j] a.2[j]
 | [],hs,a,hI,_,h=>by
  unfold catP at h
  injection h with h
  subst h
  exact ⟨hI,rfl,fun j hj=>absurd hj (Nat.not_lt_zero _)⟩
 | q :: l,hs,a,hI,hst,h=>by
  unfold catP at h
  cases hg:g hs q.1.toNat q.2 with
  | error e=>rw [hg] at h;cases h
  | ok v=>
   rw [hg] at h
   dsimp only at h
   have h1:=hst q (List.mem_cons_self ..) hs v hI hg
   cases hl:catP g v.1 l with
   | error e=>rw [hl] at h;cases h
   | ok l2=>
    rw [hl] at h
    injection h with h
    subst h
    obtain ⟨h2,h3,h4⟩:=catP_inv g I Q l v.1 l2 h1.1 (fun p hp=>hst p (List.mem_cons_of_mem _ hp)) hl
    refine ⟨h2,by simp only [List.length_cons,h3],fun j hj hj2=>?_⟩
    cases j with
    | zero=>exact h1.2
    | succ j=>exact h4 j (by simpa using hj) (by simpa using hj2)
theorem placeP_len {m:Nat}:∀ (l:List (Int × List UInt8)) (b:List UInt8),b.length=m→(∀ p∈l,p.1.toNat+p.2.length≤m)→(placeP b l).length=m
 | [],b,hb,_=>hb
 | p :: l,b,hb,h=>by
  have h1:=h p (List.mem_cons_self ..)
  exact placeP_len l _ (by rw [put_length zm];exact hb) fun q hq=>h q (List.mem_cons_of_mem _ hq)
theorem alloc0 {hs:Nat} {n lim:Int} (he:allocE 65536 hs n lim=0):0≤n∧n≤4096∧hs % 8=0∧hs≤16384∧lim≤16384∧hs+sizeI n≤lim:=by
 unfold allocE at he
 by_cases h:chkB 65536 hs lim=0
 ·rw [if_pos h] at he
  have:=chkB_ok h
  by_cases h2:n<0∨4096<n
  ·rw [if_pos h2] at he;omega
  ·rw [if_neg h2] at he
   by_cases h3:lim<hs+sizeI n
   ·rw [if_pos h3] at he;omega
   ·omega
 ·rw [if_neg h] at he;exact absurd he h
theorem put_cap {hs ys:List UInt8} {lim:Int} (he:allocE 65536 hs.length ys.length lim=0):(putL hs ys).length≤16384:=by
 have h1:=alloc0 he
 have h2:=sizeI_ge (ys.length:Int)
 rw [putL_length]
 omega
theorem litP_ptr (kd a m:Int) (h:kd=4∨kd=7):(litP (ptrP kd a m)).length=if kd=4 then 8 else 24:=by
 rw [litP_length]
 unfold ptrP
 rcases h with rfl|rfl <;> rfl
theorem tgtP_ok {g:List UInt8→Nat→V→Except Int (List UInt8 × List UInt8)} {lim:Int} {x:Tp} {hs:List UInt8} {l:List V} {r:List UInt8 × List UInt8} (h47:x.kd=4∨x.kd=7) (hhs:hs.length≤20000) (h:tgtP g lim x hs l = .ok r):r.2.length=(if x.kd=4 then 8 else 24)∧r.1.length≤20000:=by
 unfold tgtP at h
 by_cases hl:l=[]
 ·rw [if_pos hl] at h
  injection h with h
  subst h
  exact ⟨litP_ptr _ _ _ h47,hhs⟩
 ·rw [if_neg hl] at h
  cases hc:catP g hs (l.map fun v=>(x.el,v)) with
  | error e=>rw [hc] at h;cases h
  | ok a=>
   rw [hc] at h
   dsimp only at h
   by_cases ha:allocE 65536 a.1.length a.2.flatten.length lim=0
   ·rw [if_pos ha] at h
    injection h with h
    subst h
    have:=put_cap ha
    exact ⟨litP_ptr _ _ _ h47,Nat.le_trans this zm⟩
   ·rw [if_neg ha] at h;cases h
theorem storeP_at {T:List Tp} {lim:Int} {N:Nat} {hs:List UInt8} {t:Nat} {kd i:Int} {s:List UInt8} {l:List V} {c:Bool} {x:Tp} (hx:T[t]?=some x):storeP T lim (N+1) hs t (.mk kd i s l c) =
   if x.kd=1 then .ok (hs,[UInt8.ofNat i.toNat])
   else if x.kd=2 then .ok (hs,litP [IntKind.wrap .u64 i])
   else if x.kd=3 then (if s=[] then .ok (hs,litP [0,0]) else if allocE 65536 hs.length s.length lim=0 then .ok (putL hs s,litP [65536+hs.length,s.length]) else .error (allocE 65536 hs.length s.length lim))
   else if x.kd=4∨x.kd=7 then tgtP (storeP T lim N) lim x hs l
   else match catP (storeP T lim N) hs ((prtT x).zip l) with
    | .error e=>.error e
    | .ok a=>.ok (a.1,placeP (List.replicate (sizT T t).toNat 0) ((offsT T x).zip a.2)):=by
 rw [storeP,hx]
 rfl
theorem storeP_ok {T:List Tp} {lim:Int}:∀ (N t:Nat) (v:V) (dp:Nat) (hs:List UInt8),OkV T t→fitP T N t v dp=true→hs.length≤20000→∀ r,storeP T lim N hs t v = .ok r→r.2.length=(sizT T t).toNat∧r.1.length≤20000:=by
 intro N
 induction N with
 | zero=>intro t v dp hs _ hf;rw [fitP] at hf;cases hf
 | succ N ih=>
 intro t v dp hs ho hf hhs r hr
 obtain ⟨kd,i,s,l,c⟩:=v
 have hx:=List.getElem?_eq_getElem ho.lt
 rw [storeP_at hx] at hr
 obtain ⟨e1,e2,f1,f2,f3,f47,f56⟩:=fitP_inv hx hf
 by_cases k1:(T[t]'ho.lt).kd=1
 ·rw [if_pos k1] at hr
  injection hr with hr
  subst hr
  exact ⟨by rw [ho.siz1 k1];rfl,hhs⟩
 rw [if_neg k1] at hr
 by_cases k2:(T[t]'ho.lt).kd=2
 ·rw [if_pos k2] at hr
  injection hr with hr
  subst hr
  exact ⟨by rw [ho.siz24 (.inl k2),litP_length];rfl,hhs⟩
 rw [if_neg k2] at hr
 by_cases k3:(T[t]'ho.lt).kd=3
 ·rw [if_pos k3] at hr
  have hz:=ho.siz3 k3
  by_cases hs0:s=[]
  ·rw [if_pos hs0] at hr
   injection hr with hr
   subst hr
   exact ⟨by rw [hz,litP_length];rfl,hhs⟩
  ·rw [if_neg hs0] at hr
   by_cases ha:allocE 65536 hs.length s.length lim=0
   ·rw [if_pos ha] at hr
    injection hr with hr
    subst hr
    have:=put_cap ha
    exact ⟨by rw [hz,litP_length];rfl,Nat.le_trans this zm⟩
   ·rw [if_neg ha] at hr;cases hr
 rw [if_neg k3] at hr
 by_cases k47:(T[t]'ho.lt).kd=4∨(T[t]'ho.lt).kd=7
 ·rw [if_pos k47] at hr
  have h1:=tgtP_ok k47 hhs hr
  refine ⟨?_,h1.2⟩
  rw [h1.1]
  rcases k47 with k4|k7
  ·rw [if_pos k4,ho.siz24 (.inr k4)];rfl
  ·rw [if_neg zm,ho.siz7 k7];rfl
 rw [if_neg k47] at hr
 have h5:=f56 ⟨by omega,by omega,by omega,by omega,by omega⟩
 have hpl:=prt_len ho
 cases hc:catP (storeP T lim N) hs ((prtT (T[t]'ho.lt)).zip l) with
 | error e=>rw [hc] at hr;cases hr
 | ok a=>
  rw [hc] at hr
  injection hr with hr
  subst hr
  have hin:=catP_inv (storeP T lim N) (fun hs=>hs.length≤20000) (fun p ys=>ys.length=(sizT T p.1.toNat).toNat) _ hs a hhs (fun p hp hs2 r hI hg=>by
   obtain ⟨j,hj,rfl⟩:=List.getElem_of_mem hp
   rw [List.length_zip] at hj
   rw [List.getElem_zip] at hg ⊢
   obtain ⟨y,hy, -,hoy, -⟩:=prt_in ho (q:=j) zm zm
   dsimp only at hg ⊢
   rw [hy,Int.toNat_natCast] at hg ⊢
   have hfj:=h5.2.2.2 j zm zm
   rw [hy,Int.toNat_natCast] at hfj
   exact (ih y l[j] dp hs2 hoy hfj hI r hg).symm) hc
  refine ⟨?_,hin.1⟩
  refine placeP_len _ _ (by simp) fun p hp=>?_
  obtain ⟨j,hj,rfl⟩:=List.getElem_of_mem hp
  rw [List.length_zip] at hj
  rw [List.getElem_zip]
  have hl2:=hin.2.1
  rw [List.length_zip] at hl2
  obtain ⟨y,hy, -,hoy,h0,h1⟩:=prt_in ho (q:=j) zm zm
  have h3:=hin.2.2 j (by rw [List.length_zip];omega) zm
  rw [List.getElem_zip] at h3
  dsimp only at h3 ⊢
  rw [hy,Int.toNat_natCast] at h3
  have:=hoy.bnd
  omega
end
section
open Go.RowKit
theorem putL_eq (hs ys:List UInt8):∃ m:Nat,putL hs ys=hs ++ ys ++ List.replicate m 0:=by
 have h1:=sizeI_ge (ys.length:Int)
 refine ⟨(sizeI (ys.length:Int)).toNat - ys.length,?_⟩
 unfold putL grown
 rw [show (sizeI (ys.length:Int)).toNat=ys.length+((sizeI (ys.length:Int)).toNat - ys.length) from by omega]
 rw [put_mid,show ys.length+((sizeI (ys.length:Int)).toNat - ys.length) - ys.length=(sizeI (ys.length:Int)).toNat - ys.length from by omega]
theorem put_chk {hs ys:List UInt8} {lim:Int} (he:allocE 65536 hs.length ys.length lim=0):chkB 65536 (putL hs ys).length lim=0:=by
 have h1:=alloc0 he
 have h2:=sizeI_ge (ys.length:Int)
 have h3:chkB 65536 hs.length lim=0:=by
  unfold allocE at he
  by_cases h:chkB 65536 hs.length lim=0
  ·exact h
  ·rw [if_neg h] at he;exact absurd he h
 have h4:=chkB_ok h3
 have h5:(sizeI (ys.length:Int)) % 8=0:=by unfold sizeI;omega
 rw [putL_length]
 unfold chkB
 rw [if_pos ⟨rfl,by omega,by omega⟩,if_pos ⟨by omega,by omega⟩]
theorem alloc_18 {m:Nat} {n lim:Int} (h:chkB 65536 m lim=0) (hn:0≤n∧n≤4096) (he:allocE 65536 m n lim≠0):allocE 65536 m n lim=18:=by
 unfold allocE at he ⊢
 rw [if_pos h,if_neg zm] at he ⊢
 by_cases h2:lim<m+sizeI n
 ·rw [if_pos h2]
 ·rw [if_neg h2] at he;exact absurd rfl he
def Grow (lim:Int) (hs:List UInt8):Except Int (List UInt8 × List UInt8)→Prop
 | .error e=>e=18
 | .ok r=>(∃ x,r.1=hs ++ x)∧chkB 65536 r.1.length lim=0
theorem catP_grow {lim:Int} (g:List UInt8→Nat→V→Except Int (List UInt8 × List UInt8)):∀ (l:List (Int × V)) (hs:List UInt8),chkB 65536 hs.length lim=0→(∀ p∈l,∀ hs,chkB 65536 hs.length lim=0→Grow lim hs (g hs p.1.toNat p.2)) →
  (∀ e,catP g hs l = .error e→e=18)∧∀ a,catP g hs l = .ok a→(∃ x,a.1=hs ++ x)∧chkB 65536 a.1.length lim=0
 | [],hs,hc,_=>⟨(fun e h=>by unfold catP at h;cases h),(fun a h=>by unfold catP at h;injection h with h;subst h;exact ⟨⟨[],by simp⟩,hc⟩)⟩
 | p :: l,hs,hc,hg=>by
  have h1:=hg p (List.mem_cons_self ..) hs hc
  unfold catP
  cases he:g hs p.1.toNat p.2 with
  | error e=>
   rw [he] at h1
   exact ⟨(fun e2 h=>by injection h with h;rw [← h];exact h1),(fun a h=>by cases h)⟩
  | ok r=>
   rw [he] at h1
   obtain ⟨⟨x,hx⟩,hc2⟩:=h1
   obtain ⟨i1,i2⟩:=catP_grow g l r.1 hc2 fun q hq=>hg q (List.mem_cons_of_mem _ hq)
   dsimp only
   cases hl:catP g r.1 l with
   | error e=>exact ⟨(fun e2 h=>by injection h with h;rw [← h];exact i1 e hl),(fun a h=>by cases h)⟩
   | ok a=>
    obtain ⟨⟨y,hy⟩,hc3⟩:=i2 a hl
    refine ⟨(fun e2 h=>by cases h),fun b h=>?_⟩
    injection h with h
    subst h
    exact ⟨⟨x ++ y,by rw [hy,hx,List.append_assoc]⟩,hc3⟩
theorem storeP_grow {T:List Tp} {lim:Int}:∀ (N t:Nat) (v:V) (dp:Nat) (hs:List UInt8),OkV T t→fitP T N t v dp=true→chkB 65536 hs.length lim=0→Grow lim hs (storeP T lim N hs t v):=by
 intro N
 induction N with
 | zero=>intro t v dp hs _ hf;rw [fitP] at hf;cases hf
 | succ N ih=>
 intro t v dp hs ho hf hc
 obtain ⟨kd,i,s,l,c⟩:=v
 have hx:=List.getElem?_eq_getElem ho.lt
 rw [storeP_at hx]
 obtain ⟨e1,e2,f1,f2,f3,f47,f56⟩:=fitP_inv hx hf
 have same:(∃ x,hs=hs ++ x)∧chkB 65536 hs.length lim=0:=⟨⟨[],by simp⟩,hc⟩
 by_cases k1:(T[t]'ho.lt).kd=1
 ·rw [if_pos k1];exact same
 rw [if_neg k1]
 by_cases k2:(T[t]'ho.lt).kd=2
 ·rw [if_pos k2];exact same
 rw [if_neg k2]
 by_cases k3:(T[t]'ho.lt).kd=3
 ·rw [if_pos k3]
  by_cases hs0:s=[]
  ·rw [if_pos hs0];exact same
  ·rw [if_neg hs0]
   by_cases ha:allocE 65536 hs.length s.length lim=0
   ·rw [if_pos ha]
    obtain ⟨m,hm⟩:=putL_eq hs s
    exact ⟨⟨s ++ List.replicate m 0,by rw [← List.append_assoc];exact hm⟩,put_chk ha⟩
   ·rw [if_neg ha]
    have:=(f3 zm).2.2
    exact alloc_18 hc ⟨by omega,by omega⟩ ha
 rw [if_neg k3]
 by_cases k47:(T[t]'ho.lt).kd=4∨(T[t]'ho.lt).kd=7
 ·rw [if_pos k47]
  obtain ⟨-, -,hll, -,hfe⟩:=f47 zm
  obtain ⟨y,hy,hoy⟩:=ho.ptr k47
  unfold tgtP
  by_cases hl:l=[]
  ·rw [if_pos hl];exact same
  ·rw [if_neg hl]
   have hcg:=catP_grow (lim:=lim) (storeP T lim N) (l.map fun v=>((T[t]'ho.lt).el,v)) hs hc (fun p hp hs2 hc2=>by
    obtain ⟨w,hw,rfl⟩:=List.mem_map.1 hp
    dsimp only
    have:=hfe w hw
    rw [hy,Int.toNat_natCast] at this ⊢
    exact ih y w (dp - 1) hs2 hoy this.2 hc2)
   cases hcc:catP (storeP T lim N) hs (l.map fun v=>((T[t]'ho.lt).el,v)) with
   | error e=>exact hcg.1 e hcc
   | ok a=>
    obtain ⟨⟨x,hx2⟩,hc3⟩:=hcg.2 a hcc
    dsimp only
    by_cases ha:allocE 65536 a.1.length a.2.flatten.length lim=0
    ·rw [if_pos ha]
     obtain ⟨m,hm⟩:=putL_eq a.1 a.2.flatten
     exact ⟨⟨x ++ (a.2.flatten ++ List.replicate m 0),by rw [hm,hx2];simp only [List.append_assoc]⟩,put_chk ha⟩
    ·rw [if_neg ha]
     have hin:=catP_inv (storeP T lim N) (fun hs=>hs.length≤20000) (fun p ys=>ys.length≤256) _ hs a (by have:=chkB_ok hc;omega) (fun p hp hs2 r hI hg=>by
      obtain ⟨w,hw,rfl⟩:=List.mem_map.1 hp
      dsimp only at hg
      have h3:=hfe w hw
      rw [hy,Int.toNat_natCast] at h3 hg
      have h4:=storeP_ok N y w (dp - 1) hs2 hoy h3.2 hI r hg
      have h5:=hoy.bnd
      exact ⟨h4.2,by omega⟩) hcc
     have hfl:a.2.flatten.length≤a.2.length*256:=by
      have h6:∀ ys∈a.2,ys.length≤256:=fun ys hys=>by
       obtain ⟨j,hj,rfl⟩:=List.getElem_of_mem hys
       exact hin.2.2 j zm hj
      clear hin ha hx2 hc3 hcc
      generalize a.2=L at h6
      induction L with
      | nil=>simp
      | cons y L ihL=>
       have:=ihL fun ys hys=>h6 ys (List.mem_cons_of_mem _ hys)
       have h7:=h6 y (List.mem_cons_self ..)
       rw [List.flatten_cons,List.length_append,List.length_cons,Nat.add_mul]
       omega
     have h8:=hin.2.1
     rw [List.length_map] at h8
     refine alloc_18 hc3 ⟨by omega,?_⟩ ha
     have:a.2.length*256≤16*256:=Nat.mul_le_mul_right 256 zm
     omega
 rw [if_neg k47]
 have h5:=f56 ⟨by omega,by omega,by omega,by omega,by omega⟩
 have hcg:=catP_grow (lim:=lim) (storeP T lim N) ((prtT (T[t]'ho.lt)).zip l) hs hc (fun p hp hs2 hc2=>by
  obtain ⟨j,hj,rfl⟩:=List.getElem_of_mem hp
  rw [List.length_zip] at hj
  rw [List.getElem_zip]
  have hpl:=prt_len ho
  obtain ⟨y,hy, -,hoy, -⟩:=prt_in ho (q:=j) zm zm
  dsimp only
  have hfj:=h5.2.2.2 j zm zm
  rw [hy,Int.toNat_natCast] at hfj ⊢
  exact ih y l[j] dp hs2 hoy hfj hc2)
 cases hcc:catP (storeP T lim N) hs ((prtT (T[t]'ho.lt)).zip l) with
 | error e=>exact hcg.1 e hcc
 | ok a=>exact hcg.2 a hcc
end
section
open Go.RowKit
theorem prt_asc {T:List Tp} {i:Nat} (ho:OkV T i) {q m:Nat} (hqm:q<m) (hm:m<(prtT (T[i]'ho.lt)).length) (hm2:m<(offsT T (T[i]'ho.lt)).length) :
  (offsT T (T[i]'ho.lt))[q]+sizT T ((prtT (T[i]'ho.lt))[q]).toNat≤(offsT T (T[i]'ho.lt))[m]:=by
 have hfi:=ho.chk.2.1 i ho.lt
 have hfl:=ho.fld
 have hel:=ho.elm
 have hs5:=ho.siz5
 have hb:=ho.bnd
 obtain ⟨t,ht⟩:∃ t,T[i]'ho.lt=t:=⟨_,rfl⟩
 simp only [ht] at hfi hfl hel hs5 hm hm2 ⊢
 by_cases h5:t.kd=5
 ·have hl:=fine_ln hfi zm
  have hfl:=hfl h5
  have hmf:m<t.fs.length:=by rw [offsT_len h5] at hm2;exact hm2
  have hqf:q<t.fs.length:=by omega
  have hf:FOk 1048576 (eRow 1048576 T) t.fs:=fun f hf=>by
   obtain ⟨y,e, -,hy⟩:=hfl f hf
   rw [e]
   exact sizT_ok hy.chk hy.lt
  have e1:(prtT t)[q]'zm=(t.fs[q]).2:=by
   have e3:prtT t=t.fs.map (·.2):=by unfold prtT;rw [hl];simp
   rw [List.getElem_of_eq e3 zm,List.getElem_map]
  have eo:∀ (j:Nat) (hj:j<t.fs.length) (hj2:j<(offsT T t).length),(offsT T t)[j]=upI (layR 1048576 (eRow 1048576 T) (t.fs.take j)).2.1 ((eRow 1048576 T).at_ (t.fs[j]).2).2:=fun j hj hj2=>by
   have e3:offsT T t=(layR 1048576 (eRow 1048576 T) t.fs).1:=by unfold offsT;rw [if_pos h5]
   rw [← layR_off _ _ hj,List.getD_eq_getElem?_getD,← e3,List.getElem?_eq_getElem hj2]
   rfl
  obtain ⟨y,ey, -,hy⟩:=hfl t.fs[q] (List.getElem_mem hqf)
  have hall:(layR 1048576 (eRow 1048576 T) (t.fs.take t.fs.length)).2.1≤256:=by rw [List.take_length];have:=hs5 h5;omega
  have hmt:(layR 1048576 (eRow 1048576 T) (t.fs.take m)).2.1≤256:=by
   have:=layR_mono zm hf (p:=m) (t.fs.length - m) zm (by rw [show m+(t.fs.length - m)=t.fs.length from by omega];exact hall)
   rw [show m+(t.fs.length - m)=t.fs.length from by omega] at this
   omega
  have h1:=layR_mono zm hf (p:=q+1) (m - (q+1)) zm (by rw [show q+1+(m - (q+1))=m from by omega];exact hmt)
  rw [show q+1+(m - (q+1))=m from by omega] at h1
  have hst:(layR 1048576 (eRow 1048576 T) (t.fs.take (q+1))).2.1=min 1048576 (upI (layR 1048576 (eRow 1048576 T) (t.fs.take q)).2.1 ((eRow 1048576 T).at_ (t.fs[q]).2).2+((eRow 1048576 T).at_ (t.fs[q]).2).1):=by
   rw [layR_take _ _ hqf]
   rfl
  have hok:=layR_ok zm hf m zm
  have hup:=(upI_bnd (hf t.fs[m] (List.getElem_mem hmf)).2.2 hok.1).1
  rw [eo q hqf zm,eo m hmf hm2,e1,ey,Int.toNat_natCast]
  unfold sizT
  rw [← ey]
  omega
 ·have hn:=fine_nofs hfi h5
  by_cases h6:t.kd=6
  ·obtain ⟨y,e, -,hy⟩:=hel h6
   have hyb:=hy.bnd
   have e0:t.el.toNat=y:=by rw [e];rfl
   have e1:(prtT t)[q]'zm=t.el:=by
    unfold prtT
    simp only [hn,List.map_nil,List.nil_append,List.getElem_replicate]
   have eo:∀ (j:Nat) (hj2:j<(offsT T t).length),(offsT T t)[j]=(j:Int)*sizT T y:=fun j hj2=>by
    unfold offsT
    simp only [if_neg h5,List.getElem_map,List.getElem_range,e0]
   rw [eo q zm,eo m hm2,e1,e0]
   have h1:((q:Int)+1)*sizT T y≤(m:Int)*sizT T y:=Int.mul_le_mul_of_nonneg_right zm hyb.1
   rw [Int.add_mul,Int.one_mul] at h1
   exact h1
  ·have hl:=fine_ln hfi h6
   exfalso
   have:(prtT t).length=0:=by unfold prtT;rw [hn,hl];rfl
   omega
theorem placeP_take {e:Nat}:∀ (l:List (Int × List UInt8)) (b:List UInt8),(∀ p∈l,e≤p.1.toNat∧p.1.toNat≤b.length∧p.1.toNat+p.2.length≤b.length)→(placeP b l).take e=b.take e
 | [],b,_=>rfl
 | p :: l,b,h=>by
  have h1:=h p (List.mem_cons_self ..)
  have h2:=placeP_take l (Go.Proofs.Ytcpkdjikembpnaa.put b p.1.toNat p.2) fun q hq=>by
   have:=h q (List.mem_cons_of_mem _ hq)
   rw [put_length zm]
   exact this
  show (placeP (Go.Proofs.Ytcpkdjikembpnaa.put b p.1.toNat p.2) l).take e=_
  rw [h2]
  unfold Go.Proofs.Ytcpkdjikembpnaa.put
  rw [List.take_append_of_le_length (by rw [List.length_take];omega),List.take_take,Nat.min_eq_left h1.1]
theorem placeP_get {b:List UInt8} {l1 l2:List (Int × List UInt8)} {o:Int} {ys:List UInt8} {m:Nat} (hb:b.length=m) (h1:∀ p∈l1,p.1.toNat+p.2.length≤m) (ho:o.toNat+ys.length≤m) (h2:∀ p∈l2,o.toNat+ys.length≤p.1.toNat∧p.1.toNat+p.2.length≤m) :
  ((placeP b (l1 ++ (o,ys) :: l2)).drop o.toNat).take ys.length=ys:=by
 have e:placeP b (l1 ++ (o,ys) :: l2)=placeP (Go.Proofs.Ytcpkdjikembpnaa.put (placeP b l1) o.toNat ys) l2:=by
  unfold placeP
  rw [List.foldl_append,List.foldl_cons]
 have hl:=placeP_len l1 b hb h1
 have ht:=placeP_take (e:=o.toNat+ys.length) l2 (Go.Proofs.Ytcpkdjikembpnaa.put (placeP b l1) o.toNat ys) fun p hp=>by
  have:=h2 p hp
  rw [put_length zm,hl]
  omega
 have e2:∀ X:List UInt8,(X.drop o.toNat).take ys.length=(X.take (o.toNat+ys.length)).drop o.toNat:=fun X=>by rw [List.drop_take,Nat.add_sub_cancel_left]
 rw [e,e2,ht,← e2]
 unfold Go.Proofs.Ytcpkdjikembpnaa.put
 rw [List.drop_append,List.drop_eq_nil_of_le (by rw [List.length_take];omega),List.nil_append,List.length_take,Nat.min_eq_left zm,Nat.sub_self,List.drop_zero,List.take_left' rfl]
theorem word_take {bs:List UInt8} {z p:Nat} (h:p+8≤z):wordV (bs.take z) p 8=wordV bs p 8:=by
 unfold wordV
 rw [List.drop_take,List.take_take,Nat.min_eq_left zm]
theorem listP_congr (g:List UInt8→Nat→Except Int V) (bs cs:List UInt8):∀ (l:List (Int × Int)),(∀ p∈l,g (bs.drop p.2.toNat) p.1.toNat=g (cs.drop p.2.toNat) p.1.toNat)→listP g bs l=listP g cs l
 | [],_=>rfl
 | p :: l,h=>by
  unfold listP
  rw [h p (List.mem_cons_self ..),listP_congr g bs cs l fun q hq=>h q (List.mem_cons_of_mem _ hq)]
theorem loadP_take {T:List Tp} {L:List Rg}:∀ (f dp t:Nat) (bs:List UInt8),OkV T t→(sizT T t).toNat≤bs.length→loadP T L f dp (bs.take (sizT T t).toNat) t=loadP T L f dp bs t
 | 0,_,_,_,_,_=>rfl
 | f+1,dp,t,bs,ho,hz=>by
  have htl:=ho.lt
  have hx:=List.getElem?_eq_getElem htl
  have hpl:=prt_len ho
  have hpi:=fun q (a:q<(prtT T[t]).length) (b:q<(offsT T T[t]).length)=>prt_in ho a b
  have hs1:=fun e=>ho.siz1 e
  have hs24:=fun e=>ho.siz24 e
  have hs3:=fun e=>ho.siz3 e
  have hs7:=fun e=>ho.siz7 e
  rw [loadP_at hx,loadP_at hx]
  obtain ⟨z,hze⟩:∃ z,(sizT T t).toNat=z:=⟨_,rfl⟩
  have hb:=ho.bnd
  have hzi:sizT T t=(z:Int):=by omega
  rw [hze] at hz ⊢
  simp only [hzi] at hpi hs1 hs24 hs3 hs7
  obtain ⟨x,hxx⟩:∃ x,T[t]=x:=⟨_,rfl⟩
  simp only [hxx] at hpl hpi hs1 hs24 hs3 hs7 ⊢
  by_cases k1:x.kd=1
  ·have:=hs1 k1
   have e:(bs.take z).getD 0 0=bs.getD 0 0:=by
    rw [List.getD_eq_getElem?_getD,List.getD_eq_getElem?_getD,List.getElem?_take,if_pos zm]
   rw [if_pos k1,if_pos k1,e]
  rw [if_neg k1,if_neg k1]
  by_cases k2:x.kd=2
  ·have:=hs24 (.inl k2)
   rw [if_pos k2,if_pos k2,word_take zm]
  rw [if_neg k2,if_neg k2]
  by_cases k3:x.kd=3
  ·have:=hs3 k3
   rw [if_pos k3,if_pos k3,word_take zm,word_take zm]
  rw [if_neg k3,if_neg k3]
  by_cases k4:x.kd=4
  ·have:=hs24 (.inr k4)
   rw [if_pos k4,if_pos k4,word_take zm]
  rw [if_neg k4,if_neg k4]
  by_cases k7:x.kd=7
  ·have:=hs7 k7
   rw [if_pos k7,if_pos k7,word_take zm,word_take zm,word_take zm]
  rw [if_neg k7,if_neg k7]
  congr 1
  refine listP_congr _ _ _ _ fun p hp=>?_
  obtain ⟨j,hj,rfl⟩:=List.getElem_of_mem hp
  rw [List.length_zip] at hj
  rw [List.getElem_zip]
  obtain ⟨y,hy,hyt,hoy,a,b⟩:=hpi j zm zm
  have hyb:=hoy.bnd
  dsimp only
  rw [hy,Int.toNat_natCast]
  rw [← loadP_take f dp y ((bs.take z).drop _) hoy (by rw [List.length_drop,List.length_take];omega),← loadP_take f dp y (bs.drop _) hoy (by rw [List.length_drop];omega)]
  rw [List.drop_take,List.take_take,Nat.min_eq_left zm]
end
end Go.Proofs.Ytcpkdjikembpnaa.Ce
namespace Go.Proofs.Ytcpkdjikembpnaa
theorem le_snoc:∀ (l:List UInt8) (x:UInt8),le (l ++ [x])=le l+256 ^ l.length*x.toNat
 | [],x=>by simp [le]
 | y :: l,x=>by
  rw [List.cons_append,le_cons,le_cons,le_snoc l x,List.length_cons,Int.pow_succ]
  generalize (256:Int) ^ l.length=p
  rw [Int.mul_add,Int.mul_comm p 256,Int.mul_assoc]
  omega
theorem le_toLE_mod (n:Nat):∀ w:Nat,le (toLE w (n:Int))=((n % 256 ^ w:Nat):Int)
 | 0=>by simp [toLE,le,Nat.mod_one]
 | w+1=>by
  rw [toLE_succ,le_snoc,toLE_length,le_toLE_mod n w,byteAt_nat,Nat.pow_succ,Nat.mod_mul]
  have hp:(256:Int) ^ w=((256 ^ w:Nat):Int):=(Int.natCast_pow 256 w).symm
  rw [hp]
  generalize 256 ^ w=p
  have h1:(n:Int) / (p:Int) % 256=((n / p % 256:Nat):Int):=by
   rw [Int.natCast_emod,Int.natCast_ediv];rfl
  rw [h1,Int.natCast_add,Int.natCast_mul]
theorem le_toLE {v:Int} {w:Nat} (h0:0≤v) (h1:v<256 ^ w):le (toLE w v)=v:=by
 obtain ⟨n,rfl⟩:=Int.eq_ofNat_of_zero_le h0
 rw [le_toLE_mod]
 have hp:(256:Int) ^ w=((256 ^ w:Nat):Int):=(Int.natCast_pow 256 w).symm
 rw [hp] at h1
 have:n<256 ^ w:=Int.ofNat_lt.1 h1
 rw [Nat.mod_eq_of_lt this]
end Go.Proofs.Ytcpkdjikembpnaa
namespace Go.Proofs.Ytcpkdjikembpnaa.Ce
section
open Go.RowKit
def cutV:Nat→V→Nat→V
 | 0,v,_=>v
 | N+1,.mk kd i s l c,dp=>if kd=4∨kd=7 then (if dp=0 then .mk kd i s [] (decide (0<l.length)) else .mk kd i s (l.map fun e=>cutV N e (dp - 1)) false) else .mk kd i s (l.map fun e=>cutV N e dp) false
def VI:Nat→V→Prop
 | 0,_=>True
 | N+1,v=>(-9223372036854775808≤v.i∧v.i≤9223372036854775807)∧∀ w∈v.l,VI N w
theorem i64_u64 {i:Int} (h1 : -9223372036854775808≤i) (h2:i≤9223372036854775807):i64 (IntKind.wrap .u64 i)=i:=by
 unfold i64
 rw [IntKind.wrap_i64,IntKind.wrap_u64]
 omega
theorem word_lit {l1 l2:List Int} {w:Int} (hw:0≤w∧w<18446744073709551616):wordV (litP (l1 ++ w :: l2)) (8*l1.length) 8=w:=by
 unfold wordV
 have e:litP (l1 ++ w :: l2)=litP l1 ++ (toLE 8 w ++ litP l2):=by unfold litP;rw [List.flatMap_append,List.flatMap_cons]
 rw [e,← litP_length l1,List.drop_left,List.take_left' (toLE_length 8 w)]
 exact le_toLE hw.1 zm
theorem catP_each {lim:Int} (g:List UInt8→Nat→V→Except Int (List UInt8 × List UInt8)):∀ (l:List (Int × V)) (hs:List UInt8),chkB 65536 hs.length lim=0→(∀ p∈l,∀ hs,chkB 65536 hs.length lim=0→Grow lim hs (g hs p.1.toNat p.2))→∀ a,catP g hs l = .ok a →
  ∀ (j:Nat) (hj:j<l.length) (hj2:j<a.2.length),∃ hsj r,chkB 65536 hsj.length lim=0∧g hsj (l[j]).1.toNat (l[j]).2 = .ok r∧r.2=a.2[j]∧∃ x,a.1=r.1 ++ x
 | [],_,_,_,_,_,j,hj,_=>absurd hj (Nat.not_lt_zero _)
 | p :: l,hs,hc,hg,a,h,j,hj,hj2=>by
  unfold catP at h
  have h1:=hg p (List.mem_cons_self ..) hs hc
  cases he:g hs p.1.toNat p.2 with
  | error e=>rw [he] at h;cases h
  | ok r=>
   rw [he] at h h1
   dsimp only at h
   obtain ⟨-,hc2⟩:=h1
   have hg2:=fun q (hq:q∈l)=>hg q (List.mem_cons_of_mem _ hq)
   have i2:=(catP_grow g l r.1 hc2 hg2).2
   cases hl:catP g r.1 l with
   | error e=>rw [hl] at h;cases h
   | ok b=>
    rw [hl] at h
    injection h with h
    subst h
    cases j with
    | zero=>exact ⟨hs,r,hc,he,rfl,(i2 b hl).1⟩
    | succ j=>exact catP_each g l r.1 hc2 hg2 b hl j (by simpa using hj) (by simpa using hj2)
theorem flat_drop {z:Nat}:∀ (L:List (List UInt8)) (j:Nat) (hj:j<L.length),(∀ ys∈L,ys.length=z)→(L.flatten.drop (j*z)).take z=L[j]
 | y :: L,0,_,h=>by
  rw [Nat.zero_mul,List.drop_zero,List.flatten_cons,List.take_left' (h y (List.mem_cons_self ..))]
  rfl
 | y :: L,j+1,hj,h=>by
  have hy:=h y (List.mem_cons_self ..)
  rw [List.flatten_cons,Nat.add_mul,Nat.one_mul,Nat.add_comm,List.drop_append,List.drop_eq_nil_of_le zm,List.nil_append,hy,Nat.add_sub_cancel_left]
  exact flat_drop L j (by simpa using hj) fun ys hys=>h ys (List.mem_cons_of_mem _ hys)
theorem flat_len {z:Nat}:∀ (L:List (List UInt8)),(∀ ys∈L,ys.length=z)→L.flatten.length=L.length*z
 | [],_=>by simp
 | y :: L,h=>by
  rw [List.flatten_cons,List.length_append,List.length_cons,flat_len L fun ys hys=>h ys (List.mem_cons_of_mem _ hys),h y (List.mem_cons_self ..),Nat.add_mul,Nat.one_mul,Nat.add_comm]
theorem findB_one {Y:List UInt8} {A:Option Addr} {c:Nat} {m w:Nat} (hm:m % 8=0) (h1:m+max w 1≤Y.length):findB [⟨65536,Y,A,c⟩] (65536+(m:Int)) w=some ((Y.drop m).take w):=by
 unfold findB
 rw [if_pos zm]
 have hf:fstI [(⟨65536,Y,A,c⟩:Rg)] (65536+(m:Int)) (max (w:Int) 1) 0=some 0:=by
  unfold fstI
  rw [if_pos]
  unfold inb
  simp only [decide_eq_true_eq]
  omega
 rw [hf]
 dsimp only
 rw [List.getElem?_cons_zero]
 show some ((Y.drop ((65536:Int)+m - 65536).toNat).take w)=_
 rw [show ((65536:Int)+m - 65536).toNat=m from by omega]
theorem textB_put {hs s Y x:List UInt8} {lim:Int} {A:Option Addr} {c:Nat} (hc:chkB 65536 hs.length lim=0) (hs0:s≠[]) (hl:s.length≤64) (hY:Y=putL hs s ++ x):textB [⟨65536,Y,A,c⟩] (65536+(hs.length:Int)) (s.length:Int)=(s,0):=by
 obtain ⟨m,hm⟩:=putL_eq hs s
 have h8:=(chkB_ok hc).2.1
 have hpos:=List.length_pos_iff.2 hs0
 have e:Y=hs ++ (s ++ (List.replicate m 0 ++ x)):=by rw [hY,hm];simp only [List.append_assoc]
 unfold textB
 rw [if_neg zm,if_neg zm,Int.toNat_natCast,findB_one h8 (by rw [e];simp only [List.length_append];omega),e,List.drop_left,List.take_left' rfl]
theorem listP_all (g:List UInt8→Nat→Except Int V) (bs:List UInt8):∀ (l:List (Int × Int)) (res:List V),l.length=res.length→(∀ (j:Nat) (h1:j<l.length) (h2:j<res.length),g (bs.drop (l[j]).2.toNat) (l[j]).1.toNat = .ok res[j])→listP g bs l = .ok res
 | [],[],_,_=>rfl
 | [],_ :: _,h,_=>by cases h
 | _ :: _,[],h,_=>by cases h
 | p :: l,r :: res,h,hj=>by
  have h0:g (bs.drop p.2.toNat) p.1.toNat = .ok r:=hj 0 (by simp) (by simp)
  have ht:=listP_all g bs l res (by simpa using h) fun j h1 h2=>hj (j+1) (by simpa using h1) (by simpa using h2)
  unfold listP
  rw [h0]
  dsimp only
  rw [ht]
theorem round_trip {T:List Tp} {lim:Int} (hT32:T.length≤32):∀ (N t:Nat) (v:V) (D:Nat) (hs:List UInt8) (r:List UInt8 × List UInt8),OkV T t→fitP T N t v D=true→VI N v→chkB 65536 hs.length lim=0→storeP T lim N hs t v = .ok r →
  ∀ (Y x:List UInt8) (A:Option Addr) (c:Nat),Y=r.1 ++ x→∀ (f dp:Nat),dp*32+t<f→loadP T [⟨65536,Y,A,c⟩] f dp r.2 t = .ok (cutV N v dp):=by
 intro N
 induction N with
 | zero=>intro t v D hs r _ hf;rw [fitP] at hf;cases hf
 | succ N ih=>
 intro t v D hs r ho hf hI hc hst Y x A c hY f dp hfu
 obtain ⟨kd,i,s,l,cc⟩:=v
 have hx:=List.getElem?_eq_getElem ho.lt
 obtain ⟨e1,e2,f1,f2,f3,f47,f56⟩:=fitP_inv hx hf
 obtain ⟨⟨hi1,hi2⟩,hIl⟩:=hI
 have hi1 : -9223372036854775808≤i:=hi1
 have hi2:i≤9223372036854775807:=hi2
 have hIl:∀ w∈l,VI N w:=hIl
 have hch:=chkB_ok hc
 obtain ⟨f,rfl⟩:∃ g,f=g+1:=⟨f - 1,by omega⟩
 rw [storeP_at hx] at hst
 rw [loadP_at hx]
 subst e2
 have hcut:¬ (kd=4∨kd=7)→cutV (N+1) (.mk kd i s l false) dp = .mk kd i s (l.map fun e=>cutV N e dp) false:=fun h=>by rw [cutV,if_neg h]
 by_cases k1:(T[t]'ho.lt).kd=1
 ·rw [if_pos k1] at hst ⊢
  obtain ⟨hi,rfl,rfl⟩:=f1 zm
  injection hst with hst
  subst hst
  rw [hcut zm,e1,k1]
  rcases hi with rfl|rfl <;> rfl
 rw [if_neg k1] at hst ⊢
 by_cases k2:(T[t]'ho.lt).kd=2
 ·rw [if_pos k2] at hst ⊢
  obtain ⟨rfl,rfl⟩:=f2 zm
  injection hst with hst
  subst hst
  have hw:=word_lit (l1:=[]) (l2:=[]) (w:=IntKind.wrap .u64 i) (by rw [IntKind.wrap_u64];omega)
  rw [hcut zm,e1,k2]
  show Except.ok (V.mk 2 (i64 (wordV (litP ([] ++ [IntKind.wrap .u64 i])) (8*([]:List Int).length) 8)) [] [] false)=_
  rw [hw,i64_u64 (i:=i) hi1 hi2]
  rfl
 rw [if_neg k2] at hst ⊢
 by_cases k3:(T[t]'ho.lt).kd=3
 ·rw [if_pos k3] at hst ⊢
  obtain ⟨rfl,rfl,hsl⟩:=f3 zm
  rw [hcut zm,e1,k3]
  by_cases hs0:s=[]
  ·rw [if_pos hs0] at hst
   injection hst with hst
   subst hst
   subst hs0
   have w0:wordV (litP [0,0]) 0 8=0:=word_lit (l1:=[]) (l2:=[0]) (w:=0) zm
   have w1:wordV (litP [0,0]) 8 8=0:=word_lit (l1:=[0]) (l2:=[]) (w:=0) zm
   dsimp only
   rw [w0,w1,show textB [⟨65536,Y,A,c⟩] 0 0=([],0) from by unfold textB;rw [if_neg (by decide),if_pos rfl],if_pos (rfl:(([]:List UInt8),(0:Int)).2=0)]
   rfl
  ·rw [if_neg hs0] at hst
   by_cases ha:allocE 65536 hs.length s.length lim=0
   ·rw [if_pos ha] at hst
    injection hst with hst
    subst hst
    have w0:wordV (litP [65536+(hs.length:Int),(s.length:Int)]) 0 8=65536+(hs.length:Int):=word_lit (l1:=[]) (l2:=[(s.length:Int)]) (w:=65536+(hs.length:Int)) zm
    have w1:wordV (litP [65536+(hs.length:Int),(s.length:Int)]) 8 8=(s.length:Int):=word_lit (l1:=[65536+(hs.length:Int)]) (l2:=[]) (w:=(s.length:Int)) zm
    dsimp only
    rw [w0,w1,textB_put hc hs0 hsl hY,if_pos (rfl:((s:List UInt8),(0:Int)).2=0)]
    rfl
   ·rw [if_neg ha] at hst;cases hst
 rw [if_neg k3] at hst ⊢
 by_cases k47:(T[t]'ho.lt).kd=4∨(T[t]'ho.lt).kd=7
 ·rw [if_pos k47] at hst
  obtain ⟨rfl,rfl,hll,hl4,hfe⟩:=f47 zm
  obtain ⟨y,hy,hoy⟩:=ho.ptr k47
  have hyb:=hoy.bnd
  have hyp:=siz_pos (y+1) hoy zm
  have hyl:=hoy.lt
  have hcut:cutV (N+1) (.mk kd 0 [] l false) dp=if dp=0 then .mk kd 0 [] [] (decide (0<l.length)) else .mk kd 0 [] (l.map fun e=>cutV N e (dp - 1)) false:=by rw [cutV,if_pos zm]
  rw [hcut]
  unfold tgtP at hst
  by_cases hl:l=[]
  ·rw [if_pos hl] at hst
   injection hst with hst
   subst hst
   subst hl
   have e3:(if dp=0 then V.mk kd 0 [] [] (decide (0<([]:List V).length)) else .mk kd 0 [] (([]:List V).map fun e=>cutV N e (dp - 1)) false) = .mk kd 0 [] [] false:=by split <;> rfl
   rw [e3]
   rcases k47 with k4|k7
   ·have w0:wordV (litP (ptrP (T[t]'ho.lt).kd 0 0)) 0 8=0:=by unfold ptrP;rw [if_pos k4];exact word_lit (l1:=[]) (l2:=[]) (w:=0) zm
    dsimp only
    rw [if_pos k4,w0,if_pos rfl,e1,k4]
   ·have ep:ptrP (T[t]'ho.lt).kd 0 0=[0,0,0]:=by unfold ptrP;rw [if_neg zm]
    have w0:wordV (litP [0,0,0]) 0 8=0:=word_lit (l1:=[]) (l2:=[0,0]) (w:=0) zm
    have w1:wordV (litP [0,0,0]) 8 8=0:=word_lit (l1:=[0]) (l2:=[0]) (w:=0) zm
    have w2:wordV (litP [0,0,0]) 16 8=0:=word_lit (l1:=[0,0]) (l2:=[]) (w:=0) zm
    dsimp only
    rw [if_neg zm,if_pos k7,ep,w0,w1,w2,if_neg zm,if_pos rfl,e1,k7]
  ·rw [if_neg hl] at hst
   have hlp:=List.length_pos_iff.2 hl
   cases hcc:catP (storeP T lim N) hs (l.map fun v=>((T[t]'ho.lt).el,v)) with
   | error e=>rw [hcc] at hst;cases hst
   | ok a=>
    rw [hcc] at hst
    dsimp only at hst
    by_cases ha:allocE 65536 a.1.length a.2.flatten.length lim=0
    ·rw [if_pos ha] at hst
     injection hst with hst
     subst hst
     have hll2:l.length≤16:=by omega
     have hgrow:∀ p∈l.map (fun v=>((T[t]'ho.lt).el,v)),∀ hs2:List UInt8,chkB 65536 hs2.length lim=0→Grow lim hs2 (storeP T lim N hs2 p.1.toNat p.2):=fun p hp hs2 hc2=>by
      obtain ⟨w,hw,rfl⟩:=List.mem_map.1 hp
      have h3:=(hfe w hw).2
      dsimp only
      rw [hy,Int.toNat_natCast] at h3 ⊢
      exact storeP_grow N y w _ hs2 hoy h3 hc2
     have hcg:=(catP_grow (lim:=lim) (storeP T lim N) _ hs hc hgrow).2 a hcc
     have hca:=hcg.2
     have hcha:=chkB_ok hca
     have hlen:=catP_len _ _ _ _ hcc
     rw [List.length_map] at hlen
     have hin:=catP_inv (storeP T lim N) (fun hs=>hs.length≤20000) (fun p ys=>ys.length=(sizT T y).toNat) _ hs a zm (fun p hp hs2 r hI hg=>by
      obtain ⟨w,hw,rfl⟩:=List.mem_map.1 hp
      dsimp only at hg
      have h3:=hfe w hw
      rw [hy,Int.toNat_natCast] at h3 hg
      have h4:=storeP_ok N y w _ hs2 hoy h3.2 hI r hg
      exact ⟨h4.2,by have:=h4.1;omega⟩) hcc
     have hz:∀ ys∈a.2,ys.length=(sizT T y).toNat:=fun ys hys=>by
      obtain ⟨j,hj,rfl⟩:=List.getElem_of_mem hys
      exact hin.2.2 j (by rw [List.length_map];omega) hj
     have hfl:=flat_len a.2 hz
     rw [hlen] at hfl
     obtain ⟨m,hm⟩:=putL_eq a.1 a.2.flatten
     have eY:Y=a.1 ++ (a.2.flatten ++ (List.replicate m 0 ++ x)):=by rw [hY,hm];simp only [List.append_assoc]
     have hsm:(sizT T (T[t]'ho.lt).el.toNat*(l.length:Nat)).toNat=a.2.flatten.length:=by
      rw [hy,Int.toNat_natCast,hfl]
      have:sizT T y*(l.length:Int)=((l.length*(sizT T y).toNat:Nat):Int):=by
       rw [Int.natCast_mul,Int.toNat_of_nonneg hyb.1,Int.mul_comm]
      rw [this,Int.toNat_natCast]
     have hpos:1≤a.2.flatten.length:=by
      rw [hfl]
      exact Nat.mul_pos hlp zm
     have hfind:findB [⟨65536,Y,A,c⟩] (65536+(a.1.length:Int)) a.2.flatten.length=some a.2.flatten:=by
      rw [findB_one hcha.2.1 (by rw [eY];simp only [List.length_append];omega),eY,List.drop_left,List.take_left' rfl]
     have hfol:folP (loadP T [⟨65536,Y,A,c⟩] f) T [⟨65536,Y,A,c⟩] (T[t]'ho.lt) (65536+(a.1.length:Int)) l.length l.length dp = .ok (if dp=0 then V.mk kd 0 [] [] (decide (0<l.length)) else .mk kd 0 [] (l.map fun e=>cutV N e (dp - 1)) false):=by
      unfold folP
      rw [hsm,hfind]
      dsimp only
      rw [if_neg zm]
      by_cases hd:dp=0
      ·rw [if_pos hd,if_pos hd,e1,decide_eq_true hlp]
      ·rw [if_neg hd,if_neg hd]
       rw [listP_all _ _ _ (l.map fun e=>cutV N e (dp - 1)) (by simp) (fun j h1 h2=>by
        simp only [List.length_map,List.length_range] at h1
        simp only [List.getElem_map,List.getElem_range]
        obtain ⟨hsj,rj,hcj,hrj,hrj2,xj,hxj⟩:=catP_each (storeP T lim N) _ hs hc hgrow a hcc j (by rw [List.length_map];omega) zm
        simp only [List.getElem_map] at hrj
        have h3:=hfe l[j] (List.getElem_mem h1)
        rw [hy,Int.toNat_natCast] at hrj h3 ⊢
        have hjs:((j:Int)*sizT T y).toNat=j*(sizT T y).toNat:=by
         have:(j:Int)*sizT T y=((j*(sizT T y).toNat:Nat):Int):=by
          rw [Int.natCast_mul,Int.toNat_of_nonneg hyb.1]
         rw [this,Int.toNat_natCast]
        rw [hjs]
        have hdr:(j+1)*(sizT T y).toNat≤l.length*(sizT T y).toNat:=Nat.mul_le_mul_right _ zm
        rw [Nat.add_mul,Nat.one_mul] at hdr
        rw [← loadP_take f (dp - 1) y _ hoy (by rw [List.length_drop,hfl];omega),flat_drop a.2 j zm hz,← hrj2]
        exact ih y l[j] _ hsj rj hoy h3.2 (hIl _ (List.getElem_mem h1)) hcj hrj Y (xj ++ (a.2.flatten ++ (List.replicate m 0 ++ x))) A c (by rw [eY,hxj];simp only [List.append_assoc]) f (dp - 1) (by
         have:(dp - 1)*32+32=dp*32:=by omega
         have:=hoy.lt
         omega))]
       rw [e1]
       rfl
     rcases k47 with k4|k7
     ·have ep:ptrP (T[t]'ho.lt).kd (65536+(a.1.length:Int)) l.length=[65536+(a.1.length:Int)]:=by unfold ptrP;rw [if_pos k4]
      have w0:wordV (litP [65536+(a.1.length:Int)]) 0 8=65536+(a.1.length:Int):=word_lit (l1:=[]) (l2:=[]) (w:=65536+(a.1.length:Int)) zm
      have hl1:l.length=1:=by have:=hl4 zm;omega
      dsimp only
      rw [if_pos k4,ep,w0,if_neg zm]
      rw [hl1] at hfol ⊢
      exact hfol
     ·have ep:ptrP (T[t]'ho.lt).kd (65536+(a.1.length:Int)) l.length=[65536+(a.1.length:Int),(l.length:Int),(l.length:Int)]:=by unfold ptrP;rw [if_neg zm]
      have w0:wordV (litP [65536+(a.1.length:Int),(l.length:Int),(l.length:Int)]) 0 8=65536+(a.1.length:Int):=word_lit (l1:=[]) (l2:=[(l.length:Int),(l.length:Int)]) (w:=65536+(a.1.length:Int)) zm
      have w1:wordV (litP [65536+(a.1.length:Int),(l.length:Int),(l.length:Int)]) 8 8=(l.length:Int):=word_lit (l1:=[65536+(a.1.length:Int)]) (l2:=[(l.length:Int)]) (w:=(l.length:Int)) zm
      have w2:wordV (litP [65536+(a.1.length:Int),(l.length:Int),(l.length:Int)]) 16 8=(l.length:Int):=word_lit (l1:=[65536+(a.1.length:Int),(l.length:Int)]) (l2:=[]) (w:=(l.length:Int)) zm
      dsimp only
      rw [if_neg zm,if_pos k7,ep,w0,w1,w2,if_neg zm,if_neg zm,Int.toNat_natCast]
      exact hfol
    ·rw [if_neg ha] at hst;cases hst
 ·rw [if_neg k47] at hst
  have h5:=f56 ⟨by omega,by omega,by omega,by omega,by omega⟩
  have hpl:=prt_len ho
  rw [hcut zm]
  rw [if_neg zm,if_neg zm]
  obtain ⟨hi0,hs0,hln,hfe⟩:=h5
  subst hi0
  subst hs0
  have hgrow:∀ p∈(prtT (T[t]'ho.lt)).zip l,∀ hs2:List UInt8,chkB 65536 hs2.length lim=0→Grow lim hs2 (storeP T lim N hs2 p.1.toNat p.2):=fun p hp hs2 hc2=>by
   obtain ⟨j,hj,rfl⟩:=List.getElem_of_mem hp
   rw [List.length_zip] at hj
   rw [List.getElem_zip]
   obtain ⟨y,hy, -,hoy, -⟩:=prt_in ho (q:=j) zm zm
   dsimp only
   have hfj:=hfe j zm zm
   rw [hy,Int.toNat_natCast] at hfj ⊢
   exact storeP_grow N y l[j] _ hs2 hoy hfj hc2
  cases hcc:catP (storeP T lim N) hs ((prtT (T[t]'ho.lt)).zip l) with
  | error e=>rw [hcc] at hst;cases hst
  | ok a=>
   rw [hcc] at hst
   dsimp only at hst
   injection hst with hst
   subst hst
   have hlen:=catP_len _ _ _ _ hcc
   rw [List.length_zip] at hlen
   have hin:=catP_inv (storeP T lim N) (fun hs=>hs.length≤20000) (fun p ys=>ys.length=(sizT T p.1.toNat).toNat) _ hs a zm (fun p hp hs2 r hI hg=>by
    obtain ⟨j,hj,rfl⟩:=List.getElem_of_mem hp
    rw [List.length_zip] at hj
    rw [List.getElem_zip] at hg ⊢
    obtain ⟨y,hy, -,hoy, -⟩:=prt_in ho (q:=j) zm zm
    dsimp only at hg ⊢
    have hfj:=hfe j zm zm
    rw [hy,Int.toNat_natCast] at hfj hg ⊢
    have h4:=storeP_ok N y l[j] _ hs2 hoy hfj hI r hg
    exact ⟨h4.2,h4.1⟩) hcc
   have hb:=ho.bnd
   have hoff:∀ (q:Nat) (h1:q<((offsT T (T[t]'ho.lt)).zip a.2).length),(((offsT T (T[t]'ho.lt)).zip a.2)[q]).1.toNat+(((offsT T (T[t]'ho.lt)).zip a.2)[q]).2.length≤(sizT T t).toNat:=fun q h1=>by
    rw [List.length_zip] at h1
    rw [List.getElem_zip]
    obtain ⟨y,hy, -,hoy,a1,a2⟩:=prt_in ho (q:=q) zm zm
    have hyb:=hoy.bnd
    have hq:=hin.2.2 q (by rw [List.length_zip];omega) zm
    simp only [List.getElem_zip] at hq
    rw [hy,Int.toNat_natCast] at hq
    dsimp only
    omega
   have hes:kd=(T[t]'ho.lt).kd:=e1
   rw [listP_all _ _ _ (l.map fun e=>cutV N e dp) (by rw [List.length_zip,List.length_map];omega) (fun j h1 h2=>by
    rw [List.length_zip] at h1
    rw [List.length_map] at h2
    simp only [List.getElem_map,List.getElem_zip]
    obtain ⟨y,hy,hyt,hoy,a1,a2⟩:=prt_in ho (q:=j) zm zm
    have hyb:=hoy.bnd
    have hq:=hin.2.2 j (by rw [List.length_zip];omega) zm
    simp only [List.getElem_zip] at hq
    have hpl2:=placeP_len ((offsT T (T[t]'ho.lt)).zip a.2) (List.replicate (sizT T t).toNat 0) (List.length_replicate ..) fun p hp=>by
     obtain ⟨q,hq,rfl⟩:=List.getElem_of_mem hp
     exact hoff q hq
    obtain ⟨hsj,rj,hcj,hrj,hrj2,xj,hxj⟩:=catP_each (storeP T lim N) _ hs hc hgrow a hcc j (by rw [List.length_zip];omega) zm
    simp only [List.getElem_zip] at hrj
    have hfj:=hfe j zm h2
    rw [hy,Int.toNat_natCast] at hrj hfj hq ⊢
    have hjz:j<((offsT T (T[t]'ho.lt)).zip a.2).length:=by rw [List.length_zip];omega
    have hsp:(offsT T (T[t]'ho.lt)).zip a.2=((offsT T (T[t]'ho.lt)).zip a.2).take j ++ ((offsT T (T[t]'ho.lt))[j],a.2[j]) :: ((offsT T (T[t]'ho.lt)).zip a.2).drop (j+1):=by
     have e:((offsT T (T[t]'ho.lt)).zip a.2)[j]=((offsT T (T[t]'ho.lt))[j],a.2[j]):=List.getElem_zip ..
     rw [← e,List.getElem_cons_drop,List.take_append_drop]
    have hget:=placeP_get (b:=List.replicate (sizT T t).toNat 0) (l1:=((offsT T (T[t]'ho.lt)).zip a.2).take j) (l2:=((offsT T (T[t]'ho.lt)).zip a.2).drop (j+1)) (o:=(offsT T (T[t]'ho.lt))[j]) (ys:=a.2[j]) (m:=(sizT T t).toNat) (List.length_replicate ..) (fun p hp=>by
      obtain ⟨q,hq,rfl⟩:=List.getElem_of_mem hp
      rw [List.length_take] at hq
      rw [List.getElem_take]
      exact hoff q zm) (by rw [hq];omega) (fun p hp=>by
      obtain ⟨q,hq2,rfl⟩:=List.getElem_of_mem hp
      rw [List.length_drop] at hq2
      rw [List.getElem_drop]
      refine ⟨?_,hoff (j+1+q) zm⟩
      rw [List.length_zip] at hq2
      rw [List.getElem_zip]
      have:=prt_asc ho (q:=j) (m:=j+1+q) zm zm zm
      rw [hy,Int.toNat_natCast] at this
      dsimp only
      omega)
    rw [← hsp] at hget
    rw [← loadP_take f dp y _ hoy (by rw [List.length_drop,hpl2];omega),← hq,hget,← hrj2]
    exact ih y l[j] _ hsj rj hoy hfj (hIl _ (List.getElem_mem h2)) hcj hrj Y (xj ++ x) A c (by rw [hY,hxj,List.append_assoc]) f dp zm)]
   rw [e1]
   rfl
end
section
open Go.RowKit
variable (k d cl:Nat) (h:Hp) (n:Nat)
theorem rtogr_ev (hk:30000≤k) (A:Option Addr) (T:List Tp) (c:Nat) (hT:TabH h n A T) (FA:Option Addr) (fs:List (List UInt8 × Int)) (fc:Nat) (hr:RdH h n FA (fv fs)) (hl2:fs.length≤20) (hC:ChkT T) (h0:fs≠[]) (hall:∀ f∈fs,0≤f.2∧f.2<T.length) :
  SQ k (d+4) cl 111 [.slice A T.length c,.slice FA fs.length fc] h n fun v h' n'=>v = .tuple ⟨[.slice (some ⟨n,0,none⟩) fs.length fs.length,.int .i64 (upI (layR 1000000 (eRow 1000000 T) fs).2.1 (layR 1000000 (eRow 1000000 T) fs).2.2),.int .i64 (layR 1000000 (eRow 1000000 T) fs).2.2]⟩∧h'=h.set n (.row 3 false (iv (layR 1000000 (eRow 1000000 T) fs).1))∧n'=n+1:=by
 have hl:=hC.1
 have hEl:=eRow_length 1000000 T
 have hfp:0<fs.length:=List.length_pos_iff.2 h0
 have h0T:0<T.length:=by have:=hall fs[0] (List.getElem_mem hfp);omega
 have hEok:∀ p∈eRow 1000000 T,EOk 1000000 p:=by have:=eRow_ok (C:=1000000) zm (by decide) hC.2.1 T.length (Nat.le_refl _);rwa [List.take_length] at this
 have hxo:∀ f∈fs,0≤f.2∧f.2<(eRow 1000000 T).length:=fun f hf=>by rw [eRow_length];exact hall f hf
 have hfo:FOk 1000000 (eRow 1000000 T) fs:=fun f hf=>Ext.at_mem hEok (hxo f hf).1 (hxo f hf).2
 refine enter Try.func111 kz rfl kz rfl rfl rfl ?_
 (repeat' first|refine zcd ?_|intro K' hK|(with_reducible refine zn hK ?_;clear hK)|((with_reducible apply o_callF (g:=75) w_none);(case ha=>exact ez0);(case hs=>((with_reducible apply rsizes_ev (T:=T));(case hT=>first|exact hT|exact hT.set zm _);(case hF=>exact hC.2.1);(all_goals first|exact hk|omega)));(case' hk=>rintro _ h' n' ⟨rfl,rfl,rfl⟩))|((with_reducible apply o_callF (g:=105) w_none);(case ha=>exact ez0);(case hs=>(((with_reducible apply rtog_ev (E:=eRow 1000000 T) (fs:=fs));(case hk=>exact hk);(case hm=>exact hEl.symm);(case h0=>exact h0);(case hs=>exact RdH.ofRow (e:=3) (ro:=false) (by simp (disch:=first|assumption|omega|rfl|decide) only [go_sem,seval,tys]) zm);(case ha=>exact RdH.ofRow (e:=3) (ro:=false) (by simp (disch:=first|assumption|omega|rfl|decide) only [go_sem,seval,tys]) zm);(case hr=>exact ezD hr);(case hl2=>omega);(case hf=>exact hfo);(case hx=>exact hxo))));(case' hk=>rintro _ h' n' ⟨rfl,rfl,rfl⟩))|((with_reducible first|apply zo1|apply zo2|apply o_guard rfl|apply x_cond|apply k_e1 rfl|apply k_e2 rfl|apply k_e0 rfl|apply k_e3 rfl|apply k_e4 rfl);(case he=>exact ez0);(try case hok=>exact ezO);all_goals try (intro hb;(try simp only [hbs,reduceCtorEq] at hb);try exact ezX))|((with_reducible apply o_undef rfl);(case hb=>exact ez0)))
 refine sw_row ezI rfl zm ez0 (iv_idA _ _) ezR ?_
 exact ⟨rfl,rfl,rfl⟩
end
end Go.Proofs.Ytcpkdjikembpnaa.Ce
