/- Parts of the proof of ValueBack: Gm, Gn, Hj, Go. No condition of its own. -/
import Derived.Test.YtcpkdjikembpnaaWaam
import Derived.Test.YtcpkdjikembpnaaWaan
import Derived.Test.YtcpkdjikembpnaaWaar
import Derived.Test.YtcpkdjikembpnaaWaav
import Derived.Test.YtcpkdjikembpnaaWaaw
import Derived.Test.YtcpkdjikembpnaaWaax
import Derived.Test.YtcpkdjikembpnaaWaba
set_option linter.unusedVariables false
set_option linter.unusedSimpArgs false
set_option maxRecDepth 1000000
set_option maxHeartbeats 4000000
namespace Go.Proofs.Ytcpkdjikembpnaa.Ce
section
open Go.RowKit
open Classical in
noncomputable def okE (T:List Tp) (t:Int):Int:=if (szR 1048576 T t).2.2≠0 then (szR 1048576 T t).2.2 else if ∀ x∈reachL T t.toNat,(szR 1048576 T x).2.2=0 then 0 else 16
theorem szR_0 {T:List Tp} {t:Int} (h:(szR 1048576 T t).2.2=0):ChkT T∧(0≤t∧t<T.length)∧((eRow 1048576 T).at_ t).1≤256:=by
 unfold szR at h
 split at h
 ·split at h
  ·split at h
   ·cases h
   ·exact ⟨‹_›,‹_›,by omega⟩
  ·cases h
 ·cases h
theorem szR_err {T:List Tp} {t:Int} (hC:ChkT T) (ht:0≤t∧t<T.length) (h:(szR 1048576 T t).2.2≠0):(szR 1048576 T t).2.2=16:=by
 unfold szR at h ⊢
 rw [if_pos hC,if_pos ht] at h ⊢
 split at h
 ·rename_i hb;rw [if_pos hb]
 ·exact absurd rfl h
theorem okE_0 {T:List Tp} {t:Int} (h:okE T t=0):∃ x:Nat,t=(x:Int)∧OkV T x:=by
 unfold okE at h
 split at h
 ·contradiction
 ·rename_i h1
  split at h
  ·rename_i h2
   obtain ⟨hC,ht,hs⟩:=szR_0 (Classical.not_not.1 h1)
   obtain ⟨x,rfl⟩:=Int.eq_ofNat_of_zero_le ht.1
   refine ⟨x,rfl,hC,by omega,fun y hy=>?_⟩
   rw [Int.toNat_natCast] at h2
   have:=h2 (y:Int) (reach_mem.2 ⟨y,rfl,hy.lt hC.2.1 zm,hy⟩)
   exact (szR_0 this).2.2
  ·cases h
variable (k d cl:Nat) (h:Hp) (n:Nat)
theorem vcheck_ev (hk:30000≤k) (A:Option Addr) (T:List Tp) (c:Nat) (hT:TabH h n A T) (hS:∀ t∈T,t.fs.length≤20000) (hm:T.length≤9223372036854775807) (t:Int) :
  SQ k (d+10) cl 37 [.slice A T.length c,.int .i64 t] h n fun v h' n'=>(∃ z:Int,v = .tuple ⟨[.int .i64 z,.int .i64 (okE T t)]⟩)∧h'=h∧n'=n:=by
 have qs:=fun (h6:Hp) (n6:Nat) (t:Int) (hT6:TabH h6 n6 A T)=>(lsize_ev k (d+1) n h6 n6 hk A T c hT6 hS hm t).mono (Φ':=fun v h' n'=>v = .tuple ⟨[.int .i64 (szR 1048576 T t).1,.int .i64 (szR 1048576 T t).2.1,.int .i64 (szR 1048576 T t).2.2]⟩∧h6=h'∧n6=n') fun _ _ _ hp=>⟨hp.1,hp.2.1.symm,hp.2.2.symm⟩
 by_cases he:(szR 1048576 T t).2.2=0
 ·obtain ⟨hC,ht, -⟩:=szR_0 he
  obtain ⟨i,rfl⟩:=Int.eq_ofNat_of_zero_le ht.1
  have q1:=qs h n i hT
  rw [he] at q1
  have q2:=(preach_ok k (d+1) n h n hk A T c hT hS hm hC i zm).mono (Φ':=fun v h' n'=>∃ V,v = .tuple ⟨[V,.int .i64 0]⟩∧IntsR (reachL T i) h n V h' n') fun _ _ _ ⟨V,e,hv⟩=>⟨V,e,IntsV.rd hv⟩
  have hrl:=reach_len T i
  have hl:=hC.1
  have hok0:(∀ x∈reachL T i,(szR 1048576 T x).2.2=0)→okE T i=0:=fun hb=>by unfold okE;rw [if_neg (not_not_intro he),Int.toNat_natCast,if_pos hb]
  have hok1:(¬ ∀ x∈reachL T i,(szR 1048576 T x).2.2=0)→okE T i=16:=fun hb=>by unfold okE;rw [if_neg (not_not_intro he),Int.toNat_natCast,if_neg hb]
  obtain ⟨rl,hrle⟩:∃ rl,reachL T i=rl:=⟨_,rfl⟩
  have hmem:∀ x∈rl,0≤x∧x<T.length:=fun x hx=>by
   rw [← hrle] at hx
   obtain ⟨y,rfl,hy, -⟩:=reach_mem.1 hx
   omega
  rw [hrle] at q2 hrl hok0 hok1
  obtain ⟨E,hEe⟩:∃ E,okE T i=E:=⟨_,rfl⟩
  rw [hEe]
  refine enter Try.func37 kz rfl kz rfl rfl rfl ?_
  (repeat' first|refine zcd ?_|intro K' hK|(with_reducible refine zn hK ?_;clear hK)|((with_reducible apply o_callF (g:=27) w_none);(case ha=>exact ez0);(case hs=>(exact q1));(case' hk=>rintro _ h' n' ⟨rfl,rfl,rfl⟩))|((with_reducible apply o_callF (g:=59) w_none);(case ha=>exact ez0);(case hs=>(exact q2));(case' hk=>rintro _ h' n' ⟨V,rfl,RA,rc,rfl,hrR,hRn,hn2,hk2⟩))|((with_reducible first|apply zo1|apply zo2|apply o_guard rfl|apply x_cond|apply k_e1 rfl|apply k_e2 rfl|apply k_e0 rfl|apply k_e3 rfl|apply k_e4 rfl);(case he=>exact ez0);(try case hok=>exact ezO);all_goals try (intro hb;(try simp only [hbs,reduceCtorEq] at hb);try exact ezX))|((with_reducible apply o_undef rfl);(case hb=>exact ez0)))
  refine x_loopF [4,5,12,13,14,15,34,35,36,37,38,39,40,41,42,43,44,45,46,47,48] [34] (fun m vs=>∃ q:Nat,m=rl.length - q∧q≤rl.length∧vs=[.int .i64 q]∧∀ x∈rl.take q,(szR 1048576 T x).2.2=0) rl.length rfl zm ⟨0,rfl,by omega,ez0,by simp⟩ ?_
  rintro m g _ ⟨q,rfl,hq,rfl,hall⟩
  by_cases hql:q<rl.length
  ·obtain ⟨rid,rof,hRA, -,c1⟩:=int_at hrR hql
   subst hRA
   have hxm:=hmem rl[q] (List.getElem_mem hql)
   obtain ⟨x,hx⟩:∃ x,rl[q]=x:=⟨_,rfl⟩
   rw [hx] at c1 hxm
   have q3:=qs h' n' x ((hT.keep (Nat.le_refl _) hk2).more hn2)
   by_cases hx0:(szR 1048576 T x).2.2=0
   ·rw [hx0] at q3
    (repeat' first|refine zcd ?_|intro K' hK|(with_reducible refine zn hK ?_;clear hK)|((with_reducible apply o_callF (g:=27) w_none);(case ha=>exact ez0);(case hs=>(exact q3));(case' hk=>rintro _ h' n' ⟨rfl,rfl,rfl⟩))|((with_reducible first|apply zo1|apply zo2|apply o_guard rfl|apply x_cond|apply k_e1 rfl|apply k_e2 rfl|apply k_e0 rfl|apply k_e3 rfl|apply k_e4 rfl);(case he=>exact ez1 c1);(try case hok=>exact ezO);all_goals try (intro hb;(try simp only [hbs,reduceCtorEq] at hb);try exact ezX))|((with_reducible apply o_undef rfl);(case hb=>exact ez0)))
    refine k_round (rl.length - (q+1)) zm ⟨⟨rfl,rfl⟩,q+1,rfl,by omega,ez0,fun y hy=>?_⟩
    rw [List.take_succ_eq_append_getElem hql] at hy
    rcases List.mem_append.1 hy with hy|hy
    ·exact hall y hy
    ·obtain rfl:=List.mem_singleton.1 hy
     rw [hx]
     exact hx0
   ·have h16:=szR_err hC hxm hx0
    have hE:E=16:=by rw [← hEe,hok1 fun hh=>hx0 (hh x (by rw [← hx];exact List.getElem_mem hql))]
    rw [h16] at q3
    subst hE
    (repeat' first|refine zcd ?_|intro K' hK|(with_reducible refine zn hK ?_;clear hK)|((with_reducible apply o_callF (g:=27) w_none);(case ha=>exact ez0);(case hs=>(exact q3));(case' hk=>rintro _ h' n' ⟨rfl,rfl,rfl⟩))|((with_reducible first|apply zo1|apply zo2|apply o_guard rfl|apply x_cond|apply k_e1 rfl|apply k_e2 rfl|apply k_e0 rfl|apply k_e3 rfl|apply k_e4 rfl);(case he=>exact ez1 c1);(try case hok=>exact ezO);all_goals try (intro hb;(try simp only [hbs,reduceCtorEq] at hb);try exact ezX))|((with_reducible apply o_undef rfl);(case hb=>exact ez0)))
    all_goals exact sw_flat rfl rfl ⟨⟨_,rfl⟩,rfl,rfl⟩
  ·obtain rfl:q=rl.length:=by omega
   rw [List.take_length] at hall
   have hE:E=0:=by rw [← hEe,hok0 hall]
   subst hE
   (repeat' first|refine zcd ?_|intro K' hK|(with_reducible refine zn hK ?_;clear hK)|fail|((with_reducible first|apply zo1|apply zo2|apply o_guard rfl|apply x_cond|apply k_e1 rfl|apply k_e2 rfl|apply k_e0 rfl|apply k_e3 rfl|apply k_e4 rfl);(case he=>exact ez0);(try case hok=>exact ezO);all_goals try (intro hb;(try simp only [hbs,reduceCtorEq] at hb);try exact ezX))|((with_reducible apply o_undef rfl);(case hb=>exact ez0)))
   all_goals exact sw_flat rfl rfl ⟨⟨_,rfl⟩,rfl,rfl⟩
 ·have e:okE T t=(szR 1048576 T t).2.2:=by unfold okE;rw [if_pos he]
  rw [e]
  have q1:=qs h n t hT
  obtain ⟨E,hE⟩:∃ E,(szR 1048576 T t).2.2=E:=⟨_,rfl⟩
  rw [hE] at q1 he ⊢
  refine enter Try.func37 kz rfl kz rfl rfl rfl ?_
  (repeat' first|refine zcd ?_|intro K' hK|(with_reducible refine zn hK ?_;clear hK)|((with_reducible apply o_callF (g:=27) w_none);(case ha=>exact ez0);(case hs=>(exact q1));(case' hk=>rintro _ h' n' ⟨rfl,rfl,rfl⟩))|((with_reducible first|apply zo1|apply zo2|apply o_guard rfl|apply x_cond|apply k_e1 rfl|apply k_e2 rfl|apply k_e0 rfl|apply k_e3 rfl|apply k_e4 rfl);(case he=>exact ez0);(try case hok=>exact ezO);all_goals try (intro hb;(try simp only [hbs,reduceCtorEq] at hb);try exact ezX))|((with_reducible apply o_undef rfl);(case hb=>exact ez0)))
  all_goals exact sw_flat rfl rfl ⟨⟨_,rfl⟩,rfl,rfl⟩
end
section
open Go.RowKit
def alnT (T:List Tp) (x:Nat):Int:=((eRow 1048576 T).at_ (x:Int)).2
noncomputable def LoadR (T:List Tp) (L:List Rg) (a t dp:Int):Except Int V:=
 if okE T t≠0 then .error (okE T t) else if dp<0∨3<dp then .error 2 else if lstE L≠0 then .error (lstE L)
 else match fstI L a (sizT T t.toNat) 0 with
  | none=>.error 16
  | some i=>if a % alnT T t.toNat≠0 then .error 16 else match L[i]? with
   | none=>.error 0
   | some g=>loadP T L 1000 dp.toNat ((g.xs.drop (a - g.b).toNat).take (sizT T t.toNat).toNat) t.toNat
theorem lstE_chk {L:List Rg} (h:lstE L=0):∀ g∈L,chkG g=0:=by
 unfold lstE at h
 split at h
 ·cases h
 ·split at h
  ·cases h
  ·exact Classical.not_not.1 ‹_›
variable (k d cl:Nat) (h:Hp) (n:Nat)
theorem vload_ev (hk:30000≤k) (TA A:Option Addr) (T:List Tp) (L:List Rg) (tc gc:Nat) (hT:TabH h n TA T) (hS:∀ t∈T,t.fs.length≤20000) (hm:T.length≤9223372036854775807) (hR:RgH h n A L) (hl:L.length≤100) (a t dp:Int) (ha0:0≤a) (ha1:a<18446744073709551616) :
  SQ k (d+3100) cl 11 [.slice TA T.length tc,.slice A L.length gc,.int .u64 a,.int .i64 t,.int .i64 dp] h n (LdV (LoadR T L a t dp) h n):=by
 have qc0:=fun (h6:Hp) (n6:Nat) (hT6:TabH h6 n6 TA T)=>(vcheck_ev k (d+3089) n h6 n6 hk TA T tc hT6 hS hm t).mono (Φ':=fun v h' n'=>(∃ z:Int,v = .tuple ⟨[.int .i64 z,.int .i64 (okE T t)]⟩)∧h6=h'∧n6=n') fun _ _ _ hp=>⟨hp.1,hp.2.1.symm,hp.2.2.symm⟩
 by_cases hE:okE T t=0
 ·obtain ⟨x,rfl,ho⟩:=okE_0 hE
  simp only [hE] at qc0
  by_cases hdp:dp<0∨3<dp
  ·have e:LoadR T L a x dp = .error 2:=by unfold LoadR;rw [if_neg (not_not_intro hE),if_pos hdp]
   rw [e]
   refine enter Try.func11 kz rfl kz rfl rfl rfl ?_
   (repeat' first|refine zcd ?_|intro K' hK|(with_reducible refine zn hK ?_;clear hK)|((with_reducible apply o_callF (g:=37) w_none);(case ha=>exact ez0);(case hs=>((with_reducible apply qc0);exact ezT hT));(case' hk=>rintro _ h' n' ⟨⟨z,rfl⟩,rfl,rfl⟩))|((with_reducible first|apply zo1|apply zo2|apply o_guard rfl|apply x_cond|apply k_e1 rfl|apply k_e2 rfl|apply k_e0 rfl|apply k_e3 rfl|apply k_e4 rfl);(case he=>exact ez0);(try case hok=>exact ezO);all_goals try (intro hb;(try simp only [hbs,reduceCtorEq] at hb);try exact ezX))|((with_reducible apply o_undef rfl);(case hb=>exact ez0)))
   all_goals exact sw_flat rfl rfl ⟨rfl,by decide,rfl,rfl⟩
  ·have qf0:=fun (h6:Hp) (n6:Nat) (hR6:RgH h6 n6 A L)=>(findL_ev k (d+3093) n h6 n6 hk A L gc hR6 hl 0 1 zm zm zm zm).mono (Φ':=fun v h' n'=>v = .tuple ⟨[.int .i64 (findS L 0 1).1,.int .i64 (findS L 0 1).2]⟩∧h6=h'∧n6=n') fun _ _ _ hp=>⟨hp.1,hp.2.1.symm,hp.2.2.symm⟩
   by_cases hLE:lstE L=0
   ·have hC:=lstE_chk hLE
    have hz1:=siz_pos (x+1) ho zm
    have hz2:=ho.bnd
    have hal:alnT T x=1∨alnT T x=8:=(sizT_ok ho.chk ho.lt).2.2
    have e:LoadR T L a x dp=match fstI L a (sizT T x) 0 with
      | none=>.error 16
      | some i=>if a % alnT T x≠0 then .error 16 else match L[i]? with
       | none=>.error 0
       | some g=>loadP T L 1000 dp.toNat ((g.xs.drop (a - g.b).toNat).take (sizT T x).toNat) x:=by
     unfold LoadR
     rw [if_neg (not_not_intro hE),if_neg hdp,if_neg (not_not_intro hLE),Int.toNat_natCast]
    rw [e]
    have qz:=fun (h6:Hp) (n6:Nat) (hT6:TabH h6 n6 TA T)=>(lsize_ev k (d+3091) n h6 n6 hk TA T tc hT6 hS hm x).mono (Φ':=fun v h' n'=>v = .tuple ⟨[.int .i64 (sizT T x),.int .i64 (alnT T x),.int .i64 0]⟩∧h6=h'∧n6=n') fun _ _ _ hp=>⟨by rw [hp.1,ho.size];rfl,hp.2.1.symm,hp.2.2.symm⟩
    have qf1:=fun (h6:Hp) (n6:Nat) (w':Int) (hw':w'=sizT T x) (hR6:RgH h6 n6 A L)=>(findL_ev k (d+3093) n h6 n6 hk A L gc hR6 hl a w' ha0 ha1 zm zm).mono (Φ':=fun v h' n'=>v = .tuple ⟨[.int .i64 (findS L a (sizT T x)).1,.int .i64 (findS L a (sizT T x)).2]⟩∧h6=h'∧n6=n') fun _ _ _ hp=>⟨by rw [hp.1,hw'],hp.2.1.symm,hp.2.2.symm⟩
    have hf01:(findS L 0 1).2=0∨(findS L 0 1).2=6:=by
     unfold findS
     rw [if_neg (not_not_intro hLE),if_neg zm]
     split
     ·exact .inl rfl
     ·exact .inr rfl
    obtain ⟨F0,hF0⟩:∃ F0,findS L 0 1=F0:=⟨_,rfl⟩
    obtain ⟨F1,hF1⟩:∃ F1,findS L a (sizT T x)=F1:=⟨_,rfl⟩
    have hS1:F1=match fstI L a (sizT T x) 0 with
      | some i=>((i:Int),0)
      | none=>(0,6):=by
     rw [← hF1]
     unfold findS
     rw [if_neg (not_not_intro hLE),if_neg zm]
     rfl
    simp only [hF0] at qf0 hf01
    simp only [hF1] at qf1
    obtain ⟨f0,f0e⟩:=F0
    obtain ⟨f1,f1e⟩:=F1
    dsimp only at qf0 qf1 hf01
    have hszx:∃ z,sizT T x=z:=⟨_,rfl⟩
    obtain ⟨z0,hz0⟩:=hszx
    obtain ⟨al,hale⟩:∃ al,alnT T x=al:=⟨_,rfl⟩
    simp only [hz0] at qz qf1 hz1 hz2 hS1 ⊢
    simp only [hale] at qz hal ⊢
    cases hfi:fstI L a z0 0 with
    | none=>
     rw [hfi] at hS1
     injection hS1 with hS1 hS2
     subst hS1
     subst hS2
     dsimp only
     refine enter Try.func11 kz rfl kz rfl rfl rfl ?_
     (repeat' first|refine zcd ?_|intro K' hK|(with_reducible refine zn hK ?_;clear hK)|((with_reducible apply o_callF (g:=37) w_none);(case ha=>exact ez0);(case hs=>((with_reducible apply qc0);exact ezT hT));(case' hk=>rintro _ h' n' ⟨⟨z,rfl⟩,rfl,rfl⟩))|((with_reducible apply o_callF (g:=38) w_none);(case ha=>exact ez0);(case hs=>((first|with_reducible apply qf0|((with_reducible apply qf1);(case hw'=>first|omega|(split <;> omega))));exact ezG hR));(case' hk=>rintro _ h' n' ⟨rfl,rfl,rfl⟩))|((with_reducible apply o_callF (g:=27) w_none);(case ha=>exact ez0);(case hs=>((with_reducible apply qz);exact ezT hT));(case' hk=>rintro _ h' n' ⟨rfl,rfl,rfl⟩))|((with_reducible first|apply zo1|apply zo2|apply o_guard rfl|apply x_cond|apply k_e1 rfl|apply k_e2 rfl|apply k_e0 rfl|apply k_e3 rfl|apply k_e4 rfl);(case he=>exact ez0);(try case hok=>exact ezO);all_goals try (intro hb;(try simp only [hbs,reduceCtorEq] at hb);try exact ezX))|((with_reducible apply o_undef rfl);(case hb=>exact ez0)))
     all_goals exact sw_flat rfl rfl ⟨rfl,by decide,rfl,rfl⟩
    | some i=>
     rw [hfi] at hS1
     injection hS1 with hS1 hS2
     subst hS1
     subst hS2
     dsimp only
     obtain ⟨q,hq,eq,hin, -⟩:=fstI_some hfi
     obtain rfl:i=q:=by omega
     rw [List.getElem?_eq_getElem hq]
     obtain ⟨hi1,hi2⟩:=inb_iff.1 hin
     have hg:=hR.fd _ (List.getElem_mem hq)
     have hcg:=hC _ (List.getElem_mem hq)
     have hcb:=chkR_ok hcg
     obtain ⟨gid,goff,hgA,hgid,c1⟩:=hR.at_ hq
     subst hgA
     obtain ⟨G,hG⟩:∃ G,L[i]=G:=⟨_,rfl⟩
     rw [hG] at hi1 hi2 hg hcg hcb c1 ⊢
     dsimp only
     have hal2:a % al≠0∨a % al=0:=by omega
     rcases hal2 with hr|hr
     ·rw [if_pos hr]
      rcases hal with rfl|rfl
      ·omega
      ·refine enter Try.func11 kz rfl kz rfl rfl rfl ?_
       (repeat' first|refine zcd ?_|intro K' hK|(with_reducible refine zn hK ?_;clear hK)|((with_reducible apply o_callF (g:=37) w_none);(case ha=>exact ez0);(case hs=>((with_reducible apply qc0);exact ezT hT));(case' hk=>rintro _ h' n' ⟨⟨z,rfl⟩,rfl,rfl⟩))|((with_reducible apply o_callF (g:=38) w_none);(case ha=>exact ez0);(case hs=>((first|with_reducible apply qf0|((with_reducible apply qf1);(case hw'=>first|omega|(split <;> omega))));exact ezG hR));(case' hk=>rintro _ h' n' ⟨rfl,rfl,rfl⟩))|((with_reducible apply o_callF (g:=27) w_none);(case ha=>exact ez0);(case hs=>((with_reducible apply qz);exact ezT hT));(case' hk=>rintro _ h' n' ⟨rfl,rfl,rfl⟩))|((with_reducible apply o_callF (g:=39) w_none);(case ha=>exact ez0);(case hs=>((with_reducible apply qb);exact ezD hg));(case' hk=>rintro _ h' n' ⟨rfl,rfl,rfl⟩))|((with_reducible first|apply zo1|apply zo2|apply o_guard rfl|apply x_cond|apply k_e1 rfl|apply k_e2 rfl|apply k_e0 rfl|apply k_e3 rfl|apply k_e4 rfl);(case he=>exact ez0);(try case hok=>exact ezO);all_goals try (intro hb;(try simp only [hbs,reduceCtorEq] at hb);try exact ezX))|((with_reducible apply o_undef rfl);(case hb=>exact ez0)))
       all_goals exact sw_flat rfl rfl ⟨rfl,by decide,rfl,rfl⟩
     ·rw [if_neg (not_not_intro hr)]
      obtain ⟨w,rfl⟩:=Int.eq_ofNat_of_zero_le (show 0≤z0 by omega)
      obtain ⟨dn,rfl⟩:=Int.eq_ofNat_of_zero_le (show 0≤dp by omega)
      rw [Int.toNat_natCast,Int.toNat_natCast]
      obtain ⟨ys,hys⟩:∃ ys,(G.xs.drop (a - G.b).toNat).take w=ys:=⟨_,rfl⟩
      have hyl:ys.length=w:=by rw [← hys,List.length_take,List.length_drop];omega
      rw [hys]
      have qb:=fun (h6:Hp) (n6:Nat) (hg6:RdH h6 n6 G.A (bv G.xs))=>bytesG_ok k (d+3095) n h6 n6 G hg6 hcg a w hi1 zm ys hys hyl
      have ql0:=fun (h6:Hp) (n6 b:Nat) (hT6:TabH h6 n6 TA T) (hR6:RgH h6 n6 (some ⟨gid,goff,none⟩) L) (hB6:RdH h6 n6 (some ⟨b,0,none⟩) (bv ys))=>mload_ev k hk TA (some ⟨gid,goff,none⟩) T L tc gc hS ho.chk.1 hl hLE hC 1000 x dn ho zm (by have:=ho.lt;have:=ho.chk.1;omega) (d+79) n h6 n6 b 0 w w ys hT6 hR6 hyl.symm hB6 zm zm
      obtain ⟨res,hres⟩:∃ res,loadP T L 1000 dn ys x=res:=⟨_,rfl⟩
      simp only [hres] at ql0 ⊢
      cases res with
      | error e=>
       have ql:=fun (h6:Hp) (n6 b:Nat) (hT6:TabH h6 n6 TA T) (hR6:RgH h6 n6 (some ⟨gid,goff,none⟩) L) (hB6:RdH h6 n6 (some ⟨b,0,none⟩) (bv ys))=>(ql0 h6 n6 b hT6 hR6 hB6).mono (Φ':=fun v h' n'=>v = .tuple ⟨[.agg ⟨vcell 0 0 [] none 0 0 false⟩,.int .i64 e]⟩∧e≠0∧h6=h'∧n6=n') fun _ _ _ hp=>⟨hp.1,hp.2.1,hp.2.2.1.symm,hp.2.2.2.symm⟩
       rcases hal with rfl|rfl
       all_goals
        refine enter Try.func11 kz rfl kz rfl rfl rfl ?_
        (repeat' first|refine zcd ?_|intro K' hK|(with_reducible refine zn hK ?_;clear hK)|((with_reducible apply o_callF (g:=37) w_none);(case ha=>exact ez0);(case hs=>((with_reducible apply qc0);exact ezT hT));(case' hk=>rintro _ h' n' ⟨⟨z,rfl⟩,rfl,rfl⟩))|((with_reducible apply o_callF (g:=38) w_none);(case ha=>exact ez0);(case hs=>((first|with_reducible apply qf0|((with_reducible apply qf1);(case hw'=>first|omega|(split <;> omega))));exact ezG hR));(case' hk=>rintro _ h' n' ⟨rfl,rfl,rfl⟩))|((with_reducible apply o_callF (g:=27) w_none);(case ha=>exact ez0);(case hs=>((with_reducible apply qz);exact ezT hT));(case' hk=>rintro _ h' n' ⟨rfl,rfl,rfl⟩))|((with_reducible apply o_callF (g:=39) w_none);(case ha=>exact ez0);(case hs=>((with_reducible apply qb);exact ezD hg));(case' hk=>rintro _ h' n' ⟨rfl,rfl,rfl⟩))|((with_reducible apply o_callF (g:=40) w_none);(case ha=>exact ez0);(case hs=>((with_reducible apply ql);(all_goals first|exact ezT hT|exact ezG hR|exact RdH.row zm)));(case' hk=>rintro _ h' n' ⟨rfl,he0,rfl,rfl⟩))|((with_reducible first|apply zo1|apply zo2|apply o_guard rfl|apply x_cond|apply k_e1 rfl|apply k_e2 rfl|apply k_e0 rfl|apply k_e3 rfl|apply k_e4 rfl);(case he=>exact ez1 c1);(try case hok=>exact ezO);all_goals try (intro hb;(try simp only [hbs,reduceCtorEq] at hb);try exact ezX))|((with_reducible apply o_undef rfl);(case hb=>exact ez0)))
        all_goals exact sw_flat rfl rfl ⟨rfl,he0,rfl,rfl⟩
      | ok xv=>
       have ql:=fun (h6:Hp) (n6 b:Nat) (hT6:TabH h6 n6 TA T) (hR6:RgH h6 n6 (some ⟨gid,goff,none⟩) L) (hB6:RdH h6 n6 (some ⟨b,0,none⟩) (bv ys))=>(ql0 h6 n6 b hT6 hR6 hB6).mono (Φ':=fun v h' n'=>∃ A1 cc1,v = .tuple ⟨[.agg ⟨vcell xv.kd xv.i xv.s A1 xv.l.length cc1 xv.c⟩,.int .i64 0]⟩∧FH h' n6 n' xv (vcell xv.kd xv.i xv.s A1 xv.l.length cc1 xv.c)∧n6≤n'∧∀ b,b<n6→h'.get b=h6.get b) fun v h' n' ⟨cs,e1,hf,a,b⟩=>by
        obtain ⟨A1,cc1,rfl⟩:=hf.cells
        exact ⟨A1,cc1,e1,hf,a,b⟩
       rcases hf01 with rfl|rfl <;> rcases hal with rfl|rfl
       all_goals
        refine enter Try.func11 kz rfl kz rfl rfl rfl ?_
        (repeat' first|refine zcd ?_|intro K' hK|(with_reducible refine zn hK ?_;clear hK)|((with_reducible apply o_callF (g:=37) w_none);(case ha=>exact ez0);(case hs=>((with_reducible apply qc0);exact ezT hT));(case' hk=>rintro _ h' n' ⟨⟨z,rfl⟩,rfl,rfl⟩))|((with_reducible apply o_callF (g:=38) w_none);(case ha=>exact ez0);(case hs=>((first|with_reducible apply qf0|((with_reducible apply qf1);(case hw'=>first|omega|(split <;> omega))));exact ezG hR));(case' hk=>rintro _ h' n' ⟨rfl,rfl,rfl⟩))|((with_reducible apply o_callF (g:=27) w_none);(case ha=>exact ez0);(case hs=>((with_reducible apply qz);exact ezT hT));(case' hk=>rintro _ h' n' ⟨rfl,rfl,rfl⟩))|((with_reducible apply o_callF (g:=39) w_none);(case ha=>exact ez0);(case hs=>((with_reducible apply qb);exact ezD hg));(case' hk=>rintro _ h' n' ⟨rfl,rfl,rfl⟩))|((with_reducible apply o_callF (g:=40) w_none);(case ha=>exact ez0);(case hs=>((with_reducible apply ql);(all_goals first|exact ezT hT|exact ezG hR|exact RdH.row zm)));(case' hk=>rintro _ h' n' ⟨A1,cc1,rfl,hfx,hn6,hk6⟩))|((with_reducible first|apply zo1|apply zo2|apply o_guard rfl|apply x_cond|apply k_e1 rfl|apply k_e2 rfl|apply k_e0 rfl|apply k_e3 rfl|apply k_e4 rfl);(case he=>exact ez1 c1);(try case hok=>exact ezO);all_goals try (intro hb;(try simp only [hbs,reduceCtorEq] at hb);try exact ezX))|((with_reducible apply o_undef rfl);(case hb=>exact ez0)))
        have r8:rowOf h' n=some (32,false,vcell 0 0 [] none 0 0 false):=by
         rw [rowOf_keep (hk6 _ zm)]
         simp (disch:=first|assumption|omega|rfl|decide) only [go_sem,seval,tys]
         try rfl
        have w8:=rwOf_row r8
        (repeat' first|refine zcd ?_|intro K' hK|(with_reducible refine zn hK ?_;clear hK)|fail|((with_reducible first|apply zo1|apply zo2|apply o_guard rfl|apply x_cond|apply k_e1 rfl|apply k_e2 rfl|apply k_e0 rfl|apply k_e3 rfl|apply k_e4 rfl);(case he=>exact ez1 w8);(try case hok=>exact ezO);all_goals try (intro hb;(try simp only [hbs,reduceCtorEq] at hb);try exact ezX))|((with_reducible apply o_undef rfl);(case hb=>exact ez0)))
        refine sw_fh (hfx.keep zm (Nat.le_refl _) fun b hb1 hb2=>by (repeat rw [Hp.get_ne _ _ zm])) zm (fun b hb=>by (repeat rw [Hp.get_ne _ _ zm]);rw [hk6 _ zm];(repeat rw [Hp.get_ne _ _ zm])) fun cs2 h2 n2 a b c=>⟨cs2,rfl,a,b,c⟩
   ·have e:LoadR T L a x dp = .error (lstE L):=by unfold LoadR;rw [if_neg (not_not_intro hE),if_neg hdp,if_pos hLE]
    have eS:findS L 0 1=(0,lstE L):=by unfold findS;rw [if_pos hLE]
    have h6:lstE L≠6:=by
     unfold lstE
     repeat' split
     all_goals decide
    rw [e]
    simp only [eS] at qf0
    obtain ⟨E,hEe⟩:∃ E,lstE L=E:=⟨_,rfl⟩
    simp only [hEe] at qf0 hLE h6 ⊢
    refine enter Try.func11 kz rfl kz rfl rfl rfl ?_
    (repeat' first|refine zcd ?_|intro K' hK|(with_reducible refine zn hK ?_;clear hK)|((with_reducible apply o_callF (g:=37) w_none);(case ha=>exact ez0);(case hs=>((with_reducible apply qc0);exact ezT hT));(case' hk=>rintro _ h' n' ⟨⟨z,rfl⟩,rfl,rfl⟩))|((with_reducible apply o_callF (g:=38) w_none);(case ha=>exact ez0);(case hs=>((with_reducible apply qf0);exact ezG hR));(case' hk=>rintro _ h' n' ⟨rfl,rfl,rfl⟩))|((with_reducible first|apply zo1|apply zo2|apply o_guard rfl|apply x_cond|apply k_e1 rfl|apply k_e2 rfl|apply k_e0 rfl|apply k_e3 rfl|apply k_e4 rfl);(case he=>exact ez0);(try case hok=>exact ezO);all_goals try (intro hb;(try simp only [hbs,reduceCtorEq] at hb);try exact ezX))|((with_reducible apply o_undef rfl);(case hb=>exact ez0)))
    all_goals exact sw_flat rfl rfl ⟨rfl,hLE,rfl,rfl⟩
 ·have e:LoadR T L a t dp = .error (okE T t):=by unfold LoadR;rw [if_pos hE]
  rw [e]
  obtain ⟨E,hEe⟩:∃ E,okE T t=E:=⟨_,rfl⟩
  simp only [hEe] at qc0 hE ⊢
  refine enter Try.func11 kz rfl kz rfl rfl rfl ?_
  (repeat' first|refine zcd ?_|intro K' hK|(with_reducible refine zn hK ?_;clear hK)|((with_reducible apply o_callF (g:=37) w_none);(case ha=>exact ez0);(case hs=>((with_reducible apply qc0);exact ezT hT));(case' hk=>rintro _ h' n' ⟨⟨z,rfl⟩,rfl,rfl⟩))|((with_reducible first|apply zo1|apply zo2|apply o_guard rfl|apply x_cond|apply k_e1 rfl|apply k_e2 rfl|apply k_e0 rfl|apply k_e3 rfl|apply k_e4 rfl);(case he=>exact ez0);(try case hok=>exact ezO);all_goals try (intro hb;(try simp only [hbs,reduceCtorEq] at hb);try exact ezX))|((with_reducible apply o_undef rfl);(case hb=>exact ez0)))
  all_goals exact sw_flat rfl rfl ⟨rfl,hE,rfl,rfl⟩
end
section
open Go.RowKit
variable (k d cl:Nat) (h:Hp) (n:Nat)
theorem rasked15_ev (hk:30000≤k) (A:Option Addr) (T:List Tp) (c:Nat) (hT:TabH h n A T) (hS:∀ t∈T,t.fs.length≤20000) (hm:T.length≤9223372036854775807) (t:Int) :
  SQ k (d+12) cl 36 [.slice A T.length c,.int .i64 t] h n fun v h' n'=>v = .int .i64 (okE T t)∧h=h'∧n=n':=by
 have qs:=fun (h6:Hp) (n6:Nat) (t:Int) (hT6:TabH h6 n6 A T)=>(rsize_ev5 k (d+2) n h6 n6 hk A T c hT6 hS hm t).mono (Φ':=fun v h' n'=>v = .tuple ⟨[.int .i64 (szR 1048576 T t).1,.int .i64 (szR 1048576 T t).2.1,.int .i64 (szR 1048576 T t).2.2]⟩∧h6=h'∧n6=n') fun _ _ _ hp=>⟨by rw [hp.1,szR_eq],hp.2.1.symm,hp.2.2.symm⟩
 by_cases he:(szR 1048576 T t).2.2=0
 ·obtain ⟨hC,ht, -⟩:=szR_0 he
  obtain ⟨i,rfl⟩:=Int.eq_ofNat_of_zero_le ht.1
  have q1:=qs h n i hT
  rw [he] at q1
  have q2:=(rreached_ev k (d+8) n h n hk A T c hT hC.1 hC.2.1 i zm).mono (Φ':=IntsR (reachL T i) h n) fun _ _ _ hv=>IntsV.rd hv
  have hrl:=reach_len T i
  have hl:=hC.1
  have hok0:(∀ x∈reachL T i,(szR 1048576 T x).2.2=0)→okE T i=0:=fun hb=>by unfold okE;rw [if_neg (not_not_intro he),Int.toNat_natCast,if_pos hb]
  have hok1:(¬ ∀ x∈reachL T i,(szR 1048576 T x).2.2=0)→okE T i=16:=fun hb=>by unfold okE;rw [if_neg (not_not_intro he),Int.toNat_natCast,if_neg hb]
  obtain ⟨rl,hrle⟩:∃ rl,reachL T i=rl:=⟨_,rfl⟩
  have hmem:∀ x∈rl,0≤x∧x<T.length:=fun x hx=>by
   rw [← hrle] at hx
   obtain ⟨y,rfl,hy, -⟩:=reach_mem.1 hx
   omega
  rw [hrle] at q2 hrl hok0 hok1
  obtain ⟨E,hEe⟩:∃ E,okE T i=E:=⟨_,rfl⟩
  rw [hEe]
  refine enter Try.func36 kz rfl kz rfl rfl rfl ?_
  (repeat' first|refine zcd ?_|intro K' hK|(with_reducible refine zn hK ?_;clear hK)|((with_reducible apply o_callF (g:=42) w_none);(case ha=>exact ez0);(case hs=>(exact q1));(case' hk=>rintro _ h' n' ⟨rfl,rfl,rfl⟩))|((with_reducible apply o_callF (g:=58) w_none);(case ha=>exact ez0);(case hs=>(exact q2));(case' hk=>rintro _ h' n' ⟨RA,rc,rfl,hrR,hRn,hn2,hk2⟩))|((with_reducible first|apply zo1|apply zo2|apply o_guard rfl|apply x_cond|apply k_e1 rfl|apply k_e2 rfl|apply k_e0 rfl|apply k_e3 rfl|apply k_e4 rfl);(case he=>exact ez0);(try case hok=>exact ezO);all_goals try (intro hb;(try simp only [hbs,reduceCtorEq] at hb);try exact ezX))|((with_reducible apply o_undef rfl);(case hb=>exact ez0)))
  refine x_loopF [4,9,10,11,12,26,27,28,29,30,31,32,33,34,35,36,37,38,39,40,41,42,43,44] [9] (fun m vs=>∃ q:Nat,m=rl.length - q∧q≤rl.length∧vs=[.int .i64 q]∧∀ x∈rl.take q,(szR 1048576 T x).2.2=0) rl.length rfl zm ⟨0,rfl,by omega,ez0,by simp⟩ ?_
  rintro m g _ ⟨q,rfl,hq,rfl,hall⟩
  by_cases hql:q<rl.length
  ·obtain ⟨rid,rof,hRA, -,c1⟩:=int_at hrR hql
   subst hRA
   have hxm:=hmem rl[q] (List.getElem_mem hql)
   obtain ⟨x,hx⟩:∃ x,rl[q]=x:=⟨_,rfl⟩
   rw [hx] at c1 hxm
   have q3:=qs h' n' x ((hT.keep (Nat.le_refl _) hk2).more hn2)
   by_cases hx0:(szR 1048576 T x).2.2=0
   ·rw [hx0] at q3
    (repeat' first|refine zcd ?_|intro K' hK|(with_reducible refine zn hK ?_;clear hK)|((with_reducible apply o_callF (g:=42) w_none);(case ha=>exact ez0);(case hs=>(exact q3));(case' hk=>rintro _ h' n' ⟨rfl,rfl,rfl⟩))|((with_reducible first|apply zo1|apply zo2|apply o_guard rfl|apply x_cond|apply k_e1 rfl|apply k_e2 rfl|apply k_e0 rfl|apply k_e3 rfl|apply k_e4 rfl);(case he=>exact ez1 c1);(try case hok=>exact ezO);all_goals try (intro hb;(try simp only [hbs,reduceCtorEq] at hb);try exact ezX))|((with_reducible apply o_undef rfl);(case hb=>exact ez0)))
    refine k_round (rl.length - (q+1)) zm ⟨⟨rfl,rfl⟩,q+1,rfl,by omega,ez0,fun y hy=>?_⟩
    rw [List.take_succ_eq_append_getElem hql] at hy
    rcases List.mem_append.1 hy with hy|hy
    ·exact hall y hy
    ·obtain rfl:=List.mem_singleton.1 hy
     rw [hx]
     exact hx0
   ·have h16:=szR_err hC hxm hx0
    have hE:E=16:=by rw [← hEe,hok1 fun hh=>hx0 (hh x (by rw [← hx];exact List.getElem_mem hql))]
    rw [h16] at q3
    subst hE
    (repeat' first|refine zcd ?_|intro K' hK|(with_reducible refine zn hK ?_;clear hK)|((with_reducible apply o_callF (g:=42) w_none);(case ha=>exact ez0);(case hs=>(exact q3));(case' hk=>rintro _ h' n' ⟨rfl,rfl,rfl⟩))|((with_reducible first|apply zo1|apply zo2|apply o_guard rfl|apply x_cond|apply k_e1 rfl|apply k_e2 rfl|apply k_e0 rfl|apply k_e3 rfl|apply k_e4 rfl);(case he=>exact ez1 c1);(try case hok=>exact ezO);all_goals try (intro hb;(try simp only [hbs,reduceCtorEq] at hb);try exact ezX))|((with_reducible apply o_undef rfl);(case hb=>exact ez0)))
    all_goals exact sw_flat rfl rfl ⟨rfl,rfl,rfl⟩
  ·obtain rfl:q=rl.length:=by omega
   rw [List.take_length] at hall
   have hE:E=0:=by rw [← hEe,hok0 hall]
   subst hE
   (repeat' first|refine zcd ?_|intro K' hK|(with_reducible refine zn hK ?_;clear hK)|fail|((with_reducible first|apply zo1|apply zo2|apply o_guard rfl|apply x_cond|apply k_e1 rfl|apply k_e2 rfl|apply k_e0 rfl|apply k_e3 rfl|apply k_e4 rfl);(case he=>exact ez0);(try case hok=>exact ezO);all_goals try (intro hb;(try simp only [hbs,reduceCtorEq] at hb);try exact ezX))|((with_reducible apply o_undef rfl);(case hb=>exact ez0)))
   all_goals exact sw_flat rfl rfl ⟨rfl,rfl,rfl⟩
 ·have e:okE T t=(szR 1048576 T t).2.2:=by unfold okE;rw [if_pos he]
  rw [e]
  have q1:=qs h n t hT
  obtain ⟨E,hE⟩:∃ E,(szR 1048576 T t).2.2=E:=⟨_,rfl⟩
  rw [hE] at q1 he ⊢
  refine enter Try.func36 kz rfl kz rfl rfl rfl ?_
  (repeat' first|refine zcd ?_|intro K' hK|(with_reducible refine zn hK ?_;clear hK)|((with_reducible apply o_callF (g:=42) w_none);(case ha=>exact ez0);(case hs=>(exact q1));(case' hk=>rintro _ h' n' ⟨rfl,rfl,rfl⟩))|((with_reducible first|apply zo1|apply zo2|apply o_guard rfl|apply x_cond|apply k_e1 rfl|apply k_e2 rfl|apply k_e0 rfl|apply k_e3 rfl|apply k_e4 rfl);(case he=>exact ez0);(try case hok=>exact ezO);all_goals try (intro hb;(try simp only [hbs,reduceCtorEq] at hb);try exact ezX))|((with_reducible apply o_undef rfl);(case hb=>exact ez0)))
  all_goals exact sw_flat rfl rfl ⟨rfl,rfl,rfl⟩
end
section
open Go.RowKit
def FhV (x:V) (h:Hp) (n:Nat) (v:Value) (h':Hp) (n':Nat):Prop:=∃ cs,v = .agg ⟨cs⟩∧FH h' n n' x cs∧n≤n'∧∀ b,b<n→h'.get b=h.get b
section
variable {h h':Hp} {n n':Nat} {Φ:Value→Hp→Nat→Prop}
theorem sw_fh1 {x:V} {cs:List Value} (hf:FH h' n n' x cs) (hn:n≤n') (hkeep:∀ b,b<n→h'.get b=h.get b)
  (hk:∀ cs2 h2 n2,FH h2 n n2 x cs2→n≤n2→(∀ b,b<n→h2.get b=h.get b)→Φ (.agg ⟨cs2⟩) h2 n2):kSweep h n Φ (.agg ⟨cs⟩) h' n':=by
 cases hf with
 | leaf kd i s c=>exact sw_flat rfl rfl (hk _ h n (.leaf kd i s c) (Nat.le_refl _) fun _ _=>rfl)
 | node kd i s c l id rows hl a b hr hlen hkk=>
  have hid:idV n (.agg ⟨vcell kd i s (some ⟨id,0,none⟩) l.length l.length c⟩)=[id]:=by
   show ((bif Nat.ble n id then [id] else []) ++ [])=[id]
   rw [ble_t a]
   rfl
  by_cases hp:∀ u∈rows,idA n u=[]
  ·refine sw_row (v':=.agg ⟨vcell kd i s (some ⟨n,0,none⟩) l.length l.length c⟩) hid rfl b hr hp ?_ ?_
   ·show Value.agg ⟨vcell kd i s (some ⟨reN n [id] id,0,none⟩) l.length l.length c⟩=_
    rw [reN_hit]
   ·refine hk _ _ _ (.node kd i s c l n rows hl (Nat.le_refl _) zm (rowOf_same _ _ _ _ _) hlen fun j hj=>?_) zm fun b hb=>Hp.get_ne _ _ zm
    exact (hkk j hj).plain (fun u hu=>hp u (List.mem_of_mem_drop (List.mem_of_mem_take hu))) _ _
  ·have hp2:∃ u∈rows,idA n u≠[]:=Classical.byContradiction fun hh=>hp fun u hu=>Classical.byContradiction fun h2=>hh ⟨u,hu,h2⟩
   obtain ⟨u,hu,hi⟩:=hp2
   exact sw_keep hid hr hu hi (hk _ h' n' (.node kd i s c l id rows hl a b hr hlen hkk) hn hkeep)
end
variable (k d cl:Nat) (h:Hp) (n:Nat)
end
end Go.Proofs.Ytcpkdjikembpnaa.Ce
