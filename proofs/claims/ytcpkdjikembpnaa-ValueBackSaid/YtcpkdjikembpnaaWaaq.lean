/- Parts of the proof of ValueBack: Ko, Kq, Mca, Je. No condition of its own. -/
import Derived.Test.YtcpkdjikembpnaaWaal
import Derived.Test.YtcpkdjikembpnaaWaan
import Derived.Test.YtcpkdjikembpnaaWaao
import Derived.Test.YtcpkdjikembpnaaWaap
set_option linter.unusedVariables false
set_option linter.unusedSimpArgs false
set_option maxRecDepth 1000000
set_option maxHeartbeats 4000000
namespace Go.Proofs.Ytcpkdjikembpnaa.Ce
section
open Go.RowKit
variable (k d cl:Nat) (h:Hp) (n:Nat)
theorem fldsB_all {i:Nat} {fs:List (List UInt8 × Int)} (h1:fs.all (fldB i)=true) (h2:(fs.map (·.1)).Nodup):fldsB i fs=true:=by unfold fldsB;rw [h1,decide_eq_true h2];rfl
theorem pfine_b (hk:30000≤k) (A:Option Addr) (T:List Tp) (c:Nat) (hT:TabH h n A T) (i:Nat) (hi:i<T.length) (hl:T.length≤100) (hl2:T[i].fs.length≤20000) (h5:T[i].kd=5) :
  SQ k (d+5) cl 115 [.slice A T.length c,.int .i64 i] h n fun v h' n'=>v = .bool (fineB T.length i T[i])∧h'=h∧n'=n:=by
 obtain ⟨id,off,rfl,hid,ht4,ht0,ht1,ht2,ht3⟩:=hT.at_ hi
 have hfd:=hT.fd _ (List.getElem_mem hi)
 have hbd:=hT.bd _ (List.getElem_mem hi)
 obtain ⟨t,htt⟩:∃ t,T[i]=t:=⟨_,rfl⟩
 rw [htt] at h5 hl2 ht4 ht0 ht1 ht2 ht3 hfd hbd ⊢
 obtain ⟨kd,el,ln,fs,FA,fc⟩:=t
 dsimp only at h5 hl2 ht4 ht0 ht1 ht2 ht3 hfd
 subst h5
 have hf5:=@fineB_5 T.length i ⟨5,el,ln,fs,FA,fc⟩ rfl
 dsimp only at hf5
 refine enter Try.func115 kz rfl kz rfl rfl rfl ?_
 (repeat' first|refine zcd ?_|intro K' hK|(with_reducible refine zn hK ?_;clear hK)|fail|((with_reducible first|apply zo1|apply zo2|apply o_guard rfl|apply x_cond|apply k_e1 rfl|apply k_e2 rfl|apply k_e0 rfl|apply k_e3 rfl|apply k_e4 rfl);(case he=>exact ez1 ht4);(try case hok=>exact ezO);all_goals try (intro hb;(try simp only [hbs,reduceCtorEq] at hb);try exact ezX))|((with_reducible apply o_undef rfl);(case hb=>exact ez0)))
 refine x_loopV [4,9,74,75,76,77,78,79,80,81,82,83,84,85,86,87,88,89,90,91,92,93,94,95,96,97,98,99] [74] (fun m vs h' n'=>∃ q:Nat,m=fs.length - q∧q≤fs.length∧vs=[.int .i64 q]∧RdH h' n FA (fv fs)∧rowOf h' n=some (64,false,[.int .u8 5,.int .i64 el,.int .i64 ln,.slice FA fs.length fc])∧n+1+1≤n' ∧
   (∃ es c,mapOf h' (n+1)=some (es,c)∧Es es ((fs.take q).map (·.1)))∧(fs.take q).all (fldB i)=true∧((fs.take q).map (·.1)).Nodup) fs.length rfl zm ?_ ?_
 ·exact ⟨0,rfl,by omega,by simp (disch:=first|assumption|omega|rfl|decide) only [go_sem,seval,tys] <;> rfl,by exact ezD hfd,by simp (disch:=first|assumption|omega|rfl|decide) only [go_sem,seval,tys],by omega,⟨#[],0,by simp (disch:=omega) only [mapOf_ne2,mapOf_same],rfl⟩,rfl,by simp⟩
 ·rintro m g _ h' n' ⟨q,rfl,hq,rfl,r2,q0,hn,⟨es,c9,hmp,hes⟩,hall,hnd⟩
  have c0:=fun o q=>cellsAt_row (off:=o) (k:=q) q0
  have d0:=fun o=>cellAt_row (off:=o) q0
  by_cases hqf:q<fs.length
  ·obtain ⟨id2,off2,rfl,hid2,hf2,hfa,hfb⟩:=fld_at r2 hqf
   obtain ⟨f,hff⟩:∃ f,fs[q]=f:=⟨_,rfl⟩
   obtain ⟨s,ty⟩:=f
   rw [hff] at hf2 hfa hfb
   dsimp only at hf2 hfa hfb
   have htk:(fs.take (q+1))=fs.take q ++ [(s,ty)]:=by rw [List.take_succ_eq_append_getElem hqf,hff]
   cases hnm:namedB s
   ·have hno:fldsB i fs=false:=fldsB_no hqf (by rw [hff];unfold fldB;dsimp only;rw [hnm];rfl)
    (repeat' first|refine zcd ?_|intro K' hK|(with_reducible refine zn hK ?_;clear hK)|((with_reducible apply o_callF (g:=129) w_none);(case ha=>exact ez0);(case hs=>exact pnamed_ev (hk:=hk) ..);(case' hk=>rintro _ h' n' ⟨rfl,rfl,rfl⟩))|((with_reducible apply o_look w_none);(case hx=>(simp (disch:=first|assumption|omega|rfl|decide) only [go_sem,seval,tys] <;> rfl));(case hy=>(simp (disch:=first|assumption|omega|rfl|decide) only [go_sem,seval,tys] <;> rfl));(case hm=>(simp (disch:=omega) only [mapOf_ne2];exact hmp));(case he=>exact hes))|((with_reducible apply o_mput w_none);(case hx=>(simp (disch:=first|assumption|omega|rfl|decide) only [go_sem,seval,tys] <;> rfl));(case hy=>(simp (disch:=first|assumption|omega|rfl|decide) only [go_sem,seval,tys] <;> rfl));(case hz=>rfl);(case hm=>(simp (disch:=omega) only [mapOf_ne2];exact hmp));(case he=>exact hes);(case hs=>assumption);(case hl=>omega))|((with_reducible first|apply zo1|apply zo2|apply o_guard rfl|apply x_cond|apply k_e1 rfl|apply k_e2 rfl|apply k_e0 rfl|apply k_e3 rfl|apply k_e4 rfl);(case he=>exact ez4 c0 d0 hf2 hnm);(try case hok=>exact ezO);all_goals try (intro hb;(try simp only [hbs,reduceCtorEq] at hb);try exact ezX))|((with_reducible apply o_undef rfl);(case hb=>exact ez0)))
    all_goals exact sw_flat rfl rfl ⟨by rw [hf5,hno];rfl,rfl,rfl⟩
   ·cases hin:decide (s∈(fs.take q).map (·.1))
    ·have hin':=of_decide_eq_false hin
     cases hw:decide (0≤ty∧ty<(i:Int))
     ·have hno:fldsB i fs=false:=fldsB_no hqf (by rw [hff];unfold fldB;dsimp only;rw [hnm,hw];rfl)
      (repeat' first|refine zcd ?_|intro K' hK|(with_reducible refine zn hK ?_;clear hK)|((with_reducible apply o_callF (g:=129) w_none);(case ha=>exact ez0);(case hs=>exact pnamed_ev (hk:=hk) ..);(case' hk=>rintro _ h' n' ⟨rfl,rfl,rfl⟩))|((with_reducible apply o_look w_none);(case hx=>(simp (disch:=first|assumption|omega|rfl|decide) only [go_sem,seval,tys] <;> rfl));(case hy=>(simp (disch:=first|assumption|omega|rfl|decide) only [go_sem,seval,tys] <;> rfl));(case hm=>(simp (disch:=omega) only [mapOf_ne2];exact hmp));(case he=>exact hes))|((with_reducible apply o_mput w_none);(case hx=>(simp (disch:=first|assumption|omega|rfl|decide) only [go_sem,seval,tys] <;> rfl));(case hy=>(simp (disch:=first|assumption|omega|rfl|decide) only [go_sem,seval,tys] <;> rfl));(case hz=>rfl);(case hm=>(simp (disch:=omega) only [mapOf_ne2];exact hmp));(case he=>exact hes);(case hs=>assumption);(case hl=>omega))|((with_reducible apply o_callV (g:=127) w_none);(case hx=>exact ez0);(case ha=>exact ez0);(case hs=>exact within_ev ..);(case' hk=>rintro _ h' n' ⟨rfl,rfl,rfl⟩))|((with_reducible first|apply zo1|apply zo2|apply o_guard rfl|apply x_cond|apply k_e1 rfl|apply k_e2 rfl|apply k_e0 rfl|apply k_e3 rfl|apply k_e4 rfl);(case he=>exact ez6 c0 d0 hf2 hnm hin hw);(try case hok=>exact ezO);all_goals try (intro hb;(try simp only [hbs,reduceCtorEq] at hb);try exact ezX))|((with_reducible apply o_undef rfl);(case hb=>exact ez0)))
      all_goals exact sw_flat rfl rfl ⟨by rw [hf5,hno];rfl,rfl,rfl⟩
     ·(repeat' first|refine zcd ?_|intro K' hK|(with_reducible refine zn hK ?_;clear hK)|((with_reducible apply o_callF (g:=129) w_none);(case ha=>exact ez0);(case hs=>exact pnamed_ev (hk:=hk) ..);(case' hk=>rintro _ h' n' ⟨rfl,rfl,rfl⟩))|((with_reducible apply o_look w_none);(case hx=>(simp (disch:=first|assumption|omega|rfl|decide) only [go_sem,seval,tys] <;> rfl));(case hy=>(simp (disch:=first|assumption|omega|rfl|decide) only [go_sem,seval,tys] <;> rfl));(case hm=>(simp (disch:=omega) only [mapOf_ne2];exact hmp));(case he=>exact hes))|((with_reducible apply o_mput w_none);(case hx=>(simp (disch:=first|assumption|omega|rfl|decide) only [go_sem,seval,tys] <;> rfl));(case hy=>(simp (disch:=first|assumption|omega|rfl|decide) only [go_sem,seval,tys] <;> rfl));(case hz=>rfl);(case hm=>(simp (disch:=omega) only [mapOf_ne2];exact hmp));(case he=>exact hes);(case hs=>assumption);(case hl=>omega))|((with_reducible apply o_callV (g:=127) w_none);(case hx=>exact ez0);(case ha=>exact ez0);(case hs=>exact within_ev ..);(case' hk=>rintro _ h' n' ⟨rfl,rfl,rfl⟩))|((with_reducible first|apply zo1|apply zo2|apply o_guard rfl|apply x_cond|apply k_e1 rfl|apply k_e2 rfl|apply k_e0 rfl|apply k_e3 rfl|apply k_e4 rfl);(case he=>exact ez6 c0 d0 hf2 hnm hin hw);(try case hok=>exact ezO);all_goals try (intro hb;(try simp only [hbs,reduceCtorEq] at hb);try exact ezX))|((with_reducible apply o_undef rfl);(case hb=>exact ez0)))
      refine k_round (fs.length - (q+1)) zm ⟨q+1,rfl,by omega,by simp (disch:=first|assumption|omega|rfl|decide) only [go_sem,seval,tys] <;> rfl,by exact ezD r2,by simp (disch:=first|assumption|omega|rfl|decide) only [go_sem,seval,tys,q0],by omega,⟨es.push ⟨.string ⟨⟨s⟩⟩,.bool true,c9⟩,c9+1,by simp (disch:=omega) only [mapOf_ne2,mapOf_same],by rw [htk,List.map_append];exact hes.push⟩,?_,?_⟩
      ·rw [htk,List.all_append,hall]
       simp [fldB,hnm,hw]
      ·rw [htk,List.map_append,List.nodup_append]
       refine ⟨hnd,by simp,?_⟩
       intro a ha b hb
       simp at hb
       subst hb
       intro e
       exact hin' (e ▸ ha)
    ·have hno:fldsB i fs=false:=fldsB_dup hqf (by rw [hff];exact of_decide_eq_true hin)
     (repeat' first|refine zcd ?_|intro K' hK|(with_reducible refine zn hK ?_;clear hK)|((with_reducible apply o_callF (g:=129) w_none);(case ha=>exact ez0);(case hs=>exact pnamed_ev (hk:=hk) ..);(case' hk=>rintro _ h' n' ⟨rfl,rfl,rfl⟩))|((with_reducible apply o_look w_none);(case hx=>(simp (disch:=first|assumption|omega|rfl|decide) only [go_sem,seval,tys] <;> rfl));(case hy=>(simp (disch:=first|assumption|omega|rfl|decide) only [go_sem,seval,tys] <;> rfl));(case hm=>(simp (disch:=omega) only [mapOf_ne2];exact hmp));(case he=>exact hes))|((with_reducible apply o_mput w_none);(case hx=>(simp (disch:=first|assumption|omega|rfl|decide) only [go_sem,seval,tys] <;> rfl));(case hy=>(simp (disch:=first|assumption|omega|rfl|decide) only [go_sem,seval,tys] <;> rfl));(case hz=>rfl);(case hm=>(simp (disch:=omega) only [mapOf_ne2];exact hmp));(case he=>exact hes);(case hs=>assumption);(case hl=>omega))|((with_reducible apply o_callV (g:=127) w_none);(case hx=>exact ez0);(case ha=>exact ez0);(case hs=>exact within_ev ..);(case' hk=>rintro _ h' n' ⟨rfl,rfl,rfl⟩))|((with_reducible first|apply zo1|apply zo2|apply o_guard rfl|apply x_cond|apply k_e1 rfl|apply k_e2 rfl|apply k_e0 rfl|apply k_e3 rfl|apply k_e4 rfl);(case he=>exact ez5 c0 d0 hf2 hnm hin);(try case hok=>exact ezO);all_goals try (intro hb;(try simp only [hbs,reduceCtorEq] at hb);try exact ezX))|((with_reducible apply o_undef rfl);(case hb=>exact ez0)))
     all_goals exact sw_flat rfl rfl ⟨by rw [hf5,hno];rfl,rfl,rfl⟩
  ·obtain rfl:q=fs.length:=by omega
   rw [List.take_length] at hall hnd
   have hyes:=fldsB_all hall hnd
   have hz:decide (el=0∧ln=0∧0<fs.length∧fs.length≤8)=([el,ln].all (· == 0) && (decide ((0:Int)<fs.length) && decide ((fs.length:Int)≤8))):=by
    rw [Bool.eq_iff_iff];simp only [decide_eq_true_eq,Bool.and_eq_true,List.all_cons,List.all_nil,Bool.and_true,beq_iff_eq];omega
   (repeat' first|refine zcd ?_|intro K' hK|(with_reducible refine zn hK ?_;clear hK)|((with_reducible apply o_callF (g:=128) w_none);(case ha=>exact ez0);(case hs=>((with_reducible apply zero_ev (l:=[el,ln]));(case hk=>exact hk);(case hm=>rfl);(case hr=>exact RdH.row zm);(case hl=>simp)));(case' hk=>rintro _ h' n' ⟨rfl,rfl,rfl⟩))|((with_reducible first|apply zo1|apply zo2|apply o_guard rfl|apply x_cond|apply k_e1 rfl|apply k_e2 rfl|apply k_e0 rfl|apply k_e3 rfl|apply k_e4 rfl);(case he=>exact ez2 c0 d0);(try case hok=>exact ezO);all_goals try (intro hb;(try simp only [hbs,reduceCtorEq] at hb);try exact ezX))|((with_reducible apply o_undef rfl);(case hb=>exact ez0)))
   all_goals exact sw_flat rfl rfl ⟨by rw [hf5,hyes,hz];simp only [List.all_cons,List.all_nil,Bool.and_true,Bool.true_and];try simp_all,rfl,rfl⟩
theorem pfine_ev (hk:30000≤k) (A:Option Addr) (T:List Tp) (c:Nat) (hT:TabH h n A T) (i:Nat) (hi:i<T.length) (hl:T.length≤100) (hl2:T[i].fs.length≤20000) :
  SQ k (d+5) cl 115 [.slice A T.length c,.int .i64 i] h n fun v h' n'=>v = .bool (fineB T.length i T[i])∧h'=h∧n'=n:=by
 by_cases h5:T[i].kd=5
 ·exact pfine_b k d cl h n hk A T c hT i hi hl hl2 h5
 ·exact pfine_a k d cl h n hk A T c hT i hi hl h5
end
section
open Go.RowKit
def ChkT (T:List Tp):Prop:=T.length≤32∧Fine T∧∀ w∈wD T 3,w≤5000
open Classical in
noncomputable def errT (T:List Tp):Int:=if ChkT T then 0 else 8
theorem errT_ok {T:List Tp} (h:ChkT T):errT T=0:=if_pos h
theorem errT_no {T:List Tp} (h:¬ ChkT T):errT T=8:=if_neg h
end
section
open Go.RowKit
variable (k d cl:Nat) (h:Hp) (n:Nat)
theorem pcheck_ev (hk:30000≤k) (A:Option Addr) (T:List Tp) (c:Nat) (hT:TabH h n A T) (hS:∀ t∈T,t.fs.length≤20000) (hm:T.length≤9223372036854775807) :
  SQ k (d+6) cl 92 [.slice A T.length c] h n fun v h' n'=>v = .int .i64 (errT T)∧h'=h∧n'=n:=by
 by_cases hl:T.length≤32
 ·have hSi:∀ i (hi:i<T.length),T[i].fs.length≤20000:=fun i hi=>hS _ (List.getElem_mem hi)
  by_cases hF:Fine T
  ·have hwl:=wD_length T 3
   have hwb:=wD_bnd hF 3
   refine enter Try.func92 kz rfl kz rfl rfl rfl ?_
   (repeat' first|refine zcd ?_|intro K' hK|(with_reducible refine zn hK ?_;clear hK)|fail|((with_reducible first|apply zo1|apply zo2|apply o_guard rfl|apply x_cond|apply k_e1 rfl|apply k_e2 rfl|apply k_e0 rfl|apply k_e3 rfl|apply k_e4 rfl);(case he=>exact ez0);(try case hok=>exact ezO);all_goals try (intro hb;(try simp only [hbs,reduceCtorEq] at hb);try exact ezX))|((with_reducible apply o_undef rfl);(case hb=>exact ez0)))
   refine x_loopF [2,3,11,12,13,14,15,16,17,18] [11] (fun m vs=>∃ i:Nat,m=T.length - i∧i≤T.length∧vs=[.int .i64 i]) T.length rfl zm ⟨0,rfl,by omega,by simp (disch:=first|assumption|omega|rfl|decide) only [go_sem,seval,tys] <;> rfl⟩ ?_
   rintro m g _ ⟨i,rfl,hi,rfl⟩
   by_cases hiT:i<T.length
   ·have hfi:=hF i hiT
    have hsi:=hSi i hiT
    (repeat' first|refine zcd ?_|intro K' hK|(with_reducible refine zn hK ?_;clear hK)|((with_reducible apply o_callF (g:=115) w_none);(case ha=>exact ez0);(case hs=>((with_reducible apply pfine_ev (T:=T) (i:=i));(case hT=>exact hT);(case hi=>exact hiT);(all_goals first|exact hk|omega)));(case' hk=>rintro _ h' n' ⟨rfl,rfl,rfl⟩))|((with_reducible first|apply zo1|apply zo2|apply o_guard rfl|apply x_cond|apply k_e1 rfl|apply k_e2 rfl|apply k_e0 rfl|apply k_e3 rfl|apply k_e4 rfl);(case he=>exact ez1 hfi);(try case hok=>exact ezO);all_goals try (intro hb;(try simp only [hbs,reduceCtorEq] at hb);try exact ezX))|((with_reducible apply o_undef rfl);(case hb=>exact ez0)))
    refine k_round (T.length - (i+1)) zm ⟨⟨rfl,rfl⟩,i+1,rfl,by omega,by simp (disch:=first|assumption|omega|rfl|decide) only [go_sem,seval,tys] <;> rfl⟩
   ·obtain rfl:i=T.length:=by omega
    (repeat' first|refine zcd ?_|intro K' hK|(with_reducible refine zn hK ?_;clear hK)|((with_reducible apply o_callF (g:=116) w_none);(case ha=>exact ez0);(case hs=>((with_reducible apply pwidths_ev (T:=T));(case hT=>exact hT);(case hF=>exact hF);(all_goals first|exact hk|omega)));(case' hk=>rintro _ h' n' ⟨rfl,rfl,rfl⟩))|((with_reducible first|apply zo1|apply zo2|apply o_guard rfl|apply x_cond|apply k_e1 rfl|apply k_e2 rfl|apply k_e0 rfl|apply k_e3 rfl|apply k_e4 rfl);(case he=>exact ez0);(try case hok=>exact ezO);all_goals try (intro hb;(try simp only [hbs,reduceCtorEq] at hb);try exact ezX))|((with_reducible apply o_undef rfl);(case hb=>exact ez0)))
    by_cases hw:∀ w∈wD T 3,w≤5000
    ·have he:errT T=0:=errT_ok ⟨hl,hF,hw⟩
     refine x_loopF [2,5,22,23,24,25,26,27,28] [22] (fun m vs=>∃ i:Nat,m=T.length - i∧i≤T.length∧vs=[.int .i64 i]) T.length rfl zm ⟨0,rfl,by omega,by simp (disch:=first|assumption|omega|rfl|decide) only [go_sem,seval,tys] <;> rfl⟩ ?_
     rintro m g2 _ ⟨i,rfl,hi,rfl⟩
     by_cases hiT:i<T.length
     ·have hge:lget (iv (wD T 3)) i=some (.int .i64 ((wD T 3).getD i 0)):=iv_lget zm
      have hle:(wD T 3).getD i 0≤5000:=by
       rw [List.getD_eq_getElem?_getD,List.getElem?_eq_getElem zm];exact hw _ (List.getElem_mem _)
      (repeat' first|refine zcd ?_|intro K' hK|(with_reducible refine zn hK ?_;clear hK)|fail|((with_reducible first|apply zo1|apply zo2|apply o_guard rfl|apply x_cond|apply k_e1 rfl|apply k_e2 rfl|apply k_e0 rfl|apply k_e3 rfl|apply k_e4 rfl);(case he=>exact ez1 hge);(try case hok=>exact ezO);all_goals try (intro hb;(try simp only [hbs,reduceCtorEq] at hb);try exact ezX))|((with_reducible apply o_undef rfl);(case hb=>exact ez0)))
      refine k_round (T.length - (i+1)) zm ⟨⟨rfl,rfl⟩,i+1,rfl,by omega,by simp (disch:=first|assumption|omega|rfl|decide) only [go_sem,seval,tys] <;> rfl⟩
     ·obtain rfl:i=T.length:=by omega
      (repeat' first|refine zcd ?_|intro K' hK|(with_reducible refine zn hK ?_;clear hK)|fail|((with_reducible first|apply zo1|apply zo2|apply o_guard rfl|apply x_cond|apply k_e1 rfl|apply k_e2 rfl|apply k_e0 rfl|apply k_e3 rfl|apply k_e4 rfl);(case he=>exact ez0);(try case hok=>exact ezO);all_goals try (intro hb;(try simp only [hbs,reduceCtorEq] at hb);try exact ezX))|((with_reducible apply o_undef rfl);(case hb=>exact ez0)))
      all_goals exact sw_flat rfl rfl ⟨by rw [he],rfl,rfl⟩
    ·have he:errT T=8:=errT_no fun hh=>hw hh.2.2
     refine x_loopF [2,5,22,23,24,25,26,27,28] [22] (fun m vs=>∃ i:Nat,m=T.length - i∧i≤T.length∧vs=[.int .i64 i]∧∀ j,j<i→(wD T 3).getD j 0≤5000) T.length rfl zm ⟨0,rfl,by omega,by simp (disch:=first|assumption|omega|rfl|decide) only [go_sem,seval,tys] <;> rfl,fun j hj=>by omega⟩ ?_
     rintro m g2 _ ⟨i,rfl,hi,rfl,hall⟩
     by_cases hiT:i<T.length
     ·have hge:lget (iv (wD T 3)) i=some (.int .i64 ((wD T 3).getD i 0)):=iv_lget zm
      by_cases hle:(wD T 3).getD i 0≤5000
      ·(repeat' first|refine zcd ?_|intro K' hK|(with_reducible refine zn hK ?_;clear hK)|fail|((with_reducible first|apply zo1|apply zo2|apply o_guard rfl|apply x_cond|apply k_e1 rfl|apply k_e2 rfl|apply k_e0 rfl|apply k_e3 rfl|apply k_e4 rfl);(case he=>exact ez1 hge);(try case hok=>exact ezO);all_goals try (intro hb;(try simp only [hbs,reduceCtorEq] at hb);try exact ezX))|((with_reducible apply o_undef rfl);(case hb=>exact ez0)))
       refine k_round (T.length - (i+1)) zm ⟨⟨rfl,rfl⟩,i+1,rfl,by omega,by simp (disch:=first|assumption|omega|rfl|decide) only [go_sem,seval,tys] <;> rfl,fun j hj=>by
        rcases Nat.lt_or_ge j i with h1|h1
        ·exact hall j h1
        ·obtain rfl:j=i:=by omega
         exact hle⟩
      ·(repeat' first|refine zcd ?_|intro K' hK|(with_reducible refine zn hK ?_;clear hK)|fail|((with_reducible first|apply zo1|apply zo2|apply o_guard rfl|apply x_cond|apply k_e1 rfl|apply k_e2 rfl|apply k_e0 rfl|apply k_e3 rfl|apply k_e4 rfl);(case he=>exact ez1 hge);(try case hok=>exact ezO);all_goals try (intro hb;(try simp only [hbs,reduceCtorEq] at hb);try exact ezX))|((with_reducible apply o_undef rfl);(case hb=>exact ez0)))
       all_goals exact sw_flat rfl rfl ⟨by rw [he],rfl,rfl⟩
     ·obtain rfl:i=T.length:=by omega
      exfalso
      apply hw
      intro w hwm
      obtain ⟨j,hj,rfl⟩:=List.getElem_of_mem hwm
      have:=hall j zm
      rwa [List.getD_eq_getElem?_getD,List.getElem?_eq_getElem hj] at this
  ·have he:errT T=8:=errT_no fun hh=>hF hh.2.1
   refine enter Try.func92 kz rfl kz rfl rfl rfl ?_
   (repeat' first|refine zcd ?_|intro K' hK|(with_reducible refine zn hK ?_;clear hK)|fail|((with_reducible first|apply zo1|apply zo2|apply o_guard rfl|apply x_cond|apply k_e1 rfl|apply k_e2 rfl|apply k_e0 rfl|apply k_e3 rfl|apply k_e4 rfl);(case he=>exact ez0);(try case hok=>exact ezO);all_goals try (intro hb;(try simp only [hbs,reduceCtorEq] at hb);try exact ezX))|((with_reducible apply o_undef rfl);(case hb=>exact ez0)))
   refine x_loopF [2,3,11,12,13,14,15,16,17,18] [11] (fun m vs=>∃ i:Nat,m=T.length - i∧i≤T.length∧vs=[.int .i64 i]∧∀ j (hj:j<T.length),j<i→fineB T.length j T[j]=true) T.length rfl zm ⟨0,rfl,by omega,by simp (disch:=first|assumption|omega|rfl|decide) only [go_sem,seval,tys] <;> rfl,fun j hj hji=>by omega⟩ ?_
   rintro m g _ ⟨i,rfl,hi,rfl,hall⟩
   by_cases hiT:i<T.length
   ·have hsi:=hSi i hiT
    cases hfi:fineB T.length i T[i]
    ·(repeat' first|refine zcd ?_|intro K' hK|(with_reducible refine zn hK ?_;clear hK)|((with_reducible apply o_callF (g:=115) w_none);(case ha=>exact ez0);(case hs=>((with_reducible apply pfine_ev (T:=T) (i:=i));(case hT=>exact hT);(case hi=>exact hiT);(all_goals first|exact hk|omega)));(case' hk=>rintro _ h' n' ⟨rfl,rfl,rfl⟩))|((with_reducible first|apply zo1|apply zo2|apply o_guard rfl|apply x_cond|apply k_e1 rfl|apply k_e2 rfl|apply k_e0 rfl|apply k_e3 rfl|apply k_e4 rfl);(case he=>exact ez1 hfi);(try case hok=>exact ezO);all_goals try (intro hb;(try simp only [hbs,reduceCtorEq] at hb);try exact ezX))|((with_reducible apply o_undef rfl);(case hb=>exact ez0)))
     all_goals exact sw_flat rfl rfl ⟨by rw [he],rfl,rfl⟩
    ·(repeat' first|refine zcd ?_|intro K' hK|(with_reducible refine zn hK ?_;clear hK)|((with_reducible apply o_callF (g:=115) w_none);(case ha=>exact ez0);(case hs=>((with_reducible apply pfine_ev (T:=T) (i:=i));(case hT=>exact hT);(case hi=>exact hiT);(all_goals first|exact hk|omega)));(case' hk=>rintro _ h' n' ⟨rfl,rfl,rfl⟩))|((with_reducible first|apply zo1|apply zo2|apply o_guard rfl|apply x_cond|apply k_e1 rfl|apply k_e2 rfl|apply k_e0 rfl|apply k_e3 rfl|apply k_e4 rfl);(case he=>exact ez1 hfi);(try case hok=>exact ezO);all_goals try (intro hb;(try simp only [hbs,reduceCtorEq] at hb);try exact ezX))|((with_reducible apply o_undef rfl);(case hb=>exact ez0)))
     refine k_round (T.length - (i+1)) zm ⟨⟨rfl,rfl⟩,i+1,rfl,by omega,by simp (disch:=first|assumption|omega|rfl|decide) only [go_sem,seval,tys] <;> rfl,fun j hj hji=>by
      rcases Nat.lt_or_ge j i with h1|h1
      ·exact hall j hj h1
      ·obtain rfl:j=i:=by omega
       exact hfi⟩
   ·obtain rfl:i=T.length:=by omega
    exact absurd (fun i hi=>hall i hi hi) hF
 ·have he:errT T=8:=errT_no fun hh=>hl hh.1
  refine enter Try.func92 kz rfl kz rfl rfl rfl ?_
  (repeat' first|refine zcd ?_|intro K' hK|(with_reducible refine zn hK ?_;clear hK)|fail|((with_reducible first|apply zo1|apply zo2|apply o_guard rfl|apply x_cond|apply k_e1 rfl|apply k_e2 rfl|apply k_e0 rfl|apply k_e3 rfl|apply k_e4 rfl);(case he=>exact ez0);(try case hok=>exact ezO);all_goals try (intro hb;(try simp only [hbs,reduceCtorEq] at hb);try exact ezX))|((with_reducible apply o_undef rfl);(case hb=>exact ez0)))
  all_goals exact sw_flat rfl rfl ⟨by rw [he],rfl,rfl⟩
end
section
open Go.RowKit
variable (k d cl:Nat) (h:Hp) (n:Nat)
theorem rcheck_c (hk:30000≤k) (A:Option Addr) (T:List Tp) (c:Nat) (hT:TabH h n A T) (hS:∀ t∈T,t.fs.length≤20000) (hm:T.length≤9223372036854775807) (h0T:0<T.length) :
  SQ k (d+6) cl 122 [.slice A T.length c] h n fun v h' n'=>v = .int .i64 (errT T)∧h'=h∧n'=n:=by
 by_cases hl:T.length≤32
 ·have hSi:∀ i (hi:i<T.length),T[i].fs.length≤20000:=fun i hi=>hS _ (List.getElem_mem hi)
  by_cases hF:Fine T
  ·have hwl:=wD_length T 3
   have hwb:=wD_bnd hF 3
   refine enter Try.func122 kz rfl kz rfl rfl rfl ?_
   (repeat' first|refine zcd ?_|intro K' hK|(with_reducible refine zn hK ?_;clear hK)|fail|((with_reducible first|apply zo1|apply zo2|apply o_guard rfl|apply x_cond|apply k_e1 rfl|apply k_e2 rfl|apply k_e0 rfl|apply k_e3 rfl|apply k_e4 rfl);(case he=>exact ez0);(try case hok=>exact ezO);all_goals try (intro hb;(try simp only [hbs,reduceCtorEq] at hb);try exact ezX))|((with_reducible apply o_undef rfl);(case hb=>exact ez0)))
   refine x_loopF [2,3,9,10,11,12,13,14,15,16,17,18] [3] (fun m vs=>∃ i:Nat,m=T.length - i∧i≤T.length∧vs=[.int .i64 i]) T.length rfl zm ⟨0,rfl,by omega,by simp (disch:=first|assumption|omega|rfl|decide) only [go_sem,seval,tys] <;> rfl⟩ ?_
   rintro m g _ ⟨i,rfl,hi,rfl⟩
   by_cases hiT:i<T.length
   ·have hfi:=hF i hiT
    have hsi:=hSi i hiT
    (repeat' first|refine zcd ?_|intro K' hK|(with_reducible refine zn hK ?_;clear hK)|((with_reducible apply o_callF (g:=130) w_none);(case ha=>exact ez0);(case hs=>((with_reducible apply rfine_ev (T:=T) (i:=i));(case hT=>exact hT);(case hi=>exact hiT);(all_goals first|exact hk|omega)));(case' hk=>rintro _ h' n' ⟨rfl,rfl,rfl⟩))|((with_reducible first|apply zo1|apply zo2|apply o_guard rfl|apply x_cond|apply k_e1 rfl|apply k_e2 rfl|apply k_e0 rfl|apply k_e3 rfl|apply k_e4 rfl);(case he=>exact ez1 hfi);(try case hok=>exact ezO);all_goals try (intro hb;(try simp only [hbs,reduceCtorEq] at hb);try exact ezX))|((with_reducible apply o_undef rfl);(case hb=>exact ez0)))
    refine k_round (T.length - (i+1)) zm ⟨⟨rfl,rfl⟩,i+1,rfl,by omega,by simp (disch:=first|assumption|omega|rfl|decide) only [go_sem,seval,tys] <;> rfl⟩
   ·obtain rfl:i=T.length:=by omega
    (repeat' first|refine zcd ?_|intro K' hK|(with_reducible refine zn hK ?_;clear hK)|((with_reducible apply o_callF (g:=131) w_none);(case ha=>exact ez0);(case hs=>((with_reducible apply rwidths_3 (T:=T));(case hT=>exact hT);(case hF=>exact hF);(all_goals first|exact hk|omega)));(case' hk=>rintro _ h' n' ⟨rfl,rfl,rfl⟩))|((with_reducible first|apply zo1|apply zo2|apply o_guard rfl|apply x_cond|apply k_e1 rfl|apply k_e2 rfl|apply k_e0 rfl|apply k_e3 rfl|apply k_e4 rfl);(case he=>exact ez0);(try case hok=>exact ezO);all_goals try (intro hb;(try simp only [hbs,reduceCtorEq] at hb);try exact ezX))|((with_reducible apply o_undef rfl);(case hb=>exact ez0)))
    by_cases hw:∀ w∈wD T 3,w≤5000
    ·have he:errT T=0:=errT_ok ⟨hl,hF,hw⟩
     refine x_loopF [2,5,21,22,23,24,25,26,27,28,29,30,31] [5] (fun m vs=>∃ i:Nat,m=T.length - i∧i≤T.length∧vs=[.int .i64 i]) T.length rfl zm ⟨0,rfl,by omega,by simp (disch:=first|assumption|omega|rfl|decide) only [go_sem,seval,tys] <;> rfl⟩ ?_
     rintro m g2 _ ⟨i,rfl,hi,rfl⟩
     by_cases hiT:i<T.length
     ·have hge:lget (iv (wD T 3)) i=some (.int .i64 ((wD T 3).getD i 0)):=iv_lget zm
      have hle:(wD T 3).getD i 0≤5000:=by
       rw [List.getD_eq_getElem?_getD,List.getElem?_eq_getElem zm];exact hw _ (List.getElem_mem _)
      (repeat' first|refine zcd ?_|intro K' hK|(with_reducible refine zn hK ?_;clear hK)|fail|((with_reducible first|apply zo1|apply zo2|apply o_guard rfl|apply x_cond|apply k_e1 rfl|apply k_e2 rfl|apply k_e0 rfl|apply k_e3 rfl|apply k_e4 rfl);(case he=>exact ez1 hge);(try case hok=>exact ezO);all_goals try (intro hb;(try simp only [hbs,reduceCtorEq] at hb);try exact ezX))|((with_reducible apply o_undef rfl);(case hb=>exact ez0)))
      refine k_round (T.length - (i+1)) zm ⟨⟨rfl,rfl⟩,i+1,rfl,by omega,by simp (disch:=first|assumption|omega|rfl|decide) only [go_sem,seval,tys] <;> rfl⟩
     ·obtain rfl:i=T.length:=by omega
      (repeat' first|refine zcd ?_|intro K' hK|(with_reducible refine zn hK ?_;clear hK)|fail|((with_reducible first|apply zo1|apply zo2|apply o_guard rfl|apply x_cond|apply k_e1 rfl|apply k_e2 rfl|apply k_e0 rfl|apply k_e3 rfl|apply k_e4 rfl);(case he=>exact ez0);(try case hok=>exact ezO);all_goals try (intro hb;(try simp only [hbs,reduceCtorEq] at hb);try exact ezX))|((with_reducible apply o_undef rfl);(case hb=>exact ez0)))
      all_goals exact sw_flat rfl rfl ⟨by rw [he],rfl,rfl⟩
    ·have he:errT T=8:=errT_no fun hh=>hw hh.2.2
     refine x_loopF [2,5,21,22,23,24,25,26,27,28,29,30,31] [5] (fun m vs=>∃ i:Nat,m=T.length - i∧i≤T.length∧vs=[.int .i64 i]∧∀ j,j<i→(wD T 3).getD j 0≤5000) T.length rfl zm ⟨0,rfl,by omega,by simp (disch:=first|assumption|omega|rfl|decide) only [go_sem,seval,tys] <;> rfl,fun j hj=>by omega⟩ ?_
     rintro m g2 _ ⟨i,rfl,hi,rfl,hall⟩
     by_cases hiT:i<T.length
     ·have hge:lget (iv (wD T 3)) i=some (.int .i64 ((wD T 3).getD i 0)):=iv_lget zm
      by_cases hle:(wD T 3).getD i 0≤5000
      ·(repeat' first|refine zcd ?_|intro K' hK|(with_reducible refine zn hK ?_;clear hK)|fail|((with_reducible first|apply zo1|apply zo2|apply o_guard rfl|apply x_cond|apply k_e1 rfl|apply k_e2 rfl|apply k_e0 rfl|apply k_e3 rfl|apply k_e4 rfl);(case he=>exact ez1 hge);(try case hok=>exact ezO);all_goals try (intro hb;(try simp only [hbs,reduceCtorEq] at hb);try exact ezX))|((with_reducible apply o_undef rfl);(case hb=>exact ez0)))
       refine k_round (T.length - (i+1)) zm ⟨⟨rfl,rfl⟩,i+1,rfl,by omega,by simp (disch:=first|assumption|omega|rfl|decide) only [go_sem,seval,tys] <;> rfl,fun j hj=>by
        rcases Nat.lt_or_ge j i with h1|h1
        ·exact hall j h1
        ·obtain rfl:j=i:=by omega
         exact hle⟩
      ·(repeat' first|refine zcd ?_|intro K' hK|(with_reducible refine zn hK ?_;clear hK)|fail|((with_reducible first|apply zo1|apply zo2|apply o_guard rfl|apply x_cond|apply k_e1 rfl|apply k_e2 rfl|apply k_e0 rfl|apply k_e3 rfl|apply k_e4 rfl);(case he=>exact ez1 hge);(try case hok=>exact ezO);all_goals try (intro hb;(try simp only [hbs,reduceCtorEq] at hb);try exact ezX))|((with_reducible apply o_undef rfl);(case hb=>exact ez0)))
       all_goals exact sw_flat rfl rfl ⟨by rw [he],rfl,rfl⟩
     ·obtain rfl:i=T.length:=by omega
      exfalso
      apply hw
      intro w hwm
      obtain ⟨j,hj,rfl⟩:=List.getElem_of_mem hwm
      have:=hall j zm
      rwa [List.getD_eq_getElem?_getD,List.getElem?_eq_getElem hj] at this
  ·have he:errT T=8:=errT_no fun hh=>hF hh.2.1
   refine enter Try.func122 kz rfl kz rfl rfl rfl ?_
   (repeat' first|refine zcd ?_|intro K' hK|(with_reducible refine zn hK ?_;clear hK)|fail|((with_reducible first|apply zo1|apply zo2|apply o_guard rfl|apply x_cond|apply k_e1 rfl|apply k_e2 rfl|apply k_e0 rfl|apply k_e3 rfl|apply k_e4 rfl);(case he=>exact ez0);(try case hok=>exact ezO);all_goals try (intro hb;(try simp only [hbs,reduceCtorEq] at hb);try exact ezX))|((with_reducible apply o_undef rfl);(case hb=>exact ez0)))
   refine x_loopF [2,3,9,10,11,12,13,14,15,16,17,18] [3] (fun m vs=>∃ i:Nat,m=T.length - i∧i≤T.length∧vs=[.int .i64 i]∧∀ j (hj:j<T.length),j<i→fineB T.length j T[j]=true) T.length rfl zm ⟨0,rfl,by omega,by simp (disch:=first|assumption|omega|rfl|decide) only [go_sem,seval,tys] <;> rfl,fun j hj hji=>by omega⟩ ?_
   rintro m g _ ⟨i,rfl,hi,rfl,hall⟩
   by_cases hiT:i<T.length
   ·have hsi:=hSi i hiT
    cases hfi:fineB T.length i T[i]
    ·(repeat' first|refine zcd ?_|intro K' hK|(with_reducible refine zn hK ?_;clear hK)|((with_reducible apply o_callF (g:=130) w_none);(case ha=>exact ez0);(case hs=>((with_reducible apply rfine_ev (T:=T) (i:=i));(case hT=>exact hT);(case hi=>exact hiT);(all_goals first|exact hk|omega)));(case' hk=>rintro _ h' n' ⟨rfl,rfl,rfl⟩))|((with_reducible first|apply zo1|apply zo2|apply o_guard rfl|apply x_cond|apply k_e1 rfl|apply k_e2 rfl|apply k_e0 rfl|apply k_e3 rfl|apply k_e4 rfl);(case he=>exact ez1 hfi);(try case hok=>exact ezO);all_goals try (intro hb;(try simp only [hbs,reduceCtorEq] at hb);try exact ezX))|((with_reducible apply o_undef rfl);(case hb=>exact ez0)))
     all_goals exact sw_flat rfl rfl ⟨by rw [he],rfl,rfl⟩
    ·(repeat' first|refine zcd ?_|intro K' hK|(with_reducible refine zn hK ?_;clear hK)|((with_reducible apply o_callF (g:=130) w_none);(case ha=>exact ez0);(case hs=>((with_reducible apply rfine_ev (T:=T) (i:=i));(case hT=>exact hT);(case hi=>exact hiT);(all_goals first|exact hk|omega)));(case' hk=>rintro _ h' n' ⟨rfl,rfl,rfl⟩))|((with_reducible first|apply zo1|apply zo2|apply o_guard rfl|apply x_cond|apply k_e1 rfl|apply k_e2 rfl|apply k_e0 rfl|apply k_e3 rfl|apply k_e4 rfl);(case he=>exact ez1 hfi);(try case hok=>exact ezO);all_goals try (intro hb;(try simp only [hbs,reduceCtorEq] at hb);try exact ezX))|((with_reducible apply o_undef rfl);(case hb=>exact ez0)))
     refine k_round (T.length - (i+1)) zm ⟨⟨rfl,rfl⟩,i+1,rfl,by omega,by simp (disch:=first|assumption|omega|rfl|decide) only [go_sem,seval,tys] <;> rfl,fun j hj hji=>by
      rcases Nat.lt_or_ge j i with h1|h1
      ·exact hall j hj h1
      ·obtain rfl:j=i:=by omega
       exact hfi⟩
   ·obtain rfl:i=T.length:=by omega
    exact absurd (fun i hi=>hall i hi hi) hF
 ·have he:errT T=8:=errT_no fun hh=>hl hh.1
  refine enter Try.func122 kz rfl kz rfl rfl rfl ?_
  (repeat' first|refine zcd ?_|intro K' hK|(with_reducible refine zn hK ?_;clear hK)|fail|((with_reducible first|apply zo1|apply zo2|apply o_guard rfl|apply x_cond|apply k_e1 rfl|apply k_e2 rfl|apply k_e0 rfl|apply k_e3 rfl|apply k_e4 rfl);(case he=>exact ez0);(try case hok=>exact ezO);all_goals try (intro hb;(try simp only [hbs,reduceCtorEq] at hb);try exact ezX))|((with_reducible apply o_undef rfl);(case hb=>exact ez0)))
  all_goals exact sw_flat rfl rfl ⟨by rw [he],rfl,rfl⟩
theorem rcheck_nil (hk:30000≤k) (A:Option Addr) (c:Nat) :
  SQ k (d+6) cl 122 [.slice A 0 c] h n fun v h' n'=>v = .int .i64 0∧h'=h∧n'=n:=by
 refine enter Try.func122 kz rfl kz rfl rfl rfl ?_
 (repeat' first|refine zcd ?_|intro K' hK|(with_reducible refine zn hK ?_;clear hK)|(with_reducible refine x_turns ?_)|(with_reducible refine x_turn zm ?_)|(with_reducible refine k_turn ?_)|((with_reducible apply o_callF (g:=131) w_none);(case ha=>exact ez0);(case hs=>exact rwidths_n3 (hk:=hk) ..);(case' hk=>rintro _ h' n' ⟨rfl,rfl,rfl⟩))|((with_reducible first|apply zo1|apply zo2|apply o_guard rfl|apply x_cond|apply k_e1 rfl|apply k_e2 rfl|apply k_e0 rfl|apply k_e3 rfl|apply k_e4 rfl);(case he=>exact ez0);(try case hok=>exact ezO);all_goals try (intro hb;(try simp only [hbs,reduceCtorEq] at hb);try exact ezX))|((with_reducible apply o_undef rfl);(case hb=>exact ez0)))
 all_goals exact sw_flat rfl rfl ⟨rfl,rfl,rfl⟩
theorem rcheck_ev (hk:30000≤k) (A:Option Addr) (T:List Tp) (c:Nat) (hT:TabH h n A T) (hS:∀ t∈T,t.fs.length≤20000) (hm:T.length≤9223372036854775807) :
  SQ k (d+6) cl 122 [.slice A T.length c] h n fun v h' n'=>v = .int .i64 (errT T)∧h'=h∧n'=n:=by
 rcases T with _|⟨t,T⟩
 ·have he:errT []=0:=errT_ok ⟨by simp,fun i hi=>by simp at hi,fun w hw=>by have:=wD_length [] 3;rw [List.length_nil,List.length_eq_zero_iff] at this;rw [this] at hw;cases hw⟩
  rw [he]
  exact rcheck_nil k d cl h n hk A c
 ·exact rcheck_c k d cl h n hk A (t :: T) c hT hS hm (by simp)
end
section
open Go.RowKit
open Classical in
noncomputable def askE (T:List Tp) (i j:Int):Int:=if ChkT T then (if (0≤i∧i<T.length)∧0≤j∧j<T.length then 0 else 2) else 8
variable (k d cl:Nat) (h:Hp) (n:Nat)
theorem rasked_ev (hk:30000≤k) (A:Option Addr) (T:List Tp) (c:Nat) (hT:TabH h n A T) (hS:∀ t∈T,t.fs.length≤20000) (hm:T.length≤9223372036854775807) (i j:Int) :
  SQ k (d+7) cl 104 [.slice A T.length c,.int .i64 i,.int .i64 j] h n fun v h' n'=>v = .int .i64 (askE T i j)∧h'=h∧n'=n:=by
 by_cases hC:ChkT T
 ·have he:=errT_ok hC
  by_cases hi:(0≤i∧i<T.length)∧0≤j∧j<T.length
  ·have hz:askE T i j=0:=by unfold askE;rw [if_pos hC,if_pos hi]
   rw [hz]
   refine enter Try.func104 kz rfl kz rfl rfl rfl ?_
   (repeat' first|refine zcd ?_|intro K' hK|(with_reducible refine zn hK ?_;clear hK)|((with_reducible apply o_callF (g:=122) w_none);(case ha=>exact ez0);(case hs=>((with_reducible apply rcheck_ev (T:=T));(case hT=>first|exact hT|exact hT.set zm _);(case hS=>exact hS);(all_goals first|exact hk|omega)));(case' hk=>rintro _ h' n' ⟨rfl,rfl,rfl⟩))|((with_reducible first|apply zo1|apply zo2|apply o_guard rfl|apply x_cond|apply k_e1 rfl|apply k_e2 rfl|apply k_e0 rfl|apply k_e3 rfl|apply k_e4 rfl);(case he=>exact ez1 he);(try case hok=>exact ezO);all_goals try (intro hb;(try simp only [hbs,reduceCtorEq] at hb);try exact ezX))|((with_reducible apply o_undef rfl);(case hb=>exact ez0)))
   all_goals exact sw_flat rfl rfl ⟨rfl,rfl,rfl⟩
  ·have hz:askE T i j=2:=by unfold askE;rw [if_pos hC,if_neg hi]
   rw [hz]
   refine enter Try.func104 kz rfl kz rfl rfl rfl ?_
   (repeat' first|refine zcd ?_|intro K' hK|(with_reducible refine zn hK ?_;clear hK)|((with_reducible apply o_callF (g:=122) w_none);(case ha=>exact ez0);(case hs=>((with_reducible apply rcheck_ev (T:=T));(case hT=>first|exact hT|exact hT.set zm _);(case hS=>exact hS);(all_goals first|exact hk|omega)));(case' hk=>rintro _ h' n' ⟨rfl,rfl,rfl⟩))|((with_reducible first|apply zo1|apply zo2|apply o_guard rfl|apply x_cond|apply k_e1 rfl|apply k_e2 rfl|apply k_e0 rfl|apply k_e3 rfl|apply k_e4 rfl);(case he=>exact ez1 he);(try case hok=>exact ezO);all_goals try (intro hb;(try simp only [hbs,reduceCtorEq] at hb);try exact ezX))|((with_reducible apply o_undef rfl);(case hb=>exact ez0)))
   all_goals exact sw_flat rfl rfl ⟨rfl,rfl,rfl⟩
 ·have he:=errT_no hC
  have hz:askE T i j=8:=by unfold askE;rw [if_neg hC]
  rw [hz]
  refine enter Try.func104 kz rfl kz rfl rfl rfl ?_
  (repeat' first|refine zcd ?_|intro K' hK|(with_reducible refine zn hK ?_;clear hK)|((with_reducible apply o_callF (g:=122) w_none);(case ha=>exact ez0);(case hs=>((with_reducible apply rcheck_ev (T:=T));(case hT=>first|exact hT|exact hT.set zm _);(case hS=>exact hS);(all_goals first|exact hk|omega)));(case' hk=>rintro _ h' n' ⟨rfl,rfl,rfl⟩))|((with_reducible first|apply zo1|apply zo2|apply o_guard rfl|apply x_cond|apply k_e1 rfl|apply k_e2 rfl|apply k_e0 rfl|apply k_e3 rfl|apply k_e4 rfl);(case he=>exact ez1 he);(try case hok=>exact ezO);all_goals try (intro hb;(try simp only [hbs,reduceCtorEq] at hb);try exact ezX))|((with_reducible apply o_undef rfl);(case hb=>exact ez0)))
  all_goals exact sw_flat rfl rfl ⟨rfl,rfl,rfl⟩
theorem askE_0 {T:List Tp} {i:Int} (hC:ChkT T) (hi:0≤i∧i<T.length):askE T i i=0:=by unfold askE;rw [if_pos hC,if_pos ⟨hi,hi⟩]
theorem askE_2 {T:List Tp} {i:Int} (hC:ChkT T) (hi:¬ (0≤i∧i<T.length)):askE T i i=2:=by unfold askE;rw [if_pos hC,if_neg fun hh=>hi hh.1]
theorem askE_8 {T:List Tp} {i j:Int} (hC:¬ ChkT T):askE T i j=8:=by unfold askE;rw [if_neg hC]
end
section
open Go.RowKit
variable (k d cl:Nat) (h:Hp) (n:Nat)
theorem smin_1 (hk:30000≤k) (A:Option Addr) (a:Int) (c:Nat) (hr:RdH h n A (iv [a])) :
  SQ k (d+1) cl 119 [.slice A 1 c] h n fun v h' n'=>v = .int .i64 a∧h'=h∧n'=n:=by
 obtain ⟨id,off,hA, -,c0⟩:=int_at hr (i:=0) (show 0<1 by decide)
 subst hA
 have c0:cellAt h id off=some (.int .i64 a):=c0
 refine enter Try.func119 kz rfl kz rfl rfl rfl ?_
 (repeat' first|refine zcd ?_|intro K' hK|(with_reducible refine zn hK ?_;clear hK)|(with_reducible refine x_turns ?_)|(with_reducible refine x_turn zm ?_)|(with_reducible refine k_turn ?_)|((with_reducible first|apply zo1|apply zo2|apply o_guard rfl|apply x_cond|apply k_e1 rfl|apply k_e2 rfl|apply k_e0 rfl|apply k_e3 rfl|apply k_e4 rfl);(case he=>exact ez1 c0);(try case hok=>exact ezO);all_goals try (intro hb;(try simp only [hbs,reduceCtorEq] at hb);try exact ezX))|((with_reducible apply o_undef rfl);(case hb=>exact ez0)))
 all_goals exact sw_flat rfl rfl ⟨rfl,rfl,rfl⟩
theorem smax_1 (hk:30000≤k) (A:Option Addr) (a:Int) (c:Nat) (hr:RdH h n A (iv [a])) :
  SQ k (d+1) cl 120 [.slice A 1 c] h n fun v h' n'=>v = .int .i64 a∧h'=h∧n'=n:=by
 obtain ⟨id,off,hA, -,c0⟩:=int_at hr (i:=0) (show 0<1 by decide)
 subst hA
 have c0:cellAt h id off=some (.int .i64 a):=c0
 refine enter Try.func120 kz rfl kz rfl rfl rfl ?_
 (repeat' first|refine zcd ?_|intro K' hK|(with_reducible refine zn hK ?_;clear hK)|(with_reducible refine x_turns ?_)|(with_reducible refine x_turn zm ?_)|(with_reducible refine k_turn ?_)|((with_reducible first|apply zo1|apply zo2|apply o_guard rfl|apply x_cond|apply k_e1 rfl|apply k_e2 rfl|apply k_e0 rfl|apply k_e3 rfl|apply k_e4 rfl);(case he=>exact ez1 c0);(try case hok=>exact ezO);all_goals try (intro hb;(try simp only [hbs,reduceCtorEq] at hb);try exact ezX))|((with_reducible apply o_undef rfl);(case hb=>exact ez0)))
 all_goals exact sw_flat rfl rfl ⟨rfl,rfl,rfl⟩
theorem pasked_1 (hk:30000≤k) (A:Option Addr) (T:List Tp) (c:Nat) (hT:TabH h n A T) (hS:∀ t∈T,t.fs.length≤20000) (hm:T.length≤9223372036854775807) (i:Int) (A2:Option Addr) (c2:Nat) (hr:RdH h n A2 (iv [i])) :
  SQ k (d+7) cl 97 [.slice A T.length c,.slice A2 1 c2] h n fun v h' n'=>v = .int .i64 (askE T i i)∧h'=h∧n'=n:=by
 have q1:=smin_1 k (d+5) n h n hk A2 i c2 hr
 have q2:=smax_1 k (d+5) n h n hk A2 i c2 hr
 have q0:=pcheck_ev k d n h n hk A T c hT hS hm
 have q0:=q0.mono (Φ':=fun v2 h2 n2=>v2 = .int .i64 (errT T)∧h=h2∧n=n2) fun _ _ _ hp=>⟨hp.1,hp.2.1.symm,hp.2.2.symm⟩
 have q1:=q1.mono (Φ':=fun v2 h2 n2=>v2 = .int .i64 i∧h=h2∧n=n2) fun _ _ _ hp=>⟨hp.1,hp.2.1.symm,hp.2.2.symm⟩
 have q2:=q2.mono (Φ':=fun v2 h2 n2=>v2 = .int .i64 i∧h=h2∧n=n2) fun _ _ _ hp=>⟨hp.1,hp.2.1.symm,hp.2.2.symm⟩
 by_cases hC:ChkT T
 ·have he:=errT_ok hC
  rw [he] at q0
  by_cases hi:(0≤i∧i<T.length)∧0≤i∧i<T.length
  ·have hz:askE T i i=0:=by unfold askE;rw [if_pos hC,if_pos hi]
   rw [hz]
   refine enter Try.func97 kz rfl kz rfl rfl rfl ?_
   (repeat' first|refine zcd ?_|intro K' hK|(with_reducible refine zn hK ?_;clear hK)|((with_reducible apply o_callF (g:=92) w_none);(case ha=>exact ez0);(case hs=>(exact q0));(case' hk=>rintro _ h' n' ⟨rfl,rfl,rfl⟩))|((with_reducible apply o_callF (g:=119) w_none);(case ha=>exact ez0);(case hs=>(exact q1));(case' hk=>rintro _ h' n' ⟨rfl,rfl,rfl⟩))|((with_reducible apply o_callF (g:=120) w_none);(case ha=>exact ez0);(case hs=>(exact q2));(case' hk=>rintro _ h' n' ⟨rfl,rfl,rfl⟩))|((with_reducible first|apply zo1|apply zo2|apply o_guard rfl|apply x_cond|apply k_e1 rfl|apply k_e2 rfl|apply k_e0 rfl|apply k_e3 rfl|apply k_e4 rfl);(case he=>exact ez0);(try case hok=>exact ezO);all_goals try (intro hb;(try simp only [hbs,reduceCtorEq] at hb);try exact ezX))|((with_reducible apply o_undef rfl);(case hb=>exact ez0)))
   all_goals exact sw_flat rfl rfl ⟨rfl,rfl,rfl⟩
  ·have hz:askE T i i=2:=by unfold askE;rw [if_pos hC,if_neg hi]
   rw [hz]
   refine enter Try.func97 kz rfl kz rfl rfl rfl ?_
   (repeat' first|refine zcd ?_|intro K' hK|(with_reducible refine zn hK ?_;clear hK)|((with_reducible apply o_callF (g:=92) w_none);(case ha=>exact ez0);(case hs=>(exact q0));(case' hk=>rintro _ h' n' ⟨rfl,rfl,rfl⟩))|((with_reducible apply o_callF (g:=119) w_none);(case ha=>exact ez0);(case hs=>(exact q1));(case' hk=>rintro _ h' n' ⟨rfl,rfl,rfl⟩))|((with_reducible apply o_callF (g:=120) w_none);(case ha=>exact ez0);(case hs=>(exact q2));(case' hk=>rintro _ h' n' ⟨rfl,rfl,rfl⟩))|((with_reducible first|apply zo1|apply zo2|apply o_guard rfl|apply x_cond|apply k_e1 rfl|apply k_e2 rfl|apply k_e0 rfl|apply k_e3 rfl|apply k_e4 rfl);(case he=>exact ez0);(try case hok=>exact ezO);all_goals try (intro hb;(try simp only [hbs,reduceCtorEq] at hb);try exact ezX))|((with_reducible apply o_undef rfl);(case hb=>exact ez0)))
   all_goals exact sw_flat rfl rfl ⟨rfl,rfl,rfl⟩
 ·have he:=errT_no hC
  have hz:askE T i i=8:=by unfold askE;rw [if_neg hC]
  rw [he] at q0
  rw [hz]
  refine enter Try.func97 kz rfl kz rfl rfl rfl ?_
  (repeat' first|refine zcd ?_|intro K' hK|(with_reducible refine zn hK ?_;clear hK)|((with_reducible apply o_callF (g:=92) w_none);(case ha=>exact ez0);(case hs=>(exact q0));(case' hk=>rintro _ h' n' ⟨rfl,rfl,rfl⟩))|((with_reducible first|apply zo1|apply zo2|apply o_guard rfl|apply x_cond|apply k_e1 rfl|apply k_e2 rfl|apply k_e0 rfl|apply k_e3 rfl|apply k_e4 rfl);(case he=>exact ez0);(try case hok=>exact ezO);all_goals try (intro hb;(try simp only [hbs,reduceCtorEq] at hb);try exact ezX))|((with_reducible apply o_undef rfl);(case hb=>exact ez0)))
  all_goals exact sw_flat rfl rfl ⟨rfl,rfl,rfl⟩
end
end Go.Proofs.Ytcpkdjikembpnaa.Ce
