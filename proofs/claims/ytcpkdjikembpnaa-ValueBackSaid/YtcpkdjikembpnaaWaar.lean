/- Parts of the proof of ValueBack: Jd, Mz, Jh, Lp. No condition of its own. -/
import Derived.Test.YtcpkdjikembpnaaWaak
import Derived.Test.YtcpkdjikembpnaaWaal
import Derived.Test.YtcpkdjikembpnaaWaao
import Derived.Test.YtcpkdjikembpnaaWaaq
set_option linter.unusedVariables false
set_option linter.unusedSimpArgs false
set_option maxRecDepth 1000000
set_option maxHeartbeats 4000000
namespace Go.Proofs.Ytcpkdjikembpnaa.Ce
section
open Go.RowKit
theorem count_set_t {F:List Bool} {y:Nat} (hy:F[y]?=some false):(F.set y true).count false+1=F.count false:=by
 have hl:y<F.length:=by
  rcases Nat.lt_or_ge y F.length with h|h
  ·exact h
  ·rw [List.getElem?_eq_none h] at hy;cases hy
 rw [List.getElem?_eq_getElem hl] at hy
 injection hy with hy
 have hp:0<F.count false:=List.count_pos_iff.2 (by rw [← hy];exact List.getElem_mem hl)
 rw [List.count_set hl,hy]
 simp
 omega
theorem bw_idA (n:Nat) (l:List Bool):∀ v∈bw l,idA n v=[]:=by
 intro v hv
 obtain ⟨b, -,rfl⟩:=List.mem_map.1 hv
 rfl
variable (k d cl:Nat) (h:Hp) (n:Nat)
theorem closure_ev (hk:30000≤k) (far:Bool) (A:Option Addr) (T:List Tp) (c:Nat) (hT:TabH h n A T) (hl:T.length≤32) (hF:Fine T) (i:Nat) (hi:i<T.length) :
  SQ k (d+2) cl 98 [.slice A T.length c,.int .i64 i,.bool far] h n fun v h' n'=>v = .slice (some ⟨n,0,none⟩) T.length T.length∧h'=h.set n (.row 4 false (bw (rchF T far i)))∧n'=n+1:=by
 obtain ⟨F0,hF0⟩:∃ F0,(List.replicate T.length false).set i true=F0:=⟨_,rfl⟩
 have hov:=bw_set (l:=List.replicate T.length false) (i:=i) (by rw [List.length_replicate];exact hi)
 rw [hF0] at hov
 have hl0:F0.length=T.length:=by rw [← hF0,List.length_set,List.length_replicate]
 have hg0:∀ x,x<T.length→F0[x]?=some (decide (x=i)):=fun x hx=>by
  rw [← hF0,List.getElem?_set,List.length_replicate,List.getElem?_replicate]
  by_cases e:i=x
  ·rw [if_pos e,if_pos hi,decide_eq_true e.symm]
  ·rw [if_neg e,if_pos hx,decide_eq_false fun e'=>e e'.symm]
 have hc0:=List.count_le_length (a:=false) (l:=F0)
 refine enter Try.func98 kz rfl kz rfl rfl rfl ?_
 (repeat' first|refine zcd ?_|intro K' hK|(with_reducible refine zn hK ?_;clear hK)|fail|((with_reducible first|apply zo1|apply zo2|apply o_guard rfl|apply x_cond|apply k_e1 rfl|apply k_e2 rfl|apply k_e0 rfl|apply k_e3 rfl|apply k_e4 rfl);(case he=>exact ez2 @mk_falses hov);(try case hok=>exact ezO);all_goals try (intro hb;(try simp only [hbs,reduceCtorEq] at hb);try exact ezX))|((with_reducible apply o_undef rfl);(case hb=>exact ez0)))
 refine x_loopV [8,9,11,20,21,22,23,24,25,26,27,28,29,30,31,32,33,34,35,36,37,38,39,40,41,42,43,44,45,46,47,48,49,50,51,52,53,54,55,56,57] [8] (fun m vs h' n'=>∃ (F:List Bool) (ops:List Nat) (O:Value),m=ops.length+F.count false∧m≤40∧vs=[O]∧n+1≤n'∧TabH h' n A T∧rowOf h' n=some (4,false,bw F)∧OwnS ops O h' (n+1) n'∧F.length=T.length∧F[i]?=some true∧(∀ x∈ops,x<T.length∧F[x]?=some true)∧(∀ x,x<T.length→F[x]?=some true→Rch T far i x) ∧
   (∀ x (hx:x<T.length),F[x]?=some true→x∈ops∨∀ y:Nat,(y:Int)∈leadsT far T[x]→F[y]?=some true)) (1+F0.count false) rfl zm ?_ ?_
 ·refine ⟨F0,[i],.slice (some ⟨n+1,0,none⟩) 1 1,rfl,by omega,ez0,by omega,(hT.set (Nat.le_refl _) _).set zm _,ez0,⟨n+1,[.int .i64 i],Nat.le_refl _,by omega,rfl,rowOf_same _ _ _ _ _,Nat.le_refl _,rfl⟩,hl0,by rw [hg0 i hi,decide_eq_true rfl],fun x hx=>?_,fun x hx hx2=>?_,fun x hx hx2=>?_⟩
  ·obtain rfl:=List.mem_singleton.1 hx
   exact ⟨hi,by rw [hg0 x hi,decide_eq_true rfl]⟩
  ·rw [hg0 x hx] at hx2
   have:x=i:=by simpa using hx2
   subst this
   exact .refl
  ·rw [hg0 x hx] at hx2
   have:x=i:=by simpa using hx2
   exact .inl (List.mem_singleton.2 this)
 ·rintro m fr _ ha na ⟨F,ops,O,rfl,hm40,rfl,hn,hT2,qF,⟨id,cs,k1,k2,rfl,q4,q5,q6⟩,hFl,hFi,hop,hsd,hcl⟩
  rcases List.eq_nil_or_concat ops with rfl|⟨ops0,y,rfl⟩
  ·have hFe:=rchF_eq hF hi hFl hFi hsd fun x hx hx2=>by
    rcases hcl x hx hx2 with h1|h1
    ·cases h1
    ·exact h1
   subst hFe
   (repeat' first|refine zcd ?_|intro K' hK|(with_reducible refine zn hK ?_;clear hK)|fail|((with_reducible first|apply zo1|apply zo2|apply o_guard rfl|apply x_cond|apply k_e1 rfl|apply k_e2 rfl|apply k_e0 rfl|apply k_e3 rfl|apply k_e4 rfl);(case he=>exact ez0);(try case hok=>exact ezO);all_goals try (intro hb;(try simp only [hbs,reduceCtorEq] at hb);try exact ezX))|((with_reducible apply o_undef rfl);(case hb=>exact ez0)))
   refine sw_row (m:=n) ezI rfl zm qF (bw_idA _ _) ezR ?_
   exact ⟨rfl,rfl,rfl⟩
  ·rw [List.concat_eq_append] at q5 q6 hop hcl
   have hlen:(ops0.concat y).length=ops0.length+1:=by rw [List.concat_eq_append,List.length_append];rfl
   have hlen2:(ops0 ++ [y]).length=ops0.length+1:=by rw [List.length_append];rfl
   rw [hlen] at hm40 ⊢
   rw [hlen2] at q5 q6
   obtain ⟨w,hw⟩:∃ w,ops0.length=w:=⟨_,rfl⟩
   rw [hw] at q5 q6 hm40 ⊢
   have hyk:=hop y (List.mem_append_right _ (List.mem_singleton.2 rfl))
   have hwc:(cn ops0).length=w:=by rw [cn_length,hw]
   have c5:cellAt ha id w=some (.int .i64 (y:Int)):=by
    rw [cellAt_row q4,lget_eq,← List.getElem?_take_of_lt (show w<w+1 by omega),q6,cn_app,iv_app,List.getElem?_append_right (by rw [iv_length];omega),iv_length,hwc,Nat.sub_self]
    rfl
   have htk0:cs.take w=iv (cn ops0):=by
    have h1:(cs.take (w+1)).take w=cs.take w:=by rw [List.take_take];congr 1;omega
    rw [← h1,q6,cn_app,iv_app,List.take_append_of_le_length (by rw [iv_length];omega),List.take_of_length_le (by rw [iv_length];omega)]
   obtain ⟨tid,toff,hAA,htid,ht4, -⟩:=hT2.at_ hyk.1
   have hfd:=(hT2.fd _ (List.getElem_mem hyk.1)).more (show n≤na by omega)
   have hfy:=hF y hyk.1
   subst hAA
   have hnat:(((w+1:Nat):Int) - 1).toNat=w:=by omega
   have p1:=(pleads_ev k d n ha na hk far hfy hfd).mono fun _ _ _ hh=>IntsV.rd hh
   have hns:=leadsT_in (far:=far) hfy zm
   have hnl:=leadsT_len (far:=far) hfy
   obtain ⟨ns,hnse⟩:∃ ns,leadsT far T[y]=ns:=⟨_,rfl⟩
   rw [hnse] at p1 hns hnl
   have hcF:=List.count_le_length (a:=false) (l:=F)
   (repeat' first|refine zcd ?_|intro K' hK|(with_reducible refine zn hK ?_;clear hK)|((with_reducible apply o_callF (g:=121) w_none);(case ha=>exact ez0);(case hs=>(exact p1));(case' hk=>rintro _ h' n' ⟨LA,lc,rfl,hrL,hLn,hn2,hkp⟩))|((with_reducible first|apply zo1|apply zo2|apply o_guard rfl|apply x_cond|apply k_e1 rfl|apply k_e2 rfl|apply k_e0 rfl|apply k_e3 rfl|apply k_e4 rfl);(case he=>exact ez3 c5 ht4 hnat);(try case hok=>exact ezO);all_goals try (intro hb;(try simp only [hbs,reduceCtorEq] at hb);try exact ezX))|((with_reducible apply o_undef rfl);(case hb=>exact ez0)))
   refine x_loopV [8,11,41,42,43,44,45,46,47,48,49,50,51,52,53,54,55,56,57] [8,41] (fun m vs h4 n4=>∃ (q:Nat) (O':Value) (ops':List Nat) (F':List Bool),m=ns.length - q∧q≤ns.length∧vs=[O',.int .i64 q]∧n'≤n4∧TabH h4 n (some ⟨tid,toff,none⟩) T∧RdH h4 n' LA (iv ns)∧rowOf h4 n=some (4,false,bw F')∧OwnS ops' O' h4 (n+1) n4∧(∀ b o,LA=some ⟨b,o,none⟩→Blk O' b)∧F'.length=T.length∧ops'.length+F'.count false=w+F.count false∧(∀ x∈ops',x<T.length∧F'[x]?=some true)∧(∀ x∈ops0,x∈ops') ∧
     (∀ x:Nat,F[x]?=some true→F'[x]?=some true)∧(∀ z:Nat,(z:Int)∈ns.take q→F'[z]?=some true)∧(∀ x:Nat,F'[x]?=some true→F[x]?=some true∨(x∈ops'∧(x:Int)∈ns))) ns.length rfl zm ?_ ?_
   ·refine ⟨0,.slice (some ⟨id,0,none⟩) w w,ops0,F,rfl,by omega,ez0,Nat.le_refl _,hT2.keep zm hkp,hrL,by rw [rowOf_keep (hkp _ zm)];exact qF,⟨id,cs,k1,by omega,by rw [hw],by rw [rowOf_keep (hkp _ zm)];exact q4,by omega,by rw [hw];exact htk0⟩,fun b o e=>?_,hFl,by rw [hw],fun x hx=>hop x (List.mem_append_left _ hx),fun x hx=>hx,fun x hx=>hx,fun z hz=>by simp at hz,fun x hx=>.inl hx⟩
    have:=hLn b o e
    intro len c hh
    injection hh with hh
    injection hh with hh
    injection hh with hh
    omega
   ·rintro mm fr2 _ h4 n4 ⟨q,O',ops',F',rfl,hq,rfl,hn4,hT4,hrL4,qF4,⟨id',cs',j1,j2,rfl,j4,j5,j6⟩,hbl,hFl',hms,hop',hsub,hmo,htq,hnew⟩
    by_cases hql:q<ns.length
    ·obtain ⟨lid,lof,hLA, -,cz⟩:=int_at hrL4 hql
     subst hLA
     have hzb:=hns ns[q] (List.getElem_mem _)
     obtain ⟨z,hz⟩:=Int.eq_ofNat_of_zero_le hzb.1
     rw [hz] at cz hzb
     have htk1:ns.take (q+1)=ns.take q ++ [(z:Int)]:=by rw [List.take_succ_eq_append_getElem hql,hz]
     have hzl:z<F'.length:=by omega
     have cF:=cellAt_row (off:=z) qF4
     rw [bw_lget (List.getElem?_eq_getElem hzl)] at cF
     cases hFz:F'[z]
     ·have hFz2:F'[z]?=some false:=by rw [List.getElem?_eq_getElem hzl,hFz]
      rw [hFz] at cF
      have w0:=rwOf_row qF4
      have w4:=rwOf_row j4
      have hov2:=bw_set (l:=F') (i:=z) hzl
      have hcs:=count_set_t hFz2
      have hne:lid≠id':=fun e=>hbl lid lof rfl _ _ (by rw [e])
      (repeat' first|refine zcd ?_|intro K' hK|(with_reducible refine zn hK ?_;clear hK)|((with_reducible apply o_apR (t:=99) apT99 w_none);(case hs=>exact ez1 w4);(case hy=>exact ez1 w4);(case hsrc=>exact src_row (rowOf_same _ _ _ _ _) rfl);(case hr=>exact ez1 w4);(case hc=>exact rfl);(case hm=>omega);(case hli=>omega);(case hln=>omega);(case hcs=>omega))|((with_reducible first|apply zo1|apply zo2|apply o_guard rfl|apply x_cond|apply k_e1 rfl|apply k_e2 rfl|apply k_e0 rfl|apply k_e3 rfl|apply k_e4 rfl);(case he=>exact ez5 cz cF w0 w4 hov2);(try case hok=>exact ezO);all_goals try (intro hb;(try simp only [hbs,reduceCtorEq] at hb);try exact ezX))|((with_reducible apply o_undef rfl);(case hb=>exact ez0)))
      have hset:∀ x:Nat,F'[x]?=some true→(F'.set z true)[x]?=some true:=fun x hx=>by
       rw [List.getElem?_set]
       by_cases e:z=x
       ·rw [if_pos e,if_pos hzl]
       ·rw [if_neg e];exact hx
      have hsetz:(F'.set z true)[z]?=some true:=by rw [List.getElem?_set,if_pos rfl,if_pos hzl]
      have hLz:=hLn lid lof rfl
      refine k_round (ns.length - (q+1)) zm ⟨q+1,.slice (some ⟨n4+1,0,none⟩) (ops'.length+1) (ops'.length+1),ops' ++ [z],F'.set z true,rfl,by omega,ez0,by omega,(((hT4.set zm _).set zm _).set zm _).set (Nat.le_refl _) _,(((hrL4.set zm _).kill (fun b o e=>by injection e with e;injection e with e1;omega) _).set zm _).kill (fun b o e=>by injection e with e;injection e with e1;omega) _,rowOf_same _ _ _ _ _,
       ⟨n4+1,cs'.take ops'.length ++ [.int .i64 (z:Int)],by omega,by omega,by rw [List.length_append];rfl,by rw [rowOf_ne _ _ zm];exact rowOf_same _ _ _ _ _,by simp;omega,?_⟩,fun b o e=>blk_new (by injection e with e;injection e with e1;omega),by rw [List.length_set];exact hFl',by rw [List.length_append,List.length_singleton];omega,fun x hx=>?_,fun x hx=>List.mem_append_left _ (hsub x hx),fun x hx=>hset x (hmo x hx),fun x hx=>?_,fun x hx=>?_⟩
      ·rw [List.length_append,j6,cn_app,iv_app,List.take_of_length_le (by rw [List.length_append,iv_length,cn_length];exact Nat.le_refl _)]
       rfl
      ·rcases List.mem_append.1 hx with hx|hx
       ·exact ⟨(hop' x hx).1,hset x (hop' x hx).2⟩
       ·obtain rfl:=List.mem_singleton.1 hx
        exact ⟨by omega,hsetz⟩
      ·rw [htk1] at hx
       rcases List.mem_append.1 hx with hx|hx
       ·exact hset x (htq x hx)
       ·have:=List.mem_singleton.1 hx
        obtain rfl:x=z:=by omega
        exact hsetz
      ·rw [List.getElem?_set] at hx
       by_cases e:z=x
       ·subst e
        exact .inr ⟨List.mem_append_right _ (List.mem_singleton.2 rfl),by rw [← hz];exact List.getElem_mem _⟩
       ·rw [if_neg e] at hx
        rcases hnew x hx with h1|⟨h1,h2⟩
        ·exact .inl h1
        ·exact .inr ⟨List.mem_append_left _ h1,h2⟩
     ·have hFz2:F'[z]?=some true:=by rw [List.getElem?_eq_getElem hzl,hFz]
      rw [hFz] at cF
      (repeat' first|refine zcd ?_|intro K' hK|(with_reducible refine zn hK ?_;clear hK)|fail|((with_reducible first|apply zo1|apply zo2|apply o_guard rfl|apply x_cond|apply k_e1 rfl|apply k_e2 rfl|apply k_e0 rfl|apply k_e3 rfl|apply k_e4 rfl);(case he=>exact ez2 cz cF);(try case hok=>exact ezO);all_goals try (intro hb;(try simp only [hbs,reduceCtorEq] at hb);try exact ezX))|((with_reducible apply o_undef rfl);(case hb=>exact ez0)))
      refine k_round (ns.length - (q+1)) zm ⟨q+1,_,ops',F',rfl,by omega,ez0,hn4,hT4,hrL4,qF4,⟨id',cs',j1,j2,rfl,j4,j5,j6⟩,hbl,hFl',hms,hop',hsub,hmo,fun x hx=>?_,hnew⟩
      rw [htk1] at hx
      rcases List.mem_append.1 hx with hx|hx
      ·exact htq x hx
      ·have:=List.mem_singleton.1 hx
       obtain rfl:x=z:=by omega
       exact hFz2
    ·obtain rfl:q=ns.length:=by omega
     rw [List.take_length] at htq
     (repeat' first|refine zcd ?_|intro K' hK|(with_reducible refine zn hK ?_;clear hK)|fail|((with_reducible first|apply zo1|apply zo2|apply o_guard rfl|apply x_cond|apply k_e1 rfl|apply k_e2 rfl|apply k_e0 rfl|apply k_e3 rfl|apply k_e4 rfl);(case he=>exact ez0);(try case hok=>exact ezO);all_goals try (intro hb;(try simp only [hbs,reduceCtorEq] at hb);try exact ezX))|((with_reducible apply o_undef rfl);(case hb=>exact ez0)))
     refine k_round (ops'.length+F'.count false) zm ⟨F',ops',_,rfl,by omega,ez0,by omega,hT4,qF4,⟨id',cs',j1,j2,rfl,j4,j5,j6⟩,hFl',hmo _ hFi,hop',fun x hx hx2=>?_,fun x hx hx2=>?_⟩
     ·rcases hnew x hx2 with h1|⟨-,h1⟩
      ·exact hsd x hx h1
      ·exact .step (hsd y hyk.1 hyk.2) hyk.1 (by rw [hnse];exact h1)
     ·rcases hnew x hx2 with h1|⟨h1, -⟩
      ·rcases hcl x hx h1 with h2|h2
       ·rcases List.mem_append.1 h2 with h2|h2
        ·exact .inl (hsub x h2)
        ·obtain rfl:=List.mem_singleton.1 h2
         exact .inr fun z hz=>htq z (by rw [← hnse];exact hz)
       ·exact .inr fun z hz=>hmo z (h2 z hz)
      ·exact .inl h1
end
section
open Go.RowKit
variable (k d cl:Nat) (h:Hp) (n:Nat)
theorem tgreat_ev (hk:30000≤k) (A:Option Addr) (T:List Tp) (c:Nat) (hT:TabH h n A T) (hm:T.length≤9223372036854775807) (hS0:∀ t∈T,t.fs.length≤9223372036854775807) :
  SQ k (d+1) cl 9 [.slice A T.length c] h n fun v h' n'=>∃ B:Bool,v = .bool B∧(B=false→T.length≤40∧∀ t∈T,t.fs.length≤20)∧h'=h∧n'=n:=by
 by_cases hl:T.length≤40
 ·refine enter Try.func9 kz rfl kz rfl rfl rfl ?_
  (repeat' first|refine zcd ?_|intro K' hK|(with_reducible refine zn hK ?_;clear hK)|fail|((with_reducible first|apply zo1|apply zo2|apply o_guard rfl|apply x_cond|apply k_e1 rfl|apply k_e2 rfl|apply k_e0 rfl|apply k_e3 rfl|apply k_e4 rfl);(case he=>exact ez0);(try case hok=>exact ezO);all_goals try (intro hb;(try simp only [hbs,reduceCtorEq] at hb);try exact ezX))|((with_reducible apply o_undef rfl);(case hb=>exact ez0)))
  refine x_loopF [2,3,4,8,9,10,11,12,13,14,15,16,17,18,19,20,21,22,23,24,25,26,27,28,29,30,31,32,33,34,35,36,37,38,39,40,41] [3] (fun m vs=>∃ q:Nat,m=T.length - q∧q≤T.length∧vs=[.int .i64 q]∧∀ t∈T.take q,t.fs.length≤20) T.length rfl zm ⟨0,rfl,by omega,by simp (disch:=first|assumption|omega|rfl|decide) only [go_sem,seval,tys] <;> rfl,by intro t ht;simp at ht⟩ ?_
  rintro m g _ ⟨q,rfl,hq,rfl,hall⟩
  by_cases hqT:q<T.length
  ·obtain ⟨tid,toff,hA,htid, -, -, -, -,ht3⟩:=hT.at_ hqT
   have hmem:=List.getElem_mem hqT
   have hfd2:=hT.fd _ hmem
   have hs0:=hS0 _ hmem
   obtain ⟨t,htt⟩:∃ t,T[q]=t:=⟨_,rfl⟩
   rw [htt] at ht3 hfd2 hs0
   subst hA
   by_cases h20:t.fs.length≤20
   ·(repeat' first|refine zcd ?_|intro K' hK|(with_reducible refine zn hK ?_;clear hK)|fail|((with_reducible first|apply zo1|apply zo2|apply o_guard rfl|apply x_cond|apply k_e1 rfl|apply k_e2 rfl|apply k_e0 rfl|apply k_e3 rfl|apply k_e4 rfl);(case he=>exact ez1 ht3);(try case hok=>exact ezO);all_goals try (intro hb;(try simp only [hbs,reduceCtorEq] at hb);try exact ezX))|((with_reducible apply o_undef rfl);(case hb=>exact ez0)))
    refine x_loopF [2,4,21,22,23,24,25,26,27,28,29,30,31,32,33,34,35,36,37,38,39,40,41] [4] (fun m vs=>∃ j:Nat,m=t.fs.length - j∧j≤t.fs.length∧vs=[.int .i64 j]) t.fs.length rfl zm ⟨0,rfl,by omega,by simp (disch:=first|assumption|omega|rfl|decide) only [go_sem,seval,tys] <;> rfl⟩ ?_
    rintro m g2 _ ⟨j,rfl,hj,rfl⟩
    by_cases hjf:j<t.fs.length
    ·obtain ⟨id2,off2,hFA,hid2, -,hfa, -⟩:=fld_at hfd2 hjf
     rw [hFA] at ht3
     (repeat' first|refine zcd ?_|intro K' hK|(with_reducible refine zn hK ?_;clear hK)|fail|((with_reducible first|apply zo1|apply zo2|apply o_guard rfl|apply x_cond|apply k_e1 rfl|apply k_e2 rfl|apply k_e0 rfl|apply k_e3 rfl|apply k_e4 rfl);(case he=>exact ez3 ht3 hfa @size_mk);(try case hok=>exact ezO);all_goals try (intro hb;(try simp only [hbs,reduceCtorEq] at hb);try exact ezX))|((with_reducible apply o_undef rfl);(case hb=>exact ez0)))
     all_goals first|exact sw_flat rfl rfl ⟨true,rfl,fun h=>(by cases h),rfl,rfl⟩|refine k_round (t.fs.length - (j+1)) zm ⟨⟨rfl,rfl⟩,j+1,rfl,by omega,by simp (disch:=first|assumption|omega|rfl|decide) only [go_sem,seval,tys] <;> rfl⟩
    ·obtain rfl:j=t.fs.length:=by omega
     (repeat' first|refine zcd ?_|intro K' hK|(with_reducible refine zn hK ?_;clear hK)|fail|((with_reducible first|apply zo1|apply zo2|apply o_guard rfl|apply x_cond|apply k_e1 rfl|apply k_e2 rfl|apply k_e0 rfl|apply k_e3 rfl|apply k_e4 rfl);(case he=>exact ez1 ht3);(try case hok=>exact ezO);all_goals try (intro hb;(try simp only [hbs,reduceCtorEq] at hb);try exact ezX))|((with_reducible apply o_undef rfl);(case hb=>exact ez0)))
     refine k_round (T.length - (q+1)) zm ⟨⟨rfl,rfl⟩,q+1,rfl,by omega,by simp (disch:=first|assumption|omega|rfl|decide) only [go_sem,seval,tys] <;> rfl,?_⟩
     rw [List.take_succ_eq_append_getElem hqT]
     intro x hx
     rcases List.mem_append.1 hx with hx|hx
     ·exact hall x hx
     ·rw [List.mem_singleton.1 hx,htt];exact h20
   ·(repeat' first|refine zcd ?_|intro K' hK|(with_reducible refine zn hK ?_;clear hK)|fail|((with_reducible first|apply zo1|apply zo2|apply o_guard rfl|apply x_cond|apply k_e1 rfl|apply k_e2 rfl|apply k_e0 rfl|apply k_e3 rfl|apply k_e4 rfl);(case he=>exact ez1 ht3);(try case hok=>exact ezO);all_goals try (intro hb;(try simp only [hbs,reduceCtorEq] at hb);try exact ezX))|((with_reducible apply o_undef rfl);(case hb=>exact ez0)))
    all_goals exact sw_flat rfl rfl ⟨true,rfl,fun h=>(by cases h),rfl,rfl⟩
  ·obtain rfl:q=T.length:=by omega
   rw [List.take_length] at hall
   (repeat' first|refine zcd ?_|intro K' hK|(with_reducible refine zn hK ?_;clear hK)|fail|((with_reducible first|apply zo1|apply zo2|apply o_guard rfl|apply x_cond|apply k_e1 rfl|apply k_e2 rfl|apply k_e0 rfl|apply k_e3 rfl|apply k_e4 rfl);(case he=>exact ez0);(try case hok=>exact ezO);all_goals try (intro hb;(try simp only [hbs,reduceCtorEq] at hb);try exact ezX))|((with_reducible apply o_undef rfl);(case hb=>exact ez0)))
   all_goals exact sw_flat rfl rfl ⟨false,rfl,fun _=>⟨hl,hall⟩,rfl,rfl⟩
 ·refine enter Try.func9 kz rfl kz rfl rfl rfl ?_
  (repeat' first|refine zcd ?_|intro K' hK|(with_reducible refine zn hK ?_;clear hK)|fail|((with_reducible first|apply zo1|apply zo2|apply o_guard rfl|apply x_cond|apply k_e1 rfl|apply k_e2 rfl|apply k_e0 rfl|apply k_e3 rfl|apply k_e4 rfl);(case he=>exact ez0);(try case hok=>exact ezO);all_goals try (intro hb;(try simp only [hbs,reduceCtorEq] at hb);try exact ezX))|((with_reducible apply o_undef rfl);(case hb=>exact ez0)))
  all_goals exact sw_flat rfl rfl ⟨true,rfl,fun h=>(by cases h),rfl,rfl⟩
end
section
open Go.RowKit
noncomputable def reachL (T:List Tp) (i:Nat):List Int:=((List.range T.length).filter fun x=>(rchF T true i).getD x false).map fun (x:Nat)=>(x:Int)
theorem reach_mem {T:List Tp} {i:Nat} {x:Int}:x∈reachL T i↔∃ y:Nat,x=y∧y<T.length∧Rch T true i y:=by
 unfold reachL
 rw [List.mem_map]
 constructor
 ·rintro ⟨y,hy,rfl⟩
  rw [List.mem_filter,List.mem_range] at hy
  refine ⟨y,rfl,hy.1,?_⟩
  rw [← rchF_get hy.1,List.getElem?_eq_getElem (by rw [rchF_length];exact hy.1)]
  have:=hy.2
  rw [List.getD_eq_getElem?_getD,List.getElem?_eq_getElem (by rw [rchF_length];exact hy.1),Option.getD_some] at this
  rw [this]
 ·rintro ⟨y,rfl,hy,hr⟩
  refine ⟨y,?_,rfl⟩
  rw [List.mem_filter,List.mem_range]
  refine ⟨hy,?_⟩
  rw [← rchF_get hy] at hr
  rw [List.getD_eq_getElem?_getD,hr]
  rfl
theorem reach_len (T:List Tp) (i:Nat):(reachL T i).length≤T.length:=by
 unfold reachL
 rw [List.length_map]
 have:=List.length_filter_le (fun x=>(rchF T true i).getD x false) (List.range T.length)
 rw [List.length_range] at this
 exact this
variable (k d cl:Nat) (h:Hp) (n:Nat)
theorem preach_ok (hk:30000≤k) (A:Option Addr) (T:List Tp) (c:Nat) (hT:TabH h n A T) (hS:∀ t∈T,t.fs.length≤20000) (hm:T.length≤9223372036854775807) (hC:ChkT T) (i:Nat) (hi:i<T.length) :
  SQ k (d+8) cl 59 [.slice A T.length c,.int .i64 i] h n fun v h' n'=>∃ V,v = .tuple ⟨[V,.int .i64 0]⟩∧IntsV (reachL T i) h n V h' n':=by
 have hl:=hC.1
 have ha:askE T i i=0:=by unfold askE;rw [if_pos hC,if_pos ⟨⟨by omega,by omega⟩,by omega,by omega⟩]
 have q1:=pasked_1 k d n (h.set n (.row 3 false (iv [(i:Int)]))) (n+1) hk A T c ((hT.set (Nat.le_refl _) _).more zm) hS hm i (some ⟨n,0,none⟩) 1 (RdH.row zm)
 rw [ha] at q1
 have q2:=closure_ev k (d+5) n (h.set n (.row 3 false (iv [(i:Int)]))) (n+1) hk true A T c ((hT.set (Nat.le_refl _) _).more zm) hl hC.2.1 i hi
 obtain ⟨F,hF⟩:∃ F,rchF T true i=F:=⟨_,rfl⟩
 have hFl:F.length=T.length:=by rw [← hF,rchF_length]
 unfold reachL
 rw [hF] at q2 ⊢
 obtain ⟨g,hg⟩:∃ g:Nat→List Int,g=fun r=>((List.range r).filter fun x=>F.getD x false).map fun (x:Nat)=>(x:Int):=⟨_,rfl⟩
 have hg1:∀ r,g (r+1)=g r ++ if F.getD r false=true then [(r:Int)] else []:=fun r=>by
  rw [hg]
  show ((List.range (r+1)).filter _).map _=_
  rw [List.range_succ,List.filter_append,List.map_append]
  congr 1
  by_cases hr:F.getD r false=true
  ·rw [if_pos hr,List.filter_cons_of_pos (p:=fun x=>F.getD x false) hr];rfl
  ·rw [if_neg hr,List.filter_cons_of_neg (p:=fun x=>F.getD x false) hr];rfl
 have hgl:∀ r,(g r).length≤r:=fun r=>by
  rw [hg]
  show (((List.range r).filter _).map _).length≤r
  rw [List.length_map]
  have:=List.length_filter_le (fun x=>F.getD x false) (List.range r)
  rw [List.length_range] at this
  exact this
 refine enter Try.func59 kz rfl kz rfl rfl rfl ?_
 (repeat' first|refine zcd ?_|intro K' hK|(with_reducible refine zn hK ?_;clear hK)|((with_reducible apply o_callF (g:=97) w_none);(case ha=>exact ez0);(case hs=>(exact q1));(case' hk=>rintro _ h' n' ⟨rfl,rfl,rfl⟩))|((with_reducible apply o_callF (g:=98) w_none);(case ha=>exact ez0);(case hs=>(exact q2));(case' hk=>rintro _ h' n' ⟨rfl,rfl,rfl⟩))|((with_reducible first|apply zo1|apply zo2|apply o_guard rfl|apply x_cond|apply k_e1 rfl|apply k_e2 rfl|apply k_e0 rfl|apply k_e3 rfl|apply k_e4 rfl);(case he=>exact ez0);(try case hok=>exact ezO);all_goals try (intro hb;(try simp only [hbs,reduceCtorEq] at hb);try exact ezX))|((with_reducible apply o_undef rfl);(case hb=>exact ez0)))
 refine x_loopV [7,8,9,21,22,23,24,25,26,27,28,29,30,31] [7,21] (fun m vs h4 n4=>∃ (r:Nat) (O:Value),m=T.length - r∧r≤T.length∧vs=[O,.int .i64 r]∧n+1+1≤n4∧rowOf h4 (n+1)=some (4,false,bw F)∧OwnI (g r) O h4 (n+1+1) n4) T.length rfl zm ?_ ?_
 ·exact ⟨0,.slice none 0 0,rfl,by omega,ez0,Nat.le_refl _,rowOf_same _ _ _ _ _,.inl ⟨by rw [hg];rfl,rfl⟩⟩
 ·rintro m fr _ h4 n4 ⟨r,O,rfl,hr,rfl,hn4,p3,hO⟩
  by_cases hrs:r<T.length
  ·have hgr:=hgl r
   have hnx:=hg1 r
   have c3:=cellAt_row (off:=r) p3
   rw [bw_lget (b:=F.getD r false) (by rw [List.getD_eq_getElem?_getD,List.getElem?_eq_getElem zm];rfl)] at c3
   obtain ⟨acc,hacc⟩:∃ acc,g r=acc:=⟨_,rfl⟩
   rw [hacc] at hO hgr hnx
   cases hin:F.getD r false
   ·rw [hin] at c3 hnx
    rw [if_neg (by decide),List.append_nil] at hnx
    (repeat' first|refine zcd ?_|intro K' hK|(with_reducible refine zn hK ?_;clear hK)|fail|((with_reducible first|apply zo1|apply zo2|apply o_guard rfl|apply x_cond|apply k_e1 rfl|apply k_e2 rfl|apply k_e0 rfl|apply k_e3 rfl|apply k_e4 rfl);(case he=>exact ez1 c3);(try case hok=>exact ezO);all_goals try (intro hb;(try simp only [hbs,reduceCtorEq] at hb);try exact ezX))|((with_reducible apply o_undef rfl);(case hb=>exact ez0)))
    refine k_round (T.length - (r+1)) zm ⟨r+1,O,rfl,by omega,ez0,by omega,p3,by rw [hnx];exact hO⟩
   ·rw [hin] at c3 hnx
    rw [if_pos rfl] at hnx
    rcases hO with ⟨hp0,rfl⟩|⟨hp0,id5,j1,j2,rfl,j3⟩
    ·(repeat' first|refine zcd ?_|intro K' hK|(with_reducible refine zn hK ?_;clear hK)|((with_reducible apply o_ap0 (t:=99) apT99 w_none);(case hs=>exact ez0);(case hy=>exact ez0);(case hsrc=>exact src_row (rowOf_same _ _ _ _ _) rfl);(case hc=>exact rfl);(case hm=>omega);(case h0=>omega))|((with_reducible first|apply zo1|apply zo2|apply o_guard rfl|apply x_cond|apply k_e1 rfl|apply k_e2 rfl|apply k_e0 rfl|apply k_e3 rfl|apply k_e4 rfl);(case he=>exact ez1 c3);(try case hok=>exact ezO);all_goals try (intro hb;(try simp only [hbs,reduceCtorEq] at hb);try exact ezX))|((with_reducible apply o_undef rfl);(case hb=>exact ez0)))
     refine k_round (T.length - (r+1)) zm ⟨r+1,.slice (some ⟨n4+1,0,none⟩) 1 1,rfl,by omega,ez0,by omega,by rw [rowOf_ne _ _ zm,rowOf_ne _ _ zm];exact p3,.inr ⟨?_,n4+1,by omega,by omega,?_,?_⟩⟩
     ·rw [hnx];simp
     ·rw [hnx,hp0];rfl
     ·rw [hnx,hp0];exact rowOf_same _ _ _ _ _
    ·have w4:=rwOf_row j3
     have htk5:(iv acc).take acc.length=iv acc:=List.take_of_length_le (by rw [iv_length];omega)
     (repeat' first|refine zcd ?_|intro K' hK|(with_reducible refine zn hK ?_;clear hK)|((with_reducible apply o_apR (t:=99) apT99 w_none);(case hs=>exact ez1 w4);(case hy=>exact ez1 w4);(case hsrc=>exact src_row (rowOf_same _ _ _ _ _) rfl);(case hr=>exact ez1 w4);(case hc=>exact rfl);(case hm=>omega);(case hli=>omega);(case hln=>omega);(case hcs=>rw [iv_length];omega))|((with_reducible first|apply zo1|apply zo2|apply o_guard rfl|apply x_cond|apply k_e1 rfl|apply k_e2 rfl|apply k_e0 rfl|apply k_e3 rfl|apply k_e4 rfl);(case he=>exact ez2 c3 w4);(try case hok=>exact ezO);all_goals try (intro hb;(try simp only [hbs,reduceCtorEq] at hb);try exact ezX))|((with_reducible apply o_undef rfl);(case hb=>exact ez0)))
     refine k_round (T.length - (r+1)) zm ⟨r+1,.slice (some ⟨n4+1,0,none⟩) (acc.length+1) (acc.length+1),rfl,by omega,ez0,by omega,by rw [rowOf_ne _ _ zm,rowOf_ne _ _ zm,rowOf_ne _ _ zm];exact p3,.inr ⟨?_,n4+1,by omega,by omega,?_,?_⟩⟩
     ·rw [hnx];simp
     ·rw [hnx,List.length_append];rfl
     ·rw [hnx,iv_app1]
      exact ez1 htk5
  ·obtain rfl:r=T.length:=by omega
   have hge:g T.length=((List.range T.length).filter fun x=>F.getD x false).map fun (x:Nat)=>(x:Int):=by rw [hg]
   rw [← hge]
   rcases hO with ⟨hp0,rfl⟩|⟨hp0,id5,j1,j2,rfl,j3⟩
   ·(repeat' first|refine zcd ?_|intro K' hK|(with_reducible refine zn hK ?_;clear hK)|fail|((with_reducible first|apply zo1|apply zo2|apply o_guard rfl|apply x_cond|apply k_e1 rfl|apply k_e2 rfl|apply k_e0 rfl|apply k_e3 rfl|apply k_e4 rfl);(case he=>exact ez0);(try case hok=>exact ezO);all_goals try (intro hb;(try simp only [hbs,reduceCtorEq] at hb);try exact ezX))|((with_reducible apply o_undef rfl);(case hb=>exact ez0)))
    exact sw_flat rfl rfl ⟨_,rfl,.inl ⟨hp0,rfl,rfl,rfl⟩⟩
   ·(repeat' first|refine zcd ?_|intro K' hK|(with_reducible refine zn hK ?_;clear hK)|fail|((with_reducible first|apply zo1|apply zo2|apply o_guard rfl|apply x_cond|apply k_e1 rfl|apply k_e2 rfl|apply k_e0 rfl|apply k_e3 rfl|apply k_e4 rfl);(case he=>exact ez0);(try case hok=>exact ezO);all_goals try (intro hb;(try simp only [hbs,reduceCtorEq] at hb);try exact ezX))|((with_reducible apply o_undef rfl);(case hb=>exact ez0)))
    refine sw_row (m:=id5) ezI rfl zm j3 (iv_idA _ _) ezR ?_
    exact ⟨_,rfl,.inr ⟨hp0,rfl,rfl,rfl⟩⟩
theorem rparts_ev (hk:30000≤k) {m i:Nat} {t:Tp} (hf:fineB m i t=true) (hr:RdH h n t.A (fv t.fs)) :
  SQ k (d+1) cl 118 [.agg ⟨[.int .u8 t.kd,.int .i64 t.el,.int .i64 t.ln,.slice t.A t.fs.length t.c]⟩] h n (IntsV (leadsT false t) h n):=by
 by_cases hc:t.kd=6
 ·have hn:=fine_nofs hf zm
  have hl:leadsT false t=[t.el]:=by unfold leadsT;rw [if_pos (.inl hc)]
  rw [hl,hn,hc]
  exact (rparts_arr0 k d cl h n hk t.el t.ln t.A t.c).mono fun _ _ _ hh=>.inr ⟨by simp,hh⟩
 ·have hl:leadsT false t=t.fs.map (·.2):=by unfold leadsT;rw [if_neg (by simp [hc])]
  rw [hl]
  have hs:=fine_len hf
  by_cases hn:t.fs=[]
  ·rw [hn]
   exact (rparts_nil k d cl h n hk t.kd t.el t.ln t.A t.c hc).mono fun _ _ _ hh=>.inl ⟨rfl,hh⟩
  ·refine (rparts_fld k d cl h n hk t.kd t.el t.ln t.A t.fs t.c hc hn hr zm).mono fun _ _ _ hh=>.inr ⟨by simpa using hn,?_⟩
   rw [List.length_map]
   exact hh
theorem rleads_ev (hk:30000≤k) {m i:Nat} {t:Tp} (hf:fineB m i t=true) (hr:RdH h n t.A (fv t.fs)) :
  SQ k (d+2) cl 96 [.agg ⟨[.int .u8 t.kd,.int .i64 t.el,.int .i64 t.ln,.slice t.A t.fs.length t.c]⟩] h n (IntsV (leadsT true t) h n):=by
 have p1:=rparts_ev k d n (h.set n (.row 64 false [.int .u8 t.kd,.int .i64 t.el,.int .i64 t.ln,.slice t.A t.fs.length t.c])) (n+1) hk hf ((hr.set (Nat.le_refl _) _).more zm)
 by_cases h47:t.kd=4∨t.kd=7
 ·have hn:=fine_nofs hf zm
  have hl:leadsT true t=[t.el]:=by unfold leadsT;rw [if_pos (.inr ⟨rfl,h47⟩)]
  have hl2:leadsT false t=[]:=by unfold leadsT;rw [if_neg (by simp;omega),hn];rfl
  have p2:=p1.mono (Φ':=fun v h' n'=>v = .slice none 0 0∧h'=h.set n (.row 64 false [.int .u8 t.kd,.int .i64 t.el,.int .i64 t.ln,.slice t.A t.fs.length t.c])∧n'=n+1) fun _ _ _ hh=>by
   rw [hl2] at hh
   rcases hh with ⟨-,hh⟩|⟨hh, -⟩
   ·exact hh
   ·exact absurd rfl hh
  rw [hl]
  refine enter Try.func96 kz rfl kz rfl rfl rfl ?_
  (repeat' first|refine zcd ?_|intro K' hK|(with_reducible refine zn hK ?_;clear hK)|((with_reducible apply o_callF (g:=118) w_none);(case ha=>exact ez0);(case hs=>(exact p2));(case' hk=>rintro _ h' n' ⟨rfl,rfl,rfl⟩))|((with_reducible apply o_ap0 (t:=99) apT99 w_none);(case hs=>exact ez0);(case hy=>exact ez0);(case hsrc=>exact src_row (rowOf_same _ _ _ _ _) rfl);(case hc=>exact rfl);(case hm=>omega);(case h0=>omega))|((with_reducible first|apply zo1|apply zo2|apply o_guard rfl|apply x_cond|apply k_e1 rfl|apply k_e2 rfl|apply k_e0 rfl|apply k_e3 rfl|apply k_e4 rfl);(case he=>exact ez0);(try case hok=>exact ezO);all_goals try (intro hb;(try simp only [hbs,reduceCtorEq] at hb);try exact ezX))|((with_reducible apply o_undef rfl);(case hb=>exact ez0)))
  all_goals (refine sw_row ezI rfl zm (by first|assumption|(simp (disch:=first|assumption|omega|rfl|decide) only [go_sem,seval,tys] <;> rfl)) (iv_idA _ [t.el]) ezR ?_;exact .inr ⟨by simp,rfl,rfl,rfl⟩)
 ·have hl:leadsT true t=leadsT false t:=by
   unfold leadsT
   by_cases h6:t.kd=6
   ·rw [if_pos (.inl h6),if_pos (.inl h6)]
   ·rw [if_neg (by simp;omega),if_neg (by simp;omega)]
  rw [hl]
  obtain ⟨l,hle⟩:∃ l,leadsT false t=l:=⟨_,rfl⟩
  rw [hle] at p1 ⊢
  refine enter Try.func96 kz rfl kz rfl rfl rfl ?_
  by_cases hz:l=[]
  ·have p2:=p1.mono (Φ':=fun v h' n'=>v = .slice none 0 0∧h'=h.set n (.row 64 false [.int .u8 t.kd,.int .i64 t.el,.int .i64 t.ln,.slice t.A t.fs.length t.c])∧n'=n+1) fun _ _ _ hh=>by
    rcases hh with ⟨-,hh⟩|⟨hh, -⟩
    ·exact hh
    ·exact absurd hz hh
   (repeat' first|refine zcd ?_|intro K' hK|(with_reducible refine zn hK ?_;clear hK)|((with_reducible apply o_callF (g:=118) w_none);(case ha=>exact ez0);(case hs=>(exact p2));(case' hk=>rintro _ h' n' ⟨rfl,rfl,rfl⟩))|((with_reducible first|apply zo1|apply zo2|apply o_guard rfl|apply x_cond|apply k_e1 rfl|apply k_e2 rfl|apply k_e0 rfl|apply k_e3 rfl|apply k_e4 rfl);(case he=>exact ez0);(try case hok=>exact ezO);all_goals try (intro hb;(try simp only [hbs,reduceCtorEq] at hb);try exact ezX))|((with_reducible apply o_undef rfl);(case hb=>exact ez0)))
   all_goals exact sw_flat rfl rfl (.inl ⟨hz,rfl,rfl,rfl⟩)
  ·have p2:=p1.mono (Φ':=fun v h' n'=>v = .slice (some ⟨n+1,0,none⟩) l.length l.length∧h'=(h.set n (.row 64 false [.int .u8 t.kd,.int .i64 t.el,.int .i64 t.ln,.slice t.A t.fs.length t.c])).set (n+1) (.row 3 false (iv l))∧n'=n+1+1) fun _ _ _ hh=>by
    rcases hh with ⟨hh, -⟩|⟨-,hh⟩
    ·exact absurd hh hz
    ·exact hh
   (repeat' first|refine zcd ?_|intro K' hK|(with_reducible refine zn hK ?_;clear hK)|((with_reducible apply o_callF (g:=118) w_none);(case ha=>exact ez0);(case hs=>(exact p2));(case' hk=>rintro _ h' n' ⟨rfl,rfl,rfl⟩))|((with_reducible first|apply zo1|apply zo2|apply o_guard rfl|apply x_cond|apply k_e1 rfl|apply k_e2 rfl|apply k_e0 rfl|apply k_e3 rfl|apply k_e4 rfl);(case he=>exact ez0);(try case hok=>exact ezO);all_goals try (intro hb;(try simp only [hbs,reduceCtorEq] at hb);try exact ezX))|((with_reducible apply o_undef rfl);(case hb=>exact ez0)))
   all_goals (refine sw_row ezI rfl zm (by first|assumption|(simp (disch:=first|assumption|omega|rfl|decide) only [go_sem,seval,tys] <;> rfl)) (iv_idA _ l) ezR ?_;exact .inr ⟨hz,rfl,rfl,rfl⟩)
end
section
open Go.RowKit
theorem land_up (n:Nat) (h:n<2 ^ 63):n &&& 18446744073709551608=n / 8*8:=by
 have e1:(18446744073709551608:Nat)=(2 ^ 61 - 1) <<< 3:=by decide
 have e2:n / 8*8=(n >>> 3) <<< 3:=by rw [Nat.shiftRight_eq_div_pow,Nat.shiftLeft_eq]
 rw [e1,e2]
 apply Nat.eq_of_testBit_eq
 intro i
 rw [Nat.testBit_and,Nat.testBit_shiftLeft,Nat.testBit_shiftLeft,Nat.testBit_two_pow_sub_one,Nat.testBit_shiftRight]
 by_cases h3:3≤i
 ·rw [show 3+(i - 3)=i from by omega,decide_eq_true h3,Bool.true_and,Bool.true_and]
  by_cases h61:i - 3<61
  ·rw [decide_eq_true h61,Bool.and_true]
  ·rw [decide_eq_false h61,Bool.and_false,Nat.testBit_lt_two_pow (Nat.lt_of_lt_of_le h (Nat.pow_le_pow_right zm zm))]
 ·rw [decide_eq_false h3,Bool.false_and,Bool.false_and,Bool.and_false]
def upI (x a:Int):Int:=(x+a - 1) / a*a
theorem upI_1 (x:Int):upI x 1=x:=by unfold upI;omega
theorem upI_8 (x:Int):upI x 8=(x+7) / 8*8:=by unfold upI;omega
def Al (a:Int):Prop:=a=1∨a=8
theorem upI_bnd {x a:Int} (ha:Al a) (hx:0≤x):x≤upI x a∧upI x a≤x+7:=by
 rcases ha with rfl|rfl
 ·rw [upI_1];omega
 ·rw [upI_8];omega
theorem upI_min {C x a:Int} (ha:Al a) (hC:C % 8=0):upI (min C x) a=min C (upI x a):=by
 rcases ha with rfl|rfl
 ·rw [upI_1,upI_1]
 ·rw [upI_8,upI_8];omega
theorem upI_le {C x a:Int} (ha:Al a) (hC:C % 8=0) (h:x≤C):upI x a≤C:=by
 rcases ha with rfl|rfl
 ·rw [upI_1];exact h
 ·rw [upI_8];omega
theorem b_andnot (x a:Int) (ha:Al a) (hx:0≤x) (hx2:x≤4611686018427387904) (h:Hp) (n:Nat):mBin Try.prog .andNot 3 (.int .i64 (x+a - 1)) (.int .i64 (a - 1)) h n=some ⟨.int .i64 (upI x a),h,n,[],[]⟩:=by
 have e:prun Try.prog (Op.intBits .andNot .i64 (x+a - 1) (a - 1))=some (.int .i64 (upI x a)):=by
  show some (Value.int IntKind.i64 (IntKind.wrap .i64 (((BitVec.ofInt 64 (x+a - 1)) &&& ~~~ (BitVec.ofInt 64 (a - 1))).toNat:Int)))=_
  rcases ha with rfl|rfl
  ·obtain ⟨m,rfl⟩:=Int.eq_ofNat_of_zero_le hx
   rw [upI_1,show (m:Int)+1 - 1=(m:Int) from by omega,show (1:Int) - 1=0 from rfl]
   have h1:(BitVec.ofInt 64 (m:Int) &&& ~~~ BitVec.ofInt 64 0).toNat=m:=by
    have: ~~~ BitVec.ofInt 64 0=BitVec.allOnes 64:=by decide
    rw [this,BitVec.and_allOnes,BitVec.ofInt_natCast,BitVec.toNat_ofNat,Nat.mod_eq_of_lt zm]
   rw [h1]
   congr 2
   exact wrap_i64 zm zm
  ·obtain ⟨m,rfl⟩:=Int.eq_ofNat_of_zero_le hx
   rw [upI_8,show (m:Int)+8 - 1=((m+7:Nat):Int) from by omega,show (8:Int) - 1=7 from rfl]
   have h1:(BitVec.ofInt 64 ((m+7:Nat):Int) &&& ~~~ BitVec.ofInt 64 7).toNat=(m+7) / 8*8:=by
    have h7:(~~~ BitVec.ofInt 64 7).toNat=18446744073709551608:=by decide
    rw [BitVec.toNat_and,h7,BitVec.ofInt_natCast,BitVec.toNat_ofNat,Nat.mod_eq_of_lt zm]
    exact land_up _ zm
   rw [h1]
   congr 2
   rw [wrap_i64 zm zm]
   omega
 show (prun Try.prog (Op.intBits .andNot .i64 (x+a - 1) (a - 1))).bind (fun v=>bif flat1 v then mV v h n else none)=_
 rw [e]
 rfl
abbrev Ext:=List (Int × Int)
def Ext.at_ (E:Ext) (i:Int):Int × Int:=E.getD i.toNat (0,0)
def EOk (C:Int) (p:Int × Int):Prop:=0≤p.1∧p.1≤C∧Al p.2
def lStep (C:Int) (E:Ext) (st:List Int × Int × Int) (f:List UInt8 × Int):List Int × Int × Int:=
 (st.1 ++ [upI st.2.1 (E.at_ f.2).2],min C (upI st.2.1 (E.at_ f.2).2+(E.at_ f.2).1),max st.2.2 (E.at_ f.2).2)
def layR (C:Int) (E:Ext) (fs:List (List UInt8 × Int)):List Int × Int × Int:=fs.foldl (lStep C E) ([],0,1)
theorem layR_take (C:Int) (E:Ext) {fs:List (List UInt8 × Int)} {q:Nat} (hq:q<fs.length):layR C E (fs.take (q+1))=lStep C E (layR C E (fs.take q)) fs[q]:=by
 unfold layR;rw [List.take_succ_eq_append_getElem hq,List.foldl_append];rfl
theorem layR_len (C:Int) (E:Ext) (fs:List (List UInt8 × Int)):∀ q,q≤fs.length→(layR C E (fs.take q)).1.length=q
 | 0,_=>by simp [layR]
 | q+1,h=>by rw [layR_take C E zm];unfold lStep;rw [List.length_append,layR_len C E fs q zm];rfl
def FOk (C:Int) (E:Ext) (fs:List (List UInt8 × Int)):Prop:=∀ f∈fs,EOk C (E.at_ f.2)
theorem Al.bnd {a:Int} (h:Al a):1≤a∧a≤8:=by rcases h with rfl|rfl <;> omega
theorem Al.max {a b:Int} (h:Al a) (h':Al b):Al (max a b):=by unfold Al at *;omega
theorem layR_ok {C:Int} (hC:0≤C) {E:Ext} {fs:List (List UInt8 × Int)} (hf:FOk C E fs):∀ q,q≤fs.length→0≤(layR C E (fs.take q)).2.1∧(layR C E (fs.take q)).2.1≤C∧Al (layR C E (fs.take q)).2.2
 | 0,_=>⟨Int.le_refl _,hC,.inl rfl⟩
 | q+1,h=>by
  have ih:=layR_ok hC hf q zm
  have h1:=hf fs[q] (List.getElem_mem _)
  obtain ⟨h2,h3,h4⟩:=h1
  have h5:=upI_bnd h4 ih.1
  rw [layR_take C E zm]
  unfold lStep
  dsimp only
  exact ⟨by omega,by omega,ih.2.2.max h4⟩
def eOne (C:Int) (E:Ext) (t:Tp):Int × Int:=
 if t.kd=1 then (1,1) else if t.kd=2∨t.kd=4 then (8,8) else if t.kd=3 then (16,8) else if t.kd=7 then (24,8)
 else if t.kd=6 then (min C (t.ln*(E.at_ t.el).1),(E.at_ t.el).2)
 else (upI (layR C E t.fs).2.1 (layR C E t.fs).2.2,(layR C E t.fs).2.2)
def eRow (C:Int) (T:List Tp):Ext:=T.foldl (fun E t=>E ++ [eOne C E t]) []
theorem eRow_snoc (C:Int) (T:List Tp) (t:Tp):eRow C (T ++ [t])=eRow C T ++ [eOne C (eRow C T) t]:=by unfold eRow;rw [List.foldl_append];rfl
theorem eRow_take (C:Int) {T:List Tp} {i:Nat} (hi:i<T.length):eRow C (T.take (i+1))=eRow C (T.take i) ++ [eOne C (eRow C (T.take i)) T[i]]:=by rw [List.take_succ_eq_append_getElem hi,eRow_snoc]
theorem eRow_length' (C:Int):∀ (T:List Tp) (a:Ext),(T.foldl (fun E t=>E ++ [eOne C E t]) a).length=a.length+T.length
 | [],a=>by simp
 | t :: T,a=>by rw [List.foldl_cons,eRow_length' C T,List.length_append,List.length_cons];simp;omega
theorem eRow_length (C:Int) (T:List Tp):(eRow C T).length=T.length:=by unfold eRow;rw [eRow_length'];simp
theorem eRow_tlen (C:Int) {T:List Tp} {i:Nat} (hi:i≤T.length):(eRow C (T.take i)).length=i:=by rw [eRow_length,List.length_take];omega
theorem fine_kd {m i:Nat} {t:Tp} (h:fineB m i t=true):1≤t.kd∧t.kd≤7:=by
 by_cases hk:1≤t.kd∧t.kd≤7
 ·exact hk
 ·rw [fineB_no hk] at h;cases h
theorem Ext.at_mem {C:Int} {E:Ext} (hE:∀ p∈E,EOk C p) {i:Int} (h0:0≤i) (h1:i<E.length):EOk C (E.at_ i):=by
 unfold Ext.at_
 rw [List.getD_eq_getElem?_getD,List.getElem?_eq_getElem zm]
 exact hE _ (List.getElem_mem _)
theorem fine_fok {C:Int} {E:Ext} (hE:∀ p∈E,EOk C p) {m:Nat} {t:Tp} (h:fineB m E.length t=true):FOk C E t.fs:=by
 intro f hf
 obtain ⟨q,hq,rfl⟩:=List.getElem_of_mem hf
 have:=fine_fld h hq
 exact Ext.at_mem hE this.1 this.2
theorem eOne_ok {C:Int} (hC:24≤C) (hC8:C % 8=0) {E:Ext} (hE:∀ p∈E,EOk C p) {m:Nat} {t:Tp} (h:fineB m E.length t=true):EOk C (eOne C E t):=by
 unfold eOne
 have hk:=fine_kd h
 repeat' split
 ·exact ⟨by decide,by dsimp only;omega,.inl rfl⟩
 ·exact ⟨by decide,by dsimp only;omega,.inr rfl⟩
 ·exact ⟨by decide,by dsimp only;omega,.inr rfl⟩
 ·exact ⟨by decide,by dsimp only;omega,.inr rfl⟩
 ·rename_i h6
  have ha:=fine_arr h h6
  obtain ⟨h1,h2,h3⟩:=Ext.at_mem hE (i:=t.el) ha.1 ha.2.1
  have:0≤t.ln*(E.at_ t.el).1:=Int.mul_nonneg zm h1
  exact ⟨by dsimp only;omega,by dsimp only;omega,h3⟩
 ·have hl:=layR_ok (C:=C) zm (fine_fok hE h) t.fs.length (Nat.le_refl _)
  rw [List.take_length] at hl
  have hb:=upI_bnd hl.2.2 hl.1
  exact ⟨by dsimp only;omega,upI_le hl.2.2 hC8 hl.2.1,hl.2.2⟩
theorem eRow_ok {C:Int} (hC:24≤C) (hC8:C % 8=0) {T:List Tp} (hF:Fine T):∀ i,i≤T.length→∀ p∈eRow C (T.take i),EOk C p
 | 0,_=>fun p hp=>by simp [eRow] at hp
 | i+1,hi=>by
  have ih:=eRow_ok hC hC8 hF i zm
  rw [eRow_take C zm]
  intro p hp
  rcases List.mem_append.1 hp with hp|hp
  ·exact ih p hp
  ·rw [List.mem_singleton.1 hp]
   exact eOne_ok hC hC8 ih (m:=T.length) (by rw [eRow_tlen C zm];exact hF i zm)
def ecell (p:Int × Int):List Value:=[.int .i64 p.1,.int .i64 p.2]
def ev (E:Ext):List Value:=E.flatMap ecell
theorem ecell_length (p:Int × Int):(ecell p).length=2:=rfl
theorem ev_length (E:Ext):(ev E).length=E.length*2:=rows_length ecell ecell_length E
theorem ev_app (E G:Ext):ev (E ++ G)=ev E ++ ev G:=by unfold ev;rw [List.flatMap_append]
theorem ev_idA (n:Nat) (E:Ext):∀ v∈ev E,idA n v=[]:=by
 intro v hv
 obtain ⟨a, -,h⟩:=List.mem_flatMap.1 hv
 unfold ecell at h
 simp only [List.mem_cons,List.not_mem_nil,or_false] at h
 rcases h with rfl|rfl <;> rfl
theorem ev_get {E:Ext} {i:Nat} (hi:i<E.length):lget (ev E) (i*2)=some (.int .i64 (E.at_ (i:Int)).1)∧lget (ev E) (i*2+1)=some (.int .i64 (E.at_ (i:Int)).2)∧ltake 2 (ldrop (i*2) (ev E))=some [.int .i64 (E.at_ (i:Int)).1,.int .i64 (E.at_ (i:Int)).2]:=by
 have e:E.at_ (i:Int)=E[i]:=by unfold Ext.at_;rw [Int.toNat_natCast,List.getD_eq_getElem?_getD,List.getElem?_eq_getElem hi];rfl
 have h0:=rows_get ecell ecell_length hi (j:=0) zm
 have h1:=rows_get ecell ecell_length hi (j:=1) zm
 have h2:=rows_split ecell ecell_length hi
 rw [e]
 refine ⟨by rw [lget_eq];exact h0,by rw [lget_eq];exact h1,?_⟩
 rw [ldrop_eq]
 unfold ev
 rw [h2]
 unfold ecell
 simp only [List.cons_append,List.nil_append,ltake_cons,ltake_zero,Option.map_some]
end
end Go.Proofs.Ytcpkdjikembpnaa.Ce
