/- Parts of the proof of ValueBack: Io. No condition of its own. -/
import Derived.Test.YtcpkdjikembpnaaWaaz
import Derived.Test.YtcpkdjikembpnaaWaba
set_option linter.unusedVariables false
set_option linter.unusedSimpArgs false
set_option maxRecDepth 1000000
set_option maxHeartbeats 4000000
namespace Go.Proofs.Ytcpkdjikembpnaa.Ce
open Go.RowKit
theorem fit_if {i:Int} {s:List UInt8} {m mx dp:Nat} (X:Bool) (h:¬ (0<m→0<dp)→X=false):(decide (i=0) && (decide (s=[]) && (decide (m≤mx) && X)))=if i=0∧s=[]∧m≤mx∧(0<m→0<dp) then X else false:=by
 by_cases c:0<m→0<dp
 ·by_cases a:i=0 <;> by_cases b:s=[] <;> by_cases e:m≤mx <;> simp [a,b,e]
  intro _
  rcases Nat.eq_zero_or_pos m with h0|h0
  ·exact .inl h0
  ·exact .inr (c h0)
 ·rw [h c]
  by_cases a:i=0 <;> by_cases b:s=[] <;> by_cases e:m≤mx <;> simp [a,b,e]
variable (k:Nat)
theorem rfits15_ev (hk:30000≤k) (TA:Option Addr) (T:List Tp) (tc:Nat):∀ (N t:Nat) (v:V) (dp:Nat),OkV T t→Bd N v→dp≤3→∀ (d cl:Nat) (h:Hp) (n:Nat) (cs:List Value),TabH h n TA T→VH h n v cs →
  SQ k (d+N+10) cl 52 [.slice TA T.length tc,.int .i64 t,.agg ⟨cs⟩,.int .i64 dp] h n fun w h' n'=>w = .bool (fitP T N t v dp)∧h=h'∧n=n':=by
 intro N
 induction N with
 | zero=>intro t v dp _ hb;exact absurd hb (by unfold Bd;exact id)
 | succ N ih=>
 intro t v dp ho hb hdp d cl h n cs hT hv
 rw [show d+(N+1)+10=d+N+10+1 from by omega]
 have htl:=ho.lt
 have hfi:=ho.chk.2.1 t htl
 have hkd:=fine_kd hfi
 have hpt:=fun e=>ho.ptr e
 have hpl:=prt_len ho
 have hpi:=fun q (a:q<(prtT T[t]).length) (b:q<(offsT T T[t]).length)=>prt_in ho a b
 obtain ⟨tid,toff,hTA,htid, -,hti,hte, -, -⟩:=hT.at_ htl
 subst hTA
 obtain ⟨A1,cc1,rfl,hA1,hl1⟩:=hv.cut
 obtain ⟨hb1,hb2⟩:=hb
 obtain ⟨vk,i,s,l,c⟩:=v
 simp only [V.kd,V.i,V.s,V.l,V.c] at hl1 hv hb1 hb2 ⊢
 rw [fitP,List.getElem?_eq_getElem htl]
 dsimp only
 have hzp:∀ q (hq:q<(prtT T[t]).length),∃ y:Nat,(prtT T[t])[q]=(y:Int)∧OkV T y:=fun q hq=>by
  obtain ⟨y,e, -,b, -⟩:=hpi q hq zm
  exact ⟨y,e,b⟩
 have hx:=List.getElem?_eq_getElem htl
 have qp5:=fun e=>fun (cl:Nat) (h6:Hp) (n6:Nat) (hT6:TabH h6 n6 (some ⟨tid,toff,none⟩) T)=>rpt_fld k (d+N+5) cl h6 n6 hk (some ⟨tid,toff,none⟩) T tc hT6 t ho e
 have qp6:=fun e=>fun (cl:Nat) (h6:Hp) (n6:Nat) (hT6:TabH h6 n6 (some ⟨tid,toff,none⟩) T)=>rpt_arr k (d+N+4) cl h6 n6 hk (some ⟨tid,toff,none⟩) T tc hT6 t ho e
 rw [show d+N+5+5=d+N+10 from rfl] at qp5
 rw [show d+N+4+6=d+N+10 from rfl] at qp6
 clear hx
 obtain ⟨x,hx⟩:∃ x,T[t]=x:=⟨_,rfl⟩
 simp only [hx] at hfi hkd hpt hpl hzp hti hte qp5 qp6 ⊢
 clear hpi
 by_cases e0:vk≠x.kd∨c=true
 ·rw [if_pos e0]
  obtain ⟨kd,el,ln,fs,FA,fc⟩:=x
  dsimp only at e0 hti hte
  by_cases e1:vk=kd
  ·have hc:c=true:=e0.resolve_left (not_not_intro e1)
   rw [hc,e1]
   refine enter Try.func52 kz rfl kz rfl rfl rfl ?_
   (repeat' first|refine zcd ?_|intro K' hK|(with_reducible refine zn hK ?_;clear hK)|(with_reducible refine x_drawnD (id:=1) [(1,6)] kz fun K' hK=>?_)|((with_reducible apply d_nil);(case hp=>exact ezP);(case' hx=>(refine hK _ _ _ ?_;clear hK)))|((with_reducible apply d_pure w_none);(case hp=>exact rfl);(case hc=>exact rfl);(case he=>exact ez1 hti))|((with_reducible apply d_eff w_none);(case hc=>exact rfl);(case he=>exact ez1 hti);(case hok=>exact ezO))|((with_reducible apply d_guard rfl);(case hb=>exact ez1 hti);(case' h1=>intro hb;(try simp only [hbs,reduceCtorEq] at hb);try exact ezX);(case' h2=>intro hb;(try simp only [hbs,reduceCtorEq] at hb);try exact ezX))|((with_reducible first|apply zo1|apply zo2|apply o_guard rfl|apply x_cond|apply k_e1 rfl|apply k_e2 rfl|apply k_e0 rfl|apply k_e3 rfl|apply k_e4 rfl);(case he=>exact ez0);(try case hok=>exact ezO);all_goals try (intro hb;(try simp only [hbs,reduceCtorEq] at hb);try exact ezX))|((with_reducible apply o_undef rfl);(case hb=>exact ez0)))
   all_goals exact sw_flat rfl rfl ⟨rfl,rfl,rfl⟩
  ·cases c
   all_goals
    refine enter Try.func52 kz rfl kz rfl rfl rfl ?_
    (repeat' first|refine zcd ?_|intro K' hK|(with_reducible refine zn hK ?_;clear hK)|(with_reducible refine x_drawnD (id:=1) [(1,6)] kz fun K' hK=>?_)|((with_reducible apply d_nil);(case hp=>exact ezP);(case' hx=>(refine hK _ _ _ ?_;clear hK)))|((with_reducible apply d_pure w_none);(case hp=>exact rfl);(case hc=>exact rfl);(case he=>exact ez1 hti))|((with_reducible apply d_eff w_none);(case hc=>exact rfl);(case he=>exact ez1 hti);(case hok=>exact ezO))|((with_reducible apply d_guard rfl);(case hb=>exact ez1 hti);(case' h1=>intro hb;(try simp only [hbs,reduceCtorEq] at hb);try exact ezX);(case' h2=>intro hb;(try simp only [hbs,reduceCtorEq] at hb);try exact ezX))|((with_reducible first|apply zo1|apply zo2|apply o_guard rfl|apply x_cond|apply k_e1 rfl|apply k_e2 rfl|apply k_e0 rfl|apply k_e3 rfl|apply k_e4 rfl);(case he=>exact ez0);(try case hok=>exact ezO);all_goals try (intro hb;(try simp only [hbs,reduceCtorEq] at hb);try exact ezX))|((with_reducible apply o_undef rfl);(case hb=>exact ez0)))
    all_goals exact sw_flat rfl rfl ⟨rfl,rfl,rfl⟩
 rw [if_neg e0]
 obtain ⟨hvk,hvc⟩:vk=x.kd∧c=false:=⟨Classical.byContradiction fun hh=>e0 (.inl hh),by cases hcc:c with
  | false=>rfl
  | true=>exact absurd (.inr hcc) e0⟩
 clear e0
 obtain ⟨kd,el,ln,fs,FA,fc⟩:=x
 dsimp only at hvk ⊢
 subst hvk
 subst hvc
 have hck:vk=1∨vk=2∨vk=3∨(vk=4∨vk=7)∨vk=5∨vk=6:=by dsimp only at hkd;omega
 dsimp only at hti hte hpt hpl hzp
 rcases hck with rfl|rfl|rfl|h47|hc56
 ·rw [if_pos rfl]
  clear qp5 qp6
  by_cases hs:s=[]
  ·subst hs
   refine enter Try.func52 kz rfl kz rfl rfl rfl ?_
   (repeat' first|refine zcd ?_|intro K' hK|(with_reducible refine zn hK ?_;clear hK)|(with_reducible refine x_drawnD (id:=1) [(1,6)] kz fun K' hK=>?_)|((with_reducible apply d_nil);(case hp=>exact ezP);(case' hx=>(refine hK _ _ _ ?_;clear hK)))|((with_reducible apply d_pure w_none);(case hp=>exact rfl);(case hc=>exact rfl);(case he=>exact ez1 hti))|((with_reducible apply d_eff w_none);(case hc=>exact rfl);(case he=>exact ez1 hti);(case hok=>exact ezO))|((with_reducible apply d_guard rfl);(case hb=>exact ez1 hti);(case' h1=>intro hb;(try simp only [hbs,reduceCtorEq] at hb);try exact ezX);(case' h2=>intro hb;(try simp only [hbs,reduceCtorEq] at hb);try exact ezX))|((with_reducible first|apply zo1|apply zo2|apply o_guard rfl|apply x_cond|apply k_e1 rfl|apply k_e2 rfl|apply k_e0 rfl|apply k_e3 rfl|apply k_e4 rfl);(case he=>exact ez2 @b_strEql @b_self);(try case hok=>exact ezO);all_goals try (intro hb;(try simp only [hbs,reduceCtorEq] at hb);try exact ezX))|((with_reducible apply o_undef rfl);(case hb=>exact ez0)))
   all_goals exact sw_flat rfl rfl ⟨by congr 1;by_cases a0:i=0 <;> by_cases a1:i=1 <;> by_cases a2:l.length=0 <;> first|omega|(simp [a0,a1,a2];done)|(simp_all;done)|(simp_all;omega),rfl,rfl⟩
  ·have e5:=b_diff hs
   rw [show (decide (s=[]) && (decide (l.length=0) && decide (i=0∨i=1)))=false from by simp [hs]]
   refine enter Try.func52 kz rfl kz rfl rfl rfl ?_
   (repeat' first|refine zcd ?_|intro K' hK|(with_reducible refine zn hK ?_;clear hK)|(with_reducible refine x_drawnD (id:=1) [(1,6)] kz fun K' hK=>?_)|((with_reducible apply d_nil);(case hp=>exact ezP);(case' hx=>(refine hK _ _ _ ?_;clear hK)))|((with_reducible apply d_pure w_none);(case hp=>exact rfl);(case hc=>exact rfl);(case he=>exact ez1 hti))|((with_reducible apply d_eff w_none);(case hc=>exact rfl);(case he=>exact ez1 hti);(case hok=>exact ezO))|((with_reducible apply d_guard rfl);(case hb=>exact ez1 hti);(case' h1=>intro hb;(try simp only [hbs,reduceCtorEq] at hb);try exact ezX);(case' h2=>intro hb;(try simp only [hbs,reduceCtorEq] at hb);try exact ezX))|((with_reducible first|apply zo1|apply zo2|apply o_guard rfl|apply x_cond|apply k_e1 rfl|apply k_e2 rfl|apply k_e0 rfl|apply k_e3 rfl|apply k_e4 rfl);(case he=>exact ez2 @b_strEql e5);(try case hok=>exact ezO);all_goals try (intro hb;(try simp only [hbs,reduceCtorEq] at hb);try exact ezX))|((with_reducible apply o_undef rfl);(case hb=>exact ez0)))
   all_goals exact sw_flat rfl rfl ⟨rfl,rfl,rfl⟩
 ·rw [if_neg (by decide),if_pos rfl]
  clear qp5 qp6
  by_cases hs:s=[]
  ·subst hs
   refine enter Try.func52 kz rfl kz rfl rfl rfl ?_
   (repeat' first|refine zcd ?_|intro K' hK|(with_reducible refine zn hK ?_;clear hK)|(with_reducible refine x_drawnD (id:=1) [(1,6)] kz fun K' hK=>?_)|((with_reducible apply d_nil);(case hp=>exact ezP);(case' hx=>(refine hK _ _ _ ?_;clear hK)))|((with_reducible apply d_pure w_none);(case hp=>exact rfl);(case hc=>exact rfl);(case he=>exact ez1 hti))|((with_reducible apply d_eff w_none);(case hc=>exact rfl);(case he=>exact ez1 hti);(case hok=>exact ezO))|((with_reducible apply d_guard rfl);(case hb=>exact ez1 hti);(case' h1=>intro hb;(try simp only [hbs,reduceCtorEq] at hb);try exact ezX);(case' h2=>intro hb;(try simp only [hbs,reduceCtorEq] at hb);try exact ezX))|((with_reducible first|apply zo1|apply zo2|apply o_guard rfl|apply x_cond|apply k_e1 rfl|apply k_e2 rfl|apply k_e0 rfl|apply k_e3 rfl|apply k_e4 rfl);(case he=>exact ez2 @b_strEql @b_self);(try case hok=>exact ezO);all_goals try (intro hb;(try simp only [hbs,reduceCtorEq] at hb);try exact ezX))|((with_reducible apply o_undef rfl);(case hb=>exact ez0)))
   all_goals exact sw_flat rfl rfl ⟨by congr 1;by_cases a2:l.length=0 <;> first|(simp [a2];done)|(simp_all;done)|(simp_all;omega),rfl,rfl⟩
  ·have e5:=b_diff hs
   rw [show (decide (s=[]) && decide (l.length=0))=false from by simp [hs]]
   refine enter Try.func52 kz rfl kz rfl rfl rfl ?_
   (repeat' first|refine zcd ?_|intro K' hK|(with_reducible refine zn hK ?_;clear hK)|(with_reducible refine x_drawnD (id:=1) [(1,6)] kz fun K' hK=>?_)|((with_reducible apply d_nil);(case hp=>exact ezP);(case' hx=>(refine hK _ _ _ ?_;clear hK)))|((with_reducible apply d_pure w_none);(case hp=>exact rfl);(case hc=>exact rfl);(case he=>exact ez1 hti))|((with_reducible apply d_eff w_none);(case hc=>exact rfl);(case he=>exact ez1 hti);(case hok=>exact ezO))|((with_reducible apply d_guard rfl);(case hb=>exact ez1 hti);(case' h1=>intro hb;(try simp only [hbs,reduceCtorEq] at hb);try exact ezX);(case' h2=>intro hb;(try simp only [hbs,reduceCtorEq] at hb);try exact ezX))|((with_reducible first|apply zo1|apply zo2|apply o_guard rfl|apply x_cond|apply k_e1 rfl|apply k_e2 rfl|apply k_e0 rfl|apply k_e3 rfl|apply k_e4 rfl);(case he=>exact ez2 @b_strEql e5);(try case hok=>exact ezO);all_goals try (intro hb;(try simp only [hbs,reduceCtorEq] at hb);try exact ezX))|((with_reducible apply o_undef rfl);(case hb=>exact ez0)))
   all_goals exact sw_flat rfl rfl ⟨rfl,rfl,rfl⟩
 ·rw [if_neg (by decide),if_neg (by decide),if_pos rfl]
  clear qp5 qp6
  refine enter Try.func52 kz rfl kz rfl rfl rfl ?_
  (repeat' first|refine zcd ?_|intro K' hK|(with_reducible refine zn hK ?_;clear hK)|(with_reducible refine x_drawnD (id:=1) [(1,6)] kz fun K' hK=>?_)|((with_reducible apply d_nil);(case hp=>exact ezP);(case' hx=>(refine hK _ _ _ ?_;clear hK)))|((with_reducible apply d_pure w_none);(case hp=>exact rfl);(case hc=>exact rfl);(case he=>exact ez1 hti))|((with_reducible apply d_eff w_none);(case hc=>exact rfl);(case he=>exact ez1 hti);(case hok=>exact ezO))|((with_reducible apply d_guard rfl);(case hb=>exact ez1 hti);(case' h1=>intro hb;(try simp only [hbs,reduceCtorEq] at hb);try exact ezX);(case' h2=>intro hb;(try simp only [hbs,reduceCtorEq] at hb);try exact ezX))|((with_reducible first|apply zo1|apply zo2|apply o_guard rfl|apply x_cond|apply k_e1 rfl|apply k_e2 rfl|apply k_e0 rfl|apply k_e3 rfl|apply k_e4 rfl);(case he=>exact ez1 @size_mk);(try case hok=>exact ezO);all_goals try (intro hb;(try simp only [hbs,reduceCtorEq] at hb);try exact ezX))|((with_reducible apply o_undef rfl);(case hb=>exact ez0)))
  all_goals exact sw_flat rfl rfl ⟨by congr 1;by_cases a0:i=0 <;> by_cases a1:s.length≤64 <;> by_cases a2:l.length=0 <;> first|omega|(simp [a0,a1,a2];done)|(simp_all;done)|(simp_all;omega),rfl,rfl⟩
 ·clear qp5 qp6 hpl hzp
  obtain ⟨y,hy,hoy⟩:=hpt h47
  subst hy
  rw [Int.toNat_natCast]
  obtain ⟨X,hX⟩:∃ X,(l.all fun e=>decide (0<dp) && fitP T N y e (dp - 1))=X:=⟨_,rfl⟩
  have hXd:¬ (0<l.length→0<dp)→X=false:=fun hh=>by
   rw [← hX]
   obtain ⟨e,l2,e2⟩:∃ e l2,l=e :: l2:=by
    cases l with
    | nil=>exact absurd (fun h=>absurd h (by simp)) hh
    | cons e l2=>exact ⟨e,l2,rfl⟩
   obtain rfl:dp=0:=by
    by_cases hd0:dp=0
    ·exact hd0
    ·exact absurd (fun _=>by omega) hh
   rw [e2]
   simp
  rcases h47 with rfl|rfl
  ·rw [if_neg (by decide),if_neg (by decide),if_neg (by decide),if_pos rfl,hX,fit_if X hXd]
   by_cases hi:i=0
   ·subst hi
    by_cases hs:s=[]
    ·subst hs
     by_cases hg:l.length≤1∧(0<l.length→0<dp)
     ·rw [if_pos ⟨rfl,rfl,hg.1,hg.2⟩]
      have hd1:l.length=0∨0<dp:=by
       rcases Nat.eq_zero_or_pos l.length with e|e
       ·exact .inl e
       ·exact .inr (hg.2 e)
      rcases Nat.eq_zero_or_pos l.length with hl0|hl0
      ·obtain rfl:=List.length_eq_zero_iff.1 hl0
       obtain rfl:true=X:=hX
       refine enter Try.func52 kz rfl kz rfl rfl rfl ?_
       (repeat' first|refine zcd ?_|intro K' hK|(with_reducible refine zn hK ?_;clear hK)|(with_reducible refine x_drawnD (id:=1) [(1,6)] kz fun K' hK=>?_)|((with_reducible apply d_nil);(case hp=>exact ezP);(case' hx=>(refine hK _ _ _ ?_;clear hK)))|((with_reducible apply d_pure w_none);(case hp=>exact rfl);(case hc=>exact rfl);(case he=>exact ez1 hti))|((with_reducible apply d_eff w_none);(case hc=>exact rfl);(case he=>exact ez1 hti);(case hok=>exact ezO))|((with_reducible apply d_guard rfl);(case hb=>exact ez1 hti);(case' h1=>intro hb;(try simp only [hbs,reduceCtorEq] at hb);try exact ezX);(case' h2=>intro hb;(try simp only [hbs,reduceCtorEq] at hb);try exact ezX))|(with_reducible refine x_turns ?_)|(with_reducible refine x_turn zm ?_)|(with_reducible refine k_turn ?_)|((with_reducible first|apply zo1|apply zo2|apply o_guard rfl|apply x_cond|apply k_e1 rfl|apply k_e2 rfl|apply k_e0 rfl|apply k_e3 rfl|apply k_e4 rfl);(case he=>exact ez2 @b_strNeq @b_self);(try case hok=>exact ezO);all_goals try (intro hb;(try simp only [hbs,reduceCtorEq] at hb);try exact ezX))|((with_reducible apply o_undef rfl);(case hb=>exact ez0)))
       all_goals exact sw_flat rfl rfl ⟨rfl,rfl,rfl⟩
      ·refine enter Try.func52 kz rfl kz rfl rfl rfl ?_
       (repeat' first|refine zcd ?_|intro K' hK|(with_reducible refine zn hK ?_;clear hK)|(with_reducible refine x_drawnD (id:=1) [(1,6)] kz fun K' hK=>?_)|((with_reducible apply d_nil);(case hp=>exact ezP);(case' hx=>(refine hK _ _ _ ?_;clear hK)))|((with_reducible apply d_pure w_none);(case hp=>exact rfl);(case hc=>exact rfl);(case he=>exact ez1 hti))|((with_reducible apply d_eff w_none);(case hc=>exact rfl);(case he=>exact ez1 hti);(case hok=>exact ezO))|((with_reducible apply d_guard rfl);(case hb=>exact ez1 hti);(case' h1=>intro hb;(try simp only [hbs,reduceCtorEq] at hb);try exact ezX);(case' h2=>intro hb;(try simp only [hbs,reduceCtorEq] at hb);try exact ezX))|((with_reducible first|apply zo1|apply zo2|apply o_guard rfl|apply x_cond|apply k_e1 rfl|apply k_e2 rfl|apply k_e0 rfl|apply k_e3 rfl|apply k_e4 rfl);(case he=>exact ez2 @b_strNeq @b_self);(try case hok=>exact ezO);all_goals try (intro hb;(try simp only [hbs,reduceCtorEq] at hb);try exact ezX))|((with_reducible apply o_undef rfl);(case hb=>exact ez0)))
       refine x_loopF [8,9,117,118,119,120,121,122,123,124,125,126,127,128,129,130,131,132,133,134,135,136,137,138] [9] (fun m vs=>∃ q:Nat,m=l.length - q∧q≤l.length∧vs=[.int .i64 q]∧∀ j (hj:j<l.length),j<q→fitP T N y l[j] (dp - 1)=true) l.length rfl zm ⟨0,rfl,by omega,ez0,fun j _ hj=>absurd hj (Nat.not_lt_zero _)⟩ ?_
       rintro m g _ ⟨q,rfl,hq,rfl,hall⟩
       by_cases hql:q<l.length
       ·have hd0:=hg.2 zm
        have hdp1:(dp:Int) - 1=((dp - 1:Nat):Int):=by omega
        obtain ⟨id,off,A2,cc2,rfl,hid,c1,v1⟩:=hl1.at_ hql
        have qf:=fun (cl:Nat) (h6:Hp) (n6:Nat) (cs:List Value) (hT6:TabH h6 n6 (some ⟨tid,toff,none⟩) T) (hv6:VH h6 n6 l[q] cs)=>ih y l[q] (dp - 1) hoy (hb2 _ (List.getElem_mem hql)) zm d cl h6 n6 cs hT6 hv6
        obtain ⟨e,he⟩:∃ e,l[q]=e:=⟨_,rfl⟩
        simp only [he] at c1 v1 qf
        cases hB:fitP T N y e (dp - 1) with
        | true=>
         simp only [hB] at qf
         (repeat' first|refine zcd ?_|intro K' hK|(with_reducible refine zn hK ?_;clear hK)|(with_reducible refine x_drawnD (id:=18) [(5,7),(5,10)] kz fun K' hK=>?_)|((with_reducible apply d_nil);(case hp=>exact ezP);(case' hx=>(refine hK _ _ _ ?_;clear hK)))|((with_reducible apply d_pure w_none);(case hp=>exact rfl);(case hc=>exact rfl);(case he=>exact ez3 hte c1 hdp1))|((with_reducible apply d_eff w_none);(case hc=>exact rfl);(case he=>exact ez3 hte c1 hdp1);(case hok=>exact ezO))|((with_reducible apply d_guard rfl);(case hb=>exact ez3 hte c1 hdp1);(case' h1=>intro hb;(try simp only [hbs,reduceCtorEq] at hb);try exact ezX);(case' h2=>intro hb;(try simp only [hbs,reduceCtorEq] at hb);try exact ezX))|((with_reducible apply d_callS (g:=52) w_none);(case hs0=>exact rfl);(case ha=>exact ez0);(case hs=>((with_reducible apply qf);(all_goals first|exact (hT.set (Nat.le_refl _) _).more zm|exact (v1.set (Nat.le_refl _) _).more zm)));(case' hk=>rintro _ h' n' ⟨rfl,rfl,rfl⟩))|((with_reducible apply d_callN (g:=52) w_none);(case hs0=>exact rfl);(case ha=>exact ez0);(case hs=>((with_reducible apply qf);(all_goals first|exact (hT.set (Nat.le_refl _) _).more zm|exact (v1.set (Nat.le_refl _) _).more zm)));(case' hk=>rintro _ h' n' ⟨rfl,rfl,rfl⟩))|((with_reducible first|apply zo1|apply zo2|apply o_guard rfl|apply x_cond|apply k_e1 rfl|apply k_e2 rfl|apply k_e0 rfl|apply k_e3 rfl|apply k_e4 rfl);(case he=>exact ez0);(try case hok=>exact ezO);all_goals try (intro hb;(try simp only [hbs,reduceCtorEq] at hb);try exact ezX))|((with_reducible apply o_undef rfl);(case hb=>exact ez0)))
         refine k_round (l.length - (q+1)) zm ⟨⟨rfl,rfl⟩,q+1,rfl,by omega,ez0,fun j hj hjq=>?_⟩
         by_cases e2:j=q
         ·subst e2;rw [he];exact hB
         ·exact hall j hj zm
        | false=>
         simp only [hB] at qf
         have hXf:X=false:=by
          rw [← hX]
          exact List.all_eq_false.2 ⟨l[q],List.getElem_mem hql,by rw [he,hB];simp⟩
         rw [hXf]
         (repeat' first|refine zcd ?_|intro K' hK|(with_reducible refine zn hK ?_;clear hK)|(with_reducible refine x_drawnD (id:=18) [(5,7),(5,10)] kz fun K' hK=>?_)|((with_reducible apply d_nil);(case hp=>exact ezP);(case' hx=>(refine hK _ _ _ ?_;clear hK)))|((with_reducible apply d_pure w_none);(case hp=>exact rfl);(case hc=>exact rfl);(case he=>exact ez3 hte c1 hdp1))|((with_reducible apply d_eff w_none);(case hc=>exact rfl);(case he=>exact ez3 hte c1 hdp1);(case hok=>exact ezO))|((with_reducible apply d_guard rfl);(case hb=>exact ez3 hte c1 hdp1);(case' h1=>intro hb;(try simp only [hbs,reduceCtorEq] at hb);try exact ezX);(case' h2=>intro hb;(try simp only [hbs,reduceCtorEq] at hb);try exact ezX))|((with_reducible apply d_callS (g:=52) w_none);(case hs0=>exact rfl);(case ha=>exact ez0);(case hs=>((with_reducible apply qf);(all_goals first|exact (hT.set (Nat.le_refl _) _).more zm|exact (v1.set (Nat.le_refl _) _).more zm)));(case' hk=>rintro _ h' n' ⟨rfl,rfl,rfl⟩))|((with_reducible apply d_callN (g:=52) w_none);(case hs0=>exact rfl);(case ha=>exact ez0);(case hs=>((with_reducible apply qf);(all_goals first|exact (hT.set (Nat.le_refl _) _).more zm|exact (v1.set (Nat.le_refl _) _).more zm)));(case' hk=>rintro _ h' n' ⟨rfl,rfl,rfl⟩))|((with_reducible first|apply zo1|apply zo2|apply o_guard rfl|apply x_cond|apply k_e1 rfl|apply k_e2 rfl|apply k_e0 rfl|apply k_e3 rfl|apply k_e4 rfl);(case he=>exact ez0);(try case hok=>exact ezO);all_goals try (intro hb;(try simp only [hbs,reduceCtorEq] at hb);try exact ezX))|((with_reducible apply o_undef rfl);(case hb=>exact ez0)))
         all_goals exact sw_flat rfl rfl ⟨rfl,rfl,rfl⟩
       ·obtain rfl:q=l.length:=by omega
        have hXt:X=true:=by
         rw [← hX]
         refine List.all_eq_true.2 fun x hx=>?_
         obtain ⟨j,hj,rfl⟩:=List.getElem_of_mem hx
         rw [hall j hj hj]
         have:=hg.2 zm
         simp [this]
        rw [hXt]
        (repeat' first|refine zcd ?_|intro K' hK|(with_reducible refine zn hK ?_;clear hK)|fail|((with_reducible first|apply zo1|apply zo2|apply o_guard rfl|apply x_cond|apply k_e1 rfl|apply k_e2 rfl|apply k_e0 rfl|apply k_e3 rfl|apply k_e4 rfl);(case he=>exact ez0);(try case hok=>exact ezO);all_goals try (intro hb;(try simp only [hbs,reduceCtorEq] at hb);try exact ezX))|((with_reducible apply o_undef rfl);(case hb=>exact ez0)))
        all_goals exact sw_flat rfl rfl ⟨rfl,rfl,rfl⟩
     ·rw [if_neg (fun hh=>hg ⟨hh.2.2.1,hh.2.2.2⟩)]
      have hg2:1<l.length∨(0<l.length∧dp=0):=by
       by_cases a:l.length≤1
       ·right
        by_cases b:0<l.length
        ·exact ⟨b,by
          by_cases c:dp=0
          ·exact c
          ·exact absurd ⟨a,fun _=>by omega⟩ hg⟩
        ·exact absurd ⟨a,fun h=>absurd h b⟩ hg
       ·left;omega
      rcases hg2 with hg2|⟨hg2,rfl⟩
      all_goals
       refine enter Try.func52 kz rfl kz rfl rfl rfl ?_
       (repeat' first|refine zcd ?_|intro K' hK|(with_reducible refine zn hK ?_;clear hK)|(with_reducible refine x_drawnD (id:=1) [(1,6)] kz fun K' hK=>?_)|((with_reducible apply d_nil);(case hp=>exact ezP);(case' hx=>(refine hK _ _ _ ?_;clear hK)))|((with_reducible apply d_pure w_none);(case hp=>exact rfl);(case hc=>exact rfl);(case he=>exact ez1 hti))|((with_reducible apply d_eff w_none);(case hc=>exact rfl);(case he=>exact ez1 hti);(case hok=>exact ezO))|((with_reducible apply d_guard rfl);(case hb=>exact ez1 hti);(case' h1=>intro hb;(try simp only [hbs,reduceCtorEq] at hb);try exact ezX);(case' h2=>intro hb;(try simp only [hbs,reduceCtorEq] at hb);try exact ezX))|((with_reducible first|apply zo1|apply zo2|apply o_guard rfl|apply x_cond|apply k_e1 rfl|apply k_e2 rfl|apply k_e0 rfl|apply k_e3 rfl|apply k_e4 rfl);(case he=>exact ez2 @b_strNeq @b_self);(try case hok=>exact ezO);all_goals try (intro hb;(try simp only [hbs,reduceCtorEq] at hb);try exact ezX))|((with_reducible apply o_undef rfl);(case hb=>exact ez0)))
       all_goals exact sw_flat rfl rfl ⟨rfl,rfl,rfl⟩
    ·rw [if_neg (fun hh=>hs hh.2.1)]
     have e5:=b_diff hs
     refine enter Try.func52 kz rfl kz rfl rfl rfl ?_
     (repeat' first|refine zcd ?_|intro K' hK|(with_reducible refine zn hK ?_;clear hK)|(with_reducible refine x_drawnD (id:=1) [(1,6)] kz fun K' hK=>?_)|((with_reducible apply d_nil);(case hp=>exact ezP);(case' hx=>(refine hK _ _ _ ?_;clear hK)))|((with_reducible apply d_pure w_none);(case hp=>exact rfl);(case hc=>exact rfl);(case he=>exact ez1 hti))|((with_reducible apply d_eff w_none);(case hc=>exact rfl);(case he=>exact ez1 hti);(case hok=>exact ezO))|((with_reducible apply d_guard rfl);(case hb=>exact ez1 hti);(case' h1=>intro hb;(try simp only [hbs,reduceCtorEq] at hb);try exact ezX);(case' h2=>intro hb;(try simp only [hbs,reduceCtorEq] at hb);try exact ezX))|((with_reducible first|apply zo1|apply zo2|apply o_guard rfl|apply x_cond|apply k_e1 rfl|apply k_e2 rfl|apply k_e0 rfl|apply k_e3 rfl|apply k_e4 rfl);(case he=>exact ez2 @b_strNeq e5);(try case hok=>exact ezO);all_goals try (intro hb;(try simp only [hbs,reduceCtorEq] at hb);try exact ezX))|((with_reducible apply o_undef rfl);(case hb=>exact ez0)))
     all_goals exact sw_flat rfl rfl ⟨rfl,rfl,rfl⟩
   ·rw [if_neg (fun hh=>hi hh.1)]
    refine enter Try.func52 kz rfl kz rfl rfl rfl ?_
    (repeat' first|refine zcd ?_|intro K' hK|(with_reducible refine zn hK ?_;clear hK)|(with_reducible refine x_drawnD (id:=1) [(1,6)] kz fun K' hK=>?_)|((with_reducible apply d_nil);(case hp=>exact ezP);(case' hx=>(refine hK _ _ _ ?_;clear hK)))|((with_reducible apply d_pure w_none);(case hp=>exact rfl);(case hc=>exact rfl);(case he=>exact ez1 hti))|((with_reducible apply d_eff w_none);(case hc=>exact rfl);(case he=>exact ez1 hti);(case hok=>exact ezO))|((with_reducible apply d_guard rfl);(case hb=>exact ez1 hti);(case' h1=>intro hb;(try simp only [hbs,reduceCtorEq] at hb);try exact ezX);(case' h2=>intro hb;(try simp only [hbs,reduceCtorEq] at hb);try exact ezX))|((with_reducible first|apply zo1|apply zo2|apply o_guard rfl|apply x_cond|apply k_e1 rfl|apply k_e2 rfl|apply k_e0 rfl|apply k_e3 rfl|apply k_e4 rfl);(case he=>exact ez1 @b_strNeq);(try case hok=>exact ezO);all_goals try (intro hb;(try simp only [hbs,reduceCtorEq] at hb);try exact ezX))|((with_reducible apply o_undef rfl);(case hb=>exact ez0)))
    all_goals exact sw_flat rfl rfl ⟨rfl,rfl,rfl⟩
  ·rw [if_neg (by decide),if_neg (by decide),if_neg (by decide),if_neg (by decide),if_pos rfl,hX,fit_if X hXd]
   by_cases hi:i=0
   ·subst hi
    by_cases hs:s=[]
    ·subst hs
     by_cases hg:l.length≤16∧(0<l.length→0<dp)
     ·rw [if_pos ⟨rfl,rfl,hg.1,hg.2⟩]
      have hd1:l.length=0∨0<dp:=by
       rcases Nat.eq_zero_or_pos l.length with e|e
       ·exact .inl e
       ·exact .inr (hg.2 e)
      rcases Nat.eq_zero_or_pos l.length with hl0|hl0
      ·obtain rfl:=List.length_eq_zero_iff.1 hl0
       obtain rfl:true=X:=hX
       refine enter Try.func52 kz rfl kz rfl rfl rfl ?_
       (repeat' first|refine zcd ?_|intro K' hK|(with_reducible refine zn hK ?_;clear hK)|(with_reducible refine x_drawnD (id:=1) [(1,6)] kz fun K' hK=>?_)|((with_reducible apply d_nil);(case hp=>exact ezP);(case' hx=>(refine hK _ _ _ ?_;clear hK)))|((with_reducible apply d_pure w_none);(case hp=>exact rfl);(case hc=>exact rfl);(case he=>exact ez1 hti))|((with_reducible apply d_eff w_none);(case hc=>exact rfl);(case he=>exact ez1 hti);(case hok=>exact ezO))|((with_reducible apply d_guard rfl);(case hb=>exact ez1 hti);(case' h1=>intro hb;(try simp only [hbs,reduceCtorEq] at hb);try exact ezX);(case' h2=>intro hb;(try simp only [hbs,reduceCtorEq] at hb);try exact ezX))|(with_reducible refine x_turns ?_)|(with_reducible refine x_turn zm ?_)|(with_reducible refine k_turn ?_)|((with_reducible first|apply zo1|apply zo2|apply o_guard rfl|apply x_cond|apply k_e1 rfl|apply k_e2 rfl|apply k_e0 rfl|apply k_e3 rfl|apply k_e4 rfl);(case he=>exact ez2 @b_strNeq @b_self);(try case hok=>exact ezO);all_goals try (intro hb;(try simp only [hbs,reduceCtorEq] at hb);try exact ezX))|((with_reducible apply o_undef rfl);(case hb=>exact ez0)))
       all_goals exact sw_flat rfl rfl ⟨rfl,rfl,rfl⟩
      ·refine enter Try.func52 kz rfl kz rfl rfl rfl ?_
       (repeat' first|refine zcd ?_|intro K' hK|(with_reducible refine zn hK ?_;clear hK)|(with_reducible refine x_drawnD (id:=1) [(1,6)] kz fun K' hK=>?_)|((with_reducible apply d_nil);(case hp=>exact ezP);(case' hx=>(refine hK _ _ _ ?_;clear hK)))|((with_reducible apply d_pure w_none);(case hp=>exact rfl);(case hc=>exact rfl);(case he=>exact ez1 hti))|((with_reducible apply d_eff w_none);(case hc=>exact rfl);(case he=>exact ez1 hti);(case hok=>exact ezO))|((with_reducible apply d_guard rfl);(case hb=>exact ez1 hti);(case' h1=>intro hb;(try simp only [hbs,reduceCtorEq] at hb);try exact ezX);(case' h2=>intro hb;(try simp only [hbs,reduceCtorEq] at hb);try exact ezX))|((with_reducible first|apply zo1|apply zo2|apply o_guard rfl|apply x_cond|apply k_e1 rfl|apply k_e2 rfl|apply k_e0 rfl|apply k_e3 rfl|apply k_e4 rfl);(case he=>exact ez2 @b_strNeq @b_self);(try case hok=>exact ezO);all_goals try (intro hb;(try simp only [hbs,reduceCtorEq] at hb);try exact ezX))|((with_reducible apply o_undef rfl);(case hb=>exact ez0)))
       refine x_loopF [8,9,117,118,119,120,121,122,123,124,125,126,127,128,129,130,131,132,133,134,135,136,137,138] [9] (fun m vs=>∃ q:Nat,m=l.length - q∧q≤l.length∧vs=[.int .i64 q]∧∀ j (hj:j<l.length),j<q→fitP T N y l[j] (dp - 1)=true) l.length rfl zm ⟨0,rfl,by omega,ez0,fun j _ hj=>absurd hj (Nat.not_lt_zero _)⟩ ?_
       rintro m g _ ⟨q,rfl,hq,rfl,hall⟩
       by_cases hql:q<l.length
       ·have hd0:=hg.2 zm
        have hdp1:(dp:Int) - 1=((dp - 1:Nat):Int):=by omega
        obtain ⟨id,off,A2,cc2,rfl,hid,c1,v1⟩:=hl1.at_ hql
        have qf:=fun (cl:Nat) (h6:Hp) (n6:Nat) (cs:List Value) (hT6:TabH h6 n6 (some ⟨tid,toff,none⟩) T) (hv6:VH h6 n6 l[q] cs)=>ih y l[q] (dp - 1) hoy (hb2 _ (List.getElem_mem hql)) zm d cl h6 n6 cs hT6 hv6
        obtain ⟨e,he⟩:∃ e,l[q]=e:=⟨_,rfl⟩
        simp only [he] at c1 v1 qf
        cases hB:fitP T N y e (dp - 1) with
        | true=>
         simp only [hB] at qf
         (repeat' first|refine zcd ?_|intro K' hK|(with_reducible refine zn hK ?_;clear hK)|(with_reducible refine x_drawnD (id:=18) [(5,7),(5,10)] kz fun K' hK=>?_)|((with_reducible apply d_nil);(case hp=>exact ezP);(case' hx=>(refine hK _ _ _ ?_;clear hK)))|((with_reducible apply d_pure w_none);(case hp=>exact rfl);(case hc=>exact rfl);(case he=>exact ez3 hte c1 hdp1))|((with_reducible apply d_eff w_none);(case hc=>exact rfl);(case he=>exact ez3 hte c1 hdp1);(case hok=>exact ezO))|((with_reducible apply d_guard rfl);(case hb=>exact ez3 hte c1 hdp1);(case' h1=>intro hb;(try simp only [hbs,reduceCtorEq] at hb);try exact ezX);(case' h2=>intro hb;(try simp only [hbs,reduceCtorEq] at hb);try exact ezX))|((with_reducible apply d_callS (g:=52) w_none);(case hs0=>exact rfl);(case ha=>exact ez0);(case hs=>((with_reducible apply qf);(all_goals first|exact (hT.set (Nat.le_refl _) _).more zm|exact (v1.set (Nat.le_refl _) _).more zm)));(case' hk=>rintro _ h' n' ⟨rfl,rfl,rfl⟩))|((with_reducible apply d_callN (g:=52) w_none);(case hs0=>exact rfl);(case ha=>exact ez0);(case hs=>((with_reducible apply qf);(all_goals first|exact (hT.set (Nat.le_refl _) _).more zm|exact (v1.set (Nat.le_refl _) _).more zm)));(case' hk=>rintro _ h' n' ⟨rfl,rfl,rfl⟩))|((with_reducible first|apply zo1|apply zo2|apply o_guard rfl|apply x_cond|apply k_e1 rfl|apply k_e2 rfl|apply k_e0 rfl|apply k_e3 rfl|apply k_e4 rfl);(case he=>exact ez0);(try case hok=>exact ezO);all_goals try (intro hb;(try simp only [hbs,reduceCtorEq] at hb);try exact ezX))|((with_reducible apply o_undef rfl);(case hb=>exact ez0)))
         refine k_round (l.length - (q+1)) zm ⟨⟨rfl,rfl⟩,q+1,rfl,by omega,ez0,fun j hj hjq=>?_⟩
         by_cases e2:j=q
         ·subst e2;rw [he];exact hB
         ·exact hall j hj zm
        | false=>
         simp only [hB] at qf
         have hXf:X=false:=by
          rw [← hX]
          exact List.all_eq_false.2 ⟨l[q],List.getElem_mem hql,by rw [he,hB];simp⟩
         rw [hXf]
         (repeat' first|refine zcd ?_|intro K' hK|(with_reducible refine zn hK ?_;clear hK)|(with_reducible refine x_drawnD (id:=18) [(5,7),(5,10)] kz fun K' hK=>?_)|((with_reducible apply d_nil);(case hp=>exact ezP);(case' hx=>(refine hK _ _ _ ?_;clear hK)))|((with_reducible apply d_pure w_none);(case hp=>exact rfl);(case hc=>exact rfl);(case he=>exact ez3 hte c1 hdp1))|((with_reducible apply d_eff w_none);(case hc=>exact rfl);(case he=>exact ez3 hte c1 hdp1);(case hok=>exact ezO))|((with_reducible apply d_guard rfl);(case hb=>exact ez3 hte c1 hdp1);(case' h1=>intro hb;(try simp only [hbs,reduceCtorEq] at hb);try exact ezX);(case' h2=>intro hb;(try simp only [hbs,reduceCtorEq] at hb);try exact ezX))|((with_reducible apply d_callS (g:=52) w_none);(case hs0=>exact rfl);(case ha=>exact ez0);(case hs=>((with_reducible apply qf);(all_goals first|exact (hT.set (Nat.le_refl _) _).more zm|exact (v1.set (Nat.le_refl _) _).more zm)));(case' hk=>rintro _ h' n' ⟨rfl,rfl,rfl⟩))|((with_reducible apply d_callN (g:=52) w_none);(case hs0=>exact rfl);(case ha=>exact ez0);(case hs=>((with_reducible apply qf);(all_goals first|exact (hT.set (Nat.le_refl _) _).more zm|exact (v1.set (Nat.le_refl _) _).more zm)));(case' hk=>rintro _ h' n' ⟨rfl,rfl,rfl⟩))|((with_reducible first|apply zo1|apply zo2|apply o_guard rfl|apply x_cond|apply k_e1 rfl|apply k_e2 rfl|apply k_e0 rfl|apply k_e3 rfl|apply k_e4 rfl);(case he=>exact ez0);(try case hok=>exact ezO);all_goals try (intro hb;(try simp only [hbs,reduceCtorEq] at hb);try exact ezX))|((with_reducible apply o_undef rfl);(case hb=>exact ez0)))
         all_goals exact sw_flat rfl rfl ⟨rfl,rfl,rfl⟩
       ·obtain rfl:q=l.length:=by omega
        have hXt:X=true:=by
         rw [← hX]
         refine List.all_eq_true.2 fun x hx=>?_
         obtain ⟨j,hj,rfl⟩:=List.getElem_of_mem hx
         rw [hall j hj hj]
         have:=hg.2 zm
         simp [this]
        rw [hXt]
        (repeat' first|refine zcd ?_|intro K' hK|(with_reducible refine zn hK ?_;clear hK)|fail|((with_reducible first|apply zo1|apply zo2|apply o_guard rfl|apply x_cond|apply k_e1 rfl|apply k_e2 rfl|apply k_e0 rfl|apply k_e3 rfl|apply k_e4 rfl);(case he=>exact ez0);(try case hok=>exact ezO);all_goals try (intro hb;(try simp only [hbs,reduceCtorEq] at hb);try exact ezX))|((with_reducible apply o_undef rfl);(case hb=>exact ez0)))
        all_goals exact sw_flat rfl rfl ⟨rfl,rfl,rfl⟩
     ·rw [if_neg (fun hh=>hg ⟨hh.2.2.1,hh.2.2.2⟩)]
      have hg2:16<l.length∨(0<l.length∧dp=0):=by
       by_cases a:l.length≤16
       ·right
        by_cases b:0<l.length
        ·exact ⟨b,by
          by_cases c:dp=0
          ·exact c
          ·exact absurd ⟨a,fun _=>by omega⟩ hg⟩
        ·exact absurd ⟨a,fun h=>absurd h b⟩ hg
       ·left;omega
      rcases hg2 with hg2|⟨hg2,rfl⟩
      all_goals
       refine enter Try.func52 kz rfl kz rfl rfl rfl ?_
       (repeat' first|refine zcd ?_|intro K' hK|(with_reducible refine zn hK ?_;clear hK)|(with_reducible refine x_drawnD (id:=1) [(1,6)] kz fun K' hK=>?_)|((with_reducible apply d_nil);(case hp=>exact ezP);(case' hx=>(refine hK _ _ _ ?_;clear hK)))|((with_reducible apply d_pure w_none);(case hp=>exact rfl);(case hc=>exact rfl);(case he=>exact ez1 hti))|((with_reducible apply d_eff w_none);(case hc=>exact rfl);(case he=>exact ez1 hti);(case hok=>exact ezO))|((with_reducible apply d_guard rfl);(case hb=>exact ez1 hti);(case' h1=>intro hb;(try simp only [hbs,reduceCtorEq] at hb);try exact ezX);(case' h2=>intro hb;(try simp only [hbs,reduceCtorEq] at hb);try exact ezX))|((with_reducible first|apply zo1|apply zo2|apply o_guard rfl|apply x_cond|apply k_e1 rfl|apply k_e2 rfl|apply k_e0 rfl|apply k_e3 rfl|apply k_e4 rfl);(case he=>exact ez2 @b_strNeq @b_self);(try case hok=>exact ezO);all_goals try (intro hb;(try simp only [hbs,reduceCtorEq] at hb);try exact ezX))|((with_reducible apply o_undef rfl);(case hb=>exact ez0)))
       all_goals exact sw_flat rfl rfl ⟨rfl,rfl,rfl⟩
    ·rw [if_neg (fun hh=>hs hh.2.1)]
     have e5:=b_diff hs
     refine enter Try.func52 kz rfl kz rfl rfl rfl ?_
     (repeat' first|refine zcd ?_|intro K' hK|(with_reducible refine zn hK ?_;clear hK)|(with_reducible refine x_drawnD (id:=1) [(1,6)] kz fun K' hK=>?_)|((with_reducible apply d_nil);(case hp=>exact ezP);(case' hx=>(refine hK _ _ _ ?_;clear hK)))|((with_reducible apply d_pure w_none);(case hp=>exact rfl);(case hc=>exact rfl);(case he=>exact ez1 hti))|((with_reducible apply d_eff w_none);(case hc=>exact rfl);(case he=>exact ez1 hti);(case hok=>exact ezO))|((with_reducible apply d_guard rfl);(case hb=>exact ez1 hti);(case' h1=>intro hb;(try simp only [hbs,reduceCtorEq] at hb);try exact ezX);(case' h2=>intro hb;(try simp only [hbs,reduceCtorEq] at hb);try exact ezX))|((with_reducible first|apply zo1|apply zo2|apply o_guard rfl|apply x_cond|apply k_e1 rfl|apply k_e2 rfl|apply k_e0 rfl|apply k_e3 rfl|apply k_e4 rfl);(case he=>exact ez2 @b_strNeq e5);(try case hok=>exact ezO);all_goals try (intro hb;(try simp only [hbs,reduceCtorEq] at hb);try exact ezX))|((with_reducible apply o_undef rfl);(case hb=>exact ez0)))
     all_goals exact sw_flat rfl rfl ⟨rfl,rfl,rfl⟩
   ·rw [if_neg (fun hh=>hi hh.1)]
    refine enter Try.func52 kz rfl kz rfl rfl rfl ?_
    (repeat' first|refine zcd ?_|intro K' hK|(with_reducible refine zn hK ?_;clear hK)|(with_reducible refine x_drawnD (id:=1) [(1,6)] kz fun K' hK=>?_)|((with_reducible apply d_nil);(case hp=>exact ezP);(case' hx=>(refine hK _ _ _ ?_;clear hK)))|((with_reducible apply d_pure w_none);(case hp=>exact rfl);(case hc=>exact rfl);(case he=>exact ez1 hti))|((with_reducible apply d_eff w_none);(case hc=>exact rfl);(case he=>exact ez1 hti);(case hok=>exact ezO))|((with_reducible apply d_guard rfl);(case hb=>exact ez1 hti);(case' h1=>intro hb;(try simp only [hbs,reduceCtorEq] at hb);try exact ezX);(case' h2=>intro hb;(try simp only [hbs,reduceCtorEq] at hb);try exact ezX))|((with_reducible first|apply zo1|apply zo2|apply o_guard rfl|apply x_cond|apply k_e1 rfl|apply k_e2 rfl|apply k_e0 rfl|apply k_e3 rfl|apply k_e4 rfl);(case he=>exact ez1 @b_strNeq);(try case hok=>exact ezO);all_goals try (intro hb;(try simp only [hbs,reduceCtorEq] at hb);try exact ezX))|((with_reducible apply o_undef rfl);(case hb=>exact ez0)))
    all_goals exact sw_flat rfl rfl ⟨rfl,rfl,rfl⟩
 ·clear hpt hte
  have hvv:vk=5∨vk=6:=hc56
  obtain ⟨ps,hps⟩:∃ ps,prtT ⟨vk,el,ln,fs,FA,fc⟩=ps:=⟨_,rfl⟩
  obtain ⟨os,hos⟩:∃ os,offsT T ⟨vk,el,ln,fs,FA,fc⟩=os:=⟨_,rfl⟩
  simp only [hps,hos] at qp5 qp6 hpl hzp ⊢
  have qp:∀ (cl:Nat) (h6:Hp) (n6:Nat),TabH h6 n6 (some ⟨tid,toff,none⟩) T→SQ k (d+N+10) cl 79 [.slice (some ⟨tid,toff,none⟩) T.length tc,.int .i64 t] h6 n6 (PartsV ps os h6 n6):=by
   rcases hc56 with e|e
   ·exact qp5 e
   ·exact qp6 e
  clear qp5 qp6
  obtain ⟨X,hX⟩:∃ X,((ps.zip l).all fun e=>fitP T N e.1.toNat e.2 dp)=X:=⟨_,rfl⟩
  rw [if_neg zm,if_neg zm,if_neg zm,if_neg zm,if_neg zm,hX]
  have eR:(decide (i=0) && (decide (s=[]) && (decide (l.length=ps.length) && X)))=if i=0∧s=[]∧l.length=ps.length then X else false:=by
   by_cases a:i=0 <;> by_cases b:s=[] <;> by_cases c:l.length=ps.length <;> simp [a,b,c]
  rw [eR]
  clear eR
  by_cases hi:i=0
  ·subst hi
   by_cases hs:s=[]
   ·subst hs
    by_cases hlp:l.length=ps.length
    ·rw [if_pos ⟨rfl,rfl,hlp⟩]
     refine enter Try.func52 kz rfl kz rfl rfl rfl ?_
     (repeat' first|refine zcd ?_|intro K' hK|(with_reducible refine zn hK ?_;clear hK)|(with_reducible refine x_drawnD (id:=1) [(1,6)] kz fun K' hK=>?_)|((with_reducible apply d_nil);(case hp=>exact ezP);(case' hx=>(refine hK _ _ _ ?_;clear hK)))|((with_reducible apply d_pure w_none);(case hp=>exact rfl);(case hc=>exact rfl);(case he=>exact ez1 hti))|((with_reducible apply d_eff w_none);(case hc=>exact rfl);(case he=>exact ez1 hti);(case hok=>exact ezO))|((with_reducible apply d_guard rfl);(case hb=>exact ez1 hti);(case' h1=>intro hb;(try simp only [hbs,reduceCtorEq] at hb);try exact ezX);(case' h2=>intro hb;(try simp only [hbs,reduceCtorEq] at hb);try exact ezX))|((with_reducible apply o_callF (g:=79) w_none);(case ha=>exact ez0);(case hs=>((with_reducible apply qp);exact (hT.set (Nat.le_refl _) _).more zm));(case' hk=>rintro _ h' n' ⟨rfl,rfl,rfl⟩))|((with_reducible first|apply zo1|apply zo2|apply o_guard rfl|apply x_cond|apply k_e1 rfl|apply k_e2 rfl|apply k_e0 rfl|apply k_e3 rfl|apply k_e4 rfl);(case he=>exact ez2 @b_strNeq @b_self);(try case hok=>exact ezO);all_goals try (intro hb;(try simp only [hbs,reduceCtorEq] at hb);try exact ezX))|((with_reducible apply o_undef rfl);(case hb=>exact ez0)))
     refine x_loopF [8,12,151,152,153,154,155,156,157,158,159,160,161,162,163,164,165,166,167,168,169] [12] (fun m vs=>∃ q:Nat,m=l.length - q∧q≤l.length∧vs=[.int .i64 q]∧∀ j (hj:j<ps.length) (hj2:j<l.length),j<q→fitP T N (ps[j]).toNat l[j] dp=true) l.length rfl zm ⟨0,rfl,by omega,ez0,fun j _ _ hj=>absurd hj (Nat.not_lt_zero _)⟩ ?_
     rintro m g _ ⟨q,rfl,hq,rfl,hall⟩
     by_cases hql:q<l.length
     ·have hqp:q<ps.length:=by omega
      obtain ⟨id,off,A2,cc2,rfl,hid,c1,v1⟩:=hl1.at_ hql
      obtain ⟨y,hy,hoy⟩:=hzp q hqp
      have lq:lget (iv ps) q=some (.int .i64 y):=by rw [lget_eq,iv_get hqp,hy]
      have qf:=fun (cl:Nat) (h6:Hp) (n6:Nat) (cs:List Value) (hT6:TabH h6 n6 (some ⟨tid,toff,none⟩) T) (hv6:VH h6 n6 l[q] cs)=>ih y l[q] dp hoy (hb2 _ (List.getElem_mem hql)) hdp d cl h6 n6 cs hT6 hv6
      obtain ⟨e,he⟩:∃ e,l[q]=e:=⟨_,rfl⟩
      simp only [he] at c1 v1 qf
      cases hB:fitP T N y e dp with
      | true=>
       simp only [hB] at qf
       (repeat' first|refine zcd ?_|intro K' hK|(with_reducible refine zn hK ?_;clear hK)|(with_reducible refine x_drawnD (id:=27) [(4,6),(4,9)] kz fun K' hK=>?_)|((with_reducible apply d_nil);(case hp=>exact ezP);(case' hx=>(refine hK _ _ _ ?_;clear hK)))|((with_reducible apply d_pure w_none);(case hp=>exact rfl);(case hc=>exact rfl);(case he=>exact ez2 lq c1))|((with_reducible apply d_eff w_none);(case hc=>exact rfl);(case he=>exact ez2 lq c1);(case hok=>exact ezO))|((with_reducible apply d_guard rfl);(case hb=>exact ez2 lq c1);(case' h1=>intro hb;(try simp only [hbs,reduceCtorEq] at hb);try exact ezX);(case' h2=>intro hb;(try simp only [hbs,reduceCtorEq] at hb);try exact ezX))|((with_reducible apply d_callS (g:=52) w_none);(case hs0=>exact rfl);(case ha=>exact ez0);(case hs=>((with_reducible apply qf);(all_goals first|((refine TabH.more (B:=n) ?_ zm);(repeat' first|exact hT|refine TabH.set ?_ zm _))|((refine VH.more (B:=n) ?_ zm);(repeat' first|exact v1|refine VH.set ?_ zm _)))));(case' hk=>rintro _ h' n' ⟨rfl,rfl,rfl⟩))|((with_reducible apply d_callN (g:=52) w_none);(case hs0=>exact rfl);(case ha=>exact ez0);(case hs=>((with_reducible apply qf);(all_goals first|((refine TabH.more (B:=n) ?_ zm);(repeat' first|exact hT|refine TabH.set ?_ zm _))|((refine VH.more (B:=n) ?_ zm);(repeat' first|exact v1|refine VH.set ?_ zm _)))));(case' hk=>rintro _ h' n' ⟨rfl,rfl,rfl⟩))|((with_reducible first|apply zo1|apply zo2|apply o_guard rfl|apply x_cond|apply k_e1 rfl|apply k_e2 rfl|apply k_e0 rfl|apply k_e3 rfl|apply k_e4 rfl);(case he=>exact ez0);(try case hok=>exact ezO);all_goals try (intro hb;(try simp only [hbs,reduceCtorEq] at hb);try exact ezX))|((with_reducible apply o_undef rfl);(case hb=>exact ez0)))
       refine k_round (l.length - (q+1)) zm ⟨⟨rfl,rfl⟩,q+1,rfl,by omega,ez0,fun j hj hj2 hjq=>?_⟩
       by_cases e2:j=q
       ·subst e2;simp only [hy,he,Int.toNat_natCast];exact hB
       ·exact hall j hj hj2 zm
      | false=>
       simp only [hB] at qf
       have hXf:X=false:=by
        rw [← hX]
        refine List.all_eq_false.2 ⟨(ps[q],l[q]),List.mem_iff_getElem.2 ⟨q,by rw [List.length_zip];omega,by rw [List.getElem_zip]⟩,?_⟩
        simp only [hy,he,Int.toNat_natCast,hB]
        decide
       rw [hXf]
       (repeat' first|refine zcd ?_|intro K' hK|(with_reducible refine zn hK ?_;clear hK)|(with_reducible refine x_drawnD (id:=27) [(4,6),(4,9)] kz fun K' hK=>?_)|((with_reducible apply d_nil);(case hp=>exact ezP);(case' hx=>(refine hK _ _ _ ?_;clear hK)))|((with_reducible apply d_pure w_none);(case hp=>exact rfl);(case hc=>exact rfl);(case he=>exact ez2 lq c1))|((with_reducible apply d_eff w_none);(case hc=>exact rfl);(case he=>exact ez2 lq c1);(case hok=>exact ezO))|((with_reducible apply d_guard rfl);(case hb=>exact ez2 lq c1);(case' h1=>intro hb;(try simp only [hbs,reduceCtorEq] at hb);try exact ezX);(case' h2=>intro hb;(try simp only [hbs,reduceCtorEq] at hb);try exact ezX))|((with_reducible apply d_callS (g:=52) w_none);(case hs0=>exact rfl);(case ha=>exact ez0);(case hs=>((with_reducible apply qf);(all_goals first|((refine TabH.more (B:=n) ?_ zm);(repeat' first|exact hT|refine TabH.set ?_ zm _))|((refine VH.more (B:=n) ?_ zm);(repeat' first|exact v1|refine VH.set ?_ zm _)))));(case' hk=>rintro _ h' n' ⟨rfl,rfl,rfl⟩))|((with_reducible apply d_callN (g:=52) w_none);(case hs0=>exact rfl);(case ha=>exact ez0);(case hs=>((with_reducible apply qf);(all_goals first|((refine TabH.more (B:=n) ?_ zm);(repeat' first|exact hT|refine TabH.set ?_ zm _))|((refine VH.more (B:=n) ?_ zm);(repeat' first|exact v1|refine VH.set ?_ zm _)))));(case' hk=>rintro _ h' n' ⟨rfl,rfl,rfl⟩))|((with_reducible first|apply zo1|apply zo2|apply o_guard rfl|apply x_cond|apply k_e1 rfl|apply k_e2 rfl|apply k_e0 rfl|apply k_e3 rfl|apply k_e4 rfl);(case he=>exact ez0);(try case hok=>exact ezO);all_goals try (intro hb;(try simp only [hbs,reduceCtorEq] at hb);try exact ezX))|((with_reducible apply o_undef rfl);(case hb=>exact ez0)))
       all_goals exact sw_flat rfl rfl ⟨rfl,rfl,rfl⟩
     ·obtain rfl:q=l.length:=by omega
      have hXt:X=true:=by
       rw [← hX]
       refine List.all_eq_true.2 fun x hx=>?_
       obtain ⟨j,hj,rfl⟩:=List.getElem_of_mem hx
       rw [List.length_zip] at hj
       rw [List.getElem_zip]
       exact hall j zm zm zm
      rw [hXt]
      (repeat' first|refine zcd ?_|intro K' hK|(with_reducible refine zn hK ?_;clear hK)|fail|((with_reducible first|apply zo1|apply zo2|apply o_guard rfl|apply x_cond|apply k_e1 rfl|apply k_e2 rfl|apply k_e0 rfl|apply k_e3 rfl|apply k_e4 rfl);(case he=>exact ez0);(try case hok=>exact ezO);all_goals try (intro hb;(try simp only [hbs,reduceCtorEq] at hb);try exact ezX))|((with_reducible apply o_undef rfl);(case hb=>exact ez0)))
      all_goals exact sw_flat rfl rfl ⟨rfl,rfl,rfl⟩
    ·rw [if_neg (fun hh=>hlp hh.2.2)]
     refine enter Try.func52 kz rfl kz rfl rfl rfl ?_
     (repeat' first|refine zcd ?_|intro K' hK|(with_reducible refine zn hK ?_;clear hK)|(with_reducible refine x_drawnD (id:=1) [(1,6)] kz fun K' hK=>?_)|((with_reducible apply d_nil);(case hp=>exact ezP);(case' hx=>(refine hK _ _ _ ?_;clear hK)))|((with_reducible apply d_pure w_none);(case hp=>exact rfl);(case hc=>exact rfl);(case he=>exact ez1 hti))|((with_reducible apply d_eff w_none);(case hc=>exact rfl);(case he=>exact ez1 hti);(case hok=>exact ezO))|((with_reducible apply d_guard rfl);(case hb=>exact ez1 hti);(case' h1=>intro hb;(try simp only [hbs,reduceCtorEq] at hb);try exact ezX);(case' h2=>intro hb;(try simp only [hbs,reduceCtorEq] at hb);try exact ezX))|((with_reducible apply o_callF (g:=79) w_none);(case ha=>exact ez0);(case hs=>((with_reducible apply qp);exact (hT.set (Nat.le_refl _) _).more zm));(case' hk=>rintro _ h' n' ⟨rfl,rfl,rfl⟩))|((with_reducible first|apply zo1|apply zo2|apply o_guard rfl|apply x_cond|apply k_e1 rfl|apply k_e2 rfl|apply k_e0 rfl|apply k_e3 rfl|apply k_e4 rfl);(case he=>exact ez2 @b_strNeq @b_self);(try case hok=>exact ezO);all_goals try (intro hb;(try simp only [hbs,reduceCtorEq] at hb);try exact ezX))|((with_reducible apply o_undef rfl);(case hb=>exact ez0)))
     all_goals exact sw_flat rfl rfl ⟨rfl,rfl,rfl⟩
   ·rw [if_neg (fun hh=>hs hh.2.1)]
    have e5:=b_diff hs
    refine enter Try.func52 kz rfl kz rfl rfl rfl ?_
    (repeat' first|refine zcd ?_|intro K' hK|(with_reducible refine zn hK ?_;clear hK)|(with_reducible refine x_drawnD (id:=1) [(1,6)] kz fun K' hK=>?_)|((with_reducible apply d_nil);(case hp=>exact ezP);(case' hx=>(refine hK _ _ _ ?_;clear hK)))|((with_reducible apply d_pure w_none);(case hp=>exact rfl);(case hc=>exact rfl);(case he=>exact ez1 hti))|((with_reducible apply d_eff w_none);(case hc=>exact rfl);(case he=>exact ez1 hti);(case hok=>exact ezO))|((with_reducible apply d_guard rfl);(case hb=>exact ez1 hti);(case' h1=>intro hb;(try simp only [hbs,reduceCtorEq] at hb);try exact ezX);(case' h2=>intro hb;(try simp only [hbs,reduceCtorEq] at hb);try exact ezX))|((with_reducible first|apply zo1|apply zo2|apply o_guard rfl|apply x_cond|apply k_e1 rfl|apply k_e2 rfl|apply k_e0 rfl|apply k_e3 rfl|apply k_e4 rfl);(case he=>exact ez2 @b_strNeq e5);(try case hok=>exact ezO);all_goals try (intro hb;(try simp only [hbs,reduceCtorEq] at hb);try exact ezX))|((with_reducible apply o_undef rfl);(case hb=>exact ez0)))
    all_goals exact sw_flat rfl rfl ⟨rfl,rfl,rfl⟩
  ·rw [if_neg (fun hh=>hi hh.1)]
   refine enter Try.func52 kz rfl kz rfl rfl rfl ?_
   (repeat' first|refine zcd ?_|intro K' hK|(with_reducible refine zn hK ?_;clear hK)|(with_reducible refine x_drawnD (id:=1) [(1,6)] kz fun K' hK=>?_)|((with_reducible apply d_nil);(case hp=>exact ezP);(case' hx=>(refine hK _ _ _ ?_;clear hK)))|((with_reducible apply d_pure w_none);(case hp=>exact rfl);(case hc=>exact rfl);(case he=>exact ez1 hti))|((with_reducible apply d_eff w_none);(case hc=>exact rfl);(case he=>exact ez1 hti);(case hok=>exact ezO))|((with_reducible apply d_guard rfl);(case hb=>exact ez1 hti);(case' h1=>intro hb;(try simp only [hbs,reduceCtorEq] at hb);try exact ezX);(case' h2=>intro hb;(try simp only [hbs,reduceCtorEq] at hb);try exact ezX))|((with_reducible first|apply zo1|apply zo2|apply o_guard rfl|apply x_cond|apply k_e1 rfl|apply k_e2 rfl|apply k_e0 rfl|apply k_e3 rfl|apply k_e4 rfl);(case he=>exact ez1 @b_strNeq);(try case hok=>exact ezO);all_goals try (intro hb;(try simp only [hbs,reduceCtorEq] at hb);try exact ezX))|((with_reducible apply o_undef rfl);(case hb=>exact ez0)))
   all_goals exact sw_flat rfl rfl ⟨rfl,rfl,rfl⟩
end Go.Proofs.Ytcpkdjikembpnaa.Ce
