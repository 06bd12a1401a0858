/- Parts of the proof of ValueBack: Gd, Ge, Kw. No condition of its own. -/
import Derived.Test.YtcpkdjikembpnaaWaal
import Derived.Test.YtcpkdjikembpnaaWaam
set_option linter.unusedVariables false
set_option linter.unusedSimpArgs false
set_option maxRecDepth 1000000
set_option maxHeartbeats 4000000
namespace Go.Proofs.Ytcpkdjikembpnaa.Ce
section
open Go.RowKit
variable (k d cl:Nat) (h:Hp) (n:Nat)
theorem find_many (hk:30000≤k) (A:Option Addr) (L:List Rg) (c:Nat) (hL:RgH h n A L) (hl:L.length≤100) (a w:Int) (ha0:0≤a) (ha1:a<18446744073709551616) (hw0 : -9223372036854775808≤w) (hw1:w≤9223372036854775807) (h17:17<L.length) :
  SQ k (d+6) cl 38 [.slice A L.length c,.int .u64 a,.int .i64 w] h n fun v h' n'=>v = .tuple ⟨[.int .i64 (findS L a w).1,.int .i64 (findS L a w).2]⟩∧h'=h∧n'=n:=by
 have e:findS L a w=(0,4):=by unfold findS lstE;rw [if_pos h17];rfl
 rw [e]
 refine enter Try.func38 kz rfl kz rfl rfl rfl ?_
 (repeat' first|refine zcd ?_|intro K' hK|(with_reducible refine zn hK ?_;clear hK)|fail|((with_reducible first|apply zo1|apply zo2|apply o_guard rfl|apply x_cond|apply k_e1 rfl|apply k_e2 rfl|apply k_e0 rfl|apply k_e3 rfl|apply k_e4 rfl);(case he=>exact ez0);(try case hok=>exact ezO);all_goals try (intro hb;(try simp only [hbs,reduceCtorEq] at hb);try exact ezX))|((with_reducible apply o_undef rfl);(case hb=>exact ez0)))
 all_goals exact sw_flat rfl rfl ⟨rfl,rfl,rfl⟩
theorem find_bad (hk:30000≤k) (A:Option Addr) (L:List Rg) (c:Nat) (hL:RgH h n A L) (hl:L.length≤100) (a w:Int) (ha0:0≤a) (ha1:a<18446744073709551616) (hw0 : -9223372036854775808≤w) (hw1:w≤9223372036854775807) (h17:¬ 17<L.length) (hC:¬ ∀ g∈L,chkG g=0) :
  SQ k (d+6) cl 38 [.slice A L.length c,.int .u64 a,.int .i64 w] h n fun v h' n'=>v = .tuple ⟨[.int .i64 (findS L a w).1,.int .i64 (findS L a w).2]⟩∧h'=h∧n'=n:=by
 have e:findS L a w=(0,8):=by unfold findS lstE;rw [if_neg h17,if_pos hC];rfl
 rw [e]
 have qc:=cfuncL_ev k (d) n h n hk A L c hL hl
 refine enter Try.func38 kz rfl kz rfl rfl rfl ?_
 (repeat' first|refine zcd ?_|intro K' hK|(with_reducible refine zn hK ?_;clear hK)|((with_reducible apply o_callF (g:=60) w_none);(case ha=>exact ez0);(case hs=>(exact qc));(case' hk=>rintro _ h' n' ⟨⟨b,rfl,hb2⟩,rfl,rfl⟩))|((with_reducible first|apply zo1|apply zo2|apply o_guard rfl|apply x_cond|apply k_e1 rfl|apply k_e2 rfl|apply k_e0 rfl|apply k_e3 rfl|apply k_e4 rfl);(case he=>exact ez0);(try case hok=>exact ezO);all_goals try (intro hb;(try simp only [hbs,reduceCtorEq] at hb);try exact ezX))|((with_reducible apply o_undef rfl);(case hb=>exact ez0)))
 all_goals first|(exfalso;exact hC (hb2.1 (by assumption)))|exact sw_flat rfl rfl ⟨rfl,rfl,rfl⟩
theorem find_ok (hk:30000≤k) (A:Option Addr) (L:List Rg) (c:Nat) (hL:RgH h n A L) (hl:L.length≤100) (a w:Int) (ha0:0≤a) (ha1:a<18446744073709551616) (hw0 : -9223372036854775808≤w) (hw1:w≤9223372036854775807) (h17:¬ 17<L.length) (hC:∀ g∈L,chkG g=0) :
  SQ k (d+6) cl 38 [.slice A L.length c,.int .u64 a,.int .i64 w] h n fun v h' n'=>v = .tuple ⟨[.int .i64 (findS L a w).1,.int .i64 (findS L a w).2]⟩∧h'=h∧n'=n:=by
 have hCat:∀ i (hi:i<L.length),chkR L[i].b L[i].xs.length=0:=fun i hi=>hC _ (List.getElem_mem hi)
 have qc:=(cfuncL_ev k (d) n h n hk A L c hL hl).mono (Φ':=fun v h' n'=>v = .bool false∧h=h'∧n=n') fun v h' n' ⟨⟨b,e,hb⟩,e2⟩=>⟨by rw [e,hb.2 hC],e2⟩
 refine enter Try.func38 kz rfl kz rfl rfl rfl ?_
 (repeat' first|refine zcd ?_|intro K' hK|(with_reducible refine zn hK ?_;clear hK)|((with_reducible apply o_callF (g:=60) w_none);(case ha=>exact ez0);(case hs=>(exact qc));(case' hk=>rintro _ h' n' ⟨rfl,rfl,rfl⟩))|((with_reducible first|apply zo1|apply zo2|apply o_guard rfl|apply x_cond|apply k_e1 rfl|apply k_e2 rfl|apply k_e0 rfl|apply k_e3 rfl|apply k_e4 rfl);(case he=>exact ez0);(try case hok=>exact ezO);all_goals try (intro hb;(try simp only [hbs,reduceCtorEq] at hb);try exact ezX))|((with_reducible apply o_undef rfl);(case hb=>exact ez0)))
 refine x_loopV [6,7,8,9,11,23,24,25,26,27,28,29,30,31,32,33,34,35,36,37,38,39,40,41,42,43,44,45,46,47,48,49,50,51,52] [23] (fun m vs h5 n5=>∃ i:Nat,m=L.length - i∧i≤L.length∧vs=[.int .i64 i]∧n≤n5∧RgH h5 n A L∧∀ x y (hx:x<i) (hxl:x<L.length) (hy:y<x),¬ ovl L[x] (L[y]'zm)) L.length rfl zm ⟨0,rfl,by omega,ez0,Nat.le_refl _,hL,fun x y hx=>absurd hx (Nat.not_lt_zero _)⟩ ?_
 rintro m g _ h5 n5 ⟨i,rfl,hi,rfl,hn5,hL5,hall⟩
 by_cases hil:i<L.length
 ·obtain ⟨id,off,rfl,hid,c1⟩:=hL5.at_ hil
  obtain ⟨X,hX⟩:∃ X,L[i]=X:=⟨_,rfl⟩
  have hcX:=hCat i hil
  rw [hX] at c1 hcX
  (repeat' first|refine zcd ?_|intro K' hK|(with_reducible refine zn hK ?_;clear hK)|fail|((with_reducible first|apply zo1|apply zo2|apply o_guard rfl|apply x_cond|apply k_e1 rfl|apply k_e2 rfl|apply k_e0 rfl|apply k_e3 rfl|apply k_e4 rfl);(case he=>exact ez1 c1);(try case hok=>exact ezO);all_goals try (intro hb;(try simp only [hbs,reduceCtorEq] at hb);try exact ezX))|((with_reducible apply o_undef rfl);(case hb=>exact ez0)))
  refine x_loopV [6,7,11,32,33,34,35,36,37,38,39,40,41,42,43,44,45,46,47,48,49,50,51] [32] (fun m vs h6 n6=>∃ j:Nat,m=i - j∧j≤i∧vs=[.int .i64 j]∧n5+1≤n6∧RgH h6 n (some ⟨id,off,none⟩) L∧rowOf h6 n5=some (29,false,gcell X)∧∀ y (hy:y<j) (hyi:y<i),¬ ovl X (L[y]'zm)) i rfl zm ⟨0,rfl,by omega,ez0,by omega,(ezG hL5),ez0,fun y hy=>absurd hy (Nat.not_lt_zero _)⟩ ?_
  rintro m2 g2 _ h6 n6 ⟨j,rfl,hj,rfl,hn6,hL6,r1,hall2⟩
  have f0:=cellsAt_row (off:=0) (k:=2) r1
  have f1:=cellAt_row (off:=1) r1
  by_cases hji:j<i
  ·have hjl:j<L.length:=by omega
   obtain ⟨_,_,hA2, -,c2⟩:=hL6.at_ hjl
   injection hA2 with hA2
   injection hA2 with z1 z2
   subst z1
   subst z2
   obtain ⟨Y,hY⟩:∃ Y,L[j]=Y:=⟨_,rfl⟩
   have hcY:=hCat j hjl
   rw [hY] at c2 hcY
   have qo:=fun (h7:Hp) (n7:Nat)=>(overlap_ev k (d+4) n h7 n7 X.b X.A X.xs.length X.c Y.b Y.A Y.xs.length Y.c hcX hcY).mono (Φ':=fun v h' n'=>v = .bool (decide (X.b<Y.b+Y.xs.length∧Y.b<X.b+X.xs.length))∧h7=h'∧n7=n') fun _ _ _ hp=>⟨hp.1,hp.2.1.symm,hp.2.2.symm⟩
   by_cases hx0:0<X.xs.length
   ·by_cases hy0:0<Y.xs.length
    ·by_cases ho:X.b<Y.b+Y.xs.length∧Y.b<X.b+X.xs.length
     ·have ed:decide (X.b<Y.b+Y.xs.length∧Y.b<X.b+X.xs.length)=true:=decide_eq_true ho
      simp only [ed] at qo
      have hE:lstE L=14:=by
       unfold lstE
       rw [if_neg h17,if_neg (Classical.not_not.2 hC),if_pos ⟨i,j,hil,hji,by rw [hX,hY];exact ⟨hx0,hy0,ho⟩⟩]
      have e:findS L a w=(0,14):=by unfold findS;rw [hE];rfl
      rw [e]
      (repeat' first|refine zcd ?_|intro K' hK|(with_reducible refine zn hK ?_;clear hK)|((with_reducible apply o_callF (g:=63) w_none);(case ha=>exact ez0);(case hs=>(exact qo _ _));(case' hk=>rintro _ h' n' ⟨rfl,rfl,rfl⟩))|((with_reducible first|apply zo1|apply zo2|apply o_guard rfl|apply x_cond|apply k_e1 rfl|apply k_e2 rfl|apply k_e0 rfl|apply k_e3 rfl|apply k_e4 rfl);(case he=>exact ez3 c2 f0 f1);(try case hok=>exact ezO);all_goals try (intro hb;(try simp only [hbs,reduceCtorEq] at hb);try exact ezX))|((with_reducible apply o_undef rfl);(case hb=>exact ez0)))
      all_goals exact sw_flat rfl rfl ⟨rfl,rfl,rfl⟩
     ·have ed:decide (X.b<Y.b+Y.xs.length∧Y.b<X.b+X.xs.length)=false:=decide_eq_false ho
      simp only [ed] at qo
      (repeat' first|refine zcd ?_|intro K' hK|(with_reducible refine zn hK ?_;clear hK)|((with_reducible apply o_callF (g:=63) w_none);(case ha=>exact ez0);(case hs=>(exact qo _ _));(case' hk=>rintro _ h' n' ⟨rfl,rfl,rfl⟩))|((with_reducible first|apply zo1|apply zo2|apply o_guard rfl|apply x_cond|apply k_e1 rfl|apply k_e2 rfl|apply k_e0 rfl|apply k_e3 rfl|apply k_e4 rfl);(case he=>exact ez3 c2 f0 f1);(try case hok=>exact ezO);all_goals try (intro hb;(try simp only [hbs,reduceCtorEq] at hb);try exact ezX))|((with_reducible apply o_undef rfl);(case hb=>exact ez0)))
      refine k_round (i - (j+1)) zm ⟨j+1,rfl,by omega,ez0,by omega,(ezG hL6),(ez1 r1),fun y hy hyi=>?_⟩
      by_cases e2:y=j
      ·subst e2;rw [hY];exact fun hh=>ho hh.2.2
      ·exact hall2 y zm hyi
    ·(repeat' first|refine zcd ?_|intro K' hK|(with_reducible refine zn hK ?_;clear hK)|fail|((with_reducible first|apply zo1|apply zo2|apply o_guard rfl|apply x_cond|apply k_e1 rfl|apply k_e2 rfl|apply k_e0 rfl|apply k_e3 rfl|apply k_e4 rfl);(case he=>exact ez3 c2 f0 f1);(try case hok=>exact ezO);all_goals try (intro hb;(try simp only [hbs,reduceCtorEq] at hb);try exact ezX))|((with_reducible apply o_undef rfl);(case hb=>exact ez0)))
     refine k_round (i - (j+1)) zm ⟨j+1,rfl,by omega,ez0,by omega,(ezG hL6),(ez1 r1),fun y hy hyi=>?_⟩
     by_cases e2:y=j
     ·subst e2;rw [hY];exact fun hh=>hy0 hh.2.1
     ·exact hall2 y zm hyi
   ·(repeat' first|refine zcd ?_|intro K' hK|(with_reducible refine zn hK ?_;clear hK)|fail|((with_reducible first|apply zo1|apply zo2|apply o_guard rfl|apply x_cond|apply k_e1 rfl|apply k_e2 rfl|apply k_e0 rfl|apply k_e3 rfl|apply k_e4 rfl);(case he=>exact ez3 c2 f0 f1);(try case hok=>exact ezO);all_goals try (intro hb;(try simp only [hbs,reduceCtorEq] at hb);try exact ezX))|((with_reducible apply o_undef rfl);(case hb=>exact ez0)))
    refine k_round (i - (j+1)) zm ⟨j+1,rfl,by omega,ez0,by omega,(ezG hL6),(ez1 r1),fun y hy hyi=>?_⟩
    by_cases e2:y=j
    ·subst e2;rw [hY];exact fun hh=>hx0 hh.1
    ·exact hall2 y zm hyi
  ·obtain rfl:j=i:=by omega
   (repeat' first|refine zcd ?_|intro K' hK|(with_reducible refine zn hK ?_;clear hK)|fail|((with_reducible first|apply zo1|apply zo2|apply o_guard rfl|apply x_cond|apply k_e1 rfl|apply k_e2 rfl|apply k_e0 rfl|apply k_e3 rfl|apply k_e4 rfl);(case he=>exact ez2 f0 f1);(try case hok=>exact ezO);all_goals try (intro hb;(try simp only [hbs,reduceCtorEq] at hb);try exact ezX))|((with_reducible apply o_undef rfl);(case hb=>exact ez0)))
   refine k_round (L.length - (j+1)) zm ⟨j+1,rfl,by omega,ez0,by omega,hL6,fun x y hx hxl hy=>?_⟩
   by_cases e2:x=j
   ·subst e2;rw [hX];exact hall2 y hy hy
   ·exact hall x y zm hxl hy
 ·obtain rfl:i=L.length:=by omega
  have hE:lstE L=0:=by
   unfold lstE
   rw [if_neg h17,if_neg (Classical.not_not.2 hC),if_neg]
   rintro ⟨x,y,hx,hy,ho⟩
   exact hall x y hx hx hy ho
  by_cases hw:w<1
  ·have e:findS L a w=(0,2):=by unfold findS;rw [hE,if_neg (by decide),if_pos hw]
   rw [e]
   (repeat' first|refine zcd ?_|intro K' hK|(with_reducible refine zn hK ?_;clear hK)|fail|((with_reducible first|apply zo1|apply zo2|apply o_guard rfl|apply x_cond|apply k_e1 rfl|apply k_e2 rfl|apply k_e0 rfl|apply k_e3 rfl|apply k_e4 rfl);(case he=>exact ez0);(try case hok=>exact ezO);all_goals try (intro hb;(try simp only [hbs,reduceCtorEq] at hb);try exact ezX))|((with_reducible apply o_undef rfl);(case hb=>exact ez0)))
   all_goals exact sw_flat rfl rfl ⟨rfl,rfl,rfl⟩
  ·(repeat' first|refine zcd ?_|intro K' hK|(with_reducible refine zn hK ?_;clear hK)|fail|((with_reducible first|apply zo1|apply zo2|apply o_guard rfl|apply x_cond|apply k_e1 rfl|apply k_e2 rfl|apply k_e0 rfl|apply k_e3 rfl|apply k_e4 rfl);(case he=>exact ez0);(try case hok=>exact ezO);all_goals try (intro hb;(try simp only [hbs,reduceCtorEq] at hb);try exact ezX))|((with_reducible apply o_undef rfl);(case hb=>exact ez0)))
   refine x_loopV [6,7,12,13,14,15,57,58,59,60,61,62,63,64,65,66,67,68,69,70,71] [57] (fun m vs h6 n6=>∃ q:Nat,m=L.length - q∧q≤L.length∧vs=[.int .i64 q]∧n≤n6∧RgH h6 n A L∧∀ p (hp:p<q) (hpl:p<L.length),inb L[p].b L[p].xs.length a w=false) L.length rfl zm ⟨0,rfl,by omega,ez0,by omega,hL5,fun p hp=>absurd hp (Nat.not_lt_zero _)⟩ ?_
   rintro m2 g2 _ h6 n6 ⟨q,rfl,hq,rfl,hn6,hL6,hall2⟩
   by_cases hql:q<L.length
   ·obtain ⟨id,off,rfl,hid,c1⟩:=hL6.at_ hql
    obtain ⟨X,hX⟩:∃ X,L[q]=X:=⟨_,rfl⟩
    have hcX:=hCat q hql
    rw [hX] at c1 hcX
    have qi:=fun (h7:Hp) (n7:Nat)=>(index_ev k (d+4) n h7 n7 X.b X.A X.xs.length X.c a w hcX ha0 ha1 hw0 hw1).mono (Φ':=fun v h' n'=>v = .tuple ⟨[.int .i64 (indexS X.b X.xs.length a w).1,.bool (inb X.b X.xs.length a w)]⟩∧h7=h'∧n7=n') fun _ _ _ hp=>⟨by rw [hp.1,indexS_snd zm],hp.2.1.symm,hp.2.2.symm⟩
    obtain ⟨b,hib⟩:∃ b,inb X.b X.xs.length a w=b:=⟨_,rfl⟩
    simp only [hib] at qi
    cases b
    ·(repeat' first|refine zcd ?_|intro K' hK|(with_reducible refine zn hK ?_;clear hK)|((with_reducible apply o_callF (g:=64) w_none);(case ha=>exact ez0);(case hs=>(exact qi _ _));(case' hk=>rintro _ h' n' ⟨rfl,rfl,rfl⟩))|((with_reducible first|apply zo1|apply zo2|apply o_guard rfl|apply x_cond|apply k_e1 rfl|apply k_e2 rfl|apply k_e0 rfl|apply k_e3 rfl|apply k_e4 rfl);(case he=>exact ez1 c1);(try case hok=>exact ezO);all_goals try (intro hb;(try simp only [hbs,reduceCtorEq] at hb);try exact ezX))|((with_reducible apply o_undef rfl);(case hb=>exact ez0)))
     refine k_round (L.length - (q+1)) zm ⟨q+1,rfl,by omega,ez0,by omega,(ezG hL6),fun p hp hpl=>?_⟩
     by_cases e2:p=q
     ·subst e2;rw [hX];exact hib
     ·exact hall2 p zm hpl
    ·have e:findS L a w=((q:Int),0):=by
      unfold findS
      rw [hE,if_neg (by decide),if_neg hw,fstI_at (q:=q) hql (by rw [hX];exact hib) fun p hp=>hall2 p hp zm,Nat.zero_add]
     rw [e]
     (repeat' first|refine zcd ?_|intro K' hK|(with_reducible refine zn hK ?_;clear hK)|((with_reducible apply o_callF (g:=64) w_none);(case ha=>exact ez0);(case hs=>(exact qi _ _));(case' hk=>rintro _ h' n' ⟨rfl,rfl,rfl⟩))|((with_reducible first|apply zo1|apply zo2|apply o_guard rfl|apply x_cond|apply k_e1 rfl|apply k_e2 rfl|apply k_e0 rfl|apply k_e3 rfl|apply k_e4 rfl);(case he=>exact ez1 c1);(try case hok=>exact ezO);all_goals try (intro hb;(try simp only [hbs,reduceCtorEq] at hb);try exact ezX))|((with_reducible apply o_undef rfl);(case hb=>exact ez0)))
     all_goals exact sw_flat rfl rfl ⟨rfl,rfl,rfl⟩
   ·obtain rfl:q=L.length:=by omega
    have e:findS L a w=(0,6):=by
     unfold findS
     rw [hE,if_neg (by decide),if_neg hw,fstI_none fun p hp=>hall2 p hp hp]
    rw [e]
    (repeat' first|refine zcd ?_|intro K' hK|(with_reducible refine zn hK ?_;clear hK)|fail|((with_reducible first|apply zo1|apply zo2|apply o_guard rfl|apply x_cond|apply k_e1 rfl|apply k_e2 rfl|apply k_e0 rfl|apply k_e3 rfl|apply k_e4 rfl);(case he=>exact ez0);(try case hok=>exact ezO);all_goals try (intro hb;(try simp only [hbs,reduceCtorEq] at hb);try exact ezX))|((with_reducible apply o_undef rfl);(case hb=>exact ez0)))
    all_goals exact sw_flat rfl rfl ⟨rfl,rfl,rfl⟩
theorem findL_ev (hk:30000≤k) (A:Option Addr) (L:List Rg) (c:Nat) (hL:RgH h n A L) (hl:L.length≤100) (a w:Int) (ha0:0≤a) (ha1:a<18446744073709551616) (hw0 : -9223372036854775808≤w) (hw1:w≤9223372036854775807) :
  SQ k (d+6) cl 38 [.slice A L.length c,.int .u64 a,.int .i64 w] h n fun v h' n'=>v = .tuple ⟨[.int .i64 (findS L a w).1,.int .i64 (findS L a w).2]⟩∧h'=h∧n'=n:=by
 by_cases h17:17<L.length
 ·exact find_many k d cl h n hk A L c hL hl a w ha0 ha1 hw0 hw1 h17
 ·by_cases hC:∀ g∈L,chkG g=0
  ·exact find_ok k d cl h n hk A L c hL hl a w ha0 ha1 hw0 hw1 h17 hC
  ·exact find_bad k d cl h n hk A L c hL hl a w ha0 ha1 hw0 hw1 h17 hC
end
section
open Go.RowKit
theorem hasS_in {b:Int} {m:Nat} {a w:Int} (hc:chkR b m=0) (hw:0≤w) (h1:b≤a) (h2:a+w≤b+m):hasS b m a w=(true,0):=by
 unfold hasS
 rw [if_pos hc,if_neg zm,inb_iff.2 ⟨h1,h2⟩]
theorem RdH.sub {h:Hp} {B id off p t:Nat} {vs:List Value} (hr:RdH h B (some ⟨id,off,none⟩) vs):RdH h B (some ⟨id,off+p,none⟩) ((vs.drop p).take t):=by
 refine ⟨fun i j e=>?_,?_⟩
 ·injection e with e
  injection e with e1 e2
  subst e1
  exact hr.1 _ _ rfl
 ·rcases hr.2 with hn|⟨i,j,e,hc⟩
  ·left;rw [hn];simp
  ·injection e with e
   injection e with e1 e2
   subst e1;subst e2
   refine .inr ⟨id,off+p,rfl,fun k v hk=>?_⟩
   rw [Nat.add_assoc]
   refine hc (p+k) v ?_
   rw [List.getElem?_take] at hk
   split at hk
   ·rwa [List.getElem?_drop] at hk
   ·cases hk
theorem bv_sub (xs:List UInt8) (p t:Nat):((bv xs).drop p).take t=bv ((xs.drop p).take t):=by
 unfold bv
 rw [← List.map_drop,← List.map_take]
def findB (L:List Rg) (a:Int) (w:Nat):Option (List UInt8):=if a % 8=0 then match fstI L a (max (w:Int) 1) 0 with
 | some i=>(L[i]?).map fun g=>(g.xs.drop (a - g.b).toNat).take w
 | none=>none
 else none
variable (k d cl:Nat) (h:Hp) (n:Nat)
theorem bytesG_ok (g:Rg) (hr:RdH h n g.A (bv g.xs)) (hc:chkG g=0) (a:Int) (t:Nat) (h1:g.b≤a) (h2:a+max (t:Int) 1≤g.b+g.xs.length) (ys:List UInt8) (hy:(g.xs.drop (a - g.b).toNat).take t=ys) (hyl:ys.length=t) :
  SQ k (d+4) cl 39 [.agg ⟨gcell g⟩,.int .u64 a,.int .i64 t] h n fun v h' n'=>v = .tuple ⟨[.slice (some ⟨n,0,none⟩) t t,.int .i64 0]⟩∧h'=h.set n (.row 5 false (bv ys))∧n'=n+1:=by
 subst hyl
 obtain ⟨b,xs,A,c⟩:=g
 dsimp only at *
 have hc:chkR b xs.length=0:=hc
 obtain ⟨g2,g3,g4,g5⟩:=chkR_ok hc
 obtain ⟨id,off,rfl,hid, -⟩:=hr.bytes zm
 have hh:=hasS_in (b:=b) (m:=xs.length) (a:=a) (w:=ys.length) hc zm h1 zm
 have hi:indexS b xs.length a ys.length=(a - b,true):=by unfold indexS;rw [if_pos ⟨h1,by omega⟩,decide_eq_true zm]
 have hsub:∀ x,RdH (h.set n x) (n+1) (some ⟨id,off+(a - b).toNat,none⟩) (bv ys):=fun x=>by
  have:=((hr.set (Nat.le_refl n) x).more (Nat.le_succ n)).sub (p:=(a - b).toNat) (t:=ys.length)
  rw [bv_sub,hy] at this
  exact this
 have e1:(a - b+(ys.length:Int)).toNat - (a - b).toNat=ys.length:=by omega
 refine enter Try.func39 kz rfl kz rfl rfl rfl ?_
 (repeat' first|refine zcd ?_|intro K' hK|(with_reducible refine zn hK ?_;clear hK)|((with_reducible apply o_callF (g:=65) w_none);(case ha=>exact ez0);(case hs=>exact has_ev (h0:=by omega) (h1:=by omega) (hm:=by omega) (ha0:=by omega) (ha1:=by omega) (hw0:=by omega) (hw1:=by omega) ..);(case' hk=>rintro _ h' n' ⟨rfl,rfl,rfl⟩))|((with_reducible apply o_callF (g:=64) w_none);(case ha=>exact ez0);(case hs=>exact index_ev (hv:=hc) (ha0:=by omega) (ha1:=by omega) (hw0:=by omega) (hw1:=by omega) ..);(case' hk=>rintro _ h' n' ⟨rfl,rfl,rfl⟩))|((with_reducible apply o_callF (g:=48) w_none);(case ha=>exact ez0);(case hs=>((apply clone_ev (xs:=ys);(case hr=>exact hsub _);(case hm=>omega))));(case' hk=>rintro _ h' n' ⟨rfl,rfl,rfl⟩))|((with_reducible first|apply zo1|apply zo2|apply o_guard rfl|apply x_cond|apply k_e1 rfl|apply k_e2 rfl|apply k_e0 rfl|apply k_e3 rfl|apply k_e4 rfl);(case he=>exact ez3 hh hi e1);(try case hok=>exact ezO);all_goals try (intro hb;(try simp only [hbs,reduceCtorEq] at hb);try exact ezX))|((with_reducible apply o_undef rfl);(case hb=>exact ez0)))
 refine sw_row (by simp (disch:=first|assumption|omega) only [idV_tuple,idV_agg,idV_int,idV_bool,idV_str,idV_slice,idV_nil,idV1_agg,idV1_int,idV1_bool,idV1_str,idV1_slice,idV1_nil,idA_int,idA_bool,idA_str,idA_slice,idA_nil,idA_old,idV_old,idV1_old,ble_t,ble_f,cond_true,cond_false,List.flatMap_cons,List.flatMap_nil,List.append_nil,List.nil_append,List.cons_append];exact rfl) rfl zm (by simp (disch:=first|assumption|omega|rfl|decide) only [go_sem,seval,tys];exact rfl) (bv_idA _ _) (by simp only [reV_tuple,reV_agg,reV_slice,reV1_agg,reV1_int,reV1_bool,reV1_str,reV1_slice,reV1_snil,reA_int,reA_bool,reA_str,reA_slice,reA_snil,reN_hit,List.map_cons,List.map_nil];exact rfl) ?_
 exact ⟨rfl,rfl,rfl⟩
theorem findB_len {L:List Rg} {a:Int} {w:Nat} {ys:List UInt8} (hf:findB L a w=some ys):ys.length=w:=by
 unfold findB at hf
 split at hf
 ·cases hfi:fstI L a (max (w:Int) 1) 0 with
  | none=>rw [hfi] at hf;cases hf
  | some i=>
   rw [hfi] at hf
   obtain ⟨q,hq,e,hin, -⟩:=fstI_some hfi
   obtain rfl:i=q:=by omega
   dsimp only at hf
   rw [List.getElem?_eq_getElem hq] at hf
   injection hf with hf
   obtain ⟨hi1,hi2⟩:=inb_iff.1 hin
   rw [← hf,List.length_take,List.length_drop]
   omega
 ·cases hf
theorem mfind_ok (hk:30000≤k) (TA:Option Addr) (tn tc:Nat) (A:Option Addr) (L:List Rg) (c:Nat) (hL:RgH h n A L) (hl:L.length≤100) (hE:lstE L=0) (hC:∀ g∈L,chkG g=0) (a:Int) (w:Nat) (ha0:0≤a) (ha1:a<18446744073709551616) (hw:w≤20000) (ys:List UInt8) (hf:findB L a w=some ys) :
  SQ k (d+7) cl 101 [.agg ⟨[.slice TA tn tc,.slice A L.length c]⟩,.int .u64 a,.int .i64 w] h n fun v h' n'=>v = .tuple ⟨[.slice (some ⟨n,0,none⟩) w w,.int .i64 0]⟩∧h'=h.set n (.row 5 false (bv ys))∧n'=n+1:=by
 unfold findB at hf
 split at hf
 ·rename_i h8
  cases hfi:fstI L a (max (w:Int) 1) 0 with
  | none=>rw [hfi] at hf;cases hf
  | some i=>
   rw [hfi] at hf
   obtain ⟨q,hq,e,hin, -⟩:=fstI_some hfi
   obtain rfl:i=q:=by omega
   dsimp only at hf
   rw [List.getElem?_eq_getElem hq] at hf
   injection hf with hf
   obtain ⟨hi1,hi2⟩:=inb_iff.1 hin
   have hS:findS L a (max (w:Int) 1)=((i:Int),0):=by
    unfold findS
    rw [hE,if_neg (by decide),if_neg zm,hfi]
   have hS2:findS L a (if (w:Int)<1 then 1 else (w:Int))=((i:Int),0):=by
    rw [← hS];congr 1;split <;> omega
   have hS3:findS L a (if (1:Int)>(w:Int) then 1 else (w:Int))=((i:Int),0):=by
    rw [← hS];congr 1;split <;> omega
   have hg:=hL.fd _ (List.getElem_mem hq)
   have hcg:=hC _ (List.getElem_mem hq)
   have hcb:=chkR_ok hcg
   obtain ⟨id,off,rfl,hid,c1⟩:=hL.at_ hq
   obtain ⟨G,hG⟩:∃ G,L[i]=G:=⟨_,rfl⟩
   rw [hG] at hf hi1 hi2 hg hcg hcb c1
   have hyl:ys.length=w:=by rw [← hf,List.length_take,List.length_drop];omega
   have qf:=fun (h6:Hp) (n6:Nat) (w':Int) (hw':w'=max (w:Int) 1) (hL6:RgH h6 n6 (some ⟨id,off,none⟩) L)=>(findL_ev k d n h6 n6 hk (some ⟨id,off,none⟩) L c hL6 hl a w' ha0 ha1 zm zm).mono (Φ':=fun v h' n'=>v = .tuple ⟨[.int .i64 i,.int .i64 0]⟩∧h6=h'∧n6=n') fun _ _ _ hp=>⟨by rw [hp.1,hw',hS],hp.2.1.symm,hp.2.2.symm⟩
   refine enter Try.func101 kz rfl kz rfl rfl rfl ?_
   (repeat' first|refine zcd ?_|intro K' hK|(with_reducible refine zn hK ?_;clear hK)|((with_reducible apply o_callF (g:=38) w_none);(case ha=>exact ez0);(case hs=>((with_reducible apply qf);(case hw'=>first|omega|(split <;> omega));(case hL6=>exact (hL.set (Nat.le_refl _) _).more zm)));(case' hk=>rintro _ h' n' ⟨rfl,rfl,rfl⟩))|((with_reducible apply o_callF (g:=39) w_none);(case ha=>exact ez0);(case hs=>((apply bytesG_ok (g:=G) (ys:=ys);(case hr=>exact (hg.set (Nat.le_refl _) _).more zm);(case hc=>exact hcg);(case h1=>exact hi1);(case h2=>exact hi2);(case hy=>exact hf);(case hyl=>exact hyl))));(case' hk=>rintro _ h' n' ⟨rfl,rfl,rfl⟩))|((with_reducible first|apply zo1|apply zo2|apply o_guard rfl|apply x_cond|apply k_e1 rfl|apply k_e2 rfl|apply k_e0 rfl|apply k_e3 rfl|apply k_e4 rfl);(case he=>exact ez1 c1);(try case hok=>exact ezO);all_goals try (intro hb;(try simp only [hbs,reduceCtorEq] at hb);try exact ezX))|((with_reducible apply o_undef rfl);(case hb=>exact ez0)))
   all_goals (refine sw_row (by simp (disch:=first|assumption|omega) only [idV_tuple,idV_agg,idV_int,idV_bool,idV_str,idV_slice,idV_nil,idV1_agg,idV1_int,idV1_bool,idV1_str,idV1_slice,idV1_nil,idA_int,idA_bool,idA_str,idA_slice,idA_nil,idA_old,idV_old,idV1_old,ble_t,ble_f,cond_true,cond_false,List.flatMap_cons,List.flatMap_nil,List.append_nil,List.nil_append,List.cons_append];exact rfl) rfl zm (by simp (disch:=first|assumption|omega|rfl|decide) only [go_sem,seval,tys];exact rfl) (bv_idA _ _) (by simp only [reV_tuple,reV_agg,reV_slice,reV1_agg,reV1_int,reV1_bool,reV1_str,reV1_slice,reV1_snil,reA_int,reA_bool,reA_str,reA_slice,reA_snil,reN_hit,List.map_cons,List.map_nil];exact rfl) ?_;exact ⟨rfl,rfl,rfl⟩)
 ·cases hf
theorem mfind_no (hk:30000≤k) (TA:Option Addr) (tn tc:Nat) (A:Option Addr) (L:List Rg) (c:Nat) (hL:RgH h n A L) (hl:L.length≤100) (hE:lstE L=0) (a:Int) (w:Nat) (ha0:0≤a) (ha1:a<18446744073709551616) (hw:w≤20000) (hf:findB L a w=none) :
  SQ k (d+7) cl 101 [.agg ⟨[.slice TA tn tc,.slice A L.length c]⟩,.int .u64 a,.int .i64 w] h n fun v h' n'=>v = .tuple ⟨[.slice none 0 0,.int .i64 16]⟩∧h'=h∧n'=n:=by
 have hcase:(∃ i:Nat,a % 8≠0∧findS L a (max (w:Int) 1)=((i:Int),0))∨findS L a (max (w:Int) 1)=(0,6):=by
  unfold findS
  rw [hE,if_neg (by decide),if_neg zm]
  cases hfi:fstI L a (max (w:Int) 1) 0 with
  | none=>exact .inr rfl
  | some i=>
   refine .inl ⟨i,fun h8=>?_,rfl⟩
   unfold findB at hf
   rw [if_pos h8,hfi] at hf
   obtain ⟨q,hq,e, -, -⟩:=fstI_some hfi
   obtain rfl:i=q:=by omega
   dsimp only at hf
   rw [List.getElem?_eq_getElem hq] at hf
   cases hf
 have qf:=fun (h6:Hp) (n6:Nat) (w':Int) (hw':w'=max (w:Int) 1) (hL6:RgH h6 n6 A L)=>(findL_ev k d n h6 n6 hk A L c hL6 hl a w' ha0 ha1 zm zm).mono (Φ':=fun v h' n'=>v = .tuple ⟨[.int .i64 (findS L a (max (w:Int) 1)).1,.int .i64 (findS L a (max (w:Int) 1)).2]⟩∧h6=h'∧n6=n') fun _ _ _ hp=>⟨by rw [hp.1,hw'],hp.2.1.symm,hp.2.2.symm⟩
 rcases hcase with ⟨i,h8,hS⟩|hS
 all_goals
  simp only [hS] at qf
  refine enter Try.func101 kz rfl kz rfl rfl rfl ?_
  (repeat' first|refine zcd ?_|intro K' hK|(with_reducible refine zn hK ?_;clear hK)|((with_reducible apply o_callF (g:=38) w_none);(case ha=>exact ez0);(case hs=>((with_reducible apply qf);(case hw'=>first|omega|(split <;> omega));(case hL6=>exact (hL.set (Nat.le_refl _) _).more zm)));(case' hk=>rintro _ h' n' ⟨rfl,rfl,rfl⟩))|((with_reducible first|apply zo1|apply zo2|apply o_guard rfl|apply x_cond|apply k_e1 rfl|apply k_e2 rfl|apply k_e0 rfl|apply k_e3 rfl|apply k_e4 rfl);(case he=>exact ez0);(try case hok=>exact ezO);all_goals try (intro hb;(try simp only [hbs,reduceCtorEq] at hb);try exact ezX))|((with_reducible apply o_undef rfl);(case hb=>exact ez0)))
  all_goals exact sw_flat rfl rfl ⟨rfl,rfl,rfl⟩
theorem vword_ev (hk:30000≤k) (A:Option Addr) (xs:List UInt8) (c:Nat) (hr:RdH h n A (bv xs)) (i:Nat) (hi:8*i+8≤xs.length) (hm:xs.length≤1000000) :
  SQ k (d+1) cl 66 [.slice A xs.length c,.int .i64 i] h n fun v h' n'=>v = .int .u64 (wordV xs (8*i) 8)∧h'=h∧n'=n:=by
 obtain ⟨id,off,rfl,hid,hcell⟩:=hr.bytes zm
 obtain ⟨K,hK8⟩:∃ K:Nat,K=8:=⟨8,rfl⟩
 rw [show wordV xs (8*i) 8=wordV xs (8*i) K from by rw [hK8]]
 refine enter Try.func66 kz rfl kz rfl rfl rfl ?_
 (repeat' first|refine zcd ?_|intro K' hK|(with_reducible refine zn hK ?_;clear hK)|fail|((with_reducible first|apply zo1|apply zo2|apply o_guard rfl|apply x_cond|apply k_e1 rfl|apply k_e2 rfl|apply k_e0 rfl|apply k_e3 rfl|apply k_e4 rfl);(case he=>exact ez0);(try case hok=>exact ezO);all_goals try (intro hb;(try simp only [hbs,reduceCtorEq] at hb);try exact ezX))|((with_reducible apply o_undef rfl);(case hb=>exact ez0)))
 refine x_loopF [5,6,7,8,9,10,11,12,13,14,15,16,17,18,19,20,21] [5,6] (fun m vs=>(m:Int)≤8∧vs=[.int .u64 (le ((xs.drop (8*i+m)).take (K - m))),.int .i64 ((m:Int) - 1)]) 8 rfl zm ?_ ?_
 ·refine ⟨by omega,?_⟩
  subst hK8
  simp (disch:=first|assumption|omega|rfl|decide) only [go_sem,seval,tys]
  rfl
 ·rintro m g _ ⟨i1,rfl⟩
  have hlt:=le_lt7 (l:=(xs.drop (8*i+m)).take (K - m))
  have hnn:=le_nonneg ((xs.drop (8*i+m)).take (K - m))
  rcases m with _|m
  ·(repeat' first|refine zcd ?_|intro K' hK|(with_reducible refine zn hK ?_;clear hK)|fail|((with_reducible first|apply zo1|apply zo2|apply o_guard rfl|apply x_cond|apply k_e1 rfl|apply k_e2 rfl|apply k_e0 rfl|apply k_e3 rfl|apply k_e4 rfl);(case he=>exact ez0);(try case hok=>exact ezO);all_goals try (intro hb;(try simp only [hbs,reduceCtorEq] at hb);try exact ezX))|((with_reducible apply o_undef rfl);(case hb=>exact ez0)))
   exact sw_flat rfl rfl ⟨by unfold wordV;rw [Nat.sub_zero],rfl,rfl⟩
  ·have hst:=wordV_step (xs:=xs) (at_:=8*i) (m:=m) (k:=K) zm zm
   have hx:cellAt h id (off+(8*(i:Int)+(((m+1:Nat):Int) - 1)).toNat)=some (.int .u8 (xs[8*i+m]'zm).toNat):=by
    rw [← hcell];congr 2;omega
   have h8:=UInt8.toNat_lt (xs[8*i+m]'zm)
   have hlt':=hlt (by simp;omega)
   (repeat' first|refine zcd ?_|intro K' hK|(with_reducible refine zn hK ?_;clear hK)|fail|((with_reducible first|apply zo1|apply zo2|apply o_guard rfl|apply x_cond|apply k_e1 rfl|apply k_e2 rfl|apply k_e0 rfl|apply k_e3 rfl|apply k_e4 rfl);(case he=>exact ez1 hx);(try case hok=>exact ezO);all_goals try (intro hb;(try simp only [hbs,reduceCtorEq] at hb);try exact ezX))|((with_reducible apply o_undef rfl);(case hb=>exact ez0)))
   refine k_round m zm ⟨⟨rfl,rfl⟩,by omega,?_⟩
   simp (disch:=first|assumption|omega|rfl|decide) only [go_sem,seval,tys]
   congr 2
   ·rw [hst];omega
   ·congr 1;omega
def textB (L:List Rg) (a w:Int):List UInt8 × Int:=if 64<w then ([],12) else if w=0 then ([],0) else match findB L a w.toNat with
 | some ys=>(ys,0)
 | none=>([],16)
theorem mtext_ev (hk:30000≤k) (TA:Option Addr) (tn tc:Nat) (A:Option Addr) (L:List Rg) (c:Nat) (hL:RgH h n A L) (hl:L.length≤100) (hE:lstE L=0) (hC:∀ g∈L,chkG g=0) (a w:Int) (ha0:0≤a) (ha1:a<18446744073709551616) (hw0:0≤w) (hw1:w<18446744073709551616) :
  SQ k (d+8) cl 67 [.agg ⟨[.slice TA tn tc,.slice A L.length c]⟩,.int .u64 a,.int .u64 w] h n fun v h' n'=>v = .tuple ⟨[.string ⟨⟨(textB L a w).1⟩⟩,.int .i64 (textB L a w).2]⟩∧h'=h∧n'=n:=by
 by_cases h64:64<w
 ·have e:textB L a w=([],12):=by unfold textB;rw [if_pos h64]
  rw [e]
  refine enter Try.func67 kz rfl kz rfl rfl rfl ?_
  (repeat' first|refine zcd ?_|intro K' hK|(with_reducible refine zn hK ?_;clear hK)|fail|((with_reducible first|apply zo1|apply zo2|apply o_guard rfl|apply x_cond|apply k_e1 rfl|apply k_e2 rfl|apply k_e0 rfl|apply k_e3 rfl|apply k_e4 rfl);(case he=>exact ez0);(try case hok=>exact ezO);all_goals try (intro hb;(try simp only [hbs,reduceCtorEq] at hb);try exact ezX))|((with_reducible apply o_undef rfl);(case hb=>exact ez0)))
  all_goals exact sw_flat rfl rfl ⟨rfl,rfl,rfl⟩
 ·by_cases h0:w=0
  ·have e:textB L a w=([],0):=by unfold textB;rw [if_neg h64,if_pos h0]
   rw [e]
   subst h0
   refine enter Try.func67 kz rfl kz rfl rfl rfl ?_
   (repeat' first|refine zcd ?_|intro K' hK|(with_reducible refine zn hK ?_;clear hK)|fail|((with_reducible first|apply zo1|apply zo2|apply o_guard rfl|apply x_cond|apply k_e1 rfl|apply k_e2 rfl|apply k_e0 rfl|apply k_e3 rfl|apply k_e4 rfl);(case he=>exact ez0);(try case hok=>exact ezO);all_goals try (intro hb;(try simp only [hbs,reduceCtorEq] at hb);try exact ezX))|((with_reducible apply o_undef rfl);(case hb=>exact ez0)))
   all_goals exact sw_flat rfl rfl ⟨rfl,rfl,rfl⟩
  ·obtain ⟨w,rfl⟩:=Int.eq_ofNat_of_zero_le hw0
   cases hf:findB L a w with
   | none=>
    have e:textB L a w=([],16):=by unfold textB;rw [if_neg h64,if_neg h0,Int.toNat_natCast,hf]
    rw [e]
    have q:=fun (h6:Hp) (n6:Nat) (hL6:RgH h6 n6 A L)=>(mfind_no k d n h6 n6 hk TA tn tc A L c hL6 hl hE a w ha0 ha1 zm hf).mono (Φ':=fun v h' n'=>v = .tuple ⟨[.slice none 0 0,.int .i64 16]⟩∧h6=h'∧n6=n') fun _ _ _ hp=>⟨hp.1,hp.2.1.symm,hp.2.2.symm⟩
    refine enter Try.func67 kz rfl kz rfl rfl rfl ?_
    (repeat' first|refine zcd ?_|intro K' hK|(with_reducible refine zn hK ?_;clear hK)|((with_reducible apply o_callF (g:=101) w_none);(case ha=>exact ez0);(case hs=>((with_reducible apply q);(exact (hL.set (Nat.le_refl _) _).more zm)));(case' hk=>rintro _ h' n' ⟨rfl,rfl,rfl⟩))|((with_reducible first|apply zo1|apply zo2|apply o_guard rfl|apply x_cond|apply k_e1 rfl|apply k_e2 rfl|apply k_e0 rfl|apply k_e3 rfl|apply k_e4 rfl);(case he=>exact ez0);(try case hok=>exact ezO);all_goals try (intro hb;(try simp only [hbs,reduceCtorEq] at hb);try exact ezX))|((with_reducible apply o_undef rfl);(case hb=>exact ez0)))
    all_goals exact sw_flat rfl rfl ⟨rfl,rfl,rfl⟩
   | some ys=>
    have e:textB L a w=(ys,0):=by unfold textB;rw [if_neg h64,if_neg h0,Int.toNat_natCast,hf]
    rw [e]
    have hyl:ys.length=w:=findB_len hf
    subst hyl
    have q:=fun (h6:Hp) (n6:Nat) (hL6:RgH h6 n6 A L)=>mfind_ok k d n h6 n6 hk TA tn tc A L c hL6 hl hE hC a ys.length ha0 ha1 zm ys hf
    refine enter Try.func67 kz rfl kz rfl rfl rfl ?_
    (repeat' first|refine zcd ?_|intro K' hK|(with_reducible refine zn hK ?_;clear hK)|((with_reducible apply o_callF (g:=101) w_none);(case ha=>exact ez0);(case hs=>((with_reducible apply q);(exact (hL.set (Nat.le_refl _) _).more zm)));(case' hk=>rintro _ h' n' ⟨rfl,rfl,rfl⟩))|((with_reducible apply o_b2s (B:=n+50) b2T27_9 w_none);(case hy=>exact ez0);(case hr=>exact RdH.row zm);(case h0=>first|assumption|(intro h;cases h)))|((with_reducible first|apply zo1|apply zo2|apply o_guard rfl|apply x_cond|apply k_e1 rfl|apply k_e2 rfl|apply k_e0 rfl|apply k_e3 rfl|apply k_e4 rfl);(case he=>exact ez0);(try case hok=>exact ezO);all_goals try (intro hb;(try simp only [hbs,reduceCtorEq] at hb);try exact ezX))|((with_reducible apply o_undef rfl);(case hb=>exact ez0)))
    all_goals exact sw_flat rfl rfl ⟨rfl,rfl,rfl⟩
end
section
open Go.RowKit
variable (k d cl:Nat) (h:Hp) (n:Nat)
def wAt (T:List Tp) (r:Nat):List Int:=match r with|0=>zeros T.length|r+1=>wD T r
theorem wAt_succ (T:List Tp) (r:Nat):wAt T (r+1)=wRow (wAt T r) T:=by cases r <;> rfl
theorem wAt_bnd {T:List Tp} (hf:Fine T) (r:Nat):Bnd (wAt T r):=by cases r with|zero=>exact zeros_bnd _|succ r=>exact wD_bnd hf r
theorem wAt_length (T:List Tp) (r:Nat):(wAt T r).length=T.length:=by cases r with|zero=>simp [wAt,zeros]|succ r=>exact wD_length T r
theorem mk_zeros (m:Nat):(List.replicate m [Value.int IntKind.i64 0]).flatten=iv (zeros m):=by unfold iv zeros;rw [List.map_replicate];induction m with|zero=>rfl|succ m ih=>rw [List.replicate_succ,List.flatten_cons,ih,List.replicate_succ];rfl
theorem min_lt {a:Int}:(if 5001<a then (5001:Int) else a)=min a 5001:=by rw [Int.min_def];split <;> split <;> omega
theorem pwidths_ev (hk:30000≤k) (A:Option Addr) (T:List Tp) (c:Nat) (hT:TabH h n A T) (hl:T.length≤32) (hF:Fine T) :
  SQ k (d+1) cl 116 [.slice A T.length c] h n fun v h' n'=>v = .slice (some ⟨n,0,none⟩) T.length T.length∧h'=h.set n (.row 3 false (iv (wD T 3)))∧n'=n+1:=by
 refine enter Try.func116 kz rfl kz rfl rfl rfl ?_
 (repeat' first|refine zcd ?_|intro K' hK|(with_reducible refine zn hK ?_;clear hK)|fail|((with_reducible first|apply zo1|apply zo2|apply o_guard rfl|apply x_cond|apply k_e1 rfl|apply k_e2 rfl|apply k_e0 rfl|apply k_e3 rfl|apply k_e4 rfl);(case he=>exact ez1 @mk_zeros);(try case hok=>exact ezO);all_goals try (intro hb;(try simp only [hbs,reduceCtorEq] at hb);try exact ezX))|((with_reducible apply o_undef rfl);(case hb=>exact ez0)))
 refine x_loopV [3,4,5,6,7,9,13,14,15,16,17,18,19,20,21,22,23,24,25,26,27,28,29,30,31,32,33,34,35,36,37,38,39,40,41,42,43,44,45,46,47,48,49,50,51,52,53,54,55,56,57,58,59,60,61,62,63,64,65,66,67,68,69,70,71,72,73,74,75,76,77,78,79,80] [3,13] (fun m vs h' n'=>∃ (r id:Nat),m=4 - r∧r≤4∧vs=[.slice (some ⟨id,0,none⟩) T.length T.length,.int .i64 r]∧n≤id∧id<n'∧rowOf h' id=some (3,false,iv (wAt T r))∧TabH h' n A T) 4 rfl zm ?_ ?_
 ·exact ⟨0,n,rfl,by omega,by simp (disch:=first|assumption|omega|rfl|decide) only [go_sem,seval,tys] <;> rfl,by omega,by omega,by simp (disch:=first|assumption|omega|rfl|decide) only [go_sem,seval,tys] <;> rfl,hT.set (Nat.le_refl _) _⟩
 ·rintro m g _ h' n' ⟨r,id,rfl,hr,rfl,hid0,hid1,q0,hT2⟩
  by_cases hr4:r<4
  ·have hBb:=wAt_bnd hF r
   have hBl:=wAt_length T r
   (repeat' first|refine zcd ?_|intro K' hK|(with_reducible refine zn hK ?_;clear hK)|fail|((with_reducible first|apply zo1|apply zo2|apply o_guard rfl|apply x_cond|apply k_e1 rfl|apply k_e2 rfl|apply k_e0 rfl|apply k_e3 rfl|apply k_e4 rfl);(case he=>exact ez1 @mk_zeros);(try case hok=>exact ezO);all_goals try (intro hb;(try simp only [hbs,reduceCtorEq] at hb);try exact ezX))|((with_reducible apply o_undef rfl);(case hb=>exact ez0)))
   refine x_loopV [5,6,7,9,20,21,22,23,24,25,26,27,28,29,30,31,32,33,34,35,36,37,38,39,40,41,42,43,44,45,46,47,48,49,50,51,52,53,54,55,56,57,58,59,60,61,62,63,64,65,66,67,68,69,70,71,72,73,74,75,76,77,78] [20] (fun m vs h2 n2=>∃ (i:Nat),m=T.length - i∧i≤T.length∧vs=[.int .i64 i]∧n'+1≤n2∧rowOf h2 id=some (3,false,iv (wAt T r))∧rowOf h2 n'=some (3,false,iv (pad (wAt T r) T i))∧TabH h2 n A T) T.length rfl zm ?_ ?_
   ·exact ⟨0,rfl,by omega,by simp (disch:=first|assumption|omega|rfl|decide) only [go_sem,seval,tys] <;> rfl,by omega,by simp (disch:=first|assumption|omega|rfl|decide) only [go_sem,seval,tys,q0],by rw [pad_zero];simp (disch:=first|assumption|omega|rfl|decide) only [go_sem,seval,tys],hT2.set zm _⟩
   ·rintro m2 g2 _ h2 n2 ⟨i,rfl,hi,rfl,hn2,q1,q2,hT3⟩
    have e1:=fun o=>cellAt_row (off:=o) q1
    have e2:=fun o=>cellAt_row (off:=o) q2
    have w2:=rwOf_row q2
    by_cases hiT:i<T.length
    ·obtain ⟨tid,toff,hA,htid,ht4, -, -, -, -⟩:=hT3.at_ hiT
     have hfine:=hF i hiT
     have hnb:=wRow_bnd hBb hF i hi
     have hpl:=pad_length (wAt T r) hi
     have hwh:=wHead_bnd hBb hnb hfine
     have hsp:=pad_succ (wAt T r) hiT
     obtain ⟨t,htt⟩:∃ t,T[i]=t:=⟨_,rfl⟩
     have hmem:t∈T:=by rw [← htt];exact List.getElem_mem hiT
     rw [htt] at ht4 hfine hwh hsp
     have hfl:=fine_len hfine
     obtain ⟨now,hnow⟩:∃ now,wRow (wAt T r) (T.take i)=now:=⟨_,rfl⟩
     rw [hnow] at hnb hwh hsp
     have hel:(t.kd=4∨t.kd=7)→0≤t.el∧t.el<T.length:=fine_el hfine
     have har:t.kd=6→0≤t.el∧t.el<i∧1≤t.ln∧t.ln≤16:=fine_arr hfine
     have hxb:=hBb.getD t.el.toNat
     have hyb:=hnb.getD t.el.toNat
     have hbe4:t.kd=4→lget (iv (wAt T r)) t.el.toNat=some (.int .i64 ((wAt T r).getD t.el.toNat 0)):=fun h4=>iv_lget (by have:=hel (.inl h4);omega)
     have hbe7:t.kd=7→lget (iv (wAt T r)) t.el.toNat=some (.int .i64 ((wAt T r).getD t.el.toNat 0)):=fun h7=>iv_lget (by have:=hel (.inr h7);omega)
     have hne6:t.kd=6→lget (iv (pad (wAt T r) T i)) t.el.toNat=some (.int .i64 (now.getD t.el.toNat 0)):=fun h6=>by
      have:=har h6
      rw [iv_lget zm,pad_getD _ hi zm,hnow]
     have hmul:t.kd=6→0≤t.ln*now.getD t.el.toNat 0∧t.ln*now.getD t.el.toNat 0≤16*5001:=fun h6=>by
      have:=har h6
      exact ⟨Int.mul_nonneg zm hyb.1,Int.mul_le_mul this.2.2.2 hyb.2 hyb.1 zm⟩
     have hW4:t.kd=4→wHead (wAt T r) now t=1+(wAt T r).getD t.el.toNat 0:=fun h4=>by unfold wHead;rw [if_pos h4]
     have hW7:t.kd=7→wHead (wAt T r) now t=1+16*(wAt T r).getD t.el.toNat 0:=fun h7=>by unfold wHead;rw [if_neg zm,if_pos h7]
     have hW6:t.kd=6→wHead (wAt T r) now t=1+t.ln*now.getD t.el.toNat 0:=fun h6=>by unfold wHead;rw [if_neg zm,if_neg zm,if_pos h6]
     have hW0:¬ t.kd=4 → ¬ t.kd=7 → ¬ t.kd=6→wHead (wAt T r) now t=1:=fun h4 h7 h6=>by unfold wHead;rw [if_neg h4,if_neg h7,if_neg h6];rfl
     subst hA
     have hb2:=hT3.fd t hmem
     (repeat' first|((with_reducible apply x_cutF (x:=.seq (.region 9 _ _) _) [7,25,26,27,28,29,30,31,32,33,34,35,36,37,38,39,40,41,42,43,44,45,46,47,48,49,50,51,52,53,54,55,56,57] [7] (fun vs=>vs=[.int .i64 (wHead (wAt T r) now t)]));(case hw=>kernel_rfl);(case' hy=>rintro g3 _ rfl))|((with_reducible apply k_cut);(show List.map _ _=_);first|(rw [hW4 (by assumption)];simp (disch:=first|assumption|omega|rfl|decide) only [go_sem,seval,tys] <;> rfl)|(rw [hW7 (by assumption)];simp (disch:=first|assumption|omega|rfl|decide) only [go_sem,seval,tys] <;> rfl)|(rw [hW6 (by assumption)];simp (disch:=first|assumption|omega|rfl|decide) only [go_sem,seval,tys] <;> rfl)|(rw [hW0 (by assumption) (by assumption) (by assumption)];simp (disch:=first|assumption|omega|rfl|decide) only [go_sem,seval,tys] <;> rfl))|refine zcd ?_|intro K' hK|(with_reducible refine zn hK ?_;clear hK)|(with_reducible refine x_drawnD (id:=15) [(2,5),(2,7)] kz fun K' hK=>?_)|((with_reducible apply d_nil);(case hp=>exact ezP);(case' hx=>(refine hK _ _ _ ?_;clear hK)))|((with_reducible apply d_pure w_none);(case hp=>exact rfl);(case hc=>exact rfl);(case he=>exact ez6 ht4 e1 e2 hbe4 hbe7 hne6))|((with_reducible apply d_eff w_none);(case hc=>exact rfl);(case he=>exact ez6 ht4 e1 e2 hbe4 hbe7 hne6);(case hok=>exact ezO))|((with_reducible apply d_guard rfl);(case hb=>exact ez6 ht4 e1 e2 hbe4 hbe7 hne6);(case' h1=>intro hb;(try simp only [hbs,reduceCtorEq] at hb);try exact ezX);(case' h2=>intro hb;(try simp only [hbs,reduceCtorEq] at hb);try exact ezX))|((with_reducible first|apply zo1|apply zo2|apply o_guard rfl|apply x_cond|apply k_e1 rfl|apply k_e2 rfl|apply k_e0 rfl|apply k_e3 rfl|apply k_e4 rfl);(case he=>exact ez6 ht4 e1 e2 hbe4 hbe7 hne6);(try case hok=>exact ezO);all_goals try (intro hb;(try simp only [hbs,reduceCtorEq] at hb);try exact ezX))|((with_reducible apply o_undef rfl);(case hb=>exact ez0)))
     refine x_loopV [7,9,61,62,63,64,65,66,67,68,69,70,71,72] [7,61] (fun m vs h3 n3=>∃ (q:Nat),m=t.fs.length - q∧q≤t.fs.length∧vs=[.int .i64 (wHead (wAt T r) now t+sumF now (t.fs.take q)),.int .i64 q]∧n2+1≤n3∧rowOf h3 id=some (3,false,iv (wAt T r))∧rowOf h3 n'=some (3,false,iv (pad (wAt T r) T i))∧TabH h3 n (some ⟨tid,toff,none⟩) T) t.fs.length rfl zm ?_ ?_
     ·exact ⟨0,rfl,by omega,by simp (disch:=first|assumption|omega|rfl|decide) only [go_sem,seval,tys];simp [sumF],by omega,by simp (disch:=first|assumption|omega|rfl|decide) only [go_sem,seval,tys,q1],by simp (disch:=first|assumption|omega|rfl|decide) only [go_sem,seval,tys,q2],hT3.set zm _⟩
     ·rintro m3 g4 _ h3 n3 ⟨q,rfl,hq,rfl,hn3,p1,p2,hT4⟩
      have f2:=fun o=>cellAt_row (off:=o) p2
      have v2:=rwOf_row p2
      have hsq:=sumF_bnd hnb (t.fs.take q)
      have hql:(t.fs.take q).length≤8:=by rw [List.length_take];omega
      by_cases hqf:q<t.fs.length
      ·obtain ⟨id2,off2,hFA,hid2,hf2, -, -⟩:=fld_at (hT4.fd t hmem) hqf
       have hfd:=fine_fld hfine hqf
       have hst:=sumF_take now hqf
       obtain ⟨ty,hty⟩:∃ ty,(t.fs[q]).2=ty:=⟨_,rfl⟩
       rw [hty] at hf2 hfd hst
       have hzb:=hnb.getD ty.toNat
       have hfe:lget (iv (pad (wAt T r) T i)) ty.toNat=some (.int .i64 (now.getD ty.toNat 0)):=by rw [iv_lget zm,pad_getD _ hi zm,hnow]
       (repeat' first|refine zcd ?_|intro K' hK|(with_reducible refine zn hK ?_;clear hK)|fail|((with_reducible first|apply zo1|apply zo2|apply o_guard rfl|apply x_cond|apply k_e1 rfl|apply k_e2 rfl|apply k_e0 rfl|apply k_e3 rfl|apply k_e4 rfl);(case he=>exact ez4 hFA hf2 f2 hfe);(try case hok=>exact ezO);all_goals try (intro hb;(try simp only [hbs,reduceCtorEq] at hb);try exact ezX))|((with_reducible apply o_undef rfl);(case hb=>exact ez0)))
       refine k_round (t.fs.length - (q+1)) zm ⟨q+1,rfl,by omega,by rw [hst];simp (disch:=first|assumption|omega|rfl|decide) only [go_sem,seval,tys];rw [Int.add_assoc];exact rfl,by omega,by simp (disch:=first|assumption|omega|rfl|decide) only [go_sem,seval,tys,p1],by simp (disch:=first|assumption|omega|rfl|decide) only [go_sem,seval,tys,p2],hT4.set zm _⟩
      ·obtain rfl:q=t.fs.length:=by omega
       rw [List.take_length]
       rw [List.take_length] at hsq
       have hov:∀ v,overAt i [v] (iv (pad (wAt T r) T i))=some ((iv (pad (wAt T r) T i)).set i v):=fun v=>overAt_one (by rw [iv_length,hpl];exact hiT)
       have hwo:min (wHead (wAt T r) now t+sumF now t.fs) 5001=wOne (wAt T r) now t:=rfl
       (repeat' first|refine zcd ?_|intro K' hK|(with_reducible refine zn hK ?_;clear hK)|fail|((with_reducible first|apply zo1|apply zo2|apply o_guard rfl|apply x_cond|apply k_e1 rfl|apply k_e2 rfl|apply k_e0 rfl|apply k_e3 rfl|apply k_e4 rfl);(case he=>exact ez2 v2 hov);(try case hok=>exact ezO);all_goals try (intro hb;(try simp only [hbs,reduceCtorEq] at hb);try exact ezX))|((with_reducible apply o_undef rfl);(case hb=>exact ez0)))
       refine k_round (T.length - (i+1)) zm ⟨i+1,rfl,by omega,by simp (disch:=first|assumption|omega|rfl|decide) only [go_sem,seval,tys] <;> rfl,by omega,by simp (disch:=first|assumption|omega|rfl|decide) only [go_sem,seval,tys,p1],by simp (disch:=first|assumption|omega|rfl|decide) only [go_sem,seval,tys];rw [min_lt,hwo,iv_set,hsp],hT4.set zm _⟩
    ·obtain rfl:i=T.length:=by omega
     rw [pad_all,← wAt_succ] at q2
     (repeat' first|refine zcd ?_|intro K' hK|(with_reducible refine zn hK ?_;clear hK)|fail|((with_reducible first|apply zo1|apply zo2|apply o_guard rfl|apply x_cond|apply k_e1 rfl|apply k_e2 rfl|apply k_e0 rfl|apply k_e3 rfl|apply k_e4 rfl);(case he=>exact ez0);(try case hok=>exact ezO);all_goals try (intro hb;(try simp only [hbs,reduceCtorEq] at hb);try exact ezX))|((with_reducible apply o_undef rfl);(case hb=>exact ez0)))
     refine k_round (4 - (r+1)) zm ⟨r+1,n',rfl,by omega,by simp (disch:=first|assumption|omega|rfl|decide) only [go_sem,seval,tys] <;> rfl,by omega,by omega,q2,hT3⟩
  ·obtain rfl:r=4:=by omega
   (repeat' first|refine zcd ?_|intro K' hK|(with_reducible refine zn hK ?_;clear hK)|fail|((with_reducible first|apply zo1|apply zo2|apply o_guard rfl|apply x_cond|apply k_e1 rfl|apply k_e2 rfl|apply k_e0 rfl|apply k_e3 rfl|apply k_e4 rfl);(case he=>exact ez0);(try case hok=>exact ezO);all_goals try (intro hb;(try simp only [hbs,reduceCtorEq] at hb);try exact ezX))|((with_reducible apply o_undef rfl);(case hb=>exact ez0)))
   refine sw_row ezI rfl zm (by simp (disch:=first|assumption|omega|rfl|decide) only [go_sem,seval,tys,q0];exact rfl) (iv_idA _ _) ezR ?_
   exact ⟨rfl,rfl,rfl⟩
end
end Go.Proofs.Ytcpkdjikembpnaa.Ce
