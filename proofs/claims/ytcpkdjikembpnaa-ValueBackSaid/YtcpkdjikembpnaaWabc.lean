/- Parts of the proof of ValueBack: Ix, Iy. No condition of its own. -/
import Derived.Test.YtcpkdjikembpnaaWaaz
import Derived.Test.YtcpkdjikembpnaaWabb
set_option linter.unusedVariables false
set_option linter.unusedSimpArgs false
set_option maxRecDepth 1000000
set_option maxHeartbeats 4000000
namespace Go.Proofs.Ytcpkdjikembpnaa.Ce
section
open Go.RowKit
variable (k:Nat)
theorem rcut_ev (hk:30000≤k):∀ (N:Nat) (v:V) (dp:Int),Bd N v→0≤dp→dp≤1000→∀ (d cl:Nat) (h:Hp) (n:Nat) (cs:List Value),VH h n v cs →
  SQ k (d+N) cl 30 [.agg ⟨cs⟩,.int .i64 dp] h n (FhV (cutV N v dp.toNat) h n):=by
 intro N
 induction N with
 | zero=>intro v dp hb;exact hb.elim
 | succ N ih=>
 intro v dp hb hd0 hd1 d cl h n cs hv
 rw [show d+(N+1)=d+N+1 from by omega]
 obtain ⟨A1,cc1,rfl,hA1,hl1⟩:=hv.cut
 obtain ⟨vk,vi,vt,l,vc⟩:=v
 simp only [V.kd,V.i,V.s,V.l,V.c] at hl1 hv ⊢
 obtain ⟨hlen,hbl⟩:=hb
 have hlen:l.length≤20000:=hlen
 have hbl:∀ w∈l,Bd N w:=hbl
 by_cases k47:vk=4∨vk=7
 ·by_cases hd:dp=0
  ·subst hd
   have e:cutV (N+1) (.mk vk vi vt l vc) (0:Int).toNat = .mk vk vi vt [] (decide (0<l.length)):=by rw [cutV,if_pos k47];rfl
   rw [e]
   have e2:decide ((l.length:Int)>0)=decide (0<l.length):=by simp
   have e3:decide (0<(l.length:Int))=decide (0<l.length):=by simp
   rcases k47 with k4|k7
   all_goals
    refine enter Try.func30 kz rfl kz rfl rfl rfl ?_
    (repeat' first|refine zcd ?_|intro K' hK|(with_reducible refine zn hK ?_;clear hK)|fail|((with_reducible first|apply zo1|apply zo2|apply o_guard rfl|apply x_cond|apply k_e1 rfl|apply k_e2 rfl|apply k_e0 rfl|apply k_e3 rfl|apply k_e4 rfl);(case he=>exact ez2 e2 e3);(try case hok=>exact ezO);all_goals try (intro hb;(try simp only [hbs,reduceCtorEq] at hb);try exact ezX))|((with_reducible apply o_undef rfl);(case hb=>exact ez0)))
    all_goals exact sw_flat rfl rfl ⟨_,rfl,.leaf _ vi vt _,Nat.le_refl _,fun _ _=>rfl⟩
  ·have e:cutV (N+1) (.mk vk vi vt l vc) dp.toNat = .mk vk vi vt (l.map fun e=>cutV N e (dp - 1).toNat) false:=by
    rw [cutV,if_pos k47,if_neg zm,show dp.toNat - 1=(dp - 1).toNat from by omega]
   rw [e]
   obtain ⟨zs,hzs⟩:∃ zs,l.map (fun e=>cutV N e (dp - 1).toNat)=zs:=⟨_,rfl⟩
   rw [hzs]
   rcases k47 with k4|k7
   all_goals
    refine enter Try.func30 kz rfl kz rfl rfl rfl ?_
    (repeat' first|refine zcd ?_|intro K' hK|(with_reducible refine zn hK ?_;clear hK)|fail|((with_reducible first|apply zo1|apply zo2|apply o_guard rfl|apply x_cond|apply k_e1 rfl|apply k_e2 rfl|apply k_e0 rfl|apply k_e3 rfl|apply k_e4 rfl);(case he=>exact ez0);(try case hok=>exact ezO);all_goals try (intro hb;(try simp only [hbs,reduceCtorEq] at hb);try exact ezX))|((with_reducible apply o_undef rfl);(case hb=>exact ez0)))
    have hzl:zs.length=l.length:=by rw [← hzs,List.length_map]
    refine x_loopV [6,32,33,34,35,36,37,38,39,40,41,42,43,44,45,46,47,48,49,50] [6] (fun r vs h5 n5=>∃ (q:Nat) (acc:List V) (O:Value),r=l.length - q∧q≤l.length∧vs=[.int .i64 q]∧n+3≤n5∧(∀ b,b<n→h5.get b=h.get b)∧rowOf h5 n=some (32,false,vcell vk vi vt A1 l.length cc1 vc)∧rowOf h5 (n+1)=some (32,false,vcell 0 0 [] none 0 0 false)∧rowOf h5 (n+2)=some (32,false,[.int .u8 vk,.int .i64 vi,.string ⟨⟨vt⟩⟩,O,.bool false])∧acc.length=q∧OwnV acc O h5 (n+3) n5∧acc=zs.take q) l.length rfl zm ?_ ?_
    ·exact ⟨0,[],.slice none 0 0,rfl,by omega,ez0,Nat.le_refl _,ezN,ez0,ez0,ez0,rfl,.inl ⟨rfl,rfl⟩,by simp⟩
    ·rintro r g1 _ h5 n5 ⟨q,acc,O,rfl,hq,rfl,hn5,hkp,r3,r4,r5,hal,hO,hacc⟩
     have f3:=cellAt_row (off:=3) r5
     have g3:=cellAt_row (off:=3) r3
     by_cases hqp:q<l.length
     ·obtain ⟨id,off,A2,cc2,rfl,hid,c1,v1⟩:=(hl1.keep (Nat.le_refl _) hkp).at_ hqp
      have hzq:zs.take (q+1)=zs.take q ++ [cutV N l[q] (dp - 1).toNat]:=by
       rw [List.take_succ_eq_append_getElem zm]
       congr 2
       rw [List.getElem_of_eq hzs.symm,List.getElem_map]
      have hb1:=hbl _ (List.getElem_mem hqp)
      obtain ⟨w,hw⟩:∃ w,l[q]=w:=⟨_,rfl⟩
      simp only [hw] at c1 v1 hzq hb1
      obtain ⟨xv,hxv⟩:∃ xv,cutV N w (dp - 1).toNat=xv:=⟨_,rfl⟩
      rw [hxv] at hzq
      have q1:=fun (cl:Nat) (h6:Hp) (n6:Nat) (hv6:VH h6 n6 w (vcell w.kd w.i w.s A2 w.l.length cc2 w.c))=>(ih w (dp - 1) hb1 zm zm d cl h6 n6 _ hv6).mono (Φ':=fun v h' n'=>∃ A1 cc1,v = .agg ⟨vcell xv.kd xv.i xv.s A1 xv.l.length cc1 xv.c⟩∧FH h' n6 n' xv (vcell xv.kd xv.i xv.s A1 xv.l.length cc1 xv.c)∧n6≤n'∧∀ b,b<n6→h'.get b=h6.get b) fun v h' n' ⟨cs,e1,hf,a,b⟩=>by
       rw [hxv] at hf
       obtain ⟨A1,cc1,rfl⟩:=hf.cells
       exact ⟨A1,cc1,e1,hf,a,b⟩
      rcases hO with ⟨rfl,rfl⟩|⟨hne,id2,rows,j1,j2,rfl,q4,hrl,hkk⟩
      ·(repeat' first|refine zcd ?_|intro K' hK|(with_reducible refine zn hK ?_;clear hK)|(with_reducible refine x_drawnD (id:=10) [(1,3),(1,6),(1,8)] kz fun K' hK=>?_)|((with_reducible apply d_nil);(case hp=>exact ezP);(case' hx=>(refine hK _ _ _ ?_;clear hK)))|((with_reducible apply d_pure w_none);(case hp=>exact rfl);(case hc=>exact rfl);(case he=>exact ez3 f3 g3 c1))|((with_reducible apply d_eff w_none);(case hc=>exact rfl);(case he=>exact ez3 f3 g3 c1);(case hok=>exact ezO))|((with_reducible apply d_guard rfl);(case hb=>exact ez3 f3 g3 c1);(case' h1=>intro hb;(try simp only [hbs,reduceCtorEq] at hb);try exact ezX);(case' h2=>intro hb;(try simp only [hbs,reduceCtorEq] at hb);try exact ezX))|((with_reducible apply d_callN (g:=30) w_none);(case hs0=>exact rfl);(case ha=>exact ez0);(case hs=>((with_reducible apply q1);(exact v1.more zm)));(case' hk=>rintro _ h' n' ⟨A3,cc3,rfl,hfx,hn6,hk6⟩))|((with_reducible first|apply zo1|apply zo2|apply o_guard rfl|apply x_cond|apply k_e1 rfl|apply k_e2 rfl|apply k_e0 rfl|apply k_e3 rfl|apply k_e4 rfl);(case he=>exact ez3 f3 g3 c1);(try case hok=>exact ezO);all_goals try (intro hb;(try simp only [hbs,reduceCtorEq] at hb);try exact ezX))|((with_reducible apply o_undef rfl);(case hb=>exact ez0)))
       have r5n:rowOf h' (n+2)=some (32,false,[.int .u8 vk,.int .i64 vi,.string ⟨⟨vt⟩⟩,.slice none 0 0,.bool false]):=by
        rw [rowOf_keep (hk6 _ zm)]
        exact r5
       have w5:=rwOf_row r5n
       have f5:=cellAt_row (off:=3) r5n
       (repeat' first|refine zcd ?_|intro K' hK|(with_reducible refine zn hK ?_;clear hK)|((with_reducible apply d_nil);(case hp=>exact ezP);(case' hx=>(refine hK _ _ _ ?_;clear hK)))|((with_reducible apply d_pure w_none);(case hp=>exact rfl);(case hc=>exact rfl);(case he=>exact ez2 w5 f5))|((with_reducible apply d_eff w_none);(case hc=>exact rfl);(case he=>exact ez2 w5 f5);(case hok=>exact ezO))|((with_reducible apply d_guard rfl);(case hb=>exact ez2 w5 f5);(case' h1=>intro hb;(try simp only [hbs,reduceCtorEq] at hb);try exact ezX);(case' h2=>intro hb;(try simp only [hbs,reduceCtorEq] at hb);try exact ezX))|((with_reducible apply d_ap0 (t:=30) apT30 w_none);(case hs=>exact ez1 w5);(case hy=>exact ez0);(case hsrc=>exact src_row (rowOf_same _ _ _ _ _) rfl);(case hc=>exact rfl);(case hm=>omega);(case h0=>omega);(case' hx=>intro rd))|((with_reducible first|apply zo1|apply zo2|apply o_guard rfl|apply x_cond|apply k_e1 rfl|apply k_e2 rfl|apply k_e0 rfl|apply k_e3 rfl|apply k_e4 rfl);(case he=>exact ez2 w5 f5);(try case hok=>exact ezO);all_goals try (intro hb;(try simp only [hbs,reduceCtorEq] at hb);try exact ezX))|((with_reducible apply o_undef rfl);(case hb=>exact ez0)))
       have hq0:q=0:=hal.symm
       subst hq0
       refine k_round (l.length - 1) zm ⟨1,[xv],.slice (some ⟨n'+1,0,none⟩) 1 1,rfl,by omega,ez0,by omega,(ezC hk6 hkp),(ezV hk6 r3),(ezV hk6 r4),ez0,rfl,.inr ⟨by simp,n'+1,vcell xv.kd xv.i xv.s A3 xv.l.length cc3 xv.c,by omega,by omega,rfl,(by (repeat rw [rowOf_ne _ _ zm]);exact rowOf_same _ _ _ _ _),rfl,fun j hj=>?_⟩,?_⟩
       ·have hj0:j=0:=by simp at hj;omega
        subst hj0
        exact (hfx.keep zm zm fun b hb1 hb2=>by (repeat rw [Hp.get_ne _ _ zm]))
       ·simpa using hzq.symm
      ·(repeat' first|refine zcd ?_|intro K' hK|(with_reducible refine zn hK ?_;clear hK)|(with_reducible refine x_drawnD (id:=10) [(1,3),(1,6),(1,8)] kz fun K' hK=>?_)|((with_reducible apply d_nil);(case hp=>exact ezP);(case' hx=>(refine hK _ _ _ ?_;clear hK)))|((with_reducible apply d_pure w_none);(case hp=>exact rfl);(case hc=>exact rfl);(case he=>exact ez3 f3 g3 c1))|((with_reducible apply d_eff w_none);(case hc=>exact rfl);(case he=>exact ez3 f3 g3 c1);(case hok=>exact ezO))|((with_reducible apply d_guard rfl);(case hb=>exact ez3 f3 g3 c1);(case' h1=>intro hb;(try simp only [hbs,reduceCtorEq] at hb);try exact ezX);(case' h2=>intro hb;(try simp only [hbs,reduceCtorEq] at hb);try exact ezX))|((with_reducible apply d_callN (g:=30) w_none);(case hs0=>exact rfl);(case ha=>exact ez0);(case hs=>((with_reducible apply q1);(exact v1.more zm)));(case' hk=>rintro _ h' n' ⟨A3,cc3,rfl,hfx,hn6,hk6⟩))|((with_reducible first|apply zo1|apply zo2|apply o_guard rfl|apply x_cond|apply k_e1 rfl|apply k_e2 rfl|apply k_e0 rfl|apply k_e3 rfl|apply k_e4 rfl);(case he=>exact ez3 f3 g3 c1);(try case hok=>exact ezO);all_goals try (intro hb;(try simp only [hbs,reduceCtorEq] at hb);try exact ezX))|((with_reducible apply o_undef rfl);(case hb=>exact ez0)))
       have r5n:rowOf h' (n+2)=some (32,false,[.int .u8 vk,.int .i64 vi,.string ⟨⟨vt⟩⟩,.slice (some ⟨id2,0,none⟩) acc.length acc.length,.bool false]):=by
        rw [rowOf_keep (hk6 _ zm)]
        exact r5
       have w5:=rwOf_row r5n
       have f5:=cellAt_row (off:=3) r5n
       have w4:=rwOf_row (show rowOf h' id2=_ from by rw [rowOf_keep (hk6 _ j2)];exact q4)
       have htw:rows.take (acc.length*5)=rows:=List.take_of_length_le zm
       (repeat' first|refine zcd ?_|intro K' hK|(with_reducible refine zn hK ?_;clear hK)|((with_reducible apply d_nil);(case hp=>exact ezP);(case' hx=>(refine hK _ _ _ ?_;clear hK)))|((with_reducible apply d_pure w_none);(case hp=>exact rfl);(case hc=>exact rfl);(case he=>exact ez3 w5 f5 w4))|((with_reducible apply d_eff w_none);(case hc=>exact rfl);(case he=>exact ez3 w5 f5 w4);(case hok=>exact ezO))|((with_reducible apply d_guard rfl);(case hb=>exact ez3 w5 f5 w4);(case' h1=>intro hb;(try simp only [hbs,reduceCtorEq] at hb);try exact ezX);(case' h2=>intro hb;(try simp only [hbs,reduceCtorEq] at hb);try exact ezX))|((with_reducible apply d_apR (t:=30) apT30 w_none);(case hs=>exact ez2 w5 w4);(case hy=>exact ez2 w5 w4);(case hsrc=>exact src_row (rowOf_same _ _ _ _ _) rfl);(case hr=>exact ez2 w5 w4);(case hc=>exact rfl);(case hm=>omega);(case hli=>omega);(case hln=>omega);(case hcs=>rw [hrl];omega);(case' hx=>intro rd))|((with_reducible first|apply zo1|apply zo2|apply o_guard rfl|apply x_cond|apply k_e1 rfl|apply k_e2 rfl|apply k_e0 rfl|apply k_e3 rfl|apply k_e4 rfl);(case he=>exact ez3 w5 f5 w4);(try case hok=>exact ezO);all_goals try (intro hb;(try simp only [hbs,reduceCtorEq] at hb);try exact ezX))|((with_reducible apply o_undef rfl);(case hb=>exact ez0)))
       have hnew:=fun (H:Hp) (e1:∀ b,n+3≤b→b<id2→H.get b=h'.get b) (e2:∀ b,n5≤b→b<n'→H.get b=h'.get b)=>rows_snoc (h:=H) (lo:=n+3) (hi:=n'+1) (x:=xv) hrl (fun j hj=>(hkk j hj).keep (Nat.le_refl _) zm fun b hb1 hb2=>by rw [e1 b hb1 hb2];exact hk6 _ zm) (hfx.keep zm zm e2)
       refine k_round (l.length - (q+1)) zm ⟨q+1,acc ++ [xv],.slice (some ⟨n'+1,0,none⟩) (acc.length+1) (acc.length+1),rfl,by omega,ez0,by omega,(ezC hk6 hkp),(ezV hk6 r3),(ezV hk6 r4),ez0,by rw [List.length_append,hal];rfl,.inr ⟨by simp,n'+1,rows ++ vcell xv.kd xv.i xv.s A3 xv.l.length cc3 xv.c,by omega,by omega,by rw [List.length_append];rfl,(ez1 htw),(hnew h' (fun _ _ _=>rfl) fun _ _ _=>rfl).1,(hnew _ ezN fun b hb1 hb2=>by (repeat rw [Hp.get_ne _ _ zm])).2⟩,?_⟩
       rw [hzq,← hacc]
     ·obtain rfl:q=l.length:=by omega
      obtain rfl:acc=zs:=by rw [hacc];exact List.take_of_length_le zm
      have hf0:=fun H e=>((hO.fhs (h:=h5)).keep (h':=H) (Nat.le_refl _) (Nat.le_refl _) e).val vk vi vt false
      have f05:=cellsAt_row (off:=0) (k:=5) r5
      have w40:rwOf h5 (n+1)=some (32,[.int .u8 0,.int .i64 0,.string ⟨⟨[]⟩⟩,.slice none 0 0,.bool false]):=rwOf_row r4
      have hsl:∃ A l c,O = .slice A l c:=by
       rcases hO with ⟨-,rfl⟩|⟨-,id,rows, -, -,rfl, -⟩ <;> exact ⟨_,_,_,rfl⟩
      obtain ⟨OA,ol,oc,rfl⟩:=hsl
      (repeat' first|refine zcd ?_|intro K' hK|(with_reducible refine zn hK ?_;clear hK)|fail|((with_reducible first|apply zo1|apply zo2|apply o_guard rfl|apply x_cond|apply k_e1 rfl|apply k_e2 rfl|apply k_e0 rfl|apply k_e3 rfl|apply k_e4 rfl);(case he=>exact ez3 f05 w40 g3);(try case hok=>exact ezO);all_goals try (intro hb;(try simp only [hbs,reduceCtorEq] at hb);try exact ezX))|((with_reducible apply o_undef rfl);(case hb=>exact ez0)))
      exact sw_fh1 ((hf0 _ fun b a c=>Hp.get_ne _ _ zm).more zm (Nat.le_refl _)) zm (ezB hkp) fun cs2 h2 n2 a b c=>⟨cs2,rfl,a,b,c⟩
 ·have e:cutV (N+1) (.mk vk vi vt l vc) dp.toNat = .mk vk vi vt (l.map fun e=>cutV N e dp.toNat) false:=by rw [cutV,if_neg k47]
  rw [e]
  obtain ⟨zs,hzs⟩:∃ zs,l.map (fun e=>cutV N e dp.toNat)=zs:=⟨_,rfl⟩
  rw [hzs]
  refine enter Try.func30 kz rfl kz rfl rfl rfl ?_
  (repeat' first|refine zcd ?_|intro K' hK|(with_reducible refine zn hK ?_;clear hK)|fail|((with_reducible first|apply zo1|apply zo2|apply o_guard rfl|apply x_cond|apply k_e1 rfl|apply k_e2 rfl|apply k_e0 rfl|apply k_e3 rfl|apply k_e4 rfl);(case he=>exact ez0);(try case hok=>exact ezO);all_goals try (intro hb;(try simp only [hbs,reduceCtorEq] at hb);try exact ezX))|((with_reducible apply o_undef rfl);(case hb=>exact ez0)))
  have hzl:zs.length=l.length:=by rw [← hzs,List.length_map]
  refine x_loopV [6,32,33,34,35,36,37,38,39,40,41,42,43,44,45,46,47,48,49,50] [6] (fun r vs h5 n5=>∃ (q:Nat) (acc:List V) (O:Value),r=l.length - q∧q≤l.length∧vs=[.int .i64 q]∧n+3≤n5∧(∀ b,b<n→h5.get b=h.get b)∧rowOf h5 n=some (32,false,vcell vk vi vt A1 l.length cc1 vc)∧rowOf h5 (n+1)=some (32,false,vcell 0 0 [] none 0 0 false)∧rowOf h5 (n+2)=some (32,false,[.int .u8 vk,.int .i64 vi,.string ⟨⟨vt⟩⟩,O,.bool false])∧acc.length=q∧OwnV acc O h5 (n+3) n5∧acc=zs.take q) l.length rfl zm ?_ ?_
  ·exact ⟨0,[],.slice none 0 0,rfl,by omega,ez0,Nat.le_refl _,ezN,ez0,ez0,ez0,rfl,.inl ⟨rfl,rfl⟩,by simp⟩
  ·rintro r g1 _ h5 n5 ⟨q,acc,O,rfl,hq,rfl,hn5,hkp,r3,r4,r5,hal,hO,hacc⟩
   have f3:=cellAt_row (off:=3) r5
   have g3:=cellAt_row (off:=3) r3
   by_cases hqp:q<l.length
   ·obtain ⟨id,off,A2,cc2,rfl,hid,c1,v1⟩:=(hl1.keep (Nat.le_refl _) hkp).at_ hqp
    have hzq:zs.take (q+1)=zs.take q ++ [cutV N l[q] (dp).toNat]:=by
     rw [List.take_succ_eq_append_getElem zm]
     congr 2
     rw [List.getElem_of_eq hzs.symm,List.getElem_map]
    have hb1:=hbl _ (List.getElem_mem hqp)
    obtain ⟨w,hw⟩:∃ w,l[q]=w:=⟨_,rfl⟩
    simp only [hw] at c1 v1 hzq hb1
    obtain ⟨xv,hxv⟩:∃ xv,cutV N w (dp).toNat=xv:=⟨_,rfl⟩
    rw [hxv] at hzq
    have q1:=fun (cl:Nat) (h6:Hp) (n6:Nat) (hv6:VH h6 n6 w (vcell w.kd w.i w.s A2 w.l.length cc2 w.c))=>(ih w (dp) hb1 zm zm d cl h6 n6 _ hv6).mono (Φ':=fun v h' n'=>∃ A1 cc1,v = .agg ⟨vcell xv.kd xv.i xv.s A1 xv.l.length cc1 xv.c⟩∧FH h' n6 n' xv (vcell xv.kd xv.i xv.s A1 xv.l.length cc1 xv.c)∧n6≤n'∧∀ b,b<n6→h'.get b=h6.get b) fun v h' n' ⟨cs,e1,hf,a,b⟩=>by
     rw [hxv] at hf
     obtain ⟨A1,cc1,rfl⟩:=hf.cells
     exact ⟨A1,cc1,e1,hf,a,b⟩
    rcases hO with ⟨rfl,rfl⟩|⟨hne,id2,rows,j1,j2,rfl,q4,hrl,hkk⟩
    ·(repeat' first|refine zcd ?_|intro K' hK|(with_reducible refine zn hK ?_;clear hK)|(with_reducible refine x_drawnD (id:=10) [(1,3),(1,6),(1,8)] kz fun K' hK=>?_)|((with_reducible apply d_nil);(case hp=>exact ezP);(case' hx=>(refine hK _ _ _ ?_;clear hK)))|((with_reducible apply d_pure w_none);(case hp=>exact rfl);(case hc=>exact rfl);(case he=>exact ez3 f3 g3 c1))|((with_reducible apply d_eff w_none);(case hc=>exact rfl);(case he=>exact ez3 f3 g3 c1);(case hok=>exact ezO))|((with_reducible apply d_guard rfl);(case hb=>exact ez3 f3 g3 c1);(case' h1=>intro hb;(try simp only [hbs,reduceCtorEq] at hb);try exact ezX);(case' h2=>intro hb;(try simp only [hbs,reduceCtorEq] at hb);try exact ezX))|((with_reducible apply d_callN (g:=30) w_none);(case hs0=>exact rfl);(case ha=>exact ez0);(case hs=>((with_reducible apply q1);(exact v1.more zm)));(case' hk=>rintro _ h' n' ⟨A3,cc3,rfl,hfx,hn6,hk6⟩))|((with_reducible first|apply zo1|apply zo2|apply o_guard rfl|apply x_cond|apply k_e1 rfl|apply k_e2 rfl|apply k_e0 rfl|apply k_e3 rfl|apply k_e4 rfl);(case he=>exact ez3 f3 g3 c1);(try case hok=>exact ezO);all_goals try (intro hb;(try simp only [hbs,reduceCtorEq] at hb);try exact ezX))|((with_reducible apply o_undef rfl);(case hb=>exact ez0)))
     have r5n:rowOf h' (n+2)=some (32,false,[.int .u8 vk,.int .i64 vi,.string ⟨⟨vt⟩⟩,.slice none 0 0,.bool false]):=by
      rw [rowOf_keep (hk6 _ zm)]
      exact r5
     have w5:=rwOf_row r5n
     have f5:=cellAt_row (off:=3) r5n
     (repeat' first|refine zcd ?_|intro K' hK|(with_reducible refine zn hK ?_;clear hK)|((with_reducible apply d_nil);(case hp=>exact ezP);(case' hx=>(refine hK _ _ _ ?_;clear hK)))|((with_reducible apply d_pure w_none);(case hp=>exact rfl);(case hc=>exact rfl);(case he=>exact ez2 w5 f5))|((with_reducible apply d_eff w_none);(case hc=>exact rfl);(case he=>exact ez2 w5 f5);(case hok=>exact ezO))|((with_reducible apply d_guard rfl);(case hb=>exact ez2 w5 f5);(case' h1=>intro hb;(try simp only [hbs,reduceCtorEq] at hb);try exact ezX);(case' h2=>intro hb;(try simp only [hbs,reduceCtorEq] at hb);try exact ezX))|((with_reducible apply d_ap0 (t:=30) apT30 w_none);(case hs=>exact ez1 w5);(case hy=>exact ez0);(case hsrc=>exact src_row (rowOf_same _ _ _ _ _) rfl);(case hc=>exact rfl);(case hm=>omega);(case h0=>omega);(case' hx=>intro rd))|((with_reducible first|apply zo1|apply zo2|apply o_guard rfl|apply x_cond|apply k_e1 rfl|apply k_e2 rfl|apply k_e0 rfl|apply k_e3 rfl|apply k_e4 rfl);(case he=>exact ez2 w5 f5);(try case hok=>exact ezO);all_goals try (intro hb;(try simp only [hbs,reduceCtorEq] at hb);try exact ezX))|((with_reducible apply o_undef rfl);(case hb=>exact ez0)))
     have hq0:q=0:=hal.symm
     subst hq0
     refine k_round (l.length - 1) zm ⟨1,[xv],.slice (some ⟨n'+1,0,none⟩) 1 1,rfl,by omega,ez0,by omega,(ezC hk6 hkp),(ezV hk6 r3),(ezV hk6 r4),ez0,rfl,.inr ⟨by simp,n'+1,vcell xv.kd xv.i xv.s A3 xv.l.length cc3 xv.c,by omega,by omega,rfl,(by (repeat rw [rowOf_ne _ _ zm]);exact rowOf_same _ _ _ _ _),rfl,fun j hj=>?_⟩,?_⟩
     ·have hj0:j=0:=by simp at hj;omega
      subst hj0
      exact (hfx.keep zm zm fun b hb1 hb2=>by (repeat rw [Hp.get_ne _ _ zm]))
     ·simpa using hzq.symm
    ·(repeat' first|refine zcd ?_|intro K' hK|(with_reducible refine zn hK ?_;clear hK)|(with_reducible refine x_drawnD (id:=10) [(1,3),(1,6),(1,8)] kz fun K' hK=>?_)|((with_reducible apply d_nil);(case hp=>exact ezP);(case' hx=>(refine hK _ _ _ ?_;clear hK)))|((with_reducible apply d_pure w_none);(case hp=>exact rfl);(case hc=>exact rfl);(case he=>exact ez3 f3 g3 c1))|((with_reducible apply d_eff w_none);(case hc=>exact rfl);(case he=>exact ez3 f3 g3 c1);(case hok=>exact ezO))|((with_reducible apply d_guard rfl);(case hb=>exact ez3 f3 g3 c1);(case' h1=>intro hb;(try simp only [hbs,reduceCtorEq] at hb);try exact ezX);(case' h2=>intro hb;(try simp only [hbs,reduceCtorEq] at hb);try exact ezX))|((with_reducible apply d_callN (g:=30) w_none);(case hs0=>exact rfl);(case ha=>exact ez0);(case hs=>((with_reducible apply q1);(exact v1.more zm)));(case' hk=>rintro _ h' n' ⟨A3,cc3,rfl,hfx,hn6,hk6⟩))|((with_reducible first|apply zo1|apply zo2|apply o_guard rfl|apply x_cond|apply k_e1 rfl|apply k_e2 rfl|apply k_e0 rfl|apply k_e3 rfl|apply k_e4 rfl);(case he=>exact ez3 f3 g3 c1);(try case hok=>exact ezO);all_goals try (intro hb;(try simp only [hbs,reduceCtorEq] at hb);try exact ezX))|((with_reducible apply o_undef rfl);(case hb=>exact ez0)))
     have r5n:rowOf h' (n+2)=some (32,false,[.int .u8 vk,.int .i64 vi,.string ⟨⟨vt⟩⟩,.slice (some ⟨id2,0,none⟩) acc.length acc.length,.bool false]):=by
      rw [rowOf_keep (hk6 _ zm)]
      exact r5
     have w5:=rwOf_row r5n
     have f5:=cellAt_row (off:=3) r5n
     have w4:=rwOf_row (show rowOf h' id2=_ from by rw [rowOf_keep (hk6 _ j2)];exact q4)
     have htw:rows.take (acc.length*5)=rows:=List.take_of_length_le zm
     (repeat' first|refine zcd ?_|intro K' hK|(with_reducible refine zn hK ?_;clear hK)|((with_reducible apply d_nil);(case hp=>exact ezP);(case' hx=>(refine hK _ _ _ ?_;clear hK)))|((with_reducible apply d_pure w_none);(case hp=>exact rfl);(case hc=>exact rfl);(case he=>exact ez3 w5 f5 w4))|((with_reducible apply d_eff w_none);(case hc=>exact rfl);(case he=>exact ez3 w5 f5 w4);(case hok=>exact ezO))|((with_reducible apply d_guard rfl);(case hb=>exact ez3 w5 f5 w4);(case' h1=>intro hb;(try simp only [hbs,reduceCtorEq] at hb);try exact ezX);(case' h2=>intro hb;(try simp only [hbs,reduceCtorEq] at hb);try exact ezX))|((with_reducible apply d_apR (t:=30) apT30 w_none);(case hs=>exact ez2 w5 w4);(case hy=>exact ez2 w5 w4);(case hsrc=>exact src_row (rowOf_same _ _ _ _ _) rfl);(case hr=>exact ez2 w5 w4);(case hc=>exact rfl);(case hm=>omega);(case hli=>omega);(case hln=>omega);(case hcs=>rw [hrl];omega);(case' hx=>intro rd))|((with_reducible first|apply zo1|apply zo2|apply o_guard rfl|apply x_cond|apply k_e1 rfl|apply k_e2 rfl|apply k_e0 rfl|apply k_e3 rfl|apply k_e4 rfl);(case he=>exact ez3 w5 f5 w4);(try case hok=>exact ezO);all_goals try (intro hb;(try simp only [hbs,reduceCtorEq] at hb);try exact ezX))|((with_reducible apply o_undef rfl);(case hb=>exact ez0)))
     have hnew:=fun (H:Hp) (e1:∀ b,n+3≤b→b<id2→H.get b=h'.get b) (e2:∀ b,n5≤b→b<n'→H.get b=h'.get b)=>rows_snoc (h:=H) (lo:=n+3) (hi:=n'+1) (x:=xv) hrl (fun j hj=>(hkk j hj).keep (Nat.le_refl _) zm fun b hb1 hb2=>by rw [e1 b hb1 hb2];exact hk6 _ zm) (hfx.keep zm zm e2)
     refine k_round (l.length - (q+1)) zm ⟨q+1,acc ++ [xv],.slice (some ⟨n'+1,0,none⟩) (acc.length+1) (acc.length+1),rfl,by omega,ez0,by omega,(ezC hk6 hkp),(ezV hk6 r3),(ezV hk6 r4),ez0,by rw [List.length_append,hal];rfl,.inr ⟨by simp,n'+1,rows ++ vcell xv.kd xv.i xv.s A3 xv.l.length cc3 xv.c,by omega,by omega,by rw [List.length_append];rfl,(ez1 htw),(hnew h' (fun _ _ _=>rfl) fun _ _ _=>rfl).1,(hnew _ ezN fun b hb1 hb2=>by (repeat rw [Hp.get_ne _ _ zm])).2⟩,?_⟩
     rw [hzq,← hacc]
   ·obtain rfl:q=l.length:=by omega
    obtain rfl:acc=zs:=by rw [hacc];exact List.take_of_length_le zm
    have hf0:=fun H e=>((hO.fhs (h:=h5)).keep (h':=H) (Nat.le_refl _) (Nat.le_refl _) e).val vk vi vt false
    have f05:=cellsAt_row (off:=0) (k:=5) r5
    have w40:rwOf h5 (n+1)=some (32,[.int .u8 0,.int .i64 0,.string ⟨⟨[]⟩⟩,.slice none 0 0,.bool false]):=rwOf_row r4
    have hsl:∃ A l c,O = .slice A l c:=by
     rcases hO with ⟨-,rfl⟩|⟨-,id,rows, -, -,rfl, -⟩ <;> exact ⟨_,_,_,rfl⟩
    obtain ⟨OA,ol,oc,rfl⟩:=hsl
    (repeat' first|refine zcd ?_|intro K' hK|(with_reducible refine zn hK ?_;clear hK)|fail|((with_reducible first|apply zo1|apply zo2|apply o_guard rfl|apply x_cond|apply k_e1 rfl|apply k_e2 rfl|apply k_e0 rfl|apply k_e3 rfl|apply k_e4 rfl);(case he=>exact ez3 f05 w40 g3);(try case hok=>exact ezO);all_goals try (intro hb;(try simp only [hbs,reduceCtorEq] at hb);try exact ezX))|((with_reducible apply o_undef rfl);(case hb=>exact ez0)))
    exact sw_fh1 ((hf0 _ fun b a c=>Hp.get_ne _ _ zm).more zm (Nat.le_refl _)) zm (ezB hkp) fun cs2 h2 n2 a b c=>⟨cs2,rfl,a,b,c⟩
end
section
open Go.RowKit
theorem cut_same {T:List Tp}:∀ (N t:Nat) (v:V) (D dp:Nat),OkV T t→fitP T N t v D=true→D≤dp→cutV N v dp=v:=by
 intro N
 induction N with
 | zero=>intro t v D dp _ _ _;rfl
 | succ N ih=>
 intro t v D dp ho hf hD
 obtain ⟨kd,i,s,l,c⟩:=v
 obtain ⟨e1,e2,f1,f2,f3,f47,f56⟩:=fitP_inv (List.getElem?_eq_getElem ho.lt) hf
 subst e2
 have hmap:∀ {g:V→V},(∀ e∈l,g e=e)→l.map g=l:=fun {g} h=>by
  rw [List.map_congr_left (g:=id) h,List.map_id]
 by_cases k47:kd=4∨kd=7
 ·obtain ⟨-, -, -, -,hfe⟩:=f47 k47
  obtain ⟨y,hy,hoy⟩:=ho.ptr zm
  rw [cutV,if_pos k47]
  by_cases hd:dp=0
  ·rw [if_pos hd]
   have hl:l=[]:=by
    cases l with
    | nil=>rfl
    | cons e l=>have:=(hfe e (List.mem_cons_self ..)).1;omega
   subst hl
   rfl
  ·rw [if_neg hd,hmap fun e he=>?_]
   have h3:=hfe e he
   rw [hy,Int.toNat_natCast] at h3
   exact ih y e (D - 1) (dp - 1) hoy h3.2 zm
 ·rw [cutV,if_neg k47,hmap fun e he=>?_]
  by_cases k123:kd=1∨kd=2∨kd=3
  ·have hl:l=[]:=by
    rcases k123 with k|k|k
    ·exact (f1 k).2.2
    ·exact (f2 k).2
    ·exact (f3 k).2.1
   subst hl
   cases he
  ·obtain ⟨-, -,hln,hfe⟩:=f56 ⟨by omega,by omega,by omega,by omega,by omega⟩
   obtain ⟨j,hj,rfl⟩:=List.getElem_of_mem he
   have hpl:=prt_len ho
   obtain ⟨y,hy, -,hoy, -⟩:=prt_in ho (q:=j) zm zm
   have hfj:=hfe j zm hj
   rw [hy,Int.toNat_natCast] at hfj
   exact ih y l[j] D dp hoy hfj hD
theorem Bd_cut:∀ (N:Nat) (v:V) (dp:Nat),Bd N v→Bd N (cutV N v dp)
 | 0,_,_,h=>h
 | N+1,.mk kd i s l c,dp,h=>by
  have hl:l.length≤20000:=h.1
  have hm:∀ w∈l,Bd N w:=h.2
  have hB:∀ (q:Nat) (c2:Bool),Bd (N+1) (.mk kd i s (l.map fun e=>cutV N e q) c2):=fun q c2=>by
   refine ⟨?_,fun w hw=>?_⟩
   ·show (l.map _).length≤20000
    rw [List.length_map];exact hl
   ·obtain ⟨e,he,rfl⟩:=List.mem_map.1 (show w∈l.map fun e=>cutV N e q from hw)
    exact Bd_cut N e q (hm e he)
  rw [cutV]
  split
  ·split
   ·exact ⟨Nat.zero_le _,fun w hw=>nomatch (show w∈([]:List V) from hw)⟩
   ·exact hB _ _
  ·exact hB _ _
theorem back_LoadR {T:List Tp} {t N:Nat} (hE:okE T t=0) (ho:OkV T t) {v:V} {hs:List UInt8} {r:List UInt8 × List UInt8} {lim:Int} (hf:fitP T N t v 3=true) (hI:VI N v) (hc:chkB 65536 hs.length lim=0) (hst:storeP T lim N hs t v = .ok r) (hal:allocE 65536 r.1.length r.2.length lim=0) {A:Option Addr} {c:Nat} {dp:Int} (hd:0≤dp∧dp≤3) :
  LoadR T [⟨65536,putL r.1 r.2,A,c⟩] (65536+r.1.length) t dp = .ok (cutV N v dp.toNat):=by
 have hT:=ho.chk.1
 have hlt:=ho.lt
 have hbd:=ho.bnd
 have hpos:=siz_pos (t+1) ho zm
 have hch:=chkB_ok hc
 have hok:=storeP_ok N t v 3 hs ho hf zm r hst
 have hgr:=storeP_grow N t v 3 hs ho hf hc
 rw [hst] at hgr
 have hc1:=chkB_ok hgr.2
 have hc2:=chkB_ok (put_chk hal)
 obtain ⟨m,hm⟩:=putL_eq r.1 r.2
 have hlen:(putL r.1 r.2).length=r.1.length+r.2.length+m:=by rw [hm,List.length_append,List.length_append,List.length_replicate]
 have hale:=(sizT_ok ho.chk ho.lt).2.2
 unfold LoadR
 rw [if_neg (not_not_intro hE),if_neg zm]
 have hL:lstE [(⟨65536,putL r.1 r.2,A,c⟩:Rg)]=0:=by
  have hcg:chkG (⟨65536,putL r.1 r.2,A,c⟩:Rg)=0:=by
   unfold chkG chkR basedB
   dsimp only
   rw [if_pos ⟨rfl,by omega⟩]
  unfold lstE
  rw [if_neg (by simp),if_neg (not_not_intro fun g hg=>by rw [List.mem_singleton.1 hg];exact hcg),if_neg]
  rintro ⟨i,j,hi,hj, -⟩
  simp at hi
  omega
 rw [if_neg (not_not_intro hL),Int.toNat_natCast]
 have hfs:fstI [(⟨65536,putL r.1 r.2,A,c⟩:Rg)] (65536+r.1.length) (sizT T t) 0=some 0:=by
  unfold fstI
  rw [if_pos]
  unfold inb
  simp only [decide_eq_true_eq]
  omega
 rw [hfs]
 dsimp only
 have ha:((65536+(r.1.length:Int)) % alnT T t)=0:=by
  unfold alnT
  rcases hale with h|h
  ·rw [h];omega
  ·rw [h];omega
 rw [if_neg (not_not_intro ha),List.getElem?_cons_zero]
 dsimp only
 rw [show ((65536:Int)+r.1.length - 65536).toNat=r.1.length from by omega]
 have hby:(((putL r.1 r.2).drop r.1.length).take (sizT T t).toNat)=r.2:=by
  rw [hm,List.append_assoc,List.drop_left,List.take_left' hok.1]
 rw [hby]
 exact round_trip hT N t v 3 hs r ho hf hI hc hst (putL r.1 r.2) (r.2 ++ List.replicate m 0) A c (by rw [hm,List.append_assoc]) 1000 dp.toNat zm
end
end Go.Proofs.Ytcpkdjikembpnaa.Ce
