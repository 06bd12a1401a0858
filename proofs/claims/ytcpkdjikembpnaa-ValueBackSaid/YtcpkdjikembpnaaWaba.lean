/- Parts of the proof of ValueBack: Hd, Ji, Jv, Jo, Mc, Mv. No condition of its own. -/
import Derived.Test.YtcpkdjikembpnaaWaal
import Derived.Test.YtcpkdjikembpnaaWaan
import Derived.Test.YtcpkdjikembpnaaWaao
import Derived.Test.YtcpkdjikembpnaaWaaq
import Derived.Test.YtcpkdjikembpnaaWaar
import Derived.Test.YtcpkdjikembpnaaWaas
import Derived.Test.YtcpkdjikembpnaaWaau
import Derived.Test.YtcpkdjikembpnaaWaav
import Derived.Test.YtcpkdjikembpnaaWaaz
set_option linter.unusedVariables false
set_option linter.unusedSimpArgs false
set_option maxRecDepth 1000000
set_option maxHeartbeats 4000000
namespace Go.Proofs.Ytcpkdjikembpnaa.Ce
section
open Go.RowKit
theorem OkV.at_eq {T:List Tp} {t:Nat} (ho:OkV T t):(eRow 1048576 T).at_ (t:Int)=(eRow 1000000 T).at_ (t:Int):=by
 have hl:=ho.lt
 exact ((ext_rel ho.chk.2.1).2 (t:Int) zm (by rw [eRow_length];omega)).big.2 ho.bnd.2
theorem OkV.lay_eq {T:List Tp} {t:Nat} (ho:OkV T t) (h5:(T[t]'ho.lt).kd=5):layR 1048576 (eRow 1048576 T) (T[t]'ho.lt).fs=layR 1000000 (eRow 1000000 T) (T[t]'ho.lt).fs:=by
 have hfl:=ho.fld h5
 have hfi:=ho.chk.2.1 t ho.lt
 have hlen:=fine_len hfi
 have:=(lay_same (E:=eRow 1048576 T) (G:=eRow 1000000 T) (fs:=(T[t]'ho.lt).fs) (fun f hf=>by
  obtain ⟨y,e, -,hy⟩:=hfl f hf
  rw [e]
  exact hy.at_eq) (fun f hf=>by
  obtain ⟨y,e, -,hy⟩:=hfl f hf
  rw [e]
  exact ⟨hy.bnd.1,hy.bnd.2,(sizT_ok hy.chk hy.lt).2.2⟩) zm (T[t]'ho.lt).fs.length (Nat.le_refl _)).1
 rwa [List.take_length] at this
variable (k d cl:Nat) (h:Hp) (n:Nat)
theorem rsize15_ev (hk:30000≤k) (A:Option Addr) (T:List Tp) (c:Nat) (hT:TabH h n A T) (t:Nat) (ho:OkV T t) :
  SQ k (d+5) cl 85 [.slice A T.length c,.int .i64 t] h n fun v h' n'=>v = .int .i64 (sizT T t)∧h=h'∧n=n':=by
 have hl:=ho.lt
 have q:=(sized_ev k d n h n hk A T c hT ho.chk.1 ho.chk.2.1 t zm zm).mono (Φ':=fun v h' n'=>v = .int .i64 (sizT T t)∧h=h'∧n=n') fun _ _ _ hp=>⟨by rw [hp.1,← ho.at_eq];rfl,hp.2.1.symm,hp.2.2.symm⟩
 refine enter Try.func85 kz rfl kz rfl rfl rfl ?_
 (repeat' first|refine zcd ?_|intro K' hK|(with_reducible refine zn hK ?_;clear hK)|((with_reducible apply o_callF (g:=112) w_none);(case ha=>exact ez0);(case hs=>(exact q));(case' hk=>rintro _ h' n' ⟨rfl,rfl,rfl⟩))|((with_reducible first|apply zo1|apply zo2|apply o_guard rfl|apply x_cond|apply k_e1 rfl|apply k_e2 rfl|apply k_e0 rfl|apply k_e3 rfl|apply k_e4 rfl);(case he=>exact ez0);(try case hok=>exact ezO);all_goals try (intro hb;(try simp only [hbs,reduceCtorEq] at hb);try exact ezX))|((with_reducible apply o_undef rfl);(case hb=>exact ez0)))
 all_goals exact sw_flat rfl rfl ⟨rfl,rfl,rfl⟩
def PartsV (ps os:List Int) (h:Hp) (n:Nat) (v:Value) (h':Hp) (n':Nat):Prop:=
 v = .tuple ⟨[.slice (some ⟨n,0,none⟩) ps.length ps.length,.slice (some ⟨n+1,0,none⟩) os.length os.length]⟩∧h'=(h.set n (.row 3 false (iv ps))).set (n+1) (.row 3 false (iv os))∧n'=n+2
theorem rpt_fld (hk:30000≤k) (A:Option Addr) (T:List Tp) (c:Nat) (hT:TabH h n A T) (t:Nat) (ho:OkV T t) (h5:(T[t]'ho.lt).kd=5) :
  SQ k (d+5) cl 79 [.slice A T.length c,.int .i64 t] h n (PartsV (prtT (T[t]'ho.lt)) (offsT T (T[t]'ho.lt)) h n):=by
 have hl:=ho.lt
 have hfi:=ho.chk.2.1 t ho.lt
 have hlen:=fine_len hfi
 have hfd:=hT.fd _ (List.getElem_mem ho.lt)
 have hfl:=ho.fld h5
 have hs0:=fine_some0 hfi h5
 have eo:offsT T (T[t]'ho.lt)=(layR 1000000 (eRow 1000000 T) (T[t]'ho.lt).fs).1:=by unfold offsT;rw [if_pos h5,ho.lay_eq h5]
 have hol:=offsT_len (T:=T) h5
 have ep:prtT (T[t]'ho.lt)=(T[t]'ho.lt).fs.map (·.2):=by unfold prtT;rw [fine_ln hfi zm];simp
 obtain ⟨tid,toff,hTA,htid, -,t0, -, -,t3⟩:=hT.at_ ho.lt
 subst hTA
 have qt:=fun (h6:Hp) (n6:Nat) (hT6:TabH h6 n6 (some ⟨tid,toff,none⟩) T) (hr6:RdH h6 n6 (T[t]'ho.lt).A (fv (T[t]'ho.lt).fs))=>rtogr_ev k d n h6 n6 hk (some ⟨tid,toff,none⟩) T c hT6 (T[t]'ho.lt).A (T[t]'ho.lt).fs (T[t]'ho.lt).c hr6 zm ho.chk (fun e=>by rw [e] at hs0;exact absurd hs0 (by simp)) (fun f hf=>by obtain ⟨y,e, -,hy⟩:=hfl f hf;have:=hy.lt;omega)
 unfold PartsV
 rw [← eo] at qt
 obtain ⟨X,hX⟩:∃ X,T[t]'ho.lt=X:=⟨_,rfl⟩
 simp only [hX] at h5 hfi hlen hfd t0 t3 qt ep eo hol hs0 ⊢
 obtain ⟨offs,hoffs⟩:∃ offs,offsT T X=offs:=⟨_,rfl⟩
 obtain ⟨prs,hprs⟩:∃ prs,prtT X=prs:=⟨_,rfl⟩
 simp only [hoffs] at qt hol ⊢
 rw [hprs] at ep ⊢
 obtain ⟨up,hup⟩:∃ up,upI (layR 1000000 (eRow 1000000 T) X.fs).2.1 (layR 1000000 (eRow 1000000 T) X.fs).2.2=up:=⟨_,rfl⟩
 obtain ⟨al,hal⟩:∃ al,(layR 1000000 (eRow 1000000 T) X.fs).2.2=al:=⟨_,rfl⟩
 simp only [hup,hal] at qt
 obtain ⟨kd,el,ln,fs,FA,fc⟩:=X
 dsimp only at h5 hlen hfd t0 t3 qt ep hol hs0
 subst h5
 clear hfi
 refine enter Try.func79 kz rfl kz rfl rfl rfl ?_
 (repeat' first|refine zcd ?_|intro K' hK|(with_reducible refine zn hK ?_;clear hK)|fail|((with_reducible first|apply zo1|apply zo2|apply o_guard rfl|apply x_cond|apply k_e1 rfl|apply k_e2 rfl|apply k_e0 rfl|apply k_e3 rfl|apply k_e4 rfl);(case he=>exact ez1 t0);(try case hok=>exact ezO);all_goals try (intro hb;(try simp only [hbs,reduceCtorEq] at hb);try exact ezX))|((with_reducible apply o_undef rfl);(case hb=>exact ez0)))
 refine x_loopV [6,7,20,21,22,23,24,25,26,27,28,29,30,31,32,33,34,35,36,37,38,39,40,41] [6,7] (fun m vs h5 n5=>∃ (q:Nat) (O:Value),m=fs.length - q∧q≤fs.length∧vs=[O,.int .i64 q]∧n≤n5∧TabH h5 n (some ⟨tid,toff,none⟩) T∧RdH h5 n FA (fv fs)∧OwnI ((fs.take q).map (·.2)) O h5 n n5) fs.length rfl zm ?_ ?_
 ·exact ⟨0,.slice none 0 0,rfl,by omega,ez0,by omega,hT,hfd,.inl ⟨rfl,rfl⟩⟩
 ·rintro m g _ h5 n5 ⟨q,O,rfl,hq,rfl,hn5,r1,r2,hO⟩
  obtain ⟨_,_,hA2, -, -, -, -, -,t3⟩:=r1.at_ ho.lt
  injection hA2 with hA2
  injection hA2 with z1 z2
  subst z1
  subst z2
  rw [hX] at t3
  dsimp only at t3
  by_cases hqf:q<fs.length
  ·obtain ⟨id2,off2,rfl,hid2, -, -,hfa⟩:=fld_at r2 hqf
   obtain ⟨ty,hty⟩:∃ ty,(fs[q]).2=ty:=⟨_,rfl⟩
   rw [hty] at hfa
   have htk:(fs.take (q+1)).map (·.2)=(fs.take q).map (·.2) ++ [ty]:=by rw [List.take_succ_eq_append_getElem hqf,List.map_append,← hty];rfl
   have htl:((fs.take q).map (·.2)).length=q:=by rw [List.length_map,List.length_take];omega
   obtain ⟨acc,hacc⟩:∃ acc,(fs.take q).map (·.2)=acc:=⟨_,rfl⟩
   rw [hacc] at hO htk htl
   rcases hO with ⟨hp0,rfl⟩|⟨hp0,id,k1,k2,rfl,q4⟩
   ·(repeat' first|refine zcd ?_|intro K' hK|(with_reducible refine zn hK ?_;clear hK)|((with_reducible apply o_ap0 (t:=99) apT99 w_none);(case hs=>exact ez0);(case hy=>exact ez0);(case hsrc=>exact src_row (rowOf_same _ _ _ _ _) rfl);(case hc=>exact rfl);(case hm=>omega);(case h0=>omega))|((with_reducible first|apply zo1|apply zo2|apply o_guard rfl|apply x_cond|apply k_e1 rfl|apply k_e2 rfl|apply k_e0 rfl|apply k_e3 rfl|apply k_e4 rfl);(case he=>exact ez2 hfa t3);(try case hok=>exact ezO);all_goals try (intro hb;(try simp only [hbs,reduceCtorEq] at hb);try exact ezX))|((with_reducible apply o_undef rfl);(case hb=>exact ez0)))
    refine k_round (fs.length - (q+1)) zm ⟨q+1,.slice (some ⟨n5+1,0,none⟩) 1 1,rfl,by omega,ez0,by omega,(ezT r1),(ezD r2),.inr ⟨by rw [htk];simp,n5+1,by omega,by omega,by rw [htk,hp0];rfl,by rw [htk,hp0];exact rowOf_same _ _ _ _ _⟩⟩
   ·have w4:=rwOf_row q4
    have htw:(iv acc).take acc.length=iv acc:=List.take_of_length_le (by rw [iv_length];omega)
    (repeat' first|refine zcd ?_|intro K' hK|(with_reducible refine zn hK ?_;clear hK)|((with_reducible apply o_apR (t:=99) apT99 w_none);(case hs=>exact ez1 w4);(case hy=>exact ez1 w4);(case hsrc=>exact src_row (rowOf_same _ _ _ _ _) rfl);(case hr=>exact ez1 w4);(case hc=>exact rfl);(case hm=>omega);(case hli=>omega);(case hln=>omega);(case hcs=>rw [iv_length];omega))|((with_reducible first|apply zo1|apply zo2|apply o_guard rfl|apply x_cond|apply k_e1 rfl|apply k_e2 rfl|apply k_e0 rfl|apply k_e3 rfl|apply k_e4 rfl);(case he=>exact ez3 hfa t3 w4);(try case hok=>exact ezO);all_goals try (intro hb;(try simp only [hbs,reduceCtorEq] at hb);try exact ezX))|((with_reducible apply o_undef rfl);(case hb=>exact ez0)))
    refine k_round (fs.length - (q+1)) zm ⟨q+1,.slice (some ⟨n5+1,0,none⟩) (acc.length+1) (acc.length+1),rfl,by omega,ez0,by omega,(ezT r1),(ezD r2),.inr ⟨by rw [htk];simp,n5+1,by omega,by omega,by rw [htk,List.length_append];rfl,by rw [htk,iv_app1];exact ez1 htw⟩⟩
  ·obtain rfl:q=fs.length:=by omega
   rw [List.take_length,← ep] at hO
   rcases hO with ⟨hp0, -⟩|⟨hp0,id,k1,k2,rfl,q4⟩
   ·rw [ep] at hp0
    have:=congrArg List.length hp0
    simp at this
    rw [this] at hs0
    exact absurd hs0 (by simp)
   ·(repeat' first|refine zcd ?_|intro K' hK|(with_reducible refine zn hK ?_;clear hK)|((with_reducible apply o_callF (g:=111) w_none);(case ha=>exact ez0);(case hs=>((with_reducible apply qt);(all_goals first|exact r1.more zm|exact r2.more zm)));(case' hk=>rintro _ h' n' ⟨rfl,rfl,rfl⟩))|((with_reducible first|apply zo1|apply zo2|apply o_guard rfl|apply x_cond|apply k_e1 rfl|apply k_e2 rfl|apply k_e0 rfl|apply k_e3 rfl|apply k_e4 rfl);(case he=>exact ez1 t3);(try case hok=>exact ezO);all_goals try (intro hb;(try simp only [hbs,reduceCtorEq] at hb);try exact ezX))|((with_reducible apply o_undef rfl);(case hb=>exact ez0)))
    have hne:id≠n5:=by omega
    rw [← hol]
    refine sw_row2 (m1:=id) (m2:=n5) ezI hne rfl zm zm (by rw [rowOf_ne _ _ zm];exact q4) (rowOf_same _ _ _ _ _) (iv_idA _ _) (iv_idA _ _) (by simp only [reV_tuple,reV1_slice,List.map_cons,List.map_nil,reN_one,reN_two hne];exact rfl) ?_
    exact ⟨rfl,rfl,rfl⟩
theorem rpt_arr (hk:30000≤k) (A:Option Addr) (T:List Tp) (c:Nat) (hT:TabH h n A T) (t:Nat) (ho:OkV T t) (h6:(T[t]'ho.lt).kd=6) :
  SQ k (d+6) cl 79 [.slice A T.length c,.int .i64 t] h n (PartsV (prtT (T[t]'ho.lt)) (offsT T (T[t]'ho.lt)) h n):=by
 have hl:=ho.lt
 have hfi:=ho.chk.2.1 t ho.lt
 obtain ⟨hel0,hel1,hl0,hl1⟩:=fine_arr hfi h6
 have hnf:=fine_nofs hfi zm
 obtain ⟨y,hy,hyt,hoy⟩:=ho.elm h6
 obtain ⟨z,hz⟩:∃ z,sizT T y=z:=⟨_,rfl⟩
 have hzb:=hoy.bnd
 have qs:=fun (h6:Hp) (n6:Nat) (hT6:TabH h6 n6 A T)=>rsize15_ev k d n h6 n6 hk A T c hT6 y hoy
 rw [hz] at hzb qs
 obtain ⟨tid,toff,hTA,htid, -,t0, -, -, -⟩:=hT.at_ ho.lt
 subst hTA
 unfold PartsV
 obtain ⟨X,hX⟩:∃ X,T[t]'ho.lt=X:=⟨_,rfl⟩
 simp only [hX] at h6 hl0 hl1 hnf hy t0 ⊢
 obtain ⟨kd,el,ln,fs,FA,fc⟩:=X
 dsimp only at h6 hl0 hl1 hnf hy t0
 subst h6
 subst hnf
 subst hy
 obtain ⟨m,rfl⟩:=Int.eq_ofNat_of_zero_le (show 0≤ln by omega)
 have ep:prtT ⟨6,y,(m:Int),[],FA,fc⟩=List.replicate m (y:Int):=by unfold prtT;simp
 have eo:offsT T ⟨6,y,(m:Int),[],FA,fc⟩=(List.range m).map fun (i:Nat)=>(i:Int)*z:=by unfold offsT;dsimp only;rw [if_neg (by decide),Int.toNat_natCast,Int.toNat_natCast,hz]
 rw [ep,eo]
 rw [List.length_map,List.length_range,List.length_replicate]
 clear ep eo
 refine enter Try.func79 kz rfl kz rfl rfl rfl ?_
 (repeat' first|refine zcd ?_|intro K' hK|(with_reducible refine zn hK ?_;clear hK)|fail|((with_reducible first|apply zo1|apply zo2|apply o_guard rfl|apply x_cond|apply k_e1 rfl|apply k_e2 rfl|apply k_e0 rfl|apply k_e3 rfl|apply k_e4 rfl);(case he=>exact ez1 t0);(try case hok=>exact ezO);all_goals try (intro hb;(try simp only [hbs,reduceCtorEq] at hb);try exact ezX))|((with_reducible apply o_undef rfl);(case hb=>exact ez0)))
 refine x_loopV [11,12,13,55,56,57,58,59,60,61,62,63,64,65,66,67,68,69,70,71,72,73,74,75,76,77,78,79,80,81,82,83] [11,12,13] (fun r vs h5 n5=>∃ (q:Nat) (OP OQ:Value),r=m - q∧q≤m∧vs=[OP,OQ,.int .i64 q]∧n≤n5∧TabH h5 n (some ⟨tid,toff,none⟩) T ∧
   ((q=0∧OP = .slice none 0 0∧OQ = .slice none 0 0)∨(0<q∧∃ i1 i2,n≤i1∧i1<n5∧n≤i2∧i2<n5∧i1≠i2∧OP = .slice (some ⟨i1,0,none⟩) q q∧OQ = .slice (some ⟨i2,0,none⟩) q q ∧
       rowOf h5 i1=some (3,false,iv (List.replicate q (y:Int)))∧rowOf h5 i2=some (3,false,iv ((List.range q).map fun (i:Nat)=>(i:Int)*z))))) m rfl zm ?_ ?_
 ·exact ⟨0,_,_,rfl,by omega,ez0,by omega,hT,.inl ⟨rfl,rfl,rfl⟩⟩
 ·rintro r g1 _ h5 n5 ⟨q,OP,OQ,rfl,hq,rfl,hn5,r1,hO⟩
  obtain ⟨_,_,hA2, -, -, -,t1,t2, -⟩:=r1.at_ ho.lt
  injection hA2 with hA2
  injection hA2 with z1 z2
  subst z1
  subst z2
  rw [hX] at t1 t2
  dsimp only at t1 t2
  by_cases hqn:q<m
  ·have hmu:0≤(q:Int)*z∧(q:Int)*z≤16*256:=⟨Int.mul_nonneg zm hzb.1,Int.mul_le_mul zm hzb.2 hzb.1 zm⟩
   have hrep:List.replicate (q+1) (y:Int)=List.replicate q (y:Int) ++ [(y:Int)]:=by rw [List.replicate_succ']
   obtain ⟨qz,hqze⟩:∃ qz,(q:Int)*z=qz:=⟨_,rfl⟩
   rw [hqze] at hmu
   have hran:(List.range (q+1)).map (fun (i:Nat)=>(i:Int)*z)=(List.range q).map (fun (i:Nat)=>(i:Int)*z) ++ [qz]:=by rw [List.range_succ,List.map_append,← hqze];rfl
   rcases hO with ⟨rfl,rfl,rfl⟩|⟨hq0,i1,i2,j1,j2,j3,j4,j5,rfl,rfl,q1,q2⟩
   ·(repeat' first|refine zcd ?_|intro K' hK|(with_reducible refine zn hK ?_;clear hK)|(with_reducible refine x_drawnD (id:=13) [(5,15),(7,15)] kz fun K' hK=>?_)|((with_reducible apply d_nil);(case hp=>exact ezP);(case' hx=>(refine hK _ _ _ ?_;clear hK)))|((with_reducible apply d_pure w_none);(case hp=>exact rfl);(case hc=>exact rfl);(case he=>exact ez3 t1 t2 hqze))|((with_reducible apply d_eff w_none);(case hc=>exact rfl);(case he=>exact ez3 t1 t2 hqze);(case hok=>exact ezO))|((with_reducible apply d_guard rfl);(case hb=>exact ez3 t1 t2 hqze);(case' h1=>intro hb;(try simp only [hbs,reduceCtorEq] at hb);try exact ezX);(case' h2=>intro hb;(try simp only [hbs,reduceCtorEq] at hb);try exact ezX))|((with_reducible apply d_ap0 (t:=99) apT99 w_none);(case hs=>exact ez1 t1);(case hy=>exact ez0);(case hsrc=>exact src_row (rowOf_same _ _ _ _ _) rfl);(case hc=>exact rfl);(case hm=>omega);(case h0=>omega);(case' hx=>intro rd))|((with_reducible apply d_callS (g:=85) w_none);(case hs0=>exact rfl);(case ha=>exact ez0);(case hs=>((with_reducible apply qs);exact ezT r1));(case' hk=>rintro _ h' n' ⟨rfl,rfl,rfl⟩))|((with_reducible first|apply zo1|apply zo2|apply o_guard rfl|apply x_cond|apply k_e1 rfl|apply k_e2 rfl|apply k_e0 rfl|apply k_e3 rfl|apply k_e4 rfl);(case he=>exact ez2 t1 t2);(try case hok=>exact ezO);all_goals try (intro hb;(try simp only [hbs,reduceCtorEq] at hb);try exact ezX))|((with_reducible apply o_undef rfl);(case hb=>exact ez0)))
    refine k_round (m - 1) zm ⟨1,.slice (some ⟨n5+1,0,none⟩) 1 1,.slice (some ⟨n5+1+1+1,0,none⟩) 1 1,rfl,by omega,ez0,by omega,(ezT r1),.inr ⟨by omega,n5+1,n5+1+1+1,by omega,by omega,by omega,by omega,by omega,rfl,rfl,by rw [rowOf_ne _ _ zm,rowOf_ne _ _ zm,rowOf_same];rfl,?_⟩⟩
    rw [hran,rowOf_same,← hqze]
    exact rfl
   ·have w1:=rwOf_row q1
    have w2:=rwOf_row q2
    have ht1:(iv (List.replicate q (y:Int))).take q=iv (List.replicate q (y:Int)):=List.take_of_length_le (by rw [iv_length,List.length_replicate];omega)
    have ht2:(iv ((List.range q).map fun (i:Nat)=>(i:Int)*z)).take q=iv ((List.range q).map fun (i:Nat)=>(i:Int)*z):=List.take_of_length_le (by rw [iv_length,List.length_map,List.length_range];omega)
    (repeat' first|refine zcd ?_|intro K' hK|(with_reducible refine zn hK ?_;clear hK)|(with_reducible refine x_drawnD (id:=13) [(5,15),(7,15)] kz fun K' hK=>?_)|((with_reducible apply d_nil);(case hp=>exact ezP);(case' hx=>(refine hK _ _ _ ?_;clear hK)))|((with_reducible apply d_pure w_none);(case hp=>exact rfl);(case hc=>exact rfl);(case he=>exact ez5 t1 t2 hqze w1 w2))|((with_reducible apply d_eff w_none);(case hc=>exact rfl);(case he=>exact ez5 t1 t2 hqze w1 w2);(case hok=>exact ezO))|((with_reducible apply d_guard rfl);(case hb=>exact ez5 t1 t2 hqze w1 w2);(case' h1=>intro hb;(try simp only [hbs,reduceCtorEq] at hb);try exact ezX);(case' h2=>intro hb;(try simp only [hbs,reduceCtorEq] at hb);try exact ezX))|((with_reducible apply d_apR (t:=99) apT99 w_none);(case hs=>exact ez2 w1 w2);(case hy=>exact ez2 w1 w2);(case hsrc=>exact src_row (rowOf_same _ _ _ _ _) rfl);(case hr=>exact ez2 w1 w2);(case hc=>exact rfl);(case hm=>omega);(case hli=>omega);(case hln=>omega);(case hcs=>first|(rw [iv_length,List.length_replicate];omega)|(rw [iv_length,List.length_map,List.length_range];omega));(case' hx=>intro rd))|((with_reducible apply d_callS (g:=85) w_none);(case hs0=>exact rfl);(case ha=>exact ez0);(case hs=>((with_reducible apply qs);exact ezT r1));(case' hk=>rintro _ h' n' ⟨rfl,rfl,rfl⟩))|((with_reducible first|apply zo1|apply zo2|apply o_guard rfl|apply x_cond|apply k_e1 rfl|apply k_e2 rfl|apply k_e0 rfl|apply k_e3 rfl|apply k_e4 rfl);(case he=>exact ez4 t1 t2 w1 w2);(try case hok=>exact ezO);all_goals try (intro hb;(try simp only [hbs,reduceCtorEq] at hb);try exact ezX))|((with_reducible apply o_undef rfl);(case hb=>exact ez0)))
    refine k_round (m - (q+1)) zm ⟨q+1,.slice (some ⟨n5+1,0,none⟩) (q+1) (q+1),.slice (some ⟨n5+1+1+1,0,none⟩) (q+1) (q+1),rfl,by omega,ez0,by omega,(ezT r1),.inr ⟨by omega,n5+1,n5+1+1+1,by omega,by omega,by omega,by omega,by omega,rfl,rfl,?_,?_⟩⟩
    ·rw [hrep,iv_app1]
     (repeat rw [rowOf_ne _ _ zm])
     rw [rowOf_same]
     exact ez1 ht1
    ·rw [hran,iv_app1,rowOf_same]
     exact ez1 ht2
  ·obtain rfl:q=m:=by omega
   rcases hO with ⟨rfl,rfl,rfl⟩|⟨hq0,i1,i2,j1,j2,j3,j4,j5,rfl,rfl,q1,q2⟩
   ·omega
   ·(repeat' first|refine zcd ?_|intro K' hK|(with_reducible refine zn hK ?_;clear hK)|fail|((with_reducible first|apply zo1|apply zo2|apply o_guard rfl|apply x_cond|apply k_e1 rfl|apply k_e2 rfl|apply k_e0 rfl|apply k_e3 rfl|apply k_e4 rfl);(case he=>exact ez1 t2);(try case hok=>exact ezO);all_goals try (intro hb;(try simp only [hbs,reduceCtorEq] at hb);try exact ezX))|((with_reducible apply o_undef rfl);(case hb=>exact ez0)))
    refine sw_row2 (m1:=i1) (m2:=i2) ezI j5 rfl zm zm q1 q2 (iv_idA _ _) (iv_idA _ _) (by simp only [reV_tuple,reV1_slice,List.map_cons,List.map_nil,reN_one,reN_two j5];exact rfl) ?_
    exact ⟨rfl,rfl,rfl⟩
end
section
open Go.RowKit
structure Sub (F G:List Bool):Prop where
 len:G.length=F.length
 mono:∀ x:Nat,F[x]?=some true→G[x]?=some true
 cnt:G=F∨F.count true<G.count true
theorem Sub.rfl_ {F:List Bool}:Sub F F:=⟨rfl,fun _ h=>h,.inl rfl⟩
theorem Sub.trans {F G H:List Bool} (a:Sub F G) (b:Sub G H):Sub F H:=by
 refine ⟨b.len.trans a.len,fun x h=>b.mono x (a.mono x h),?_⟩
 rcases a.cnt with h1|h1 <;> rcases b.cnt with h2|h2
 ·exact .inl (h2.trans h1)
 ·right;rw [h1] at h2;exact h2
 ·right;rw [h2];exact h1
 ·right;omega
theorem set_true_same {F:List Bool} {y:Nat} (h:F[y]?=some true):F.set y true=F:=by
 refine List.ext_getElem? fun x=>?_
 rw [List.getElem?_set]
 by_cases e:y=x
 ·subst e
  rw [if_pos rfl,h]
  have:y<F.length:=by
   rcases Nat.lt_or_ge y F.length with h1|h1
   ·exact h1
   ·rw [List.getElem?_eq_none h1] at h;cases h
  rw [if_pos this]
 ·rw [if_neg e]
theorem Sub.set {F:List Bool} {y:Nat} (hy:y<F.length):Sub F (F.set y true):=by
 refine ⟨List.length_set,fun x h=>?_,?_⟩
 ·rw [List.getElem?_set]
  by_cases e:y=x
  ·rw [if_pos e,if_pos hy]
  ·rw [if_neg e];exact h
 ·cases hb:F[y]
  ·right
   rw [List.count_set hy,hb]
   simp
  ·left
   exact set_true_same (by rw [List.getElem?_eq_getElem hy,hb])
theorem set_true_get {F:List Bool} {y:Nat} (hy:y<F.length):(F.set y true)[y]?=some true:=by rw [List.getElem?_set,if_pos rfl,if_pos hy]
def ClosedTo (T:List Tp) (F:List Bool) (k:Nat):Prop:=∀ x (hx:x<T.length),x<k→F[x]?=some true→∀ y:Nat,(y:Int)∈leadsT true T[x]→F[y]?=some true
def Snd (T:List Tp) (i:Nat) (F:List Bool):Prop:=∀ x:Nat,F[x]?=some true→Rch T true i x
structure Out (T:List Tp) (i:Nat) (F:List Bool) (r:Nat):Prop where
 len:F.length=T.length
 snd:Snd T i F
 st:F[i]?=some true
 ok:ClosedTo T F T.length∨r+1≤F.count true
structure Mid (T:List Tp) (i:Nat) (F G:List Bool) (r k:Nat):Prop where
 out:Out T i F r
 sub:Sub F G
 snd:Snd T i G
 st:G[i]?=some true
 cl:G=F→ClosedTo T F k
 fx:ClosedTo T F T.length→G=F
structure Inn (T:List Tp) (i:Nat) (F G H:List Bool) (r k m:Nat) (ns:List Int):Prop where
 mid:Mid T i F G r k
 sub:Sub G H
 snd:Snd T i H
 st:H[i]?=some true
 on:G[k]?=some true→∀ y:Nat,(y:Int)∈ns.take m→H[y]?=some true
 off:G[k]? ≠ some true→H=G
 fx:ClosedTo T F T.length→H=F
theorem Out.init {T:List Tp} {i:Nat} (hi:i<T.length):Out T i ((List.replicate T.length false).set i true) 0:=by
 have hl:i<(List.replicate T.length false).length:=by rw [List.length_replicate];exact hi
 refine ⟨by rw [List.length_set,List.length_replicate],fun x h=>?_,set_true_get hl,.inr ?_⟩
 ·rw [List.getElem?_set] at h
  by_cases e:i=x
  ·subst e;exact .refl
  ·rw [if_neg e,List.getElem?_replicate] at h
   split at h <;> cases h
 ·rw [List.count_set hl]
  simp
theorem Out.mid {T:List Tp} {i r:Nat} {F:List Bool} (h:Out T i F r):Mid T i F F r 0:=⟨h,Sub.rfl_,h.snd,h.st,fun _ x _ hx=>absurd hx zm,fun _=>rfl⟩
theorem Mid.inn {T:List Tp} {i r k:Nat} {F G:List Bool} {ns:List Int} (h:Mid T i F G r k):Inn T i F G G r k 0 ns:=⟨h,Sub.rfl_,h.snd,h.st,fun _ y hy=>by simp at hy,fun _=>rfl,h.fx⟩
theorem Inn.len {T:List Tp} {i r k m:Nat} {F G H:List Bool} {ns:List Int} (h:Inn T i F G H r k m ns):H.length=T.length:=by rw [h.sub.len,h.mid.sub.len,h.mid.out.len]
theorem Inn.step {T:List Tp} {i r k m:Nat} {F G H:List Bool} {ns:List Int} (h:Inn T i F G H r k m ns) (hk:k<T.length) (hns:leadsT true T[k]=ns) (hm:m<ns.length) {y:Nat} (hy:ns[m]=(y:Int)) (hyl:y<T.length) (hHk:H[k]?=some true):Inn T i F G (H.set y true) r k (m+1) ns:=by
 have hl:=h.len
 have hyH:y<H.length:=by omega
 have hs:=Sub.set hyH
 have hG:G[k]?=some true:=by
  rcases Classical.em (G[k]?=some true) with h1|h1
  ·exact h1
  ·rw [h.off h1] at hHk;exact absurd hHk h1
 have hym:(y:Int)∈leadsT true T[k]:=by rw [hns,← hy];exact List.getElem_mem _
 refine ⟨h.mid,h.sub.trans hs,fun x hx=>?_,hs.mono _ h.st,fun _ z hz=>?_,fun h1=>absurd hG h1,fun hc=>?_⟩
 ·rw [List.getElem?_set] at hx
  by_cases e:y=x
  ·subst e
   exact .step (h.snd k hHk) hk hym
  ·rw [if_neg e] at hx;exact h.snd x hx
 ·rw [List.take_succ_eq_append_getElem hm] at hz
  rcases List.mem_append.1 hz with hz|hz
  ·exact hs.mono _ (h.on hG z hz)
  ·have hz:=List.mem_singleton.1 hz
   rw [hy] at hz
   obtain rfl:z=y:=by omega
   exact set_true_get hyH
 ·have he:=h.fx hc
  subst he
  exact set_true_same (hc k hk hk hHk y hym)
theorem Inn.next {T:List Tp} {i r k m:Nat} {F G H:List Bool} {ns:List Int} (h:Inn T i F G H r k m ns) (hk:k<T.length) (hns:leadsT true T[k]=ns) (hm:m=ns.length∨H[k]? ≠ some true):Mid T i F H r (k+1):=by
 refine ⟨h.mid.out,h.mid.sub.trans h.sub,h.snd,h.st,fun e=>?_,h.fx⟩
 have hGF:G=F:=by
  rcases h.mid.sub.cnt with h1|h1
  ·exact h1
  ·rcases h.sub.cnt with h2|h2
   ·rw [← h2];exact e
   ·rw [e] at h2;omega
 have hHG:H=G:=by rw [e,hGF]
 intro x hx hxk hF y hy
 by_cases hxe:x=k
 ·subst hxe
  rcases hm with hm|hm
  ·rw [← e]
   refine h.on (by rw [hGF];exact hF) y ?_
   rw [hm,List.take_length,← hns]
   exact hy
  ·rw [e] at hm
   exact absurd hF hm
 ·exact h.mid.cl hGF x hx zm hF y hy
theorem Mid.next {T:List Tp} {i r:Nat} {F G:List Bool} (h:Mid T i F G r T.length):Out T i G (r+1):=by
 refine ⟨by rw [h.sub.len,h.out.len],h.snd,h.st,?_⟩
 rcases h.sub.cnt with h1|h1
 ·left
  have:=h.cl h1
  rw [h1]
  exact this
 ·rcases h.out.ok with h2|h2
  ·rw [h.fx h2] at h1;exact absurd h1 (Nat.lt_irrefl _)
  ·right;omega
theorem Out.done {T:List Tp} {i:Nat} {F:List Bool} (hF:Fine T) (hi:i<T.length) (h:Out T i F T.length):F=rchF T true i:=by
 have hc:ClosedTo T F T.length:=by
  rcases h.ok with h1|h1
  ·exact h1
  ·have:=List.count_le_length (a:=true) (l:=F)
   rw [h.len] at this
   omega
 exact rchF_eq hF hi h.len h.st (fun x _ hx=>h.snd x hx) fun x hx h1 y hy=>hc x hx hx h1 y hy
end
section
open Go.RowKit
def qv (ps:List (Int × Int)):List Value:=ps.flatMap fun p=>[.int .i64 p.1,.int .i64 p.2]
variable (k d cl:Nat) (h:Hp) (n:Nat)
end
section
open Go.RowKit
variable (k d cl:Nat) (h:Hp) (n:Nat)
theorem rreached_ev (hk:30000≤k) (A:Option Addr) (T:List Tp) (c:Nat) (hT:TabH h n A T) (hl:T.length≤32) (hF:Fine T) (i:Nat) (hi:i<T.length) :
  SQ k (d+3) cl 58 [.slice A T.length c,.int .i64 i] h n (IntsV (reachL T i) h n):=by
 obtain ⟨tid,toff,hAA,htid, -⟩:=hT.at_ hi
 subst hAA
 obtain ⟨F0,hF0⟩:∃ F0,(List.replicate T.length false).set i true=F0:=⟨_,rfl⟩
 have hov0:=bw_set (l:=List.replicate T.length false) (i:=i) (by rw [List.length_replicate];exact hi)
 have hout:=Out.init (T:=T) hi
 rw [hF0] at hov0 hout
 refine enter Try.func58 kz rfl kz rfl rfl rfl ?_
 (repeat' first|refine zcd ?_|intro K' hK|(with_reducible refine zn hK ?_;clear hK)|fail|((with_reducible first|apply zo1|apply zo2|apply o_guard rfl|apply x_cond|apply k_e1 rfl|apply k_e2 rfl|apply k_e0 rfl|apply k_e3 rfl|apply k_e4 rfl);(case he=>exact ez2 @mk_falses hov0);(try case hok=>exact ezO);all_goals try (intro hb;(try simp only [hbs,reduceCtorEq] at hb);try exact ezX))|((with_reducible apply o_undef rfl);(case hb=>exact ez0)))
 refine x_loopV [6,7,8,9,18,19,20,21,22,23,24,25,26,27,28,29,30,31,32,33,34,35,36,37,38,39,40,41,42,43,44,45,46,47,48,49,50,51,52] [6] (fun m vs h7 n7=>∃ (r:Nat) (F:List Bool),m=T.length - r∧r≤T.length∧vs=[.int .i64 r]∧n+1≤n7∧TabH h7 n (some ⟨tid,toff,none⟩) T∧rowOf h7 n=some (4,false,bw F)∧Out T i F r) T.length rfl zm ?_ ?_
 ·exact ⟨0,F0,rfl,by omega,ez0,Nat.le_refl _,hT.set (Nat.le_refl _) _,rowOf_same _ _ _ _ _,hout⟩
 ·rintro m fr3 _ h7 n7 ⟨r,F,rfl,hr,rfl,hn7,hT7,qL7,hO⟩
  by_cases hrT:r<T.length
  ·(repeat' first|refine zcd ?_|intro K' hK|(with_reducible refine zn hK ?_;clear hK)|fail|((with_reducible first|apply zo1|apply zo2|apply o_guard rfl|apply x_cond|apply k_e1 rfl|apply k_e2 rfl|apply k_e0 rfl|apply k_e3 rfl|apply k_e4 rfl);(case he=>exact ez0);(try case hok=>exact ezO);all_goals try (intro hb;(try simp only [hbs,reduceCtorEq] at hb);try exact ezX))|((with_reducible apply o_undef rfl);(case hb=>exact ez0)))
   refine x_loopV [7,8,9,24,25,26,27,28,29,30,31,32,33,34,35,36,37,38,39,40,41,42,43,44,45,46,47,48,49,50,51,52] [7] (fun m vs h8 n8=>∃ (x:Nat) (G:List Bool),m=T.length - x∧x≤T.length∧vs=[.int .i64 x]∧n+1≤n8∧TabH h8 n (some ⟨tid,toff,none⟩) T∧rowOf h8 n=some (4,false,bw G)∧Mid T i F G r x) T.length rfl zm ?_ ?_
   ·exact ⟨0,F,rfl,by omega,ez0,hn7,hT7,qL7,hO.mid⟩
   ·rintro m fr4 _ h8 n8 ⟨x,G,rfl,hx,rfl,hn8,hT8,qL8,hMd⟩
    by_cases hxT:x<T.length
    ·obtain ⟨_,_,hA2, -,ht4, -⟩:=hT8.at_ hxT
     injection hA2 with hA2
     injection hA2 with z1 z2
     subst z1
     subst z2
     have hfx:=hF x hxT
     have pL:=(rleads_ev k d n h8 n8 hk hfx ((hT8.fd _ (List.getElem_mem hxT)).more zm)).mono fun _ _ _ hh=>IntsV.rd hh
     have hns:=leadsT_in (far:=true) hfx zm
     have hnl:=leadsT_len (far:=true) hfx
     obtain ⟨ns,hnse⟩:∃ ns,leadsT true T[x]=ns:=⟨_,rfl⟩
     rw [hnse] at pL hns hnl
     (repeat' first|refine zcd ?_|intro K' hK|(with_reducible refine zn hK ?_;clear hK)|((with_reducible apply o_callF (g:=96) w_none);(case ha=>exact ez0);(case hs=>(exact pL));(case' hk=>rintro _ h' n' ⟨LA,lc,rfl,hrL,hLn,hn2,hkp⟩))|((with_reducible first|apply zo1|apply zo2|apply o_guard rfl|apply x_cond|apply k_e1 rfl|apply k_e2 rfl|apply k_e0 rfl|apply k_e3 rfl|apply k_e4 rfl);(case he=>exact ez1 ht4);(try case hok=>exact ezO);all_goals try (intro hb;(try simp only [hbs,reduceCtorEq] at hb);try exact ezX))|((with_reducible apply o_undef rfl);(case hb=>exact ez0)))
     refine x_loopV [9,35,36,37,38,39,40,41,42,43,44,45,46,47,48,49,50,51,52] [9] (fun m vs h9 n9=>∃ (s:Nat) (H:List Bool),m=ns.length - s∧s≤ns.length∧vs=[.int .i64 s]∧n9=n'∧TabH h9 n (some ⟨tid,toff,none⟩) T∧RdH h9 n' LA (iv ns)∧rowOf h9 n=some (4,false,bw H)∧Inn T i F G H r x s ns) ns.length rfl zm ?_ ?_
     ·exact ⟨0,G,rfl,by omega,ez0,rfl,hT8.keep zm hkp,hrL,by rw [rowOf_keep (hkp _ zm)];exact qL8,hMd.inn⟩
     ·rintro m fr5 _ h9 n9 ⟨s,H,rfl,hs,rfl,rfl,hT9,hrL9,qL9,hIn⟩
      have hHl:=hIn.len
      have hHx:H[x]?=some (H[x]'zm):=List.getElem?_eq_getElem zm
      have cH:=cellAt_row (off:=x) qL9
      rw [bw_lget hHx] at cH
      obtain ⟨b,hb5⟩:∃ b,H[x]'zm=b:=⟨_,rfl⟩
      rw [hb5] at cH hHx
      by_cases hsl:s<ns.length
      ·cases b
       ·have hnxt:=hIn.next hxT hnse (.inr (by rw [hHx];decide))
        (repeat' first|refine zcd ?_|intro K' hK|(with_reducible refine zn hK ?_;clear hK)|fail|((with_reducible first|apply zo1|apply zo2|apply o_guard rfl|apply x_cond|apply k_e1 rfl|apply k_e2 rfl|apply k_e0 rfl|apply k_e3 rfl|apply k_e4 rfl);(case he=>exact ez1 cH);(try case hok=>exact ezO);all_goals try (intro hb;(try simp only [hbs,reduceCtorEq] at hb);try exact ezX))|((with_reducible apply o_undef rfl);(case hb=>exact ez0)))
        refine k_round (T.length - (x+1)) zm ⟨x+1,H,rfl,by omega,ez0,by omega,hT9,qL9,hnxt⟩
       ·obtain ⟨lid,lof,hLA, -,cz⟩:=int_at hrL9 hsl
        subst hLA
        have hyb:=hns ns[s] (List.getElem_mem _)
        obtain ⟨y,hy⟩:=Int.eq_ofNat_of_zero_le hyb.1
        rw [hy] at cz hyb
        have hstp:=hIn.step hxT hnse hsl hy zm hHx
        have w0:=rwOf_row qL9
        have hov:=bw_set (l:=H) (i:=y) zm
        have hLz:=hLn lid lof rfl
        (repeat' first|refine zcd ?_|intro K' hK|(with_reducible refine zn hK ?_;clear hK)|fail|((with_reducible first|apply zo1|apply zo2|apply o_guard rfl|apply x_cond|apply k_e1 rfl|apply k_e2 rfl|apply k_e0 rfl|apply k_e3 rfl|apply k_e4 rfl);(case he=>exact ez4 cH cz w0 hov);(try case hok=>exact ezO);all_goals try (intro hb;(try simp only [hbs,reduceCtorEq] at hb);try exact ezX))|((with_reducible apply o_undef rfl);(case hb=>exact ez0)))
        refine k_round (ns.length - (s+1)) zm ⟨s+1,_,rfl,by omega,ez0,rfl,hT9.set zm _,hrL9.kill (fun b o e=>by injection e with e;injection e with e1;omega) _,rowOf_same _ _ _ _ _,hstp⟩
      ·obtain rfl:s=ns.length:=by omega
       have hnxt:=hIn.next hxT hnse (.inl rfl)
       (repeat' first|refine zcd ?_|intro K' hK|(with_reducible refine zn hK ?_;clear hK)|fail|((with_reducible first|apply zo1|apply zo2|apply o_guard rfl|apply x_cond|apply k_e1 rfl|apply k_e2 rfl|apply k_e0 rfl|apply k_e3 rfl|apply k_e4 rfl);(case he=>exact ez1 cH);(try case hok=>exact ezO);all_goals try (intro hb;(try simp only [hbs,reduceCtorEq] at hb);try exact ezX))|((with_reducible apply o_undef rfl);(case hb=>exact ez0)))
       refine k_round (T.length - (x+1)) zm ⟨x+1,H,rfl,by omega,ez0,by omega,hT9,qL9,hnxt⟩
    ·obtain rfl:x=T.length:=by omega
     have hnxt:=hMd.next
     (repeat' first|refine zcd ?_|intro K' hK|(with_reducible refine zn hK ?_;clear hK)|fail|((with_reducible first|apply zo1|apply zo2|apply o_guard rfl|apply x_cond|apply k_e1 rfl|apply k_e2 rfl|apply k_e0 rfl|apply k_e3 rfl|apply k_e4 rfl);(case he=>exact ez0);(try case hok=>exact ezO);all_goals try (intro hb;(try simp only [hbs,reduceCtorEq] at hb);try exact ezX))|((with_reducible apply o_undef rfl);(case hb=>exact ez0)))
     refine k_round (T.length - (r+1)) zm ⟨r+1,G,rfl,by omega,ez0,hn8,hT8,qL8,hnxt⟩
  ·obtain rfl:r=T.length:=by omega
   have hFd:=hO.done hF hi
   have hFl:F.length=T.length:=hO.len
   unfold reachL
   rw [← hFd]
   clear hFd hO hout
   obtain ⟨g,hg⟩:∃ g:Nat→List Int,g=fun r=>((List.range r).filter fun x=>F.getD x false).map fun (x:Nat)=>(x:Int):=⟨_,rfl⟩
   have hg1:∀ r,g (r+1)=g r ++ if F.getD r false=true then [(r:Int)] else []:=fun r=>by
    rw [hg]
    show ((List.range (r+1)).filter _).map _=_
    rw [List.range_succ,List.filter_append,List.map_append]
    congr 1
    by_cases hr:F.getD r false=true
    ·rw [if_pos hr,List.filter_cons_of_pos (p:=fun x=>F.getD x false) hr];rfl
    ·rw [if_neg hr,List.filter_cons_of_neg (p:=fun x=>F.getD x false) hr];rfl
   have hgl:∀ r,(g r).length≤r:=fun r=>by
    rw [hg]
    show (((List.range r).filter _).map _).length≤r
    rw [List.length_map]
    have:=List.length_filter_le (fun x=>F.getD x false) (List.range r)
    rw [List.length_range] at this
    exact this
   have hge:((List.range T.length).filter fun x=>F.getD x false).map (fun (x:Nat)=>(x:Int))=g T.length:=by rw [hg]
   rw [hge]
   (repeat' first|refine zcd ?_|intro K' hK|(with_reducible refine zn hK ?_;clear hK)|fail|((with_reducible first|apply zo1|apply zo2|apply o_guard rfl|apply x_cond|apply k_e1 rfl|apply k_e2 rfl|apply k_e0 rfl|apply k_e3 rfl|apply k_e4 rfl);(case he=>exact ez0);(try case hok=>exact ezO);all_goals try (intro hb;(try simp only [hbs,reduceCtorEq] at hb);try exact ezX))|((with_reducible apply o_undef rfl);(case hb=>exact ez0)))
   refine x_loopV [10,11,53,54,55,56,57,58,59,60,61,62,63,64,65,66] [10,11] (fun m vs h4 n4=>∃ (r:Nat) (O:Value),m=T.length - r∧r≤T.length∧vs=[O,.int .i64 r]∧n+1≤n4∧rowOf h4 n=some (4,false,bw F)∧OwnI (g r) O h4 (n+1) n4) T.length rfl zm ?_ ?_
   ·exact ⟨0,.slice none 0 0,rfl,by omega,ez0,hn7,qL7,.inl ⟨by rw [hg];rfl,rfl⟩⟩
   ·rintro m fr _ h4 n4 ⟨r,O,rfl,hr,rfl,hn4,p3,hO⟩
    by_cases hrs:r<T.length
    ·have hgr:=hgl r
     have hnx:=hg1 r
     have c3:=cellAt_row (off:=r) p3
     rw [bw_lget (b:=F.getD r false) (by rw [List.getD_eq_getElem?_getD,List.getElem?_eq_getElem zm];rfl)] at c3
     obtain ⟨acc,hacc⟩:∃ acc,g r=acc:=⟨_,rfl⟩
     rw [hacc] at hO hgr hnx
     cases hin:F.getD r false
     ·rw [hin] at c3 hnx
      rw [if_neg (by decide),List.append_nil] at hnx
      (repeat' first|refine zcd ?_|intro K' hK|(with_reducible refine zn hK ?_;clear hK)|fail|((with_reducible first|apply zo1|apply zo2|apply o_guard rfl|apply x_cond|apply k_e1 rfl|apply k_e2 rfl|apply k_e0 rfl|apply k_e3 rfl|apply k_e4 rfl);(case he=>exact ez1 c3);(try case hok=>exact ezO);all_goals try (intro hb;(try simp only [hbs,reduceCtorEq] at hb);try exact ezX))|((with_reducible apply o_undef rfl);(case hb=>exact ez0)))
      refine k_round (T.length - (r+1)) zm ⟨r+1,O,rfl,by omega,ez0,by omega,p3,by rw [hnx];exact hO⟩
     ·rw [hin] at c3 hnx
      rw [if_pos rfl] at hnx
      rcases hO with ⟨hp0,rfl⟩|⟨hp0,id5,j1,j2,rfl,j3⟩
      ·(repeat' first|refine zcd ?_|intro K' hK|(with_reducible refine zn hK ?_;clear hK)|((with_reducible apply o_ap0 (t:=99) apT99 w_none);(case hs=>exact ez0);(case hy=>exact ez0);(case hsrc=>exact src_row (rowOf_same _ _ _ _ _) rfl);(case hc=>exact rfl);(case hm=>omega);(case h0=>omega))|((with_reducible first|apply zo1|apply zo2|apply o_guard rfl|apply x_cond|apply k_e1 rfl|apply k_e2 rfl|apply k_e0 rfl|apply k_e3 rfl|apply k_e4 rfl);(case he=>exact ez1 c3);(try case hok=>exact ezO);all_goals try (intro hb;(try simp only [hbs,reduceCtorEq] at hb);try exact ezX))|((with_reducible apply o_undef rfl);(case hb=>exact ez0)))
       refine k_round (T.length - (r+1)) zm ⟨r+1,.slice (some ⟨n4+1,0,none⟩) 1 1,rfl,by omega,ez0,by omega,by rw [rowOf_ne _ _ zm,rowOf_ne _ _ zm];exact p3,.inr ⟨?_,n4+1,by omega,by omega,?_,?_⟩⟩
       ·rw [hnx];simp
       ·rw [hnx,hp0];rfl
       ·rw [hnx,hp0];exact rowOf_same _ _ _ _ _
      ·have w4:=rwOf_row j3
       have htk5:(iv acc).take acc.length=iv acc:=List.take_of_length_le (by rw [iv_length];omega)
       (repeat' first|refine zcd ?_|intro K' hK|(with_reducible refine zn hK ?_;clear hK)|((with_reducible apply o_apR (t:=99) apT99 w_none);(case hs=>exact ez1 w4);(case hy=>exact ez1 w4);(case hsrc=>exact src_row (rowOf_same _ _ _ _ _) rfl);(case hr=>exact ez1 w4);(case hc=>exact rfl);(case hm=>omega);(case hli=>omega);(case hln=>omega);(case hcs=>rw [iv_length];omega))|((with_reducible first|apply zo1|apply zo2|apply o_guard rfl|apply x_cond|apply k_e1 rfl|apply k_e2 rfl|apply k_e0 rfl|apply k_e3 rfl|apply k_e4 rfl);(case he=>exact ez2 c3 w4);(try case hok=>exact ezO);all_goals try (intro hb;(try simp only [hbs,reduceCtorEq] at hb);try exact ezX))|((with_reducible apply o_undef rfl);(case hb=>exact ez0)))
       refine k_round (T.length - (r+1)) zm ⟨r+1,.slice (some ⟨n4+1,0,none⟩) (acc.length+1) (acc.length+1),rfl,by omega,ez0,by omega,by rw [rowOf_ne _ _ zm,rowOf_ne _ _ zm,rowOf_ne _ _ zm];exact p3,.inr ⟨?_,n4+1,by omega,by omega,?_,?_⟩⟩
       ·rw [hnx];simp
       ·rw [hnx,List.length_append];rfl
       ·rw [hnx,iv_app1]
        exact ez1 htk5
    ·obtain rfl:r=T.length:=by omega
     rcases hO with ⟨hp0,rfl⟩|⟨hp0,id5,j1,j2,rfl,j3⟩
     ·(repeat' first|refine zcd ?_|intro K' hK|(with_reducible refine zn hK ?_;clear hK)|fail|((with_reducible first|apply zo1|apply zo2|apply o_guard rfl|apply x_cond|apply k_e1 rfl|apply k_e2 rfl|apply k_e0 rfl|apply k_e3 rfl|apply k_e4 rfl);(case he=>exact ez0);(try case hok=>exact ezO);all_goals try (intro hb;(try simp only [hbs,reduceCtorEq] at hb);try exact ezX))|((with_reducible apply o_undef rfl);(case hb=>exact ez0)))
      exact sw_flat rfl rfl (.inl ⟨hp0,rfl,rfl,rfl⟩)
     ·(repeat' first|refine zcd ?_|intro K' hK|(with_reducible refine zn hK ?_;clear hK)|fail|((with_reducible first|apply zo1|apply zo2|apply o_guard rfl|apply x_cond|apply k_e1 rfl|apply k_e2 rfl|apply k_e0 rfl|apply k_e3 rfl|apply k_e4 rfl);(case he=>exact ez0);(try case hok=>exact ezO);all_goals try (intro hb;(try simp only [hbs,reduceCtorEq] at hb);try exact ezX))|((with_reducible apply o_undef rfl);(case hb=>exact ez0)))
      refine sw_row (m:=id5) ezI rfl zm j3 (iv_idA _ _) ezR ?_
      exact .inr ⟨hp0,rfl,rfl,rfl⟩
end
section
open Go.RowKit
variable (k d cl:Nat) (h:Hp) (n:Nat)
theorem rask5_ev (hk:30000≤k) (A:Option Addr) (T:List Tp) (c:Nat) (hT:TabH h n A T) (hS:∀ t∈T,t.fs.length≤20000) (hm:T.length≤9223372036854775807) (i:Int) :
  SQ k (d+8) cl 74 [.slice A T.length c,.int .i64 i] h n fun v h' n'=>v = .int .i64 (szR 1000000 T i).2.2∧h'=h∧n'=n:=by
 by_cases hC:ChkT T
 ·by_cases hi:0≤i∧i<T.length
  ·have ha:=askE_0 hC hi
   have hl:=hC.1
   by_cases hb:256<((eRow 1000000 T).at_ i).1
   ·have hz:(szR 1000000 T i).2.2=16:=by unfold szR;rw [if_pos hC,if_pos hi,if_pos hb]
    rw [hz]
    have hbg:=hb
    have hEl:=eRow_length 1000000 T
    obtain ⟨j,rfl⟩:=Int.eq_ofNat_of_zero_le hi.1
    obtain ⟨hge,hge1⟩:=sz_get (E:=eRow 1000000 T) (j:=j) zm
    refine enter Try.func74 kz rfl kz rfl rfl rfl ?_
    (repeat' first|refine zcd ?_|intro K' hK|(with_reducible refine zn hK ?_;clear hK)|((with_reducible apply o_callF (g:=104) w_none);(case ha=>exact ez0);(case hs=>((with_reducible apply rasked_ev (T:=T));(case hT=>exact hT);(case hS=>exact hS);(all_goals first|exact hk|omega)));(case' hk=>rintro _ h' n' ⟨rfl,rfl,rfl⟩))|((with_reducible apply o_callF (g:=75) w_none);(case ha=>exact ez0);(case hs=>((with_reducible apply rsizes_ev (T:=T));(case hT=>first|exact hT|exact hT.set zm _);(case hF=>exact hC.2.1);(all_goals first|exact hk|omega)));(case' hk=>rintro _ h' n' ⟨rfl,rfl,rfl⟩))|((with_reducible first|apply zo1|apply zo2|apply o_guard rfl|apply x_cond|apply k_e1 rfl|apply k_e2 rfl|apply k_e0 rfl|apply k_e3 rfl|apply k_e4 rfl);(case he=>exact ez2 ha hge);(try case hok=>exact ezO);all_goals try (intro hb;(try simp only [hbs,reduceCtorEq] at hb);try exact ezX))|((with_reducible apply o_undef rfl);(case hb=>exact ez0)))
    all_goals exact sw_flat rfl rfl ⟨rfl,rfl,rfl⟩
   ·have hz:(szR 1000000 T i).2.2=0:=by unfold szR;rw [if_pos hC,if_pos hi,if_neg hb]
    rw [hz]
    have hbg:=hb
    have hEl:=eRow_length 1000000 T
    obtain ⟨j,rfl⟩:=Int.eq_ofNat_of_zero_le hi.1
    obtain ⟨hge,hge1⟩:=sz_get (E:=eRow 1000000 T) (j:=j) zm
    refine enter Try.func74 kz rfl kz rfl rfl rfl ?_
    (repeat' first|refine zcd ?_|intro K' hK|(with_reducible refine zn hK ?_;clear hK)|((with_reducible apply o_callF (g:=104) w_none);(case ha=>exact ez0);(case hs=>((with_reducible apply rasked_ev (T:=T));(case hT=>exact hT);(case hS=>exact hS);(all_goals first|exact hk|omega)));(case' hk=>rintro _ h' n' ⟨rfl,rfl,rfl⟩))|((with_reducible apply o_callF (g:=75) w_none);(case ha=>exact ez0);(case hs=>((with_reducible apply rsizes_ev (T:=T));(case hT=>first|exact hT|exact hT.set zm _);(case hF=>exact hC.2.1);(all_goals first|exact hk|omega)));(case' hk=>rintro _ h' n' ⟨rfl,rfl,rfl⟩))|((with_reducible first|apply zo1|apply zo2|apply o_guard rfl|apply x_cond|apply k_e1 rfl|apply k_e2 rfl|apply k_e0 rfl|apply k_e3 rfl|apply k_e4 rfl);(case he=>exact ez2 ha hge);(try case hok=>exact ezO);all_goals try (intro hb;(try simp only [hbs,reduceCtorEq] at hb);try exact ezX))|((with_reducible apply o_undef rfl);(case hb=>exact ez0)))
    all_goals exact sw_flat rfl rfl ⟨rfl,rfl,rfl⟩
  ·have ha:=askE_2 hC hi
   have hz:(szR 1000000 T i).2.2=2:=by unfold szR;rw [if_pos hC,if_neg hi]
   rw [hz]
   refine enter Try.func74 kz rfl kz rfl rfl rfl ?_
   (repeat' first|refine zcd ?_|intro K' hK|(with_reducible refine zn hK ?_;clear hK)|((with_reducible apply o_callF (g:=104) w_none);(case ha=>exact ez0);(case hs=>((with_reducible apply rasked_ev (T:=T));(case hT=>exact hT);(case hS=>exact hS);(all_goals first|exact hk|omega)));(case' hk=>rintro _ h' n' ⟨rfl,rfl,rfl⟩))|((with_reducible first|apply zo1|apply zo2|apply o_guard rfl|apply x_cond|apply k_e1 rfl|apply k_e2 rfl|apply k_e0 rfl|apply k_e3 rfl|apply k_e4 rfl);(case he=>exact ez1 ha);(try case hok=>exact ezO);all_goals try (intro hb;(try simp only [hbs,reduceCtorEq] at hb);try exact ezX))|((with_reducible apply o_undef rfl);(case hb=>exact ez0)))
   all_goals exact sw_flat rfl rfl ⟨rfl,rfl,rfl⟩
 ·have ha:=askE_8 (i:=i) (j:=i) hC
  have hz:(szR 1000000 T i).2.2=8:=by unfold szR;rw [if_neg hC]
  rw [hz]
  refine enter Try.func74 kz rfl kz rfl rfl rfl ?_
  (repeat' first|refine zcd ?_|intro K' hK|(with_reducible refine zn hK ?_;clear hK)|((with_reducible apply o_callF (g:=104) w_none);(case ha=>exact ez0);(case hs=>((with_reducible apply rasked_ev (T:=T));(case hT=>exact hT);(case hS=>exact hS);(all_goals first|exact hk|omega)));(case' hk=>rintro _ h' n' ⟨rfl,rfl,rfl⟩))|((with_reducible first|apply zo1|apply zo2|apply o_guard rfl|apply x_cond|apply k_e1 rfl|apply k_e2 rfl|apply k_e0 rfl|apply k_e3 rfl|apply k_e4 rfl);(case he=>exact ez1 ha);(try case hok=>exact ezO);all_goals try (intro hb;(try simp only [hbs,reduceCtorEq] at hb);try exact ezX))|((with_reducible apply o_undef rfl);(case hb=>exact ez0)))
  all_goals exact sw_flat rfl rfl ⟨rfl,rfl,rfl⟩
end
section
open Go.RowKit
variable (k d cl:Nat) (h:Hp) (n:Nat)
theorem rsize_ev5 (hk:30000≤k) (A:Option Addr) (T:List Tp) (c:Nat) (hT:TabH h n A T) (hS:∀ t∈T,t.fs.length≤20000) (hm:T.length≤9223372036854775807) (i:Int) :
  SQ k (d+9) cl 42 [.slice A T.length c,.int .i64 i] h n fun v h' n'=>v = .tuple ⟨[.int .i64 (szR 1000000 T i).1,.int .i64 (szR 1000000 T i).2.1,.int .i64 (szR 1000000 T i).2.2]⟩∧h'=h∧n'=n:=by
 by_cases hq:ChkT T∧(0≤i∧i<T.length) ∧ ¬ 256<((eRow 1000000 T).at_ i).1
 ·obtain ⟨hC,hi,hb⟩:=hq
  have hz:szR 1000000 T i=(((eRow 1000000 T).at_ i).1,((eRow 1000000 T).at_ i).2,0):=by unfold szR;rw [if_pos hC,if_pos hi,if_neg hb]
  have hl:=hC.1
  have hz2:(szR 1000000 T i).2.2=0:=by rw [hz]
  rw [hz]
  have hEl:=eRow_length 1000000 T
  obtain ⟨j,rfl⟩:=Int.eq_ofNat_of_zero_le hi.1
  obtain ⟨hge,hge1⟩:=sz_get (E:=eRow 1000000 T) (j:=j) zm
  refine enter Try.func42 kz rfl kz rfl rfl rfl ?_
  (repeat' first|refine zcd ?_|intro K' hK|(with_reducible refine zn hK ?_;clear hK)|((with_reducible apply o_callF (g:=74) w_none);(case ha=>exact ez0);(case hs=>((with_reducible apply rask5_ev (T:=T));(case hT=>exact hT);(case hS=>exact hS);(all_goals first|exact hk|omega)));(case' hk=>rintro _ h' n' ⟨rfl,rfl,rfl⟩))|((with_reducible apply o_callF (g:=75) w_none);(case ha=>exact ez0);(case hs=>((with_reducible apply rsizes_ev (T:=T));(case hT=>first|exact hT|exact hT.set zm _);(case hF=>exact hC.2.1);(all_goals first|exact hk|omega)));(case' hk=>rintro _ h' n' ⟨rfl,rfl,rfl⟩))|(with_reducible refine x_drawnD (id:=5) [(3,7)] kz fun K' hK=>?_)|((with_reducible apply d_nil);(case hp=>exact ezP);(case' hx=>(refine hK _ _ _ ?_;clear hK)))|((with_reducible apply d_pure w_none);(case hp=>exact rfl);(case hc=>exact rfl);(case he=>exact ez2 hge hge1))|((with_reducible apply d_eff w_none);(case hc=>exact rfl);(case he=>exact ez2 hge hge1);(case hok=>exact ezO))|((with_reducible apply d_guard rfl);(case hb=>exact ez2 hge hge1);(case' h1=>intro hb;(try simp only [hbs,reduceCtorEq] at hb);try exact ezX);(case' h2=>intro hb;(try simp only [hbs,reduceCtorEq] at hb);try exact ezX))|((with_reducible first|apply zo1|apply zo2|apply o_guard rfl|apply x_cond|apply k_e1 rfl|apply k_e2 rfl|apply k_e0 rfl|apply k_e3 rfl|apply k_e4 rfl);(case he=>exact ez3 hge hge1 hz2);(try case hok=>exact ezO);all_goals try (intro hb;(try simp only [hbs,reduceCtorEq] at hb);try exact ezX))|((with_reducible apply o_undef rfl);(case hb=>exact ez0)))
  all_goals exact sw_flat rfl rfl ⟨rfl,rfl,rfl⟩
 ·have hz:∃ e,e≠0∧szR 1000000 T i=(0,0,e):=by
   unfold szR
   by_cases hC:ChkT T
   ·rw [if_pos hC]
    by_cases hi:0≤i∧i<T.length
    ·rw [if_pos hi]
     by_cases hb:256<((eRow 1000000 T).at_ i).1
     ·rw [if_pos hb];exact ⟨16,by decide,rfl⟩
     ·exact absurd ⟨hC,hi,hb⟩ hq
    ·rw [if_neg hi];exact ⟨2,by decide,rfl⟩
   ·rw [if_neg hC];exact ⟨8,by decide,rfl⟩
  obtain ⟨e,he0,hz⟩:=hz
  have hz2:(szR 1000000 T i).2.2=e:=by rw [hz]
  rw [hz]
  refine enter Try.func42 kz rfl kz rfl rfl rfl ?_
  (repeat' first|refine zcd ?_|intro K' hK|(with_reducible refine zn hK ?_;clear hK)|((with_reducible apply o_callF (g:=74) w_none);(case ha=>exact ez0);(case hs=>((with_reducible apply rask5_ev (T:=T));(case hT=>exact hT);(case hS=>exact hS);(all_goals first|exact hk|omega)));(case' hk=>rintro _ h' n' ⟨rfl,rfl,rfl⟩))|((with_reducible first|apply zo1|apply zo2|apply o_guard rfl|apply x_cond|apply k_e1 rfl|apply k_e2 rfl|apply k_e0 rfl|apply k_e3 rfl|apply k_e4 rfl);(case he=>exact ez1 hz2);(try case hok=>exact ezO);all_goals try (intro hb;(try simp only [hbs,reduceCtorEq] at hb);try exact ezX))|((with_reducible apply o_undef rfl);(case hb=>exact ez0)))
  all_goals exact sw_flat rfl rfl ⟨rfl,rfl,rfl⟩
end
end Go.Proofs.Ytcpkdjikembpnaa.Ce
