/- Parts of the proof of ValueBack: Mb, Nb, Gj, Mh, Gg. No condition of its own. -/
import Derived.Test.YtcpkdjikembpnaaWaak
import Derived.Test.YtcpkdjikembpnaaWaal
import Derived.Test.YtcpkdjikembpnaaWaan
import Derived.Test.YtcpkdjikembpnaaWaar
import Derived.Test.YtcpkdjikembpnaaWaas
import Derived.Test.YtcpkdjikembpnaaWaat
import Derived.Test.YtcpkdjikembpnaaWaau
set_option linter.unusedVariables false
set_option linter.unusedSimpArgs false
set_option maxRecDepth 1000000
set_option maxHeartbeats 4000000
namespace Go.Proofs.Ytcpkdjikembpnaa.Ce
section
open Go.RowKit
def sz (E:Ext):List Int:=E.map (·.1)
def al (E:Ext):List Int:=E.map (·.2)
theorem sz_length (E:Ext):(sz E).length=E.length:=by simp [sz]
theorem al_length (E:Ext):(al E).length=E.length:=by simp [al]
theorem sz_get {E:Ext} {j:Nat} (hj:j<E.length):lget (iv (sz E)) j=some (.int .i64 (E.at_ (j:Int)).1)∧lget (iv (al E)) j=some (.int .i64 (E.at_ (j:Int)).2):=by
 have e:E.at_ (j:Int)=E[j]:=by unfold Ext.at_;rw [Int.toNat_natCast,List.getD_eq_getElem?_getD,List.getElem?_eq_getElem hj];rfl
 rw [e,lget_eq,lget_eq,iv_get (by rw [sz_length];exact hj),iv_get (by rw [al_length];exact hj)]
 simp [sz,al]
theorem sz_app (E G:Ext):sz (E ++ G)=sz E ++ sz G:=by simp [sz]
theorem al_app (E G:Ext):al (E ++ G)=al E ++ al G:=by simp [al]
theorem min_far {c:Int}:(if c<1000000 then c else (1000000:Int))=min 1000000 c:=by rw [Int.min_def];split <;> split <;> omega
theorem max_if2 {a c:Int}:(if a<c then c else a)=max a c:=by rw [Int.max_def];split <;> split <;> omega
variable (k d cl:Nat) (h:Hp) (n:Nat)
theorem rup_ev (x a:Int) (ha:Al a) (hx:0≤x) (hx2:x≤4611686018427387904) :
  SQ k (d+1) cl 123 [.int .i64 x,.int .i64 a] h n fun v h' n'=>v = .int .i64 (upI x a)∧h'=h∧n'=n:=by
 have hb:=upI_bnd ha hx
 unfold upI at hb
 refine enter Try.func123 kz rfl kz rfl rfl rfl ?_
 rcases ha with rfl|rfl
 all_goals
  (repeat' first|refine zcd ?_|intro K' hK|(with_reducible refine zn hK ?_;clear hK)|fail|((with_reducible first|apply zo1|apply zo2|apply o_guard rfl|apply x_cond|apply k_e1 rfl|apply k_e2 rfl|apply k_e0 rfl|apply k_e3 rfl|apply k_e4 rfl);(case he=>exact ez0);(try case hok=>exact ezO);all_goals try (intro hb;(try simp only [hbs,reduceCtorEq] at hb);try exact ezX))|((with_reducible apply o_undef rfl);(case hb=>exact ez0)))
  all_goals exact sw_flat rfl rfl ⟨by unfold upI;first|rfl|(congr 1;done)|(congr 1;omega),rfl,rfl⟩
theorem rtog_nil (hk:30000≤k) (SA AA FA:Option Addr) (m sc ac fc:Nat) :
  SQ k (d+2) cl 105 [.slice SA m sc,.slice AA m ac,.slice FA 0 fc] h n fun v h' n'=>v = .tuple ⟨[.slice none 0 0,.int .i64 0,.int .i64 1]⟩∧h'=h∧n'=n:=by
 have ha:Al 1:=.inl rfl
 refine enter Try.func105 kz rfl kz rfl rfl rfl ?_
 (repeat' first|refine zcd ?_|intro K' hK|(with_reducible refine zn hK ?_;clear hK)|(with_reducible refine x_turns ?_)|(with_reducible refine x_turn zm ?_)|(with_reducible refine k_turn ?_)|((with_reducible apply o_callF (g:=123) w_none);(case ha=>exact ez0);(case hs=>((with_reducible apply rup_ev) <;> (first|assumption|omega)));(case' hk=>rintro _ h' n' ⟨rfl,rfl,rfl⟩))|((with_reducible first|apply zo1|apply zo2|apply o_guard rfl|apply x_cond|apply k_e1 rfl|apply k_e2 rfl|apply k_e0 rfl|apply k_e3 rfl|apply k_e4 rfl);(case he=>exact ez1 @upI_1);(try case hok=>exact ezO);all_goals try (intro hb;(try simp only [hbs,reduceCtorEq] at hb);try exact ezX))|((with_reducible apply o_undef rfl);(case hb=>exact ez0)))
 all_goals exact sw_flat rfl rfl ⟨rfl,rfl,rfl⟩
theorem rtog_ev (hk:30000≤k) (SA AA FA:Option Addr) (E:Ext) (m sc ac:Nat) (fs:List (List UInt8 × Int)) (fc:Nat) (hm:m=E.length) (h0:fs≠[]) (hs:RdH h n SA (iv (sz E))) (ha:RdH h n AA (iv (al E))) (hr:RdH h n FA (fv fs)) (hl2:fs.length≤20) (hf:FOk 1000000 E fs) (hx:∀ f∈fs,0≤f.2∧f.2<E.length) :
  SQ k (d+2) cl 105 [.slice SA m sc,.slice AA m ac,.slice FA fs.length fc] h n fun v h' n'=>v = .tuple ⟨[.slice (some ⟨n,0,none⟩) fs.length fs.length,.int .i64 (upI (layR 1000000 E fs).2.1 (layR 1000000 E fs).2.2),.int .i64 (layR 1000000 E fs).2.2]⟩∧h'=h.set n (.row 3 false (iv (layR 1000000 E fs).1))∧n'=n+1:=by
 subst hm
 have hfp:0<fs.length:=List.length_pos_iff.2 h0
 refine enter Try.func105 kz rfl kz rfl rfl rfl ?_
 (repeat' first|refine zcd ?_|intro K' hK|(with_reducible refine zn hK ?_;clear hK)|fail|((with_reducible first|apply zo1|apply zo2|apply o_guard rfl|apply x_cond|apply k_e1 rfl|apply k_e2 rfl|apply k_e0 rfl|apply k_e3 rfl|apply k_e4 rfl);(case he=>exact ez0);(try case hok=>exact ezO);all_goals try (intro hb;(try simp only [hbs,reduceCtorEq] at hb);try exact ezX))|((with_reducible apply o_undef rfl);(case hb=>exact ez0)))
 refine x_loopV [9,10,11,12,13,14,15,16,17,18,19,20,21,22,23,24,25,26,27,28,29,30,31,32,33,34,35,36,37,38,39,40,41,42,43,44,45,46,47,48] [9,10,11,12] (fun m vs h' n'=>∃ (q:Nat) (O:Value),m=fs.length - q∧q≤fs.length∧vs=[O,.int .i64 (layR 1000000 E (fs.take q)).2.1,.int .i64 (layR 1000000 E (fs.take q)).2.2,.int .i64 q]∧n≤n'∧RdH h' n SA (iv (sz E))∧RdH h' n AA (iv (al E))∧RdH h' n FA (fv fs) ∧
   ((q=0∧O = .slice none 0 0)∨(0<q∧∃ id,n≤id∧id<n'∧O = .slice (some ⟨id,0,none⟩) q q∧rowOf h' id=some (3,false,iv (layR 1000000 E (fs.take q)).1)))) fs.length rfl zm ?_ ?_
 ·exact ⟨0,.slice none 0 0,rfl,by omega,by simp (disch:=first|assumption|omega|rfl|decide) only [go_sem,seval,tys] <;> rfl,by omega,hs,ha,hr,.inl ⟨rfl,rfl⟩⟩
 ·rintro mm g _ h' n' ⟨q,O,rfl,hq,rfl,hn,r1,r2,r3,hO⟩
  obtain ⟨hs0,hs1,hs2⟩:=layR_ok (C:=1000000) zm hf q hq
  have hb2:=hs2.bnd
  by_cases hqf:q<fs.length
  ·obtain ⟨id2,off2,hFA,hid2, -, -,hfb⟩:=fld_at r3 hqf
   have hmem:=List.getElem_mem hqf
   have htk:=layR_take 1000000 E hqf
   have hlen:=layR_len 1000000 E fs q hq
   have hfo:=hf _ hmem
   have hxo:=hx _ hmem
   obtain ⟨ty,hty⟩:∃ ty,(fs[q]).2=ty:=⟨_,rfl⟩
   unfold lStep at htk
   rw [hty] at hfb hfo hxo htk
   obtain ⟨j,rfl⟩:=Int.eq_ofNat_of_zero_le hxo.1
   have hjE:j<E.length:=by omega
   obtain ⟨g1,g2⟩:=sz_get hjE
   obtain ⟨is_,os,hSA,his,hsc⟩:=int_at r1 (i:=j) (by rw [sz_length];exact hjE)
   obtain ⟨ia,oa,hAA,hia,hac⟩:=int_at r2 (i:=j) (by rw [al_length];exact hjE)
   have es:(sz E)[j]'(by rw [sz_length];exact hjE)=(E.at_ (j:Int)).1:=by rw [lget_eq,iv_get (by rw [sz_length];exact hjE)] at g1;injection g1 with g1;injection g1
   have ea:(al E)[j]'(by rw [al_length];exact hjE)=(E.at_ (j:Int)).2:=by rw [lget_eq,iv_get (by rw [al_length];exact hjE)] at g2;injection g2 with g2;injection g2
   rw [es] at hsc
   rw [ea] at hac
   obtain ⟨y,hy⟩:∃ y,E.at_ (j:Int)=y:=⟨_,rfl⟩
   rw [hy] at hsc hac hfo htk
   obtain ⟨ys,ya⟩:=y
   obtain ⟨f1,f2,f3⟩:=hfo
   dsimp only at f1 f2 f3 htk hsc hac
   have f3b:=f3.bnd
   obtain ⟨st,hst⟩:∃ st,layR 1000000 E (fs.take q)=st:=⟨_,rfl⟩
   rw [hst] at hs0 hs1 hs2 hb2 htk hlen hO ⊢
   have hub:=upI_bnd f3 hs0
   have hrow:iv (layR 1000000 E (fs.take (q+1))).1=iv st.1 ++ [.int .i64 (upI st.2.1 ya)]:=by rw [htk,iv_app];rfl
   have htw:(iv st.1).take q=iv st.1:=List.take_of_length_le (by rw [iv_length,hlen];omega)
   subst hSA;subst hAA;subst hFA
   rcases hO with ⟨rfl,rfl⟩|⟨hp0,id,k1,k2,rfl,q4⟩
   ·simp only [Nat.zero_mul,Nat.add_zero] at hfb
    have hn0:st.1=[]:=List.length_eq_zero_iff.1 hlen
    (repeat' first|refine zcd ?_|intro K' hK|(with_reducible refine zn hK ?_;clear hK)|((with_reducible apply o_callF (g:=123) w_none);(case ha=>exact ez0);(case hs=>((with_reducible apply rup_ev) <;> (first|assumption|omega)));(case' hk=>rintro _ h' n' ⟨rfl,rfl,rfl⟩))|((with_reducible apply o_ap0 (t:=99) apT99 w_none);(case hs=>exact ez0);(case hy=>exact ez0);(case hsrc=>exact src_row (rowOf_same _ _ _ _ _) rfl);(case hc=>exact rfl);(case hm=>omega);(case h0=>omega))|((with_reducible first|apply zo1|apply zo2|apply o_guard rfl|apply x_cond|apply k_e1 rfl|apply k_e2 rfl|apply k_e0 rfl|apply k_e3 rfl|apply k_e4 rfl);(case he=>exact ez5 hfb hsc hac @min_far @max_if2);(try case hok=>exact ezO);all_goals try (intro hb;(try simp only [hbs,reduceCtorEq] at hb);try exact ezX))|((with_reducible apply o_undef rfl);(case hb=>exact ez0)))
    refine k_round (fs.length - 1) zm ⟨1,.slice (some ⟨n'+1,0,none⟩) 1 1,rfl,by omega,by rw [htk];simp (disch:=first|assumption|omega|rfl|decide) only [go_sem,seval,tys] <;> rfl,by omega,by exact ezD r1,by exact ezD r2,by exact ezD r3,.inr ⟨by omega,n'+1,by omega,by omega,rfl,?_⟩⟩
    rw [hrow,hn0]
    simp (disch:=first|assumption|omega|rfl|decide) only [go_sem,seval,tys]
    exact rfl
   ·have w4:=rwOf_row q4
    (repeat' first|refine zcd ?_|intro K' hK|(with_reducible refine zn hK ?_;clear hK)|((with_reducible apply o_callF (g:=123) w_none);(case ha=>exact ez0);(case hs=>((with_reducible apply rup_ev) <;> (first|assumption|omega)));(case' hk=>rintro _ h' n' ⟨rfl,rfl,rfl⟩))|((with_reducible apply o_apR (t:=99) apT99 w_none);(case hs=>exact ez1 w4);(case hy=>exact ez1 w4);(case hsrc=>exact src_row (rowOf_same _ _ _ _ _) rfl);(case hr=>exact ez1 w4);(case hc=>exact rfl);(case hm=>omega);(case hli=>omega);(case hln=>omega);(case hcs=>rw [iv_length,hlen];omega))|((with_reducible first|apply zo1|apply zo2|apply o_guard rfl|apply x_cond|apply k_e1 rfl|apply k_e2 rfl|apply k_e0 rfl|apply k_e3 rfl|apply k_e4 rfl);(case he=>exact ez5 hfb hsc hac @min_far @max_if2);(try case hok=>exact ezO);all_goals try (intro hb;(try simp only [hbs,reduceCtorEq] at hb);try exact ezX))|((with_reducible apply o_undef rfl);(case hb=>exact ez0)))
    refine k_round (fs.length - (q+1)) zm ⟨q+1,.slice (some ⟨n'+1,0,none⟩) (q+1) (q+1),rfl,by omega,by rw [htk];simp (disch:=first|assumption|omega|rfl|decide) only [go_sem,seval,tys] <;> rfl,by omega,by exact ezD r1,by exact ezD r2,by exact ezD r3,.inr ⟨by omega,n'+1,by omega,by omega,rfl,?_⟩⟩
    rw [hrow]
    simp (disch:=first|assumption|omega|rfl|decide) only [go_sem,seval,tys,htw]
  ·obtain rfl:q=fs.length:=by omega
   rw [List.take_length] at hs0 hs1 hs2 hb2 hO ⊢
   rcases hO with ⟨hz, -⟩|⟨hp0,id,k1,k2,rfl,q4⟩
   ·omega
   ·have hle:=upI_le hs2 (by decide:(1000000:Int) % 8=0) hs1
    have hmin:min 1000000 (upI (layR 1000000 E fs).2.1 (layR 1000000 E fs).2.2)=upI (layR 1000000 E fs).2.1 (layR 1000000 E fs).2.2:=by omega
    (repeat' first|refine zcd ?_|intro K' hK|(with_reducible refine zn hK ?_;clear hK)|((with_reducible apply o_callF (g:=123) w_none);(case ha=>exact ez0);(case hs=>((with_reducible apply rup_ev) <;> (first|assumption|omega)));(case' hk=>rintro _ h' n' ⟨rfl,rfl,rfl⟩))|((with_reducible first|apply zo1|apply zo2|apply o_guard rfl|apply x_cond|apply k_e1 rfl|apply k_e2 rfl|apply k_e0 rfl|apply k_e3 rfl|apply k_e4 rfl);(case he=>exact ez2 @min_far hmin);(try case hok=>exact ezO);all_goals try (intro hb;(try simp only [hbs,reduceCtorEq] at hb);try exact ezX))|((with_reducible apply o_undef rfl);(case hb=>exact ez0)))
    refine sw_row ezI rfl zm (by simp (disch:=first|assumption|omega|rfl|decide) only [go_sem,seval,tys,q4];exact rfl) (iv_idA _ _) ezR ?_
    exact ⟨rfl,rfl,rfl⟩
end
section
open Go.RowKit
variable (k d cl:Nat) (h:Hp) (n:Nat)
theorem rsizes_ev (hk:30000≤k) (A:Option Addr) (T:List Tp) (c:Nat) (hT:TabH h n A T) (hl:T.length≤32) (h0T:0<T.length) (hF:Fine T) :
  SQ k (d+3) cl 75 [.slice A T.length c] h n fun v h' n'=>v = .tuple ⟨[.slice (some ⟨n,0,none⟩) T.length T.length,.slice (some ⟨n+1,0,none⟩) T.length T.length]⟩∧h'=(h.set n (.row 3 false (iv (sz (eRow 1000000 T))))).set (n+1) (.row 3 false (iv (al (eRow 1000000 T))))∧n'=n+1+1:=by
 refine enter Try.func75 kz rfl kz rfl rfl rfl ?_
 (repeat' first|refine zcd ?_|intro K' hK|(with_reducible refine zn hK ?_;clear hK)|fail|((with_reducible first|apply zo1|apply zo2|apply o_guard rfl|apply x_cond|apply k_e1 rfl|apply k_e2 rfl|apply k_e0 rfl|apply k_e3 rfl|apply k_e4 rfl);(case he=>exact ez0);(try case hok=>exact ezO);all_goals try (intro hb;(try simp only [hbs,reduceCtorEq] at hb);try exact ezX))|((with_reducible apply o_undef rfl);(case hb=>exact ez0)))
 refine x_loopV [4,5,6,7,8,9,10,11,12,13,14,15,16,17,18,19,20,21,22,23,24,25,26,27,28,29,30,31,32,33,34,35,36,37,38,39,40,41,42,43,44,45,46,47,48,49,50,51,52,53,54,55,56,57,58,59,60,61,62,63,64,65,66,67,68,69,70,71,72] [4,5,6] (fun m vs h' n'=>∃ (i:Nat) (O1 O2:Value),m=T.length - i∧i≤T.length∧vs=[O1,O2,.int .i64 i]∧n≤n'∧TabH h' n A T ∧
   ((i=0∧O1 = .slice none 0 0∧O2 = .slice none 0 0)∨(0<i∧∃ id1 id2,n≤id1∧id1<n'∧n≤id2∧id2<n'∧id1≠id2∧O1 = .slice (some ⟨id1,0,none⟩) i i∧O2 = .slice (some ⟨id2,0,none⟩) i i∧rowOf h' id1=some (3,false,iv (sz (eRow 1000000 (T.take i))))∧rowOf h' id2=some (3,false,iv (al (eRow 1000000 (T.take i))))))) T.length rfl zm ?_ ?_
 ·exact ⟨0,.slice none 0 0,.slice none 0 0,rfl,by omega,by simp (disch:=first|assumption|omega|rfl|decide) only [go_sem,seval,tys] <;> rfl,by omega,hT,.inl ⟨rfl,rfl,rfl⟩⟩
 ·rintro m g _ h' n' ⟨i,O1,O2,rfl,hi,rfl,hn,hT2,hO⟩
  by_cases hiT:i<T.length
  ·obtain ⟨tid,toff,hA,htid, -,ht0,ht1,ht2,ht3⟩:=hT2.at_ hiT
   have hfine:=hF i hiT
   have hEl:=eRow_tlen 1000000 hi
   have hEok:=eRow_ok (C:=1000000) zm (by decide) hF i hi
   have hrt:=eRow_take 1000000 hiT
   obtain ⟨t,htt⟩:∃ t,T[i]=t:=⟨_,rfl⟩
   have hmem:t∈T:=by rw [← htt];exact List.getElem_mem hiT
   have hfd2:=hT2.fd t hmem
   rw [htt] at ht0 ht1 ht2 ht3 hfine hrt
   have hkd:=fine_kd hfine
   have hfl:=fine_len hfine
   obtain ⟨E,hE⟩:∃ E,eRow 1000000 (T.take i)=E:=⟨_,rfl⟩
   rw [hE] at hEl hEok hrt hO
   have hrs:iv (sz (eRow 1000000 (T.take (i+1))))=iv (sz E) ++ [.int .i64 (eOne 1000000 E t).1]:=by rw [hrt,sz_app,iv_app];rfl
   have hra:iv (al (eRow 1000000 (T.take (i+1))))=iv (al E) ++ [.int .i64 (eOne 1000000 E t).2]:=by rw [hrt,al_app,iv_app];rfl
   have hts:(iv (sz E)).take i=iv (sz E):=List.take_of_length_le (by rw [iv_length,sz_length,hEl];omega)
   have hta:(iv (al E)).take i=iv (al E):=List.take_of_length_le (by rw [iv_length,al_length,hEl];omega)
   subst hA
   by_cases h1:t.kd=1
   ·have hov:=eOne_1 (C:=1000000) (E:=E) h1
    rw [h1] at ht0
    rcases hO with ⟨rfl,rfl,rfl⟩|⟨h0,id1,id2,k1,k2,k3,k4,k5,rfl,rfl,q4,q5⟩
    ·simp only [Nat.zero_mul,Nat.add_zero] at ht0 ht1 ht2 ht3
     have hn0:E=[]:=List.length_eq_zero_iff.1 hEl
     (repeat' first|refine zcd ?_|intro K' hK|(with_reducible refine zn hK ?_;clear hK)|((with_reducible apply o_ap0 (t:=99) apT99 w_none);(case hs=>exact ez0);(case hy=>exact ez0);(case hsrc=>exact src_row (rowOf_same _ _ _ _ _) rfl);(case hc=>exact rfl);(case hm=>omega);(case h0=>omega))|((with_reducible first|apply zo1|apply zo2|apply o_guard rfl|apply x_cond|apply k_e1 rfl|apply k_e2 rfl|apply k_e0 rfl|apply k_e3 rfl|apply k_e4 rfl);(case he=>exact ez4 ht0 ht1 ht2 ht3);(try case hok=>exact ezO);all_goals try (intro hb;(try simp only [hbs,reduceCtorEq] at hb);try exact ezX))|((with_reducible apply o_undef rfl);(case hb=>exact ez0)))
     refine k_round (T.length - 1) zm ⟨1,.slice (some ⟨n'+1,0,none⟩) 1 1,.slice (some ⟨n'+1+1+1,0,none⟩) 1 1,rfl,by omega,by simp (disch:=first|assumption|omega|rfl|decide) only [go_sem,seval,tys] <;> rfl,by omega,(ezT hT2),.inr ⟨by omega,n'+1,n'+1+1+1,by omega,by omega,by omega,by omega,by omega,rfl,rfl,?_,?_⟩⟩
     ·rw [hrs,hov,hn0];simp (disch:=first|assumption|omega|rfl|decide) only [go_sem,seval,tys] <;> rfl
     ·rw [hra,hov,hn0];simp (disch:=first|assumption|omega|rfl|decide) only [go_sem,seval,tys] <;> rfl
    ·have w4:=rwOf_row q4
     have w5:=rwOf_row q5
     (repeat' first|refine zcd ?_|intro K' hK|(with_reducible refine zn hK ?_;clear hK)|((with_reducible apply o_apR (t:=99) apT99 w_none);(case hs=>exact ez2 w4 w5);(case hy=>exact ez2 w4 w5);(case hsrc=>exact src_row (rowOf_same _ _ _ _ _) rfl);(case hr=>exact ez2 w4 w5);(case hc=>exact rfl);(case hm=>omega);(case hli=>omega);(case hln=>omega);(case hcs=>first|(rw [iv_length,sz_length,hEl];omega)|(rw [iv_length,al_length,hEl];omega)))|((with_reducible first|apply zo1|apply zo2|apply o_guard rfl|apply x_cond|apply k_e1 rfl|apply k_e2 rfl|apply k_e0 rfl|apply k_e3 rfl|apply k_e4 rfl);(case he=>exact ez4 ht0 ht1 ht2 ht3);(try case hok=>exact ezO);all_goals try (intro hb;(try simp only [hbs,reduceCtorEq] at hb);try exact ezX))|((with_reducible apply o_undef rfl);(case hb=>exact ez0)))
     refine k_round (T.length - (i+1)) zm ⟨i+1,.slice (some ⟨n'+1,0,none⟩) (i+1) (i+1),.slice (some ⟨n'+1+1+1,0,none⟩) (i+1) (i+1),rfl,by omega,by simp (disch:=first|assumption|omega|rfl|decide) only [go_sem,seval,tys] <;> rfl,by omega,(ezT hT2),.inr ⟨by omega,n'+1,n'+1+1+1,by omega,by omega,by omega,by omega,by omega,rfl,rfl,?_,?_⟩⟩
     ·rw [hrs,hov];simp (disch:=first|assumption|omega|rfl|decide) only [go_sem,seval,tys,hts]
     ·rw [hra,hov];simp (disch:=first|assumption|omega|rfl|decide) only [go_sem,seval,tys,hta]
   ·by_cases h24:t.kd=2∨t.kd=4
    ·have hov:=eOne_24 (C:=1000000) (E:=E) h24
     rcases h24 with h2|h2
     all_goals
      rw [h2] at ht0
      rcases hO with ⟨rfl,rfl,rfl⟩|⟨h0,id1,id2,k1,k2,k3,k4,k5,rfl,rfl,q4,q5⟩
      ·simp only [Nat.zero_mul,Nat.add_zero] at ht0 ht1 ht2 ht3
       have hn0:E=[]:=List.length_eq_zero_iff.1 hEl
       (repeat' first|refine zcd ?_|intro K' hK|(with_reducible refine zn hK ?_;clear hK)|((with_reducible apply o_ap0 (t:=99) apT99 w_none);(case hs=>exact ez0);(case hy=>exact ez0);(case hsrc=>exact src_row (rowOf_same _ _ _ _ _) rfl);(case hc=>exact rfl);(case hm=>omega);(case h0=>omega))|((with_reducible first|apply zo1|apply zo2|apply o_guard rfl|apply x_cond|apply k_e1 rfl|apply k_e2 rfl|apply k_e0 rfl|apply k_e3 rfl|apply k_e4 rfl);(case he=>exact ez4 ht0 ht1 ht2 ht3);(try case hok=>exact ezO);all_goals try (intro hb;(try simp only [hbs,reduceCtorEq] at hb);try exact ezX))|((with_reducible apply o_undef rfl);(case hb=>exact ez0)))
       refine k_round (T.length - 1) zm ⟨1,.slice (some ⟨n'+1,0,none⟩) 1 1,.slice (some ⟨n'+1+1+1,0,none⟩) 1 1,rfl,by omega,by simp (disch:=first|assumption|omega|rfl|decide) only [go_sem,seval,tys] <;> rfl,by omega,(ezT hT2),.inr ⟨by omega,n'+1,n'+1+1+1,by omega,by omega,by omega,by omega,by omega,rfl,rfl,?_,?_⟩⟩
       ·rw [hrs,hov,hn0];simp (disch:=first|assumption|omega|rfl|decide) only [go_sem,seval,tys] <;> rfl
       ·rw [hra,hov,hn0];simp (disch:=first|assumption|omega|rfl|decide) only [go_sem,seval,tys] <;> rfl
      ·have w4:=rwOf_row q4
       have w5:=rwOf_row q5
       (repeat' first|refine zcd ?_|intro K' hK|(with_reducible refine zn hK ?_;clear hK)|((with_reducible apply o_apR (t:=99) apT99 w_none);(case hs=>exact ez2 w4 w5);(case hy=>exact ez2 w4 w5);(case hsrc=>exact src_row (rowOf_same _ _ _ _ _) rfl);(case hr=>exact ez2 w4 w5);(case hc=>exact rfl);(case hm=>omega);(case hli=>omega);(case hln=>omega);(case hcs=>first|(rw [iv_length,sz_length,hEl];omega)|(rw [iv_length,al_length,hEl];omega)))|((with_reducible first|apply zo1|apply zo2|apply o_guard rfl|apply x_cond|apply k_e1 rfl|apply k_e2 rfl|apply k_e0 rfl|apply k_e3 rfl|apply k_e4 rfl);(case he=>exact ez4 ht0 ht1 ht2 ht3);(try case hok=>exact ezO);all_goals try (intro hb;(try simp only [hbs,reduceCtorEq] at hb);try exact ezX))|((with_reducible apply o_undef rfl);(case hb=>exact ez0)))
       refine k_round (T.length - (i+1)) zm ⟨i+1,.slice (some ⟨n'+1,0,none⟩) (i+1) (i+1),.slice (some ⟨n'+1+1+1,0,none⟩) (i+1) (i+1),rfl,by omega,by simp (disch:=first|assumption|omega|rfl|decide) only [go_sem,seval,tys] <;> rfl,by omega,(ezT hT2),.inr ⟨by omega,n'+1,n'+1+1+1,by omega,by omega,by omega,by omega,by omega,rfl,rfl,?_,?_⟩⟩
       ·rw [hrs,hov];simp (disch:=first|assumption|omega|rfl|decide) only [go_sem,seval,tys,hts]
       ·rw [hra,hov];simp (disch:=first|assumption|omega|rfl|decide) only [go_sem,seval,tys,hta]
    ·by_cases h3:t.kd=3
     ·have hov:=eOne_3 (C:=1000000) (E:=E) h3
      rw [h3] at ht0
      rcases hO with ⟨rfl,rfl,rfl⟩|⟨h0,id1,id2,k1,k2,k3,k4,k5,rfl,rfl,q4,q5⟩
      ·simp only [Nat.zero_mul,Nat.add_zero] at ht0 ht1 ht2 ht3
       have hn0:E=[]:=List.length_eq_zero_iff.1 hEl
       (repeat' first|refine zcd ?_|intro K' hK|(with_reducible refine zn hK ?_;clear hK)|((with_reducible apply o_ap0 (t:=99) apT99 w_none);(case hs=>exact ez0);(case hy=>exact ez0);(case hsrc=>exact src_row (rowOf_same _ _ _ _ _) rfl);(case hc=>exact rfl);(case hm=>omega);(case h0=>omega))|((with_reducible first|apply zo1|apply zo2|apply o_guard rfl|apply x_cond|apply k_e1 rfl|apply k_e2 rfl|apply k_e0 rfl|apply k_e3 rfl|apply k_e4 rfl);(case he=>exact ez4 ht0 ht1 ht2 ht3);(try case hok=>exact ezO);all_goals try (intro hb;(try simp only [hbs,reduceCtorEq] at hb);try exact ezX))|((with_reducible apply o_undef rfl);(case hb=>exact ez0)))
       refine k_round (T.length - 1) zm ⟨1,.slice (some ⟨n'+1,0,none⟩) 1 1,.slice (some ⟨n'+1+1+1,0,none⟩) 1 1,rfl,by omega,by simp (disch:=first|assumption|omega|rfl|decide) only [go_sem,seval,tys] <;> rfl,by omega,(ezT hT2),.inr ⟨by omega,n'+1,n'+1+1+1,by omega,by omega,by omega,by omega,by omega,rfl,rfl,?_,?_⟩⟩
       ·rw [hrs,hov,hn0];simp (disch:=first|assumption|omega|rfl|decide) only [go_sem,seval,tys] <;> rfl
       ·rw [hra,hov,hn0];simp (disch:=first|assumption|omega|rfl|decide) only [go_sem,seval,tys] <;> rfl
      ·have w4:=rwOf_row q4
       have w5:=rwOf_row q5
       (repeat' first|refine zcd ?_|intro K' hK|(with_reducible refine zn hK ?_;clear hK)|((with_reducible apply o_apR (t:=99) apT99 w_none);(case hs=>exact ez2 w4 w5);(case hy=>exact ez2 w4 w5);(case hsrc=>exact src_row (rowOf_same _ _ _ _ _) rfl);(case hr=>exact ez2 w4 w5);(case hc=>exact rfl);(case hm=>omega);(case hli=>omega);(case hln=>omega);(case hcs=>first|(rw [iv_length,sz_length,hEl];omega)|(rw [iv_length,al_length,hEl];omega)))|((with_reducible first|apply zo1|apply zo2|apply o_guard rfl|apply x_cond|apply k_e1 rfl|apply k_e2 rfl|apply k_e0 rfl|apply k_e3 rfl|apply k_e4 rfl);(case he=>exact ez4 ht0 ht1 ht2 ht3);(try case hok=>exact ezO);all_goals try (intro hb;(try simp only [hbs,reduceCtorEq] at hb);try exact ezX))|((with_reducible apply o_undef rfl);(case hb=>exact ez0)))
       refine k_round (T.length - (i+1)) zm ⟨i+1,.slice (some ⟨n'+1,0,none⟩) (i+1) (i+1),.slice (some ⟨n'+1+1+1,0,none⟩) (i+1) (i+1),rfl,by omega,by simp (disch:=first|assumption|omega|rfl|decide) only [go_sem,seval,tys] <;> rfl,by omega,(ezT hT2),.inr ⟨by omega,n'+1,n'+1+1+1,by omega,by omega,by omega,by omega,by omega,rfl,rfl,?_,?_⟩⟩
       ·rw [hrs,hov];simp (disch:=first|assumption|omega|rfl|decide) only [go_sem,seval,tys,hts]
       ·rw [hra,hov];simp (disch:=first|assumption|omega|rfl|decide) only [go_sem,seval,tys,hta]
     ·by_cases h7:t.kd=7
      ·have hov:=eOne_7 (C:=1000000) (E:=E) h7
       rw [h7] at ht0
       rcases hO with ⟨rfl,rfl,rfl⟩|⟨h0,id1,id2,k1,k2,k3,k4,k5,rfl,rfl,q4,q5⟩
       ·simp only [Nat.zero_mul,Nat.add_zero] at ht0 ht1 ht2 ht3
        have hn0:E=[]:=List.length_eq_zero_iff.1 hEl
        (repeat' first|refine zcd ?_|intro K' hK|(with_reducible refine zn hK ?_;clear hK)|((with_reducible apply o_ap0 (t:=99) apT99 w_none);(case hs=>exact ez0);(case hy=>exact ez0);(case hsrc=>exact src_row (rowOf_same _ _ _ _ _) rfl);(case hc=>exact rfl);(case hm=>omega);(case h0=>omega))|((with_reducible first|apply zo1|apply zo2|apply o_guard rfl|apply x_cond|apply k_e1 rfl|apply k_e2 rfl|apply k_e0 rfl|apply k_e3 rfl|apply k_e4 rfl);(case he=>exact ez4 ht0 ht1 ht2 ht3);(try case hok=>exact ezO);all_goals try (intro hb;(try simp only [hbs,reduceCtorEq] at hb);try exact ezX))|((with_reducible apply o_undef rfl);(case hb=>exact ez0)))
        refine k_round (T.length - 1) zm ⟨1,.slice (some ⟨n'+1,0,none⟩) 1 1,.slice (some ⟨n'+1+1+1,0,none⟩) 1 1,rfl,by omega,by simp (disch:=first|assumption|omega|rfl|decide) only [go_sem,seval,tys] <;> rfl,by omega,(ezT hT2),.inr ⟨by omega,n'+1,n'+1+1+1,by omega,by omega,by omega,by omega,by omega,rfl,rfl,?_,?_⟩⟩
        ·rw [hrs,hov,hn0];simp (disch:=first|assumption|omega|rfl|decide) only [go_sem,seval,tys] <;> rfl
        ·rw [hra,hov,hn0];simp (disch:=first|assumption|omega|rfl|decide) only [go_sem,seval,tys] <;> rfl
       ·have w4:=rwOf_row q4
        have w5:=rwOf_row q5
        (repeat' first|refine zcd ?_|intro K' hK|(with_reducible refine zn hK ?_;clear hK)|((with_reducible apply o_apR (t:=99) apT99 w_none);(case hs=>exact ez2 w4 w5);(case hy=>exact ez2 w4 w5);(case hsrc=>exact src_row (rowOf_same _ _ _ _ _) rfl);(case hr=>exact ez2 w4 w5);(case hc=>exact rfl);(case hm=>omega);(case hli=>omega);(case hln=>omega);(case hcs=>first|(rw [iv_length,sz_length,hEl];omega)|(rw [iv_length,al_length,hEl];omega)))|((with_reducible first|apply zo1|apply zo2|apply o_guard rfl|apply x_cond|apply k_e1 rfl|apply k_e2 rfl|apply k_e0 rfl|apply k_e3 rfl|apply k_e4 rfl);(case he=>exact ez4 ht0 ht1 ht2 ht3);(try case hok=>exact ezO);all_goals try (intro hb;(try simp only [hbs,reduceCtorEq] at hb);try exact ezX))|((with_reducible apply o_undef rfl);(case hb=>exact ez0)))
        refine k_round (T.length - (i+1)) zm ⟨i+1,.slice (some ⟨n'+1,0,none⟩) (i+1) (i+1),.slice (some ⟨n'+1+1+1,0,none⟩) (i+1) (i+1),rfl,by omega,by simp (disch:=first|assumption|omega|rfl|decide) only [go_sem,seval,tys] <;> rfl,by omega,(ezT hT2),.inr ⟨by omega,n'+1,n'+1+1+1,by omega,by omega,by omega,by omega,by omega,rfl,rfl,?_,?_⟩⟩
        ·rw [hrs,hov];simp (disch:=first|assumption|omega|rfl|decide) only [go_sem,seval,tys,hts]
        ·rw [hra,hov];simp (disch:=first|assumption|omega|rfl|decide) only [go_sem,seval,tys,hta]
      ·by_cases h6:t.kd=6
       ·have hov:=eOne_6 (C:=1000000) (E:=E) h6
        have har:=fine_arr hfine h6
        obtain ⟨j,hj⟩:=Int.eq_ofNat_of_zero_le har.1
        rw [hj] at hov har ht1
        have hgs:=sz_get (E:=E) (j:=j) zm
        obtain ⟨g1,g2⟩:=hgs
        obtain ⟨b1,b2,b3⟩:=Ext.at_mem hEok (i:=(j:Int)) har.1 zm
        have hmul:0≤t.ln*(E.at_ (j:Int)).1∧t.ln*(E.at_ (j:Int)).1≤16*1000000:=⟨Int.mul_nonneg zm b1,Int.mul_le_mul har.2.2.2 b2 b1 zm⟩
        rw [h6] at ht0
        rcases hO with ⟨h0, -, -⟩|⟨h0,id1,id2,k1,k2,k3,k4,k5,rfl,rfl,q4,q5⟩
        ·omega
        ·have w4:=rwOf_row q4
         have w5:=rwOf_row q5
         have e4:=fun o=>cellAt_row (off:=o) q4
         have e5:=fun o=>cellAt_row (off:=o) q5
         (repeat' first|refine zcd ?_|intro K' hK|(with_reducible refine zn hK ?_;clear hK)|(with_reducible refine x_drawnD (id:=14) [(4,10),(4,12),(4,20),(10,20),(12,20),(4,22),(10,22),(12,22)] kz fun K' hK=>?_)|((with_reducible apply d_nil);(case hp=>exact ezP);(case' hx=>(refine hK _ _ _ ?_;clear hK)))|((with_reducible apply d_pure w_none);(case hp=>exact rfl);(case hc=>exact rfl);(case he=>exact ez9 ht0 ht1 ht2 ht3 e4 e5 g1 g2 @min_far))|((with_reducible apply d_eff w_none);(case hc=>exact rfl);(case he=>exact ez9 ht0 ht1 ht2 ht3 e4 e5 g1 g2 @min_far);(case hok=>exact ezO))|((with_reducible apply d_guard rfl);(case hb=>exact ez9 ht0 ht1 ht2 ht3 e4 e5 g1 g2 @min_far);(case' h1=>intro hb;(try simp only [hbs,reduceCtorEq] at hb);try exact ezX);(case' h2=>intro hb;(try simp only [hbs,reduceCtorEq] at hb);try exact ezX))|((with_reducible apply o_apR (t:=99) apT99 w_none);(case hs=>exact ez2 w4 w5);(case hy=>exact ez2 w4 w5);(case hsrc=>exact src_row (rowOf_same _ _ _ _ _) rfl);(case hr=>exact ez2 w4 w5);(case hc=>exact rfl);(case hm=>omega);(case hli=>omega);(case hln=>omega);(case hcs=>first|(rw [iv_length,sz_length,hEl];omega)|(rw [iv_length,al_length,hEl];omega)))|((with_reducible first|apply zo1|apply zo2|apply o_guard rfl|apply x_cond|apply k_e1 rfl|apply k_e2 rfl|apply k_e0 rfl|apply k_e3 rfl|apply k_e4 rfl);(case he=>exact ez9 ht0 ht1 ht2 ht3 e4 e5 g1 g2 @min_far);(try case hok=>exact ezO);all_goals try (intro hb;(try simp only [hbs,reduceCtorEq] at hb);try exact ezX))|((with_reducible apply o_undef rfl);(case hb=>exact ez0)))
         refine k_round (T.length - (i+1)) zm ⟨i+1,.slice (some ⟨n'+1,0,none⟩) (i+1) (i+1),.slice (some ⟨n'+1+1+1,0,none⟩) (i+1) (i+1),rfl,by omega,by simp (disch:=first|assumption|omega|rfl|decide) only [go_sem,seval,tys] <;> rfl,by omega,(ezT hT2),.inr ⟨by omega,n'+1,n'+1+1+1,by omega,by omega,by omega,by omega,by omega,rfl,rfl,?_,?_⟩⟩
         ·rw [hrs,hov];simp (disch:=first|assumption|omega|rfl|decide) only [go_sem,seval,tys,hts]
         ·rw [hra,hov];simp (disch:=first|assumption|omega|rfl|decide) only [go_sem,seval,tys,hta]
       ·have h5:t.kd=5:=by omega
        have hov:=eOne_5 (C:=1000000) (E:=E) h5
        have hfs0:t.fs≠[]:=fun hz=>by
         have:=hfine
         rw [fineB_5 h5,hz] at this
         simp at this
        have hfr:∀ f∈t.fs,0≤f.2∧f.2<i:=fun f hf=>by
         obtain ⟨q,hq,rfl⟩:=List.getElem_of_mem hf
         exact fine_fld hfine hq
        have hfo:FOk 1000000 E t.fs:=fine_fok hEok (m:=T.length) (by rw [hEl];exact hfine)
        obtain ⟨fs,hfs⟩:∃ fs,t.fs=fs:=⟨_,rfl⟩
        rw [hfs] at hov hfr hfo hfd2 hfl hfs0 ht3
        have hxo:∀ f∈fs,0≤f.2∧f.2<E.length:=fun f hf=>by have:=hfr f hf;omega
        have hfp:0<fs.length:=List.length_pos_iff.2 hfs0
        rw [h5] at ht0
        rcases hO with ⟨h0, -, -⟩|⟨h0,id1,id2,k1,k2,k3,k4,k5,rfl,rfl,q4,q5⟩
        ·have:=hfr fs[0] (List.getElem_mem hfp);omega
        ·have w4:=rwOf_row q4
         have w5:=rwOf_row q5
         (repeat' first|refine zcd ?_|intro K' hK|(with_reducible refine zn hK ?_;clear hK)|((with_reducible apply o_callF (g:=105) w_none);(case ha=>exact ez0);(case hs=>(((with_reducible apply rtog_ev (E:=E) (fs:=fs));(case hk=>exact hk);(case hm=>exact hEl.symm);(case h0=>exact hfs0);(case hs=>exact RdH.ofRow q4 zm);(case ha=>exact RdH.ofRow q5 zm);(case hr=>exact hfd2.more zm);(case hl2=>omega);(case hf=>exact hfo);(case hx=>exact hxo))));(case' hk=>rintro _ h' n' ⟨rfl,rfl,rfl⟩))|((with_reducible apply o_apR (t:=99) apT99 w_none);(case hs=>exact ez2 w4 w5);(case hy=>exact ez2 w4 w5);(case hsrc=>exact src_row (rowOf_same _ _ _ _ _) rfl);(case hr=>exact ez2 w4 w5);(case hc=>exact rfl);(case hm=>omega);(case hli=>omega);(case hln=>omega);(case hcs=>first|(rw [iv_length,sz_length,hEl];omega)|(rw [iv_length,al_length,hEl];omega)))|((with_reducible first|apply zo1|apply zo2|apply o_guard rfl|apply x_cond|apply k_e1 rfl|apply k_e2 rfl|apply k_e0 rfl|apply k_e3 rfl|apply k_e4 rfl);(case he=>exact ez4 ht0 ht1 ht2 ht3);(try case hok=>exact ezO);all_goals try (intro hb;(try simp only [hbs,reduceCtorEq] at hb);try exact ezX))|((with_reducible apply o_undef rfl);(case hb=>exact ez0)))
         refine k_round (T.length - (i+1)) zm ⟨i+1,.slice (some ⟨n'+1+1,0,none⟩) (i+1) (i+1),.slice (some ⟨n'+1+1+1+1,0,none⟩) (i+1) (i+1),rfl,by omega,by simp (disch:=first|assumption|omega|rfl|decide) only [go_sem,seval,tys] <;> rfl,by omega,(ezT hT2),.inr ⟨by omega,n'+1+1,n'+1+1+1+1,by omega,by omega,by omega,by omega,by omega,rfl,rfl,?_,?_⟩⟩
         ·rw [hrs,hov];simp (disch:=first|assumption|omega|rfl|decide) only [go_sem,seval,tys,hts]
         ·rw [hra,hov];simp (disch:=first|assumption|omega|rfl|decide) only [go_sem,seval,tys,hta]
  ·obtain rfl:i=T.length:=by omega
   rcases hO with ⟨h0, -, -⟩|⟨h0,id1,id2,k1,k2,k3,k4,k5,rfl,rfl,q4,q5⟩
   ·omega
   ·rw [List.take_length] at q4 q5
    (repeat' first|refine zcd ?_|intro K' hK|(with_reducible refine zn hK ?_;clear hK)|fail|((with_reducible first|apply zo1|apply zo2|apply o_guard rfl|apply x_cond|apply k_e1 rfl|apply k_e2 rfl|apply k_e0 rfl|apply k_e3 rfl|apply k_e4 rfl);(case he=>exact ez0);(try case hok=>exact ezO);all_goals try (intro hb;(try simp only [hbs,reduceCtorEq] at hb);try exact ezX))|((with_reducible apply o_undef rfl);(case hb=>exact ez0)))
    refine sw_row2 (m1:=id1) (m2:=id2) ezI k5 rfl zm zm (by simp (disch:=first|assumption|omega|rfl|decide) only [go_sem,seval,tys,q4];exact rfl) (by simp (disch:=first|assumption|omega|rfl|decide) only [go_sem,seval,tys,q5];exact rfl) (iv_idA _ _) (iv_idA _ _) (by simp only [reV_tuple,reV1_slice,List.map_cons,List.map_nil,reN_one,reN_two k5];exact rfl) ?_
    exact ⟨rfl,rfl,rfl⟩
end
section
open Go.RowKit
variable (k d cl:Nat) (h:Hp) (n:Nat)
theorem sized_ev (hk:30000≤k) (A:Option Addr) (T:List Tp) (c:Nat) (hT:TabH h n A T) (hl:T.length≤32) (hF:Fine T) (i:Int) (h0:0≤i) (hi:i<T.length) :
  SQ k (d+4) cl 112 [.slice A T.length c,.int .i64 i] h n fun v h' n'=>v = .int .i64 ((eRow 1000000 T).at_ i).1∧h'=h∧n'=n:=by
 obtain ⟨j,rfl⟩:=Int.eq_ofNat_of_zero_le h0
 have hg:=(sz_get (E:=eRow 1000000 T) (j:=j) (by rw [eRow_length];omega)).1
 refine enter Try.func112 kz rfl kz rfl rfl rfl ?_
 (repeat' first|refine zcd ?_|intro K' hK|(with_reducible refine zn hK ?_;clear hK)|((with_reducible apply o_callF (g:=75) w_none);(case ha=>exact ez0);(case hs=>((with_reducible apply rsizes_ev (T:=T));(case hT=>exact hT);(case hF=>exact hF);(all_goals first|exact hk|omega)));(case' hk=>rintro _ h' n' ⟨rfl,rfl,rfl⟩))|((with_reducible first|apply zo1|apply zo2|apply o_guard rfl|apply x_cond|apply k_e1 rfl|apply k_e2 rfl|apply k_e0 rfl|apply k_e3 rfl|apply k_e4 rfl);(case he=>exact ez1 hg);(try case hok=>exact ezO);all_goals try (intro hb;(try simp only [hbs,reduceCtorEq] at hb);try exact ezX))|((with_reducible apply o_undef rfl);(case hb=>exact ez0)))
 all_goals exact sw_flat rfl rfl ⟨rfl,rfl,rfl⟩
end
section
open Go.RowKit
theorem eRow_pre (C:Int) {T:List Tp} {i:Nat} {j:Int} (h0:0≤j) (h1:j<i):∀ m,i+m≤T.length→(eRow C (T.take (i+m))).at_ j=(eRow C (T.take i)).at_ j
 | 0,_=>rfl
 | m+1,hm=>by
  rw [← Nat.add_assoc,eRow_take C zm,at_snoc_lt h0 (by rw [eRow_tlen C zm];omega)]
  exact eRow_pre C h0 h1 m zm
theorem eRow_all (C:Int) {T:List Tp} {i:Nat} (hi:i≤T.length) {j:Int} (h0:0≤j) (h1:j<i):(eRow C T).at_ j=(eRow C (T.take i)).at_ j:=by
 have:=eRow_pre C (T:=T) h0 h1 (T.length - i) zm
 rwa [show i+(T.length - i)=T.length from by omega,List.take_length] at this
theorem eOne_congr {C:Int} {E G:Ext} {m i:Nat} {t:Tp} (h:fineB m i t=true) (he:∀ j:Int,0≤j→j<i→E.at_ j=G.at_ j):eOne C E t=eOne C G t:=by
 have hl:layR C E t.fs=layR C G t.fs:=layR_congr t.fs fun f hf=>by
  obtain ⟨q,hq,rfl⟩:=List.getElem_of_mem hf
  have:=fine_fld h hq
  exact he _ this.1 this.2
 by_cases h6:t.kd=6
 ·have ha:=fine_arr h h6
  rw [eOne_6 h6,eOne_6 h6,he _ ha.1 ha.2.1]
 ·unfold eOne
  rw [hl,if_neg h6,if_neg h6]
theorem eRow_at (C:Int) {T:List Tp} (hF:Fine T) {i:Nat} (hi:i<T.length):(eRow C T).at_ (i:Int)=eOne C (eRow C T) T[i]:=by
 have hl:=eRow_tlen C (T:=T) (i:=i) zm
 have e1:(eRow C T).at_ (i:Int)=(eRow C (T.take (i+1))).at_ (i:Int):=eRow_all C zm zm zm
 have e2:(i:Int)=((eRow C (T.take i)).length:Int):=by omega
 rw [e1,eRow_take C hi]
 conv=>lhs;arg 2;rw [e2]
 rw [at_snoc_eq]
 exact eOne_congr (hF i hi) fun j h0 h1=>(eRow_all C zm h0 h1).symm
theorem lay_in {C:Int} (hC:256<C) {E:Ext} {fs:List (List UInt8 × Int)} (hf:FOk C E fs):∀ p (hp:p≤fs.length),(layR C E (fs.take p)).2.1≤256→∀ q (hq:q<p),0≤(layR C E (fs.take p)).1.getD q 0∧(layR C E (fs.take p)).1.getD q 0+(E.at_ (fs[q]'zm).2).1≤(layR C E (fs.take p)).2.1
 | 0,_,_,q,hq=>absurd hq zm
 | p+1,hp,hs,q,hq=>by
  have hfp:=hf fs[p] (List.getElem_mem _)
  have hok:=layR_ok zm hf p zm
  have hb:=upI_bnd hfp.2.2 hok.1
  have hlen:=layR_len C E fs p zm
  have h0:=hfp.1
  rw [layR_take C E zm] at hs ⊢
  unfold lStep at hs ⊢
  dsimp only at hs ⊢
  rw [List.getD_eq_getElem?_getD]
  by_cases hqp:q<p
  ·obtain ⟨i1,i2⟩:=lay_in hC hf p zm zm q hqp
   rw [List.getD_eq_getElem?_getD] at i1 i2
   rw [List.getElem?_append_left zm]
   exact ⟨i1,by omega⟩
  ·obtain rfl:q=p:=by omega
   rw [List.getElem?_append_right zm,hlen,Nat.sub_self]
   show 0≤upI (layR C E (fs.take q)).2.1 (E.at_ (fs[q]).2).2∧upI (layR C E (fs.take q)).2.1 (E.at_ (fs[q]).2).2+(E.at_ (fs[q]).2).1≤_
   omega
end
section
open Go.RowKit
end
section
open Go.RowKit
theorem layR_pre (C:Int) (E:Ext) {fs:List (List UInt8 × Int)} {j:Nat}:∀ m,j+1+m≤fs.length→(layR C E (fs.take (j+1+m))).1.getD j 0=upI (layR C E (fs.take j)).2.1 (E.at_ (fs.getD j ([],0)).2).2
 | 0,h=>by
  have hl:=layR_len C E fs j zm
  rw [Nat.add_zero,layR_take C E zm]
  unfold lStep
  dsimp only
  rw [List.getD_eq_getElem?_getD (l:=_ ++ _),List.getElem?_append_right (Nat.le_of_eq hl),hl,Nat.sub_self,List.getD_eq_getElem?_getD (l:=fs),List.getElem?_eq_getElem (show j<fs.length by omega)]
  rfl
 | m+1,h=>by
  have hl:=layR_len C E fs (j+1+m) zm
  rw [← Nat.add_assoc,layR_take C E zm]
  unfold lStep
  dsimp only
  rw [List.getD_eq_getElem?_getD (l:=_ ++ _),List.getElem?_append_left zm,← List.getD_eq_getElem?_getD]
  exact layR_pre C E m zm
theorem layR_off (C:Int) (E:Ext) {fs:List (List UInt8 × Int)} {j:Nat} (hj:j<fs.length):(layR C E fs).1.getD j 0=upI (layR C E (fs.take j)).2.1 (E.at_ (fs[j]).2).2:=by
 have:=layR_pre C E (fs:=fs) (j:=j) (fs.length - (j+1)) zm
 rw [show j+1+(fs.length - (j+1))=fs.length from by omega,List.take_length,List.getD_eq_getElem?_getD (l:=fs),List.getElem?_eq_getElem hj] at this
 exact this
theorem layR_mono {C:Int} (hC:256<C) {E:Ext} {fs:List (List UInt8 × Int)} (hf:FOk C E fs) {p:Nat}:∀ m,p+m≤fs.length→(layR C E (fs.take (p+m))).2.1≤256→(layR C E (fs.take p)).2.1≤(layR C E (fs.take (p+m))).2.1
 | 0,_,_=>Int.le_refl _
 | m+1,hp,hs=>by
  have hfp:=hf fs[p+m] (List.getElem_mem _)
  have hok:=layR_ok zm hf (p+m) zm
  have hb:=upI_bnd hfp.2.2 hok.1
  have h0:=hfp.1
  rw [← Nat.add_assoc,layR_take C E zm] at hs ⊢
  unfold lStep at hs ⊢
  dsimp only at hs ⊢
  have:=layR_mono hC hf (p:=p) m zm zm
  omega
end
section
open Go.RowKit
end
section
open Go.RowKit
section
variable {T:List Tp} {i:Nat}
theorem OkV.eone (ho:OkV T i):(eRow 1048576 T).at_ (i:Int)=eOne 1048576 (eRow 1048576 T) (T[i]'ho.lt):=eRow_at 1048576 ho.chk.2.1 ho.lt
theorem OkV.siz1 (ho:OkV T i) (h:(T[i]'ho.lt).kd=1):sizT T i=1:=by unfold sizT;rw [ho.eone,eOne_1 h]
theorem OkV.siz24 (ho:OkV T i) (h:(T[i]'ho.lt).kd=2∨(T[i]'ho.lt).kd=4):sizT T i=8:=by unfold sizT;rw [ho.eone,eOne_24 h]
theorem OkV.siz3 (ho:OkV T i) (h:(T[i]'ho.lt).kd=3):sizT T i=16:=by unfold sizT;rw [ho.eone,eOne_3 h]
theorem OkV.siz7 (ho:OkV T i) (h:(T[i]'ho.lt).kd=7):sizT T i=24:=by unfold sizT;rw [ho.eone,eOne_7 h]
theorem OkV.siz6 (ho:OkV T i) (h:(T[i]'ho.lt).kd=6):sizT T i=(T[i]'ho.lt).ln*sizT T (T[i]'ho.lt).el.toNat:=by
 obtain ⟨y,hy, -,hoy⟩:=ho.elm h
 have hb:=ho.bnd
 have e:sizT T i=min 1048576 ((T[i]'ho.lt).ln*sizT T (T[i]'ho.lt).el.toNat):=by
  have e0:(((T[i]'ho.lt).el.toNat:Nat):Int)=(T[i]'ho.lt).el:=by rw [hy];rfl
  unfold sizT
  rw [ho.eone,eOne_6 h,e0]
 rw [e] at hb ⊢
 omega
theorem OkV.siz5 (ho:OkV T i) (h:(T[i]'ho.lt).kd=5):(layR 1048576 (eRow 1048576 T) (T[i]'ho.lt).fs).2.1≤sizT T i:=by
 have hEok:=eRow_ok (C:=1048576) zm (by decide) ho.chk.2.1 T.length (Nat.le_refl _)
 rw [List.take_length] at hEok
 have hf:FOk 1048576 (eRow 1048576 T) (T[i]'ho.lt).fs:=fun f hf=>by
  obtain ⟨y,e, -,hy⟩:=ho.fld h f hf
  rw [e]
  exact sizT_ok hy.chk hy.lt
 have h2:=layR_ok zm hf _ (Nat.le_refl _)
 rw [List.take_length] at h2
 have e:sizT T i=upI (layR 1048576 (eRow 1048576 T) (T[i]'ho.lt).fs).2.1 (layR 1048576 (eRow 1048576 T) (T[i]'ho.lt).fs).2.2:=by unfold sizT;rw [ho.eone,eOne_5 h]
 rw [e]
 exact (upI_bnd h2.2.2 h2.1).1
theorem prt_len (ho:OkV T i):(prtT (T[i]'ho.lt)).length=(offsT T (T[i]'ho.lt)).length∧(prtT (T[i]'ho.lt)).length≤16:=by
 have hfi:=ho.chk.2.1 i ho.lt
 have hlen:=fine_len hfi
 obtain ⟨t,ht⟩:∃ t,T[i]'ho.lt=t:=⟨_,rfl⟩
 rw [ht] at hfi hlen ⊢
 by_cases h5:t.kd=5
 ·have hl:=fine_ln hfi zm
  rw [offsT_len h5]
  unfold prtT
  rw [hl]
  simp
  omega
 ·have hn:=fine_nofs hfi h5
  unfold prtT offsT
  rw [if_neg h5,hn]
  by_cases h6:t.kd=6
  ·have:=fine_arr hfi h6
   simp
   omega
  ·have hl:=fine_ln hfi h6
   rw [hl]
   simp
theorem prt_in (ho:OkV T i) {q:Nat} (hq:q<(prtT (T[i]'ho.lt)).length) (hq2:q<(offsT T (T[i]'ho.lt)).length) :
  ∃ y:Nat,(prtT (T[i]'ho.lt))[q]=(y:Int)∧y<i∧OkV T y∧0≤(offsT T (T[i]'ho.lt))[q]∧(offsT T (T[i]'ho.lt))[q]+sizT T y≤sizT T i:=by
 have hfi:=ho.chk.2.1 i ho.lt
 have hfl:=ho.fld
 have hel:=ho.elm
 have hs5:=ho.siz5
 have hs6:=ho.siz6
 have hb:=ho.bnd
 obtain ⟨t,ht⟩:∃ t,T[i]'ho.lt=t:=⟨_,rfl⟩
 simp only [ht] at hfi hfl hel hs5 hs6 hq hq2 ⊢
 by_cases h5:t.kd=5
 ·have hl:=fine_ln hfi zm
  have hfl:=hfl h5
  have hqf:q<t.fs.length:=by rw [offsT_len h5] at hq2;exact hq2
  obtain ⟨y,e,hyi,hy⟩:=hfl t.fs[q] (List.getElem_mem hqf)
  have hf:FOk 1048576 (eRow 1048576 T) t.fs:=fun f hf=>by
   obtain ⟨y,e, -,hy⟩:=hfl f hf
   rw [e]
   exact sizT_ok hy.chk hy.lt
  have h1:=lay_in zm hf t.fs.length (Nat.le_refl _) (by rw [List.take_length];have:=hs5 h5;omega) q hqf
  rw [List.take_length] at h1
  have e1:(prtT t)[q]=(t.fs[q]).2:=by
   have e3:prtT t=t.fs.map (·.2):=by unfold prtT;rw [hl];simp
   rw [List.getElem_of_eq e3 hq,List.getElem_map]
  have e2:(offsT T t)[q]=(layR 1048576 (eRow 1048576 T) t.fs).1.getD q 0:=by
   have e3:offsT T t=(layR 1048576 (eRow 1048576 T) t.fs).1:=by unfold offsT;rw [if_pos h5]
   rw [List.getD_eq_getElem?_getD,← e3,List.getElem?_eq_getElem hq2]
   rfl
  refine ⟨y,by rw [e1,e],hyi,hy,by rw [e2];exact h1.1,?_⟩
  rw [e2]
  have:=hs5 h5
  have h2:=h1.2
  rw [e] at h2
  unfold sizT at *
  omega
 ·have hn:=fine_nofs hfi h5
  by_cases h6:t.kd=6
  ·obtain ⟨y,e,hyi,hy⟩:=hel h6
   have ha:=fine_arr hfi h6
   have hyb:=hy.bnd
   have hs:=hs6 h6
   have hqn:q<t.ln.toNat:=by
    have:q<(offsT T t).length:=hq2
    unfold offsT at this
    rw [if_neg h5,List.length_map,List.length_range] at this
    exact this
   have e1:(prtT t)[q]=t.el:=by
    unfold prtT
    simp only [hn,List.map_nil,List.nil_append,List.getElem_replicate]
   have e0:t.el.toNat=y:=by rw [e];rfl
   have e2:(offsT T t)[q]=(q:Int)*sizT T y:=by
    unfold offsT
    simp only [if_neg h5,List.getElem_map,List.getElem_range,e0]
   rw [e0] at hs
   refine ⟨y,by rw [e1,e],hyi,hy,by rw [e2];exact Int.mul_nonneg zm hyb.1,?_⟩
   rw [e2,hs]
   have h1:((q:Int)+1)*sizT T y≤t.ln*sizT T y:=Int.mul_le_mul_of_nonneg_right zm hyb.1
   have h2:((q:Int)+1)*sizT T y=(q:Int)*sizT T y+sizT T y:=by rw [Int.add_mul,Int.one_mul]
   omega
  ·have hl:=fine_ln hfi h6
   exfalso
   have:(prtT t).length=0:=by unfold prtT;rw [hn,hl];rfl
   omega
theorem siz_pos:∀ (m:Nat) {i:Nat} (ho:OkV T i),i<m→1≤sizT T i
 | 0,_,_,h=>absurd h (Nat.not_lt_zero _)
 | m+1,i,ho,h=>by
  have hfi:=ho.chk.2.1 i ho.lt
  have hkd:=fine_kd hfi
  by_cases h56:(T[i]'ho.lt).kd=5∨(T[i]'ho.lt).kd=6
  ·have hp:0<(prtT (T[i]'ho.lt)).length:=by
    rcases h56 with h5|h6
    ·have:=fine_some0 hfi h5
     unfold prtT
     rw [List.length_append,List.length_map]
     omega
    ·have:=fine_arr hfi h6
     unfold prtT
     rw [List.length_append,List.length_replicate]
     omega
   obtain ⟨y, -,hyi,hy,h0,h1⟩:=prt_in ho hp (by have:=(prt_len ho).1;omega)
   have:=siz_pos m hy zm
   omega
  ·by_cases h1:(T[i]'ho.lt).kd=1
   ·rw [ho.siz1 h1];omega
   ·by_cases h24:(T[i]'ho.lt).kd=2∨(T[i]'ho.lt).kd=4
    ·rw [ho.siz24 h24];omega
    ·by_cases h3:(T[i]'ho.lt).kd=3
     ·rw [ho.siz3 h3];omega
     ·rw [ho.siz7 zm];omega
end
end
section
open Go.RowKit
theorem sw_keep {h h':Hp} {n n' m e:Nat} {ro:Bool} {cs:List Value} {v u:Value} {Φ:Value→Hp→Nat→Prop} (hv:idV n v=[m]) (hg:rowOf h' m=some (e,ro,cs)) (hu:u∈cs) (hi:idA n u≠[]) (hk:Φ v h' n'):kSweep h n Φ v h' n':=by
 have hp:plainO n (h'.get m)=false:=by
  rw [rowOf_some hg]
  show cs.all (fun v=>(idA n v).isEmpty)=false
  rw [List.all_eq_false]
  exact ⟨u,hu,by simpa using hi⟩
 have e:sweep h n (v,h',n')=(v,h',n'):=by
  unfold sweep
  dsimp only
  rw [hv]
  simp [once,hp]
 unfold kSweep
 rw [e]
 exact hk
variable (k d cl:Nat) (h:Hp) (n:Nat)
end
section
open Go.RowKit
inductive FH (h:Hp) (lo hi:Nat):V→List Value→Prop
 | leaf (kd i:Int) (s:List UInt8) (c:Bool):FH h lo hi (.mk kd i s [] c) (vcell kd i s none 0 0 c)
 | node (kd i:Int) (s:List UInt8) (c:Bool) (l:List V) (id:Nat) (rows:List Value) (hl:l≠[]) (h1:lo≤id) (h2:id<hi) (hr:rowOf h id=some (32,false,rows)) (hlen:rows.length=l.length*5)
   (hk:∀ j (hj:j<l.length),FH h lo hi l[j] ((rows.drop (j*5)).take 5)):FH h lo hi (.mk kd i s l c) (vcell kd i s (some ⟨id,0,none⟩) l.length l.length c)
def FHs (h:Hp) (lo hi:Nat) (l:List V) (O:Value):Prop:=
 (l=[]∧O = .slice none 0 0)∨(l≠[]∧∃ id rows,lo≤id∧id<hi∧O = .slice (some ⟨id,0,none⟩) l.length l.length∧rowOf h id=some (32,false,rows)∧rows.length=l.length*5∧∀ j (hj:j<l.length),FH h lo hi l[j] ((rows.drop (j*5)).take 5))
section
variable {h h':Hp} {lo hi lo' hi':Nat} {v:V} {cs:List Value}
theorem FH.keep (hv:FH h lo hi v cs) (h1:lo'≤lo) (h2:hi≤hi') (hk:∀ b,lo≤b→b<hi→h'.get b=h.get b):FH h' lo' hi' v cs:=by
 induction hv with
 | leaf kd i s c=>exact .leaf kd i s c
 | node kd i s c l id rows hl a b hr hlen _ ih=>exact .node kd i s c l id rows hl zm zm (by rw [show rowOf h' id=rowOf h id from by unfold rowOf;rw [hk id a b]];exact hr) hlen ih
theorem FH.more (hv:FH h lo hi v cs) (h1:lo'≤lo) (h2:hi≤hi'):FH h lo' hi' v cs:=hv.keep h1 h2 fun _ _ _=>rfl
theorem FH.len (hv:FH h lo hi v cs):cs.length=5:=by cases hv <;> rfl
theorem FH.cells (hv:FH h lo hi v cs):∃ A cc,cs=vcell v.kd v.i v.s A v.l.length cc v.c:=by
 cases hv with
 | leaf kd i s c=>exact ⟨none,0,rfl⟩
 | node kd i s c l id rows hl a b hr hlen hk=>exact ⟨_,_,rfl⟩
theorem FH.vh (hv:FH h lo hi v cs):VH h hi v cs:=by
 induction hv with
 | leaf kd i s c=>exact .leaf kd i s c none 0 fun _=>rfl
 | node kd i s c l id rows hl a b hr hlen hk ih=>
  refine .node kd i s c l id 0 l.length (fun j=>(rows.drop (j*5)).take 5) hl b (fun j hj=>?_) ih
  rw [cellsAt_row hr,ldrop_eq,Nat.zero_add]
  have hlj:5≤(rows.drop (j*5)).length:=by
   rw [List.length_drop,hlen]
   have:(j+1)*5≤l.length*5:=Nat.mul_le_mul_right 5 hj
   omega
  exact ltake_of hlj
theorem FHs.val {l:List V} {O:Value} (hl:FHs h lo hi l O) (kd i:Int) (s:List UInt8) (c:Bool):FH h lo hi (.mk kd i s l c) [.int .u8 kd,.int .i64 i,.string ⟨⟨s⟩⟩,O,.bool c]:=by
 rcases hl with ⟨rfl,rfl⟩|⟨hn,id,rows,a,b,rfl,hr,hlen,hk⟩
 ·exact .leaf kd i s c
 ·exact .node kd i s c l id rows hn a b hr hlen hk
theorem FHs.keep {l:List V} {O:Value} (hl:FHs h lo hi l O) (h1:lo'≤lo) (h2:hi≤hi') (hk:∀ b,lo≤b→b<hi→h'.get b=h.get b):FHs h' lo' hi' l O:=by
 rcases hl with e|⟨hn,id,rows,a,b,e,hr,hlen,hkk⟩
 ·exact .inl e
 ·exact .inr ⟨hn,id,rows,by omega,by omega,e,by rw [show rowOf h' id=rowOf h id from by unfold rowOf;rw [hk id a b]];exact hr,hlen,fun j hj=>(hkk j hj).keep h1 h2 hk⟩
theorem rows_snoc {l:List V} {x:V} {rows cs:List Value} (hlen:rows.length=l.length*5) (hk:∀ j (hj:j<l.length),FH h lo hi l[j] ((rows.drop (j*5)).take 5)) (hx:FH h lo hi x cs) :
  (rows ++ cs).length=(l ++ [x]).length*5∧∀ j (hj:j<(l ++ [x]).length),FH h lo hi (l ++ [x])[j] (((rows ++ cs).drop (j*5)).take 5):=by
 have hc:=hx.len
 refine ⟨by rw [List.length_append,List.length_append,hlen,hc];simp;omega,fun j hj=>?_⟩
 by_cases e:j<l.length
 ·rw [List.getElem_append_left e]
  have hb:(j+1)*5≤l.length*5:=Nat.mul_le_mul_right 5 e
  have e2:((rows ++ cs).drop (j*5)).take 5=(rows.drop (j*5)).take 5:=by
   rw [List.drop_append_of_le_length zm,List.take_append_of_le_length (by rw [List.length_drop];omega)]
  rw [e2]
  exact hk j e
 ·have hj2:j=l.length:=by simp at hj;omega
  subst hj2
  have e1:(l ++ [x])[l.length]'hj=x:=by simp
  rw [e1,← hlen,List.drop_left,← hc,List.take_length]
  exact hx
theorem FH.plain (hv:FH h lo hi v cs) (hp:∀ u∈cs,idA lo u=[]) (h2:Hp) (hi2:Nat):FH h2 lo hi2 v cs:=by
 cases hv with
 | leaf kd i s c=>exact .leaf kd i s c
 | node kd i s c l id rows hl a b hr hlen hk=>
  have:=hp (.slice (some ⟨id,0,none⟩) l.length l.length) (by simp)
  have e:idA lo (.slice (some ⟨id,0,none⟩) l.length l.length)=[id]:=by
   show (bif Nat.ble lo id then [id] else [])=[id]
   rw [ble_t a]
   rfl
  rw [e] at this
  cases this
end
variable {h h':Hp} {n n':Nat} {Φ:Value→Hp→Nat→Prop}
theorem sw_fhs {l:List V} {O:Value} {e:Int} (hf:FHs h' n n' l O) (hn:n≤n') (hkeep:∀ b,b<n→h'.get b=h.get b)
  (hk:∀ O2 h2 n2,FHs h2 n n2 l O2→n≤n2→(∀ b,b<n→h2.get b=h.get b)→Φ (.tuple ⟨[O2,.int .i64 e]⟩) h2 n2):kSweep h n Φ (.tuple ⟨[O,.int .i64 e]⟩) h' n':=by
 rcases hf with ⟨rfl,rfl⟩|⟨hl,id,rows,a,b,rfl,hr,hlen,hkk⟩
 ·exact sw_flat rfl rfl (hk _ h n (.inl ⟨rfl,rfl⟩) (Nat.le_refl _) fun _ _=>rfl)
 ·have hid:idV n (.tuple ⟨[.slice (some ⟨id,0,none⟩) l.length l.length,.int .i64 e]⟩)=[id]:=by
   show (bif Nat.ble n id then [id] else []) ++ _=[id]
   rw [ble_t a]
   rfl
  by_cases hp:∀ u∈rows,idA n u=[]
  ·refine sw_row (v':=.tuple ⟨[.slice (some ⟨n,0,none⟩) l.length l.length,.int .i64 e]⟩) hid rfl b hr hp ?_ ?_
   ·show Value.tuple ⟨[.slice (some ⟨reN n [id] id,0,none⟩) l.length l.length,.int .i64 e]⟩=_
    rw [reN_hit]
   ·refine hk _ _ _ (.inr ⟨hl,n,rows,Nat.le_refl _,by omega,rfl,rowOf_same _ _ _ _ _,hlen,fun j hj=>?_⟩) zm fun b hb=>Hp.get_ne _ _ zm
    exact (hkk j hj).plain (fun u hu=>hp u (List.mem_of_mem_drop (List.mem_of_mem_take hu))) _ _
  ·have hp2:∃ u∈rows,idA n u≠[]:=Classical.byContradiction fun hh=>hp fun u hu=>Classical.byContradiction fun h2=>hh ⟨u,hu,h2⟩
   obtain ⟨u,hu,hi⟩:=hp2
   exact sw_keep hid hr hu hi (hk _ h' n' (.inr ⟨hl,id,rows,a,b,rfl,hr,hlen,hkk⟩) hn hkeep)
theorem sw_fh {x:V} {cs:List Value} {e:Int} (hf:FH h' n n' x cs) (hn:n≤n') (hkeep:∀ b,b<n→h'.get b=h.get b)
  (hk:∀ cs2 h2 n2,FH h2 n n2 x cs2→n≤n2→(∀ b,b<n→h2.get b=h.get b)→Φ (.tuple ⟨[.agg ⟨cs2⟩,.int .i64 e]⟩) h2 n2):kSweep h n Φ (.tuple ⟨[.agg ⟨cs⟩,.int .i64 e]⟩) h' n':=by
 cases hf with
 | leaf kd i s c=>exact sw_flat rfl rfl (hk _ h n (.leaf kd i s c) (Nat.le_refl _) fun _ _=>rfl)
 | node kd i s c l id rows hl a b hr hlen hkk=>
  have hid:idV n (.tuple ⟨[.agg ⟨vcell kd i s (some ⟨id,0,none⟩) l.length l.length c⟩,.int .i64 e]⟩)=[id]:=by
   show ((bif Nat.ble n id then [id] else []) ++ []) ++ _=[id]
   rw [ble_t a]
   rfl
  by_cases hp:∀ u∈rows,idA n u=[]
  ·refine sw_row (v':=.tuple ⟨[.agg ⟨vcell kd i s (some ⟨n,0,none⟩) l.length l.length c⟩,.int .i64 e]⟩) hid rfl b hr hp ?_ ?_
   ·show Value.tuple ⟨[.agg ⟨vcell kd i s (some ⟨reN n [id] id,0,none⟩) l.length l.length c⟩,.int .i64 e]⟩=_
    rw [reN_hit]
   ·refine hk _ _ _ (.node kd i s c l n rows hl (Nat.le_refl _) zm (rowOf_same _ _ _ _ _) hlen fun j hj=>?_) zm fun b hb=>Hp.get_ne _ _ zm
    exact (hkk j hj).plain (fun u hu=>hp u (List.mem_of_mem_drop (List.mem_of_mem_take hu))) _ _
  ·have hp2:∃ u∈rows,idA n u≠[]:=Classical.byContradiction fun hh=>hp fun u hu=>Classical.byContradiction fun h2=>hh ⟨u,hu,h2⟩
   obtain ⟨u,hu,hi⟩:=hp2
   exact sw_keep hid hr hu hi (hk _ h' n' (.node kd i s c l id rows hl a b hr hlen hkk) hn hkeep)
end
end Go.Proofs.Ytcpkdjikembpnaa.Ce
