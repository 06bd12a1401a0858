/- Parts of the proof of ValueBack: Gh, Gi, Gk. No condition of its own. -/
import Derived.Test.YtcpkdjikembpnaaWaau
import Derived.Test.YtcpkdjikembpnaaWaav
set_option linter.unusedVariables false
set_option linter.unusedSimpArgs false
set_option maxRecDepth 1000000
set_option maxHeartbeats 4000000
namespace Go.Proofs.Ytcpkdjikembpnaa.Ce
section
open Go.RowKit
def i64 (w:Int):Int:=IntKind.wrap .i64 w
def listP (g:List UInt8→Nat→Except Int V) (bs:List UInt8):List (Int × Int)→Except Int (List V)
 | []=>.ok []
 | p :: r=>match g (bs.drop p.2.toNat) p.1.toNat with
  | .error e=>.error e
  | .ok v=>match listP g bs r with
   | .error e=>.error e
   | .ok l=>.ok (v :: l)
theorem listP_snoc (g:List UInt8→Nat→Except Int V) (bs:List UInt8) (p:Int × Int):∀ (l:List (Int × Int)) (acc:List V),listP g bs l = .ok acc →
  listP g bs (l ++ [p])=match g (bs.drop p.2.toNat) p.1.toNat with
   | .error e=>.error e
   | .ok v=>.ok (acc ++ [v])
 | [],acc,h=>by
  unfold listP at h
  injection h with h
  subst h
  show listP g bs (p :: [])=_
  unfold listP listP
  cases g (bs.drop p.2.toNat) p.1.toNat <;> rfl
 | q :: l,acc,h=>by
  unfold listP at h
  rw [List.cons_append]
  unfold listP
  cases hg:g (bs.drop q.2.toNat) q.1.toNat with
  | error e=>rw [hg] at h;cases h
  | ok v=>
   rw [hg] at h
   dsimp only at h ⊢
   cases hl:listP g bs l with
   | error e=>rw [hl] at h;cases h
   | ok l2=>
    rw [hl] at h
    injection h with h
    subst h
    rw [listP_snoc g bs p l l2 hl]
    cases g (bs.drop p.2.toNat) p.1.toNat <;> rfl
theorem listP_err (g:List UInt8→Nat→Except Int V) (bs:List UInt8) {e:Int}:∀ (l r:List (Int × Int)),listP g bs l = .error e→listP g bs (l ++ r) = .error e
 | [],r,h=>by unfold listP at h;cases h
 | q :: l,r,h=>by
  unfold listP at h
  rw [List.cons_append]
  unfold listP
  cases hg:g (bs.drop q.2.toNat) q.1.toNat with
  | error e2=>rw [hg] at h;exact h
  | ok v=>
   rw [hg] at h
   dsimp only at h ⊢
   cases hl:listP g bs l with
   | error e2=>rw [hl] at h;injection h with h;subst h;rw [listP_err g bs l r hl]
   | ok l2=>rw [hl] at h;cases h
theorem listP_len (g:List UInt8→Nat→Except Int V) (bs:List UInt8):∀ (l:List (Int × Int)) (acc:List V),listP g bs l = .ok acc→acc.length=l.length
 | [],acc,h=>by unfold listP at h;injection h with h;subst h;rfl
 | q :: l,acc,h=>by
  unfold listP at h
  cases hg:g (bs.drop q.2.toNat) q.1.toNat with
  | error e=>rw [hg] at h;cases h
  | ok v=>
   rw [hg] at h
   dsimp only at h
   cases hl:listP g bs l with
   | error e=>rw [hl] at h;cases h
   | ok l2=>
    rw [hl] at h
    injection h with h
    subst h
    rw [List.length_cons,List.length_cons,listP_len g bs l l2 hl]
def asV (kd:Int):Except Int (List V)→Except Int V
 | .ok l=>.ok (.mk kd 0 [] l false)
 | .error e=>.error e
def folP (g:Nat→List UInt8→Nat→Except Int V) (T:List Tp) (L:List Rg) (x:Tp) (a:Int) (n most dp:Nat):Except Int V:=
 match findB L a (sizT T x.el.toNat*most).toNat with
 | none=>.error 16
 | some b=>if n=0 then .ok (.mk x.kd 0 [] [] false) else if dp=0 then .ok (.mk x.kd 0 [] [] true)
  else asV x.kd (listP (g (dp - 1)) b ((List.range n).map fun (i:Nat)=>(x.el,(i:Int)*sizT T x.el.toNat)))
def loadP (T:List Tp) (L:List Rg):Nat→Nat→List UInt8→Nat→Except Int V
 | 0,_,_,_=>.error 0
 | f+1,dp,bs,t=>match T[t]? with
  | none=>.error 0
  | some x=>
   if x.kd=1 then (if 1<(bs.getD 0 0).toNat then .error 12 else .ok (.mk 1 (bs.getD 0 0).toNat [] [] false))
   else if x.kd=2 then .ok (.mk 2 (i64 (wordV bs 0 8)) [] [] false)
   else if x.kd=3 then (if (textB L (wordV bs 0 8) (wordV bs 8 8)).2=0 then .ok (.mk 3 0 (textB L (wordV bs 0 8) (wordV bs 8 8)).1 [] false) else .error (textB L (wordV bs 0 8) (wordV bs 8 8)).2)
   else if x.kd=4 then (if wordV bs 0 8=0 then .ok (.mk 4 0 [] [] false) else folP (loadP T L f) T L x (wordV bs 0 8) 1 1 dp)
   else if x.kd=7 then (if wordV bs 16 8<wordV bs 8 8∨16<wordV bs 16 8∨(wordV bs 0 8=0∧0<wordV bs 16 8) then .error 12
    else if wordV bs 0 8=0 then .ok (.mk 7 0 [] [] false) else folP (loadP T L f) T L x (wordV bs 0 8) (wordV bs 8 8).toNat (wordV bs 16 8).toNat dp)
   else asV x.kd (listP (loadP T L f dp) bs ((prtT x).zip (offsT T x)))
def LdV (r:Except Int V) (h:Hp) (n:Nat) (v:Value) (h':Hp) (n':Nat):Prop:=match r with
 | .error e=>v = .tuple ⟨[.agg ⟨vcell 0 0 [] none 0 0 false⟩,.int .i64 e]⟩∧e≠0∧h'=h∧n'=n
 | .ok x=>∃ cs,v = .tuple ⟨[.agg ⟨cs⟩,.int .i64 0]⟩∧FH h' n n' x cs∧n≤n'∧∀ b,b<n→h'.get b=h.get b
def LdL (r:Except Int (List V)) (h:Hp) (n:Nat) (v:Value) (h':Hp) (n':Nat):Prop:=match r with
 | .error e=>v = .tuple ⟨[.slice none 0 0,.int .i64 e]⟩∧e≠0∧h'=h∧n'=n
 | .ok l=>∃ O,v = .tuple ⟨[O,.int .i64 0]⟩∧FHs h' n n' l O∧n≤n'∧∀ b,b<n→h'.get b=h.get b
theorem textB_err {L:List Rg} {a w:Int}:(textB L a w).2=0∨(textB L a w).2=12∨(textB L a w).2=16:=by
 unfold textB
 repeat' split
 all_goals simp
end
section
open Go.RowKit
def OwnV (l:List V) (O:Value) (h:Hp) (lo n:Nat):Prop:=
 (l=[]∧O = .slice none 0 0)∨(l≠[]∧∃ id rows,lo≤id∧id<n∧O = .slice (some ⟨id,0,none⟩) l.length l.length∧rowOf h id=some (32,false,rows)∧rows.length=l.length*5∧∀ j (hj:j<l.length),FH h lo id l[j] ((rows.drop (j*5)).take 5))
theorem OwnV.fhs {l:List V} {O:Value} {h:Hp} {lo n:Nat} (ho:OwnV l O h lo n):FHs h lo n l O:=by
 rcases ho with e|⟨hn,id,rows,a,b,e,hr,hlen,hk⟩
 ·exact .inl e
 ·exact .inr ⟨hn,id,rows,a,b,e,hr,hlen,fun j hj=>(hk j hj).more (Nat.le_refl _) zm⟩
theorem zip_take {ps os:List Int} (hl:ps.length=os.length) {q:Nat} (hq:q<ps.length):(ps.zip os).take (q+1)=(ps.zip os).take q ++ [(ps[q],os[q]'zm)]:=by
 have hz:q<(ps.zip os).length:=by rw [List.length_zip];omega
 rw [List.take_succ_eq_append_getElem hz,List.getElem_zip]
theorem zip_whole {ps os:List Int} (hl:ps.length=os.length):(ps.zip os).take ps.length=ps.zip os:=List.take_of_length_le (by rw [List.length_zip];omega)
theorem zip_split {ps os:List Int} (hl:ps.length=os.length) {q:Nat} (hq:q<ps.length):∃ r,ps.zip os=(ps.zip os).take (q+1) ++ r:=⟨_,(List.take_append_drop _ _).symm⟩
variable (k d cl:Nat) (h:Hp) (n:Nat)
theorem mlist_ev (hk:30000≤k) (TA:Option Addr) (tn tc:Nat) (A:Option Addr) (gn gc:Nat) (bid boff bc:Nat) (bs:List UInt8) (PA QA:Option Addr) (ps os:List Int) (pc qc pl ql:Nat) (dp:Int) (g:List UInt8→Nat→Except Int V)
  (hB:RdH h n (some ⟨bid,boff,none⟩) (bv bs)) (hP:RdH h n PA (iv ps)) (hQ:RdH h n QA (iv os)) (hpl:pl=ps.length) (hql:ql=os.length) (hl:ps.length=os.length) (hl2:ps.length≤1000) (hbl:bs.length≤1000000)
  (ho:∀ q (hq:q<os.length),0≤os[q]∧os[q]≤bs.length)
  (ih:∀ q (hq:q<ps.length) (hq2:q<os.length) (cl:Nat) (h6:Hp) (n6:Nat) (m c:Nat),n≤n6→(∀ b,b<n→h6.get b=h.get b)→m=(bs.drop os[q].toNat).length→RdH h6 n6 (some ⟨bid,boff+os[q].toNat,none⟩) (bv (bs.drop os[q].toNat)) →
   SQ k d cl 40 [.agg ⟨[.slice TA tn tc,.slice A gn gc]⟩,.slice (some ⟨bid,boff+os[q].toNat,none⟩) m c,.int .i64 ps[q],.int .i64 dp] h6 n6 (LdV (g (bs.drop os[q].toNat) ps[q].toNat) h6 n6)) :
  SQ k (d+1) cl 69 [.agg ⟨[.slice TA tn tc,.slice A gn gc]⟩,.slice (some ⟨bid,boff,none⟩) bs.length bc,.slice PA pl pc,.slice QA ql qc,.int .i64 dp] h n (LdL (listP g bs (ps.zip os)) h n):=by
 subst hpl
 subst hql
 refine enter Try.func69 kz rfl kz rfl rfl rfl ?_
 (repeat' first|refine zcd ?_|intro K' hK|(with_reducible refine zn hK ?_;clear hK)|fail|((with_reducible first|apply zo1|apply zo2|apply o_guard rfl|apply x_cond|apply k_e1 rfl|apply k_e2 rfl|apply k_e0 rfl|apply k_e3 rfl|apply k_e4 rfl);(case he=>exact ez0);(try case hok=>exact ezO);all_goals try (intro hb;(try simp only [hbs,reduceCtorEq] at hb);try exact ezX))|((with_reducible apply o_undef rfl);(case hb=>exact ez0)))
 refine x_loopV [10,11,12,13,14,15,16,19,20,21,22,23,24,25,26,27,28,29,30,31,32,33,34,35,36,37,38,39,40,41,42,43,44] [12,19] (fun r vs h5 n5=>∃ (q:Nat) (acc:List V) (O:Value),r=ps.length - q∧q≤ps.length∧vs=[O,.int .i64 q]∧n+1≤n5∧(∀ b,b<n→h5.get b=h.get b)∧rowOf h5 n=some (78,false,[.slice TA tn tc,.slice A gn gc])∧acc.length=q∧OwnV acc O h5 (n+1) n5∧listP g bs ((ps.zip os).take q) = .ok acc) ps.length rfl zm ?_ ?_
 ·exact ⟨0,[],.slice none 0 0,rfl,by omega,ez0,by omega,fun b hb=>Hp.get_ne _ _ zm,ez0,rfl,.inl ⟨rfl,rfl⟩,rfl⟩
 ·rintro r g1 _ h5 n5 ⟨q,acc,O,rfl,hq,rfl,hn5,hkp,r1,hal,hO,hacc⟩
  have f0:=cellsAt_row (off:=0) (k:=2) r1
  by_cases hqp:q<ps.length
  ·have hqo:q<os.length:=by omega
   obtain ⟨pid,poff,rfl,hpid,cp⟩:=int_at (hP.keep (Nat.le_refl _) hkp) hqp
   obtain ⟨qid,qoff,rfl,hqid,cq⟩:=int_at (hQ.keep (Nat.le_refl _) hkp) hqo
   have hoq:=ho q hqo
   have hB5:=hB.keep (Nat.le_refl _) hkp
   have ihq:=fun (cl:Nat) (h6:Hp) (n6 m c:Nat) a b c2 d2=>ih q hqp hqo cl h6 n6 m c a b c2 d2
   have hsn:=listP_snoc g bs (ps[q],os[q]) _ _ hacc
   rw [← zip_take hl hqp] at hsn
   obtain ⟨ty,hty⟩:∃ ty,ps[q]=ty:=⟨_,rfl⟩
   obtain ⟨of,hof⟩:∃ of,os[q]=of:=⟨_,rfl⟩
   simp only [hty,hof] at cp cq hoq ihq hsn
   obtain ⟨o,rfl⟩:=Int.eq_ofNat_of_zero_le hoq.1
   rw [Int.toNat_natCast] at hsn
   simp only [Int.toNat_natCast] at ihq
   have hsub:RdH h5 n (some ⟨bid,boff+o,none⟩) (bv (bs.drop o)):=by
    have:=hB5.sub (p:=o) (t:=bs.length)
    rw [bv_sub,List.take_of_length_le (by rw [List.length_drop];omega)] at this
    exact this
   have q1:=ihq n h5 n5 (bs.length - o) (bs.length - o) zm hkp (by rw [List.length_drop]) (hsub.more zm)
   have e1:bs.length - (o:Int).toNat=bs.length - o:=by rw [Int.toNat_natCast]
   obtain ⟨res,hres⟩:∃ res,g (bs.drop o) ty.toNat=res:=⟨_,rfl⟩
   rw [hres] at q1 hsn
   cases res with
   | error e=>
    dsimp only at hsn
    have hall:listP g bs (ps.zip os) = .error e:=by
     obtain ⟨r,hr⟩:=zip_split hl hqp
     rw [hr]
     exact listP_err g bs _ _ hsn
    rw [hall]
    have q1:SQ k d n 40 [.agg ⟨[.slice TA tn tc,.slice A gn gc]⟩,.slice (some ⟨bid,boff+o,none⟩) (bs.length - o) (bs.length - o),.int .i64 ty,.int .i64 dp] h5 n5 fun v h' n'=>v = .tuple ⟨[.agg ⟨vcell 0 0 [] none 0 0 false⟩,.int .i64 e]⟩∧e≠0∧h5=h'∧n5=n':=q1.mono fun _ _ _ hp=>⟨hp.1,hp.2.1,hp.2.2.1.symm,hp.2.2.2.symm⟩
    (repeat' first|refine zcd ?_|intro K' hK|(with_reducible refine zn hK ?_;clear hK)|(with_reducible refine x_drawnD (id:=5) [(0,5)] kz fun K' hK=>?_)|((with_reducible apply d_nil);(case hp=>exact ezP);(case' hx=>(refine hK _ _ _ ?_;clear hK)))|((with_reducible apply d_pure w_none);(case hp=>exact rfl);(case hc=>exact rfl);(case he=>exact ez5 f0 cp cq @Int.toNat_natCast e1))|((with_reducible apply d_eff w_none);(case hc=>exact rfl);(case he=>exact ez5 f0 cp cq @Int.toNat_natCast e1);(case hok=>exact ezO))|((with_reducible apply d_guard rfl);(case hb=>exact ez5 f0 cp cq @Int.toNat_natCast e1);(case' h1=>intro hb;(try simp only [hbs,reduceCtorEq] at hb);try exact ezX);(case' h2=>intro hb;(try simp only [hbs,reduceCtorEq] at hb);try exact ezX))|((with_reducible apply d_callS (g:=40) w_none);(case hs0=>exact rfl);(case ha=>exact ez0);(case hs=>(exact q1));(case' hk=>rintro _ h' n' ⟨rfl,he0,rfl,rfl⟩))|((with_reducible first|apply zo1|apply zo2|apply o_guard rfl|apply x_cond|apply k_e1 rfl|apply k_e2 rfl|apply k_e0 rfl|apply k_e3 rfl|apply k_e4 rfl);(case he=>exact ez5 f0 cp cq @Int.toNat_natCast e1);(try case hok=>exact ezO);all_goals try (intro hb;(try simp only [hbs,reduceCtorEq] at hb);try exact ezX))|((with_reducible apply o_undef rfl);(case hb=>exact ez0)))
    all_goals exact sw_flat rfl rfl ⟨rfl,he0,rfl,rfl⟩
   | ok x=>
    dsimp only at hsn
    have q1:SQ k d n 40 [.agg ⟨[.slice TA tn tc,.slice A gn gc]⟩,.slice (some ⟨bid,boff+o,none⟩) (bs.length - o) (bs.length - o),.int .i64 ty,.int .i64 dp] h5 n5 fun v h' n'=>∃ A1 cc1,v = .tuple ⟨[.agg ⟨vcell x.kd x.i x.s A1 x.l.length cc1 x.c⟩,.int .i64 0]⟩∧FH h' n5 n' x (vcell x.kd x.i x.s A1 x.l.length cc1 x.c)∧n5≤n'∧∀ b,b<n5→h'.get b=h5.get b:=q1.mono fun v h' n' ⟨cs,e1,hf,a,b⟩=>by
     obtain ⟨A1,cc1,rfl⟩:=hf.cells
     exact ⟨A1,cc1,e1,hf,a,b⟩
    rcases hO with ⟨rfl,rfl⟩|⟨hne,id,rows,j1,j2,rfl,q4,hrl,hkk⟩
    ·(repeat' first|refine zcd ?_|intro K' hK|(with_reducible refine zn hK ?_;clear hK)|(with_reducible refine x_drawnD (id:=5) [(0,5)] kz fun K' hK=>?_)|((with_reducible apply d_nil);(case hp=>exact ezP);(case' hx=>(refine hK _ _ _ ?_;clear hK)))|((with_reducible apply d_pure w_none);(case hp=>exact rfl);(case hc=>exact rfl);(case he=>exact ez5 f0 cp cq @Int.toNat_natCast e1))|((with_reducible apply d_eff w_none);(case hc=>exact rfl);(case he=>exact ez5 f0 cp cq @Int.toNat_natCast e1);(case hok=>exact ezO))|((with_reducible apply d_guard rfl);(case hb=>exact ez5 f0 cp cq @Int.toNat_natCast e1);(case' h1=>intro hb;(try simp only [hbs,reduceCtorEq] at hb);try exact ezX);(case' h2=>intro hb;(try simp only [hbs,reduceCtorEq] at hb);try exact ezX))|((with_reducible apply d_callS (g:=40) w_none);(case hs0=>exact rfl);(case ha=>exact ez0);(case hs=>(exact q1));(case' hk=>rintro _ h' n' ⟨A1,cc1,rfl,hfx,hn6,hk6⟩))|((with_reducible apply o_ap0 (t:=30) apT30 w_none);(case hs=>exact ez0);(case hy=>exact ez0);(case hsrc=>exact src_row (rowOf_same _ _ _ _ _) rfl);(case hc=>exact rfl);(case hm=>omega);(case h0=>omega))|((with_reducible first|apply zo1|apply zo2|apply o_guard rfl|apply x_cond|apply k_e1 rfl|apply k_e2 rfl|apply k_e0 rfl|apply k_e3 rfl|apply k_e4 rfl);(case he=>exact ez5 f0 cp cq @Int.toNat_natCast e1);(try case hok=>exact ezO);all_goals try (intro hb;(try simp only [hbs,reduceCtorEq] at hb);try exact ezX))|((with_reducible apply o_undef rfl);(case hb=>exact ez0)))
     have hq0:q=0:=hal.symm
     subst hq0
     refine k_round (ps.length - 1) zm ⟨1,[x],.slice (some ⟨n'+1+1,0,none⟩) 1 1,rfl,by omega,ez0,by omega,(ezC hk6 hkp),(ezV hk6 r1),rfl,.inr ⟨by simp,n'+1+1,vcell x.kd x.i x.s A1 x.l.length cc1 x.c,by omega,by omega,rfl,rowOf_same _ _ _ _ _,rfl,fun j hj=>?_⟩,hsn⟩
     have hj0:j=0:=by simp at hj;omega
     subst hj0
     exact (hfx.keep zm zm fun b hb1 hb2=>by (repeat rw [Hp.get_ne _ _ zm]))
    ·have w4:=fun (h':Hp) (e:h'.get id=h5.get id)=>rwOf_row (show rowOf h' id=_ from by rw [rowOf_keep e];exact q4)
     have htw:rows.take (acc.length*5)=rows:=List.take_of_length_le zm
     (repeat' first|refine zcd ?_|intro K' hK|(with_reducible refine zn hK ?_;clear hK)|(with_reducible refine x_drawnD (id:=5) [(0,5)] kz fun K' hK=>?_)|((with_reducible apply d_nil);(case hp=>exact ezP);(case' hx=>(refine hK _ _ _ ?_;clear hK)))|((with_reducible apply d_pure w_none);(case hp=>exact rfl);(case hc=>exact rfl);(case he=>exact ez5 f0 cp cq @Int.toNat_natCast e1))|((with_reducible apply d_eff w_none);(case hc=>exact rfl);(case he=>exact ez5 f0 cp cq @Int.toNat_natCast e1);(case hok=>exact ezO))|((with_reducible apply d_guard rfl);(case hb=>exact ez5 f0 cp cq @Int.toNat_natCast e1);(case' h1=>intro hb;(try simp only [hbs,reduceCtorEq] at hb);try exact ezX);(case' h2=>intro hb;(try simp only [hbs,reduceCtorEq] at hb);try exact ezX))|((with_reducible apply d_callS (g:=40) w_none);(case hs0=>exact rfl);(case ha=>exact ez0);(case hs=>(exact q1));(case' hk=>rintro _ h' n' ⟨A1,cc1,rfl,hfx,hn6,hk6⟩))|((with_reducible first|apply zo1|apply zo2|apply o_guard rfl|apply x_cond|apply k_e1 rfl|apply k_e2 rfl|apply k_e0 rfl|apply k_e3 rfl|apply k_e4 rfl);(case he=>exact ez5 f0 cp cq @Int.toNat_natCast e1);(try case hok=>exact ezO);all_goals try (intro hb;(try simp only [hbs,reduceCtorEq] at hb);try exact ezX))|((with_reducible apply o_undef rfl);(case hb=>exact ez0)))
     have w4:=w4 h' (hk6 _ j2)
     (repeat' first|refine zcd ?_|intro K' hK|(with_reducible refine zn hK ?_;clear hK)|((with_reducible apply d_nil);(case hp=>exact ezP);(case' hx=>(refine hK _ _ _ ?_;clear hK)))|((with_reducible apply d_pure w_none);(case hp=>exact rfl);(case hc=>exact rfl);(case he=>exact ez0))|((with_reducible apply d_eff w_none);(case hc=>exact rfl);(case he=>exact ez0);(case hok=>exact ezO))|((with_reducible apply d_guard rfl);(case hb=>exact ez0);(case' h1=>intro hb;(try simp only [hbs,reduceCtorEq] at hb);try exact ezX);(case' h2=>intro hb;(try simp only [hbs,reduceCtorEq] at hb);try exact ezX))|((with_reducible apply o_apR (t:=30) apT30 w_none);(case hs=>exact ez1 w4);(case hy=>exact ez1 w4);(case hsrc=>exact src_row (rowOf_same _ _ _ _ _) rfl);(case hr=>exact ez1 w4);(case hc=>exact rfl);(case hm=>omega);(case hli=>omega);(case hln=>omega);(case hcs=>rw [hrl];omega))|((with_reducible first|apply zo1|apply zo2|apply o_guard rfl|apply x_cond|apply k_e1 rfl|apply k_e2 rfl|apply k_e0 rfl|apply k_e3 rfl|apply k_e4 rfl);(case he=>exact ez1 w4);(try case hok=>exact ezO);all_goals try (intro hb;(try simp only [hbs,reduceCtorEq] at hb);try exact ezX))|((with_reducible apply o_undef rfl);(case hb=>exact ez0)))
     have hnew:=fun (H:Hp) (e1:∀ b,n+1≤b→b<id→H.get b=h'.get b) (e2:∀ b,n5≤b→b<n'→H.get b=h'.get b)=>rows_snoc (h:=H) (lo:=n+1) (hi:=n'+1+1) (x:=x) hrl (fun j hj=>(hkk j hj).keep (Nat.le_refl _) zm fun b hb1 hb2=>by rw [e1 b hb1 hb2];exact hk6 _ zm) (hfx.keep zm zm e2)
     refine k_round (ps.length - (q+1)) zm ⟨q+1,acc ++ [x],.slice (some ⟨n'+1+1,0,none⟩) (acc.length+1) (acc.length+1),rfl,by omega,ez0,by omega,(ezC hk6 hkp),(ezV hk6 r1),by rw [List.length_append,hal];rfl,.inr ⟨by simp,n'+1+1,rows ++ vcell x.kd x.i x.s A1 x.l.length cc1 x.c,by omega,by omega,by rw [List.length_append];rfl,(ez1 htw),(hnew h' (fun _ _ _=>rfl) fun _ _ _=>rfl).1,(hnew _ ezN fun b hb1 hb2=>by (repeat rw [Hp.get_ne _ _ zm])).2⟩,hsn⟩
  ·obtain rfl:q=ps.length:=by omega
   rw [zip_whole hl] at hacc
   rw [hacc]
   have hO2:=hO.fhs
   rcases hO with ⟨rfl,rfl⟩|⟨hne,id,rows,j1,j2,rfl,q4,hrl,hkk⟩
   all_goals
    (repeat' first|refine zcd ?_|intro K' hK|(with_reducible refine zn hK ?_;clear hK)|fail|((with_reducible first|apply zo1|apply zo2|apply o_guard rfl|apply x_cond|apply k_e1 rfl|apply k_e2 rfl|apply k_e0 rfl|apply k_e3 rfl|apply k_e4 rfl);(case he=>exact ez0);(try case hok=>exact ezO);all_goals try (intro hb;(try simp only [hbs,reduceCtorEq] at hb);try exact ezX))|((with_reducible apply o_undef rfl);(case hb=>exact ez0)))
    exact sw_fhs (hO2.keep zm (Nat.le_refl _) fun _ _ _=>rfl) zm hkp fun O2 h2 n2 a b c=>⟨O2,rfl,a,b,c⟩
end
section
open Go.RowKit
def LdW (kd:Int) (r:Except Int V) (h:Hp) (n:Nat) (v:Value) (h':Hp) (n':Nat):Prop:=match r with
 | .error e=>v = .tuple ⟨[.agg ⟨vcell kd 0 [] none 0 0 false⟩,.int .i64 e]⟩∧e≠0∧h'=h∧n'=n
 | .ok x=>∃ cs,v = .tuple ⟨[.agg ⟨cs⟩,.int .i64 0]⟩∧FH h' n n' x cs∧n≤n'∧∀ b,b<n→h'.get b=h.get b
theorem zip_rep (el z:Int) (m:Nat):(List.replicate m el).zip ((List.range m).map fun (i:Nat)=>(i:Int)*z)=(List.range m).map fun (i:Nat)=>(el,(i:Int)*z):=by
 refine List.ext_getElem (by simp) fun j h1 h2=>?_
 simp
theorem RgH.keep {h h':Hp} {B n:Nat} {A:Option Addr} {L:List Rg} (hr:RgH h B A L) (hB:B≤n) (hk:∀ b,b<n→h'.get b=h.get b):RgH h' B A L:=⟨hr.rd.keep hB hk,fun g hg=>(hr.fd g hg).keep hB hk,hr.nl,hr.bd,hr.ln⟩
variable (k d cl:Nat) (h:Hp) (n:Nat)
theorem mfollow_ev (hk:30000≤k) (TA A:Option Addr) (T:List Tp) (L:List Rg) (tc gc:Nat) (hT:TabH h n TA T) (hS:∀ t∈T,t.fs.length≤20000) (hm:T.length≤9223372036854775807) (hR:RgH h n A L) (hl:L.length≤100) (hE:lstE L=0) (hC:∀ g∈L,chkG g=0) (x:Tp) (hkd:0≤x.kd∧x.kd<256) (y:Nat) (hy:x.el=(y:Int)) (ho:OkV T y) (a:Int) (ha0:0≤a) (ha1:a<18446744073709551616) (nn most dp:Nat) (hnm:nn≤most) (hm16:most≤16) (hdp:dp≤3) (g:Nat→List UInt8→Nat→Except Int V)
  (ih:1≤dp→∀ (cl:Nat) (h6:Hp) (n6:Nat) (bid boff m c:Nat) (bs:List UInt8),TabH h6 n6 TA T→RgH h6 n6 A L→m=bs.length→RdH h6 n6 (some ⟨bid,boff,none⟩) (bv bs)→sizT T y≤bs.length→bs.length≤20000 →
   SQ k (d+10) cl 40 [.agg ⟨[.slice TA T.length tc,.slice A L.length gc]⟩,.slice (some ⟨bid,boff,none⟩) m c,.int .i64 (y:Int),.int .i64 ((dp - 1:Nat):Int)] h6 n6 (LdV (g (dp - 1) bs y) h6 n6)) :
  SQ k (d+12) cl 68 [.agg ⟨[.slice TA T.length tc,.slice A L.length gc]⟩,.int .u64 a,.agg ⟨[.int .u8 x.kd,.int .i64 x.el,.int .i64 x.ln,.slice x.A x.fs.length x.c]⟩,.int .i64 nn,.int .i64 most,.int .i64 dp] h n (LdW x.kd (folP g T L x a nn most dp) h n):=by
 obtain ⟨z,hz⟩:∃ z,sizT T y=z:=⟨_,rfl⟩
 have hzb:=ho.bnd
 have hzp:=siz_pos (y+1) ho zm
 rw [hz] at hzb hzp
 have hmu:0≤z*(most:Int)∧z*(most:Int)≤256*16:=⟨Int.mul_nonneg hzb.1 zm,Int.mul_le_mul hzb.2 zm zm zm⟩
 obtain ⟨w,hw⟩:=Int.eq_ofNat_of_zero_le hmu.1
 have hfolw:folP g T L x a nn most dp=match findB L a w with
   | none=>.error 16
   | some b=>if nn=0 then .ok (.mk x.kd 0 [] [] false) else if dp=0 then .ok (.mk x.kd 0 [] [] true)
    else asV x.kd (listP (g (dp - 1)) b ((List.range nn).map fun (i:Nat)=>((y:Int),(i:Int)*z))):=by
  unfold folP
  rw [hy,Int.toNat_natCast,hz,hw,Int.toNat_natCast]
  try rfl
 rw [hfolw]
 obtain ⟨kd,el,ln,fs,FA,fc⟩:=x
 dsimp only at hkd hy ⊢
 subst hy
 have hw16:w≤4096:=by omega
 have qs:=fun (h6:Hp) (n6:Nat) (hT6:TabH h6 n6 TA T)=>(vsize_ev k (d+2) n h6 n6 hk TA T tc hT6 hS hm y ho).mono (Φ':=fun v h' n'=>v = .int .i64 z∧h6=h'∧n6=n') fun _ _ _ hp=>⟨by rw [hp.1,hz],hp.2.1.symm,hp.2.2.symm⟩
 cases hf:findB L a w with
 | none=>
  dsimp only
  have qf:=fun (h6:Hp) (n6:Nat) (hR6:RgH h6 n6 A L)=>(mfind_no k (d+4) n h6 n6 hk TA T.length tc A L gc hR6 hl hE a w ha0 ha1 zm hf).mono (Φ':=fun v h' n'=>v = .tuple ⟨[.slice none 0 0,.int .i64 16]⟩∧h6=h'∧n6=n') fun _ _ _ hp=>⟨hp.1,hp.2.1.symm,hp.2.2.symm⟩
  refine enter Try.func68 kz rfl kz rfl rfl rfl ?_
  (repeat' first|refine zcd ?_|intro K' hK|(with_reducible refine zn hK ?_;clear hK)|((with_reducible apply o_callF (g:=84) w_none);(case ha=>exact ez0);(case hs=>((with_reducible apply qs);exact ezT hT));(case' hk=>rintro _ h' n' ⟨rfl,rfl,rfl⟩))|((with_reducible apply o_callF (g:=101) w_none);(case ha=>exact ez0);(case hs=>((with_reducible apply qf);exact ezG hR));(case' hk=>rintro _ h' n' ⟨rfl,rfl,rfl⟩))|((with_reducible first|apply zo1|apply zo2|apply o_guard rfl|apply x_cond|apply k_e1 rfl|apply k_e2 rfl|apply k_e0 rfl|apply k_e3 rfl|apply k_e4 rfl);(case he=>exact ez1 hw);(try case hok=>exact ezO);all_goals try (intro hb;(try simp only [hbs,reduceCtorEq] at hb);try exact ezX))|((with_reducible apply o_undef rfl);(case hb=>exact ez0)))
  all_goals exact sw_flat rfl rfl ⟨rfl,by decide,rfl,rfl⟩
 | some ys=>
  have hyl:=findB_len hf
  dsimp only
  have qf:=fun (h6:Hp) (n6:Nat) (hR6:RgH h6 n6 A L)=>mfind_ok k (d+4) n h6 n6 hk TA T.length tc A L gc hR6 hl hE hC a w ha0 ha1 zm ys hf
  by_cases hn0:nn=0
  ·subst hn0
   rw [if_pos rfl]
   refine enter Try.func68 kz rfl kz rfl rfl rfl ?_
   (repeat' first|refine zcd ?_|intro K' hK|(with_reducible refine zn hK ?_;clear hK)|((with_reducible apply o_callF (g:=84) w_none);(case ha=>exact ez0);(case hs=>((with_reducible apply qs);exact ezT hT));(case' hk=>rintro _ h' n' ⟨rfl,rfl,rfl⟩))|((with_reducible apply o_callF (g:=101) w_none);(case ha=>exact ez0);(case hs=>((with_reducible apply qf);exact ezG hR));(case' hk=>rintro _ h' n' ⟨rfl,rfl,rfl⟩))|((with_reducible first|apply zo1|apply zo2|apply o_guard rfl|apply x_cond|apply k_e1 rfl|apply k_e2 rfl|apply k_e0 rfl|apply k_e3 rfl|apply k_e4 rfl);(case he=>exact ez1 hw);(try case hok=>exact ezO);all_goals try (intro hb;(try simp only [hbs,reduceCtorEq] at hb);try exact ezX))|((with_reducible apply o_undef rfl);(case hb=>exact ez0)))
   all_goals exact sw_flat rfl rfl ⟨_,rfl,.leaf kd 0 [] false,Nat.le_refl _,fun _ _=>rfl⟩
  ·rw [if_neg hn0]
   by_cases hd0:dp=0
   ·subst hd0
    rw [if_pos rfl]
    refine enter Try.func68 kz rfl kz rfl rfl rfl ?_
    (repeat' first|refine zcd ?_|intro K' hK|(with_reducible refine zn hK ?_;clear hK)|((with_reducible apply o_callF (g:=84) w_none);(case ha=>exact ez0);(case hs=>((with_reducible apply qs);exact ezT hT));(case' hk=>rintro _ h' n' ⟨rfl,rfl,rfl⟩))|((with_reducible apply o_callF (g:=101) w_none);(case ha=>exact ez0);(case hs=>((with_reducible apply qf);exact ezG hR));(case' hk=>rintro _ h' n' ⟨rfl,rfl,rfl⟩))|((with_reducible first|apply zo1|apply zo2|apply o_guard rfl|apply x_cond|apply k_e1 rfl|apply k_e2 rfl|apply k_e0 rfl|apply k_e3 rfl|apply k_e4 rfl);(case he=>exact ez1 hw);(try case hok=>exact ezO);all_goals try (intro hb;(try simp only [hbs,reduceCtorEq] at hb);try exact ezX))|((with_reducible apply o_undef rfl);(case hb=>exact ez0)))
    all_goals exact sw_flat rfl rfl ⟨_,rfl,.leaf kd 0 [] true,Nat.le_refl _,fun _ _=>rfl⟩
   ·rw [if_neg hd0]
    refine enter Try.func68 kz rfl kz rfl rfl rfl ?_
    (repeat' first|refine zcd ?_|intro K' hK|(with_reducible refine zn hK ?_;clear hK)|((with_reducible apply o_callF (g:=84) w_none);(case ha=>exact ez0);(case hs=>((with_reducible apply qs);exact ezT hT));(case' hk=>rintro _ h' n' ⟨rfl,rfl,rfl⟩))|((with_reducible apply o_callF (g:=101) w_none);(case ha=>exact ez0);(case hs=>((with_reducible apply qf);exact ezG hR));(case' hk=>rintro _ h' n' ⟨rfl,rfl,rfl⟩))|((with_reducible first|apply zo1|apply zo2|apply o_guard rfl|apply x_cond|apply k_e1 rfl|apply k_e2 rfl|apply k_e0 rfl|apply k_e3 rfl|apply k_e4 rfl);(case he=>exact ez1 hw);(try case hok=>exact ezO);all_goals try (intro hb;(try simp only [hbs,reduceCtorEq] at hb);try exact ezX))|((with_reducible apply o_undef rfl);(case hb=>exact ez0)))
    have hzq:∀ q:Nat,q<nn→0≤(q:Int)*z∧(q:Int)*z+z≤w:=fun q hq=>by
     have h1:((q:Int)+1)*z≤(most:Int)*z:=Int.mul_le_mul_of_nonneg_right zm hzb.1
     rw [Int.add_mul,Int.one_mul,Int.mul_comm (most:Int) z,hw] at h1
     exact ⟨Int.mul_nonneg zm hzb.1,h1⟩
    have hdp1:(dp:Int) - 1=((dp - 1:Nat):Int):=by omega
    refine x_loopV [18,19,20,51,52,53,54,55,56,57,58,59,60,61,62,63,64,65] [18,19,51] (fun r vs h5 n5=>∃ (q:Nat) (OP OQ:Value),r=nn - q∧q≤nn∧vs=[OP,OQ,.int .i64 q]∧n+5≤n5∧(∀ b,b<n→h5.get b=h.get b) ∧
     rowOf h5 n=some (78,false,[.slice TA T.length tc,.slice A L.length gc])∧rowOf h5 (n+1)=some (64,false,[.int .u8 kd,.int .i64 (y:Int),.int .i64 ln,.slice FA fs.length fc])∧rowOf h5 (n+2)=some (32,false,vcell 0 0 [] none 0 0 false) ∧
     rowOf h5 (n+3)=some (5,false,bv ys)∧rowOf h5 (n+4)=some (32,false,vcell kd 0 [] none 0 0 false) ∧
     ((q=0∧OP = .slice none 0 0∧OQ = .slice none 0 0)∨(0<q∧∃ i1 i2,n+5≤i1∧i1<n5∧n+5≤i2∧i2<n5∧i1≠i2∧OP = .slice (some ⟨i1,0,none⟩) q q∧OQ = .slice (some ⟨i2,0,none⟩) q q ∧
      rowOf h5 i1=some (3,false,iv (List.replicate q (y:Int)))∧rowOf h5 i2=some (3,false,iv ((List.range q).map fun (i:Nat)=>(i:Int)*z))))) nn rfl zm ?_ ?_
    ·exact ⟨0,_,_,rfl,by omega,ez0,by omega,ezN,ez0,ez0,ez0,ez0,ez0,.inl ⟨rfl,rfl,rfl⟩⟩
    ·rintro r g1 _ h5 n5 ⟨q,OP,OQ,rfl,hq,rfl,hn5,hkp,r6,r8,r12,rY,r17,hO⟩
     have f6:=cellsAt_row (off:=0) (k:=2) r6
     have f8:=cellAt_row (off:=1) r8
     by_cases hqn:q<nn
     ·have hqz:=hzq q hqn
      obtain ⟨qz,hqze⟩:∃ qz,(q:Int)*z=qz:=⟨_,rfl⟩
      rw [hqze] at hqz
      have hrep:List.replicate (q+1) (y:Int)=List.replicate q (y:Int) ++ [(y:Int)]:=by rw [List.replicate_succ']
      have hran:(List.range (q+1)).map (fun (i:Nat)=>(i:Int)*z)=(List.range q).map (fun (i:Nat)=>(i:Int)*z) ++ [qz]:=by rw [List.range_succ,List.map_append,← hqze];rfl
      rcases hO with ⟨rfl,rfl,rfl⟩|⟨hq0,i1,i2,j1,j2,j3,j4,j5,rfl,rfl,q1,q2⟩
      ·(repeat' first|refine zcd ?_|intro K' hK|(with_reducible refine zn hK ?_;clear hK)|((with_reducible apply o_ap0 (t:=99) apT99 w_none);(case hs=>exact ez0);(case hy=>exact ez0);(case hsrc=>exact src_row (rowOf_same _ _ _ _ _) rfl);(case hc=>exact rfl);(case hm=>omega);(case h0=>omega))|((with_reducible first|apply zo1|apply zo2|apply o_guard rfl|apply x_cond|apply k_e1 rfl|apply k_e2 rfl|apply k_e0 rfl|apply k_e3 rfl|apply k_e4 rfl);(case he=>exact ez2 f8 hqze);(try case hok=>exact ezO);all_goals try (intro hb;(try simp only [hbs,reduceCtorEq] at hb);try exact ezX))|((with_reducible apply o_undef rfl);(case hb=>exact ez0)))
       refine k_round (nn - 1) zm ⟨1,.slice (some ⟨n5+1,0,none⟩) 1 1,.slice (some ⟨n5+1+1+1,0,none⟩) 1 1,rfl,by omega,ez0,by omega,(ezB hkp),(ezW r6),(ezW r8),(ezW r12),(ezW rY),(ezW r17),.inr ⟨by omega,n5+1,n5+1+1+1,by omega,by omega,by omega,by omega,by omega,rfl,rfl,by rw [rowOf_ne _ _ zm,rowOf_ne _ _ zm,rowOf_same];rfl,?_⟩⟩
       rw [hran,← hqze,rowOf_same]
       simp [iv]
      ·have w1:=rwOf_row q1
       have w2:=rwOf_row q2
       have ht1:(iv (List.replicate q (y:Int))).take q=iv (List.replicate q (y:Int)):=List.take_of_length_le (by rw [iv_length,List.length_replicate];omega)
       have ht2:(iv ((List.range q).map fun (i:Nat)=>(i:Int)*z)).take q=iv ((List.range q).map fun (i:Nat)=>(i:Int)*z):=List.take_of_length_le (by rw [iv_length,List.length_map,List.length_range];omega)
       (repeat' first|refine zcd ?_|intro K' hK|(with_reducible refine zn hK ?_;clear hK)|((with_reducible apply o_apR (t:=99) apT99 w_none);(case hs=>exact ez2 w1 w2);(case hy=>exact ez2 w1 w2);(case hsrc=>exact src_row (rowOf_same _ _ _ _ _) rfl);(case hr=>exact ez2 w1 w2);(case hc=>exact rfl);(case hm=>omega);(case hli=>omega);(case hln=>omega);(case hcs=>first|(rw [iv_length,List.length_replicate];omega)|(rw [iv_length,List.length_map,List.length_range];omega)))|((with_reducible first|apply zo1|apply zo2|apply o_guard rfl|apply x_cond|apply k_e1 rfl|apply k_e2 rfl|apply k_e0 rfl|apply k_e3 rfl|apply k_e4 rfl);(case he=>exact ez4 f8 hqze w1 w2);(try case hok=>exact ezO);all_goals try (intro hb;(try simp only [hbs,reduceCtorEq] at hb);try exact ezX))|((with_reducible apply o_undef rfl);(case hb=>exact ez0)))
       refine k_round (nn - (q+1)) zm ⟨q+1,.slice (some ⟨n5+1,0,none⟩) (q+1) (q+1),.slice (some ⟨n5+1+1+1,0,none⟩) (q+1) (q+1),rfl,by omega,ez0,by omega,(ezB hkp),(ezW r6),(ezW r8),(ezW r12),(ezW rY),(ezW r17),.inr ⟨by omega,n5+1,n5+1+1+1,by omega,by omega,by omega,by omega,by omega,rfl,rfl,?_,?_⟩⟩
       ·rw [hrep,iv_app1]
        (repeat rw [rowOf_ne _ _ zm])
        rw [rowOf_same]
        exact ez1 ht1
       ·rw [hran,iv_app1,rowOf_same]
        exact ez1 ht2
     ·obtain rfl:q=nn:=by omega
      rcases hO with ⟨hq0, -⟩|⟨hq0,i1,i2,j1,j2,j3,j4,j5,rfl,rfl,q1,q2⟩
      ·exact absurd hq0 hn0
      ·have ql:=mlist_ev k (d+10) n h5 n5 hk TA T.length tc A L.length gc (n+3) 0 ys.length ys (some ⟨i1,0,none⟩) (some ⟨i2,0,none⟩) (List.replicate q (y:Int)) ((List.range q).map fun (i:Nat)=>(i:Int)*z) q q q q ((dp - 1:Nat):Int) (g (dp - 1)) (RdH.ofRow rY zm) (RdH.ofRow q1 zm) (RdH.ofRow q2 zm) (by simp) (by simp) (by simp) (by simp;omega) zm (fun j hj=>by
         have hjq:j<q:=by simpa using hj
         have:=hzq j hjq
         simp only [List.getElem_map,List.getElem_range]
         omega) (fun j hj hj2 cl h6 n6 m c hn6 hk6 hm6 hr6=>by
         have hjq:j<q:=by simpa using hj
         have hjz:=hzq j hjq
         simp only [List.getElem_map,List.getElem_range,List.getElem_replicate,Int.toNat_natCast] at hm6 hr6 ⊢
         exact ih zm cl h6 n6 (n+3) _ m c _ ((hT.keep (Nat.le_refl _) fun b hb=>by rw [hk6 b zm];exact hkp b hb).more zm) ((hR.keep (Nat.le_refl _) fun b hb=>by rw [hk6 b zm];exact hkp b hb).more zm) hm6 hr6 (by rw [List.length_drop];omega) (by rw [List.length_drop];omega))
       rw [zip_rep] at ql
       obtain ⟨res,hres⟩:∃ res,listP (g (dp - 1)) ys ((List.range q).map fun (i:Nat)=>((y:Int),(i:Int)*z))=res:=⟨_,rfl⟩
       rw [hres] at ql ⊢
       have hrl:=fun l (e:res = .ok l)=>listP_len (g (dp - 1)) ys _ l (hres.trans e)
       rw [hyl] at ql
       have w12:=rwOf_row r12
       have w17:=rwOf_row r17
       have f17:=cellsAt_row (off:=0) (k:=5) r17
       cases res with
       | error e=>
        have ql:SQ k (d+11) n 69 [.agg ⟨[.slice TA T.length tc,.slice A L.length gc]⟩,.slice (some ⟨n+3,0,none⟩) w w,.slice (some ⟨i1,0,none⟩) q q,.slice (some ⟨i2,0,none⟩) q q,.int .i64 ((dp - 1:Nat):Int)] h5 n5 fun v h' n'=>v = .tuple ⟨[.slice none 0 0,.int .i64 e]⟩∧e≠0∧h5=h'∧n5=n':=ql.mono fun _ _ _ hp=>⟨hp.1,hp.2.1,hp.2.2.1.symm,hp.2.2.2.symm⟩
        (repeat' first|refine zcd ?_|intro K' hK|(with_reducible refine zn hK ?_;clear hK)|((with_reducible apply o_callF (g:=69) w_none);(case ha=>exact ez0);(case hs=>(exact ql));(case' hk=>rintro _ h' n' ⟨rfl,he0,rfl,rfl⟩))|((with_reducible first|apply zo1|apply zo2|apply o_guard rfl|apply x_cond|apply k_e1 rfl|apply k_e2 rfl|apply k_e0 rfl|apply k_e3 rfl|apply k_e4 rfl);(case he=>exact ez5 f6 hdp1 w12 w17 f17);(try case hok=>exact ezO);all_goals try (intro hb;(try simp only [hbs,reduceCtorEq] at hb);try exact ezX))|((with_reducible apply o_undef rfl);(case hb=>exact ez0)))
        all_goals exact sw_flat rfl rfl ⟨rfl,he0,rfl,rfl⟩
       | ok l=>
        have hll:=hrl l rfl
        rw [List.length_map,List.length_range] at hll
        have ql:SQ k (d+11) n 69 [.agg ⟨[.slice TA T.length tc,.slice A L.length gc]⟩,.slice (some ⟨n+3,0,none⟩) w w,.slice (some ⟨i1,0,none⟩) q q,.slice (some ⟨i2,0,none⟩) q q,.int .i64 ((dp - 1:Nat):Int)] h5 n5 fun v h' n'=>∃ lid,v = .tuple ⟨[.slice (some ⟨lid,0,none⟩) l.length l.length,.int .i64 0]⟩∧FHs h' n5 n' l (.slice (some ⟨lid,0,none⟩) l.length l.length)∧n5≤n'∧∀ b,b<n5→h'.get b=h5.get b:=ql.mono fun v h' n' ⟨O,e1,hf,a,b⟩=>by
         rcases hf with ⟨e2, -⟩|⟨hne,lid,rows,x1,x2,e3,x4⟩
         ·rw [e2] at hll;simp at hll;omega
         ·subst e3
          exact ⟨lid,e1,.inr ⟨hne,lid,rows,x1,x2,rfl,x4⟩,a,b⟩
        (repeat' first|refine zcd ?_|intro K' hK|(with_reducible refine zn hK ?_;clear hK)|((with_reducible apply o_callF (g:=69) w_none);(case ha=>exact ez0);(case hs=>(exact ql));(case' hk=>rintro _ h' n' ⟨lid,rfl,hfx,hn6,hk6⟩))|((with_reducible first|apply zo1|apply zo2|apply o_guard rfl|apply x_cond|apply k_e1 rfl|apply k_e2 rfl|apply k_e0 rfl|apply k_e3 rfl|apply k_e4 rfl);(case he=>exact ez2 f6 hdp1);(try case hok=>exact ezO);all_goals try (intro hb;(try simp only [hbs,reduceCtorEq] at hb);try exact ezX))|((with_reducible apply o_undef rfl);(case hb=>exact ez0)))
        have w12:=rwOf_row (show rowOf h' (n+2)=_ from by rw [rowOf_keep (hk6 _ zm)];exact r12)
        have w17:=rwOf_row (show rowOf h' (n+4)=_ from by rw [rowOf_keep (hk6 _ zm)];exact r17)
        (repeat' first|refine zcd ?_|intro K' hK|(with_reducible refine zn hK ?_;clear hK)|fail|((with_reducible first|apply zo1|apply zo2|apply o_guard rfl|apply x_cond|apply k_e1 rfl|apply k_e2 rfl|apply k_e0 rfl|apply k_e3 rfl|apply k_e4 rfl);(case he=>exact ez2 w12 w17);(try case hok=>exact ezO);all_goals try (intro hb;(try simp only [hbs,reduceCtorEq] at hb);try exact ezX))|((with_reducible apply o_undef rfl);(case hb=>exact ez0)))
        refine sw_fh (FHs.val (hfx.keep zm (Nat.le_refl _) fun b hb1 hb2=>by (repeat rw [Hp.get_ne _ _ zm])) kd 0 [] false) zm (ezC hk6 hkp) fun cs2 h2 n2 a b c=>⟨cs2,rfl,a,b,c⟩
end
end Go.Proofs.Ytcpkdjikembpnaa.Ce
