/- Parts of the proof of ValueBack: Id, Pr, Kb. No condition of its own. -/
import Derived.Laws.StructEq
import Derived.Test.YtcpkdjikembpnaaWaai
import Derived.Test.YtcpkdjikembpnaaWaaj
set_option linter.unusedVariables false
set_option linter.unusedSimpArgs false
set_option maxRecDepth 1000000
set_option maxHeartbeats 4000000
namespace Go.Proofs.Ytcpkdjikembpnaa.Ce
section
open Go.RowKit
def wv (l:List Int):List Value:=l.map (Value.int .u64)
theorem wv_length (l:List Int):(wv l).length=l.length:=by simp [wv]
def litP (l:List Int):List UInt8:=l.flatMap (toLE 8)
theorem litP_length (l:List Int):(litP l).length=8*l.length:=by
 unfold litP
 induction l with
 | nil=>rfl
 | cons x l ih=>rw [List.flatMap_cons,List.length_append,toLE_length,ih,List.length_cons];omega
def OwnY (l:List UInt8) (O:Value) (h:Hp) (lo n:Nat):Prop:=
 (l=[]∧O = .slice none 0 0)∨(l≠[]∧∃ id,lo≤id∧id<n∧O = .slice (some ⟨id,0,none⟩) l.length l.length∧rowOf h id=some (5,false,bv l))
theorem bv_one (l:List UInt8) (x:UInt8):bv (l ++ [x])=bv l ++ [.int .u8 (x.toNat:Int)]:=by simp [bv]
variable (k d cl:Nat) (h:Hp) (n:Nat)
theorem little_ev (hk:30000≤k) (A:Option Addr) (ws:List Int) (c:Nat) (hr:RdH h n A (wv ws)) (hl:ws.length≤1000) (hb:∀ w∈ws,0≤w∧w<18446744073709551616) (h0:ws≠[]) :
  SQ k (d+1) cl 82 [.slice A ws.length c] h n fun v h' n'=>v = .slice (some ⟨n,0,none⟩) (8*ws.length) (8*ws.length)∧h.set n (.row 5 false (bv (litP ws)))=h'∧n+1=n':=by
 refine enter Try.func82 kz rfl kz rfl rfl rfl ?_
 (repeat' first|refine zcd ?_|intro K' hK|(with_reducible refine zn hK ?_;clear hK)|fail|((with_reducible first|apply zo1|apply zo2|apply o_guard rfl|apply x_cond|apply k_e1 rfl|apply k_e2 rfl|apply k_e0 rfl|apply k_e3 rfl|apply k_e4 rfl);(case he=>exact ez0);(try case hok=>exact ezO);all_goals try (intro hb;(try simp only [hbs,reduceCtorEq] at hb);try exact ezX))|((with_reducible apply o_undef rfl);(case hb=>exact ez0)))
 refine x_loopV [3,5,6,9,10,11,12,13,14,15,16,17,18,19,20,21,22,23,24,25] [3,9] (fun m vs h5 n5=>∃ (q:Nat) (O:Value),m=ws.length - q∧q≤ws.length∧vs=[O,.int .i64 q]∧n≤n5∧RdH h5 n A (wv ws)∧OwnY (litP (ws.take q)) O h5 n n5) ws.length rfl zm ?_ ?_
 ·exact ⟨0,.slice none 0 0,rfl,by omega,ez0,by omega,hr,.inl ⟨rfl,rfl⟩⟩
 ·rintro m g _ h5 n5 ⟨q,O,rfl,hq,rfl,hn5,r2,hO⟩
  by_cases hqw:q<ws.length
  ·obtain ⟨id2,off2,rfl,hid2,hfa⟩:=r2.at_ (by rw [wv_length];omega)
   have hcw:cellAt h5 id2 (off2+q)=some (.int .u64 ws[q]):=hfa q _ (by unfold wv;rw [List.getElem?_map,List.getElem?_eq_getElem hqw];rfl)
   clear hfa
   have hw:=hb _ (List.getElem_mem hqw)
   obtain ⟨w,hwe⟩:∃ w,ws[q]=w:=⟨_,rfl⟩
   rw [hwe] at hcw hw
   have htk:litP (ws.take (q+1))=litP (ws.take q) ++ toLE 8 w:=by
    unfold litP
    rw [List.take_succ_eq_append_getElem hqw,List.flatMap_append,hwe]
    simp
   have hll:=litP_length (ws.take q)
   rw [List.length_take] at hll
   obtain ⟨acc,hacc⟩:∃ acc,litP (ws.take q)=acc:=⟨_,rfl⟩
   rw [hacc] at hO htk hll
   (repeat' first|refine zcd ?_|intro K' hK|(with_reducible refine zn hK ?_;clear hK)|fail|((with_reducible first|apply zo1|apply zo2|apply o_guard rfl|apply x_cond|apply k_e1 rfl|apply k_e2 rfl|apply k_e0 rfl|apply k_e3 rfl|apply k_e4 rfl);(case he=>exact ez1 hcw);(try case hok=>exact ezO);all_goals try (intro hb;(try simp only [hbs,reduceCtorEq] at hb);try exact ezX))|((with_reducible apply o_undef rfl);(case hb=>exact ez0)))
   refine x_loopV [3,6,13,14,15,16,17,18,19,20,21,22,23,24] [3,13] (fun m vs h6 n6=>∃ (j:Nat) (O:Value),m=8 - j∧j≤8∧vs=[O,.int .i64 j]∧n5≤n6∧RdH h6 n (some ⟨id2,off2,none⟩) (wv ws)∧OwnY (acc ++ toLE j w) O h6 n n6) 8 rfl zm ?_ ?_
   ·exact ⟨0,O,rfl,by omega,ez0,Nat.le_refl _,r2,by rw [toLE_zero,List.append_nil];exact hO⟩
   ·rintro m g2 _ h6 n6 ⟨j,O2,rfl,hj,rfl,hn6,r3,hO2⟩
    by_cases hj8:j<8
    ·have hsb:=shr_byte (v:=w) (i:=j) hw.1 zm
     have htl:=toLE_succ j w
     have hlj:(acc ++ toLE j w).length=8*q+j:=by rw [List.length_append,toLE_length];omega
     have hnx:acc ++ toLE (j+1) w=(acc ++ toLE j w) ++ [byteAt w j]:=by rw [htl,List.append_assoc]
     obtain ⟨ac2,hac2⟩:∃ x,acc ++ toLE j w=x:=⟨_,rfl⟩
     rw [hac2] at hO2 hlj hnx
     rcases hO2 with ⟨hp0,rfl⟩|⟨hp0,id,j1,j2,rfl,q4⟩
     ·(repeat' first|refine zcd ?_|intro K' hK|(with_reducible refine zn hK ?_;clear hK)|((with_reducible apply o_ap0 (t:=27) apT27 w_none);(case hs=>exact ez0);(case hy=>exact ez0);(case hsrc=>exact src_row (rowOf_same _ _ _ _ _) rfl);(case hc=>exact rfl);(case hm=>omega);(case h0=>omega))|((with_reducible first|apply zo1|apply zo2|apply o_guard rfl|apply x_cond|apply k_e1 rfl|apply k_e2 rfl|apply k_e0 rfl|apply k_e3 rfl|apply k_e4 rfl);(case he=>exact ez1 hsb);(try case hok=>exact ezO);all_goals try (intro hb;(try simp only [hbs,reduceCtorEq] at hb);try exact ezX))|((with_reducible apply o_undef rfl);(case hb=>exact ez0)))
      refine k_round (8 - (j+1)) zm ⟨j+1,.slice (some ⟨n6+1,0,none⟩) 1 1,rfl,by omega,ez0,by omega,(r3.set zm _).set zm _,.inr ⟨by rw [hnx];simp,n6+1,by omega,by omega,by rw [hnx,hp0];rfl,by rw [hnx,hp0];exact rowOf_same _ _ _ _ _⟩⟩
     ·have w4:=rwOf_row q4
      have htw:(bv ac2).take ac2.length=bv ac2:=List.take_of_length_le (by rw [bv_length];omega)
      (repeat' first|refine zcd ?_|intro K' hK|(with_reducible refine zn hK ?_;clear hK)|((with_reducible apply o_apR (t:=27) apT27 w_none);(case hs=>exact ez1 w4);(case hy=>exact ez1 w4);(case hsrc=>exact src_row (rowOf_same _ _ _ _ _) rfl);(case hr=>exact ez1 w4);(case hc=>exact rfl);(case hm=>omega);(case hli=>omega);(case hln=>omega);(case hcs=>rw [bv_length];omega))|((with_reducible first|apply zo1|apply zo2|apply o_guard rfl|apply x_cond|apply k_e1 rfl|apply k_e2 rfl|apply k_e0 rfl|apply k_e3 rfl|apply k_e4 rfl);(case he=>exact ez2 hsb w4);(try case hok=>exact ezO);all_goals try (intro hb;(try simp only [hbs,reduceCtorEq] at hb);try exact ezX))|((with_reducible apply o_undef rfl);(case hb=>exact ez0)))
      refine k_round (8 - (j+1)) zm ⟨j+1,.slice (some ⟨n6+1,0,none⟩) (ac2.length+1) (ac2.length+1),rfl,by omega,ez0,by omega,((r3.set zm _).set zm _).set zm _,.inr ⟨by rw [hnx];simp,n6+1,by omega,by omega,by rw [hnx,List.length_append];rfl,by rw [hnx,bv_one];exact ez1 htw⟩⟩
    ·obtain rfl:j=8:=by omega
     rw [← htk] at hO2
     have hsl:∃ A l c,O2 = .slice A l c:=by
      rcases hO2 with ⟨-,rfl⟩|⟨-,id, -, -,rfl, -⟩ <;> exact ⟨_,_,_,rfl⟩
     obtain ⟨OA,ol,oc,rfl⟩:=hsl
     (repeat' first|refine zcd ?_|intro K' hK|(with_reducible refine zn hK ?_;clear hK)|fail|((with_reducible first|apply zo1|apply zo2|apply o_guard rfl|apply x_cond|apply k_e1 rfl|apply k_e2 rfl|apply k_e0 rfl|apply k_e3 rfl|apply k_e4 rfl);(case he=>exact ez0);(try case hok=>exact ezO);all_goals try (intro hb;(try simp only [hbs,reduceCtorEq] at hb);try exact ezX))|((with_reducible apply o_undef rfl);(case hb=>exact ez0)))
     refine k_round (ws.length - (q+1)) zm ⟨q+1,.slice OA ol oc,rfl,by omega,ez0,by omega,r3,hO2⟩
  ·obtain rfl:q=ws.length:=by omega
   rw [List.take_length] at hO
   rcases hO with ⟨hp0, -⟩|⟨hp0,id,j1,j2,rfl,q4⟩
   ·have:=litP_length ws
    rw [hp0] at this
    exact absurd (List.length_eq_zero_iff.1 (by simp at this;omega)) h0
   ·(repeat' first|refine zcd ?_|intro K' hK|(with_reducible refine zn hK ?_;clear hK)|fail|((with_reducible first|apply zo1|apply zo2|apply o_guard rfl|apply x_cond|apply k_e1 rfl|apply k_e2 rfl|apply k_e0 rfl|apply k_e3 rfl|apply k_e4 rfl);(case he=>exact ez0);(try case hok=>exact ezO);all_goals try (intro hb;(try simp only [hbs,reduceCtorEq] at hb);try exact ezX))|((with_reducible apply o_undef rfl);(case hb=>exact ez0)))
    rw [← litP_length]
    refine sw_row (m:=id) ezI rfl zm q4 (bv_idA _ _) ezR ?_
    exact ⟨rfl,rfl,rfl⟩
end
section
open Go.RowKit
theorem prun_bd {P:Program} {α β:Type} (x:Sem α) (f:α→Sem β):prun P (x >>= f)=(prun P x).bind fun a=>prun P (f a):=by
 show prun P (Sem.bind x f)=_
 induction x with
 | pure a=>rfl
 | program k ih=>exact ih P
 | mark m k ih=>exact ih
 | _=>rfl
theorem prun_under {P:Program} {t:TypeId} {d:TypeDesc} (h:P.underlying t=some d):prun P (underlying t)=some d:=by
 unfold underlying
 rw [prun_bd]
 show prun P (match P.underlying t with|some d=>pure d|none=>_)=_
 rw [h]
 rfl
end
section
open Go.RowKit
end
section
open Go.RowKit
def letB (c:UInt8):Bool:=decide ((97≤c.toNat∧c.toNat≤122)∨(65≤c.toNat∧c.toNat≤90))
def chrB (c:UInt8):Bool:=letB c || decide (48≤c.toNat∧c.toNat≤57)
def namedB (s:List UInt8):Bool:=decide (s.length≤16) && (match s with|[]=>false|c :: _=>letB c) && s.all chrB
def or8 (a b:Int):Int:=IntKind.wrap .u8 ((BitVec.ofInt 8 a ||| BitVec.ofInt 8 b).toNat:Int)
def and8 (a b:Int):Int:=IntKind.wrap .u8 ((BitVec.ofInt 8 a &&& BitVec.ofInt 8 b).toNat:Int)
theorem chr8n:∀ n:Fin 256,decide ((or8 (n.val:Int) 32<97∨122<or8 (n.val:Int) 32∨and8 (n.val:Int) 64=0)∧(n.val<48∨57<n.val)) = !(decide ((97≤n.val∧n.val≤122)∨(65≤n.val∧n.val≤90)) || decide (48≤n.val∧n.val≤57)):=by decide +kernel
theorem chr8 (c:UInt8):((or8 (c.toNat:Int) 32<97∨122<or8 (c.toNat:Int) 32∨and8 (c.toNat:Int) 64=0)∧(c.toNat<48∨57<c.toNat))↔chrB c=false:=by
 have:=chr8n ⟨c.toNat,c.toNat_lt⟩
 dsimp only at this
 unfold chrB letB
 rw [← Bool.not_eq_true',← this,decide_eq_true_eq]
theorem b_or32 (a:Int) (h:Hp) (n:Nat):mBin Try.prog .or 5 (.int .u8 a) (.int .u8 32) h n=some ⟨.int .u8 (or8 a 32),h,n,[],[]⟩:=rfl
theorem b_and64 (a:Int) (h:Hp) (n:Nat):mBin Try.prog .and 5 (.int .u8 a) (.int .u8 64) h n=some ⟨.int .u8 (and8 a 64),h,n,[],[]⟩:=rfl
theorem ix_str (s:List UInt8) {i:Nat} (hi:i<s.length) (k:IntKind) (h:Hp) (n:Nat):mIndex Try.prog 9 (.string ⟨⟨s⟩⟩) (.int k (i:Int)) h n=some ⟨.int .u8 (s[i]).toNat,h,n,[],[]⟩:=by
 show (bif tyStr Try.prog 9 then (lget s i).bind fun b=>mV (.int .u8 b.toNat) h n else none)=_
 rw [show tyStr Try.prog 9=true from by kernel_rfl,lget_eq,List.getElem?_eq_getElem hi]
 rfl
theorem bvals_bv (t:List UInt8):bvals ⟨⟨t⟩⟩=bv t:=rfl
theorem size_mk (t:List UInt8):ByteArray.size ⟨⟨t⟩⟩=t.length:=rfl
theorem named_no {s:List UInt8} {i:Nat} (hi:i<s.length) (h:chrB s[i]=false):namedB s=false:=by
 unfold namedB
 have:s.all chrB=false:=by
  rw [List.all_eq_false]
  exact ⟨s[i],List.getElem_mem _,by rw [h];exact Bool.false_ne_true⟩
 rw [this,Bool.and_false]
end
section
open Go.RowKit
variable (k d cl:Nat) (h:Hp) (n:Nat)
theorem letter_ev (c:UInt8):SQ k (d+1) cl 138 [.int .u8 c.toNat] h n fun v h' n'=>v = .bool (letB c)∧h'=h∧n'=n:=by
 refine enter Try.func138 kz rfl kz rfl rfl rfl ?_
 (repeat' first|refine zcd ?_|intro K' hK|(with_reducible refine zn hK ?_;clear hK)|fail|((with_reducible first|apply zo1|apply zo2|apply o_guard rfl|apply x_cond|apply k_e1 rfl|apply k_e2 rfl|apply k_e0 rfl|apply k_e3 rfl|apply k_e4 rfl);(case he=>exact ez0);(try case hok=>exact ezO);all_goals try (intro hb;(try simp only [hbs,reduceCtorEq] at hb);try exact ezX))|((with_reducible apply o_undef rfl);(case hb=>exact ez0)))
 all_goals exact sw_flat rfl rfl ⟨by congr 1;unfold letB;first|(rw [eq_comm,decide_eq_true_eq];omega)|(rw [eq_comm,decide_eq_false_iff_not];omega)|(rw [Bool.eq_iff_iff];simp only [decide_eq_true_eq];omega),rfl,rfl⟩
theorem rnamed_ev (hk:30000≤k) (s:List UInt8):SQ k (d+2) cl 137 [.string ⟨⟨s⟩⟩] h n fun v h' n'=>v = .bool (namedB s)∧h'=h∧n'=n:=by
 refine enter Try.func137 kz rfl kz rfl rfl rfl ?_
 rcases s with _|⟨c,r⟩
 ·(repeat' first|refine zcd ?_|intro K' hK|(with_reducible refine zn hK ?_;clear hK)|fail|((with_reducible first|apply zo1|apply zo2|apply o_guard rfl|apply x_cond|apply k_e1 rfl|apply k_e2 rfl|apply k_e0 rfl|apply k_e3 rfl|apply k_e4 rfl);(case he=>exact ez1 @size_mk);(try case hok=>exact ezO);all_goals try (intro hb;(try simp only [hbs,reduceCtorEq] at hb);try exact ezX))|((with_reducible apply o_undef rfl);(case hb=>exact ez0)))
  all_goals first|(exfalso;simp at *;done)|exact sw_flat rfl rfl ⟨rfl,rfl,rfl⟩
 ·by_cases hl:(c :: r).length≤16
  ·have e0:=ix_str (c :: r) (i:=0) (by simp) .i64
   rw [show (c :: r)[0]'(by simp)=c from rfl] at e0
   have e0':∀ (h:Hp) (n:Nat),mIndex Try.prog 9 (.string ⟨⟨c :: r⟩⟩) (.int .i64 0) h n=some ⟨.int .u8 c.toNat,h,n,[],[]⟩:=e0
   rw [List.length_cons] at hl
   obtain ⟨s,hs⟩:∃ s,c :: r=s:=⟨_,rfl⟩
   have hsl:s.length=r.length+1:=by rw [← hs];rfl
   rw [hs] at e0' ⊢
   cases hc:letB c
   ·(repeat' first|refine zcd ?_|intro K' hK|(with_reducible refine zn hK ?_;clear hK)|((with_reducible apply o_callF (g:=138) w_none);(case ha=>exact ez0);(case hs=>exact letter_ev ..);(case' hk=>rintro _ h' n' ⟨rfl,rfl,rfl⟩))|((with_reducible first|apply zo1|apply zo2|apply o_guard rfl|apply x_cond|apply k_e1 rfl|apply k_e2 rfl|apply k_e0 rfl|apply k_e3 rfl|apply k_e4 rfl);(case he=>exact ez3 @size_mk e0' hc);(try case hok=>exact ezO);all_goals try (intro hb;(try simp only [hbs,reduceCtorEq] at hb);try exact ezX))|((with_reducible apply o_undef rfl);(case hb=>exact ez0)))
    all_goals exact sw_flat rfl rfl ⟨by congr 1;unfold namedB;rw [← hs];simp [hc],rfl,rfl⟩
   ·(repeat' first|refine zcd ?_|intro K' hK|(with_reducible refine zn hK ?_;clear hK)|((with_reducible apply o_callF (g:=138) w_none);(case ha=>exact ez0);(case hs=>exact letter_ev ..);(case' hk=>rintro _ h' n' ⟨rfl,rfl,rfl⟩))|((with_reducible first|apply zo1|apply zo2|apply o_guard rfl|apply x_cond|apply k_e1 rfl|apply k_e2 rfl|apply k_e0 rfl|apply k_e3 rfl|apply k_e4 rfl);(case he=>exact ez3 @size_mk e0' hc);(try case hok=>exact ezO);all_goals try (intro hb;(try simp only [hbs,reduceCtorEq] at hb);try exact ezX))|((with_reducible apply o_undef rfl);(case hb=>exact ez0)))
    refine x_loopF [2,3,18,19,20,21,22,23,24,25,26,27,28,29,30,31,32,33,34,35,36,37,38,39,40] [3] (fun m vs=>m≤s.length∧vs=[.int .i64 ((s.length - m:Nat):Int)]∧(s.take (s.length - m)).all chrB=true) s.length rfl zm ⟨Nat.le_refl _,by simp (disch:=first|assumption|omega|rfl|decide) only [go_sem,seval,tys];rw [Nat.sub_self];rfl,by rw [Nat.sub_self];rfl⟩ ?_
    rintro m g _ ⟨hm,rfl,hall⟩
    rcases m with _|m
    ·rw [Nat.sub_zero,List.take_length] at hall
     (repeat' first|refine zcd ?_|intro K' hK|(with_reducible refine zn hK ?_;clear hK)|fail|((with_reducible first|apply zo1|apply zo2|apply o_guard rfl|apply x_cond|apply k_e1 rfl|apply k_e2 rfl|apply k_e0 rfl|apply k_e3 rfl|apply k_e4 rfl);(case he=>exact ez1 @size_mk);(try case hok=>exact ezO);all_goals try (intro hb;(try simp only [hbs,reduceCtorEq] at hb);try exact ezX))|((with_reducible apply o_undef rfl);(case hb=>exact ez0)))
     all_goals exact sw_flat rfl rfl ⟨by congr 1;unfold namedB;rw [hall,← hs,List.length_cons];simp [hc];omega,rfl,rfl⟩
    ·obtain ⟨i,hi⟩:∃ i,s.length - (m+1)=i:=⟨_,rfl⟩
     rw [hi] at hall ⊢
     have his:i<s.length:=by omega
     have e1:=ix_str s his .i64
     obtain ⟨x,hx⟩:∃ x,s[i]=x:=⟨_,rfl⟩
     rw [hx] at e1
     cases hch:chrB x
     ·have hno:=named_no his (by rw [hx];exact hch)
      have hdig:letB x=false ∧ ¬ (48≤x.toNat∧x.toNat≤57):=by unfold chrB at hch;simpa using hch
      obtain ⟨hlx,hdg⟩:=hdig
      (repeat' first|refine zcd ?_|intro K' hK|(with_reducible refine zn hK ?_;clear hK)|((with_reducible apply o_callF (g:=138) w_none);(case ha=>exact ez0);(case hs=>exact letter_ev ..);(case' hk=>rintro _ h' n' ⟨rfl,rfl,rfl⟩))|((with_reducible first|apply zo1|apply zo2|apply o_guard rfl|apply x_cond|apply k_e1 rfl|apply k_e2 rfl|apply k_e0 rfl|apply k_e3 rfl|apply k_e4 rfl);(case he=>exact ez3 @size_mk e1 hlx);(try case hok=>exact ezO);all_goals try (intro hb;(try simp only [hbs,reduceCtorEq] at hb);try exact ezX))|((with_reducible apply o_undef rfl);(case hb=>exact ez0)))
      all_goals exact sw_flat rfl rfl ⟨by rw [hno],rfl,rfl⟩
     ·have hall2:(s.take (s.length - m)).all chrB=true:=by
       rw [show s.length - m=i+1 from by omega,List.take_succ_eq_append_getElem his,List.all_append,hall,hx]
       simp [hch]
      have hnx:(i:Int)+1=((s.length - m:Nat):Int):=by omega
      cases hlx:letB x
      ·have hdg:48≤x.toNat∧x.toNat≤57:=by unfold chrB at hch;rw [hlx] at hch;simpa using hch
       (repeat' first|refine zcd ?_|intro K' hK|(with_reducible refine zn hK ?_;clear hK)|((with_reducible apply o_callF (g:=138) w_none);(case ha=>exact ez0);(case hs=>exact letter_ev ..);(case' hk=>rintro _ h' n' ⟨rfl,rfl,rfl⟩))|((with_reducible first|apply zo1|apply zo2|apply o_guard rfl|apply x_cond|apply k_e1 rfl|apply k_e2 rfl|apply k_e0 rfl|apply k_e3 rfl|apply k_e4 rfl);(case he=>exact ez3 @size_mk e1 hlx);(try case hok=>exact ezO);all_goals try (intro hb;(try simp only [hbs,reduceCtorEq] at hb);try exact ezX))|((with_reducible apply o_undef rfl);(case hb=>exact ez0)))
       all_goals exact k_round m zm ⟨⟨rfl,rfl⟩,by omega,by simp (disch:=first|assumption|omega|rfl|decide) only [go_sem,seval,tys];rw [hnx],hall2⟩
      ·(repeat' first|refine zcd ?_|intro K' hK|(with_reducible refine zn hK ?_;clear hK)|((with_reducible apply o_callF (g:=138) w_none);(case ha=>exact ez0);(case hs=>exact letter_ev ..);(case' hk=>rintro _ h' n' ⟨rfl,rfl,rfl⟩))|((with_reducible first|apply zo1|apply zo2|apply o_guard rfl|apply x_cond|apply k_e1 rfl|apply k_e2 rfl|apply k_e0 rfl|apply k_e3 rfl|apply k_e4 rfl);(case he=>exact ez3 @size_mk e1 hlx);(try case hok=>exact ezO);all_goals try (intro hb;(try simp only [hbs,reduceCtorEq] at hb);try exact ezX))|((with_reducible apply o_undef rfl);(case hb=>exact ez0)))
       all_goals exact k_round m zm ⟨⟨rfl,rfl⟩,by omega,by simp (disch:=first|assumption|omega|rfl|decide) only [go_sem,seval,tys];rw [hnx],hall2⟩
  ·have hlen:(c :: r).length=r.length+1:=rfl
   have hno:namedB (c :: r)=false:=by unfold namedB;rw [show decide ((c :: r).length≤16)=false from decide_eq_false hl];rfl
   (repeat' first|refine zcd ?_|intro K' hK|(with_reducible refine zn hK ?_;clear hK)|((with_reducible apply o_callF (g:=138) w_none);(case ha=>exact ez0);(case hs=>exact letter_ev ..);(case' hk=>rintro _ h' n' ⟨rfl,rfl,rfl⟩))|((with_reducible first|apply zo1|apply zo2|apply o_guard rfl|apply x_cond|apply k_e1 rfl|apply k_e2 rfl|apply k_e0 rfl|apply k_e3 rfl|apply k_e4 rfl);(case he=>exact ez1 @size_mk);(try case hok=>exact ezO);all_goals try (intro hb;(try simp only [hbs,reduceCtorEq] at hb);try exact ezX))|((with_reducible apply o_undef rfl);(case hb=>exact ez0)))
   all_goals exact sw_flat rfl rfl ⟨by rw [hno],rfl,rfl⟩
theorem pnamed_ev (hk:30000≤k) (s:List UInt8):SQ k (d+1) cl 129 [.string ⟨⟨s⟩⟩] h n fun v h' n'=>v = .bool (namedB s)∧h'=h∧n'=n:=by
 refine enter Try.func129 kz rfl kz rfl rfl rfl ?_
 rcases s with _|⟨c,r⟩
 ·(repeat' first|refine zcd ?_|intro K' hK|(with_reducible refine zn hK ?_;clear hK)|fail|((with_reducible first|apply zo1|apply zo2|apply o_guard rfl|apply x_cond|apply k_e1 rfl|apply k_e2 rfl|apply k_e0 rfl|apply k_e3 rfl|apply k_e4 rfl);(case he=>exact ez1 @size_mk);(try case hok=>exact ezO);all_goals try (intro hb;(try simp only [hbs,reduceCtorEq] at hb);try exact ezX))|((with_reducible apply o_undef rfl);(case hb=>exact ez0)))
  all_goals first|(exfalso;simp at *;done)|exact sw_flat rfl rfl ⟨rfl,rfl,rfl⟩
 ·by_cases hl:(c :: r).length≤16
  ·have e0:=ix_str (c :: r) (i:=0) (by simp) .i64
   rw [show (c :: r)[0]'(by simp)=c from rfl] at e0
   have e0':∀ (h:Hp) (n:Nat),mIndex Try.prog 9 (.string ⟨⟨c :: r⟩⟩) (.int .i64 0) h n=some ⟨.int .u8 c.toNat,h,n,[],[]⟩:=e0
   rw [List.length_cons] at hl
   obtain ⟨s,hs⟩:∃ s,c :: r=s:=⟨_,rfl⟩
   have hsl:s.length=r.length+1:=by rw [← hs];rfl
   rw [hs] at e0' ⊢
   by_cases h9:c.toNat≤57
   ·have hc:letB c=false:=by unfold letB;exact decide_eq_false zm
    (repeat' first|refine zcd ?_|intro K' hK|(with_reducible refine zn hK ?_;clear hK)|fail|((with_reducible first|apply zo1|apply zo2|apply o_guard rfl|apply x_cond|apply k_e1 rfl|apply k_e2 rfl|apply k_e0 rfl|apply k_e3 rfl|apply k_e4 rfl);(case he=>exact ez2 @size_mk e0');(try case hok=>exact ezO);all_goals try (intro hb;(try simp only [hbs,reduceCtorEq] at hb);try exact ezX))|((with_reducible apply o_undef rfl);(case hb=>exact ez0)))
    all_goals exact sw_flat rfl rfl ⟨by congr 1;unfold namedB;rw [← hs];simp [hc],rfl,rfl⟩
   ·have hb0:=bv_length s
    have hsz:ByteArray.size ⟨⟨s⟩⟩≤1000000:=by rw [size_mk];omega
    (repeat' first|refine zcd ?_|intro K' hK|(with_reducible refine zn hK ?_;clear hK)|fail|((with_reducible first|apply zo1|apply zo2|apply o_guard rfl|apply x_cond|apply k_e1 rfl|apply k_e2 rfl|apply k_e0 rfl|apply k_e3 rfl|apply k_e4 rfl);(case he=>exact ez4 @size_mk e0' @bvals_bv hb0);(try case hok=>exact ezO);all_goals try (intro hb;(try simp only [hbs,reduceCtorEq] at hb);try exact ezX))|((with_reducible apply o_undef rfl);(case hb=>exact ez0)))
    refine x_loopF [2,4,21,22,23,24,25,26,27,28,29,30,31,32,33,34,35,36,37,38,39,40,41,42,43,44,45,46] [21] (fun m vs=>m≤s.length∧vs=[.int .i64 ((s.length - m:Nat):Int)]∧(s.take (s.length - m)).all chrB=true) s.length rfl zm ⟨Nat.le_refl _,by simp (disch:=first|assumption|omega|rfl|decide) only [go_sem,seval,tys];rw [Nat.sub_self];rfl,by rw [Nat.sub_self];rfl⟩ ?_
    rintro m g _ ⟨hm,rfl,hall⟩
    rcases m with _|m
    ·rw [Nat.sub_zero,List.take_length] at hall
     have hc:letB c=true:=by
      have h1:chrB c=true:=by rw [← hs,List.all_cons,Bool.and_eq_true] at hall;exact hall.1
      unfold chrB at h1
      simp only [Bool.or_eq_true,decide_eq_true_eq] at h1
      rcases h1 with h1|h1
      ·exact h1
      ·omega
     (repeat' first|refine zcd ?_|intro K' hK|(with_reducible refine zn hK ?_;clear hK)|fail|((with_reducible first|apply zo1|apply zo2|apply o_guard rfl|apply x_cond|apply k_e1 rfl|apply k_e2 rfl|apply k_e0 rfl|apply k_e3 rfl|apply k_e4 rfl);(case he=>exact ez1 @size_mk);(try case hok=>exact ezO);all_goals try (intro hb;(try simp only [hbs,reduceCtorEq] at hb);try exact ezX))|((with_reducible apply o_undef rfl);(case hb=>exact ez0)))
     all_goals exact sw_flat rfl rfl ⟨by congr 1;unfold namedB;rw [hall,← hs,List.length_cons];simp [hc];omega,rfl,rfl⟩
    ·obtain ⟨i,hi⟩:∃ i,s.length - (m+1)=i:=⟨_,rfl⟩
     rw [hi] at hall ⊢
     have his:i<s.length:=by omega
     obtain ⟨x,hx⟩:∃ x,s[i]=x:=⟨_,rfl⟩
     have hce:lget (bv s) i=some (.int .u8 x.toNat):=by rw [lget_eq,bv_get his,hx]
     have hnx:(i:Int)+1=((s.length - m:Nat):Int):=by omega
     have h8:=chr8 x
     cases hch:chrB x
     ·have hno:=named_no his (by rw [hx];exact hch)
      have hF:=h8.2 hch
      (repeat' first|refine zcd ?_|intro K' hK|(with_reducible refine zn hK ?_;clear hK)|fail|((with_reducible first|apply zo1|apply zo2|apply o_guard rfl|apply x_cond|apply k_e1 rfl|apply k_e2 rfl|apply k_e0 rfl|apply k_e3 rfl|apply k_e4 rfl);(case he=>exact ez4 @size_mk hce @b_or32 @b_and64);(try case hok=>exact ezO);all_goals try (intro hb;(try simp only [hbs,reduceCtorEq] at hb);try exact ezX))|((with_reducible apply o_undef rfl);(case hb=>exact ez0)))
      all_goals exact sw_flat rfl rfl ⟨by rw [hno],rfl,rfl⟩
     ·have hF:¬ _:=fun hh=>by have:=h8.1 hh;rw [hch] at this;cases this
      have hall2:(s.take (s.length - m)).all chrB=true:=by
       rw [show s.length - m=i+1 from by omega,List.take_succ_eq_append_getElem his,List.all_append,hall,hx]
       simp [hch]
      (repeat' first|refine zcd ?_|intro K' hK|(with_reducible refine zn hK ?_;clear hK)|fail|((with_reducible first|apply zo1|apply zo2|apply o_guard rfl|apply x_cond|apply k_e1 rfl|apply k_e2 rfl|apply k_e0 rfl|apply k_e3 rfl|apply k_e4 rfl);(case he=>exact ez4 @size_mk hce @b_or32 @b_and64);(try case hok=>exact ezO);all_goals try (intro hb;(try simp only [hbs,reduceCtorEq] at hb);try exact ezX))|((with_reducible apply o_undef rfl);(case hb=>exact ez0)))
      all_goals exact k_round m zm ⟨⟨rfl,rfl⟩,by omega,by simp (disch:=first|assumption|omega|rfl|decide) only [go_sem,seval,tys];rw [hnx],hall2⟩
  ·have hlen:(c :: r).length=r.length+1:=rfl
   have hno:namedB (c :: r)=false:=by unfold namedB;rw [show decide ((c :: r).length≤16)=false from decide_eq_false hl];rfl
   (repeat' first|refine zcd ?_|intro K' hK|(with_reducible refine zn hK ?_;clear hK)|fail|((with_reducible first|apply zo1|apply zo2|apply o_guard rfl|apply x_cond|apply k_e1 rfl|apply k_e2 rfl|apply k_e0 rfl|apply k_e3 rfl|apply k_e4 rfl);(case he=>exact ez1 @size_mk);(try case hok=>exact ezO);all_goals try (intro hb;(try simp only [hbs,reduceCtorEq] at hb);try exact ezX))|((with_reducible apply o_undef rfl);(case hb=>exact ez0)))
   all_goals exact sw_flat rfl rfl ⟨by rw [hno],rfl,rfl⟩
end
section
open Go.RowKit
variable (k d cl:Nat) (h:Hp) (n:Nat)
theorem nz_ev (x:Int):SQ k (d+1) cl 134 [.int .i64 x] h n fun v h' n'=>v = .bool (x != 0)∧h'=h∧n'=n:=by
 refine enter Try.func134 kz rfl kz rfl rfl rfl ?_
 (repeat' first|refine zcd ?_|intro K' hK|(with_reducible refine zn hK ?_;clear hK)|fail|((with_reducible first|apply zo1|apply zo2|apply o_guard rfl|apply x_cond|apply k_e1 rfl|apply k_e2 rfl|apply k_e0 rfl|apply k_e3 rfl|apply k_e4 rfl);(case he=>exact ez0);(try case hok=>exact ezO);all_goals try (intro hb;(try simp only [hbs,reduceCtorEq] at hb);try exact ezX))|((with_reducible apply o_undef rfl);(case hb=>exact ez0)))
 all_goals exact sw_flat rfl rfl ⟨rfl,rfl,rfl⟩
theorem within_ev (x y:Int):SQ k (d+1) cl 127 [.int .i64 x,.int .i64 y] h n fun v h' n'=>v = .bool (decide (0≤x∧x<y))∧h'=h∧n'=n:=by
 refine enter Try.func127 kz rfl kz rfl rfl rfl ?_
 (repeat' first|refine zcd ?_|intro K' hK|(with_reducible refine zn hK ?_;clear hK)|fail|((with_reducible first|apply zo1|apply zo2|apply o_guard rfl|apply x_cond|apply k_e1 rfl|apply k_e2 rfl|apply k_e0 rfl|apply k_e3 rfl|apply k_e4 rfl);(case he=>exact ez0);(try case hok=>exact ezO);all_goals try (intro hb;(try simp only [hbs,reduceCtorEq] at hb);try exact ezX))|((with_reducible apply o_undef rfl);(case hb=>exact ez0)))
 all_goals exact sw_flat rfl rfl ⟨by congr 1;first|(rw [eq_comm,decide_eq_true_eq];omega)|(rw [eq_comm,decide_eq_false_iff_not];omega)|(rw [Bool.eq_iff_iff];simp only [decide_eq_true_eq];omega),rfl,rfl⟩
theorem kindex_ev (hk:30000≤k) (A:Option Addr) (l:List Int) (c:Nat) (hr:RdH h n A (iv l)) (hl:l.length≤100) :
  SQ k (d+2) cl 136 [.slice A l.length c,.func (.func 134) ⟨[]⟩ ⟨[]⟩] h n fun v h' n'=>∃ r:Int,v = .int .i64 r∧(0≤r↔l.all (· == 0)=false)∧h'=h∧n'=n:=by
 refine enter Try.func136 kz rfl kz rfl rfl rfl ?_
 (repeat' first|refine zcd ?_|intro K' hK|(with_reducible refine zn hK ?_;clear hK)|fail|((with_reducible first|apply zo1|apply zo2|apply o_guard rfl|apply x_cond|apply k_e1 rfl|apply k_e2 rfl|apply k_e0 rfl|apply k_e3 rfl|apply k_e4 rfl);(case he=>exact ez0);(try case hok=>exact ezO);all_goals try (intro hb;(try simp only [hbs,reduceCtorEq] at hb);try exact ezX))|((with_reducible apply o_undef rfl);(case hb=>exact ez0)))
 refine x_loopF [4,5,8,9,10,11,12,13,14,15,16,17,18] [8] (fun m vs=>m≤l.length∧vs=[.int .i64 ((l.length - m:Nat):Int)]∧(l.take (l.length - m)).all (· == 0)=true) l.length rfl zm ⟨Nat.le_refl _,by simp (disch:=first|assumption|omega|rfl|decide) only [go_sem,seval,tys];rw [Nat.sub_self];rfl,by rw [Nat.sub_self];rfl⟩ ?_
 rintro m g _ ⟨hm,rfl,hall⟩
 rcases m with _|m
 ·rw [Nat.sub_zero,List.take_length] at hall
  (repeat' first|refine zcd ?_|intro K' hK|(with_reducible refine zn hK ?_;clear hK)|fail|((with_reducible first|apply zo1|apply zo2|apply o_guard rfl|apply x_cond|apply k_e1 rfl|apply k_e2 rfl|apply k_e0 rfl|apply k_e3 rfl|apply k_e4 rfl);(case he=>exact ez0);(try case hok=>exact ezO);all_goals try (intro hb;(try simp only [hbs,reduceCtorEq] at hb);try exact ezX))|((with_reducible apply o_undef rfl);(case hb=>exact ez0)))
  all_goals exact sw_flat rfl rfl ⟨_,rfl,by rw [hall];simp,rfl,rfl⟩
 ·obtain ⟨i,hi⟩:∃ i,l.length - (m+1)=i:=⟨_,rfl⟩
  rw [hi] at hall ⊢
  have hil:i<l.length:=by omega
  obtain ⟨id,off,rfl,hid,hce⟩:=int_at hr hil
  obtain ⟨x,hx⟩:∃ x,l[i]=x:=⟨_,rfl⟩
  rw [hx] at hce
  have hnx:(i:Int)+1=((l.length - m:Nat):Int):=by omega
  by_cases hx0:x=0
  ·have hxb:(x != 0)=false:=by simp [hx0]
   have hall2:(l.take (l.length - m)).all (· == 0)=true:=by
    rw [show l.length - m=i+1 from by omega,List.take_succ_eq_append_getElem hil,List.all_append,hall,hx]
    simp [hx0]
   (repeat' first|refine zcd ?_|intro K' hK|(with_reducible refine zn hK ?_;clear hK)|((with_reducible apply o_callV (g:=134) w_none);(case hx=>exact ez0);(case ha=>exact ez0);(case hs=>exact nz_ev ..);(case' hk=>rintro _ h' n' ⟨rfl,rfl,rfl⟩))|((with_reducible first|apply zo1|apply zo2|apply o_guard rfl|apply x_cond|apply k_e1 rfl|apply k_e2 rfl|apply k_e0 rfl|apply k_e3 rfl|apply k_e4 rfl);(case he=>exact ez2 hce hxb);(try case hok=>exact ezO);all_goals try (intro hb;(try simp only [hbs,reduceCtorEq] at hb);try exact ezX))|((with_reducible apply o_undef rfl);(case hb=>exact ez0)))
   exact k_round m zm ⟨⟨rfl,rfl⟩,by omega,by simp (disch:=first|assumption|omega|rfl|decide) only [go_sem,seval,tys];rw [hnx],hall2⟩
  ·have hxb:(x != 0)=true:=by simpa using hx0
   have hno:l.all (· == 0)=false:=by
    rw [List.all_eq_false]
    exact ⟨x,by rw [← hx];exact List.getElem_mem _,by simpa using hx0⟩
   (repeat' first|refine zcd ?_|intro K' hK|(with_reducible refine zn hK ?_;clear hK)|((with_reducible apply o_callV (g:=134) w_none);(case hx=>exact ez0);(case ha=>exact ez0);(case hs=>exact nz_ev ..);(case' hk=>rintro _ h' n' ⟨rfl,rfl,rfl⟩))|((with_reducible first|apply zo1|apply zo2|apply o_guard rfl|apply x_cond|apply k_e1 rfl|apply k_e2 rfl|apply k_e0 rfl|apply k_e3 rfl|apply k_e4 rfl);(case he=>exact ez2 hce hxb);(try case hok=>exact ezO);all_goals try (intro hb;(try simp only [hbs,reduceCtorEq] at hb);try exact ezX))|((with_reducible apply o_undef rfl);(case hb=>exact ez0)))
   exact sw_flat rfl rfl ⟨_,rfl,by rw [hno];simp,rfl,rfl⟩
theorem contains_ev (hk:30000≤k) (A:Option Addr) (l:List Int) (c:Nat) (hr:RdH h n A (iv l)) (hl:l.length≤100) :
  SQ k (d+3) cl 133 [.slice A l.length c,.func (.func 134) ⟨[]⟩ ⟨[]⟩] h n fun v h' n'=>v = .bool !(l.all (· == 0))∧h'=h∧n'=n:=by
 refine enter Try.func133 kz rfl kz rfl rfl rfl ?_
 (repeat' first|refine zcd ?_|intro K' hK|(with_reducible refine zn hK ?_;clear hK)|((with_reducible apply o_callF (g:=136) w_none);(case ha=>exact ez0);(case hs=>((with_reducible apply kindex_ev (l:=l));(case hk=>exact hk);(case hr=>exact ezD hr);(case hl=>exact hl)));(case' hk=>rintro _ h' n' ⟨r0,rfl,hr0,rfl,rfl⟩))|((with_reducible first|apply zo1|apply zo2|apply o_guard rfl|apply x_cond|apply k_e1 rfl|apply k_e2 rfl|apply k_e0 rfl|apply k_e3 rfl|apply k_e4 rfl);(case he=>exact ez0);(try case hok=>exact ezO);all_goals try (intro hb;(try simp only [hbs,reduceCtorEq] at hb);try exact ezX))|((with_reducible apply o_undef rfl);(case hb=>exact ez0)))
 all_goals exact sw_flat rfl rfl ⟨by congr 1;cases hb:l.all (· == 0) <;> rw [hb] at hr0 <;> simp at hr0 ⊢ <;> omega,rfl,rfl⟩
theorem zero_ev (hk:30000≤k) (A:Option Addr) (l:List Int) (m c:Nat) (hm:m=l.length) (hr:RdH h n A (iv l)) (hl:l.length≤100) :
  SQ k (d+4) cl 128 [.slice A m c] h n fun v h' n'=>v = .bool (l.all (· == 0))∧h'=h∧n'=n:=by
 subst hm
 refine enter Try.func128 kz rfl kz rfl rfl rfl ?_
 (repeat' first|refine zcd ?_|intro K' hK|(with_reducible refine zn hK ?_;clear hK)|((with_reducible apply o_callF (g:=133) w_none);(case ha=>exact ez0);(case hs=>((with_reducible apply contains_ev (l:=l));(case hk=>exact hk);(case hr=>exact ezD hr);(case hl=>exact hl)));(case' hk=>rintro _ h' n' ⟨rfl,rfl,rfl⟩))|((with_reducible first|apply zo1|apply zo2|apply o_guard rfl|apply x_cond|apply k_e1 rfl|apply k_e2 rfl|apply k_e0 rfl|apply k_e3 rfl|apply k_e4 rfl);(case he=>exact ez0);(try case hok=>exact ezO);all_goals try (intro hb;(try simp only [hbs,reduceCtorEq] at hb);try exact ezX))|((with_reducible apply o_undef rfl);(case hb=>exact ez0)))
 all_goals exact sw_flat rfl rfl ⟨by rw [Bool.not_not],rfl,rfl⟩
end
section
open Go.RowKit
theorem bytes_beq (s t:List UInt8):((⟨⟨s⟩⟩:ByteArray) == ⟨⟨t⟩⟩)=decide (s=t):=by
 show ((⟨s⟩:Array UInt8) == ⟨t⟩)=_
 rw [Bool.eq_iff_iff,decide_eq_true_eq,beq_iff_eq]
 simp
def Es (es:Array MapEntry) (ns:List (List UInt8)):Prop:=es.toList.map (fun e=>(e.key,e.val))=ns.map fun s=>(Value.string ⟨⟨s⟩⟩,Value.bool true)
theorem find_in:∀ (es:List MapEntry) (ns:List (List UInt8)) (s:List UInt8) (i:Nat),es.map (fun e=>(e.key,e.val))=ns.map (fun s=>(Value.string ⟨⟨s⟩⟩,Value.bool true))→s∈ns→∃ j,Instr.findNow .string (.string ⟨⟨s⟩⟩) es i=some (some (j,.bool true))
 | [],[],s,i,_,h=>by cases h
 | [],_ :: _,s,i,he,_=>by cases he
 | _ :: _,[],s,i,he,_=>by cases he
 | e :: es,t :: ns,s,i,he,h=>by
  rw [List.map_cons,List.map_cons] at he
  injection he with h1 h2
  injection h1 with h3 h4
  unfold Instr.findNow
  rw [h3]
  have hs:Instr.sameNow .string (.string ⟨⟨s⟩⟩) (.string ⟨⟨t⟩⟩)=some (decide (s=t)):=by
   show some ((⟨⟨s⟩⟩:ByteArray) == ⟨⟨t⟩⟩)=_
   rw [bytes_beq]
  rw [hs]
  by_cases hst:s=t
  ·rw [decide_eq_true hst]
   exact ⟨i,by rw [h4]⟩
  ·rw [decide_eq_false hst]
   exact find_in es ns s (i+1) h2 ((List.mem_cons.1 h).resolve_left hst)
theorem find_out:∀ (es:List MapEntry) (ns:List (List UInt8)) (s:List UInt8) (i:Nat),es.map (fun e=>(e.key,e.val))=ns.map (fun s=>(Value.string ⟨⟨s⟩⟩,Value.bool true))→s ∉ ns→Instr.findNow .string (.string ⟨⟨s⟩⟩) es i=some none
 | [],[],s,i,_,h=>rfl
 | [],_ :: _,s,i,he,_=>by cases he
 | _ :: _,[],s,i,he,_=>by cases he
 | e :: es,t :: ns,s,i,he,h=>by
  rw [List.map_cons,List.map_cons] at he
  injection he with h1 h2
  injection h1 with h3 h4
  unfold Instr.findNow
  rw [h3]
  have hs:Instr.sameNow .string (.string ⟨⟨s⟩⟩) (.string ⟨⟨t⟩⟩)=some (decide (s=t)):=by
   show some ((⟨⟨s⟩⟩:ByteArray) == ⟨⟨t⟩⟩)=_
   rw [bytes_beq]
  rw [hs,decide_eq_false (fun e=>h (by rw [e];exact List.mem_cons_self))]
  exact find_out es ns s (i+1) h2 fun hm=>h (List.mem_cons_of_mem _ hm)
theorem prun_check (e:Bool) (s:List UInt8):prun Try.prog (Instr.checkKey e 10000 9 (.string ⟨⟨s⟩⟩))=some ():=by
 unfold Instr.checkKey
 rw [prun_bd,prun_under Try.underlying9]
 rfl
theorem prun_find (es:List MapEntry) (s:List UInt8) (r:Option (Nat × Value)) (h:Instr.findNow .string (.string ⟨⟨s⟩⟩) es 0=some r):prun Try.prog (Instr.findKey 9 (.string ⟨⟨s⟩⟩) es)=some r:=by
 unfold Instr.findKey
 rw [prun_bd,prun_under Try.underlying9]
 simp only [Option.bind_some]
 rw [h]
 rfl
theorem mapOf_same (h:Hp) (id:Nat) (es:Array MapEntry) (c:Nat):mapOf (h.set id (.mp es c)) id=some (es,c):=by
 unfold mapOf
 rw [Hp.get_same]
 rfl
theorem mapOf_ne2 (h:Hp) {id id':Nat} (x:AObj) (e:id'≠id):mapOf (h.set id x) id'=mapOf h id':=by
 unfold mapOf
 rw [Hp.get_ne h x e]
variable {h:Hp} {n:Nat}
theorem m_look {id c:Nat} {es:Array MapEntry} {ns:List (List UInt8)} {s:List UInt8} (hm:mapOf h id=some (es,c)) (he:Es es ns):mLookup Try.prog 171 (.map (some id)) (.string ⟨⟨s⟩⟩) false h n=some ⟨.bool (decide (s∈ns)),h,n,[id],[]⟩:=by
 have hg:prun Try.prog (Ce.mapGet 9 4 (.string ⟨⟨s⟩⟩) es)=some (.bool (decide (s∈ns)),decide (s∈ns)):=by
  unfold Ce.mapGet
  rw [prun_bd,prun_check]
  simp only [Option.bind_some]
  rw [prun_bd]
  by_cases hs:s∈ns
  ·obtain ⟨j,hj⟩:=find_in es.toList ns s 0 he hs
   rw [prun_find _ _ _ hj,decide_eq_true hs]
   rfl
  ·rw [prun_find _ _ _ (find_out es.toList ns s 0 he hs),decide_eq_false hs]
   simp only [Option.bind_some]
   rw [prun_bd,show prun Try.prog (zeroValue 4)=some (.bool false) from by kernel_rfl]
   rfl
 unfold mLookup
 dsimp only
 rw [hm]
 simp only [Option.bind_some]
 rw [show tyMap Try.prog 171=some (9,4) from by kernel_rfl]
 simp only [Option.bind_some]
 rw [hg]
 rfl
theorem m_put {lim id c:Nat} {es:Array MapEntry} {ns:List (List UInt8)} {s:List UInt8} (hl:lim≤id) (hm:mapOf h id=some (es,c)) (he:Es es ns) (hs:s ∉ ns) :
  mMapUpdate Try.prog lim 171 (.map (some id)) (.string ⟨⟨s⟩⟩) (.bool true) h n=some ⟨undef,h.set id (.mp (es.push ⟨.string ⟨⟨s⟩⟩,.bool true,c⟩) (c+1)),n,[],[id]⟩:=by
 have hg:prun Try.prog (Ce.mapPut 9 (.string ⟨⟨s⟩⟩) (.bool true) es c)=some (es.push ⟨.string ⟨⟨s⟩⟩,.bool true,c⟩,c+1):=by
  unfold Ce.mapPut
  rw [prun_bd,prun_check]
  simp only [Option.bind_some]
  rw [prun_bd,prun_find _ _ _ (find_out es.toList ns s 0 he hs)]
  rfl
 unfold mMapUpdate
 dsimp only
 rw [hm]
 simp only [Option.bind_some]
 rw [show tyMap Try.prog 171=some (9,4) from by kernel_rfl]
 simp only [Option.bind_some]
 rw [show (scal (.string ⟨⟨s⟩⟩) && flat1 (.bool true) && Nat.ble lim id)=true from by rw [ble_t hl];rfl]
 simp only [cond_true]
 rw [hg]
 rfl
theorem Es.push {es:Array MapEntry} {ns:List (List UInt8)} {s:List UInt8} {c:Nat} (he:Es es ns):Es (es.push ⟨.string ⟨⟨s⟩⟩,.bool true,c⟩) (ns ++ [s]):=by
 unfold Es at *
 simp only [Array.toList_push,List.map_append,he,List.map_cons,List.map_nil]
end
end Go.Proofs.Ytcpkdjikembpnaa.Ce
