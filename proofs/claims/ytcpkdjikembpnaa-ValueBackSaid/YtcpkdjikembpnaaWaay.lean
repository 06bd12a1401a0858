/- Parts of the proof of ValueBack: Pw, Ie, If, Iq. No condition of its own. -/
import Derived.Test.YtcpkdjikembpnaaWaak
import Derived.Test.YtcpkdjikembpnaaWaam
import Derived.Test.YtcpkdjikembpnaaWaau
import Derived.Test.YtcpkdjikembpnaaWaav
import Derived.Test.YtcpkdjikembpnaaWaax
set_option linter.unusedVariables false
set_option linter.unusedSimpArgs false
set_option maxRecDepth 1000000
set_option maxHeartbeats 4000000
namespace Go.Proofs.Ytcpkdjikembpnaa.Ce
section
open Go.RowKit
theorem hasS_inW {b:Int} {m:Nat} {a w:Int} (hc:chkR b m=0) (hw:0≤w) (h1:b≤a) (h2:a+w≤b+m):hasS b m a w=(true,0):=by
 unfold hasS inb
 rw [if_pos hc,if_neg zm]
 simp
 omega
theorem bv_put {xs ys:List UInt8} {p m:Nat} (hm:m=xs.length) (h:p+ys.length≤xs.length):(bv xs).take p ++ ((bv ys).take (Nat.min ys.length (m - p)) ++ (bv xs).drop (p+Nat.min ys.length (m - p)))=bv (Go.Proofs.Ytcpkdjikembpnaa.put xs p ys):=by
 have e:Nat.min ys.length (m - p)=ys.length:=Nat.min_eq_left zm
 rw [e]
 unfold bv Go.Proofs.Ytcpkdjikembpnaa.put
 rw [← List.map_take,← List.map_take,← List.map_drop,← List.map_append,← List.map_append,List.take_length]
def putL (xs ys:List UInt8):List UInt8:=Go.Proofs.Ytcpkdjikembpnaa.put (grown xs ys.length) xs.length ys
theorem grown_length (xs:List UInt8) (i:Int):(grown xs i).length=xs.length+(sizeI i).toNat:=by unfold grown;simp
theorem putL_length (xs ys:List UInt8):(putL xs ys).length=xs.length+(sizeI ys.length).toNat:=by
 have hs:=sizeI_ge (ys.length:Int)
 unfold putL
 rw [put_length (by rw [grown_length];omega),grown_length]
variable (k d cl:Nat) (h:Hp) (n:Nat)
theorem write_ok (id:Nat) (zs:List UInt8) (m c:Nat) (a:Int) (B:Option Addr) (ys:List UInt8) (c2:Nat) (hm:m=zs.length) (hr:RdH h n (some ⟨id,0,none⟩) (bv zs)) (hr2:RdH h n B (bv ys)) (hB:B=none→c2=0) (hc:chkR 65536 m=0) (ha0:65536≤a) (ha1:a+ys.length≤65536+m) :
  SQ k (d+4) cl 56 [.agg ⟨[.int .u64 65536,.slice (some ⟨id,0,none⟩) m c]⟩,.int .u64 a,.slice B ys.length c2] h n fun v h' n'=>v = .tuple ⟨[.agg ⟨[.int .u64 65536,.slice (some ⟨n,0,none⟩) m m]⟩,.int .i64 0]⟩∧h'=h.set n (.row 5 false (bv (Go.Proofs.Ytcpkdjikembpnaa.put zs (a - 65536).toNat ys)))∧n'=n+1:=by
 subst hm
 obtain ⟨g2,g3,g4,g5⟩:=chkR_ok hc
 have hp:=bv_put (p:=(a - 65536).toNat) (xs:=zs) (ys:=ys) rfl zm
 have hh:=hasS_inW (b:=65536) (m:=zs.length) (a:=a) (w:=ys.length) hc zm ha0 ha1
 have hi:indexS 65536 zs.length a ys.length=(a - 65536,true):=by unfold indexS;grind
 refine enter Try.func56 kz rfl kz rfl rfl rfl ?_
 (repeat' first|refine zcd ?_|intro K' hK|(with_reducible refine zn hK ?_;clear hK)|((with_reducible apply o_callF (g:=65) w_none);(case ha=>exact ez0);(case hs=>exact has_ev (h0:=by omega) (h1:=by omega) (hm:=by omega) (ha0:=by omega) (ha1:=by omega) (hw0:=by omega) (hw1:=by omega) ..);(case' hk=>rintro _ h' n' ⟨rfl,rfl,rfl⟩))|((with_reducible apply o_callF (g:=64) w_none);(case ha=>exact ez0);(case hs=>exact index_ev (hv:=hc) (ha0:=by omega) (ha1:=by omega) (hw0:=by omega) (hw1:=by omega) ..);(case' hk=>rintro _ h' n' ⟨rfl,rfl,rfl⟩))|((with_reducible apply o_callF (g:=48) w_none);(case ha=>exact ez0);(case hs=>((apply clone_ev;(case hr=>exact ezD hr);(case hm=>omega))));(case' hk=>rintro _ h' n' ⟨rfl,rfl,rfl⟩))|((with_reducible apply o_cp cpT27 w_none);(case hd=>exact ez0);(case hy=>exact ez0);(case hsrc=>exact src_rd (B:=n) (vs:=bv ys) (by exact ezD hr2) hB (by rw [bv_length];omega) (by decide));(case hr=>exact ez0);(case hcl=>rw [bv_length]);(case hc=>exact bv_cok ys);(case hl=>omega);(case ho=>(first|(simp;done)|(simp;omega)|omega|(simp only [bv_length];omega))))|((with_reducible first|apply zo1|apply zo2|apply o_guard rfl|apply x_cond|apply k_e1 rfl|apply k_e2 rfl|apply k_e0 rfl|apply k_e3 rfl|apply k_e4 rfl);(case he=>exact ez2 hh hi);(try case hok=>exact ezO);all_goals try (intro hb;(try simp only [hbs,reduceCtorEq] at hb);try exact ezX))|((with_reducible apply o_undef rfl);(case hb=>exact ez0)))
 refine sw_row (by simp (disch:=first|assumption|omega) only [idV_tuple,idV_agg,idV_int,idV_bool,idV_str,idV_slice,idV_nil,idV1_agg,idV1_int,idV1_bool,idV1_str,idV1_slice,idV1_nil,idA_int,idA_bool,idA_str,idA_slice,idA_nil,idA_old,idV_old,idV1_old,ble_t,ble_f,cond_true,cond_false,List.flatMap_cons,List.flatMap_nil,List.append_nil,List.nil_append,List.cons_append];exact rfl) rfl zm (by simp (disch:=first|assumption|omega|rfl|decide) only [go_sem,Nat.reduceBEq,↓reduceIte,Nat.reduceEqDiff,Nat.reduceAdd,Nat.reduceMul,Int.reduceToNat,Int.reduceAdd,Int.reduceMul,Int.reduceSub,tys];exact rfl) (by rw [hp];exact bv_idA _ _) (by simp only [reV_tuple,reV_agg,reV_slice,reV1_agg,reV1_int,reV1_bool,reV1_str,reV1_slice,reV1_snil,reA_int,reA_bool,reA_str,reA_slice,reA_snil,reN_hit,List.map_cons,List.map_nil];exact rfl) ?_
 exact ⟨rfl,by rw [hp],rfl⟩
theorem bput_ok (b:Int) (A:Option Addr) (xs:List UInt8) (c:Nat) (B:Option Addr) (ys:List UInt8) (c2:Nat) (lim:Int) (hr:RdH h n A (bv xs)) (hA:A=none→c=0) (hr2:RdH h n B (bv ys)) (hB:B=none→c2=0) (he:allocE b xs.length ys.length lim=0) :
  SQ k (d+5) cl 28 [.agg ⟨[.int .u64 b,.slice A xs.length c]⟩,.slice B ys.length c2,.int .i64 lim] h n fun v h' n'=>v = .tuple ⟨[.agg ⟨[.int .u64 b,.slice (some ⟨n,0,none⟩) (putL xs ys).length (putL xs ys).length]⟩,.int .u64 (b+xs.length),.int .i64 0]⟩∧h'=h.set n (.row 5 false (bv (putL xs ys)))∧n'=n+1:=by
 have hs:=sizeI_ge (ys.length:Int)
 have hc:chkB b xs.length lim=0∧(ys.length:Int)≤4096∧xs.length+sizeI ys.length≤lim:=by unfold allocE at he;grind
 obtain ⟨hc,i1,i2⟩:=hc
 obtain ⟨rfl,g2,g3,g4,g5⟩:=chkB_ok hc
 have hgl:=grown_length xs ys.length
 have hpl:=putL_length xs ys
 have hR:chkR 65536 (grown xs ys.length).length=0:=chkB_R zm
 have ea:((65536:Int)+xs.length - 65536).toNat=xs.length:=by omega
 refine enter Try.func28 kz rfl kz rfl rfl rfl ?_
 (repeat' first|refine zcd ?_|intro K' hK|(with_reducible refine zn hK ?_;clear hK)|((with_reducible apply o_callF (g:=55) w_none);(case ha=>exact ez0);(case hs=>exact alloc_ok (hr:=by exact ezD hr) (hA:=hA) (he:=he) ..);(case' hk=>rintro _ h' n' ⟨rfl,rfl,rfl⟩))|((with_reducible apply o_callF (g:=56) w_none);(case ha=>exact ez0);(case hs=>((apply write_ok (zs:=grown xs ys.length) (ys:=ys);(case hm=>exact rfl);(case hr=>(repeat' (first|with_reducible exact RdH.row zm|with_reducible refine RdH.ne ?_ zm _)));(case hr2=>refine RdH.more (B:=n) (by repeat' first|exact hr2|refine RdH.set ?_ zm _) zm);(case hB=>exact hB);(case hc=>exact hR);(case ha0=>omega);(case ha1=>omega))));(case' hk=>rintro _ h' n' ⟨rfl,rfl,rfl⟩))|((with_reducible first|apply zo1|apply zo2|apply o_guard rfl|apply x_cond|apply k_e1 rfl|apply k_e2 rfl|apply k_e0 rfl|apply k_e3 rfl|apply k_e4 rfl);(case he=>exact ez1 he);(try case hok=>exact ezO);all_goals try (intro hb;(try simp only [hbs,reduceCtorEq] at hb);try exact ezX))|((with_reducible apply o_undef rfl);(case hb=>exact ez0)))
 refine sw_row (by simp (disch:=first|assumption|omega) only [idV_tuple,idV_agg,idV_int,idV_bool,idV_str,idV_slice,idV_nil,idV1_agg,idV1_int,idV1_bool,idV1_str,idV1_slice,idV1_nil,idA_int,idA_bool,idA_str,idA_slice,idA_nil,idA_old,idV_old,idV1_old,ble_t,ble_f,cond_true,cond_false,List.flatMap_cons,List.flatMap_nil,List.append_nil,List.nil_append,List.cons_append];exact rfl) rfl zm (by simp (disch:=first|assumption|omega|rfl|decide) only [go_sem,Nat.reduceBEq,↓reduceIte,Nat.reduceEqDiff,Nat.reduceAdd,Nat.reduceMul,Int.reduceToNat,Int.reduceAdd,Int.reduceMul,Int.reduceSub,tys];exact rfl) (bv_idA _ _) (by simp only [reV_tuple,reV_agg,reV_slice,reV1_agg,reV1_int,reV1_bool,reV1_str,reV1_slice,reV1_snil,reA_int,reA_bool,reA_str,reA_slice,reA_snil,reN_hit,List.map_cons,List.map_nil];exact rfl) ?_
 exact ⟨by rw [hpl,hgl],by rw [ea];rfl,rfl⟩
theorem bput_err (b:Int) (A:Option Addr) (m c:Nat) (B:Option Addr) (m2 c2:Nat) (lim:Int) (hm:m≤9223372036854775807) (hm2:m2≤9223372036854775807) (he:allocE b m m2 lim≠0) :
  SQ k (d+5) cl 28 [.agg ⟨[.int .u64 b,.slice A m c]⟩,.slice B m2 c2,.int .i64 lim] h n fun v h' n'=>v = .tuple ⟨[.agg ⟨[.int .u64 0,.slice none 0 0]⟩,.int .u64 0,.int .i64 (allocE b m m2 lim)]⟩∧h'=h∧n'=n:=by
 refine enter Try.func28 kz rfl kz rfl rfl rfl ?_
 (repeat' first|refine zcd ?_|intro K' hK|(with_reducible refine zn hK ?_;clear hK)|((with_reducible apply o_callF (g:=55) w_none);(case ha=>exact ez0);(case hs=>exact alloc_err (hm:=hm) (he:=he) ..);(case' hk=>rintro _ h' n' ⟨rfl,rfl,rfl⟩))|((with_reducible first|apply zo1|apply zo2|apply o_guard rfl|apply x_cond|apply k_e1 rfl|apply k_e2 rfl|apply k_e0 rfl|apply k_e3 rfl|apply k_e4 rfl);(case he=>exact ez1 he);(try case hok=>exact ezO);all_goals try (intro hb;(try simp only [hbs,reduceCtorEq] at hb);try exact ezX))|((with_reducible apply o_undef rfl);(case hb=>exact ez0)))
 all_goals first|(exfalso;exact he (by assumption))|exact sw_flat rfl rfl ⟨rfl,rfl,rfl⟩
end
section
open Go.RowKit
def catP (g:List UInt8→Nat→V→Except Int (List UInt8 × List UInt8)):List UInt8→List (Int × V)→Except Int (List UInt8 × List (List UInt8))
 | hs,[]=>.ok (hs,[])
 | hs,p :: r=>match g hs p.1.toNat p.2 with
  | .error e=>.error e
  | .ok a=>match catP g a.1 r with
   | .error e=>.error e
   | .ok b=>.ok (b.1,a.2 :: b.2)
theorem catP_snoc (g:List UInt8→Nat→V→Except Int (List UInt8 × List UInt8)) (p:Int × V):∀ (l:List (Int × V)) (hs:List UInt8) (a:List UInt8 × List (List UInt8)),catP g hs l = .ok a →
  catP g hs (l ++ [p])=match g a.1 p.1.toNat p.2 with
   | .error e=>.error e
   | .ok b=>.ok (b.1,a.2 ++ [b.2])
 | [],hs,a,h=>by
  unfold catP at h
  injection h with h
  subst h
  show catP g hs (p :: [])=_
  unfold catP catP
  cases g hs p.1.toNat p.2 <;> rfl
 | q :: l,hs,a,h=>by
  unfold catP at h
  rw [List.cons_append]
  unfold catP
  cases hg:g hs q.1.toNat q.2 with
  | error e=>rw [hg] at h;cases h
  | ok v=>
   rw [hg] at h
   dsimp only at h ⊢
   cases hl:catP g v.1 l with
   | error e=>rw [hl] at h;cases h
   | ok l2=>
    rw [hl] at h
    injection h with h
    subst h
    rw [catP_snoc g p l v.1 l2 hl]
    dsimp only
    cases g l2.1 p.1.toNat p.2 <;> rfl
theorem catP_err (g:List UInt8→Nat→V→Except Int (List UInt8 × List UInt8)) {e:Int}:∀ (l r:List (Int × V)) (hs:List UInt8),catP g hs l = .error e→catP g hs (l ++ r) = .error e
 | [],r,hs,h=>by unfold catP at h;cases h
 | q :: l,r,hs,h=>by
  unfold catP at h
  rw [List.cons_append]
  unfold catP
  cases hg:g hs q.1.toNat q.2 with
  | error e2=>rw [hg] at h;exact h
  | ok v=>
   rw [hg] at h
   dsimp only at h ⊢
   cases hl:catP g v.1 l with
   | error e2=>rw [hl] at h;injection h with h;subst h;rw [catP_err g l r v.1 hl]
   | ok l2=>rw [hl] at h;cases h
theorem catP_len (g:List UInt8→Nat→V→Except Int (List UInt8 × List UInt8)):∀ (l:List (Int × V)) (hs:List UInt8) (a:List UInt8 × List (List UInt8)),catP g hs l = .ok a→a.2.length=l.length
 | [],hs,a,h=>by unfold catP at h;injection h with h;subst h;rfl
 | q :: l,hs,a,h=>by
  unfold catP at h
  cases hg:g hs q.1.toNat q.2 with
  | error e=>rw [hg] at h;cases h
  | ok v=>
   rw [hg] at h
   dsimp only at h
   cases hl:catP g v.1 l with
   | error e=>rw [hl] at h;cases h
   | ok l2=>
    rw [hl] at h
    injection h with h
    subst h
    rw [List.length_cons,List.length_cons,catP_len g l v.1 l2 hl]
def ptrP (kd a n:Int):List Int:=if kd=4 then [a] else [a,n,n]
def tgtP (g:List UInt8→Nat→V→Except Int (List UInt8 × List UInt8)) (lim:Int) (x:Tp) (hs:List UInt8) (l:List V):Except Int (List UInt8 × List UInt8):=
 if l=[] then .ok (hs,litP (ptrP x.kd 0 0)) else match catP g hs (l.map fun v=>(x.el,v)) with
  | .error e=>.error e
  | .ok a=>if allocE 65536 a.1.length a.2.flatten.length lim=0 then .ok (putL a.1 a.2.flatten,litP (ptrP x.kd (65536+a.1.length) l.length)) else .error (allocE 65536 a.1.length a.2.flatten.length lim)
def placeP (b:List UInt8) (l:List (Int × List UInt8)):List UInt8:=l.foldl (fun b p=>Go.Proofs.Ytcpkdjikembpnaa.put b p.1.toNat p.2) b
theorem placeP_snoc (b:List UInt8) (l:List (Int × List UInt8)) (p:Int × List UInt8):placeP b (l ++ [p])=Go.Proofs.Ytcpkdjikembpnaa.put (placeP b l) p.1.toNat p.2:=by unfold placeP;rw [List.foldl_append];rfl
noncomputable def storeP (T:List Tp) (lim:Int):Nat→List UInt8→Nat→V→Except Int (List UInt8 × List UInt8)
 | 0,_,_,_=>.error 0
 | N+1,hs,t,.mk kd i s l c=>match T[t]? with
  | none=>.error 0
  | some x=>
   if x.kd=1 then .ok (hs,[UInt8.ofNat i.toNat])
   else if x.kd=2 then .ok (hs,litP [IntKind.wrap .u64 i])
   else if x.kd=3 then (if s=[] then .ok (hs,litP [0,0]) else if allocE 65536 hs.length s.length lim=0 then .ok (putL hs s,litP [65536+hs.length,s.length]) else .error (allocE 65536 hs.length s.length lim))
   else if x.kd=4∨x.kd=7 then tgtP (storeP T lim N) lim x hs l
   else match catP (storeP T lim N) hs ((prtT x).zip l) with
    | .error e=>.error e
    | .ok a=>.ok (a.1,placeP (List.replicate (sizT T t).toNat 0) ((offsT T x).zip a.2))
def HR (h:Hp) (n:Nat) (A:Option Addr) (c:Nat) (hs:List UInt8):Prop:=(A=none∧c=0∧hs=[])∨∃ id,A=some ⟨id,0,none⟩∧id<n∧rowOf h id=some (5,false,bv hs)
theorem HR.rd {h:Hp} {n:Nat} {A:Option Addr} {c:Nat} {hs:List UInt8} (hh:HR h n A c hs):RdH h n A (bv hs)∧(A=none→c=0):=by
 rcases hh with ⟨rfl,rfl,rfl⟩|⟨id,rfl,h1,h2⟩
 ·exact ⟨⟨fun _ _ h=>(by cases h),.inl rfl⟩,fun _=>rfl⟩
 ·exact ⟨RdH.ofRow h2 h1,fun h=>by cases h⟩
theorem HR.keep {h h':Hp} {n n':Nat} {A:Option Addr} {c:Nat} {hs:List UInt8} (hh:HR h n A c hs) (hn:n≤n') (hk:∀ b,b<n→h'.get b=h.get b):HR h' n' A c hs:=by
 rcases hh with e|⟨id,rfl,h1,h2⟩
 ·exact .inl e
 ·exact .inr ⟨id,rfl,by omega,by rw [show rowOf h' id=rowOf h id from by unfold rowOf;rw [hk id h1]];exact h2⟩
def StV (r:Except Int (List UInt8 × List UInt8)) (A:Option Addr) (h:Hp) (n:Nat) (v:Value) (h':Hp) (n':Nat):Prop:=match r with
 | .error e=>∃ O m c,v = .tuple ⟨[.agg ⟨[.int .u64 0,.slice none 0 0]⟩,.slice O m c,.int .i64 e]⟩∧e≠0∧n≤n'∧(∀ b,b<n→h'.get b=h.get b)∧∃ ys,OwnY ys (.slice O m c) h' n n'
 | .ok r=>∃ A' c' bid,v = .tuple ⟨[.agg ⟨[.int .u64 65536,.slice A' r.1.length c']⟩,.slice (some ⟨bid,0,none⟩) r.2.length r.2.length,.int .i64 0]⟩∧HR h' n' A' c' r.1∧(A'=A∨∃ id,A'=some ⟨id,0,none⟩∧n≤id)∧A'≠some ⟨bid,0,none⟩∧n≤bid∧bid<n'∧rowOf h' bid=some (5,false,bv r.2)∧n≤n'∧∀ b,b<n→h'.get b=h.get b
section
variable {h h':Hp} {n n':Nat} {Φ:Value→Hp→Nat→Prop}
theorem idA_old1 {n id off:Nat} {m c:Nat} (h:id<n):idA n (.slice (some ⟨id,off,none⟩) m c)=[]:=by
 show (bif Nat.ble n id then [id] else [])=[]
 rw [show Nat.ble n id=false from by cases e:Nat.ble n id with|false=>rfl|true=>exact absurd (Nat.le_of_ble_eq_true e) zm]
 rfl
theorem idA_new1 {n id off:Nat} {m c:Nat} (h:n≤id):idA n (.slice (some ⟨id,off,none⟩) m c)=[id]:=by
 show (bif Nat.ble n id then [id] else [])=[id]
 rw [ble_t h]
 rfl
theorem sw_store {A A':Option Addr} {c c' bid:Nat} {hs hs' own:List UInt8} (h0:HR h n A c hs) (hr:HR h' n' A' c' hs') (ho:A'=A∨∃ id,A'=some ⟨id,0,none⟩∧n≤id) (hne:A'≠some ⟨bid,0,none⟩) (hb1:n≤bid) (hb2:bid<n') (hkp:∀ b,b<n→h'.get b=h.get b) (hb:rowOf h' bid=some (5,false,bv own)) :
  kSweep h n (StV (.ok (hs',own)) A h n) (.tuple ⟨[.agg ⟨[.int .u64 65536,.slice A' hs'.length c']⟩,.slice (some ⟨bid,0,none⟩) own.length own.length,.int .i64 0]⟩) h' n':=by
 rcases ho with rfl|⟨id,rfl,hid⟩
 ·have e:idA n (.slice A' hs'.length c')=[]:=by
   rcases h0 with ⟨rfl, -, -⟩|⟨id,rfl,h1, -⟩
   ·rfl
   ·exact idA_old1 h1
  have e2:=idA_new1 (n:=n) (off:=0) (m:=own.length) (c:=own.length) hb1
  have e3:∀ ids,(∀ id,id<n→id ∉ ids)→reA n ids (.slice A' hs'.length c') = .slice A' hs'.length c':=by
   intro ids he
   rcases h0 with ⟨rfl, -, -⟩|⟨id,rfl,h1, -⟩
   ·rfl
   ·show Value.slice (some ⟨reN n ids id,0,none⟩) hs'.length c'=_
    rw [reN_out (n:=0) (he id h1) n]
  refine sw_row (m:=bid) (v':=.tuple ⟨[.agg ⟨[.int .u64 65536,.slice A' hs'.length c']⟩,.slice (some ⟨n,0,none⟩) own.length own.length,.int .i64 0]⟩) ?_ rfl hb2 hb (bv_idA _ _) ?_ ?_
  ·show (([] ++ (idA n (.slice A' hs'.length c') ++ [])) ++ (idA n (.slice (some ⟨bid,0,none⟩) own.length own.length) ++ ([] ++ [])))=[bid]
   rw [e,e2]
   rfl
  ·show Value.tuple ⟨[.agg ⟨[.int .u64 65536,reA n [bid] (.slice A' hs'.length c')]⟩,.slice (some ⟨reN n [bid] bid,0,none⟩) own.length own.length,.int .i64 0]⟩=_
   rw [e3 [bid] (fun id hi hm=>by simp at hm;omega),reN_one]
  ·refine ⟨A',c',n,rfl,?_,.inl rfl,?_,Nat.le_refl _,by omega,rowOf_same _ _ _ _ _,by omega,fun b hb=>Hp.get_ne _ _ zm⟩
   ·rcases hr with e|⟨id,rfl,h1,h2⟩
    ·exact .inl e
    ·rcases h0 with ⟨e, -, -⟩|⟨id0,e,h3, -⟩
     ·cases e
     ·injection e with e
      injection e with e
      subst e
      exact .inr ⟨id,rfl,by omega,by rw [rowOf_ne _ _ zm,show rowOf h id=rowOf h' id from by unfold rowOf;rw [hkp id h3]];exact h2⟩
   ·rcases h0 with ⟨rfl, -, -⟩|⟨id,rfl,h1, -⟩
    ·intro e;cases e
    ·intro e
     injection e with e
     injection e with e
     omega
 ·rcases hr with ⟨e, -, -⟩|⟨id2,e,h1,h2⟩
  ·cases e
  ·injection e with e
   injection e with e
   subst e
   have hne2:id≠bid:=fun e=>hne (by rw [e])
   refine sw_row2 (m1:=id) (m2:=bid) (v':=.tuple ⟨[.agg ⟨[.int .u64 65536,.slice (some ⟨n,0,none⟩) hs'.length c']⟩,.slice (some ⟨n+1,0,none⟩) own.length own.length,.int .i64 0]⟩) ?_ hne2 rfl h1 hb2 h2 hb (bv_idA _ _) (bv_idA _ _) ?_ ?_
   ·show (([] ++ (idA n (.slice (some ⟨id,0,none⟩) hs'.length c') ++ [])) ++ (idA n (.slice (some ⟨bid,0,none⟩) own.length own.length) ++ ([] ++ [])))=[id,bid]
    rw [idA_new1 hid,idA_new1 hb1]
    rfl
   ·show Value.tuple ⟨[.agg ⟨[.int .u64 65536,.slice (some ⟨reN n [id,bid] id,0,none⟩) hs'.length c']⟩,.slice (some ⟨reN n [id,bid] bid,0,none⟩) own.length own.length,.int .i64 0]⟩=_
    rw [reN_one,reN_two hne2]
   ·exact ⟨_,c',n+1,rfl,.inr ⟨n,rfl,by omega,by rw [rowOf_ne _ _ zm];exact rowOf_same _ _ _ _ _⟩,.inr ⟨n,rfl,Nat.le_refl _⟩,(fun e=>by injection e with e;injection e with e;omega),by omega,by omega,rowOf_same _ _ _ _ _,by omega,fun b hb=>by rw [Hp.get_ne _ _ zm,Hp.get_ne _ _ zm]⟩
theorem sw_serr {A:Option Addr} {e:Int} {bid:Nat} {own:List UInt8} (he:e≠0) (ho:own≠[]) (hb1:n≤bid) (hb2:bid<n') (hb:rowOf h' bid=some (5,false,bv own)) :
  kSweep h n (StV (.error e) A h n) (.tuple ⟨[.agg ⟨[.int .u64 0,.slice none 0 0]⟩,.slice (some ⟨bid,0,none⟩) own.length own.length,.int .i64 e]⟩) h' n':=by
 refine sw_row (m:=bid) (v':=.tuple ⟨[.agg ⟨[.int .u64 0,.slice none 0 0]⟩,.slice (some ⟨n,0,none⟩) own.length own.length,.int .i64 e]⟩) ?_ rfl hb2 hb (bv_idA _ _) ?_ ?_
 ·show (([] ++ ([] ++ [])) ++ (idA n (.slice (some ⟨bid,0,none⟩) own.length own.length) ++ ([] ++ [])))=[bid]
  rw [idA_new1 hb1]
  rfl
 ·show Value.tuple ⟨[.agg ⟨[.int .u64 0,.slice none 0 0]⟩,.slice (some ⟨reN n [bid] bid,0,none⟩) own.length own.length,.int .i64 e]⟩=_
  rw [reN_one]
 ·exact ⟨_,_,_,rfl,he,by omega,(fun b hb=>Hp.get_ne _ _ zm),own,.inr ⟨ho,n,Nat.le_refl _,by omega,rfl,rowOf_same _ _ _ _ _⟩⟩
theorem sw_sno {A:Option Addr} {e:Int} (he:e≠0):kSweep h n (StV (.error e) A h n) (.tuple ⟨[.agg ⟨[.int .u64 0,.slice none 0 0]⟩,.slice none 0 0,.int .i64 e]⟩) h' n':=
 sw_flat rfl rfl ⟨_,_,_,rfl,he,Nat.le_refl _,(fun _ _=>rfl),[],.inl ⟨rfl,rfl⟩⟩
end
end
section
open Go.RowKit
theorem HR.le {h:Hp} {n m:Nat} {A:Option Addr} {c:Nat} {hs:List UInt8} (hh:HR h n A c hs) (hn:n≤m):HR h m A c hs:=hh.keep hn fun _ _=>rfl
theorem HR.ne1 {h:Hp} {n:Nat} {A:Option Addr} {c id:Nat} {hs:List UInt8} (hh:HR h n A c hs) (hid:n≤id):A≠some ⟨id,0,none⟩:=by
 rcases hh with ⟨rfl, -, -⟩|⟨b,rfl,h1,h2⟩
 ·intro e;cases e
 ·intro e
  injection e with e
  injection e with e
  omega
theorem HR.old {h:Hp} {n:Nat} {A:Option Addr} {c:Nat} {hs:List UInt8} (hh:HR h n A c hs) (b:Nat) (hb:A=some ⟨b,0,none⟩):b<n:=by
 rcases hh with ⟨rfl, -, -⟩|⟨id,rfl,h1,h2⟩
 ·cases hb
 ·injection hb with e
  injection e with e
  omega
theorem HR.at_ {h h':Hp} {n n':Nat} {A:Option Addr} {c:Nat} {hs:List UInt8} (hh:HR h n A c hs) (hn:n≤n') (hk:∀ b,A=some ⟨b,0,none⟩→h'.get b=h.get b):HR h' n' A c hs:=by
 rcases hh with e|⟨id,rfl,h1,h2⟩
 ·exact .inl e
 ·exact .inr ⟨id,rfl,by omega,by rw [show rowOf h' id=rowOf h id from by unfold rowOf;rw [hk id rfl]];exact h2⟩
theorem bv_app (l m:List UInt8):bv (l ++ m)=bv l ++ bv m:=by simp [bv]
theorem wrap_len {m:Nat} (h:m≤20000):IntKind.wrap .u64 (m:Int)=(m:Int):=by rw [IntKind.wrap_u64];omega
def tgtR (lim kd:Int) (m:Nat) (r:Except Int (List UInt8 × List (List UInt8))):Except Int (List UInt8 × List UInt8):=match r with
 | .error e=>.error e
 | .ok a=>if allocE 65536 a.1.length a.2.flatten.length lim=0 then .ok (putL a.1 a.2.flatten,litP (ptrP kd (65536+a.1.length) m)) else .error (allocE 65536 a.1.length a.2.flatten.length lim)
variable (k d:Nat)
theorem lit1 (hk:30000≤k) (a:Int) (cl:Nat) (h6:Hp) (n6 id:Nat) (r:RdH h6 n6 (some ⟨id,0,none⟩) [.int .u64 a]) (ha:0≤a∧a<18446744073709551616) :
  SQ k (d+1) cl 82 [.slice (some ⟨id,0,none⟩) 1 1] h6 n6 fun v h' n'=>v = .slice (some ⟨n6,0,none⟩) 8 8∧h6.set n6 (.row 5 false (bv (litP [a])))=h'∧n6+1=n':=
 little_ev k d cl h6 n6 hk (some ⟨id,0,none⟩) [a] 1 r (by simp) (fun w hw=>by simp at hw;omega) (by simp)
theorem lit2 (hk:30000≤k) (a b:Int) (cl:Nat) (h6:Hp) (n6 id:Nat) (r:RdH h6 n6 (some ⟨id,0,none⟩) [.int .u64 a,.int .u64 b]) (ha:0≤a∧a<18446744073709551616) (hb:0≤b∧b<18446744073709551616) :
  SQ k (d+1) cl 82 [.slice (some ⟨id,0,none⟩) 2 2] h6 n6 fun v h' n'=>v = .slice (some ⟨n6,0,none⟩) 16 16∧h6.set n6 (.row 5 false (bv (litP [a,b])))=h'∧n6+1=n':=
 little_ev k d cl h6 n6 hk (some ⟨id,0,none⟩) [a,b] 2 r (by simp) (fun w hw=>by simp at hw;omega) (by simp)
theorem lit3 (hk:30000≤k) (a b:Int) (cl:Nat) (h6:Hp) (n6 id:Nat) (r:RdH h6 n6 (some ⟨id,0,none⟩) [.int .u64 a,.int .u64 b,.int .u64 b]) (ha:0≤a∧a<18446744073709551616) (hb:0≤b∧b<18446744073709551616) :
  SQ k (d+1) cl 82 [.slice (some ⟨id,0,none⟩) 3 3] h6 n6 fun v h' n'=>v = .slice (some ⟨n6,0,none⟩) 24 24∧h6.set n6 (.row 5 false (bv (litP [a,b,b])))=h'∧n6+1=n':=
 little_ev k d cl h6 n6 hk (some ⟨id,0,none⟩) [a,b,b] 3 r (by simp) (fun w hw=>by simp at hw;omega) (by simp)
theorem target_ev (hk:30000≤k) (TA:Option Addr) (T:List Tp) (tc:Nat) (lim:Int) (x:Tp) (h47:x.kd=4∨x.kd=7) (y:Nat) (hy:x.el=(y:Int)) (z:Nat) (hz:1≤z∧z≤256) (v:V) (hll:v.l.length≤16) (g:List UInt8→Nat→V→Except Int (List UInt8 × List UInt8))
  (hg:∀ (hs:List UInt8) (v2:V),hs.length≤20000→v2∈v.l→∀ r,g hs y v2 = .ok r→r.2.length=z∧r.1.length≤20000)
  (ih:∀ v2∈v.l,∀ (cl:Nat) (h6:Hp) (n6:Nat) (A:Option Addr) (c:Nat) (hs:List UInt8) (cs:List Value),TabH h6 n6 TA T→VH h6 n6 v2 cs→HR h6 n6 A c hs→hs.length≤20000 →
   SQ k (d+6) cl 49 [.slice TA T.length tc,.agg ⟨[.int .u64 65536,.slice A hs.length c]⟩,.int .i64 lim,.int .i64 y,.agg ⟨cs⟩] h6 n6 (StV (g hs y v2) A h6 n6))
  (cl:Nat) (h:Hp) (n:Nat) (hT:TabH h n TA T) (cs:List Value) (hv:VH h n v cs) (A:Option Addr) (c:Nat) (hs:List UInt8) (hh:HR h n A c hs) (hhl:hs.length≤20000) :
  SQ k (d+7) cl 83 [.slice TA T.length tc,.agg ⟨[.int .u64 65536,.slice A hs.length c]⟩,.int .i64 lim,.agg ⟨[.int .u8 x.kd,.int .i64 x.el,.int .i64 x.ln,.slice x.A x.fs.length x.c]⟩,.agg ⟨cs⟩] h n (StV (tgtP g lim x hs v.l) A h n):=by
 obtain ⟨A1,cc1,rfl,hA1,hl1⟩:=hv.cut
 obtain ⟨vk,vi,vt,l,vc⟩:=v
 obtain ⟨kd,el,ln,fs,FA,fc⟩:=x
 simp only [V.kd,V.i,V.s,V.l,V.c] at hl1 hv hll hg ih h47 hy ⊢
 subst hy
 have hwl:=wrap_len (show l.length≤20000 by omega)
 have q1:=lit1 k (d+5) hk
 have q3:=lit3 k (d+5) hk
 unfold tgtP
 dsimp only
 by_cases hl0:l=[]
 ·subst hl0
  rw [if_pos rfl]
  rcases h47 with rfl|rfl
  ·refine enter Try.func83 kz rfl kz rfl rfl rfl ?_
   (repeat' first|refine zcd ?_|intro K' hK|(with_reducible refine zn hK ?_;clear hK)|(with_reducible refine x_drawnD (id:=18) [(0,3)] kz fun K' hK=>?_)|((with_reducible apply d_nil);(case hp=>exact ezP);(case' hx=>(refine hK _ _ _ ?_;clear hK)))|((with_reducible apply d_pure w_none);(case hp=>exact rfl);(case hc=>exact rfl);(case he=>exact ez0))|((with_reducible apply d_eff w_none);(case hc=>exact rfl);(case he=>exact ez0);(case hok=>exact ezO))|((with_reducible apply d_guard rfl);(case hb=>exact ez0);(case' h1=>intro hb;(try simp only [hbs,reduceCtorEq] at hb);try exact ezX);(case' h2=>intro hb;(try simp only [hbs,reduceCtorEq] at hb);try exact ezX))|((with_reducible apply d_callS (g:=82) w_none);(case hs0=>exact rfl);(case ha=>exact ez0);(case hs=>((with_reducible apply q1);(all_goals first|exact RdH.row zm|omega)));(case' hk=>rintro _ h' n' ⟨rfl,rfl,rfl⟩))|((with_reducible apply d_callN (g:=82) w_none);(case hs0=>exact rfl);(case ha=>exact ez0);(case hs=>((with_reducible apply q1);(all_goals first|exact RdH.row zm|omega)));(case' hk=>rintro _ h' n' ⟨rfl,rfl,rfl⟩))|((with_reducible first|apply zo1|apply zo2|apply o_guard rfl|apply x_cond|apply k_e1 rfl|apply k_e2 rfl|apply k_e0 rfl|apply k_e3 rfl|apply k_e4 rfl);(case he=>exact ez1 hwl);(try case hok=>exact ezO);all_goals try (intro hb;(try simp only [hbs,reduceCtorEq] at hb);try exact ezX))|((with_reducible apply o_undef rfl);(case hb=>exact ez0)))
   all_goals exact sw_store (own:=litP [0]) hh ((hh.keep (Nat.le_refl _) ezN).le zm) (.inl rfl) (hh.ne1 zm) zm zm ezN ez0
  ·refine enter Try.func83 kz rfl kz rfl rfl rfl ?_
   (repeat' first|refine zcd ?_|intro K' hK|(with_reducible refine zn hK ?_;clear hK)|(with_reducible refine x_drawnD (id:=19) [(0,5)] kz fun K' hK=>?_)|((with_reducible apply d_nil);(case hp=>exact ezP);(case' hx=>(refine hK _ _ _ ?_;clear hK)))|((with_reducible apply d_pure w_none);(case hp=>exact rfl);(case hc=>exact rfl);(case he=>exact ez0))|((with_reducible apply d_eff w_none);(case hc=>exact rfl);(case he=>exact ez0);(case hok=>exact ezO))|((with_reducible apply d_guard rfl);(case hb=>exact ez0);(case' h1=>intro hb;(try simp only [hbs,reduceCtorEq] at hb);try exact ezX);(case' h2=>intro hb;(try simp only [hbs,reduceCtorEq] at hb);try exact ezX))|((with_reducible apply d_callS (g:=82) w_none);(case hs0=>exact rfl);(case ha=>exact ez0);(case hs=>((with_reducible apply q3);(all_goals first|exact RdH.row zm|omega)));(case' hk=>rintro _ h' n' ⟨rfl,rfl,rfl⟩))|((with_reducible apply d_callN (g:=82) w_none);(case hs0=>exact rfl);(case ha=>exact ez0);(case hs=>((with_reducible apply q3);(all_goals first|exact RdH.row zm|omega)));(case' hk=>rintro _ h' n' ⟨rfl,rfl,rfl⟩))|((with_reducible first|apply zo1|apply zo2|apply o_guard rfl|apply x_cond|apply k_e1 rfl|apply k_e2 rfl|apply k_e0 rfl|apply k_e3 rfl|apply k_e4 rfl);(case he=>exact ez1 hwl);(try case hok=>exact ezO);all_goals try (intro hb;(try simp only [hbs,reduceCtorEq] at hb);try exact ezX))|((with_reducible apply o_undef rfl);(case hb=>exact ez0)))
   all_goals exact sw_store (own:=litP [0,0,0]) hh ((hh.keep (Nat.le_refl _) ezN).le zm) (.inl rfl) (hh.ne1 zm) zm zm ezN ez0
 ·rw [if_neg hl0]
  have hlp:0<l.length:=List.length_pos_iff.2 hl0
  obtain ⟨res,hres⟩:∃ res,catP g hs (l.map fun v=>((y:Int),v))=res:=⟨_,rfl⟩
  rw [hres]
  obtain ⟨R,hR⟩:∃ R:Except Int (List UInt8 × List UInt8),R=tgtR lim kd l.length res:=⟨_,rfl⟩
  refine Sp.mono (Φ:=StV R A h n) ?_ fun v h' n' hp=>by rw [hR] at hp;exact hp
  refine enter Try.func83 kz rfl kz rfl rfl rfl ?_
  (repeat' first|refine zcd ?_|intro K' hK|(with_reducible refine zn hK ?_;clear hK)|fail|((with_reducible first|apply zo1|apply zo2|apply o_guard rfl|apply x_cond|apply k_e1 rfl|apply k_e2 rfl|apply k_e0 rfl|apply k_e3 rfl|apply k_e4 rfl);(case he=>exact ez1 hwl);(try case hok=>exact ezO);all_goals try (intro hb;(try simp only [hbs,reduceCtorEq] at hb);try exact ezX))|((with_reducible apply o_undef rfl);(case hb=>exact ez0)))
  refine x_loopV [11,12,15,17,18,19,20,33,34,35,36,37,38,39,40,41,42,43,44,45,46,47,48,49,50,51,52,53,54,55,56] [15,33] (fun m vs h5 n5=>∃ (q:Nat) (OA:Value) (A':Option Addr) (c':Nat) (hs':List UInt8) (owns:List (List UInt8)),m=l.length - q∧q≤l.length∧vs=[OA,.int .i64 q]∧n+4≤n5∧(∀ b,b<n→h5.get b=h.get b) ∧
   rowOf h5 n=some (29,false,[.int .u64 65536,.slice A' hs'.length c'])∧rowOf h5 (n+1)=some (64,false,[.int .u8 kd,.int .i64 (y:Int),.int .i64 ln,.slice FA fs.length fc])∧rowOf h5 (n+2)=some (32,false,vcell vk vi vt A1 l.length cc1 vc)∧rowOf h5 (n+3)=some (29,false,[.int .u64 0,.slice none 0 0]) ∧
   HR h5 n5 A' c' hs'∧(A'=A∨∃ id,A'=some ⟨id,0,none⟩∧n+4≤id)∧hs'.length≤20000∧catP g hs ((l.take q).map fun v=>((y:Int),v)) = .ok (hs',owns)∧owns.flatten.length=q*z∧OwnY owns.flatten OA h5 (n+4) n5∧∀ b m c,OA = .slice (some ⟨b,0,none⟩) m c→A'≠some ⟨b,0,none⟩) l.length rfl zm ?_ ?_
  ·exact ⟨0,.slice none 0 0,A,c,hs,[],rfl,by omega,ez0,by omega,ezN,ez0,ez0,ez0,ez0,(hh.keep (Nat.le_refl _) ezN).le zm,.inl rfl,hhl,rfl,by simp,.inl ⟨rfl,rfl⟩,fun b m c e=>by cases e⟩
  ·rintro m g1 _ h5 n5 ⟨q,OA,A',c',hs',owns,rfl,hq,rfl,hn5,hkp,r6,r8,r9,r10,hh5,hA',hsl,hcat,hfl,hO,hOA⟩
   have hT5:TabH h5 n5 TA T:=(hT.keep (Nat.le_refl _) hkp).more zm
   have hL5:LH h5 n5 A1 l:=hl1.keep zm hkp
   have f6:=cellsAt_row (off:=0) (k:=2) r6
   have f8:=cellAt_row (off:=1) r8
   have f80:=cellAt_row (off:=0) r8
   by_cases hql:q<l.length
   ·obtain ⟨vid,voff,A2,cc2,rfl,hvid,c1,v1⟩:=hL5.at_ hql
    have qs:=fun (cl:Nat) (h6:Hp) (n6:Nat) (cs:List Value) (hT6:TabH h6 n6 TA T) (hv6:VH h6 n6 l[q] cs) (hh6:HR h6 n6 A' c' hs')=>ih l[q] (List.getElem_mem hql) cl h6 n6 A' c' hs' cs hT6 hv6 hh6 hsl
    have hgq:=hg hs' l[q] hsl (List.getElem_mem hql)
    have hsn:=catP_snoc g ((y:Int),l[q]) _ _ _ hcat
    have htk:(l.take (q+1)).map (fun v=>((y:Int),v))=(l.take q).map (fun v=>((y:Int),v)) ++ [((y:Int),l[q])]:=by rw [List.take_succ_eq_append_getElem hql,List.map_append];rfl
    rw [← htk] at hsn
    dsimp only at hsn
    rw [Int.toNat_natCast] at hsn
    obtain ⟨e,he⟩:∃ e,l[q]=e:=⟨_,rfl⟩
    simp only [he] at c1 v1 qs hgq hsn
    clear htk
    cases hge:g hs' y e with
    | error e0=>
     simp only [hge] at qs hsn
     have hRe:R = .error e0:=by
      have h1:=catP_err g _ ((l.drop (q+1)).map fun v=>((y:Int),v)) _ hsn
      rw [← List.map_append,List.take_append_drop,hres] at h1
      rw [hR,h1]
      rfl
     rw [hRe]
     (repeat' first|refine zcd ?_|intro K' hK|(with_reducible refine zn hK ?_;clear hK)|((with_reducible apply o_callF (g:=49) w_none);(case ha=>exact ez0);(case hs=>((with_reducible apply qs);(all_goals first|((refine TabH.more (B:=n5) ?_ zm);(repeat' first|exact hT5|refine TabH.set ?_ zm _))|((refine VH.more (B:=n5) ?_ zm);(repeat' first|exact v1|refine VH.set ?_ zm _))|(refine hh5.keep zm fun b hb=>?_;(repeat rw [Hp.get_ne _ _ zm])))));(case' hk=>rintro _ h' n' ⟨O,m,c2,rfl,he0,hn6,hk6, -⟩))|((with_reducible first|apply zo1|apply zo2|apply o_guard rfl|apply x_cond|apply k_e1 rfl|apply k_e2 rfl|apply k_e0 rfl|apply k_e3 rfl|apply k_e4 rfl);(case he=>exact ez3 c1 f6 f8);(try case hok=>exact ezO);all_goals try (intro hb;(try simp only [hbs,reduceCtorEq] at hb);try exact ezX))|((with_reducible apply o_undef rfl);(case hb=>exact ez0)))
     have r10':rowOf h' (n+3)=some (29,false,[.int .u64 0,.slice none 0 0]):=(by (repeat rw [rowOf_ne _ _ zm]);rw [rowOf_keep (hk6 _ zm)];(repeat rw [rowOf_ne _ _ zm]);exact r10)
     have w10:=rwOf_row r10'
     (repeat' first|refine zcd ?_|intro K' hK|(with_reducible refine zn hK ?_;clear hK)|fail|((with_reducible first|apply zo1|apply zo2|apply o_guard rfl|apply x_cond|apply k_e1 rfl|apply k_e2 rfl|apply k_e0 rfl|apply k_e3 rfl|apply k_e4 rfl);(case he=>exact ez1 w10);(try case hok=>exact ezO);all_goals try (intro hb;(try simp only [hbs,reduceCtorEq] at hb);try exact ezX))|((with_reducible apply o_undef rfl);(case hb=>exact ez0)))
     all_goals exact sw_sno he0
    | ok r=>
     obtain ⟨hs2,own⟩:=r
     obtain ⟨ho1,ho2⟩:=hgq _ hge
     simp only [hge] at qs hsn
     dsimp only at ho1 ho2 hsn
     have ho0:own≠[]:=fun e=>by rw [e] at ho1;simp at ho1;omega
     (repeat' first|refine zcd ?_|intro K' hK|(with_reducible refine zn hK ?_;clear hK)|((with_reducible apply o_callF (g:=49) w_none);(case ha=>exact ez0);(case hs=>((with_reducible apply qs);(all_goals first|((refine TabH.more (B:=n5) ?_ zm);(repeat' first|exact hT5|refine TabH.set ?_ zm _))|((refine VH.more (B:=n5) ?_ zm);(repeat' first|exact v1|refine VH.set ?_ zm _))|(refine hh5.keep zm fun b hb=>?_;(repeat rw [Hp.get_ne _ _ zm])))));(case' hk=>rintro _ h' n' ⟨A3,c3,bid,rfl,hr3,ho3,hne3,hb1,hb2,hb3,hn6,hk6⟩))|((with_reducible first|apply zo1|apply zo2|apply o_guard rfl|apply x_cond|apply k_e1 rfl|apply k_e2 rfl|apply k_e0 rfl|apply k_e3 rfl|apply k_e4 rfl);(case he=>exact ez3 c1 f6 f8);(try case hok=>exact ezO);all_goals try (intro hb;(try simp only [hbs,reduceCtorEq] at hb);try exact ezX))|((with_reducible apply o_undef rfl);(case hb=>exact ez0)))
     have hA3:A3=A∨∃ id,A3=some ⟨id,0,none⟩∧n+4≤id:=by
      rcases ho3 with rfl|⟨id,e,hid⟩
      ·exact hA'
      ·exact .inr ⟨id,e,by omega⟩
     have hold:∀ b,A3=some ⟨b,0,none⟩→b<n'∧(b<n∨n+4≤b):=fun b hb=>⟨hr3.old b hb,by
      rcases hA3 with rfl|⟨id,e,hid⟩
      ·exact .inl (hh.old b hb)
      ·rw [hb] at e
       injection e with e
       injection e with e
       omega⟩
     have hOA3:∀ b m c,OA = .slice (some ⟨b,0,none⟩) m c→A3≠some ⟨b,0,none⟩:=fun b m c e=>by
      rcases ho3 with rfl|⟨id,e2,hid⟩
      ·exact hOA b m c e
      ·intro e3
       rw [e2] at e3
       injection e3 with e3
       injection e3 with e3
       rcases hO with ⟨-,e4⟩|⟨-,id4, -,b2,e4, -⟩
       ·rw [e] at e4;cases e4
       ·rw [e] at e4
        injection e4 with e4
        injection e4 with e4
        injection e4 with e4
        omega
     have r6':rowOf h' n=some (29,false,[.int .u64 65536,.slice A' hs'.length c']):=(by (repeat rw [rowOf_ne _ _ zm]);rw [rowOf_keep (hk6 _ zm)];(repeat rw [rowOf_ne _ _ zm]);exact r6)
     have r8':rowOf h' (n+1)=some (64,false,[.int .u8 kd,.int .i64 (y:Int),.int .i64 ln,.slice FA fs.length fc]):=(by (repeat rw [rowOf_ne _ _ zm]);rw [rowOf_keep (hk6 _ zm)];(repeat rw [rowOf_ne _ _ zm]);exact r8)
     have r9':rowOf h' (n+2)=some (32,false,vcell vk vi vt (some ⟨vid,voff,none⟩) l.length cc1 vc):=(by (repeat rw [rowOf_ne _ _ zm]);rw [rowOf_keep (hk6 _ zm)];(repeat rw [rowOf_ne _ _ zm]);exact r9)
     have r10':rowOf h' (n+3)=some (29,false,[.int .u64 0,.slice none 0 0]):=(by (repeat rw [rowOf_ne _ _ zm]);rw [rowOf_keep (hk6 _ zm)];(repeat rw [rowOf_ne _ _ zm]);exact r10)
     have w6:=rwOf_row r6'
     have hkp':∀ b,b<n→h'.get b=h.get b:=fun b hb=>by
      rw [hk6 _ zm]
      (repeat rw [Hp.get_ne _ _ zm])
      exact hkp b hb
     have hO':OwnY owns.flatten OA h' (n+4) n':=by
      rcases hO with e|⟨a,id,b1,b2,b3,b4⟩
      ·exact .inl e
      ·exact .inr ⟨a,id,b1,by omega,b3,(by rw [rowOf_keep (hk6 _ zm)];(repeat rw [rowOf_ne _ _ zm]);exact b4)⟩
     have hfl2:(owns ++ [own]).flatten=owns.flatten ++ own:=by simp
     have hfl3:(owns ++ [own]).flatten.length=(q+1)*z:=by rw [hfl2,List.length_append,hfl,ho1,Nat.add_mul,Nat.one_mul]
     clear hO hk6 r6 r8 r9 r10 f6 f8 f80 c1 v1 qs
     rcases hO' with ⟨hp0,rfl⟩|⟨hp0,id,j1,j2,rfl,q4⟩
     ·rw [hp0,List.nil_append] at hfl2
      (repeat' first|refine zcd ?_|intro K' hK|(with_reducible refine zn hK ?_;clear hK)|(with_reducible refine x_drawnD (id:=11) [(0,3)] kz fun K' hK=>?_)|((with_reducible apply d_nil);(case hp=>exact ezP);(case' hx=>(refine hK _ _ _ ?_;clear hK)))|((with_reducible apply d_pure w_none);(case hp=>exact rfl);(case hc=>exact rfl);(case he=>exact ez1 w6))|((with_reducible apply d_eff w_none);(case hc=>exact rfl);(case he=>exact ez1 w6);(case hok=>exact ezO))|((with_reducible apply d_guard rfl);(case hb=>exact ez1 w6);(case' h1=>intro hb;(try simp only [hbs,reduceCtorEq] at hb);try exact ezX);(case' h2=>intro hb;(try simp only [hbs,reduceCtorEq] at hb);try exact ezX))|((with_reducible apply d_ap0 (t:=27) apT27 w_none);(case hs=>exact ez0);(case hy=>exact ez0);(case hsrc=>exact src_row (ezW hb3) (by rw [bv_length];exact (Nat.mul_one _).symm));(case hc=>exact bv_cok own);(case hm=>omega);(case h0=>omega);(case' hx=>intro rd))|((with_reducible first|apply zo1|apply zo2|apply o_guard rfl|apply x_cond|apply k_e1 rfl|apply k_e2 rfl|apply k_e0 rfl|apply k_e3 rfl|apply k_e4 rfl);(case he=>exact ez1 w6);(try case hok=>exact ezO);all_goals try (intro hb;(try simp only [hbs,reduceCtorEq] at hb);try exact ezX))|((with_reducible apply o_undef rfl);(case hb=>exact ez0)))
      refine k_round (l.length - (q+1)) zm ⟨q+1,.slice (some ⟨n'+1,0,none⟩) own.length own.length,A3,c3,hs2,owns ++ [own],rfl,by omega,ez0,by omega,(fun b hb=>by (repeat rw [Hp.get_ne _ _ zm]);exact hkp' b hb),ez0,(ezW r8'),(ezW r9'),(ezW r10'),hr3.at_ zm (fun b hb=>by have:=hold b hb;(repeat rw [Hp.get_ne _ _ zm])),hA3,ho2,hsn,hfl3,?_,fun b m c e=>by injection e with e;injection e with e;injection e with e;intro e2;have:=(hold b e2).1;omega⟩
      rw [hfl2]
      exact .inr ⟨ho0,n'+1,by omega,by omega,rfl,ez0⟩
     ·have w4:=rwOf_row q4
      obtain ⟨acc,hacc⟩:∃ acc,owns.flatten=acc:=⟨_,rfl⟩
      rw [hacc] at hfl2 w4 hp0 q4 hfl ⊢
      have hacl:acc.length≤16*256:=by rw [hfl];exact Nat.mul_le_mul zm hz.2
      have htw:(bv acc).take acc.length=bv acc:=List.take_of_length_le (by rw [bv_length];omega)
      (repeat' first|refine zcd ?_|intro K' hK|(with_reducible refine zn hK ?_;clear hK)|(with_reducible refine x_drawnD (id:=11) [(0,3)] kz fun K' hK=>?_)|((with_reducible apply d_nil);(case hp=>exact ezP);(case' hx=>(refine hK _ _ _ ?_;clear hK)))|((with_reducible apply d_pure w_none);(case hp=>exact rfl);(case hc=>exact rfl);(case he=>exact ez1 w6))|((with_reducible apply d_eff w_none);(case hc=>exact rfl);(case he=>exact ez1 w6);(case hok=>exact ezO))|((with_reducible apply d_guard rfl);(case hb=>exact ez1 w6);(case' h1=>intro hb;(try simp only [hbs,reduceCtorEq] at hb);try exact ezX);(case' h2=>intro hb;(try simp only [hbs,reduceCtorEq] at hb);try exact ezX))|((with_reducible apply d_apR (t:=27) apT27 w_none);(case hs=>exact ez1 w4);(case hy=>exact ez1 w4);(case hsrc=>exact src_row (ezW hb3) (by rw [bv_length];exact (Nat.mul_one _).symm));(case hr=>exact ez1 w4);(case hc=>exact bv_cok own);(case hm=>omega);(case hli=>omega);(case hln=>omega);(case hcs=>rw [bv_length];omega);(case' hx=>intro rd))|((with_reducible first|apply zo1|apply zo2|apply o_guard rfl|apply x_cond|apply k_e1 rfl|apply k_e2 rfl|apply k_e0 rfl|apply k_e3 rfl|apply k_e4 rfl);(case he=>exact ez1 w6);(try case hok=>exact ezO);all_goals try (intro hb;(try simp only [hbs,reduceCtorEq] at hb);try exact ezX))|((with_reducible apply o_undef rfl);(case hb=>exact ez0)))
      refine k_round (l.length - (q+1)) zm ⟨q+1,.slice (some ⟨n'+1,0,none⟩) (acc.length+own.length) (acc.length+own.length),A3,c3,hs2,owns ++ [own],rfl,by omega,ez0,by omega,(fun b hb=>by (repeat rw [Hp.get_ne _ _ zm]);exact hkp' b hb),ez0,(ezW r8'),(ezW r9'),(ezW r10'),hr3.at_ zm (fun b hb=>by have:=hold b hb;have:b≠id:=(fun e=>hOA3 id _ _ rfl (by rw [hb,e]));(repeat rw [Hp.get_ne _ _ zm])),hA3,ho2,hsn,hfl3,?_,fun b m c e=>by injection e with e;injection e with e;injection e with e;intro e2;have:=(hold b e2).1;omega⟩
      rw [hfl2]
      exact .inr ⟨by simp [ho0],n'+1,by omega,by omega,by rw [List.length_append],by rw [bv_app];exact ez1 htw⟩
   ·obtain rfl:q=l.length:=by omega
    rw [List.take_length,hres] at hcat
    subst hcat
    have hpos:1≤l.length*z:=Nat.mul_pos hlp hz.1
    have hup:l.length*z≤16*256:=Nat.mul_le_mul hll hz.2
    have w6:=rwOf_row r6
    have w10:=rwOf_row r10
    unfold tgtR at hR
    dsimp only at hR
    rcases hO with ⟨hp0, -⟩|⟨hp0,id,j1,j2,rfl,q4⟩
    ·rw [hp0] at hfl
     simp at hfl
     omega
    ·obtain ⟨acc,hacc⟩:∃ acc,owns.flatten=acc:=⟨_,rfl⟩
     rw [hacc] at hp0 q4 hfl hR ⊢
     have hh7:RdH h5 n5 A' (bv hs')∧(A'=none→c'=0):=hh5.rd
     have hh8:RdH h5 n5 (some ⟨id,0,none⟩) (bv acc):=RdH.ofRow q4 zm
     by_cases hal:allocE 65536 hs'.length acc.length lim=0
     ·rw [if_pos hal] at hR
      have qp:∀ (cl:Nat),SQ k (d+6) cl 28 [.agg ⟨[.int .u64 65536,.slice A' hs'.length c']⟩,.slice (some ⟨id,0,none⟩) acc.length acc.length,.int .i64 lim] h5 n5 fun v h' n'=>v = .tuple ⟨[.agg ⟨[.int .u64 65536,.slice (some ⟨n5,0,none⟩) (putL hs' acc).length (putL hs' acc).length]⟩,.int .u64 (65536+hs'.length),.int .i64 0]⟩∧h5.set n5 (.row 5 false (bv (putL hs' acc)))=h'∧n5+1=n':=fun cl=>
       (bput_ok k (d+1) cl h5 n5 65536 A' hs' c' (some ⟨id,0,none⟩) acc acc.length lim hh7.1 hh7.2 hh8 (fun e=>by cases e) hal).mono fun _ _ _ hp=>⟨hp.1,hp.2.1.symm,hp.2.2.symm⟩
      obtain ⟨pl,hpl⟩:∃ pl,putL hs' acc=pl:=⟨_,rfl⟩
      simp only [hpl] at qp hR
      rw [hR]
      rcases h47 with rfl|rfl
      ·(repeat' first|refine zcd ?_|intro K' hK|(with_reducible refine zn hK ?_;clear hK)|(with_reducible refine x_drawnD (id:=18) [(0,3)] kz fun K' hK=>?_)|((with_reducible apply d_nil);(case hp=>exact ezP);(case' hx=>(refine hK _ _ _ ?_;clear hK)))|((with_reducible apply d_pure w_none);(case hp=>exact rfl);(case hc=>exact rfl);(case he=>exact ez3 f80 w6 w10))|((with_reducible apply d_eff w_none);(case hc=>exact rfl);(case he=>exact ez3 f80 w6 w10);(case hok=>exact ezO))|((with_reducible apply d_guard rfl);(case hb=>exact ez3 f80 w6 w10);(case' h1=>intro hb;(try simp only [hbs,reduceCtorEq] at hb);try exact ezX);(case' h2=>intro hb;(try simp only [hbs,reduceCtorEq] at hb);try exact ezX))|((with_reducible apply o_callF (g:=28) w_none);(case ha=>exact ez0);(case hs=>(exact qp _));(case' hk=>rintro _ h' n' ⟨rfl,rfl,rfl⟩))|((with_reducible apply d_callS (g:=82) w_none);(case hs0=>exact rfl);(case ha=>exact ez0);(case hs=>((with_reducible apply q1);(all_goals first|exact RdH.row zm|omega)));(case' hk=>rintro _ h' n' ⟨rfl,rfl,rfl⟩))|((with_reducible apply d_callN (g:=82) w_none);(case hs0=>exact rfl);(case ha=>exact ez0);(case hs=>((with_reducible apply q1);(all_goals first|exact RdH.row zm|omega)));(case' hk=>rintro _ h' n' ⟨rfl,rfl,rfl⟩))|((with_reducible first|apply zo1|apply zo2|apply o_guard rfl|apply x_cond|apply k_e1 rfl|apply k_e2 rfl|apply k_e0 rfl|apply k_e3 rfl|apply k_e4 rfl);(case he=>exact ez5 f6 w6 w10 f80 hwl);(try case hok=>exact ezO);all_goals try (intro hb;(try simp only [hbs,reduceCtorEq] at hb);try exact ezX))|((with_reducible apply o_undef rfl);(case hb=>exact ez0)))
       all_goals exact sw_store (own:=litP [65536+(hs'.length:Int)]) hh (.inr ⟨n5,rfl,by omega,ez0⟩) (.inr ⟨n5,rfl,by omega⟩) (fun e=>by injection e with e;injection e with e;omega) zm zm (ezB hkp) ez0
      ·(repeat' first|refine zcd ?_|intro K' hK|(with_reducible refine zn hK ?_;clear hK)|(with_reducible refine x_drawnD (id:=19) [(0,5)] kz fun K' hK=>?_)|((with_reducible apply d_nil);(case hp=>exact ezP);(case' hx=>(refine hK _ _ _ ?_;clear hK)))|((with_reducible apply d_pure w_none);(case hp=>exact rfl);(case hc=>exact rfl);(case he=>exact ez3 f80 w6 w10))|((with_reducible apply d_eff w_none);(case hc=>exact rfl);(case he=>exact ez3 f80 w6 w10);(case hok=>exact ezO))|((with_reducible apply d_guard rfl);(case hb=>exact ez3 f80 w6 w10);(case' h1=>intro hb;(try simp only [hbs,reduceCtorEq] at hb);try exact ezX);(case' h2=>intro hb;(try simp only [hbs,reduceCtorEq] at hb);try exact ezX))|((with_reducible apply o_callF (g:=28) w_none);(case ha=>exact ez0);(case hs=>(exact qp _));(case' hk=>rintro _ h' n' ⟨rfl,rfl,rfl⟩))|((with_reducible apply d_callS (g:=82) w_none);(case hs0=>exact rfl);(case ha=>exact ez0);(case hs=>((with_reducible apply q3);(all_goals first|exact RdH.row zm|omega)));(case' hk=>rintro _ h' n' ⟨rfl,rfl,rfl⟩))|((with_reducible apply d_callN (g:=82) w_none);(case hs0=>exact rfl);(case ha=>exact ez0);(case hs=>((with_reducible apply q3);(all_goals first|exact RdH.row zm|omega)));(case' hk=>rintro _ h' n' ⟨rfl,rfl,rfl⟩))|((with_reducible first|apply zo1|apply zo2|apply o_guard rfl|apply x_cond|apply k_e1 rfl|apply k_e2 rfl|apply k_e0 rfl|apply k_e3 rfl|apply k_e4 rfl);(case he=>exact ez5 f6 w6 w10 f80 hwl);(try case hok=>exact ezO);all_goals try (intro hb;(try simp only [hbs,reduceCtorEq] at hb);try exact ezX))|((with_reducible apply o_undef rfl);(case hb=>exact ez0)))
       all_goals exact sw_store (own:=litP [65536+(hs'.length:Int),(l.length:Int),(l.length:Int)]) hh (.inr ⟨n5,rfl,by omega,ez0⟩) (.inr ⟨n5,rfl,by omega⟩) (fun e=>by injection e with e;injection e with e;omega) zm zm (ezB hkp) ez0
     ·rw [if_neg hal] at hR
      obtain ⟨E,hE⟩:∃ E,allocE 65536 hs'.length acc.length lim=E:=⟨_,rfl⟩
      have qp:∀ (cl:Nat),SQ k (d+6) cl 28 [.agg ⟨[.int .u64 65536,.slice A' hs'.length c']⟩,.slice (some ⟨id,0,none⟩) acc.length acc.length,.int .i64 lim] h5 n5 fun v h' n'=>v = .tuple ⟨[.agg ⟨[.int .u64 0,.slice none 0 0]⟩,.int .u64 0,.int .i64 E]⟩∧h5=h'∧n5=n':=fun cl=>
       (bput_err k (d+1) cl h5 n5 65536 A' hs'.length c' (some ⟨id,0,none⟩) acc.length acc.length lim zm zm hal).mono fun _ _ _ hp=>⟨by rw [hp.1,hE],hp.2.1.symm,hp.2.2.symm⟩
      rw [hE] at hal hR
      rw [hR]
      have w10:=rwOf_row r10
      (repeat' first|refine zcd ?_|intro K' hK|(with_reducible refine zn hK ?_;clear hK)|((with_reducible apply o_callF (g:=28) w_none);(case ha=>exact ez0);(case hs=>(exact qp _));(case' hk=>rintro _ h' n' ⟨rfl,rfl,rfl⟩))|((with_reducible first|apply zo1|apply zo2|apply o_guard rfl|apply x_cond|apply k_e1 rfl|apply k_e2 rfl|apply k_e0 rfl|apply k_e3 rfl|apply k_e4 rfl);(case he=>exact ez2 f6 w10);(try case hok=>exact ezO);all_goals try (intro hb;(try simp only [hbs,reduceCtorEq] at hb);try exact ezX))|((with_reducible apply o_undef rfl);(case hb=>exact ez0)))
      all_goals exact sw_sno hal
end
section
open Go.RowKit
theorem put_mid (A ys:List UInt8) (r:Nat):Go.Proofs.Ytcpkdjikembpnaa.put (A ++ List.replicate (ys.length+r) 0) A.length ys=A ++ ys ++ List.replicate r 0:=by
 unfold Go.Proofs.Ytcpkdjikembpnaa.put
 rw [List.take_left,List.drop_append,List.drop_eq_nil_of_le zm,List.nil_append,List.drop_replicate,List.append_assoc]
 congr 3
 omega
variable (k d cl:Nat) (h:Hp) (n:Nat)
end
end Go.Proofs.Ytcpkdjikembpnaa.Ce
