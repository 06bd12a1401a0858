/- Parts of the proof of ValueBack: Ip, Hl, Cut, Tk, Ec. No condition of its own. -/
import Derived.Test.YtcpkdjikembpnaaWaag
import Derived.Test.YtcpkdjikembpnaaWaah
import Derived.Test.YtcpkdjikembpnaaWaaj
import Derived.Test.YtcpkdjikembpnaaWabb
import Derived.Test.YtcpkdjikembpnaaWabe
import Derived.Test.YtcpkdjikembpnaaWabg
set_option linter.unusedVariables false
set_option linter.unusedSimpArgs false
set_option maxRecDepth 1000000
set_option maxHeartbeats 4000000
namespace Go.Proofs.Ytcpkdjikembpnaa.Ce
section
open Go.RowKit
variable (k:Nat)
theorem rchk15_ev (d cl:Nat) (h:Hp) (n:Nat) (hk:30000≤k) (TA:Option Addr) (T:List Tp) (tc:Nat) (hT:TabH h n TA T) (hS:∀ t∈T,t.fs.length≤20000) (hm:T.length≤9223372036854775807) (N:Nat) (t:Int) (v:V) (hb:Bd N v) (cs:List Value) (hv:VH h n v cs) :
  SQ k (d+N+13) cl 22 [.slice TA T.length tc,.int .i64 t,.agg ⟨cs⟩] h n fun w h' n'=>w = .int .i64 (chkV T N t v)∧h=h'∧n=n':=by
 have qa:=fun (h6:Hp) (n6:Nat) (hT6:TabH h6 n6 TA T)=>rasked15_ev k (d+N) n h6 n6 hk TA T tc hT6 hS hm t
 obtain ⟨A1,cc1,rfl, -, -⟩:=hv.cut
 unfold chkV
 by_cases hE:okE T t=0
 ·obtain ⟨x,rfl,ho⟩:=okE_0 hE
  rw [if_neg (not_not_intro hE),Int.toNat_natCast]
  simp only [hE] at qa
  have qf:=fun (cl:Nat) (h6:Hp) (n6:Nat) (cs:List Value) (hT6:TabH h6 n6 TA T) (hv6:VH h6 n6 v cs)=>rfits15_ev k hk TA T tc N x v 3 ho hb zm (d+2) cl h6 n6 cs hT6 hv6
  rw [show d+2+N+10=d+N+12 from by omega] at qf
  have qf:∀ (cl:Nat) (h6:Hp) (n6:Nat) (cs:List Value),TabH h6 n6 TA T→VH h6 n6 v cs→SQ k (d+N+12) cl 52 [.slice TA T.length tc,.int .i64 x,.agg ⟨cs⟩,.int .i64 3] h6 n6 fun w h' n'=>w = .bool (fitP T N x v 3)∧h6=h'∧n6=n':=qf
  obtain ⟨B,hB⟩:∃ B,fitP T N x v 3=B:=⟨_,rfl⟩
  simp only [hB] at qf ⊢
  cases B
  all_goals
   refine enter Try.func22 kz rfl kz rfl rfl rfl ?_
   (repeat' first|refine zcd ?_|intro K' hK|(with_reducible refine zn hK ?_;clear hK)|((with_reducible apply o_callF (g:=36) w_none);(case ha=>exact ez0);(case hs=>((with_reducible apply qa);exact ezT hT));(case' hk=>rintro _ h' n' ⟨rfl,rfl,rfl⟩))|((with_reducible apply o_callF (g:=52) w_none);(case ha=>exact ez0);(case hs=>((with_reducible apply qf);(all_goals first|exact ezT hT|((refine VH.more (B:=n) ?_ zm);(repeat' first|exact hv|refine VH.set ?_ zm _)))));(case' hk=>rintro _ h' n' ⟨rfl,rfl,rfl⟩))|((with_reducible first|apply zo1|apply zo2|apply o_guard rfl|apply x_cond|apply k_e1 rfl|apply k_e2 rfl|apply k_e0 rfl|apply k_e3 rfl|apply k_e4 rfl);(case he=>exact ez0);(try case hok=>exact ezO);all_goals try (intro hb;(try simp only [hbs,reduceCtorEq] at hb);try exact ezX))|((with_reducible apply o_undef rfl);(case hb=>exact ez0)))
   all_goals exact sw_flat rfl rfl ⟨rfl,rfl,rfl⟩
 ·rw [if_pos hE]
  obtain ⟨E,hEe⟩:∃ E,okE T t=E:=⟨_,rfl⟩
  simp only [hEe] at qa hE ⊢
  refine enter Try.func22 kz rfl kz rfl rfl rfl ?_
  (repeat' first|refine zcd ?_|intro K' hK|(with_reducible refine zn hK ?_;clear hK)|((with_reducible apply o_callF (g:=36) w_none);(case ha=>exact ez0);(case hs=>((with_reducible apply qa);exact ezT hT));(case' hk=>rintro _ h' n' ⟨rfl,rfl,rfl⟩))|((with_reducible apply o_callF (g:=52) w_none);(case ha=>exact ez0);(case hs=>((with_reducible apply qf);(all_goals first|exact ezT hT|((refine VH.more (B:=n) ?_ zm);(repeat' first|exact hv|refine VH.set ?_ zm _)))));(case' hk=>rintro _ h' n' ⟨rfl,rfl,rfl⟩))|((with_reducible first|apply zo1|apply zo2|apply o_guard rfl|apply x_cond|apply k_e1 rfl|apply k_e2 rfl|apply k_e0 rfl|apply k_e3 rfl|apply k_e4 rfl);(case he=>exact ez0);(try case hok=>exact ezO);all_goals try (intro hb;(try simp only [hbs,reduceCtorEq] at hb);try exact ezX))|((with_reducible apply o_undef rfl);(case hb=>exact ez0)))
  all_goals exact sw_flat rfl rfl ⟨rfl,rfl,rfl⟩
def cntL (g:Nat→V→Nat) (m:Nat):List V→Nat→Nat
 | [],n=>n
 | e :: r,n=>if n≤m then cntL g m r (n+g (m - n) e) else n
def cntF:Nat→Nat→V→Nat
 | 0,_,_=>1
 | f+1,m,v=>cntL (cntF f) m v.l 1
theorem cntL_bnd (g:Nat→V→Nat) (m:Nat) (hg:∀ m2 e,1≤g m2 e∧g m2 e≤m2+1):∀ (l:List V) (n:Nat),n≤m+1→n≤cntL g m l n∧cntL g m l n≤m+1
 | [],n,h=>⟨Nat.le_refl _,h⟩
 | e :: r,n,h=>by
  unfold cntL
  have:=hg (m - n) e
  split
  ·have:=cntL_bnd g m hg r (n+g (m - n) e) zm
   omega
  ·omega
theorem cntF_bnd:∀ (f m:Nat) (v:V),1≤cntF f m v∧cntF f m v≤m+1
 | 0,m,v=>⟨Nat.le_refl _,by show 1≤m+1;omega⟩
 | f+1,m,v=>cntL_bnd (cntF f) m (fun m2 e=>cntF_bnd f m2 e) v.l 1 zm
theorem cntL_sz (f m:Nat) (hf:∀ m2 e,m2<f→cntF f m2 e≤m2→e.sz=cntF f m2 e) (hm:m≤f):∀ (l:List V) (n:Nat),1≤n→cntL (cntF f) m l n≤m→n+V.szs l=cntL (cntF f) m l n
 | [],n,_,_=>rfl
 | e :: r,n,h1,h=>by
  unfold cntL at h ⊢
  have hb:=cntF_bnd f (m - n) e
  split at h
  ·rename_i hn
   rw [if_pos hn]
   have h2:=(cntL_bnd (cntF f) m (fun m2 e=>cntF_bnd f m2 e) r (n+cntF f (m - n) e) zm).1
   have h3:=cntL_sz f m hf hm r (n+cntF f (m - n) e) zm h
   have h4:=hf (m - n) e zm zm
   have e1:V.szs (e :: r)=e.sz+V.szs r:=by rw [V.szs]
   omega
  ·omega
theorem cntF_sz:∀ (f m:Nat) (v:V),m<f→cntF f m v≤m→v.sz=cntF f m v
 | 0,m,v,h,_=>by omega
 | f+1,m,v,h,hc=>by
  have:=cntL_sz f m (fun m2 e a b=>cntF_sz f m2 e a b) zm v.l 1 (Nat.le_refl _) hc
  cases v with
  | mk kd i s l c=>
   show V.sz (.mk kd i s l c)=cntL (cntF f) m l 1
   unfold V.sz
   exact this
theorem cntL_drop (g:Nat→V→Nat) (m:Nat) (l:List V) (n:Nat) {q:Nat} (hq:q<l.length):cntL g m (l.drop q) n=if n≤m then cntL g m (l.drop (q+1)) (n+g (m - n) l[q]) else n:=by
 rw [List.drop_eq_getElem_cons hq]
 rfl
theorem rcount_ev (hk:30000≤k):∀ (f m:Nat) (v:V),m<f→m≤1000→∀ (d cl:Nat) (h:Hp) (n:Nat) (cs:List Value),VH h n v cs →
  SQ k (d+f) cl 17 [.agg ⟨cs⟩,.int .i64 m] h n fun w h' n'=>w = .int .i64 (cntF f m v)∧h=h'∧n=n':=by
 intro f
 induction f with
 | zero=>intro m v h;omega
 | succ f ih=>
 intro m v hmf hm d cl h n cs hv
 rw [show d+(f+1)=d+f+1 from by omega]
 obtain ⟨A1,cc1,rfl,hA1,hl1⟩:=hv.cut
 obtain ⟨vk,vi,vt,l,vc⟩:=v
 simp only [V.kd,V.i,V.s,V.l,V.c] at hl1 hv ⊢
 obtain ⟨R,hR⟩:∃ R,cntF (f+1) m (.mk vk vi vt l vc)=R:=⟨_,rfl⟩
 rw [hR]
 have hR:cntL (cntF f) m l 1=R:=hR
 refine enter Try.func17 kz rfl kz rfl rfl rfl ?_
 (repeat' first|refine zcd ?_|intro K' hK|(with_reducible refine zn hK ?_;clear hK)|fail|((with_reducible first|apply zo1|apply zo2|apply o_guard rfl|apply x_cond|apply k_e1 rfl|apply k_e2 rfl|apply k_e0 rfl|apply k_e3 rfl|apply k_e4 rfl);(case he=>exact ez0);(try case hok=>exact ezO);all_goals try (intro hb;(try simp only [hbs,reduceCtorEq] at hb);try exact ezX))|((with_reducible apply o_undef rfl);(case hb=>exact ez0)))
 refine x_loopF [5,6,7,8,9,10,11,12,13,14,15,16,17,18,19,20,21,22,23,24,25,26,27,28,29] [5,6] (fun r vs=>∃ q c:Nat,r=m+2 - c∧q≤l.length∧q<c∧c≤m+1∧vs=[.int .i64 c,.int .i64 q]∧cntL (cntF f) m (l.drop q) c=R) (m+1) rfl zm ⟨0,1,rfl,by omega,by omega,by omega,ez0,by rw [List.drop_zero];exact hR⟩ ?_
 rintro r g _ ⟨q,c,rfl,hq,hqc,hcm,rfl,hinv⟩
 by_cases hql:q<l.length
 ·by_cases hc:c≤m
  ·obtain ⟨id,off,A2,cc2,rfl,hid,c1,v1⟩:=hl1.at_ hql
   rw [cntL_drop _ _ _ _ hql,if_pos hc] at hinv
   have hb:=cntF_bnd f (m - c) l[q]
   have qf:=fun (cl:Nat) (h6:Hp) (n6:Nat) (cs:List Value) (hv6:VH h6 n6 l[q] cs)=>ih (m - c) l[q] zm zm d cl h6 n6 cs hv6
   obtain ⟨e,he⟩:∃ e,l[q]=e:=⟨_,rfl⟩
   rw [he] at hinv hb
   simp only [he] at c1 v1 qf
   obtain ⟨z,hz⟩:∃ z,cntF f (m - c) e=z:=⟨_,rfl⟩
   rw [hz] at hinv hb
   simp only [hz] at qf
   have hmc:(m:Int) - (c:Int)=((m - c:Nat):Int):=by omega
   (repeat' first|refine zcd ?_|intro K' hK|(with_reducible refine zn hK ?_;clear hK)|((with_reducible apply o_callF (g:=17) w_none);(case ha=>exact ez0);(case hs=>((with_reducible apply qf);exact (v1.set (Nat.le_refl _) _).more zm));(case' hk=>rintro _ h' n' ⟨rfl,rfl,rfl⟩))|((with_reducible first|apply zo1|apply zo2|apply o_guard rfl|apply x_cond|apply k_e1 rfl|apply k_e2 rfl|apply k_e0 rfl|apply k_e3 rfl|apply k_e4 rfl);(case he=>exact ez2 c1 hmc);(try case hok=>exact ezO);all_goals try (intro hb;(try simp only [hbs,reduceCtorEq] at hb);try exact ezX))|((with_reducible apply o_undef rfl);(case hb=>exact ez0)))
   refine k_round (m+2 - (c+z)) zm ⟨⟨rfl,rfl⟩,q+1,c+z,rfl,by omega,by omega,by omega,ez0,hinv⟩
  ·rw [cntL_drop _ _ _ _ hql,if_neg hc] at hinv
   subst hinv
   (repeat' first|refine zcd ?_|intro K' hK|(with_reducible refine zn hK ?_;clear hK)|fail|((with_reducible first|apply zo1|apply zo2|apply o_guard rfl|apply x_cond|apply k_e1 rfl|apply k_e2 rfl|apply k_e0 rfl|apply k_e3 rfl|apply k_e4 rfl);(case he=>exact ez0);(try case hok=>exact ezO);all_goals try (intro hb;(try simp only [hbs,reduceCtorEq] at hb);try exact ezX))|((with_reducible apply o_undef rfl);(case hb=>exact ez0)))
   all_goals exact sw_flat rfl rfl ⟨rfl,rfl,rfl⟩
 ·obtain rfl:q=l.length:=by omega
  rw [List.drop_length] at hinv
  obtain rfl:c=R:=hinv
  (repeat' first|refine zcd ?_|intro K' hK|(with_reducible refine zn hK ?_;clear hK)|fail|((with_reducible first|apply zo1|apply zo2|apply o_guard rfl|apply x_cond|apply k_e1 rfl|apply k_e2 rfl|apply k_e0 rfl|apply k_e3 rfl|apply k_e4 rfl);(case he=>exact ez0);(try case hok=>exact ezO);all_goals try (intro hb;(try simp only [hbs,reduceCtorEq] at hb);try exact ezX))|((with_reducible apply o_undef rfl);(case hb=>exact ez0)))
  all_goals exact sw_flat rfl rfl ⟨rfl,rfl,rfl⟩
end
section
open Go.RowKit
def rvV:Except Int V→V
 | .error _=>.mk 0 0 [] [] false
 | .ok x=>x
def rvE:Except Int V→Int
 | .error e=>e
 | .ok _=>0
def LdU (x:V) (e:Int) (h:Hp) (n:Nat) (v:Value) (h':Hp) (n':Nat):Prop:=∃ A1 cc1,v = .tuple ⟨[.agg ⟨vcell x.kd x.i x.s A1 x.l.length cc1 x.c⟩,.int .i64 e]⟩∧VH h' n' x (vcell x.kd x.i x.s A1 x.l.length cc1 x.c)∧n≤n'∧∀ b,b<n→h'.get b=h.get b
theorem LdV.uni {r:Except Int V} {h h':Hp} {n n':Nat} {v:Value} (hh:LdV r h n v h' n'):LdU (rvV r) (rvE r) h n v h' n':=by
 cases r with
 | error e=>
  obtain ⟨e1, -,e2,e3⟩:=hh
  subst e2
  subst e3
  exact ⟨none,0,e1,.leaf 0 0 [] false none 0 fun _=>rfl,Nat.le_refl _,fun _ _=>rfl⟩
 | ok x=>
  obtain ⟨cs,e1,hf,a,b⟩:=hh
  obtain ⟨A1,cc1,rfl⟩:=hf.cells
  exact ⟨A1,cc1,e1,hf.vh,a,b⟩
end
section
open Go.RowKit
def tk:Nat→Code→Code
 | n+1,.seq x y=>.seq x (tk n y)
 | _,_=>.skip
def dr:Nat→Code→Code
 | n+1,.seq x y=>dr n y
 | _,c=>c
def app:Code→Code→Code
 | .seq x y,c=>app x (app y c)
 | x,c=>.seq x c
def hd:Code→Option Code
 | .seq x _=>some x
 | _=>none
def flatT:Value→Bool
 | .tuple cs=>cs.toList.all flat1
 | v=>flat1 v
def bz (l:List Nat):List Value:=l.map fun n=>.int .u8 (Int.ofNat n)
def bodyOf (P:Program) (f:FuncId):Code:=match P.funcs[f]? with
 | some fn=>fn.body.getD .skip
 | none=>.skip
def ntOf (P:Program) (f:FuncId):Nat:=match P.funcs[f]? with
 | some fn=>fn.ntmps
 | none=>0
section
variable {P:Program} {F:CallE} {k lim S:Nat} {φ:Mp}
theorem cut_at (n:Nat):∀ {c:Code} {st st1:St} {r:Option (Ex × St)},acode P F k lim (tk n c) st=some (0,st1)→acode P F k lim (dr n c) st1=r→acode P F k lim c st=r:=by
 induction n with
 | zero=>
  intro c st st1 r h1 h2
  have e:st=st1:=by
   have h1':(some (0,st):Option (Ex × St))=some (0,st1):=h1
   injection h1' with h1'
   injection h1'
  subst e
  exact h2
 | succ n ih=>
  intro c st st1 r h1 h2
  cases c with
  | seq x y=>
   change (acode P F k lim x st).bind (fun r=>bif Nat.beq r.1 0 then acode P F k lim (tk n y) r.2 else some r)=some (0,st1) at h1
   show (acode P F k lim x st).bind (fun r=>bif Nat.beq r.1 0 then acode P F k lim y r.2 else some r)=r
   obtain ⟨r1,h3,h4⟩:=bind_some h1
   rw [h3]
   dsimp only [Option.bind_some]
   cases hb:Nat.beq r1.1 0 with
   | true=>
    rw [hb] at h4
    exact ih h4 h2
   | false=>
    rw [hb] at h4
    injection h4 with h4
    rw [h4] at hb
    cases hb
  | _=>
   have e:st=st1:=by
    have h1':(some (0,st):Option (Ex × St))=some (0,st1):=h1
    injection h1' with h1'
    injection h1'
   subst e
   exact h2
theorem seq_assoc (x y z:Code):acode P F k lim (.seq x (.seq y z))=acode P F k lim (.seq (.seq x y) z):=by
 funext st
 show (acode P F k lim x st).bind (fun r=>bif Nat.beq r.1 0 then (acode P F k lim y r.2).bind (fun r=>bif Nat.beq r.1 0 then acode P F k lim z r.2 else some r) else some r) =
  ((acode P F k lim x st).bind (fun r=>bif Nat.beq r.1 0 then acode P F k lim y r.2 else some r)).bind (fun r=>bif Nat.beq r.1 0 then acode P F k lim z r.2 else some r)
 cases acode P F k lim x st with
 | none=>rfl
 | some r=>
  dsimp only [Option.bind_some]
  cases hb:Nat.beq r.1 0 with
  | true=>rfl
  | false=>simp [hb]
theorem app_eq:∀ (x y:Code),acode P F k lim (app x y)=acode P F k lim (.seq x y):=by
 intro x
 induction x with
 | seq a b iha ihb=>
  intro y
  show acode P F k lim (app a (app b y))=_
  rw [iha,← seq_assoc]
  have:=ihb y
  funext st
  show (acode P F k lim a st).bind (fun r=>bif Nat.beq r.1 0 then acode P F k lim (app b y) r.2 else some r)=_
  rw [this]
  rfl
 | _=>intro y;rfl
theorem flat_law {c:Code} {st:St} {r:Option (Ex × St)} (h:acode P F k lim (app c .skip) st=r):acode P F k lim c st=r:=by
 rw [app_eq] at h
 rw [← h]
 show _=(acode P F k lim c st).bind (fun r=>bif Nat.beq r.1 0 then some (0,r.2) else some r)
 cases acode P F k lim c st with
 | none=>rfl
 | some r=>
  obtain ⟨ex,s⟩:=r
  dsimp only [Option.bind_some]
  cases ex <;> rfl
theorem VLB.flat_eq:∀ {l m:List Value},l.all flat1=true→VL (VB φ) l m→m=l
 | [],[],_,_=>rfl
 | a :: l,b :: m,h,hv=>by
  simp only [List.all_cons,Bool.and_eq_true] at h
  rw [(hv.1.vc).flat_eq h.1,VLB.flat_eq h.2 hv.2]
 | [],_ :: _,_,h=>h.elim
 | _ :: _,[],_,h=>h.elim
theorem VLB.flat_refl:∀ {l:List Value},l.all flat1=true→VL (VB φ) l l
 | [],_=>trivial
 | a :: l,h=>by
  simp only [List.all_cons,Bool.and_eq_true] at h
  exact ⟨VA.vb (VA.flat h.1),VLB.flat_refl h.2⟩
theorem flatT_eq {u v:Value} (hf:flatT u=true) (h:VC φ u v):v=u:=by
 cases u with
 | tuple cs=>
  obtain ⟨ds,rfl,h2⟩:=h
  have:=VLB.flat_eq (show cs.toList.all flat1=true from hf) h2
  congr 1
  exact Array.toList_inj.1 this
 | _=>exact VC.flat_eq (show flat1 _=true from hf) h
theorem flatT_refl {u:Value} (hf:flatT u=true):VC φ u u:=by
 cases u with
 | tuple cs=>exact ⟨cs,rfl,VLB.flat_refl (show cs.toList.all flat1=true from hf)⟩
 | _=>exact VB.vc (VA.vb (VA.flat (show flat1 _=true from hf)))
noncomputable def tabGet (l:List (FuncId × Value)) (g:FuncId):Option Value:=List.rec none (fun x _ ih=>bif Nat.beq x.1 g then some x.2 else ih) l
theorem tabGet_some:∀ {l:List (FuncId × Value)} {g:FuncId} {v:Value},tabGet l g=some v→(g,v)∈l
 | [],g,v,h=>by cases h
 | x :: l,g,v,h=>by
  change (bif Nat.beq x.1 g then some x.2 else tabGet l g)=some v at h
  cases hb:Nat.beq x.1 g with
  | true=>
   rw [hb] at h
   injection h with h
   have:=Nat.eq_of_beq_eq_true hb
   subst h;subst this
   exact List.mem_cons_self
  | false=>
   rw [hb] at h
   exact List.mem_cons_of_mem _ (tabGet_some h)
noncomputable def tab (F:CallE) (l:List (FuncId × Value)):CallE:=fun cl g as' h n=>match as' with
 | []=>Option.rec (F cl g [] h n) (fun v=>some (v,h,n)) (tabGet l g)
 | a :: as'=>F cl g (a :: as') h n
theorem tab_nil (F:CallE):tab F []=F:=by funext cl g as' h n;cases as' <;> rfl
theorem cut_law {W:FuncId→Bool} {F:CallE} {f:FuncId} {c:Code} {nt:Nat} {rs:List ResultVar} {ex:Nat} {st0 st:St} {v:Value} (hg:goodF P f=some (c,nt,rs)) (hW:W f=false) (hd:dform c=none)
  (h0:(⟨List.replicate nt undef,[],0⟩:St)=st0) (he:acode P F k 0 c st0=some (ex,st)) (hx:Nat.ble ex 1=true) (hr:aresults P st.h rs st.a=some v) (ht:(sweep [] 0 (v,st.h,st.n)).1=v) :
  ∃ h n,afunc P F W k 0 f [] [] 0=some (v,h,n):=by
 subst h0
 have h1:arun P F k 0 f [] [] 0=some (v,st.h,st.n):=by
  unfold arun
  rw [hg]
  dsimp only [Option.bind_some]
  rw [hd]
  show arun1 P F k 0 (c,nt,rs) [] [] 0=_
  unfold arun1
  dsimp only
  rw [show ([] ++ List.replicate (nt - List.length ([]:List Value)) undef:List Value)=List.replicate nt undef from by simp,he]
  dsimp only [Option.bind_some]
  rw [hx,hr]
  rfl
 have h2:afunc P F W k 0 f [] [] 0=some (sweep [] 0 (v,st.h,st.n)):=by
  unfold afunc
  rw [hW,h1]
  rfl
 rw [h2]
 generalize sweep [] 0 (v,st.h,st.n)=r at ht
 obtain ⟨x,y,z⟩:=r
 have ht':x=v:=ht
 exact ⟨y,z,by rw [ht']⟩
end
end
section
open Go.RowKit
section
variable {P:Program} {F:CallE}
theorem tab_both2 {l:List (FuncId × Value)} (hl:∀ x∈l,flatT x.2=true∧∃ F0 h0 n0,SoundF P F0∧F0 0 x.1 [] [] 0=some (x.2,h0,n0)) (hF:SoundF P F) (hF2:StatF F):SoundF P (tab F l)∧StatF (tab F l):=by
 constructor
 ·intro cl g ar h n v h' n' he hg hcl φ w S cargs hv m
  cases ar with
  | cons a ar=>exact hF cl g (a :: ar) h n v h' n' he hg hcl φ w S cargs hv m
  | nil=>
   change (Option.rec (F cl g [] h n) (fun v=>some (v,h,n)) (tabGet l g):Option (Value × Hp × Nat))=_ at he
   cases hb:tabGet l g with
   | none=>rw [hb] at he;exact hF cl g [] h n v h' n' he hg hcl φ w S cargs hv m
   | some u=>
    rw [hb] at he
    injection he with he
    injection he with e1 he
    injection he with e2 e3
    subst e1;subst e2;subst e3
    obtain ⟨hfl,F0,h0,n0,hF0,hr⟩:=hl _ (tabGet_some hb)
    have hca:cargs=[]:=by
     cases cargs with
     | nil=>rfl
     | cons _ _=>exact hv.elim
    subst hca
    refine Calls.mono (hF0 0 g [] [] 0 _ h0 n0 hr hg (Nat.le_refl _) (fun _=>none) w w.heap.size [] trivial ⟨fun _ _=>rfl,fun id g c hp=>(by cases hp),fun id id' g c c' _ hp=>(by cases hp),fun id _=>(by unfold Hp.get;rw [lget_eq];simp),Nat.le_refl _⟩) fun e w' hh=>?_
    obtain ⟨v',φ',rfl,h1,f,m0⟩:=hh
    obtain rfl:=flatT_eq hfl h1
    have hold:∀ g,g<w.heap.size→w'.heap[g]?=w.heap[g]?:=fun g hg=>f.fr g hg fun id c h2=>by omega
    have fr:Fr φ φ h h n n (fun id=>cl≤id) w w':=⟨fun _ _=>rfl,fun g hg _=>hold g hg,fun _ _ _=>rfl,fun id g c h1 h2=>by omega,fun id id' g c c' h1 h2=>by omega,fun _ _ hd=>hd,fun _ _ _=>rfl,Nat.le_refl _,f.sz,f.os,f.tape,f.output⟩
    refine ⟨_,φ,rfl,flatT_refl hfl,fr,m.step fr m.hb fun id g c _ hp=>?_⟩
    obtain ⟨o1,o2,o3⟩:=m.obj id g c hp
    exact ⟨o1.mono (le_.refl _) (hold g o3),o2,Nat.lt_of_lt_of_le o3 f.sz⟩
 ·intro cl g ar h n v h' n' he hcl hb
  cases ar with
  | cons a ar=>exact hF2 cl g (a :: ar) h n v h' n' he hcl hb
  | nil=>
   change (Option.rec (F cl g [] h n) (fun v=>some (v,h,n)) (tabGet l g):Option (Value × Hp × Nat))=_ at he
   cases hb':tabGet l g with
   | none=>rw [hb'] at he;exact hF2 cl g [] h n v h' n' he hcl hb
   | some u=>
    rw [hb'] at he
    injection he with he
    injection he with e1 he
    injection he with e2 e3
    subst e1;subst e2;subst e3
    exact Stat.same hb
variable {cl:Nat} {g:FuncId} {a:Value} {ar:List Value} {h:Hp} {n k d:Nat} {W:FuncId→Bool} {Φ:Value→Hp→Nat→Prop} {l:List (FuncId × Value)}
theorem Sp.tab (hs:Sp P F cl g (a :: ar) h n Φ):Sp P (Ce.tab F l) cl g (a :: ar) h n Φ:=hs
theorem Sp.known {v:Value} (hg:(goodF P g).isSome=true) (ht:tabGet l g=some v):Sp P (Ce.tab F l) cl g [] h n fun v' h' n'=>v'=v∧h'=h∧n'=n:=by
 refine ⟨hg,v,h,n,?_,rfl,rfl,rfl⟩
 show (Option.rec (F cl g [] h n) (fun v=>some (v,h,n)) (tabGet l g):Option (Value × Hp × Nat))=_
 rw [ht]
theorem calls_tabA (hm:P.follows .mixedOrders=true) {l:List (FuncId × Value)} (hl:∀ x∈l,flatT x.2=true∧∃ (W0:FuncId→Bool) (k0 d0:Nat) (h0:Hp) (n0:Nat),acall P W0 k0 d0 0 x.1 [] [] 0=some (x.2,h0,n0)) {args vs:List Value} {w:World} (ha:args.map (visV w.heap.size)=vs)
  (hs:Sp P (afunc P (Ce.tab (acall P W k d) l) W k) w.heap.size g vs (absW w) w.heap.size fun v _ _=>v = .bool true):Calls P g ⟨args⟩ w fun e w'=>e = .returned (.bool true)∧Below w.heap.size w w':=by
 subst ha
 obtain ⟨hg,v,h',n',hr,rfl⟩:=hs
 have both:=acall_both (P:=P) hm W k d
 have bt:=tab_both2 (l:=l) (fun x hx=>by
  obtain ⟨h1,W0,k0,d0,h0,n0,h2⟩:=hl x hx
  exact ⟨h1,_,h0,n0,(acall_both (P:=P) hm W0 k0 d0).1,h2⟩) both.1 both.2
 refine Calls.mono (afunc_sound hm bt.1 bt.2 W k w.heap.size g _ _ _ _ h' n' hr (fun h0=>by rw [h0] at hg;cases hg) (Nat.le_refl _) (here w.heap.size) w 0 args (VL.visV _ _) (absW_mem P w)) fun e w' hh=>?_
 obtain ⟨v',φ',rfl,h1,f,m⟩:=hh
 obtain rfl:=h1.bool
 exact ⟨rfl,f.os,f.tape,f.output,f.sz,fun g hg=>f.fr g hg fun id c h1 h2=>by omega⟩
end
end
section
open Go.RowKit
noncomputable def tb15:List (FuncId × Value):=[(25,.bool true)]
theorem alive15 (F:CallE) (cl:Nat) (h:Hp) (n:Nat):Sp Try.prog (tab F tb15) cl 25 [] h n fun v h' n'=>v = .bool true∧h=h'∧n=n':=
 (Sp.known kz rfl).mono fun _ _ _ hp=>⟨hp.1,hp.2.1.symm,hp.2.2.symm⟩
end
end Go.Proofs.Ytcpkdjikembpnaa.Ce
