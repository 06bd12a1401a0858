/- Parts of the proof of ValueBack: Iz, Op, Qz, Ot. No condition of its own. -/
import Derived.ProofKit
import Derived.Lib.SmallJoins
import Derived.OpenShut
import Derived.ChangeOld
import Derived.SliceStrings
import Derived.Deep.SlicePairs
import Derived.Test.YtcpkdjikembpnaaWaaa
import Derived.Test.YtcpkdjikembpnaaWaai
import Derived.Test.YtcpkdjikembpnaaWaal
import Derived.Test.YtcpkdjikembpnaaWaar
import Derived.Test.YtcpkdjikembpnaaWabc
import Derived.Test.YtcpkdjikembpnaaWabf
import Derived.Test.YtcpkdjikembpnaaWabh
set_option linter.unusedVariables false
set_option linter.unusedSimpArgs false
set_option maxRecDepth 1000000
set_option maxHeartbeats 4000000
namespace Go.Proofs.Ytcpkdjikembpnaa.Ce
open Go.RowKit
theorem sp_fixb {P:Program} {F:CallE} {cl:Nat} {g:FuncId} {ar:List Value} {h:Hp} {m:Nat} {Φ:Value→Hp→Nat→Prop} (hs:Sp P F cl g ar h m Φ):∃ v h' n',Φ v h' n'∧Sp P F cl g ar h m fun v2 h2 n2=>v2=v∧h2=h'∧n2=n':=by
 obtain ⟨hg,v,h',n',hr,hp⟩:=hs
 exact ⟨v,h',n',hp,hg,v,h',n',hr,rfl,rfl,rfl⟩
theorem cnt_bd5 {v:V} (h:cntF 501 500 v≤500):Bd 500 v:=by
 have:=cntF_sz 501 500 v zm h
 exact Bd.of_sz 500 v zm zm
theorem RdH.pre {h:Hp} {B:Nat} {A:Option Addr} {xs ys:List UInt8} (hr:RdH h B A (bv (xs ++ ys))):RdH h B A (bv xs):=by
 refine ⟨hr.1,?_⟩
 rcases hr.2 with e|⟨id,j,e,hk⟩
 ·left
  have h1:(xs ++ ys).length=0:=by rw [← bv_length,e];rfl
  have h0:xs=[]:=(List.append_eq_nil_iff.1 (List.length_eq_zero_iff.1 h1)).1
  rw [h0]
  rfl
 ·refine .inr ⟨id,j,e,fun k v hv=>hk k v ?_⟩
  rw [bv_app]
  have hl:k<(bv xs).length:=by
   rcases Nat.lt_or_ge k (bv xs).length with h|h
   ·exact h
   ·rw [List.getElem?_eq_none h] at hv;cases hv
  rw [List.getElem?_append_left hl]
  exact hv
theorem sl_pre {A:Option Addr} {m c j:Nat} (hA:(A=none∧m=0)∨∃ id,A=some ⟨id,0,none⟩) (hj:j≤m) (h:Hp) (n:Nat):mSlice Try.prog 27 (.slice A m c) none (some (.int .i64 (j:Int))) h n=some ⟨.slice A j j,h,n,[],[]⟩:=by
 have h1:tyElem Try.prog 27=some 5:=by kernel_rfl
 have h2:tySize Try.prog 5=some 1:=by kernel_rfl
 have h3:Nat.ble j m=true:=Nat.ble_eq_true_of_le hj
 rcases hA with ⟨rfl,rfl⟩|⟨id,rfl⟩
 ·obtain rfl:j=0:=by omega
  unfold mSlice
  dsimp only
  rw [h1,Option.bind_some,h2]
  rfl
 ·unfold mSlice
  dsimp only
  rw [h1,Option.bind_some,h2]
  show (bif Nat.ble 0 j && Nat.ble j m && Nat.blt 0 1 then mV (.slice (some ⟨id,0+0*1,none⟩) (j - 0) (j - 0)) h n else none)=_
  rw [h3]
  cases j <;> rfl
variable (k d cl:Nat) (h:Hp) (n:Nat)
theorem lbk_out (hk:30000≤k) (TA A:Option Addr) (T:List Tp) (hs:List UInt8) (tc c:Nat) (b lim t dp:Int) (v:V) (cs:List Value) (hv:VH h n v cs) (hm:hs.length≤9223372036854775807) (B4:Bool) (hout:B4=true∨greatB hs.length=true∨chkB b hs.length lim≠0∨500<cntF 501 500 v) (hS1:Sp Try.prog (tab (acall Try.prog WW k (d+3100)) tb15) n 9 [.slice TA T.length tc] ((h.set n (.row 29 false [.int .u64 b,.slice A hs.length c])).set (n+1) (.row 32 false cs)) (n+2) fun v2 h2 n2=>v2 = .bool B4∧((h.set n (.row 29 false [.int .u64 b,.slice A hs.length c])).set (n+1) (.row 32 false cs))=h2∧n+2=n2) :
  Sp Try.prog (afunc Try.prog (tab (acall Try.prog WW k (d+3100)) tb15) WW k) cl 5 [.slice TA T.length tc,.agg ⟨[.int .u64 b,.slice A hs.length c]⟩,.int .i64 lim,.int .i64 t,.agg ⟨cs⟩,.int .i64 dp] h n fun v h' n'=>v = .bool true:=by
 have hal2:=fun h6 n6=>alive15 (acall Try.prog WW k (d+3100)) n h6 n6
 have qg:=fun (h6:Hp) (n6:Nat)=>Sp.tab (l:=tb15) ((great_ev k (d+3099) n h6 n6 b A hs.length c).mono (Φ':=fun v2 h2 n2=>v2 = .bool (greatB hs.length)∧h6=h2∧n6=n2) fun _ _ _ hp=>⟨hp.1,hp.2.1.symm,hp.2.2.symm⟩)
 have ql:=fun (h6:Hp) (n6:Nat)=>Sp.tab (l:=tb15) ((rlimit_ev k (d+3098) n h6 n6 b A hs.length c lim hm).mono (Φ':=fun v2 h2 n2=>v2 = .int .i64 (chkB b hs.length lim)∧h6=h2∧n6=n2) fun _ _ _ hp=>⟨hp.1,hp.2.1.symm,hp.2.2.symm⟩)
 have qc:=fun (h6:Hp) (n6:Nat) (hv6:VH h6 n6 v cs)=>Sp.tab (l:=tb15) (rcount_ev k hk 501 500 v zm zm (d+2599) n h6 n6 cs hv6)
 obtain ⟨A1,cc1,rfl, -, -⟩:=hv.cut
 have qc:∀ (h6:Hp) (n6:Nat),VH h6 n6 v (vcell v.kd v.i v.s A1 v.l.length cc1 v.c)→Sp Try.prog (tab (acall Try.prog WW k (d+3100)) tb15) n 17 [.agg ⟨vcell v.kd v.i v.s A1 v.l.length cc1 v.c⟩,.int .i64 500] h6 n6 fun w' h' n'=>w' = .int .i64 (cntF 501 500 v)∧h6=h'∧n6=n':=qc
 obtain ⟨G,hG⟩:∃ G,greatB hs.length=G:=⟨_,rfl⟩
 obtain ⟨C1,hC1⟩:∃ C,cntF 501 500 v=C:=⟨_,rfl⟩
 obtain ⟨L1,hL1⟩:∃ C,chkB b hs.length lim=C:=⟨_,rfl⟩
 simp only [hG] at hout qg
 simp only [hC1] at hout qc
 simp only [hL1] at hout ql
 clear hG hC1 hL1
 cases B4 <;> cases G
 all_goals
  try simp only [Bool.false_eq_true,reduceCtorEq,false_or] at hout
  refine enterS Try.func5 kz rfl kz rfl rfl rfl ?_
  (repeat' first|refine zcd ?_|intro K' hK|(with_reducible refine zn hK ?_;clear hK)|((with_reducible apply o_callF (g:=25) w_none);(case ha=>exact ez0);(case hs=>(exact hal2 _ _));(case' hk=>rintro _ h' n' ⟨rfl,rfl,rfl⟩))|((with_reducible apply o_callF (g:=9) w_none);(case ha=>exact ez0);(case hs=>(exact hS1));(case' hk=>rintro _ h' n' ⟨rfl,rfl,rfl⟩))|((with_reducible apply o_callF (g:=16) w_none);(case ha=>exact ez0);(case hs=>(exact qg _ _));(case' hk=>rintro _ h' n' ⟨rfl,rfl,rfl⟩))|((with_reducible apply o_callF (g:=26) w_none);(case ha=>exact ez0);(case hs=>(exact ql _ _));(case' hk=>rintro _ h' n' ⟨rfl,rfl,rfl⟩))|((with_reducible apply o_callF (g:=17) w_none);(case ha=>exact ez0);(case hs=>((with_reducible apply qc);((refine VH.more (B:=n) ?_ zm);(repeat' first|exact hv|refine VH.set ?_ zm _);done)));(case' hk=>rintro _ h' n' ⟨rfl,rfl,rfl⟩))|((with_reducible first|apply zo1|apply zo2|apply o_guard rfl|apply x_cond|apply k_e1 rfl|apply k_e2 rfl|apply k_e0 rfl|apply k_e3 rfl|apply k_e4 rfl);(case he=>exact ez0);(try case hok=>exact ezO);all_goals try (intro hb;(try simp only [hbs,reduceCtorEq] at hb);try exact ezX))|((with_reducible apply o_undef rfl);(case hb=>exact ez0)))
  all_goals first|exact sw_flat rfl rfl rfl|(exfalso;omega)
theorem lbk_chk (hk:30000≤k) (TA A:Option Addr) (T:List Tp) (hs:List UInt8) (tc c:Nat) (b lim t dp:Int) (v:V) (cs:List Value) (hv:VH h n v cs) (hT:TabH h n TA T) (hg4:T.length≤40∧∀ t∈T,t.fs.length≤20) (hm:hs.length≤9223372036854775807) (hgr:greatB hs.length=false) (hch:chkB b hs.length lim=0) (hcv:cntF 501 500 v≤500) (hout:chkV T 500 t v≠0∨dp<0∨3<dp) (B4:Bool) (hB4:B4=false) (hS1:Sp Try.prog (tab (acall Try.prog WW k (d+3100)) tb15) n 9 [.slice TA T.length tc] ((h.set n (.row 29 false [.int .u64 b,.slice A hs.length c])).set (n+1) (.row 32 false cs)) (n+2) fun v2 h2 n2=>v2 = .bool B4∧((h.set n (.row 29 false [.int .u64 b,.slice A hs.length c])).set (n+1) (.row 32 false cs))=h2∧n+2=n2) :
  Sp Try.prog (afunc Try.prog (tab (acall Try.prog WW k (d+3100)) tb15) WW k) cl 5 [.slice TA T.length tc,.agg ⟨[.int .u64 b,.slice A hs.length c]⟩,.int .i64 lim,.int .i64 t,.agg ⟨cs⟩,.int .i64 dp] h n fun v h' n'=>v = .bool true:=by
 have hST:∀ t∈T,t.fs.length≤20000:=fun t ht=>by have:=hg4.2 t ht;omega
 have hmm:T.length≤9223372036854775807:=by omega
 subst hB4
 have bv1:=cnt_bd5 hcv
 have hal2:=fun h6 n6=>alive15 (acall Try.prog WW k (d+3100)) n h6 n6
 have qg:=fun (h6:Hp) (n6:Nat)=>Sp.tab (l:=tb15) ((great_ev k (d+3099) n h6 n6 b A hs.length c).mono (Φ':=fun v2 h2 n2=>v2 = .bool (greatB hs.length)∧h6=h2∧n6=n2) fun _ _ _ hp=>⟨hp.1,hp.2.1.symm,hp.2.2.symm⟩)
 have ql:=fun (h6:Hp) (n6:Nat)=>Sp.tab (l:=tb15) ((rlimit_ev k (d+3098) n h6 n6 b A hs.length c lim hm).mono (Φ':=fun v2 h2 n2=>v2 = .int .i64 (chkB b hs.length lim)∧h6=h2∧n6=n2) fun _ _ _ hp=>⟨hp.1,hp.2.1.symm,hp.2.2.symm⟩)
 have qc:=fun (h6:Hp) (n6:Nat) (hv6:VH h6 n6 v cs)=>Sp.tab (l:=tb15) (rcount_ev k hk 501 500 v zm zm (d+2599) n h6 n6 cs hv6)
 have qr:=fun (h6:Hp) (n6:Nat) (hT6:TabH h6 n6 TA T) (hv6:VH h6 n6 v cs)=>Sp.tab (l:=tb15) (rchk15_ev k (d+2587) n h6 n6 hk TA T tc hT6 hST hmm 500 t v bv1 cs hv6)
 obtain ⟨A1,cc1,rfl, -, -⟩:=hv.cut
 have qc:∀ (h6:Hp) (n6:Nat),VH h6 n6 v (vcell v.kd v.i v.s A1 v.l.length cc1 v.c)→Sp Try.prog (tab (acall Try.prog WW k (d+3100)) tb15) n 17 [.agg ⟨vcell v.kd v.i v.s A1 v.l.length cc1 v.c⟩,.int .i64 500] h6 n6 fun w' h' n'=>w' = .int .i64 (cntF 501 500 v)∧h6=h'∧n6=n':=qc
 have qr:∀ (h6:Hp) (n6:Nat),TabH h6 n6 TA T→VH h6 n6 v (vcell v.kd v.i v.s A1 v.l.length cc1 v.c)→Sp Try.prog (tab (acall Try.prog WW k (d+3100)) tb15) n 22 [.slice TA T.length tc,.int .i64 t,.agg ⟨vcell v.kd v.i v.s A1 v.l.length cc1 v.c⟩] h6 n6 fun w' h' n'=>w' = .int .i64 (chkV T 500 t v)∧h6=h'∧n6=n':=qr
 obtain ⟨C1,hC1⟩:∃ C,cntF 501 500 v=C:=⟨_,rfl⟩
 obtain ⟨K1,hK1⟩:∃ C,chkV T 500 t v=C:=⟨_,rfl⟩
 simp only [hgr] at qg
 simp only [hch] at ql
 simp only [hC1] at hcv qc
 simp only [hK1] at hout qr
 clear hC1 hK1
 refine enterS Try.func5 kz rfl kz rfl rfl rfl ?_
 (repeat' first|refine zcd ?_|intro K' hK|(with_reducible refine zn hK ?_;clear hK)|((with_reducible apply o_callF (g:=25) w_none);(case ha=>exact ez0);(case hs=>(exact hal2 _ _));(case' hk=>rintro _ h' n' ⟨rfl,rfl,rfl⟩))|((with_reducible apply o_callF (g:=9) w_none);(case ha=>exact ez0);(case hs=>(exact hS1));(case' hk=>rintro _ h' n' ⟨rfl,rfl,rfl⟩))|((with_reducible apply o_callF (g:=16) w_none);(case ha=>exact ez0);(case hs=>(exact qg _ _));(case' hk=>rintro _ h' n' ⟨rfl,rfl,rfl⟩))|((with_reducible apply o_callF (g:=26) w_none);(case ha=>exact ez0);(case hs=>(exact ql _ _));(case' hk=>rintro _ h' n' ⟨rfl,rfl,rfl⟩))|((with_reducible apply o_callF (g:=17) w_none);(case ha=>exact ez0);(case hs=>((with_reducible apply qc);((refine VH.more (B:=n) ?_ zm);(repeat' first|exact hv|refine VH.set ?_ zm _);done)));(case' hk=>rintro _ h' n' ⟨rfl,rfl,rfl⟩))|((with_reducible apply o_callF (g:=22) w_none);(case ha=>exact ez0);(case hs=>((with_reducible apply qr);(all_goals first|((refine TabH.more (B:=n) ?_ zm);(repeat' first|exact hT|refine TabH.set ?_ zm _))|((refine VH.more (B:=n) ?_ zm);(repeat' first|exact hv|refine VH.set ?_ zm _);done))));(case' hk=>rintro _ h' n' ⟨rfl,rfl,rfl⟩))|((with_reducible first|apply zo1|apply zo2|apply o_guard rfl|apply x_cond|apply k_e1 rfl|apply k_e2 rfl|apply k_e0 rfl|apply k_e3 rfl|apply k_e4 rfl);(case he=>exact ez0);(try case hok=>exact ezO);all_goals try (intro hb;(try simp only [hbs,reduceCtorEq] at hb);try exact ezX))|((with_reducible apply o_undef rfl);(case hb=>exact ez0)))
 all_goals first|exact sw_flat rfl rfl rfl|(exfalso;omega)
theorem lbk_in (hk:30000≤k) (TA A:Option Addr) (T:List Tp) (hs:List UInt8) (tc c:Nat) (b lim t dp:Int) (v:V) (cs:List Value) (hv:VH h n v cs) (hI:∀ N,VI N v) (hT:TabH h n TA T) (hg4:T.length≤40∧∀ t∈T,t.fs.length≤20) (hr:RdH h n A (bv hs)) (hc:A=none→c=0) (hm:hs.length≤9223372036854775807) (hgr:greatB hs.length=false) (hch:chkB b hs.length lim=0) (hcv:cntF 501 500 v≤500) (hck:chkV T 500 t v=0) (hdp:0≤dp∧dp≤3) (B4:Bool) (hB4:B4=false) (hS1:Sp Try.prog (tab (acall Try.prog WW k (d+3100)) tb15) n 9 [.slice TA T.length tc] ((h.set n (.row 29 false [.int .u64 b,.slice A hs.length c])).set (n+1) (.row 32 false cs)) (n+2) fun v2 h2 n2=>v2 = .bool B4∧((h.set n (.row 29 false [.int .u64 b,.slice A hs.length c])).set (n+1) (.row 32 false cs))=h2∧n+2=n2) :
  Sp Try.prog (afunc Try.prog (tab (acall Try.prog WW k (d+3100)) tb15) WW k) cl 5 [.slice TA T.length tc,.agg ⟨[.int .u64 b,.slice A hs.length c]⟩,.int .i64 lim,.int .i64 t,.agg ⟨cs⟩,.int .i64 dp] h n fun v h' n'=>v = .bool true:=by
 have hST:∀ t∈T,t.fs.length≤20000:=fun t ht=>by have:=hg4.2 t ht;omega
 have hmm:T.length≤9223372036854775807:=by omega
 subst hB4
 have bv1:=cnt_bd5 hcv
 obtain ⟨rfl,h8,hhl,hl0,hl1⟩:=chkB_ok hch
 have hal2:=fun h6 n6=>alive15 (acall Try.prog WW k (d+3100)) n h6 n6
 have qg:=fun (h6:Hp) (n6:Nat)=>Sp.tab (l:=tb15) ((great_ev k (d+3099) n h6 n6 65536 A hs.length c).mono (Φ':=fun v2 h2 n2=>v2 = .bool (greatB hs.length)∧h6=h2∧n6=n2) fun _ _ _ hp=>⟨hp.1,hp.2.1.symm,hp.2.2.symm⟩)
 have ql:=fun (h6:Hp) (n6:Nat)=>Sp.tab (l:=tb15) ((rlimit_ev k (d+3098) n h6 n6 65536 A hs.length c lim hm).mono (Φ':=fun v2 h2 n2=>v2 = .int .i64 (chkB 65536 hs.length lim)∧h6=h2∧n6=n2) fun _ _ _ hp=>⟨hp.1,hp.2.1.symm,hp.2.2.symm⟩)
 have qc:=fun (h6:Hp) (n6:Nat) (hv6:VH h6 n6 v cs)=>Sp.tab (l:=tb15) (rcount_ev k hk 501 500 v zm zm (d+2599) n h6 n6 cs hv6)
 have qr:=fun (h6:Hp) (n6:Nat) (hT6:TabH h6 n6 TA T) (hv6:VH h6 n6 v cs)=>Sp.tab (l:=tb15) (rchk15_ev k (d+2587) n h6 n6 hk TA T tc hT6 hST hmm 500 t v bv1 cs hv6)
 have hE:okE T t=0:=by
  unfold chkV at hck
  by_cases hE:okE T t=0
  ·exact hE
  ·rw [if_pos hE] at hck;exact hck
 obtain ⟨x,rfl,ho⟩:=okE_0 hE
 have hfit:fitP T 500 x v 3=true:=by
  unfold chkV at hck
  rw [if_neg (not_not_intro hE),Int.toNat_natCast] at hck
  by_cases hF:fitP T 500 x v 3=true
  ·exact hF
  ·rw [if_neg hF] at hck;cases hck
 have qs:=fun (h6:Hp) (n6:Nat) (hT6:TabH h6 n6 TA T) (hv6:VH h6 n6 v cs) (hr6:RdH h6 n6 A (bv hs))=>Sp.tab (l:=tb15) (vstore2_ev k (d+588) n h6 n6 hk TA T tc hT6 hST hmm lim 500 x v bv1 cs hv6 65536 A c hs hr6 hc zm)
 have hR:storeR T lim 500 65536 hs x v=storeP T lim 500 hs x v:=by
  unfold storeR
  rw [if_neg (not_not_intro hE),if_neg (not_not_intro hch),Int.toNat_natCast,if_pos hfit]
 have hgrow:=storeP_grow (lim:=lim) 500 x v 3 hs ho hfit hch
 have hsok:=storeP_ok (lim:=lim) 500 x v 3 hs ho hfit zm
 have hbd:=ho.bnd
 obtain ⟨A1,cc1,rfl, -, -⟩:=hv.cut
 have qc:∀ (h6:Hp) (n6:Nat),VH h6 n6 v (vcell v.kd v.i v.s A1 v.l.length cc1 v.c)→Sp Try.prog (tab (acall Try.prog WW k (d+3100)) tb15) n 17 [.agg ⟨vcell v.kd v.i v.s A1 v.l.length cc1 v.c⟩,.int .i64 500] h6 n6 fun w' h' n'=>w' = .int .i64 (cntF 501 500 v)∧h6=h'∧n6=n':=qc
 have qr:∀ (h6:Hp) (n6:Nat),TabH h6 n6 TA T→VH h6 n6 v (vcell v.kd v.i v.s A1 v.l.length cc1 v.c)→Sp Try.prog (tab (acall Try.prog WW k (d+3100)) tb15) n 22 [.slice TA T.length tc,.int .i64 x,.agg ⟨vcell v.kd v.i v.s A1 v.l.length cc1 v.c⟩] h6 n6 fun w' h' n'=>w' = .int .i64 0∧h6=h'∧n6=n':=fun h6 n6 hT6 hv6=>by have:=qr h6 n6 hT6 hv6;rw [hck] at this;exact this
 obtain ⟨C1,hC1⟩:∃ C,cntF 501 500 v=C:=⟨_,rfl⟩
 simp only [hgr] at qg
 simp only [hch] at ql
 simp only [hC1] at hcv qc
 clear hC1
 cases hst:storeP T lim 500 hs x v with
 | error e=>
  rw [hst] at hgrow
  obtain rfl:e=18:=hgrow
  have qs:∀ (h6:Hp) (n6:Nat),TabH h6 n6 TA T→VH h6 n6 v (vcell v.kd v.i v.s A1 v.l.length cc1 v.c)→RdH h6 n6 A (bv hs)→Sp Try.prog (tab (acall Try.prog WW k (d+3100)) tb15) n 19 [.slice TA T.length tc,.agg ⟨[.int .u64 65536,.slice A hs.length c]⟩,.int .i64 lim,.int .i64 x,.agg ⟨vcell v.kd v.i v.s A1 v.l.length cc1 v.c⟩] h6 n6 fun v2 h2 n2=>v2 = .tuple ⟨[.agg ⟨[.int .u64 0,.slice none 0 0]⟩,.slice none 0 0,.int .i64 18]⟩∧h6=h2∧n6=n2:=fun h6 n6 hT6 hv6 hr6=>(qs h6 n6 hT6 hv6 hr6).mono fun _ _ _ hp=>by rw [hR,hst] at hp;exact ⟨hp.1,hp.2.2.1,hp.2.2.2⟩
  refine enterS Try.func5 kz rfl kz rfl rfl rfl ?_
  (repeat' first|refine zcd ?_|intro K' hK|(with_reducible refine zn hK ?_;clear hK)|((with_reducible apply o_callF (g:=25) w_none);(case ha=>exact ez0);(case hs=>(exact hal2 _ _));(case' hk=>rintro _ h' n' ⟨rfl,rfl,rfl⟩))|((with_reducible apply o_callF (g:=9) w_none);(case ha=>exact ez0);(case hs=>(exact hS1));(case' hk=>rintro _ h' n' ⟨rfl,rfl,rfl⟩))|((with_reducible apply o_callF (g:=16) w_none);(case ha=>exact ez0);(case hs=>(exact qg _ _));(case' hk=>rintro _ h' n' ⟨rfl,rfl,rfl⟩))|((with_reducible apply o_callF (g:=26) w_none);(case ha=>exact ez0);(case hs=>(exact ql _ _));(case' hk=>rintro _ h' n' ⟨rfl,rfl,rfl⟩))|((with_reducible apply o_callF (g:=17) w_none);(case ha=>exact ez0);(case hs=>((with_reducible apply qc);((refine VH.more (B:=n) ?_ zm);(repeat' first|exact hv|refine VH.set ?_ zm _);done)));(case' hk=>rintro _ h' n' ⟨rfl,rfl,rfl⟩))|((with_reducible apply o_callF (g:=22) w_none);(case ha=>exact ez0);(case hs=>((with_reducible apply qr);(all_goals first|((refine TabH.more (B:=n) ?_ zm);(repeat' first|exact hT|refine TabH.set ?_ zm _))|((refine VH.more (B:=n) ?_ zm);(repeat' first|exact hv|refine VH.set ?_ zm _);done))));(case' hk=>rintro _ h' n' ⟨rfl,rfl,rfl⟩))|((with_reducible apply o_callF (g:=19) w_none);(case ha=>exact ez0);(case hs=>((with_reducible apply qs);(all_goals first|((refine TabH.more (B:=n) ?_ zm);(repeat' first|exact hT|refine TabH.set ?_ zm _))|((refine VH.more (B:=n) ?_ zm);(repeat' first|exact hv|refine VH.set ?_ zm _);done)|((refine RdH.more (B:=n) ?_ zm);(repeat' first|exact hr|refine RdH.set ?_ zm _)))));(case' hk=>rintro _ h' n' ⟨rfl,rfl,rfl⟩))|((with_reducible first|apply zo1|apply zo2|apply o_guard rfl|apply x_cond|apply k_e1 rfl|apply k_e2 rfl|apply k_e0 rfl|apply k_e3 rfl|apply k_e4 rfl);(case he=>exact ez0);(try case hok=>exact ezO);all_goals try (intro hb;(try simp only [hbs,reduceCtorEq] at hb);try exact ezX))|((with_reducible apply o_undef rfl);(case hb=>exact ez0)))
  all_goals exact sw_flat rfl rfl rfl
 | ok r=>
  rw [hst] at hgrow
  obtain ⟨hs2,own⟩:=r
  have hso:=(hsok _ hst).1
  have hso:own.length=(sizT T x).toNat:=hso
  obtain ⟨⟨xs,hxs⟩,hch2⟩:=hgrow
  have hxs:hs2=hs ++ xs:=hxs
  have hch2:chkB 65536 hs2.length lim=0:=hch2
  have hlen:hs.length≤hs2.length:=by rw [hxs,List.length_append];omega
  have hc2:=chkB_ok hch2
  have qs:∀ (h6:Hp) (n6:Nat),TabH h6 n6 TA T→VH h6 n6 v (vcell v.kd v.i v.s A1 v.l.length cc1 v.c)→RdH h6 n6 A (bv hs)→Sp Try.prog (tab (acall Try.prog WW k (d+3100)) tb15) n 19 [.slice TA T.length tc,.agg ⟨[.int .u64 65536,.slice A hs.length c]⟩,.int .i64 lim,.int .i64 x,.agg ⟨vcell v.kd v.i v.s A1 v.l.length cc1 v.c⟩] h6 n6 (StV (.ok (hs2,own)) none h6 n6):=fun h6 n6 hT6 hv6 hr6=>(qs h6 n6 hT6 hv6 hr6).mono fun _ _ _ hp=>by rw [hR,hst] at hp;exact hp
  refine enterS Try.func5 kz rfl kz rfl rfl rfl ?_
  (repeat' first|refine zcd ?_|intro K' hK|(with_reducible refine zn hK ?_;clear hK)|((with_reducible apply o_callF (g:=25) w_none);(case ha=>exact ez0);(case hs=>(exact hal2 _ _));(case' hk=>rintro _ h' n' ⟨rfl,rfl,rfl⟩))|((with_reducible apply o_callF (g:=9) w_none);(case ha=>exact ez0);(case hs=>(exact hS1));(case' hk=>rintro _ h' n' ⟨rfl,rfl,rfl⟩))|((with_reducible apply o_callF (g:=16) w_none);(case ha=>exact ez0);(case hs=>(exact qg _ _));(case' hk=>rintro _ h' n' ⟨rfl,rfl,rfl⟩))|((with_reducible apply o_callF (g:=26) w_none);(case ha=>exact ez0);(case hs=>(exact ql _ _));(case' hk=>rintro _ h' n' ⟨rfl,rfl,rfl⟩))|((with_reducible apply o_callF (g:=17) w_none);(case ha=>exact ez0);(case hs=>((with_reducible apply qc);((refine VH.more (B:=n) ?_ zm);(repeat' first|exact hv|refine VH.set ?_ zm _);done)));(case' hk=>rintro _ h' n' ⟨rfl,rfl,rfl⟩))|((with_reducible apply o_callF (g:=22) w_none);(case ha=>exact ez0);(case hs=>((with_reducible apply qr);(all_goals first|((refine TabH.more (B:=n) ?_ zm);(repeat' first|exact hT|refine TabH.set ?_ zm _))|((refine VH.more (B:=n) ?_ zm);(repeat' first|exact hv|refine VH.set ?_ zm _);done))));(case' hk=>rintro _ h' n' ⟨rfl,rfl,rfl⟩))|((with_reducible apply o_callF (g:=19) w_none);(case ha=>exact ez0);(case hs=>((with_reducible apply qs);(all_goals first|((refine TabH.more (B:=n) ?_ zm);(repeat' first|exact hT|refine TabH.set ?_ zm _))|((refine VH.more (B:=n) ?_ zm);(repeat' first|exact hv|refine VH.set ?_ zm _);done)|((refine RdH.more (B:=n) ?_ zm);(repeat' first|exact hr|refine RdH.set ?_ zm _)))));(case' hk=>rintro _ h' n' ⟨A3,c3,bid,rfl,hr3,ho3,hne3,hb1,hb2,hb3,hn1,hk1⟩))|((with_reducible first|apply zo1|apply zo2|apply o_guard rfl|apply x_cond|apply k_e1 rfl|apply k_e2 rfl|apply k_e0 rfl|apply k_e3 rfl|apply k_e4 rfl);(case he=>exact ez0);(try case hok=>exact ezO);all_goals try (intro hb;(try simp only [hbs,reduceCtorEq] at hb);try exact ezX))|((with_reducible apply o_undef rfl);(case hb=>exact ez0)))
  obtain ⟨h1,rfl⟩:∃ y,y=h':=⟨_,rfl⟩
  obtain ⟨n1,rfl⟩:∃ y,y=n':=⟨_,rfl⟩
  have b1:∀ q,q<n→h1.get q=h.get q:=fun q hq=>by rw [hk1 _ zm];(repeat rw [Hp.get_ne _ _ zm])
  have r7:rowOf h1 n=some (29,false,[.int .u64 65536,.slice A hs.length c]):=by rw [rowOf_keep (hk1 _ zm)];exact ez0
  have r10:rowOf h1 (n+1)=some (32,false,vcell v.kd v.i v.s A1 v.l.length cc1 v.c):=by rw [rowOf_keep (hk1 _ zm)];exact ez0
  have hT1:TabH h1 n TA T:=hT.keep (Nat.le_refl _) b1
  have hv1:VH h1 n v (vcell v.kd v.i v.s A1 v.l.length cc1 v.c):=hv.keep (Nat.le_refl _) b1
  have hra:RdH h1 n A (bv hs):=hr.keep (Nat.le_refl _) b1
  have hA3:(A3=none∧hs2.length=0)∨∃ id,A3=some ⟨id,0,none⟩:=by
   rcases hr3 with ⟨e, -,e2⟩|⟨id,e, -, -⟩
   ·have e2:hs2=[]:=e2
    exact .inl ⟨e,by rw [e2];rfl⟩
   ·exact .inr ⟨id,e⟩
  have hA0:A3=none→hs.length=0:=fun e=>by
   rcases hA3 with ⟨-,e2⟩|⟨id,e2⟩
   ·omega
   ·rw [e] at e2;cases e2
  have hc3:=hr3.rd.2
  have hq3:RdH h1 n1 A3 (bv hs2):=hr3.rd.1
  have hp3:RdH h1 n1 A3 (bv hs):=by rw [hxs] at hq3;exact RdH.pre hq3
  have hqo:RdH h1 n1 (some ⟨bid,0,none⟩) (bv own):=RdH.ofRow hb3 hb2
  have hsl:=fun h6 n6=>sl_pre (c:=c3) hA3 hlen h6 n6
  have qz:=fun (h6:Hp) (n6:Nat) (hT6:TabH h6 n6 TA T)=>Sp.tab (l:=tb15) ((lsize_ev k (d+3092) n h6 n6 hk TA T tc hT6 hST hmm (x:Int)).mono (Φ':=fun v h' n'=>v = .tuple ⟨[.int .i64 (own.length:Int),.int .i64 (alnT T x),.int .i64 0]⟩∧h6=h'∧n6=n') fun _ _ _ hp=>by rw [ho.size] at hp;refine ⟨hp.1.trans ?_,hp.2.1.symm,hp.2.2.symm⟩;rw [hso,Int.toNat_of_nonneg hbd.1];rfl)
  have hiB:isB 65536 hs2.length=true:=by unfold isB;simp;omega
  have qi:=fun (h6:Hp) (n6:Nat)=>Sp.tab (l:=tb15) ((ris_ev k (d+3099) n h6 n6 65536 A3 hs2.length c3 zm).mono (Φ':=fun v h' n'=>v = .bool true∧h6=h'∧n6=n') fun _ _ _ hp=>⟨by rw [hp.1,hiB],hp.2.1.symm,hp.2.2.symm⟩)
  have f7:=cellsAt_row (off:=0) (k:=2) r7
  have f71:=cellAt_row (off:=1) r7
  clear hk1 qs hS1 qc qg ql qr hr3 ho3 hne3 hal2
  by_cases ha:allocE 65536 hs2.length own.length lim=0
  ·have hlr:=fun (A:Option Addr) (c:Nat) (dp:Int) (hd:0≤dp∧dp≤3)=>back_LoadR (N:=500) hE ho hfit (hI 500) hch hst ha (A:=A) (c:=c) hd
   have hYl:(putL hs2 own).length≤16384:=(chkB_ok (put_chk ha)).2.2.1
   have qp:=fun (h6:Hp) (n6:Nat) (hr6:RdH h6 n6 A3 (bv hs2)) (hro:RdH h6 n6 (some ⟨bid,0,none⟩) (bv own))=>Sp.tab (l:=tb15) ((bput_ok k (d+3095) n h6 n6 65536 A3 hs2 c3 (some ⟨bid,0,none⟩) own own.length lim hr6 hc3 hro (fun e=>by cases e) ha).mono (Φ':=fun v h' n'=>v = .tuple ⟨[.agg ⟨[.int .u64 65536,.slice (some ⟨n6,0,none⟩) (putL hs2 own).length (putL hs2 own).length]⟩,.int .u64 (65536+hs2.length),.int .i64 0]⟩∧h6.set n6 (.row 5 false (bv (putL hs2 own)))=h'∧n6+1=n') fun _ _ _ hp=>⟨hp.1,hp.2.1.symm,hp.2.2.symm⟩)
   simp only at hlr
   obtain ⟨Y,hY⟩:∃ Y,putL hs2 own=Y:=⟨_,rfl⟩
   simp only [hY] at hlr qp hYl
   have hcs:cutV 500 v (3:Int).toNat=v:=cut_same 500 x v 3 3 ho hfit (Nat.le_refl _)
   have bX:=Bd_cut 500 v dp.toNat bv1
   have qcut:=fun (c6:Nat) (h6:Hp) (n6:Nat) (cs:List Value) (hv6:VH h6 n6 v cs)=>Sp.tab (l:=tb15) (rcut_ev k hk 500 v dp bv1 zm zm (d+2600) c6 h6 n6 cs hv6)
   have qL:=fun (dp2:Int) (hd2:0≤dp2∧dp2≤3) (id m:Nat) (h6:Hp) (n6:Nat) (hT6:TabH h6 n6 TA T) (r6:rowOf h6 id=some (29,false,[.int .u64 65536,.slice (some ⟨m,0,none⟩) Y.length Y.length])) (hid:id<n6) (rm:RdH h6 n6 (some ⟨m,0,none⟩) (bv Y))=>Sp.tab (l:=tb15) ((vload_ev k d n h6 n6 hk TA (some ⟨id,0,none⟩) T [⟨65536,Y,some ⟨m,0,none⟩,Y.length⟩] tc 1 hT6 hST hmm (by
    refine ⟨RdH.ofRow (ro:=false) (e:=29) r6 hid,fun g hg=>?_,fun g hg=>?_,fun g hg=>?_,fun g hg=>?_⟩
    all_goals obtain rfl:=List.mem_singleton.1 hg
    ·exact rm
    ·exact fun e=>by cases e
    ·dsimp only;omega
    ·dsimp only;omega) (by simp) (65536+hs2.length) x dp2 zm zm).mono (Φ':=LdU (cutV 500 v dp2.toNat) 0 h6 n6) fun _ _ _ hp=>by rw [hlr _ _ _ hd2] at hp;exact hp.uni)
   have qL3:=qL 3 zm
   rw [hcs] at qL3
   have qLd:=qL dp hdp
   obtain ⟨X,hX⟩:∃ X,cutV 500 v dp.toNat=X:=⟨_,rfl⟩
   rw [hX] at qLd bX
   simp only [hX] at qcut
   have qL3:∀ (id m:Nat) (h6:Hp) (n6:Nat),TabH h6 n6 TA T→rowOf h6 id=some (29,false,[.int .u64 65536,.slice (some ⟨m,0,none⟩) Y.length Y.length])→id<n6→RdH h6 n6 (some ⟨m,0,none⟩) (bv Y)→Sp Try.prog (tab (acall Try.prog WW k (d+3100)) tb15) n 11 [.slice TA T.length tc,.slice (some ⟨id,0,none⟩) 1 1,.int .u64 (65536+hs2.length),.int .i64 x,.int .i64 3] h6 n6 (LdU v 0 h6 n6):=qL3
   have qLd:∀ (id m:Nat) (h6:Hp) (n6:Nat),TabH h6 n6 TA T→rowOf h6 id=some (29,false,[.int .u64 65536,.slice (some ⟨m,0,none⟩) Y.length Y.length])→id<n6→RdH h6 n6 (some ⟨m,0,none⟩) (bv Y)→Sp Try.prog (tab (acall Try.prog WW k (d+3100)) tb15) n 11 [.slice TA T.length tc,.slice (some ⟨id,0,none⟩) 1 1,.int .u64 (65536+hs2.length),.int .i64 x,.int .i64 dp] h6 n6 (LdU X 0 h6 n6):=qLd
   have rs:=fun (w:V) (bw:Bd 500 w) (h6:Hp) (n6:Nat) (cs cs':List Value) (va:VH h6 n6 w cs) (vb:VH h6 n6 w cs')=>Sp.tab (l:=tb15) ((rsamev_ev k hk 500 w w (d+2600) n h6 n6 cs cs' bw va vb).mono (Φ':=fun v h' n'=>v = .bool true∧h6=h'∧n6=n') fun _ _ _ hp=>⟨by rw [hp.1,sameV_t],hp.2.1.symm,hp.2.2.symm⟩)
   have rs1:=rs v bv1
   have rs2:=rs X bX
   have qcut:=fun (c6:Nat) (h6:Hp) (n6:Nat) (cs:List Value) (hv6:VH h6 n6 v cs)=>(qcut c6 h6 n6 cs hv6).mono (Φ':=fun w h' n'=>∃ A1 cc1,w = .agg ⟨vcell X.kd X.i X.s A1 X.l.length cc1 X.c⟩∧VH h' n' X (vcell X.kd X.i X.s A1 X.l.length cc1 X.c)∧n6≤n'∧∀ b,b<n6→h'.get b=h6.get b) fun w h' n' ⟨cs,e1,hf,a,b⟩=>by
    obtain ⟨A1,cc1,rfl⟩:=hf.cells
    exact ⟨A1,cc1,e1,hf.vh,a,b⟩
   clear rs qL hlr hY hcs hX
   (repeat' first|refine zcd ?_|intro K' hK|(with_reducible refine zn hK ?_;clear hK)|((with_reducible apply o_callF (g:=27) w_none);(case ha=>exact ez0);(case hs=>((with_reducible apply qz);exact ezT hT1));(case' hk=>rintro _ h' n' ⟨rfl,rfl,rfl⟩))|((with_reducible apply o_callF (g:=28) w_none);(case ha=>exact ez0);(case hs=>((with_reducible apply qp);(all_goals first|exact (hq3.set (Nat.le_refl _) _).more zm|exact (hqo.set (Nat.le_refl _) _).more zm)));(case' hk=>rintro _ h' n' ⟨rfl,rfl,rfl⟩))|(with_reducible refine x_drawnD (id:=9) [(15,18),(24,26),(24,31),(26,31),(29,31),(24,32),(26,32),(29,32)] kz fun K' hK=>?_)|((with_reducible apply d_nil);(case hp=>exact ezP);(case' hx=>(refine hK _ _ _ ?_;clear hK)))|((with_reducible apply d_pure w_none);(case hp=>exact rfl);(case hc=>exact rfl);(case he=>exact ez6 f7 f71 hsl @b_strNeq @b_strEql @b_self))|((with_reducible apply d_eff w_none);(case hc=>exact rfl);(case he=>exact ez6 f7 f71 hsl @b_strNeq @b_strEql @b_self);(case hok=>exact ezO))|((with_reducible apply d_guard rfl);(case hb=>exact ez6 f7 f71 hsl @b_strNeq @b_strEql @b_self);(case' h1=>intro hb;(try simp only [hbs,reduceCtorEq] at hb);try exact ezX);(case' h2=>intro hb;(try simp only [hbs,reduceCtorEq] at hb);try exact ezX))|((with_reducible apply d_callS (g:=29) w_none);(case hs0=>exact rfl);(case ha=>exact ez0);(case hs=>(exact qi _ _));(case' hk=>rintro _ h' n' ⟨rfl,rfl,rfl⟩))|((with_reducible apply d_callN (g:=29) w_none);(case hs0=>exact rfl);(case ha=>exact ez0);(case hs=>(exact qi _ _));(case' hk=>rintro _ h' n' ⟨rfl,rfl,rfl⟩))|((with_reducible apply d_b2s (xs:=hs) (B:=n1+50) b2T27_9 w_none);(case hy=>exact ez0);(case hr=>first|exact (hra.set zm _).more zm|((refine RdH.more (B:=n1) ?_ zm);(repeat' first|exact hp3|exact hra.more zm|refine RdH.set ?_ zm _)));(case h0=>first|exact hc|exact hA0);(case' hx=>intro rd))|((with_reducible apply o_callF (g:=11) w_none);(case ha=>exact ez0);(case hs=>((with_reducible apply qL3);(all_goals first|exact ezT hT1|exact ez0|omega|((repeat' (first|with_reducible exact RdH.row zm|with_reducible refine RdH.ne ?_ zm _));done))));(case' hk=>rintro _ h' n' ⟨A4,cc4,rfl,v4,hn2,hk2⟩))|((with_reducible first|apply zo1|apply zo2|apply o_guard rfl|apply x_cond|apply k_e1 rfl|apply k_e2 rfl|apply k_e0 rfl|apply k_e3 rfl|apply k_e4 rfl);(case he=>exact ez2 f7 f71);(try case hok=>exact ezO);all_goals try (intro hb;(try simp only [hbs,reduceCtorEq] at hb);try exact ezX))|((with_reducible apply o_undef rfl);(case hb=>exact ez0)))
   obtain ⟨h2,rfl⟩:∃ y,y=h':=⟨_,rfl⟩
   obtain ⟨n2,rfl⟩:∃ y,y=n':=⟨_,rfl⟩
   have b2:∀ q,q<n1→h2.get q=h1.get q:=fun q hq=>by rw [hk2 _ zm];(repeat rw [Hp.get_ne _ _ zm])
   have hT2:TabH h2 n TA T:=hT1.keep (Nat.le_refl _) fun b hb=>b2 b zm
   have hv2:VH h2 n v (vcell v.kd v.i v.s A1 v.l.length cc1 v.c):=hv1.keep (Nat.le_refl _) fun b hb=>b2 b zm
   have s10:=(rowOf_keep (b2 (n+1) zm)).trans r10
   have sY:rowOf h2 (n1+1)=some (5,false,bv Y):=by rw [rowOf_keep (hk2 _ zm)];exact ez0
   have s20:rowOf h2 (n1+1+1)=some (29,false,[.int .u64 65536,.slice (some ⟨n1+1,0,none⟩) Y.length Y.length]):=by rw [rowOf_keep (hk2 _ zm)];exact ez0
   have hRY:RdH h2 n2 (some ⟨n1+1,0,none⟩) (bv Y):=RdH.ofRow sY zm
   have g20:=cellsAt_row (off:=0) (k:=2) s20
   clear hk2 qL3 r7 f7 f71 r10 qz qp qi hsl hra hv1
   (repeat' first|refine zcd ?_|intro K' hK|(with_reducible refine zn hK ?_;clear hK)|((with_reducible apply o_callF (g:=11) w_none);(case ha=>exact ez0);(case hs=>((with_reducible apply qLd);(all_goals first|exact ((hT2.set zm _).set zm _).more zm|exact ez0|omega|exact ((hRY.set (Nat.le_refl _) _).set zm _).more zm)));(case' hk=>rintro _ h' n' ⟨A5,cc5,rfl,v5,hn3,hk3⟩))|((with_reducible first|apply zo1|apply zo2|apply o_guard rfl|apply x_cond|apply k_e1 rfl|apply k_e2 rfl|apply k_e0 rfl|apply k_e3 rfl|apply k_e4 rfl);(case he=>exact ez1 g20);(try case hok=>exact ezO);all_goals try (intro hb;(try simp only [hbs,reduceCtorEq] at hb);try exact ezX))|((with_reducible apply o_undef rfl);(case hb=>exact ez0)))
   obtain ⟨h3,rfl⟩:∃ y,y=h':=⟨_,rfl⟩
   obtain ⟨n3,rfl⟩:∃ y,y=n':=⟨_,rfl⟩
   have b3:∀ q,q<n2→h3.get q=h2.get q:=fun q hq=>by rw [hk3 _ zm];(repeat rw [Hp.get_ne _ _ zm])
   have hv3:VH h3 n v (vcell v.kd v.i v.s A1 v.l.length cc1 v.c):=hv2.keep (Nat.le_refl _) fun b hb=>b3 b zm
   have t10:=(rowOf_keep (b3 (n+1) zm)).trans s10
   have t23:rowOf h3 n2=some (32,false,vcell v.kd v.i v.s A4 v.l.length cc4 v.c):=by rw [rowOf_keep (hk3 _ zm)];exact ez0
   have w4:VH h3 n2 v (vcell v.kd v.i v.s A4 v.l.length cc4 v.c):=v4.keep (Nat.le_refl _) b3
   have g10:=cellsAt_row (off:=0) (k:=5) t10
   have g23:=cellsAt_row (off:=0) (k:=5) t23
   clear hk3 qLd s10 sY s20 g20 hv2 v4
   (repeat' first|refine zcd ?_|intro K' hK|(with_reducible refine zn hK ?_;clear hK)|(with_reducible refine x_drawnD (id:=13) [(10,11),(15,16),(15,18)] kz fun K' hK=>?_)|((with_reducible apply d_nil);(case hp=>exact ezP);(case' hx=>(refine hK _ _ _ ?_;clear hK)))|((with_reducible apply d_pure w_none);(case hp=>exact rfl);(case hc=>exact rfl);(case he=>exact ez2 g10 g23))|((with_reducible apply d_eff w_none);(case hc=>exact rfl);(case he=>exact ez2 g10 g23);(case hok=>exact ezO))|((with_reducible apply d_guard rfl);(case hb=>exact ez2 g10 g23);(case' h1=>intro hb;(try simp only [hbs,reduceCtorEq] at hb);try exact ezX);(case' h2=>intro hb;(try simp only [hbs,reduceCtorEq] at hb);try exact ezX))|((with_reducible apply d_callS (g:=15) w_none);(case hs0=>exact rfl);(case ha=>exact ez0);(case hs=>((with_reducible apply rs1);(all_goals first|exact (w4.set zm _).more zm|exact (hv3.set zm _).more zm)));(case' hk=>rintro _ h' n' ⟨rfl,rfl,rfl⟩))|((with_reducible apply d_callN (g:=15) w_none);(case hs0=>exact rfl);(case ha=>exact ez0);(case hs=>((with_reducible apply rs1);(all_goals first|exact (w4.set zm _).more zm|exact (hv3.set zm _).more zm)));(case' hk=>rintro _ h' n' ⟨rfl,rfl,rfl⟩))|((with_reducible apply d_callS (g:=30) w_none);(case hs0=>exact rfl);(case ha=>exact ez0);(case hs=>((with_reducible apply qcut);exact (hv3.set zm _).more zm));(case' hk=>rintro _ h' n' ⟨A6,cc6,rfl,v6,hn4,hk4⟩))|((with_reducible apply d_callN (g:=30) w_none);(case hs0=>exact rfl);(case ha=>exact ez0);(case hs=>((with_reducible apply qcut);exact (hv3.set zm _).more zm));(case' hk=>rintro _ h' n' ⟨A6,cc6,rfl,v6,hn4,hk4⟩))|((with_reducible first|apply zo1|apply zo2|apply o_guard rfl|apply x_cond|apply k_e1 rfl|apply k_e2 rfl|apply k_e0 rfl|apply k_e3 rfl|apply k_e4 rfl);(case he=>exact ez2 g10 g23);(try case hok=>exact ezO);all_goals try (intro hb;(try simp only [hbs,reduceCtorEq] at hb);try exact ezX))|((with_reducible apply o_undef rfl);(case hb=>exact ez0)))
   (repeat' first|refine zcd ?_|intro K' hK|(with_reducible refine zn hK ?_;clear hK)|((with_reducible apply d_nil);(case hp=>exact ezP);(case' hx=>(refine hK _ _ _ ?_;clear hK)))|((with_reducible apply d_pure w_none);(case hp=>exact rfl);(case hc=>exact rfl);(case he=>exact ez2 g10 g23))|((with_reducible apply d_eff w_none);(case hc=>exact rfl);(case he=>exact ez2 g10 g23);(case hok=>exact ezO))|((with_reducible apply d_guard rfl);(case hb=>exact ez2 g10 g23);(case' h1=>intro hb;(try simp only [hbs,reduceCtorEq] at hb);try exact ezX);(case' h2=>intro hb;(try simp only [hbs,reduceCtorEq] at hb);try exact ezX))|((with_reducible apply d_callS (g:=15) w_none);(case hs0=>exact rfl);(case ha=>exact ez0);(case hs=>((with_reducible apply rs2);(all_goals first|exact v6|exact v5.keep zm fun b hb=>by rw [hk4 _ zm];(repeat rw [Hp.get_ne _ _ zm]))));(case' hk=>rintro _ h' n' ⟨rfl,rfl,rfl⟩))|((with_reducible apply d_callN (g:=15) w_none);(case hs0=>exact rfl);(case ha=>exact ez0);(case hs=>((with_reducible apply rs2);(all_goals first|exact v6|exact v5.keep zm fun b hb=>by rw [hk4 _ zm];(repeat rw [Hp.get_ne _ _ zm]))));(case' hk=>rintro _ h' n' ⟨rfl,rfl,rfl⟩))|((with_reducible first|apply zo1|apply zo2|apply o_guard rfl|apply x_cond|apply k_e1 rfl|apply k_e2 rfl|apply k_e0 rfl|apply k_e3 rfl|apply k_e4 rfl);(case he=>exact ez2 g10 g23);(try case hok=>exact ezO);all_goals try (intro hb;(try simp only [hbs,reduceCtorEq] at hb);try exact ezX))|((with_reducible apply o_undef rfl);(case hb=>exact ez0)))
   all_goals exact sw_flat rfl rfl rfl
  ·have h18:=alloc_18 hch2 ⟨by omega,by omega⟩ ha
   have qp:=fun (h6:Hp) (n6:Nat)=>Sp.tab (l:=tb15) ((bput_err k (d+3095) n h6 n6 65536 A3 hs2.length c3 (some ⟨bid,0,none⟩) own.length own.length lim zm zm ha).mono (Φ':=fun v h' n'=>v = .tuple ⟨[.agg ⟨[.int .u64 0,.slice none 0 0]⟩,.int .u64 0,.int .i64 18]⟩∧h6=h'∧n6=n') fun _ _ _ hp=>⟨by rw [hp.1,h18],hp.2.1.symm,hp.2.2.symm⟩)
   (repeat' first|refine zcd ?_|intro K' hK|(with_reducible refine zn hK ?_;clear hK)|((with_reducible apply o_callF (g:=27) w_none);(case ha=>exact ez0);(case hs=>((with_reducible apply qz);exact ezT hT1));(case' hk=>rintro _ h' n' ⟨rfl,rfl,rfl⟩))|((with_reducible apply o_callF (g:=28) w_none);(case ha=>exact ez0);(case hs=>(exact qp _ _));(case' hk=>rintro _ h' n' ⟨rfl,rfl,rfl⟩))|(with_reducible refine x_drawnD (id:=9) [(15,18),(24,26),(24,31),(26,31),(29,31),(24,32),(26,32),(29,32)] kz fun K' hK=>?_)|((with_reducible apply d_nil);(case hp=>exact ezP);(case' hx=>(refine hK _ _ _ ?_;clear hK)))|((with_reducible apply d_pure w_none);(case hp=>exact rfl);(case hc=>exact rfl);(case he=>exact ez6 f7 f71 hsl @b_strNeq @b_strEql @b_self))|((with_reducible apply d_eff w_none);(case hc=>exact rfl);(case he=>exact ez6 f7 f71 hsl @b_strNeq @b_strEql @b_self);(case hok=>exact ezO))|((with_reducible apply d_guard rfl);(case hb=>exact ez6 f7 f71 hsl @b_strNeq @b_strEql @b_self);(case' h1=>intro hb;(try simp only [hbs,reduceCtorEq] at hb);try exact ezX);(case' h2=>intro hb;(try simp only [hbs,reduceCtorEq] at hb);try exact ezX))|((with_reducible apply d_callS (g:=29) w_none);(case hs0=>exact rfl);(case ha=>exact ez0);(case hs=>(exact qi _ _));(case' hk=>rintro _ h' n' ⟨rfl,rfl,rfl⟩))|((with_reducible apply d_callN (g:=29) w_none);(case hs0=>exact rfl);(case ha=>exact ez0);(case hs=>(exact qi _ _));(case' hk=>rintro _ h' n' ⟨rfl,rfl,rfl⟩))|((with_reducible apply d_b2s (xs:=hs) (B:=n1+50) b2T27_9 w_none);(case hy=>exact ez0);(case hr=>first|exact (hra.set zm _).more zm|((refine RdH.more (B:=n1) ?_ zm);(repeat' first|exact hp3|exact hra.more zm|refine RdH.set ?_ zm _)));(case h0=>first|exact hc|exact hA0);(case' hx=>intro rd))|((with_reducible first|apply zo1|apply zo2|apply o_guard rfl|apply x_cond|apply k_e1 rfl|apply k_e2 rfl|apply k_e0 rfl|apply k_e3 rfl|apply k_e4 rfl);(case he=>exact ez2 f7 f71);(try case hok=>exact ezO);all_goals try (intro hb;(try simp only [hbs,reduceCtorEq] at hb);try exact ezX))|((with_reducible apply o_undef rfl);(case hb=>exact ez0)))
   all_goals exact sw_flat rfl rfl rfl
theorem valueBack_ev (hk:30000≤k) (TA A:Option Addr) (T:List Tp) (hs:List UInt8) (tc c:Nat) (b lim t dp:Int) (v:V) (cs:List Value) (hv:VH h n v cs) (hI:∀ N,VI N v) (hT:TabH h n TA T) (hm:T.length≤9223372036854775807) (hS0:∀ t∈T,t.fs.length≤9223372036854775807) (hr:RdH h n A (bv hs)) (hc:A=none→c=0) (hxm:hs.length≤9223372036854775807) :
  Sp Try.prog (afunc Try.prog (tab (acall Try.prog WW k (d+3100)) tb15) WW k) cl 5 [.slice TA T.length tc,.agg ⟨[.int .u64 b,.slice A hs.length c]⟩,.int .i64 lim,.int .i64 t,.agg ⟨cs⟩,.int .i64 dp] h n fun v h' n'=>v = .bool true:=by
 obtain ⟨y,h2,n2,⟨B,rfl,hg,hh2,hn2⟩,hB⟩:=sp_fixb (tgreat_ev k (d+3099) n ((h.set n (.row 29 false [.int .u64 b,.slice A hs.length c])).set (n+1) (.row 32 false cs)) (n+2) hk TA T tc (((hT.set (Nat.le_refl _) _).set zm _).more zm) hm hS0)
 have hS1:Sp Try.prog (tab (acall Try.prog WW k (d+3100)) tb15) n 9 [.slice TA T.length tc] ((h.set n (.row 29 false [.int .u64 b,.slice A hs.length c])).set (n+1) (.row 32 false cs)) (n+2) fun v2 h2 n2=>v2 = .bool B∧((h.set n (.row 29 false [.int .u64 b,.slice A hs.length c])).set (n+1) (.row 32 false cs))=h2∧n+2=n2:=Sp.tab (l:=tb15) (hB.mono fun _ _ _ hp=>⟨hp.1,by rw [hp.2.1,hh2],by rw [hp.2.2,hn2]⟩)
 by_cases hout:B=true∨greatB hs.length=true∨chkB b hs.length lim≠0∨500<cntF 501 500 v
 ·exact lbk_out k d cl h n hk TA A T hs tc c b lim t dp v cs hv hxm B hout hS1
 ·have hB:B=false:=by cases B <;> simp_all
  subst hB
  have hgr:greatB hs.length=false:=by cases hx:greatB hs.length <;> simp_all
  have hch:chkB b hs.length lim=0:=Classical.not_not.1 fun e=>hout (.inr (.inr (.inl e)))
  have hcv:cntF 501 500 v≤500:=Nat.le_of_not_lt fun e=>hout (.inr (.inr (.inr e)))
  by_cases ho2:chkV T 500 t v≠0∨dp<0∨3<dp
  ·exact lbk_chk k d cl h n hk TA A T hs tc c b lim t dp v cs hv hT (hg rfl) hxm hgr hch hcv ho2 _ rfl hS1
  ·exact lbk_in k d cl h n hk TA A T hs tc c b lim t dp v cs hv hI hT (hg rfl) hr hc hxm hgr hch hcv (Classical.not_not.1 fun e=>ho2 (.inl e)) zm _ rfl hS1
end Go.Proofs.Ytcpkdjikembpnaa.Ce
namespace Go.Proofs.Ytcpkdjikembpnaa
section
open Go.ChangeShapes Go.WideShapes Go.ChangeAt Go.RowKit Go.Joins Go.Deep
section
variable {H:Type} {enc:TypeId × Value→H} {P:Program} {w:World} {base:Nat}
theorem open_bytes_cell {t e:TypeId} {held:Bool} {fuel:Nat} {v:Value} {x:DataW H × List MemPlace} (ht:P.underlying t=some (.slice e)) (he:P.underlying e=some (.int .u8)) (hc:P.cellsOf e=1)
  (h:DataW.trod enc P w base (fun _=>true) held fuel t [v]=some x) :
  ∃ (A:Option Addr) (xs:List UInt8) (c:Nat),v = .slice A xs.length c∧Rd w w.heap.size A (bv xs)∧xs.length≤c∧c≤9223372036854775807∧(A=none→c=0):=by
 rcases open_ints ht he hc h with ⟨hcs,_⟩|⟨a,len,cap,zs,hcs,_,hl,hm,hz,_,hcell,hwz⟩
 ·injection hcs with hcs _
  exact ⟨none,[],0,hcs,Rd.nil_,by simp,by omega,fun _=>rfl⟩
 ·injection hcs with hcs _
  simp at hz
  have hzl:((zs.take len).map fun n=>UInt8.ofNat n.toNat).length=len:=by simp;omega
  refine ⟨some a,(zs.take len).map fun n=>UInt8.ofNat n.toNat,cap,by rw [hzl,hcs],?_,by rw [hzl];exact hl,by unfold maxLen at hm;omega,fun h=>(by cases h)⟩
  by_cases h0:len=0
  ·subst h0;exact .inl (by simp [bv])
  ·obtain ⟨b,off,spot⟩:=a
   have hc0:=hcell 0 zm
   have hspot:spot=none:=by simpa [Addr.add] using World.cell?_spot hc0
   subst hspot
   have hbl:b<w.heap.size:=by
    have:=World.block_lt_of_cell? w _ hc0
    rw [add_none] at this
    exact this
   refine .inr ⟨b,off,rfl,hbl,fun j v hj=>?_⟩
   have hjl:j<len:=by
    rcases Nat.lt_or_ge j len with hlt|hge
    ·exact hlt
    ·rw [List.getElem?_eq_none (by rw [bv_length,hzl];exact hge)] at hj;cases hj
   have hjz:j<zs.length:=by omega
   have hcj:=hcell j hjz
   rw [add_none] at hcj
   rw [hcj]
   have hw:=hwz (zs[j]) (List.getElem_mem _)
   have hb:=bounds_u8 hw
   simp only [bv,List.getElem?_map,List.getElem?_take,hjl,if_true,List.getElem?_eq_getElem hjz,Option.map_some] at hj
   rw [← hj]
   simp only [List.getD,List.getElem?_eq_getElem hjz,Option.getD_some]
   congr 2
   simp
   omega
theorem open_region {r:Reach} {b0:Nat} {t tb tu e:TypeId} {n0 n1:Field} {v:Value} {d:DataW H} {p:List MemPlace} (hs:P.underlying t=some (.struct #[n0,n1])) (hone:oneCellFields P #[n0,n1]=true) (hC:P.cellsOf t=2)
  (h0:n0.type=tu) (h1:n1.type=tb) (hu:P.underlying tu=some (.int .u64)) (hb:P.underlying tb=some (.slice e)) (he:P.underlying e=some (.int .u8)) (hc:P.cellsOf e=1)
  (hv:Value.okWide P w r b0 t v) (h:DataW.Trod enc P w base (fun _=>true) true t v d p) :
  ∃ (b:Int) (A:Option Addr) (xs:List UInt8) (c:Nat),v = .agg #[.int .u64 b,.slice A xs.length c]∧Rd w w.heap.size A (bv xs)∧0≤b∧b<18446744073709551616∧xs.length≤c∧c≤9223372036854775807∧(A=none→c=0):=by
 obtain ⟨c0,c1,y0,y1,m,rfl,_,_,hy0,hy1⟩:=open_agg2 hs hone hC hv h
 subst h0;subst h1
 obtain ⟨b,e0,_,wb⟩:=DataW.trod_int hu hy0
 injection e0 with e0 _
 obtain ⟨A,xs,c,rfl,hr,hl,hcm,hn⟩:=open_bytes_cell hb he hc hy1
 have hbb:=bounds_u64 wb
 exact ⟨b,A,xs,c,by rw [e0],hr,hbb.1,by omega,hl,hcm,hn⟩
end
end
section
open Go.ChangeShapes Go.WideShapes Go.ChangeAt Go.RowKit Go.Joins Go.Deep
section
variable {H:Type} {enc:TypeId × Value→H} {P:Program} {w:World} {base:Nat}
end
end
section
open Go.ChangeShapes Go.WideShapes Go.ChangeAt Go.RowKit Go.Joins Go.Deep
section
variable {H:Type} {enc:TypeId × Value→H} {P:Program} {w:World} {base:Nat}
end
end
section
open Go.ChangeShapes Go.WideShapes Go.ChangeAt Go.RowKit Go.Joins Go.Deep
def iv (l:List Int):List Value:=l.map fun z=>.int .i64 z
theorem iv_length (l:List Int):(iv l).length=l.length:=by simp [iv]
theorem rd_of_cells {w:World} {a:Addr} {vs:List Value} (h:∀ i v,vs[i]?=some v→w.cell? (a.add i)=some v):Rd w w.heap.size (some a) vs:=by
 by_cases hx:vs=[]
 ·exact .inl hx
 ·obtain ⟨b,off,spot⟩:=a
  obtain ⟨v0,hv0⟩:∃ v,vs[0]?=some v:=by
   cases vs with
   | nil=>exact absurd rfl hx
   | cons v _=>exact ⟨v,rfl⟩
  have hc0:=h 0 v0 hv0
  have hspot:spot=none:=by simpa [Addr.add] using World.cell?_spot hc0
  subst hspot
  have hbl:b<w.heap.size:=by
   have:=World.block_lt_of_cell? w _ hc0
   rw [add_none] at this
   exact this
  exact .inr ⟨b,off,rfl,hbl,fun j v hj=>by have:=h j v hj;rwa [add_none] at this⟩
section
variable {H:Type} {enc:TypeId × Value→H} {P:Program} {w:World} {base:Nat}
end
end
end Go.Proofs.Ytcpkdjikembpnaa
namespace Go.Proofs.Ytcpkdjikembpnaa.Ce
open Go.RowKit
theorem bv_vis (B:Nat) (xs:List UInt8):(bv xs).map (vis B)=bv xs:=by
 unfold bv
 rw [List.map_map]
 apply List.map_congr_left
 intro x _
 exact vis_flat rfl
theorem bytes_here {w:World} {A:Option Addr} {c:Nat} {xs:List UInt8} (h:Rd w w.heap.size A (bv xs)) (hc:xs.length≤c) (hm:c≤9223372036854775807) (h0:A=none→c=0) :
  ∃ A' c',vis w.heap.size (.slice A xs.length c) = .slice A' xs.length c'∧RdH (absW w) w.heap.size A' (bv xs)∧(A'=none→c'=0):=by
 obtain ⟨A',c',h1,h2,_,h3,_⟩:=rd_here h (fun hh=>by rw [← bv_length,hh];rfl) hc hm h0
 rw [bv_vis] at h2
 exact ⟨A',c',h1,h2,h3⟩
end Go.Proofs.Ytcpkdjikembpnaa.Ce
namespace Go.Proofs.Ytcpkdjikembpnaa
section
open Go.ChangeShapes Go.WideShapes Go.ChangeAt Go.RowKit Go.Joins Go.Deep
section
variable {H:Type} {enc:TypeId × Value→H} {P:Program} {w:World} {base:Nat}
end
end
section
open Go.ChangeShapes Go.WideShapes Go.ChangeAt Go.RowKit Go.Joins Go.Deep
theorem list_of {α:Type} {Q:Nat→α→Prop}:∀ {m:Nat},(∀ i,i<m→∃ r,Q i r)→∃ l:List α,l.length=m∧∀ i (hi:i<l.length),Q i l[i]
 | 0,_=>⟨[],rfl,fun i hi=>by simp at hi⟩
 | n+1,h=>by
  obtain ⟨l,hl,hx⟩:=list_of fun i (hi:i<n)=>h i zm
  obtain ⟨r,hr⟩:=h n zm
  refine ⟨l ++ [r],by simp [hl],fun i hi=>?_⟩
  by_cases hlt:i<l.length
  ·rw [List.getElem_append_left hlt];exact hx i hlt
  ·have:i=l.length:=by simp at hi;omega
   subst this
   rw [List.getElem_append_right (Nat.le_refl _)]
   simp only [Nat.sub_self,List.getElem_singleton,hl]
   exact hr
section
variable {H:Type} {enc:TypeId × Value→H} {P:Program} {w:World} {base:Nat}
theorem open_fields_cell {t e ts ti:TypeId} {f0 f1:Field} {held:Bool} {fuel:Nat} {v:Value} {x:DataW H × List MemPlace} (ht:P.underlying t=some (.slice e)) (he:P.underlying e=some (.struct #[f0,f1]))
  (ce:P.cellsOf e=2) (o0:f0.offset=0) (o1:f1.offset=1) (c0:P.cellsOf f0.type=1) (c1:P.cellsOf f1.type=1) (h0:f0.type=ts) (h1:f1.type=ti) (hs:P.underlying ts=some .string) (hi:P.underlying ti=some (.int .i64))
  (h:DataW.trod enc P w base (fun _=>true) held fuel t [v]=some x) :
  ∃ (A:Option Addr) (fs:List (List UInt8 × Int)) (c:Nat),v = .slice A fs.length c∧Rd w w.heap.size A (Ce.fv fs)∧fs.length≤c∧c≤9223372036854775807∧(A=none→c=0)∧∀ f∈fs,Ce.I64 f.2:=by
 rcases open_slice_pairs ht he ce o0 o1 c0 c1 h with ⟨hcs,_⟩|⟨a,len,cap,m,n,V0,V1,D0,D1,P0,P1,hcs,_,hl,hmx,hmm,_,hx⟩
 ·injection hcs with hcs _
  exact ⟨none,[],0,hcs,Rd.nil_,by simp,by omega,fun _=>rfl,by simp⟩
 ·injection hcs with hcs _
  simp at hmm
  obtain ⟨fs,hfl,hfx⟩:=list_of (m:=len) (Q:=fun i (f:List UInt8 × Int)=>w.cell? (a.add (i*2))=some (.string ⟨⟨f.1⟩⟩)∧w.cell? (a.add (i*2+1))=some (.int .i64 f.2)∧Ce.I64 f.2) fun i hi'=>by
   obtain ⟨k0,k1,t0,t1⟩:=hx i zm
   rw [h0] at t0
   rw [h1] at t1
   obtain ⟨s,e0,_,_⟩:=DataW.trod_string hs t0
   obtain ⟨b,e1,_,wb⟩:=DataW.trod_int hi t1
   injection e0 with e0 _
   injection e1 with e1 _
   exact ⟨(s.data.toList,b),by rw [k0,e0],by rw [k1,e1],bounds_i64 wb⟩
  refine ⟨some a,fs,cap,by rw [hfl,hcs],rd_of_cells fun q v hq=>?_,by omega,by unfold maxLen at hmx;omega,fun hh=>(by cases hh),fun f hf=>?_⟩
  ·have hql:q<fs.length*2:=by
    rcases Nat.lt_or_ge q (fs.length*2) with hlt|hge
    ·exact hlt
    ·rw [List.getElem?_eq_none (by rw [Ce.fv_length];exact hge)] at hq;cases hq
   obtain ⟨i,j,hj,rfl⟩:∃ i j,j<2∧q=i*2+j:=⟨q / 2,q % 2,by omega,by omega⟩
   have hil:i<fs.length:=by omega
   obtain ⟨k0,k1,_⟩:=hfx i hil
   unfold Ce.fv at hq
   rw [Ce.rows_get Ce.fcell Ce.fcell_length hil hj] at hq
   match j,hj with
   | 0,_=>
    injection hq with hq
    rw [← hq]
    exact k0
   | 1,_=>
    injection hq with hq
    rw [← hq]
    exact k1
  ·obtain ⟨i,hi',rfl⟩:=List.getElem_of_mem hf
   exact (hfx i hi').2.2
def TpW (w:World) (t:Ce.Tp):Prop:=Rd w w.heap.size t.A (Ce.fv t.fs)∧t.fs.length≤t.c∧t.c≤9223372036854775807∧(t.A=none→t.c=0)∧Ce.TpOk t
theorem open_types {r:Reach} {b0:Nat} {t e tk ti tf ef ts:TypeId} {g0 g1 g2 g3 f0 f1:Field} {v:Value} {d:DataW H} {p:List MemPlace} (ht:P.underlying t=some (.slice e)) (he:P.underlying e=some (.struct #[g0,g1,g2,g3]))
  (ce:P.cellsOf e=4) (o0:g0.offset=0) (o1:g1.offset=1) (o2:g2.offset=2) (o3:g3.offset=3) (c0:P.cellsOf g0.type=1) (c1:P.cellsOf g1.type=1) (c2:P.cellsOf g2.type=1) (c3:P.cellsOf g3.type=1)
  (h0:g0.type=tk) (h1:g1.type=ti) (h2:g2.type=ti) (h3:g3.type=tf) (hk:P.underlying tk=some (.int .u8)) (hi:P.underlying ti=some (.int .i64))
  (hf:P.underlying tf=some (.slice ef)) (hef:P.underlying ef=some (.struct #[f0,f1])) (cef:P.cellsOf ef=2) (of0:f0.offset=0) (of1:f1.offset=1) (cf0:P.cellsOf f0.type=1) (cf1:P.cellsOf f1.type=1) (hf0:f0.type=ts) (hf1:f1.type=ti) (hs:P.underlying ts=some .string)
  (hv:Value.okWide P w r b0 t v) (h:DataW.Trod enc P w base (fun _=>true) true t v d p) :
  ∃ (A:Option Addr) (T:List Ce.Tp) (c:Nat),v = .slice A T.length c∧Rd w w.heap.size A (Ce.tv T)∧T.length≤c∧c≤9223372036854775807∧(A=none→c=0)∧∀ x∈T,TpW w x:=by
 obtain ⟨a,len,cap,rfl⟩:=okWide_slice ht hv
 obtain ⟨fuel,hm⟩:=h
 rcases open_slice ht hm with ⟨hcs,_⟩|⟨a,len,cap,m,n,D,Pl,hcs,hb,hl,hmx,hmm,_,hx⟩
 ·injection hcs with hcs _
  exact ⟨none,[],0,hcs,Rd.nil_,by simp,by omega,fun _=>rfl,by simp⟩
 ·injection hcs with hcs _
  simp at hmm
  obtain ⟨T,hTl,hTx⟩:=list_of (m:=len) (Q:=fun i (x:Ce.Tp)=>(∀ j v,x.v[j]?=some v→w.cell? (a.add (i*4+j))=some v)∧TpW w x) fun i hi'=>by
   obtain ⟨cs',e1,e2⟩:=hx i zm
   rw [ce] at e1
   obtain ⟨_,hlen,hcell⟩:=World.cells?_some e1
   obtain ⟨xs,k,hk',hxy,_,hxl,hg⟩:=DataW.trod_struct he e2
   match xs,hxl,cs',hlen with
   | [y0,y1,y2,y3],_,[v0,v1,v2,v3],_=>
    have q0:=hg 0 g0 rfl
    have q1:=hg 1 g1 rfl
    have q2:=hg 2 g2 rfl
    have q3:=hg 3 g3 rfl
    simp [o0,c0] at q0
    simp [o1,c1] at q1
    simp [o2,c2] at q2
    simp [o3,c3] at q3
    rw [h0] at q0
    rw [h1] at q1
    rw [h2] at q2
    rw [h3] at q3
    obtain ⟨kd,z0,_,w0⟩:=DataW.trod_int hk q0
    obtain ⟨el,z1,_,w1⟩:=DataW.trod_int hi q1
    obtain ⟨ln,z2,_,w2⟩:=DataW.trod_int hi q2
    obtain ⟨A,fs,c,z3,r1,r2,r3,r4,r5⟩:=open_fields_cell hf hef cef of0 of1 cf0 cf1 hf0 hf1 hs hi q3
    injection z0 with z0 _
    injection z1 with z1 _
    injection z2 with z2 _
    have b0:=bounds_u8 w0
    refine ⟨⟨kd,el,ln,fs,A,c⟩,fun j v hj=>?_,r1,r2,r3,r4,⟨by show 0≤kd∧kd<256;omega,bounds_i64 w1,bounds_i64 w2,r5⟩⟩
    have hj4:j<4:=(List.getElem?_eq_some_iff.1 hj).1
    have e:=hcell j hj4
    rw [add_add] at e
    rw [e,← hj,z0,z1,z2,z3]
    rfl
  refine ⟨some a,T,cap,by rw [hTl,hcs],rd_of_cells fun q v hq=>?_,by omega,by unfold maxLen at hmx;omega,fun hh=>(by cases hh),fun x hx'=>?_⟩
  ·have hql:q<T.length*4:=by
    rcases Nat.lt_or_ge q (T.length*4) with hlt|hge
    ·exact hlt
    ·rw [List.getElem?_eq_none (by rw [Ce.tv_length];exact hge)] at hq;cases hq
   obtain ⟨i,j,hj,rfl⟩:∃ i j,j<4∧q=i*4+j:=⟨q / 4,q % 4,by omega,by omega⟩
   have hil:i<T.length:=by omega
   unfold Ce.tv at hq
   rw [Ce.rows_get Ce.Tp.v Ce.Tp.v_length hil hj] at hq
   exact (hTx i hil).1 j v hq
  ·obtain ⟨i,hi',rfl⟩:=List.getElem_of_mem hx'
   exact (hTx i hi').2
end
namespace Ce
theorem fv_vis (B:Nat) (fs:List (List UInt8 × Int)):(fv fs).map (vis B)=fv fs:=by
 unfold fv
 rw [List.map_flatMap]
 congr 1
theorem fields_here {w:World} {A:Option Addr} {c:Nat} {fs:List (List UInt8 × Int)} (h:Rd w w.heap.size A (fv fs)) (hc:fs.length≤c) (hm:c≤9223372036854775807) (h0:A=none→c=0) :
  ∃ A' c',vis w.heap.size (.slice A fs.length c) = .slice A' fs.length c'∧RdH (absW w) w.heap.size A' (fv fs)∧(A'=none→c'=0):=by
 obtain ⟨A',c',h1,h2,_,h3,_⟩:=rd_here h (fun hh=>by have:=fv_length fs;rw [hh] at this;simp at this;omega) hc hm h0
 rw [fv_vis] at h2
 exact ⟨A',c',h1,h2,h3⟩
theorem types_vis {w:World}:∀ T:List Tp,(∀ t∈T,TpW w t)→∃ T':List Tp,T'.length=T.length∧(tv T).map (vis w.heap.size)=tv T'∧∀ t∈T',RdH (absW w) w.heap.size t.A (fv t.fs)∧(t.A=none→t.c=0)∧TpOk t∧t.fs.length≤9223372036854775807
 | [],_=>⟨[],rfl,rfl,by simp⟩
 | t :: T,h=>by
  obtain ⟨T',i1,i2,i3⟩:=types_vis T fun x hx=>h x (List.mem_cons_of_mem _ hx)
  obtain ⟨t1,t2,t3,t4,t5⟩:=h t List.mem_cons_self
  obtain ⟨A',c',e1,e2,e3⟩:=fields_here t1 t2 t3 t4
  refine ⟨⟨t.kd,t.el,t.ln,t.fs,A',c'⟩ :: T',by simp [i1],?_,fun x hx=>?_⟩
  ·unfold tv at i2 ⊢
   rw [List.flatMap_cons,List.flatMap_cons,List.map_append,i2]
   congr 1
   unfold Tp.v
   simp only [List.map_cons,List.map_nil,e1]
   rfl
  ·rcases List.mem_cons.1 hx with rfl|hx
   ·exact ⟨e2,e3,t5,by show t.fs.length≤_;omega⟩
   ·exact i3 x hx
theorem types_here {w:World} {A:Option Addr} {c:Nat} {T:List Tp} (h:Rd w w.heap.size A (tv T)) (hc:T.length≤c) (hm:c≤9223372036854775807) (h0:A=none→c=0) (ht:∀ t∈T,TpW w t) :
  ∃ A' c' T',vis w.heap.size (.slice A T.length c) = .slice A' (List.length T') c'∧TabH (absW w) w.heap.size A' T'∧(A'=none→c'=0)∧T'.length≤9223372036854775807∧∀ t∈T',t.fs.length≤9223372036854775807:=by
 obtain ⟨A',c',h1,h2,_,h3,_⟩:=rd_here h (fun hh=>by have:=tv_length T;rw [hh] at this;simp at this;omega) hc hm h0
 obtain ⟨T',i1,i2,i3⟩:=types_vis T ht
 rw [i2] at h2
 exact ⟨A',c',T',by rw [i1];exact h1,⟨h2,fun t ht=>(i3 t ht).1,fun t ht=>(i3 t ht).2.1,fun t ht=>(i3 t ht).2.2.1⟩,h3,by omega,fun t ht=>(i3 t ht).2.2.2⟩
end Ce
end
end Go.Proofs.Ytcpkdjikembpnaa
