/- Parts of the proof of ValueBack: Kp, Ja, Ga, Gb. No condition of its own. -/
import Derived.Test.YtcpkdjikembpnaaWaah
import Derived.Test.YtcpkdjikembpnaaWaai
import Derived.Test.YtcpkdjikembpnaaWaaj
import Derived.Test.YtcpkdjikembpnaaWaak
set_option linter.unusedVariables false
set_option linter.unusedSimpArgs false
set_option maxRecDepth 1000000
set_option maxHeartbeats 4000000
namespace Go.Proofs.Ytcpkdjikembpnaa.Ce
section
open Go.RowKit
def fldB (i:Nat) (f:List UInt8 × Int):Bool:=namedB f.1 && decide (0≤f.2∧f.2<i)
def fldsB (i:Nat) (fs:List (List UInt8 × Int)):Bool:=fs.all (fldB i) && decide ((fs.map (·.1)).Nodup)
def fineB (m i:Nat) (t:Tp):Bool:=
 if t.kd=1∨t.kd=2∨t.kd=3 then decide (t.el=0∧t.ln=0∧t.fs.length=0)
 else if t.kd=4∨t.kd=7 then decide (0≤t.el∧t.el<m∧t.ln=0∧t.fs.length=0)
 else if t.kd=6 then decide (0≤t.el∧t.el<i∧1≤t.ln∧t.ln≤16∧t.fs.length=0)
 else if t.kd=5 then fldsB i t.fs && decide (t.el=0∧t.ln=0∧0<t.fs.length∧t.fs.length≤8)
 else false
theorem fineB_123 {m i:Nat} {t:Tp} (h:t.kd=1∨t.kd=2∨t.kd=3):fineB m i t=decide (t.el=0∧t.ln=0∧t.fs.length=0):=by unfold fineB;rw [if_pos h]
theorem fineB_47 {m i:Nat} {t:Tp} (h:t.kd=4∨t.kd=7):fineB m i t=decide (0≤t.el∧t.el<m∧t.ln=0∧t.fs.length=0):=by unfold fineB;rw [if_neg zm,if_pos h]
theorem fineB_6 {m i:Nat} {t:Tp} (h:t.kd=6):fineB m i t=decide (0≤t.el∧t.el<i∧1≤t.ln∧t.ln≤16∧t.fs.length=0):=by unfold fineB;rw [if_neg zm,if_neg zm,if_pos h]
theorem fineB_5 {m i:Nat} {t:Tp} (h:t.kd=5):fineB m i t=(fldsB i t.fs && decide (t.el=0∧t.ln=0∧0<t.fs.length∧t.fs.length≤8)):=by unfold fineB;rw [if_neg zm,if_neg zm,if_neg zm,if_pos h]
theorem fineB_no {m i:Nat} {t:Tp} (h:¬ (1≤t.kd∧t.kd≤7)):fineB m i t=false:=by unfold fineB;rw [if_neg zm,if_neg zm,if_neg zm,if_neg zm]
theorem fldsB_no {i q:Nat} {fs:List (List UInt8 × Int)} (hq:q<fs.length) (h:fldB i fs[q]=false):fldsB i fs=false:=by
 unfold fldsB
 have:fs.all (fldB i)=false:=by
  rw [List.all_eq_false]
  exact ⟨fs[q],List.getElem_mem _,by rw [h];exact Bool.false_ne_true⟩
 rw [this,Bool.false_and]
theorem fldsB_dup {i q:Nat} {fs:List (List UInt8 × Int)} (hq:q<fs.length) (h:(fs[q]).1∈(fs.take q).map (·.1)):fldsB i fs=false:=by
 unfold fldsB
 have:¬ (fs.map (·.1)).Nodup:=by
  intro hn
  have e:fs.map (·.1)=(fs.take q).map (·.1) ++ ((fs[q]).1 :: (fs.drop (q+1)).map (·.1)):=by
   rw [← List.map_cons (f:=fun x:List UInt8 × Int=>x.1),List.getElem_cons_drop,← List.map_append,List.take_append_drop]
  rw [e,List.nodup_append] at hn
  exact hn.2.2 _ h _ List.mem_cons_self rfl
 rw [decide_eq_false this,Bool.and_false]
section
variable {P:Program} {F:CallE} {lim:Nat} {ops l:List Oper} {f:Fm} {h:Hp} {n:Nat} {dst:Option Tmp} {ty:TypeId} {pos:String} {af:Array Edge} {KO:Fm→Hp→Nat→Prop}
theorem o_look {gd:Option (Nat × Bool)} {x y:Operand} {id c:Nat} {es:Array MapEntry} {ns:List (List UInt8)} {s:List UInt8} (hw:wantsF ops gd f=some true) (hx:lv f x = .map (some id)) (hy:lv f y = .string ⟨⟨s⟩⟩) (hm:mapOf h id=some (es,c)) (he:Es es ns)
  (hk:XO Try.prog F lim ops l (fput f dst (.bool (decide (s∈ns)))) h n KO):XO Try.prog F lim ops (⟨dst,.lookup 171 x y false,ty,pos,af,gd⟩ :: l) f h n KO:=
 o_eff hw (by rw [a_lookup,hx,hy];exact m_look hm he) (by simp [memOp]) hk
theorem o_mput {gd:Option (Nat × Bool)} {x y z:Operand} {id c:Nat} {es:Array MapEntry} {ns:List (List UInt8)} {s:List UInt8} (hw:wantsF ops gd f=some true) (hx:lv f x = .map (some id)) (hy:lv f y = .string ⟨⟨s⟩⟩) (hz:lv f z = .bool true) (hm:mapOf h id=some (es,c)) (he:Es es ns) (hs:s ∉ ns) (hl:lim≤id)
  (hk:XO Try.prog F lim ops l (fput f dst undef) (h.set id (.mp (es.push ⟨.string ⟨⟨s⟩⟩,.bool true,c⟩) (c+1))) n KO):XO Try.prog F lim ops (⟨dst,.mapUpdate 171 x y z,ty,pos,af,gd⟩ :: l) f h n KO:=
 o_eff hw (by rw [a_mapUpdate,hx,hy,hz];exact m_put hl hm he hs) (ok_w hl rfl) hk
end
end
section
open Go.RowKit
variable (k d cl:Nat) (h:Hp) (n:Nat)
theorem pfine_a (hk:30000≤k) (A:Option Addr) (T:List Tp) (c:Nat) (hT:TabH h n A T) (i:Nat) (hi:i<T.length) (hl:T.length≤100) (h5:T[i].kd≠5) :
  SQ k (d+5) cl 115 [.slice A T.length c,.int .i64 i] h n fun v h' n'=>v = .bool (fineB T.length i T[i])∧h'=h∧n'=n:=by
 obtain ⟨id,off,rfl,hid,ht4,ht0,ht1,ht2,ht3⟩:=hT.at_ hi
 have hfd:=hT.fd _ (List.getElem_mem hi)
 have hbd:=hT.bd _ (List.getElem_mem hi)
 obtain ⟨t,htt⟩:∃ t,T[i]=t:=⟨_,rfl⟩
 rw [htt] at h5 ht4 ht0 ht1 ht2 ht3 hfd hbd ⊢
 obtain ⟨kd,el,ln,fs,FA,fc⟩:=t
 dsimp only at h5 ht4 ht0 ht1 ht2 ht3 hfd
 refine enter Try.func115 kz rfl kz rfl rfl rfl ?_
 by_cases h123:kd=1∨kd=2∨kd=3
 ·have hf:fineB T.length i ⟨kd,el,ln,fs,FA,fc⟩=[el,ln,(fs.length:Int)].all (· == 0):=by
   rw [fineB_123 h123,Bool.eq_iff_iff];simp only [decide_eq_true_eq,Bool.and_eq_true,List.all_cons,List.all_nil,Bool.and_true,beq_iff_eq];try omega
  rcases h123 with rfl|rfl|rfl
  all_goals
   (repeat' first|refine zcd ?_|intro K' hK|(with_reducible refine zn hK ?_;clear hK)|((with_reducible apply o_callF (g:=128) w_none);(case ha=>exact ez0);(case hs=>((with_reducible apply zero_ev (l:=[el,ln,(fs.length:Int)]));(case hk=>exact hk);(case hm=>rfl);(case hr=>exact RdH.row zm);(case hl=>simp)));(case' hk=>rintro _ h' n' ⟨rfl,rfl,rfl⟩))|((with_reducible first|apply zo1|apply zo2|apply o_guard rfl|apply x_cond|apply k_e1 rfl|apply k_e2 rfl|apply k_e0 rfl|apply k_e3 rfl|apply k_e4 rfl);(case he=>exact ez1 ht4);(try case hok=>exact ezO);all_goals try (intro hb;(try simp only [hbs,reduceCtorEq] at hb);try exact ezX))|((with_reducible apply o_undef rfl);(case hb=>exact ez0)))
   all_goals exact sw_flat rfl rfl ⟨by rw [hf];simp only [List.all_cons,List.all_nil,Bool.and_true],rfl,rfl⟩
 ·by_cases h47:kd=4∨kd=7
  ·have hf:fineB T.length i ⟨kd,el,ln,fs,FA,fc⟩=(decide (0≤el∧el<(T.length:Int)) && [ln,(fs.length:Int)].all (· == 0)):=by
    rw [fineB_47 h47,Bool.eq_iff_iff];simp only [decide_eq_true_eq,Bool.and_eq_true,List.all_cons,List.all_nil,Bool.and_true,beq_iff_eq];try omega
   cases hw:decide (0≤el∧el<(T.length:Int))
   all_goals
    rw [hw] at hf
    rcases h47 with rfl|rfl
    all_goals
     (repeat' first|refine zcd ?_|intro K' hK|(with_reducible refine zn hK ?_;clear hK)|((with_reducible apply o_callV (g:=127) w_none);(case hx=>exact ez0);(case ha=>exact ez0);(case hs=>exact within_ev ..);(case' hk=>rintro _ h' n' ⟨rfl,rfl,rfl⟩))|((with_reducible apply o_callF (g:=128) w_none);(case ha=>exact ez0);(case hs=>((with_reducible apply zero_ev (l:=[ln,(fs.length:Int)]));(case hk=>exact hk);(case hm=>rfl);(case hr=>exact RdH.row zm);(case hl=>simp)));(case' hk=>rintro _ h' n' ⟨rfl,rfl,rfl⟩))|((with_reducible first|apply zo1|apply zo2|apply o_guard rfl|apply x_cond|apply k_e1 rfl|apply k_e2 rfl|apply k_e0 rfl|apply k_e3 rfl|apply k_e4 rfl);(case he=>exact ez2 ht4 hw);(try case hok=>exact ezO);all_goals try (intro hb;(try simp only [hbs,reduceCtorEq] at hb);try exact ezX))|((with_reducible apply o_undef rfl);(case hb=>exact ez0)))
     all_goals exact sw_flat rfl rfl ⟨by rw [hf];simp only [List.all_cons,List.all_nil,Bool.and_true,Bool.true_and,Bool.false_and],rfl,rfl⟩
  ·by_cases h6:kd=6
   ·have hf:fineB T.length i ⟨kd,el,ln,fs,FA,fc⟩=(decide (0≤el∧el<(i:Int)) && (decide (0≤ln - 1∧ln - 1<16) && [(fs.length:Int)].all (· == 0))):=by
     rw [fineB_6 h6,Bool.eq_iff_iff];simp only [decide_eq_true_eq,Bool.and_eq_true,List.all_cons,List.all_nil,Bool.and_true,beq_iff_eq];try omega
    subst h6
    cases hw:decide (0≤el∧el<(i:Int))
    ·rw [hw] at hf
     (repeat' first|refine zcd ?_|intro K' hK|(with_reducible refine zn hK ?_;clear hK)|((with_reducible apply o_callV (g:=127) w_none);(case hx=>exact ez0);(case ha=>exact ez0);(case hs=>exact within_ev ..);(case' hk=>rintro _ h' n' ⟨rfl,rfl,rfl⟩))|((with_reducible first|apply zo1|apply zo2|apply o_guard rfl|apply x_cond|apply k_e1 rfl|apply k_e2 rfl|apply k_e0 rfl|apply k_e3 rfl|apply k_e4 rfl);(case he=>exact ez2 ht4 hw);(try case hok=>exact ezO);all_goals try (intro hb;(try simp only [hbs,reduceCtorEq] at hb);try exact ezX))|((with_reducible apply o_undef rfl);(case hb=>exact ez0)))
     all_goals exact sw_flat rfl rfl ⟨by rw [hf];rfl,rfl,rfl⟩
    ·rw [hw] at hf
     by_cases hlm : -9223372036854775807≤ln∧ln≤9223372036854775807
     ·cases hw2:decide (0≤ln - 1∧ln - 1<16)
      all_goals
       rw [hw2] at hf
       (repeat' first|refine zcd ?_|intro K' hK|(with_reducible refine zn hK ?_;clear hK)|((with_reducible apply o_callV (g:=127) w_none);(case hx=>exact ez0);(case ha=>exact ez0);(case hs=>exact within_ev ..);(case' hk=>rintro _ h' n' ⟨rfl,rfl,rfl⟩))|((with_reducible apply o_callF (g:=128) w_none);(case ha=>exact ez0);(case hs=>((with_reducible apply zero_ev (l:=[(fs.length:Int)]));(case hk=>exact hk);(case hm=>rfl);(case hr=>exact RdH.row zm);(case hl=>simp)));(case' hk=>rintro _ h' n' ⟨rfl,rfl,rfl⟩))|((with_reducible first|apply zo1|apply zo2|apply o_guard rfl|apply x_cond|apply k_e1 rfl|apply k_e2 rfl|apply k_e0 rfl|apply k_e3 rfl|apply k_e4 rfl);(case he=>exact ez3 ht4 hw hw2);(try case hok=>exact ezO);all_goals try (intro hb;(try simp only [hbs,reduceCtorEq] at hb);try exact ezX))|((with_reducible apply o_undef rfl);(case hb=>exact ez0)))
       all_goals exact sw_flat rfl rfl ⟨by rw [hf];simp only [List.all_cons,List.all_nil,Bool.and_true,Bool.true_and,Bool.false_and],rfl,rfl⟩
     ·have e1:ln = -9223372036854775808:=by have:=hbd.2.2.1;unfold I64 at this;dsimp only at this;omega
      subst e1
      have hw2:decide ((0:Int)≤9223372036854775807∧(9223372036854775807:Int)<16)=false:=rfl
      have hws:IntKind.wrap .i64 (-9223372036854775808 - 1)=9223372036854775807:=rfl
      have hws2:IntKind.wrap .i64 (-9223372036854775809)=9223372036854775807:=rfl
      (repeat' first|refine zcd ?_|intro K' hK|(with_reducible refine zn hK ?_;clear hK)|((with_reducible apply o_callV (g:=127) w_none);(case hx=>exact ez0);(case ha=>exact ez0);(case hs=>exact within_ev ..);(case' hk=>rintro _ h' n' ⟨rfl,rfl,rfl⟩))|((with_reducible first|apply zo1|apply zo2|apply o_guard rfl|apply x_cond|apply k_e1 rfl|apply k_e2 rfl|apply k_e0 rfl|apply k_e3 rfl|apply k_e4 rfl);(case he=>(intros;simp (disch:=first|assumption|omega|rfl|decide) only [go_sem,seval,tys,ht4,hw,hws,hws2,(hw2)] <;> rfl));(try case hok=>exact ezO);all_goals try (intro hb;(try simp only [hbs,reduceCtorEq] at hb);try exact ezX))|((with_reducible apply o_undef rfl);(case hb=>exact ez0)))
      all_goals first|exact absurd ‹True∧False› (fun h=>h.2)|exact sw_flat rfl rfl ⟨by rw [hf];rfl,rfl,rfl⟩
   ·have hf:fineB T.length i ⟨kd,el,ln,fs,FA,fc⟩=false:=fineB_no (by dsimp only;omega)
    (repeat' first|refine zcd ?_|intro K' hK|(with_reducible refine zn hK ?_;clear hK)|fail|((with_reducible first|apply zo1|apply zo2|apply o_guard rfl|apply x_cond|apply k_e1 rfl|apply k_e2 rfl|apply k_e0 rfl|apply k_e3 rfl|apply k_e4 rfl);(case he=>exact ez1 ht4);(try case hok=>exact ezO);all_goals try (intro hb;(try simp only [hbs,reduceCtorEq] at hb);try exact ezX))|((with_reducible apply o_undef rfl);(case hb=>exact ez0)))
    all_goals exact sw_flat rfl rfl ⟨by rw [hf],rfl,rfl⟩
end
section
open Go.RowKit
def sumF (now:List Int) (fs:List (List UInt8 × Int)):Int:=fs.foldl (fun a f=>a+now.getD f.2.toNat 0) 0
def wHead (below now:List Int) (t:Tp):Int:=1+(if t.kd=4 then below.getD t.el.toNat 0 else if t.kd=7 then 16*below.getD t.el.toNat 0 else if t.kd=6 then t.ln*now.getD t.el.toNat 0 else 0)
def wOne (below now:List Int) (t:Tp):Int:=min (wHead below now t+sumF now t.fs) 5001
def wRow (below:List Int) (T:List Tp):List Int:=T.foldl (fun now t=>now ++ [wOne below now t]) []
def zeros (m:Nat):List Int:=List.replicate m 0
def wD (T:List Tp):Nat→List Int
 | 0=>wRow (zeros T.length) T
 | d+1=>wRow (wD T d) T
theorem wRow_snoc (below:List Int) (T:List Tp) (t:Tp):wRow below (T ++ [t])=wRow below T ++ [wOne below (wRow below T) t]:=by unfold wRow;rw [List.foldl_append];rfl
theorem wRow_length' (below:List Int):∀ (T:List Tp) (a:List Int),(T.foldl (fun now t=>now ++ [wOne below now t]) a).length=a.length+T.length
 | [],a=>by simp
 | t :: T,a=>by rw [List.foldl_cons,wRow_length' below T,List.length_append,List.length_cons];simp;omega
theorem wRow_length (below:List Int) (T:List Tp):(wRow below T).length=T.length:=by unfold wRow;rw [wRow_length'];simp
theorem wRow_take (below:List Int) {T:List Tp} {i:Nat} (hi:i<T.length):wRow below (T.take (i+1))=wRow below (T.take i) ++ [wOne below (wRow below (T.take i)) T[i]]:=by rw [List.take_succ_eq_append_getElem hi,wRow_snoc]
theorem wRow_tlen (below:List Int) {T:List Tp} {i:Nat} (hi:i≤T.length):(wRow below (T.take i)).length=i:=by rw [wRow_length,List.length_take];omega
def Bnd (l:List Int):Prop:=∀ x∈l,0≤x∧x≤5001
theorem Bnd.getD {l:List Int} (h:Bnd l) (i:Nat):0≤l.getD i 0∧l.getD i 0≤5001:=by
 rw [List.getD_eq_getElem?_getD]
 by_cases hi:i<l.length
 ·rw [List.getElem?_eq_getElem hi];exact h _ (List.getElem_mem _)
 ·rw [List.getElem?_eq_none zm];simp
theorem zeros_bnd (m:Nat):Bnd (zeros m):=fun x hx=>by rw [List.eq_of_mem_replicate hx];omega
theorem sumF_bnd {now:List Int} (h:Bnd now) (fs:List (List UInt8 × Int)):0≤sumF now fs∧sumF now fs≤5001*fs.length:=by
 have key:∀ (fs:List (List UInt8 × Int)) (a:Int),a≤fs.foldl (fun a f=>a+now.getD f.2.toNat 0) a∧fs.foldl (fun a f=>a+now.getD f.2.toNat 0) a≤a+5001*fs.length:=by
  intro fs
  induction fs with
  | nil=>intro a;simp
  | cons f fs ih=>
   intro a
   have h1:=ih (a+now.getD f.2.toNat 0)
   have h2:=h.getD f.2.toNat
   rw [List.foldl_cons,List.length_cons]
   omega
 have:=key fs 0
 unfold sumF
 omega
theorem sumF_snoc (now:List Int) (fs:List (List UInt8 × Int)) (f:List UInt8 × Int):sumF now (fs ++ [f])=sumF now fs+now.getD f.2.toNat 0:=by unfold sumF;rw [List.foldl_append];rfl
theorem sumF_take (now:List Int) {fs:List (List UInt8 × Int)} {q:Nat} (hq:q<fs.length):sumF now (fs.take (q+1))=sumF now (fs.take q)+now.getD (fs[q]).2.toNat 0:=by rw [List.take_succ_eq_append_getElem hq,sumF_snoc]
def Fine (T:List Tp):Prop:=∀ i (hi:i<T.length),fineB T.length i T[i]=true
theorem fine_len {m i:Nat} {t:Tp} (h:fineB m i t=true):t.fs.length≤8:=by
 unfold fineB at h
 split at h
 ·simp at h;rw [h.2.2];simp
 ·split at h
  ·simp at h;rw [h.2.2.2];simp
  ·split at h
   ·simp at h;rw [h.2.2.2.2];simp
   ·split at h
    ·simp at h;exact h.2.2.2.2
    ·cases h
theorem fine_nofs {m i:Nat} {t:Tp} (h:fineB m i t=true) (h5:t.kd≠5):t.fs=[]:=by
 unfold fineB at h
 split at h
 ·simp at h;exact h.2.2
 ·split at h
  ·simp at h;exact h.2.2.2
  ·split at h
   ·simp at h;exact h.2.2.2.2
   ·cases h
theorem fine_el {m i:Nat} {t:Tp} (h:fineB m i t=true) (hk:t.kd=4∨t.kd=7):0≤t.el∧t.el<m:=by
 rw [fineB_47 hk] at h;simp at h;omega
theorem fine_arr {m i:Nat} {t:Tp} (h:fineB m i t=true) (hk:t.kd=6):0≤t.el∧t.el<i∧1≤t.ln∧t.ln≤16:=by
 rw [fineB_6 hk] at h;simp at h;omega
theorem fine_fld {m i:Nat} {t:Tp} (h:fineB m i t=true) {q:Nat} (hq:q<t.fs.length):0≤(t.fs[q]).2∧(t.fs[q]).2<i:=by
 by_cases h5:t.kd=5
 ·rw [fineB_5 h5,Bool.and_eq_true] at h
  have h1:=h.1
  unfold fldsB at h1
  rw [Bool.and_eq_true,List.all_eq_true] at h1
  have:=h1.1 _ (List.getElem_mem hq)
  unfold fldB at this
  simp at this
  exact this.2
 ·rw [fine_nofs h h5] at hq;simp at hq
theorem wHead_bnd {m i:Nat} {below now:List Int} {t:Tp} (hb:Bnd below) (hn:Bnd now) (hf:fineB m i t=true):1≤wHead below now t∧wHead below now t≤100000:=by
 have h1:=hb.getD t.el.toNat
 have h2:=hn.getD t.el.toNat
 unfold wHead
 split
 ·omega
 ·split
  ·omega
  ·split
   ·rename_i h6
    have h3:=fine_arr hf h6
    have e1:0≤t.ln*now.getD t.el.toNat 0:=Int.mul_nonneg zm h2.1
    have e2:t.ln*now.getD t.el.toNat 0≤16*5001:=Int.mul_le_mul h3.2.2.2 h2.2 h2.1 zm
    omega
   ·omega
theorem wOne_bnd {m i:Nat} {below now:List Int} {t:Tp} (hb:Bnd below) (hn:Bnd now) (hf:fineB m i t=true):1≤wOne below now t∧wOne below now t≤5001:=by
 have h1:=wHead_bnd hb hn hf
 have h2:=sumF_bnd hn t.fs
 unfold wOne
 omega
theorem wRow_bnd {below:List Int} {T:List Tp} (hb:Bnd below) (hf:Fine T):∀ i,i≤T.length→Bnd (wRow below (T.take i))
 | 0,_=>fun x hx=>by simp [wRow] at hx
 | i+1,hi=>by
  have ih:=wRow_bnd hb hf i zm
  rw [wRow_take below zm]
  intro x hx
  rcases List.mem_append.1 hx with hx|hx
  ·exact ih x hx
  ·have hx':=List.mem_singleton.1 hx
   have:=wOne_bnd hb ih (hf i zm)
   rw [hx'];omega
theorem wRow_bnd' {below:List Int} {T:List Tp} (hb:Bnd below) (hf:Fine T):Bnd (wRow below T):=by have:=wRow_bnd hb hf T.length (Nat.le_refl _);rwa [List.take_length] at this
theorem wD_bnd {T:List Tp} (hf:Fine T):∀ d,Bnd (wD T d)
 | 0=>wRow_bnd' (zeros_bnd _) hf
 | d+1=>wRow_bnd' (wD_bnd hf d) hf
theorem wD_length (T:List Tp):∀ d,(wD T d).length=T.length
 | 0=>wRow_length _ _
 | d+1=>wRow_length _ _
def pad (below:List Int) (T:List Tp) (i:Nat):List Int:=wRow below (T.take i) ++ zeros (T.length - i)
theorem pad_zero (below:List Int) (T:List Tp):pad below T 0=zeros T.length:=by simp [pad,wRow]
theorem pad_all (below:List Int) (T:List Tp):pad below T T.length=wRow below T:=by simp [pad,zeros]
theorem pad_length (below:List Int) {T:List Tp} {i:Nat} (hi:i≤T.length):(pad below T i).length=T.length:=by unfold pad zeros;rw [List.length_append,wRow_tlen below hi,List.length_replicate];omega
theorem pad_getD (below:List Int) {T:List Tp} {i j:Nat} (hi:i≤T.length) (hj:j<i):(pad below T i).getD j 0=(wRow below (T.take i)).getD j 0:=by
 unfold pad
 rw [List.getD_eq_getElem?_getD,List.getElem?_append_left (by rw [wRow_tlen below hi];exact hj),List.getD_eq_getElem?_getD]
theorem pad_succ (below:List Int) {T:List Tp} {i:Nat} (hi:i<T.length):(pad below T i).set i (wOne below (wRow below (T.take i)) T[i])=pad below T (i+1):=by
 unfold pad zeros
 have hl:=wRow_tlen below (Nat.le_of_lt hi)
 rw [List.set_append_right _ _ zm,hl,Nat.sub_self,wRow_take below hi,show T.length - i=(T.length - (i+1))+1 from by omega,List.replicate_succ]
 simp
theorem iv_set (l:List Int) (i:Nat) (x:Int):(iv l).set i (.int .i64 x)=iv (l.set i x):=by unfold iv;rw [List.map_set]
theorem iv_lget {l:List Int} {i:Nat} (hi:i<l.length):lget (iv l) i=some (.int .i64 (l.getD i 0)):=by
 rw [lget_eq,iv_get hi,List.getD_eq_getElem?_getD,List.getElem?_eq_getElem hi];rfl
end
section
open Go.RowKit
def Blk (O:Value) (b:Nat):Prop:=∀ len c,O ≠ .slice (some ⟨b,0,none⟩) len c
theorem blk_new {b m len c:Nat} (h:b<m):Blk (.slice (some ⟨m,0,none⟩) len c) b:=by
 intro len2 c2 hh
 injection hh with hh
 injection hh with hh
 injection hh with hh
 omega
def IntsV (l:List Int) (h:Hp) (n:Nat) (v:Value) (h':Hp) (n':Nat):Prop:=
 (l=[]∧v = .slice none 0 0∧h'=h∧n'=n)∨(l≠[]∧v = .slice (some ⟨n,0,none⟩) l.length l.length∧h'=h.set n (.row 3 false (iv l))∧n'=n+1)
def OwnI (l:List Int) (O:Value) (h':Hp) (lo n':Nat):Prop:=
 (l=[]∧O = .slice none 0 0)∨(l≠[]∧∃ id,lo≤id∧id<n'∧O = .slice (some ⟨id,0,none⟩) l.length l.length∧rowOf h' id=some (3,false,iv l))
theorem iv_app1 (l:List Int) (x:Int):iv (l ++ [x])=iv l ++ [.int .i64 x]:=by simp [iv]
def bw (l:List Bool):List Value:=l.map Value.bool
theorem bw_length (l:List Bool):(bw l).length=l.length:=by simp [bw]
theorem mk_falses (m:Nat):(List.replicate m [Value.bool false]).flatten=bw (List.replicate m false):=by unfold bw;rw [List.map_replicate];induction m with|zero=>rfl|succ m ih=>rw [List.replicate_succ,List.flatten_cons,ih,List.replicate_succ];rfl
theorem bw_lget {l:List Bool} {i:Nat} {b:Bool} (hi:l[i]?=some b):lget (bw l) i=some (.bool b):=by rw [lget_eq];unfold bw;rw [List.getElem?_map,hi];rfl
theorem bw_set {l:List Bool} {i:Nat} (hi:i<l.length):overAt i [Value.bool true] (bw l)=some (bw (l.set i true)):=by
 rw [overAt_one (by rw [bw_length];exact hi)]
 unfold bw
 rw [List.map_set]
end
section
open Go.RowKit
inductive V where
 | mk (kd i:Int) (s:List UInt8) (l:List V) (c:Bool)
def V.kd:V→Int|.mk kd _ _ _ _=>kd
def V.i:V→Int|.mk _ i _ _ _=>i
def V.s:V→List UInt8|.mk _ _ s _ _=>s
def V.l:V→List V|.mk _ _ _ l _=>l
def V.c:V→Bool|.mk _ _ _ _ c=>c
mutual
def V.sz:V→Nat|.mk _ _ _ l _=>1+V.szs l
def V.szs:List V→Nat
 | []=>0
 | v :: l=>v.sz+V.szs l
end
theorem V.sz_pos (v:V):1≤v.sz:=by cases v;unfold V.sz;omega
theorem V.szs_mem:∀ {l:List V} {v:V},v∈l→v.sz≤V.szs l
 | [],_,h=>by cases h
 | w :: l,v,h=>by
  unfold V.szs
  rcases List.mem_cons.1 h with rfl|h
  ·omega
  ·have:=V.szs_mem h;omega
theorem V.szs_len:∀ (l:List V),l.length≤V.szs l
 | []=>Nat.le_refl _
 | v :: l=>by
  have h1:=V.szs_len l
  have h2:=v.sz_pos
  unfold V.szs
  rw [List.length_cons]
  omega
theorem V.sz_kid {v w:V} (h:w∈v.l):w.sz<v.sz:=by
 cases v with
 | mk kd i s l c=>
  have:=V.szs_mem (show w∈l from h)
  unfold V.sz at *
  omega
theorem V.sz_len (v:V):v.l.length<v.sz:=by
 cases v with
 | mk kd i s l c=>
  have:=V.szs_len l
  show l.length<V.sz (.mk kd i s l c)
  unfold V.sz
  omega
def Bd:Nat→V→Prop
 | 0,_=>False
 | N+1,v=>v.l.length≤20000∧∀ w∈v.l,Bd N w
theorem Bd.of_sz:∀ (N:Nat) (v:V),v.sz≤N→v.sz≤20000→Bd N v
 | 0,v,h,_=>by have:=v.sz_pos;omega
 | N+1,v,h,h2=>⟨by have:=v.sz_len;omega,fun w hw=>Bd.of_sz N w (by have:=V.sz_kid hw;omega) (by have:=V.sz_kid hw;omega)⟩
theorem V.eq_iff {v w:V}:v=w↔v.kd=w.kd∧v.i=w.i∧v.s=w.s∧v.c=w.c∧v.l=w.l:=by
 cases v;cases w
 simp only [V.kd,V.i,V.s,V.c,V.l,V.mk.injEq]
 constructor
 ·rintro ⟨a,b,c,d,e⟩;exact ⟨a,b,c,e,d⟩
 ·rintro ⟨a,b,c,d,e⟩;exact ⟨a,b,c,e,d⟩
open Classical in
noncomputable def sameV (v w:V):Bool:=decide (v=w)
theorem sameV_t {v:V}:sameV v v=true:=by unfold sameV;simp
theorem sameV_f {v w:V} (h:v≠w):sameV v w=false:=by unfold sameV;simp [h]
theorem sameV_iff {v w:V}:sameV v w=true↔v=w:=by unfold sameV;simp
abbrev vcell (kd i:Int) (s:List UInt8) (A:Option Addr) (n cc:Nat) (c:Bool):List Value:=[.int .u8 kd,.int .i64 i,.string ⟨⟨s⟩⟩,.slice A n cc,.bool c]
inductive VH (h:Hp) (B:Nat):V→List Value→Prop
 | leaf (kd i:Int) (s:List UInt8) (c:Bool) (A:Option Addr) (cc:Nat) (h0:A=none→cc=0):VH h B (.mk kd i s [] c) (vcell kd i s A 0 cc c)
 | node (kd i:Int) (s:List UInt8) (c:Bool) (l:List V) (id off cc:Nat) (cs:Nat→List Value) (hl:l≠[]) (hid:id<B) (hc:∀ j,j<l.length→cellsAt h id (off+j*5) 5=some (cs j))
   (hk:∀ j (hj:j<l.length),VH h B l[j] (cs j)):VH h B (.mk kd i s l c) (vcell kd i s (some ⟨id,off,none⟩) l.length cc c)
theorem cellsAt_keep {h h':Hp} {id off k:Nat} (e:h'.get id=h.get id):cellsAt h' id off k=cellsAt h id off k:=by unfold cellsAt;rw [show rowOf h' id=rowOf h id from by unfold rowOf;rw [e]]
theorem VH.keep {h h':Hp} {B B':Nat} {v:V} {cs:List Value} (hv:VH h B v cs) (hB:B≤B') (hk:∀ b,b<B→h'.get b=h.get b):VH h' B' v cs:=by
 induction hv with
 | leaf kd i s c A cc h0=>exact .leaf kd i s c A cc h0
 | node kd i s c l id off cc cs hl hid hc _ ih=>exact .node kd i s c l id off cc cs hl zm (fun j hj=>by rw [cellsAt_keep (hk id hid)];exact hc j hj) ih
theorem VH.more {h:Hp} {B B':Nat} {v:V} {cs:List Value} (hv:VH h B v cs) (hB:B≤B'):VH h B' v cs:=hv.keep hB fun _ _=>rfl
theorem VH.set {h:Hp} {B id:Nat} {v:V} {cs:List Value} (hv:VH h B v cs) (hB:B≤id) (x:AObj):VH (h.set id x) B v cs:=hv.keep (Nat.le_refl _) fun b hb=>Hp.get_ne _ _ zm
theorem VH.inv {h:Hp} {B:Nat} {v:V} {cs:List Value} (hv:VH h B v cs):∃ A cc,cs=vcell v.kd v.i v.s A v.l.length cc v.c∧(A=none→cc=0)∧(v.l≠[]→∃ id off,A=some ⟨id,off,none⟩∧id<B∧∃ ks:Nat→List Value,(∀ j,j<v.l.length→cellsAt h id (off+j*5) 5=some (ks j))∧∀ j (hj:j<v.l.length),VH h B v.l[j] (ks j)):=by
 cases hv with
 | leaf kd i s c A cc h0=>exact ⟨A,cc,rfl,h0,fun h=>absurd rfl h⟩
 | node kd i s c l id off cc cs hl hid hc hk=>exact ⟨some ⟨id,off,none⟩,cc,rfl,(fun h=>nomatch h),fun _=>⟨id,off,rfl,hid,cs,hc,hk⟩⟩
def LH (h:Hp) (B:Nat) (A:Option Addr) (l:List V):Prop:=
 l≠[]→∃ id off,A=some ⟨id,off,none⟩∧id<B∧∃ ks:Nat→List Value,(∀ j,j<l.length→cellsAt h id (off+j*5) 5=some (ks j))∧∀ j (hj:j<l.length),VH h B l[j] (ks j)
theorem LH.keep {h h':Hp} {B B':Nat} {A:Option Addr} {l:List V} (hl:LH h B A l) (hB:B≤B') (hk:∀ b,b<B→h'.get b=h.get b):LH h' B' A l:=fun hn=>by
 obtain ⟨id,off,e,hid,ks,h1,h2⟩:=hl hn
 exact ⟨id,off,e,by omega,ks,fun j hj=>by rw [cellsAt_keep (hk id hid)];exact h1 j hj,fun j hj=>(h2 j hj).keep hB hk⟩
theorem LH.more {h:Hp} {B B':Nat} {A:Option Addr} {l:List V} (hl:LH h B A l) (hB:B≤B'):LH h B' A l:=hl.keep hB fun _ _=>rfl
theorem LH.set {h:Hp} {B id:Nat} {A:Option Addr} {l:List V} (hl:LH h B A l) (hB:B≤id) (x:AObj):LH (h.set id x) B A l:=hl.keep (Nat.le_refl _) fun b hb=>Hp.get_ne _ _ zm
theorem VH.cut {h:Hp} {B:Nat} {v:V} {cs:List Value} (hv:VH h B v cs):∃ A cc,cs=vcell v.kd v.i v.s A v.l.length cc v.c∧(A=none→cc=0)∧LH h B A v.l:=hv.inv
theorem LH.at_ {h:Hp} {B:Nat} {A:Option Addr} {l:List V} (hl:LH h B A l) {q:Nat} (hq:q<l.length):∃ id off A1 cc,A=some ⟨id,off,none⟩∧id<B∧cellsAt h id (off+q*5) 5=some (vcell l[q].kd l[q].i l[q].s A1 l[q].l.length cc l[q].c)∧VH h B l[q] (vcell l[q].kd l[q].i l[q].s A1 l[q].l.length cc l[q].c):=by
 obtain ⟨id,off,e,hid,ks,h1,h2⟩:=hl (fun h=>by rw [h] at hq;exact absurd hq (Nat.not_lt_zero _))
 obtain ⟨A1,cc,e2, -, -⟩:=(h2 q hq).inv
 have a:=h1 q hq
 have b:=h2 q hq
 rw [e2] at a b
 exact ⟨id,off,A1,cc,e,hid,a,b⟩
end
section
open Go.RowKit
theorem b_self (s:List UInt8):(ByteArray.toList ⟨⟨s⟩⟩ == ByteArray.toList ⟨⟨s⟩⟩)=true:=beq_self_eq_true _
theorem b_diff {s t:List UInt8} (h:s≠t):(ByteArray.toList ⟨⟨s⟩⟩ == ByteArray.toList ⟨⟨t⟩⟩)=false:=by
 rw [beq_eq_false_iff_ne]
 intro e
 exact h (by simpa [ByteArray.toList_eq] using e)
theorem b_bneqx (a b:Bool) (h:Hp) (n:Nat):mBin Try.prog .neq 4 (.bool a) (.bool b) h n=some ⟨.bool (a != b),h,n,[],[]⟩:=by cases a <;> cases b <;> rfl
theorem b_beqlx (a b:Bool) (h:Hp) (n:Nat):mBin Try.prog .eql 4 (.bool a) (.bool b) h n=some ⟨.bool (a == b),h,n,[],[]⟩:=by cases a <;> cases b <;> rfl
theorem b_beql0 (a:Bool) (h:Hp) (n:Nat):mBin Try.prog .eql 4 (.bool a) (.bool a) h n=some ⟨.bool true,h,n,[],[]⟩:=by cases a <;> rfl
theorem b_bneq0 (a:Bool) (h:Hp) (n:Nat):mBin Try.prog .neq 4 (.bool a) (.bool a) h n=some ⟨.bool false,h,n,[],[]⟩:=by cases a <;> rfl
theorem V.ext {v w:V} (h1:v.kd=w.kd) (h2:v.i=w.i) (h3:v.s=w.s) (h4:v.c=w.c) (h5:v.l=w.l):v=w:=V.eq_iff.2 ⟨h1,h2,h3,h4,h5⟩
open Classical in
noncomputable def sameVs (l m:List V):Bool:=decide (l=m)
theorem sameVs_t {l m:List V} (h:l=m):sameVs l m=true:=by unfold sameVs;simp [h]
theorem sameVs_f {l m:List V} (h:l≠m):sameVs l m=false:=by unfold sameVs;simp [h]
variable (k d cl:Nat) (h:Hp) (n:Nat)
theorem eqfn_ev (hk:30000≤k) (A B:Option Addr) (l m:List V) (c c2:Nat) (h1:LH h n A l) (h2:LH h n B m) (hl:l.length≤20000)
  (ih:∀ j (hj:j<l.length) (hj2:j<m.length) (cl:Nat) (h:Hp) (n:Nat) (cs cs':List Value),VH h n l[j] cs→VH h n m[j] cs'→SQ k d cl 24 [.agg ⟨cs⟩,.agg ⟨cs'⟩] h n fun v h' n'=>v = .bool (sameV l[j] m[j])∧h=h'∧n=n') :
  SQ k (d+1) cl 53 [.slice A l.length c,.slice B m.length c2,.func (.func 24) ⟨[]⟩ ⟨[]⟩] h n fun v h' n'=>v = .bool (sameVs l m)∧h'=h∧n'=n:=by
 by_cases hlen:l.length=m.length
 ·refine enter Try.func53 kz rfl kz rfl rfl rfl ?_
  (repeat' first|refine zcd ?_|intro K' hK|(with_reducible refine zn hK ?_;clear hK)|fail|((with_reducible first|apply zo1|apply zo2|apply o_guard rfl|apply x_cond|apply k_e1 rfl|apply k_e2 rfl|apply k_e0 rfl|apply k_e3 rfl|apply k_e4 rfl);(case he=>exact ez0);(try case hok=>exact ezO);all_goals try (intro hb;(try simp only [hbs,reduceCtorEq] at hb);try exact ezX))|((with_reducible apply o_undef rfl);(case hb=>exact ez0)))
  refine x_loopV [6,7,8,9,17,18,19,20,21,22,23,24,25,26,27,28,29,30,31] [17] (fun k2 vs h5 n5=>∃ q:Nat,k2=l.length - q∧q≤l.length∧vs=[.int .i64 q]∧n≤n5∧LH h5 n A l∧LH h5 n B m∧l.take q=m.take q) l.length rfl zm ⟨0,rfl,by omega,ez0,Nat.le_refl _,h1,h2,by simp⟩ ?_
  rintro k2 g _ h5 n5 ⟨q,rfl,hq,rfl,hn5,hA5,hB5,htk⟩
  by_cases hql:q<l.length
  ·have hqm:q<m.length:=by omega
   obtain ⟨i1,o1,A1,cc1,rfl,hi1,c1,v1⟩:=hA5.at_ hql
   obtain ⟨i2,o2,A2,cc2,rfl,hi2,c2',v2⟩:=hB5.at_ hqm
   obtain ⟨x,hx⟩:∃ x,l[q]=x:=⟨_,rfl⟩
   obtain ⟨y,hy⟩:∃ y,m[q]=y:=⟨_,rfl⟩
   have ihq:=ih q hql hqm
   rw [hx] at c1 v1
   rw [hy] at c2' v2
   rw [hx,hy] at ihq
   by_cases hxy:x=y
   ·have hs:sameV x y=true:=by rw [hxy];exact sameV_t
    rw [hs] at ihq
    (repeat' first|refine zcd ?_|intro K' hK|(with_reducible refine zn hK ?_;clear hK)|((with_reducible apply o_callV (g:=24) w_none);(case hx=>exact ez0);(case ha=>exact ez0);(case hs=>((with_reducible apply ihq);(case a=>exact (((v1.more hn5).set zm _).set zm _).more zm);(case a=>exact (((v2.more hn5).set zm _).set zm _).more zm)));(case' hk=>rintro _ h' n' ⟨rfl,rfl,rfl⟩))|((with_reducible first|apply zo1|apply zo2|apply o_guard rfl|apply x_cond|apply k_e1 rfl|apply k_e2 rfl|apply k_e0 rfl|apply k_e3 rfl|apply k_e4 rfl);(case he=>exact ez2 c1 c2');(try case hok=>exact ezO);all_goals try (intro hb;(try simp only [hbs,reduceCtorEq] at hb);try exact ezX))|((with_reducible apply o_undef rfl);(case hb=>exact ez0)))
    refine k_round (l.length - (q+1)) zm ⟨q+1,rfl,by omega,ez0,by omega,(ezL hA5),(ezL hB5),?_⟩
    rw [List.take_succ_eq_append_getElem hql,List.take_succ_eq_append_getElem hqm,htk,hx,hy,hxy]
   ·have hs:sameV x y=false:=sameV_f hxy
    rw [hs] at ihq
    have hne:l≠m:=fun e=>by subst e;exact hxy (by rw [← hx,← hy])
    rw [sameVs_f hne]
    (repeat' first|refine zcd ?_|intro K' hK|(with_reducible refine zn hK ?_;clear hK)|((with_reducible apply o_callV (g:=24) w_none);(case hx=>exact ez0);(case ha=>exact ez0);(case hs=>((with_reducible apply ihq);(case a=>exact (((v1.more hn5).set zm _).set zm _).more zm);(case a=>exact (((v2.more hn5).set zm _).set zm _).more zm)));(case' hk=>rintro _ h' n' ⟨rfl,rfl,rfl⟩))|((with_reducible first|apply zo1|apply zo2|apply o_guard rfl|apply x_cond|apply k_e1 rfl|apply k_e2 rfl|apply k_e0 rfl|apply k_e3 rfl|apply k_e4 rfl);(case he=>exact ez2 c1 c2');(try case hok=>exact ezO);all_goals try (intro hb;(try simp only [hbs,reduceCtorEq] at hb);try exact ezX))|((with_reducible apply o_undef rfl);(case hb=>exact ez0)))
    all_goals exact sw_flat rfl rfl ⟨rfl,rfl,rfl⟩
  ·obtain rfl:q=l.length:=by omega
   have hE:l=m:=by
    have e2:=htk
    rw [List.take_length,hlen,List.take_length] at e2
    exact e2
   rw [sameVs_t hE]
   (repeat' first|refine zcd ?_|intro K' hK|(with_reducible refine zn hK ?_;clear hK)|fail|((with_reducible first|apply zo1|apply zo2|apply o_guard rfl|apply x_cond|apply k_e1 rfl|apply k_e2 rfl|apply k_e0 rfl|apply k_e3 rfl|apply k_e4 rfl);(case he=>exact ez0);(try case hok=>exact ezO);all_goals try (intro hb;(try simp only [hbs,reduceCtorEq] at hb);try exact ezX))|((with_reducible apply o_undef rfl);(case hb=>exact ez0)))
   all_goals exact sw_flat rfl rfl ⟨rfl,rfl,rfl⟩
 ·rw [sameVs_f fun e=>hlen (by rw [e])]
  refine enter Try.func53 kz rfl kz rfl rfl rfl ?_
  (repeat' first|refine zcd ?_|intro K' hK|(with_reducible refine zn hK ?_;clear hK)|fail|((with_reducible first|apply zo1|apply zo2|apply o_guard rfl|apply x_cond|apply k_e1 rfl|apply k_e2 rfl|apply k_e0 rfl|apply k_e3 rfl|apply k_e4 rfl);(case he=>exact ez0);(try case hok=>exact ezO);all_goals try (intro hb;(try simp only [hbs,reduceCtorEq] at hb);try exact ezX))|((with_reducible apply o_undef rfl);(case hb=>exact ez0)))
  all_goals exact sw_flat rfl rfl ⟨rfl,rfl,rfl⟩
theorem psamev_ev (hk:30000≤k):∀ N,∀ (v w:V) (d cl:Nat) (h:Hp) (n:Nat) (cs cs':List Value),Bd N v→VH h n v cs→VH h n w cs' →
  SQ k (d+2*N) cl 24 [.agg ⟨cs⟩,.agg ⟨cs'⟩] h n fun x h' n'=>x = .bool (sameV v w)∧h'=h∧n'=n:=by
 intro N
 induction N with
 | zero=>intro v w d cl h n cs cs' hv;exact absurd hv (by unfold Bd;exact id)
 | succ N ihN=>
  intro v w d cl h n cs cs' hv h1 h2
  obtain ⟨hv1,hv2⟩:=hv
  rw [show d+2*(N+1)=d+2*N+1+1 from by omega]
  obtain ⟨A,cc,rfl,hA,hl1⟩:=h1.cut
  obtain ⟨B,cc2,rfl,hB,hl2⟩:=h2.cut
  by_cases he:v.kd=w.kd∧v.i=w.i∧v.s=w.s∧v.c=w.c
  ·obtain ⟨e1,e2,e3,e4⟩:=he
   have hEq:sameV v w=sameVs v.l w.l:=by
    by_cases hl:v.l=w.l
    ·rw [sameVs_t hl,V.ext e1 e2 e3 e4 hl,sameV_t]
    ·rw [sameVs_f hl,sameV_f fun h=>hl (by rw [h])]
   rw [hEq]
   have q:=fun (h5:Hp) (n5:Nat) (hA5:LH h5 n5 A v.l) (hB5:LH h5 n5 B w.l)=>(eqfn_ev k (d+2*N) n h5 n5 hk A B v.l w.l cc cc2 hA5 hB5 zm fun j hj hj2 cl h n cs cs' a b=>(ihN _ _ d cl h n cs cs' (hv2 _ (List.getElem_mem hj)) a b).mono fun _ _ _ hp=>⟨hp.1,hp.2.1.symm,hp.2.2.symm⟩).mono (Φ':=fun v2 h2 n2=>v2 = .bool (sameVs v.l w.l)∧h5=h2∧n5=n2) fun _ _ _ hp=>⟨hp.1,hp.2.1.symm,hp.2.2.symm⟩
   rw [e1,e2,e3,e4]
   refine enter Try.func24 kz rfl kz rfl rfl rfl ?_
   (repeat' first|refine zcd ?_|intro K' hK|(with_reducible refine zn hK ?_;clear hK)|((with_reducible apply o_callF (g:=53) w_none);(case ha=>exact ez0);(case hs=>((with_reducible apply q);(case hA5=>exact ((hl1.set (Nat.le_refl _) _).set zm _).more zm);(case hB5=>exact ((hl2.set (Nat.le_refl _) _).set zm _).more zm)));(case' hk=>rintro _ h' n' ⟨rfl,rfl,rfl⟩))|((with_reducible first|apply zo1|apply zo2|apply o_guard rfl|apply x_cond|apply k_e1 rfl|apply k_e2 rfl|apply k_e0 rfl|apply k_e3 rfl|apply k_e4 rfl);(case he=>exact ez3 @b_strEql @b_self @b_beql0);(try case hok=>exact ezO);all_goals try (intro hb;(try simp only [hbs,reduceCtorEq] at hb);try exact ezX))|((with_reducible apply o_undef rfl);(case hb=>exact ez0)))
   all_goals exact sw_flat rfl rfl ⟨rfl,rfl,rfl⟩
  ·rw [sameV_f fun h=>he (by rw [h];exact ⟨rfl,rfl,rfl,rfl⟩)]
   by_cases e1:v.kd=w.kd
   ·by_cases e2:v.i=w.i
    ·by_cases e3:v.s=w.s
     ·have e4:(v.c == w.c)=false:=beq_eq_false_iff_ne.2 fun e4=>he ⟨e1,e2,e3,e4⟩
      rw [e1,e2,e3]
      refine enter Try.func24 kz rfl kz rfl rfl rfl ?_
      (repeat' first|refine zcd ?_|intro K' hK|(with_reducible refine zn hK ?_;clear hK)|fail|((with_reducible first|apply zo1|apply zo2|apply o_guard rfl|apply x_cond|apply k_e1 rfl|apply k_e2 rfl|apply k_e0 rfl|apply k_e3 rfl|apply k_e4 rfl);(case he=>exact ez4 @b_strEql @b_self @b_beqlx e4);(try case hok=>exact ezO);all_goals try (intro hb;(try simp only [hbs,reduceCtorEq] at hb);try exact ezX))|((with_reducible apply o_undef rfl);(case hb=>exact ez0)))
      all_goals exact sw_flat rfl rfl ⟨rfl,rfl,rfl⟩
     ·have e5:=b_diff e3
      rw [e1,e2]
      refine enter Try.func24 kz rfl kz rfl rfl rfl ?_
      (repeat' first|refine zcd ?_|intro K' hK|(with_reducible refine zn hK ?_;clear hK)|fail|((with_reducible first|apply zo1|apply zo2|apply o_guard rfl|apply x_cond|apply k_e1 rfl|apply k_e2 rfl|apply k_e0 rfl|apply k_e3 rfl|apply k_e4 rfl);(case he=>exact ez2 @b_strEql e5);(try case hok=>exact ezO);all_goals try (intro hb;(try simp only [hbs,reduceCtorEq] at hb);try exact ezX))|((with_reducible apply o_undef rfl);(case hb=>exact ez0)))
      all_goals exact sw_flat rfl rfl ⟨rfl,rfl,rfl⟩
    ·rw [e1]
     refine enter Try.func24 kz rfl kz rfl rfl rfl ?_
     (repeat' first|refine zcd ?_|intro K' hK|(with_reducible refine zn hK ?_;clear hK)|fail|((with_reducible first|apply zo1|apply zo2|apply o_guard rfl|apply x_cond|apply k_e1 rfl|apply k_e2 rfl|apply k_e0 rfl|apply k_e3 rfl|apply k_e4 rfl);(case he=>exact ez0);(try case hok=>exact ezO);all_goals try (intro hb;(try simp only [hbs,reduceCtorEq] at hb);try exact ezX))|((with_reducible apply o_undef rfl);(case hb=>exact ez0)))
     all_goals exact sw_flat rfl rfl ⟨rfl,rfl,rfl⟩
   ·refine enter Try.func24 kz rfl kz rfl rfl rfl ?_
    (repeat' first|refine zcd ?_|intro K' hK|(with_reducible refine zn hK ?_;clear hK)|fail|((with_reducible first|apply zo1|apply zo2|apply o_guard rfl|apply x_cond|apply k_e1 rfl|apply k_e2 rfl|apply k_e0 rfl|apply k_e3 rfl|apply k_e4 rfl);(case he=>exact ez0);(try case hok=>exact ezO);all_goals try (intro hb;(try simp only [hbs,reduceCtorEq] at hb);try exact ezX))|((with_reducible apply o_undef rfl);(case hb=>exact ez0)))
    all_goals exact sw_flat rfl rfl ⟨rfl,rfl,rfl⟩
theorem rsamev_ev (hk:30000≤k):∀ N,∀ (v w:V) (d cl:Nat) (h:Hp) (n:Nat) (cs cs':List Value),Bd N v→VH h n v cs→VH h n w cs' →
  SQ k (d+N) cl 15 [.agg ⟨cs⟩,.agg ⟨cs'⟩] h n fun x h' n'=>x = .bool (sameV v w)∧h'=h∧n'=n:=by
 intro N
 induction N with
 | zero=>intro v w d cl h n cs cs' hv;exact absurd hv (by unfold Bd;exact id)
 | succ N ihN=>
  intro v w d cl h n cs cs' hv h1 h2
  obtain ⟨hv1,hv2⟩:=hv
  rw [show d+(N+1)=d+N+1 from by omega]
  obtain ⟨A,cc,rfl,hA,hl1⟩:=h1.cut
  obtain ⟨B,cc2,rfl,hB,hl2⟩:=h2.cut
  by_cases he:v.kd=w.kd∧v.i=w.i∧v.s=w.s∧v.c=w.c
  ·obtain ⟨e1,e2,e3,e4⟩:=he
   by_cases hlen:v.l.length=w.l.length
   ·have hlw:w.l.length≤20000:=by omega
    rw [e1,e2,e3,e4]
    refine enter Try.func15 kz rfl kz rfl rfl rfl ?_
    (repeat' first|refine zcd ?_|intro K' hK|(with_reducible refine zn hK ?_;clear hK)|fail|((with_reducible first|apply zo1|apply zo2|apply o_guard rfl|apply x_cond|apply k_e1 rfl|apply k_e2 rfl|apply k_e0 rfl|apply k_e3 rfl|apply k_e4 rfl);(case he=>exact ez4 @b_strNeq @b_self @b_bneq0 hlen);(try case hok=>exact ezO);all_goals try (intro hb;(try simp only [hbs,reduceCtorEq] at hb);try exact ezX))|((with_reducible apply o_undef rfl);(case hb=>exact ez0)))
    refine x_loopV [4,5,41,42,43,44,45,46,47,48,49,50,51,52,53,54,55,56,57,58,59] [5] (fun k2 vs h5 n5=>∃ q:Nat,k2=v.l.length - q∧q≤v.l.length∧vs=[.int .i64 q]∧n+2≤n5∧LH h5 n A v.l∧LH h5 n B w.l∧v.l.take q=w.l.take q∧rowOf h5 n=some (32,false,vcell w.kd w.i w.s A w.l.length cc w.c)∧rowOf h5 (n+1)=some (32,false,vcell w.kd w.i w.s B w.l.length cc2 w.c)) v.l.length rfl zm ⟨0,rfl,by omega,ez0,Nat.le_refl _,(ezL hl1),(ezL hl2),by simp,ez0,ez0⟩ ?_
    rintro k2 g _ h5 n5 ⟨q,rfl,hq,rfl,hn5,hA5,hB5,htk,r1,r2⟩
    have f1:=cellAt_row (off:=3) r1
    have f2:=cellAt_row (off:=3) r2
    by_cases hql:q<v.l.length
    ·have hqm:q<w.l.length:=by omega
     obtain ⟨i1,o1,A1,cc1,rfl,hi1,c1,v1⟩:=hA5.at_ hql
     obtain ⟨i2,o2,A2,cc2,rfl,hi2,c2',v2⟩:=hB5.at_ hqm
     have ihq:=fun (cl:Nat) (h:Hp) (n:Nat) (cs cs':List Value) (a:VH h n v.l[q] cs) (b:VH h n w.l[q] cs')=>(ihN _ _ d cl h n cs cs' (hv2 _ (List.getElem_mem hql)) a b).mono (Φ':=fun x2 h2 n2=>x2 = .bool (sameV v.l[q] w.l[q])∧h=h2∧n=n2) fun _ _ _ hp=>⟨hp.1,hp.2.1.symm,hp.2.2.symm⟩
     obtain ⟨x,hx⟩:∃ x,v.l[q]=x:=⟨_,rfl⟩
     obtain ⟨y,hy⟩:∃ y,w.l[q]=y:=⟨_,rfl⟩
     rw [hx] at c1 v1
     rw [hy] at c2' v2
     simp only [hx,hy] at ihq
     by_cases hxy:x=y
     ·have hs:sameV x y=true:=by rw [hxy];exact sameV_t
      simp only [hs] at ihq
      (repeat' first|refine zcd ?_|intro K' hK|(with_reducible refine zn hK ?_;clear hK)|((with_reducible apply d_callS (g:=15) w_none);(case hs0=>exact rfl);(case ha=>exact ez0);(case hs=>((with_reducible apply ihq);(case a=>exact v1.more zm);(case b=>exact v2.more zm)));(case' hk=>rintro _ h' n' ⟨rfl,rfl,rfl⟩))|(with_reducible refine x_drawnD (id:=6) [(1,6),(4,6),(1,9),(4,9)] kz fun K' hK=>?_)|((with_reducible apply d_nil);(case hp=>exact ezP);(case' hx=>(refine hK _ _ _ ?_;clear hK)))|((with_reducible apply d_pure w_none);(case hp=>exact rfl);(case hc=>exact rfl);(case he=>exact ez4 f1 f2 c1 c2'))|((with_reducible apply d_eff w_none);(case hc=>exact rfl);(case he=>exact ez4 f1 f2 c1 c2');(case hok=>exact ezO))|((with_reducible apply d_guard rfl);(case hb=>exact ez4 f1 f2 c1 c2');(case' h1=>intro hb;(try simp only [hbs,reduceCtorEq] at hb);try exact ezX);(case' h2=>intro hb;(try simp only [hbs,reduceCtorEq] at hb);try exact ezX))|((with_reducible first|apply zo1|apply zo2|apply o_guard rfl|apply x_cond|apply k_e1 rfl|apply k_e2 rfl|apply k_e0 rfl|apply k_e3 rfl|apply k_e4 rfl);(case he=>exact ez4 f1 f2 c1 c2');(try case hok=>exact ezO);all_goals try (intro hb;(try simp only [hbs,reduceCtorEq] at hb);try exact ezX))|((with_reducible apply o_undef rfl);(case hb=>exact ez0)))
      refine k_round (v.l.length - (q+1)) zm ⟨q+1,rfl,by omega,ez0,by omega,(ezL hA5),(ezL hB5),?_,r1,r2⟩
      rw [List.take_succ_eq_append_getElem hql,List.take_succ_eq_append_getElem hqm,htk,hx,hy,hxy]
     ·have hs:sameV x y=false:=sameV_f hxy
      simp only [hs] at ihq
      have hne:v≠w:=fun e=>by subst e;exact hxy (by rw [← hx,← hy])
      rw [sameV_f hne]
      (repeat' first|refine zcd ?_|intro K' hK|(with_reducible refine zn hK ?_;clear hK)|((with_reducible apply d_callS (g:=15) w_none);(case hs0=>exact rfl);(case ha=>exact ez0);(case hs=>((with_reducible apply ihq);(case a=>exact v1.more zm);(case b=>exact v2.more zm)));(case' hk=>rintro _ h' n' ⟨rfl,rfl,rfl⟩))|(with_reducible refine x_drawnD (id:=6) [(1,6),(4,6),(1,9),(4,9)] kz fun K' hK=>?_)|((with_reducible apply d_nil);(case hp=>exact ezP);(case' hx=>(refine hK _ _ _ ?_;clear hK)))|((with_reducible apply d_pure w_none);(case hp=>exact rfl);(case hc=>exact rfl);(case he=>exact ez4 f1 f2 c1 c2'))|((with_reducible apply d_eff w_none);(case hc=>exact rfl);(case he=>exact ez4 f1 f2 c1 c2');(case hok=>exact ezO))|((with_reducible apply d_guard rfl);(case hb=>exact ez4 f1 f2 c1 c2');(case' h1=>intro hb;(try simp only [hbs,reduceCtorEq] at hb);try exact ezX);(case' h2=>intro hb;(try simp only [hbs,reduceCtorEq] at hb);try exact ezX))|((with_reducible first|apply zo1|apply zo2|apply o_guard rfl|apply x_cond|apply k_e1 rfl|apply k_e2 rfl|apply k_e0 rfl|apply k_e3 rfl|apply k_e4 rfl);(case he=>exact ez4 f1 f2 c1 c2');(try case hok=>exact ezO);all_goals try (intro hb;(try simp only [hbs,reduceCtorEq] at hb);try exact ezX))|((with_reducible apply o_undef rfl);(case hb=>exact ez0)))
      all_goals exact sw_flat rfl rfl ⟨rfl,rfl,rfl⟩
    ·obtain rfl:q=v.l.length:=by omega
     have hE:v.l=w.l:=by
      have e2:=htk
      rw [List.take_length,hlen,List.take_length] at e2
      exact e2
     rw [V.ext e1 e2 e3 e4 hE,sameV_t]
     (repeat' first|refine zcd ?_|intro K' hK|(with_reducible refine zn hK ?_;clear hK)|fail|((with_reducible first|apply zo1|apply zo2|apply o_guard rfl|apply x_cond|apply k_e1 rfl|apply k_e2 rfl|apply k_e0 rfl|apply k_e3 rfl|apply k_e4 rfl);(case he=>exact ez2 f1 f2);(try case hok=>exact ezO);all_goals try (intro hb;(try simp only [hbs,reduceCtorEq] at hb);try exact ezX))|((with_reducible apply o_undef rfl);(case hb=>exact ez0)))
     all_goals exact sw_flat rfl rfl ⟨rfl,rfl,rfl⟩
   ·rw [sameV_f fun h=>hlen (by rw [h])]
    rw [e1,e2,e3,e4]
    refine enter Try.func15 kz rfl kz rfl rfl rfl ?_
    (repeat' first|refine zcd ?_|intro K' hK|(with_reducible refine zn hK ?_;clear hK)|fail|((with_reducible first|apply zo1|apply zo2|apply o_guard rfl|apply x_cond|apply k_e1 rfl|apply k_e2 rfl|apply k_e0 rfl|apply k_e3 rfl|apply k_e4 rfl);(case he=>exact ez3 @b_strNeq @b_self @b_bneq0);(try case hok=>exact ezO);all_goals try (intro hb;(try simp only [hbs,reduceCtorEq] at hb);try exact ezX))|((with_reducible apply o_undef rfl);(case hb=>exact ez0)))
    all_goals exact sw_flat rfl rfl ⟨rfl,rfl,rfl⟩
  ·rw [sameV_f fun h=>he (by rw [h];exact ⟨rfl,rfl,rfl,rfl⟩)]
   by_cases e1:v.kd=w.kd
   ·by_cases e2:v.i=w.i
    ·by_cases e3:v.s=w.s
     ·have e4:(v.c == w.c)=false:=beq_eq_false_iff_ne.2 fun e4=>he ⟨e1,e2,e3,e4⟩
      have e5b:(v.c != w.c)=true:=by rw [bne_iff_ne];exact fun e4=>he ⟨e1,e2,e3,e4⟩
      rw [e1,e2,e3]
      refine enter Try.func15 kz rfl kz rfl rfl rfl ?_
      (repeat' first|refine zcd ?_|intro K' hK|(with_reducible refine zn hK ?_;clear hK)|fail|((with_reducible first|apply zo1|apply zo2|apply o_guard rfl|apply x_cond|apply k_e1 rfl|apply k_e2 rfl|apply k_e0 rfl|apply k_e3 rfl|apply k_e4 rfl);(case he=>(intros;simp (disch:=first|assumption|omega|rfl|decide) only [go_sem,seval,tys,b_strNeq,b_self,b_bneqx,e5b,Bool.not_false] <;> rfl));(try case hok=>exact ezO);all_goals try (intro hb;(try simp only [hbs,reduceCtorEq] at hb);try exact ezX))|((with_reducible apply o_undef rfl);(case hb=>exact ez0)))
      all_goals exact sw_flat rfl rfl ⟨rfl,rfl,rfl⟩
     ·have e5:=b_diff e3
      rw [e1,e2]
      refine enter Try.func15 kz rfl kz rfl rfl rfl ?_
      (repeat' first|refine zcd ?_|intro K' hK|(with_reducible refine zn hK ?_;clear hK)|fail|((with_reducible first|apply zo1|apply zo2|apply o_guard rfl|apply x_cond|apply k_e1 rfl|apply k_e2 rfl|apply k_e0 rfl|apply k_e3 rfl|apply k_e4 rfl);(case he=>exact ez2 @b_strNeq e5);(try case hok=>exact ezO);all_goals try (intro hb;(try simp only [hbs,reduceCtorEq] at hb);try exact ezX))|((with_reducible apply o_undef rfl);(case hb=>exact ez0)))
      all_goals exact sw_flat rfl rfl ⟨rfl,rfl,rfl⟩
    ·rw [e1]
     refine enter Try.func15 kz rfl kz rfl rfl rfl ?_
     (repeat' first|refine zcd ?_|intro K' hK|(with_reducible refine zn hK ?_;clear hK)|fail|((with_reducible first|apply zo1|apply zo2|apply o_guard rfl|apply x_cond|apply k_e1 rfl|apply k_e2 rfl|apply k_e0 rfl|apply k_e3 rfl|apply k_e4 rfl);(case he=>exact ez0);(try case hok=>exact ezO);all_goals try (intro hb;(try simp only [hbs,reduceCtorEq] at hb);try exact ezX))|((with_reducible apply o_undef rfl);(case hb=>exact ez0)))
     all_goals exact sw_flat rfl rfl ⟨rfl,rfl,rfl⟩
   ·refine enter Try.func15 kz rfl kz rfl rfl rfl ?_
    (repeat' first|refine zcd ?_|intro K' hK|(with_reducible refine zn hK ?_;clear hK)|fail|((with_reducible first|apply zo1|apply zo2|apply o_guard rfl|apply x_cond|apply k_e1 rfl|apply k_e2 rfl|apply k_e0 rfl|apply k_e3 rfl|apply k_e4 rfl);(case he=>exact ez0);(try case hok=>exact ezO);all_goals try (intro hb;(try simp only [hbs,reduceCtorEq] at hb);try exact ezX))|((with_reducible apply o_undef rfl);(case hb=>exact ez0)))
    all_goals exact sw_flat rfl rfl ⟨rfl,rfl,rfl⟩
end
end Go.Proofs.Ytcpkdjikembpnaa.Ce
