/- Parts of the proof of ValueBack: Oy. No condition of its own. -/
import Derived.Test.YtcpkdjikembpnaaWaam
import Derived.Test.YtcpkdjikembpnaaWaaz
import Derived.Test.YtcpkdjikembpnaaWabi
set_option linter.unusedVariables false
set_option linter.unusedSimpArgs false
set_option maxRecDepth 1000000
set_option maxHeartbeats 4000000
namespace Go.Proofs.Ytcpkdjikembpnaa
open Go.ChangeShapes Go.WideShapes Go.ChangeAt Go.RowKit Go.Joins Go.Deep
section
variable {H:Type} {enc:TypeId × Value→H} {P:Program} {w:World} {base:Nat}
def five (l:List Value):List Value:=[l.getD 0 undef,l.getD 1 undef,l.getD 2 undef,l.getD 3 undef,l.getD 4 undef]
theorem five_of {l:List Value} (h:l.length=5):five l=l:=by
 match l,h with
 | [a,b,c,d,e],_=>rfl
theorem VI_mk {kd i:Int} {s:List UInt8} {l:List Ce.V} {c:Bool} (hi : -9223372036854775808≤i∧i≤9223372036854775807) (hl:∀ x∈l,∀ N,Ce.VI N x):∀ N,Ce.VI N (.mk kd i s l c)
 | 0=>trivial
 | N+1=>⟨hi,fun x hx=>hl x hx N⟩
theorem open_vcell2 {t tk ti ts tl tb:TypeId} {g0 g1 g2 g3 g4:Field} {held:Bool} (he:P.underlying t=some (.struct #[g0,g1,g2,g3,g4])) (ce:P.cellsOf t=5)
  (o0:g0.offset=0) (o1:g1.offset=1) (o2:g2.offset=2) (o3:g3.offset=3) (o4:g4.offset=4) (c0:P.cellsOf g0.type=1) (c1:P.cellsOf g1.type=1) (c2:P.cellsOf g2.type=1) (c3:P.cellsOf g3.type=1) (c4:P.cellsOf g4.type=1)
  (h0:g0.type=tk) (h1:g1.type=ti) (h2:g2.type=ts) (h3:g3.type=tl) (h4:g4.type=tb) (hk:P.underlying tk=some (.int .u8)) (hi:P.underlying ti=some (.int .i64)) (hs:P.underlying ts=some .string) (hl:P.underlying tl=some (.slice t)) (hb:P.underlying tb=some .bool) :
  ∀ (fuel:Nat) (cs:List Value) (y:DataW H × List MemPlace),DataW.trod enc P w base (fun _=>true) held fuel t cs=some y→∃ x:Ce.V,Ce.VH (Ce.absW w) w.heap.size x (cs.map (Ce.vis w.heap.size))∧∀ N,Ce.VI N x:=by
 intro fuel
 induction fuel using Nat.strongRecOn with
 | ind fuel ih=>
 intro cs y h
 obtain ⟨xs,n,hn,_,hlen,hxl,hg⟩:=DataW.trod_struct he h
 rw [ce] at hlen
 match xs,hxl,cs,hlen with
 | [y0,y1,y2,y3,y4],_,[v0,v1,v2,v3,v4],_=>
  have q0:=hg 0 g0 rfl
  have q1:=hg 1 g1 rfl
  have q2:=hg 2 g2 rfl
  have q3:=hg 3 g3 rfl
  have q4:=hg 4 g4 rfl
  simp [o0,c0] at q0
  simp [o1,c1] at q1
  simp [o2,c2] at q2
  simp [o3,c3] at q3
  simp [o4,c4] at q4
  rw [h0] at q0
  rw [h1] at q1
  rw [h2] at q2
  rw [h3] at q3
  rw [h4] at q4
  obtain ⟨kd,z0,_,_⟩:=DataW.trod_int hk q0
  obtain ⟨i,z1,_,wi⟩:=DataW.trod_int hi q1
  obtain ⟨s,z2,_,_⟩:=DataW.trod_string hs q2
  obtain ⟨c,z4,_⟩:=DataW.trod_bool hb q4
  injection z0 with z0 _
  injection z1 with z1 _
  injection z2 with z2 _
  injection z4 with z4 _
  subst z0
  subst z1
  subst z2
  subst z4
  rcases DataW.trod_slice hl q3 with ⟨z3,_⟩|⟨a,len,cap,elems,rest,n2,hn2,z3,_,hbs,hlc,hcm,hel,hx,_,_⟩
  ·injection z3 with z3 _
   subst z3
   exact ⟨.mk kd i s.data.toList [] c,Ce.VH.leaf kd i s.data.toList c none 0 fun _=>rfl,VI_mk (bounds_i64 wi) fun _ hx=>nomatch hx⟩
  ·injection z3 with z3 _
   subst z3
   rw [ce] at hx
   obtain ⟨L,hLl,hLx⟩:=list_of (m:=len) (Q:=fun j (p:Ce.V × List Value)=>p.2.length=5∧(∀ q v,p.2[q]?=some v→w.cell? (a.add (j*5+q))=some v)∧Ce.VH (Ce.absW w) w.heap.size p.1 (p.2.map (Ce.vis w.heap.size))∧∀ N,Ce.VI N p.1) fun j hj=>by
    have e1:=hx j hj
    rw [List.getElem?_eq_getElem zm] at e1
    obtain ⟨cs',e2,e3⟩:=Option.bind_eq_some_iff.1 e1
    obtain ⟨_,hl5,hcell⟩:=World.cells?_some e2
    obtain ⟨x,hxv⟩:=ih n2 zm cs' _ e3
    refine ⟨(x,cs'),hl5,fun q v hq=>?_,hxv⟩
    have hq2:q<5:=by
     have:=(List.getElem?_eq_some_iff.1 hq).1
     dsimp only at this
     omega
    have e:=hcell q hq2
    rw [add_add] at e
    rw [e,← hq]
   have hflen:(L.flatMap fun p=>five p.2).length=L.length*5:=by
    clear hLx hLl
    induction L with
    | nil=>rfl
    | cons p L ihL=>rw [List.flatMap_cons,List.length_append,ihL,List.length_cons];show 5+_=_;omega
   have hrd:Rd w w.heap.size (some a) (L.flatMap fun p=>five p.2):=rd_of_cells fun q v hq=>by
    have hql:q<L.length*5:=by
     rcases Nat.lt_or_ge q (L.length*5) with hlt|hge
     ·exact hlt
     ·rw [List.getElem?_eq_none (by rw [hflen];exact hge)] at hq;cases hq
    obtain ⟨j,m,hm,rfl⟩:∃ j m,m<5∧q=j*5+m:=⟨q / 5,q % 5,by omega,by omega⟩
    have hjl:j<L.length:=by omega
    rw [Ce.rows_get (fun p:Ce.V × List Value=>five p.2) (fun _=>rfl) hjl hm,five_of (hLx j hjl).1] at hq
    exact (hLx j hjl).2.1 m v hq
   obtain ⟨A',c',f1,f2,_,f3,_⟩:=Ce.rd_here (n:=len) (c:=cap) hrd (fun hh=>by rw [hh,List.length_nil] at hflen;omega) hlc (by unfold maxLen at hcm;omega) (fun hh=>by cases hh)
   by_cases hl0:len=0
   ·subst hl0
    refine ⟨.mk kd i s.data.toList [] c,?_,VI_mk (bounds_i64 wi) fun _ hx=>nomatch hx⟩
    have e:([.int .u8 kd,.int .i64 i,.string s,.slice (some a) 0 cap,.bool c]:List Value).map (Ce.vis w.heap.size)=Ce.vcell kd i s.data.toList A' 0 c' c:=by
     simp only [List.map_cons,List.map_nil,f1]
     rfl
    rw [e]
    exact Ce.VH.leaf kd i s.data.toList c A' c' f3
   ·rw [List.map_flatMap] at f2
    obtain ⟨id,off,rfl,hid,hcells,_⟩:=Ce.RdH.rows (f:=fun p:Ce.V × List Value=>(five p.2).map (Ce.vis w.heap.size)) (w:=5) (fun _=>rfl) zm f2 zm
    refine ⟨.mk kd i s.data.toList (L.map (·.1)) c,?_,VI_mk (bounds_i64 wi) fun x hx=>?_⟩
    rotate_left
    ·obtain ⟨p,hp,rfl⟩:=List.mem_map.1 hx
     obtain ⟨j,hj,rfl⟩:=List.getElem_of_mem hp
     exact (hLx j hj).2.2.2
    have e:([.int .u8 kd,.int .i64 i,.string s,.slice (some a) len cap,.bool c]:List Value).map (Ce.vis w.heap.size)=Ce.vcell kd i s.data.toList (some ⟨id,off,none⟩) (L.map (·.1)).length c' c:=by
     simp only [List.map_cons,List.map_nil,f1,List.length_map,hLl]
     rfl
    rw [e]
    refine Ce.VH.node kd i s.data.toList c (L.map (·.1)) id off c' (fun j=>(five ((L[j]?).map (·.2) |>.getD [])).map (Ce.vis w.heap.size)) (fun hh=>hl0 (by rw [← hLl];simpa using hh)) hid (fun j hj=>?_) fun j hj=>?_
    ·have hj':j<L.length:=by simpa using hj
     rw [hcells j hj',List.getElem?_eq_getElem hj']
     rfl
    ·have hj':j<L.length:=by simpa using hj
     have:=hLx j hj'
     rw [List.getElem_map,List.getElem?_eq_getElem hj']
     show Ce.VH _ _ _ ((five L[j].2).map _)
     rw [five_of this.1]
     exact this.2.2.1
theorem open_value2 {r:Reach} {b0:Nat} {t tk ti ts tl tb:TypeId} {g0 g1 g2 g3 g4:Field} {v:Value} {d:DataW H} {p:List MemPlace} (he:P.underlying t=some (.struct #[g0,g1,g2,g3,g4])) (ce:P.cellsOf t=5)
  (o0:g0.offset=0) (o1:g1.offset=1) (o2:g2.offset=2) (o3:g3.offset=3) (o4:g4.offset=4) (c0:P.cellsOf g0.type=1) (c1:P.cellsOf g1.type=1) (c2:P.cellsOf g2.type=1) (c3:P.cellsOf g3.type=1) (c4:P.cellsOf g4.type=1)
  (h0:g0.type=tk) (h1:g1.type=ti) (h2:g2.type=ts) (h3:g3.type=tl) (h4:g4.type=tb) (hk:P.underlying tk=some (.int .u8)) (hi:P.underlying ti=some (.int .i64)) (hs:P.underlying ts=some .string) (hl:P.underlying tl=some (.slice t)) (hb:P.underlying tb=some .bool)
  (hv:Value.okWide P w r b0 t v) (h:DataW.Trod enc P w base (fun _=>true) true t v d p) :
  ∃ (x:Ce.V) (cs:List Value),Ce.visV w.heap.size v = .agg ⟨cs⟩∧Ce.VH (Ce.absW w) w.heap.size x cs∧∀ N,Ce.VI N x:=by
 obtain ⟨cs,rfl,hsz⟩:=okWide_struct he hv
 obtain ⟨l⟩:=cs
 obtain ⟨fuel,hf⟩:=h
 obtain ⟨x,hx⟩:=open_vcell2 he ce o0 o1 o2 o3 o4 c0 c1 c2 c3 c4 h0 h1 h2 h3 h4 hk hi hs hl hb fuel l _ hf
 exact ⟨x,_,rfl,hx.1,hx.2⟩
end
end Go.Proofs.Ytcpkdjikembpnaa
