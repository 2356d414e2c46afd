/- lemmas for agentWrites_holds: OpenB. No conditions. -/
import Derived.Test.YtgfghffihjfbpaaGreatDoorK04
import Derived.Test.YtgfghffihjfbpaaGreatDoorK05
import Derived.Test.YtgfghffihjfbpaaGreatDoorK38
set_option linter.unusedVariables false
set_option linter.unusedSimpArgs false
namespace Go.Proofs.YtgfghffihjfbpaaGreatDoor
open Go.RowKit Go.Shelf Go.WideShapes Go.ChangeShapes Go.ChangeAt Go.Deep
theorem Shape.at_ {α:Type} {t:TypeId} {rep:α→List Value} {ok:α→Prop} (h:Shape t rep ok) (W:World):ShapeAt W t rep ok:=fun H enc base spare held fuel cs x hx=>h H enc W base spare held fuel cs x hx
set_option maxRecDepth 100000 in
theorem shape_sx:Shape 107 Sx.cells (fun _=>True):=fun H enc w base spare held fuel cs x h=>by
 have hl:=(trod_field Tryz.underlying107 h).1
 rw[show Tryz.prog.cellsOf 107=4 by kernel_rfl] at hl
 obtain⟨a,e0,o0⟩:=trod_sub Tryz.underlying107 h 0 rfl rfl rfl cells_int shape_int
 obtain⟨b,e1,o1⟩:=trod_sub Tryz.underlying107 h 1 rfl rfl rfl cells_int shape_int
 obtain⟨c,e2,o2⟩:=trod_sub Tryz.underlying107 h 2 rfl rfl rfl cells_sp shape_sp
 match cs,hl with
 | [c0, c1, c2, c3], _ =>
   refine⟨⟨a,b,c.lo,c.hi⟩,?_,trivial⟩
   simp[Sp.cells,icell] at e0 e1 e2
   rw[e0,e1,e2.1,e2.2];rfl
set_option maxRecDepth 100000 in
theorem shape_mk:Shape 109 Mx.cells (fun _=>True):=fun H enc w base spare held fuel cs x h=>by
 have hl:=(trod_field Tryz.underlying109 h).1
 rw[show Tryz.prog.cellsOf 109=3 by kernel_rfl] at hl
 obtain⟨a,e0,o0⟩:=trod_sub Tryz.underlying109 h 0 rfl rfl rfl cells_int shape_int
 obtain⟨c,e2,o2⟩:=trod_sub Tryz.underlying109 h 1 rfl rfl rfl cells_sp shape_sp
 match cs,hl with
 | [c0, c1, c2], _ =>
   refine⟨⟨a,c.lo,c.hi⟩,?_,trivial⟩
   simp[Sp.cells,icell] at e0 e2
   rw[e0,e2.1,e2.2];rfl
set_option maxRecDepth 100000 in
theorem shape_gx:Shape 130 Mx.cells (fun _=>True):=fun H enc w base spare held fuel cs x h=>by
 have hl:=(trod_field Tryz.underlying130 h).1
 rw[show Tryz.prog.cellsOf 130=3 by kernel_rfl] at hl
 obtain⟨a,e0,o0⟩:=trod_sub Tryz.underlying130 h 0 rfl rfl rfl cells_int shape_int
 obtain⟨c,e2,o2⟩:=trod_sub Tryz.underlying130 h 1 rfl rfl rfl cells_sp shape_sp
 match cs,hl with
 | [c0, c1, c2], _ =>
   refine⟨⟨a,c.lo,c.hi⟩,?_,trivial⟩
   simp[Sp.cells,icell] at e0 e2
   rw[e0,e2.1,e2.2];rfl
theorem shape_turnA:Shape 51 Sp.cells Sp.wf:=fun H enc w base spare held fuel cs x h=>by
 have hl:=(trod_field Tryz.underlying51 h).1
 rw[show Tryz.prog.cellsOf 51=2 by kernel_rfl] at hl
 obtain⟨a,e0,o0⟩:=trod_sub Tryz.underlying51 h 0 rfl rfl rfl cells_int shape_int
 obtain⟨b,e1,o1⟩:=trod_sub Tryz.underlying51 h 1 rfl rfl rfl cells_int shape_int
 match cs,hl with
 | [c0, c1], _ =>
   refine⟨⟨a,b⟩,?_,o0,o1⟩
   simp[icell] at e0 e1
   rw[e0,e1];rfl
theorem shape_heir:Shape 157 Sp.cells Sp.wf:=fun H enc w base spare held fuel cs x h=>by
 have hl:=(trod_field Tryz.underlying157 h).1
 rw[show Tryz.prog.cellsOf 157=2 by kernel_rfl] at hl
 obtain⟨a,e0,o0⟩:=trod_sub Tryz.underlying157 h 0 rfl rfl rfl cells_int shape_int
 obtain⟨b,e1,o1⟩:=trod_sub Tryz.underlying157 h 1 rfl rfl rfl cells_int shape_int
 match cs,hl with
 | [c0, c1], _ =>
   refine⟨⟨a,b⟩,?_,o0,o1⟩
   simp[icell] at e0 e1
   rw[e0,e1];rfl
def Dx.wf (W:World) (x:Dx):Prop:=(x.n=x.hs.length∧x.n≤9223372036854775807)∧(0≤x.kind∧x.kind≤255)∧Rd W W.heap.size Sp.cells x.A x.hs
set_option maxRecDepth 100000 in
theorem shape_deed (W:World):ShapeAt W 54 Dx.cells (Dx.wf W):=fun H enc base spare held fuel cs x h=>by
 obtain⟨hl,hf⟩:=trod_field Tryz.underlying54 h
 rw[show Tryz.prog.cellsOf 54=9 by kernel_rfl] at hl
 obtain⟨a0,e0,_⟩:=trod_sub Tryz.underlying54 h 0 rfl rfl rfl cells_int shape_int
 obtain⟨a1,e1,_⟩:=trod_sub Tryz.underlying54 h 1 rfl rfl rfl cells_int shape_int
 obtain⟨a2,e2,o2⟩:=trod_sub Tryz.underlying54 h 2 rfl rfl rfl cells_u8 shape_u8
 obtain⟨a3,e3,_⟩:=trod_sub Tryz.underlying54 h 3 rfl rfl rfl cells_int shape_int
 obtain⟨a4,e4,_⟩:=trod_sub Tryz.underlying54 h 4 rfl rfl rfl cells_int shape_int
 obtain⟨a5,e5,_⟩:=trod_sub Tryz.underlying54 h 5 rfl rfl rfl (show Tryz.prog.cellsOf 51=2 by kernel_rfl) shape_turnA
 obtain⟨a6,e6,_⟩:=trod_sub Tryz.underlying54 h 6 rfl rfl rfl cells_int shape_int
 obtain⟨_,_,h7⟩:=hf 7 _ rfl
 obtain⟨A,n,c,xs,e7,hn,hn2,hr,hw⟩:=open_sl_cs shape_heir Tryz.underlying52 (show Tryz.prog.cellsOf 157=2 by kernel_rfl) Sp.len (by omega) h7
 match cs,hl with
 | [c0, c1, c2, c3, c4, c5, c6, c7, c8], _ =>
   refine⟨⟨a0,a1,(a2:Int),a3,a4,a5.lo,a5.hi,a6,A,n,c,xs⟩,?_,⟨hn,hn2⟩,⟨by show(0:Int)≤(a2:Int);omega,by show((a2:Nat):Int)≤255;omega⟩,hr⟩
   have e8: [c8]=[Value.slice A n c]:=by
    have h:(List.drop 8 [c0,c1,c2,c3,c4,c5,c6,c7,c8]).take (Tryz.prog.cellsOf 52)=[Value.slice A n c]:=e7
    rw[show Tryz.prog.cellsOf 52=1 by kernel_rfl] at h
    simpa using h
   simp[icell,u8cell,Sp.cells] at e0 e1 e2 e3 e4 e5 e6 e8
   rw[e0,e1,e2,e3,e4,e5.1,e5.2,e6,e8];rfl
set_option maxRecDepth 100000 in
theorem shape_entry (W:World):ShapeAt W 57 Ex.cells (Ex.wf W):=fun H enc base spare held fuel cs x h=>by
 obtain⟨hl,hf⟩:=trod_field Tryz.underlying57 h
 rw[show Tryz.prog.cellsOf 57=3 by kernel_rfl] at hl
 obtain⟨a0,e0,o0⟩:=trod_sub Tryz.underlying57 h 0 rfl rfl rfl cells_int shape_int
 obtain⟨_,_,h1⟩:=hf 1 _ rfl
 obtain⟨s,es,_,_⟩:=DataW.trod_string Tryz.underlying9 h1
 obtain⟨_,_,h2⟩:=hf 2 _ rfl
 obtain⟨A,n,c,xs,e2,hn,hn2,hr,hw⟩:=open_sl_cs shape_int Tryz.underlying55 cells_int icell_len (by omega) h2
 match cs,hl with
 | [c0, c1, c2], _ =>
   refine⟨⟨a0,s.data.toList,A,n,c,xs⟩,?_,⟨hn,hn2⟩,o0,hr⟩
   have e3: [c2]=[Value.slice A n c]:=by
    have h:(List.drop 2 [c0,c1,c2]).take (Tryz.prog.cellsOf 55)=[Value.slice A n c]:=e2
    rw[show Tryz.prog.cellsOf 55=1 by kernel_rfl] at h
    simpa using h
   have e4: [c1]=[Value.string s]:=by
    have h:(List.drop 1 [c0,c1,c2]).take (Tryz.prog.cellsOf 9)=[Value.string s]:=es
    rw[show Tryz.prog.cellsOf 9=1 by kernel_rfl] at h
    simpa using h
   simp[icell] at e0 e3 e4
   rw[e0,e3,e4];rfl
theorem sized_part {H:Type} {ts:List TypeId} {ds:List (DataW H)} (hsz:(DataW.weightsEach Tryz.prog ts ds).all (·≤reachBytes)=true) {j:Nat} {t:TypeId} {parts:List (DataW H)} (hj:ts[j]?=some t) (hd:ds[j]?=some (.agg parts))
 {fs:Array Field} (ht:Tryz.prog.underlying t=some (.struct fs)) {i:Nat} {f:Field} (hi:fs[i]?=some f) {e:TypeId} (hu:Tryz.prog.underlying f.type=some (.slice e)) {bytes:Nat} (hb:Tryz.prog.bytesOf e=bytes) {el sp:List (DataW H)} (hp:parts[i]?=some (.slice el sp)):el.length*bytes≤140737488351232:=by
 have h1:(el.length+sp.length)*Tryz.prog.bytesOf e∈(DataW.slice el sp).weights Tryz.prog f.type:=by simp[DataW.weights,hu]
 have h2:(el.length+sp.length)*Tryz.prog.bytesOf e∈(DataW.agg parts).weights Tryz.prog t:=by
  simp only[DataW.weights,ht]
  refine DataW.weights_mem_each (j:=i) (t:=f.type) ?_ hp _ h1
  rw[List.getElem?_map,Array.getElem?_toList,hi];rfl
 have h3:=List.all_eq_true.1 hsz _ (DataW.weights_mem_each hj hd _ h2)
 have h4:(el.length+sp.length)*Tryz.prog.bytesOf e≤reachBytes:=by simpa using h3
 rw[hb] at h4
 have h5:el.length*bytes≤(el.length+sp.length)*bytes:=Nat.mul_le_mul_right _ (by omega)
 have h6:reachBytes=140737488351232:=rfl
 omega
theorem open_part {α:Type} {W:World} {H:Type} {enc:TypeId×Value→H} {base:Nat} {spare:Nat→Bool} {held:Bool} {m:Nat} {cs:List Value} {xs:List (DataW H×List MemPlace)} {t e:TypeId} {fs:Array Field} {rep:α→List Value} {ok:α→Prop} {k bytes:Nat}
 {ts:List TypeId} {ds:List (DataW H)} (hsz:(DataW.weightsEach Tryz.prog ts ds).all (·≤reachBytes)=true) {j:Nat} (hj:ts[j]?=some t) (hd:ds[j]?=some (.agg (xs.map (·.1)))) (ht:Tryz.prog.underlying t=some (.struct fs))
 {i:Nat} {f:Field} (hi:fs[i]?=some f) (hlen:xs.length=fs.size) (hf:DataW.trod enc Tryz.prog W base spare held m f.type ((cs.drop f.offset).take (Tryz.prog.cellsOf f.type))=xs[i]?)
 (hs:ShapeAt W e rep ok) (hu:Tryz.prog.underlying f.type=some (.slice e)) (hC:Tryz.prog.cellsOf e=k) (hk:∀a,(rep a).length=k) (hk0:0 < k) (hb:Tryz.prog.bytesOf e=bytes) (hb0:0 < bytes) :
 ∃A n c,∃l:List α,(cs.drop f.offset).take (Tryz.prog.cellsOf f.type)=[.slice A n c]∧n=l.length∧n≤1000000000000000∧Rd W W.heap.size rep A l∧∀x∈l,ok x:=by
 have hil:i < xs.length:=by rw[hlen];exact(Array.getElem?_eq_some_iff.1 hi).1
 obtain⟨y,hy⟩:∃y,xs[i]?=some y:=⟨_,List.getElem?_eq_getElem hil⟩
 rw[hy] at hf
 obtain⟨A,n,c,l,ec,hn,_,hr,hw⟩:=open_sl_csW hs hu hC hk hk0 hf
 refine⟨A,n,c,l,ec,hn,?_,hr,hw⟩
 rw[ec] at hf
 obtain⟨d,q⟩:=y
 have h:DataW.Trod enc Tryz.prog W base spare held f.type (.slice A n c) d q:=⟨m,hf⟩
 rcases slice_weight hu h with rfl | ⟨el,sp,rfl,hl⟩
 ·omega
 ·have:=sized_part hsz hj hd ht hi hu hb (el:=el) (sp:=sp) (by rw[List.getElem?_map,hy];rfl)
  rw[hl] at this
  have h2:n*1≤n*bytes:=Nat.mul_le_mul_left _ hb0
  omega
set_option maxRecDepth 100000 in
theorem open_book {H:Type} {enc:TypeId×Value→H} {W:World} {base b':Nat} {spare:Nat→Bool} {held:Bool} {v:Value} {d:DataW H} {p:List MemPlace}
 {ts:List TypeId} {ds:List (DataW H)} (hsz:(DataW.weightsEach Tryz.prog ts ds).all (·≤reachBytes)=true) {j:Nat} (hj:ts[j]?=some 27) (hd:ds[j]?=some d)
 (hv:Value.okWide Tryz.prog W .any b' 27 v) (h:DataW.Trod enc Tryz.prog W base spare held 27 v d p) :
 ∃b:Bo,v= .agg #[.slice b.A1 b.n1 b.c1,.slice b.A2 b.n2 b.c2,.slice b.A3 b.n3 b.c3,.slice b.A4 b.n4 b.c4]∧b.wf W:=by
 obtain⟨vs,rfl,_⟩:=okWide_struct Tryz.underlying27 hv
 obtain⟨fuel,hf⟩:=h
 obtain⟨xs,m,_,ex,hl,hlen,hfd⟩:=DataW.trod_struct Tryz.underlying27 hf
 obtain rfl:d= .agg (xs.map (·.1)):=(Prod.mk.inj ex).1
 rw[show Tryz.prog.cellsOf 27=4 by kernel_rfl] at hl
 obtain⟨A1,n1,c1,l1,a1,b1,d1,f1,g1⟩:=open_part hsz hj hd Tryz.underlying27 (i:=0) rfl hlen (hfd 0 _ rfl) (shape_sx.at_ W) Tryz.underlying22 (show Tryz.prog.cellsOf 107=4 by kernel_rfl) Sx.len (by omega) (show Tryz.prog.bytesOf 107=32 by kernel_rfl) (by omega)
 obtain⟨A2,n2,c2,l2,a2,b2,d2,f2,g2⟩:=open_part hsz hj hd Tryz.underlying27 (i:=1) rfl hlen (hfd 1 _ rfl) (shape_mk.at_ W) Tryz.underlying23 (show Tryz.prog.cellsOf 109=3 by kernel_rfl) Mx.len (by omega) (show Tryz.prog.bytesOf 109=24 by kernel_rfl) (by omega)
 obtain⟨A3,n3,c3,l3,a3,b3,d3,f3,g3⟩:=open_part hsz hj hd Tryz.underlying27 (i:=2) rfl hlen (hfd 2 _ rfl) (shape_gx.at_ W) Tryz.underlying24 (show Tryz.prog.cellsOf 130=3 by kernel_rfl) Mx.len (by omega) (show Tryz.prog.bytesOf 130=24 by kernel_rfl) (by omega)
 obtain⟨A4,n4,c4,l4,a4,b4,d4,f4,g4⟩:=open_part hsz hj hd Tryz.underlying27 (i:=3) rfl hlen (hfd 3 _ rfl) (shape_deed W) Tryz.underlying25 (show Tryz.prog.cellsOf 54=9 by kernel_rfl) Dx.len (by omega) (show Tryz.prog.bytesOf 54=88 by kernel_rfl) (by omega)
 refine⟨⟨A1,n1,c1,l1,A2,n2,c2,l2,A3,n3,c3,l3,A4,n4,c4,l4⟩,?_,b1,b2,b3,b4,⟨d1,d2,d3,d4⟩,f1,f2,f3,f4,g4⟩
 have hvs:(Value.agg vs).cells.toList=vs.toList:=rfl
 rw[hvs] at hl a1 a2 a3 a4
 have k1:Tryz.prog.cellsOf 22=1:=by kernel_rfl
 have k2:Tryz.prog.cellsOf 23=1:=by kernel_rfl
 have k3:Tryz.prog.cellsOf 24=1:=by kernel_rfl
 have k4:Tryz.prog.cellsOf 25=1:=by kernel_rfl
 replace a1:(vs.toList.drop 0).take (Tryz.prog.cellsOf 22)=[.slice A1 n1 c1]:=a1
 replace a2:(vs.toList.drop 1).take (Tryz.prog.cellsOf 23)=[.slice A2 n2 c2]:=a2
 replace a3:(vs.toList.drop 2).take (Tryz.prog.cellsOf 24)=[.slice A3 n3 c3]:=a3
 replace a4:(vs.toList.drop 3).take (Tryz.prog.cellsOf 25)=[.slice A4 n4 c4]:=a4
 rw[k1] at a1
 rw[k2] at a2
 rw[k3] at a3
 rw[k4] at a4
 match hvs2:vs.toList,hl with
 | [u0, u1, u2, u3], _ =>
   rw[hvs2] at a1 a2 a3 a4
   simp at a1 a2 a3 a4
   subst a1 a2 a3 a4
   congr 1
   apply Array.toList_inj.1
   exact hvs2
end Go.Proofs.YtgfghffihjfbpaaGreatDoor
