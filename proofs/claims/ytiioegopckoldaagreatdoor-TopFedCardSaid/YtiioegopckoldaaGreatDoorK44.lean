/- TopFed: whatever flows in the gallery in truth, a plan of rents for what all fields want by what is told of the last shaft gives each field its need, for every input; the listed variable aflaj/hour.never is tied to the program's text by the given tie. Texts: LayL OpenC OpenR LTopFed. No conditions. -/
import Derived.Test.YtiioegopckoldaaGreatDoorK31
import Derived.Test.YtiioegopckoldaaGreatDoorK17
import Derived.LaidMore
import Derived.Lay
import Derived.Test.YtiioegopckoldaaGreatDoorK05
import Derived.Test.YtiioegopckoldaaGreatDoorK39
import Derived.Test.YtiioegopckoldaaGreatDoorK43
import Derived.Test.YtiioegopckoldaaGreatDoorCards
import Derived.Test.YtiioegopckoldaaGreatDoorTie
import Derived.SevenTiedAt
set_option linter.unusedVariables false
set_option linter.unusedSimpArgs false
namespace Go.Proofs.YtiioegopckoldaaGreatDoor
open Go.RowKit Go.Shelf Go.WideShapes Go.ChangeShapes Go.ChangeAt Go.Deep
abbrev laidNv : List (String × DataW Unit) := [("aflaj/hour.never", Rows.laid_aflaj_hour_never)]
set_option maxRecDepth 100000 in
theorem nv_of_laid {W:World} (h:laidMetH Tryz.prog laidNv W):Nv W:=by
 rw[MakeChecks.laidMetH_plain _ _ _ (by kernel_rfl)] at h
 obtain⟨ps,⟨g,t,cs,fuel,p,q,hg,ht,hv,hd,_,_⟩,_,_⟩:=h
 obtain rfl := Option.some.inj ((show Tryz.prog.globalNamed "aflaj/hour.never" = some 0 by kernel_rfl).symm.trans hg)
 obtain rfl:=Option.some.inj ((show(Tryz.prog.globals[0]?).map (·.type)=some 295 by kernel_rfl).symm.trans ht)
 obtain⟨xs,n,_,ex,hcl,hl,hel⟩:=DataW.trod_array Tryz.underlying295 hd
 have c2:Tryz.prog.cellsOf 295=2:=by kernel_rfl
 have c1:Tryz.prog.cellsOf 3=1:=by kernel_rfl
 rw[c2] at hcl
 have h0:=hel 0 (by omega)
 have h1:=hel 1 (by omega)
 rw[c1] at h0 h1
 have l0:0 < xs.length:=by omega
 have l1:1 < xs.length:=by omega
 rw[List.getElem?_eq_getElem l0] at h0
 rw[List.getElem?_eq_getElem l1] at h1
 obtain⟨z0,e0,f0,_⟩:=DataW.trod_int Tryz.underlying3 h0
 obtain⟨z1,e1,f1,_⟩:=DataW.trod_int Tryz.underlying3 h1
 have ea: [(DataW.lit (.int .i64 1):DataW Unit),.lit (.int .i64 0)]=xs.map (·.1):=DataW.agg.inj (Prod.mk.inj ex).1
 have ea0:=congrArg (·[0]?) ea
 have ea1:=congrArg (·[1]?) ea
 simp only[List.getElem?_map,List.getElem?_eq_getElem l0,List.getElem?_eq_getElem l1,f0,f1,List.getElem?_cons_zero,List.getElem?_cons_succ,Option.map_some,Option.some.injEq,DataW.lit.injEq,Lit.int.injEq,true_and] at ea0 ea1
 subst ea0 ea1
 match hcs:cs.toList,hcl with
 | [y0,y1],_=>
  rw[hcs] at e0 e1
  have e0':y0= .int .i64 1:=by simpa using e0
  have e1':y1= .int .i64 0:=by simpa using e1
  have k0:=World.var?_cell hg hv 0
  have k1:=World.var?_cell hg hv 1
  rw[←Array.getElem?_toList,hcs] at k0 k1
  rw[e0'] at k0
  rw[e1'] at k1
  refine⟨World.block_lt_of_cell? W _ k0,fun j v hj=>?_⟩
  match j,hj with
  | 0,hj=>rw[←hj];exact k0
  | 1,hj=>rw[←hj];exact k1
set_option maxRecDepth 100000 in
theorem law_laid (os:Os) (started:os.Started) (H:Type) (enc:TypeId×Value→H) {F:FuncId} {fn:Func} {s:ChangeSpec}
 (hfn:Tryz.prog.funcs[F]?=some fn) (noInit:Tryz.prog.inits.idxOf? F=none)
 (hspec:∀ds:List (DataW H),ds.length=fn.params.size→s.fn H ds={results:=[.lit (.bool true)],args:=ds }) (hvars:s.vars=[])
 (hbool:Tryz.prog.underlying 4=some .bool) (hres:fn.resultTypes= #[4])
 (hread:∀t∈fn.params.toList,Tryz.prog.readableRec t=true∧t < Tryz.prog.types.size)
 (witness:∃(w:World) (tape:Tape) (i:Input),w.os=os∧(w.forCall tape i).Shaped Tryz.checked.prog∧i.vars=[]∧Input.okWide Tryz.checked.prog (w.forCall tape i) .any w.heap.size F i∧
  ((s.pre enc Tryz.checked.prog fn [] false (w.forCall tape i).memory i.args∧laidMetH Tryz.checked.prog laidNv (w.forCall tape i).memory)∧sizedMet enc Tryz.checked.prog fn (OpenSpec.ofChange s) false (w.forCall tape i).memory i.args)∧({}:Assume).holds Tryz.checked.prog (lone (Frame.enter Tryz.checked.prog F i.args .normal) [] (w.forCall tape i)))
 (walk:∀(W:World) (base:Nat) (args:Array Value) (ds:List (DataW H)) (ps:List MemPlace),(∀(j:Nat) t v,fn.params[j]?=some t→args[j]?=some v→Value.okWide Tryz.prog W .any base t v)→
  DataW.TrodAll enc Tryz.prog W 0 (fun _=>true) true fn.params.toList args.toList ds ps→(∀p∈ps,p.block < W.heap.size)→Nv W→Calls Tryz.prog F args W fun e W'=>e= .returned (.bool true)∧Below W.heap.size W W') :
 ReturnsInHanded {} Tryz.checked os F .any (fun w args=>(s.pre enc Tryz.prog fn [] false w args∧laidMetH Tryz.prog laidNv w)∧sizedMet enc Tryz.prog fn (OpenSpec.ofChange s) false w args) (s.post enc Tryz.prog fn false true false false):=by
 refine returnsInHanded_of_change_and (C:=Tryz.checked) (X:=fun w _=>laidMetH Tryz.prog laidNv w) (fun _ _ _ hh h=>h.of_heap hh) Tryz.own started noInit hfn witness ?_
 intro W base args ds gs before hval hW _ _ hL _
 have hW':=hW
 obtain⟨p,q,hA0,hV,hbefore,hfz,hnd⟩:=hW
 have hA:DataW.TrodAll enc Tryz.prog W 0 (fun _=>true) true fn.params.toList args.toList ds p:=hA0
 rw[hvars] at hV
 obtain⟨rfl,rfl⟩:=trodVars_none hV
 have hlen:ds.length=fn.params.size:=by
  have:∀(ts:List TypeId) (vs:List Value) (ds:List (DataW H)) (ps:List MemPlace),DataW.TrodAll enc Tryz.prog W 0 (fun _=>true) true ts vs ds ps→ds.length=ts.length:=by
   intro ts
   induction ts with
   | nil=>intro vs ds ps h;obtain⟨_,rfl,_⟩:=trodAll_nil h;rfl
   | cons t ts ih =>
     intro vs ds ps h
     obtain⟨v,vs',d,ds',p,q,rfl,rfl,rfl,hd,hr⟩:=trodAll_cons h
     simp[ih _ _ _ hr]
  simpa using this _ _ _ _ hA
 have hlt:∀x∈p,x.block < W.heap.size:=fun x hx=>hW'.lt x (by rw[hbefore];simp[hx])
 refine(walk W base args ds p hval hA hlt (nv_of_laid hL)).mono fun e W' ⟨he,hb⟩=>?_
 subst he
 have e1:s.fn H (ds ++ [])={results:=[.lit (.bool true)],args:=ds }:=by rw[List.append_nil];exact hspec ds hlen
 have hbef:before=p:=by rw[hbefore];simp
 refine⟨_,rfl,post_of_below (pa:=p) (pv:=[]) (gs:=[]) hW' ?_ ?_ ?_ (by simp[hbef]) hb ?_⟩
 ·intro b sp hd
  rw[e1,hres]
  exact trodAll_mk1 (shut_bool hbool _)
 ·intro sp hsp
  rw[e1]
  exact trodAll_stays Tryz.laidOut hb hread hA hlt (fun x hx=>hsp x (by rw[hbef];exact hx))
 ·intro sp hsp
  rw[e1,hvars]
  rfl
 ·exact ok_one hres rfl (okWide_bool_mk hbool _)
end Go.Proofs.YtiioegopckoldaaGreatDoor
namespace Go.Proofs.YtiioegopckoldaaGreatDoor
open Go.RowKit Go.Shelf Go.WideShapes Go.ChangeShapes Go.ChangeAt Go.Deep
def Ca.wf (c:Ca):Prop:=i64ok c.frm∧c.seep.wf∧c.fill.wf
def Us.wf (u:Us):Prop:=i64ok u.field∧i64ok u.frm∧i64ok u.to
theorem cells_ca:Tryz.prog.cellsOf 213=5:=by kernel_rfl
theorem shape_ca:Shape 213 Ca.cells Ca.wf:=fun H enc w base spare held fuel cs x h=>by
 have hl:=(trod_field Tryz.underlying213 h).1
 rw[cells_ca] at hl
 obtain⟨a,e0,o0⟩:=trod_sub Tryz.underlying213 h 0 rfl rfl rfl cells_int shape_int
 obtain⟨b,e1,o1⟩:=trod_sub Tryz.underlying213 h 1 rfl rfl rfl cells_sp shape_sp
 obtain⟨c,e2,o2⟩:=trod_sub Tryz.underlying213 h 2 rfl rfl rfl cells_sp shape_sp
 match cs,hl with
 | [c0, c1, c2, c3, c4], _ =>
   refine⟨⟨a,b,c⟩,?_,o0,o1,o2⟩
   simp[Sp.cells,icell] at e0 e1 e2
   rw[e0,e1.1,e1.2,e2.1,e2.2];rfl
theorem cells_cas:Tryz.prog.cellsOf 25=1:=by kernel_rfl
theorem cells_ints:Tryz.prog.cellsOf 26=1:=by kernel_rfl
theorem cells_net:Tryz.prog.cellsOf 28=4:=by kernel_rfl
theorem trod_at {t ft:TypeId} {off k:Nat} {H:Type} {enc:TypeId×Value→H} {w:World} {base:Nat} {spare:Nat→Bool} {held:Bool} {fuel:Nat} {cs:List Value} {x:DataW H×List MemPlace} {fs:Array Field}
 (ht:Tryz.prog.underlying t=some (.struct fs)) (h:DataW.trod enc Tryz.prog w base spare held fuel t cs=some x) (i:Nat) {f:Field} (hi:fs[i]?=some f) (hft:f.type=ft) (hoff:f.offset=off) (hk:Tryz.prog.cellsOf ft=k) :
 ∃n y,DataW.trod enc Tryz.prog w base spare held n ft ((cs.drop off).take k)=some y:=by
 obtain⟨n,y,h0⟩:=(trod_field ht h).2 i f hi
 rw[hft,hoff,hk] at h0
 exact⟨n,y,h0⟩
set_option maxRecDepth 100000 in
theorem open_net {H:Type} {enc:TypeId×Value→H} {W:World} {base b':Nat} {spare:Nat→Bool} {held:Bool} {v:Value} {d:DataW H} {p:List MemPlace}
 (hv:Value.okWide Tryz.prog W .any b' 28 v) (h:DataW.Trod enc Tryz.prog W base spare held 28 v d p) :
 ∃Ac nc cc Af nf cf dry days,∃(cs:List Ca) (fs:List Int),v= .agg #[.slice Ac nc cc,.slice Af nf cf,.int .i64 dry,.int .i64 days]∧nc=cs.length∧nf=fs.length∧nc≤9223372036854775807∧nf≤9223372036854775807∧Rd W W.heap.size Ca.cells Ac cs∧Rd W W.heap.size icell Af fs∧i64ok dry∧i64ok days∧(∀c∈cs,c.wf)∧(∀n∈fs,i64ok n):=by
 obtain⟨vs,rfl,_⟩:=okWide_struct Tryz.underlying28 hv
 obtain⟨fuel,hf⟩:=h
 obtain⟨hl,hfd⟩:=trod_field Tryz.underlying28 hf
 rw[cells_net] at hl
 obtain⟨n0,y0,h0⟩:=trod_at Tryz.underlying28 hf 0 rfl rfl rfl cells_cas
 obtain⟨n1,y1,h1⟩:=trod_at Tryz.underlying28 hf 1 rfl rfl rfl cells_ints
 obtain⟨dry,e2,o2⟩:=trod_sub Tryz.underlying28 hf 2 rfl rfl rfl cells_int shape_int
 obtain⟨days,e3,o3⟩:=trod_sub Tryz.underlying28 hf 3 rfl rfl rfl cells_int shape_int
 obtain⟨Ac,nc,cc,cs,ec,hc1,hc2,hc3,hc4⟩:=open_sl_cs shape_ca Tryz.underlying25 cells_ca Ca.len (by omega) h0
 obtain⟨Af,nf,cf,fs,ef,hf1,hf2,hf3,hf4⟩:=open_sl_cs shape_int Tryz.underlying26 cells_int icell_len (by omega) h1
 have hvs:(Value.agg vs).cells.toList=vs.toList:=rfl
 refine⟨Ac,nc,cc,Af,nf,cf,dry,days,cs,fs,?_,hc1,hf1,hc2,hf2,hc3,hf3,o2,o3,hc4,hf4⟩
 rw[hvs] at hl ec ef e2 e3
 obtain⟨l⟩:=vs
 simp only at hl ec ef e2 e3
 match l,hl with
 | [c0, c1, c2, c3], _ =>
   simp[icell] at ec ef e2 e3
   rw[ec,ef,e2,e3]
end Go.Proofs.YtiioegopckoldaaGreatDoor
namespace Go.Proofs.YtiioegopckoldaaGreatDoor
open Go.RowKit Go.Shelf Go.WideShapes Go.ChangeShapes Go.ChangeAt Go.Deep
def ShapeAt {α:Type} (W:World) (t:TypeId) (rep:α→List Value) (ok:α→Prop):Prop:=
 ∀(H:Type) (enc:TypeId×Value→H) (base:Nat) (spare:Nat→Bool) (held:Bool) (fuel:Nat) (cs:List Value) (x:DataW H×List MemPlace),DataW.trod enc Tryz.prog W base spare held fuel t cs=some x→∃a:α,cs=rep a∧ok a
set_option maxRecDepth 100000 in
theorem open_slW {α:Type} {t e:TypeId} {rep:α→List Value} {W:World} {ok:α→Prop} {k:Nat} (hs:ShapeAt W e rep ok) (ht:Tryz.prog.underlying t=some (.slice e)) (hC:Tryz.prog.cellsOf e=k) (hk:∀a,(rep a).length=k) (hk0:0 < k)
 {H:Type} {enc:TypeId×Value→H} {base b':Nat} {spare:Nat→Bool} {held:Bool} {v:Value} {d:DataW H} {p:List MemPlace}
 (hv:Value.okWide Tryz.prog W .any b' t v) (h:DataW.Trod enc Tryz.prog W base spare held t v d p) :
 ∃A n c,∃xs:List α,v= .slice A n c∧n=xs.length∧n≤9223372036854775807∧Rd W W.heap.size rep A xs∧∀x∈xs,ok x:=by
 obtain⟨a0,len,cap,rfl⟩:=okWide_slice ht hv
 obtain⟨fuel,hf⟩:=h
 rcases open_slice ht hf with⟨hcs,_⟩ | ⟨a,len',cap',m,n,D,Pl,hcs,_,hl,hm,hmm,_,hi⟩
 ·simp[Value.cells] at hcs
  obtain⟨rfl,rfl,rfl⟩:=hcs
  exact⟨none,0,0,[],rfl,rfl,by omega,Rd.nil _ _ _ _,by simp⟩
 ·simp[Value.cells] at hcs
  obtain⟨rfl,rfl,rfl⟩:=hcs
  have hle:len≤m:=by rw[hmm];split <;> omega
  have hex:∀i,i < len→∃x:α,ok x∧∀j u,(rep x)[j]?=some u→W.cell? (a.add (i*k+j))=some u:=fun i hlt=>by
   obtain⟨cs',hc,ht'⟩:=hi i (by omega)
   rw[hC] at hc
   obtain⟨x,rfl,o⟩:=hs _ _ _ _ _ _ _ _ ht'
   obtain⟨_,hcl,hat⟩:=World.cells?_some hc
   refine⟨x,o,fun j u hu=>?_⟩
   have hj:j < k:=by rw[←hcl];exact(List.getElem?_eq_some_iff.1 hu).1
   have:=hat j hj
   rw[hu,add_add] at this
   exact this
  rcases Nat.eq_zero_or_pos len with h0 | h0
  ·subst h0
   exact⟨some a,0,cap,[],rfl,rfl,by omega,Rd.nil _ _ _ _,by simp⟩
  ·obtain⟨x0,_,_⟩:=hex 0 h0
   haveI:Inhabited α:=⟨x0⟩
   obtain⟨f,hfx⟩:=choose_lt hex
   have hspot:a.spot=none∧a.block < W.heap.size:=by
    have h1:0 < (rep (f 0)).length:=by rw[hk];exact hk0
    have h2:=(hfx 0 h0).2 0 _ (List.getElem?_eq_getElem h1)
    rw[show 0*k+0=0 by omega] at h2
    have h3:a.add 0=a:=by simp[Addr.add]
    rw[h3] at h2
    refine⟨?_,World.block_lt_of_cell? W a h2⟩
    unfold World.cell? at h2
    split at h2
    ·split at h2
     ·cases h2
     ·rename_i hn;simpa using hn
    ·cases h2
   have hA:a=⟨a.block,a.off,none⟩:=by
    obtain⟨ab,ao,sp⟩:=a
    simp only at hspot
    rw[hspot.1]
   refine⟨some a,len,cap,(List.range len).map f,rfl,by simp,by simp only[maxLen] at hm;omega,fun _=>⟨a.block,a.off,by rw[←hA],hspot.2,?_⟩,?_⟩
   ·intro j u hu
    have hlen:=flat_len hk ((List.range len).map f)
    have hj:j < len*k:=by
     have:=(List.getElem?_eq_some_iff.1 hu).1
     rw[hlen] at this
     simpa using this
    have hik:j / k < len:=Nat.div_lt_of_lt_mul (by rw[Nat.mul_comm];exact hj)
    have hdm:j / k*k+j % k=j:=by rw[Nat.mul_comm];exact Nat.div_add_mod j k
    have hx:((List.range len).map f)[j / k]?=some (f (j / k)):=by simp[hik]
    have h4:=flat_get hk hx (Nat.mod_lt j hk0)
    rw[hdm,hu] at h4
    have h5:=(hfx _ hik).2 _ _ h4.symm
    rw[hdm,hA] at h5
    unfold Addr.add at h5
    split at h5
    ·rename_i hz;rw[hz];simpa using h5
    ·exact h5
   ·intro x hx
    obtain⟨i,hi',rfl⟩:=List.mem_map.1 hx
    exact(hfx i (by simpa using hi')).1
def Rr.wf (W:World) (r:Rr):Prop:=r.n=r.fs.length∧r.n≤9223372036854775807∧Rd W W.heap.size icell r.A r.fs∧(i64ok r.mi∧i64ok r.pr)∧∀x∈r.fs,i64ok x
theorem cells_rent:Tryz.prog.cellsOf 65=3:=by kernel_rfl
set_option maxRecDepth 100000 in
theorem shape_rent (W:World):ShapeAt W 65 Rr.cells (Rr.wf W):=fun H enc base spare held fuel cs x h=>by
 obtain⟨hl,hf⟩:=trod_field Tryz.underlying65 h
 rw[cells_rent] at hl
 obtain⟨a,e0,o0⟩:=trod_sub Tryz.underlying65 h 0 rfl rfl rfl cells_int shape_int
 obtain⟨b,e1,o1⟩:=trod_sub Tryz.underlying65 h 1 rfl rfl rfl cells_int shape_int
 obtain⟨_,_,h2⟩:=hf 2 _ rfl
 obtain⟨A,n,c,xs,e2,hn,hn2,hr,hw⟩:=open_sl_cs shape_int Tryz.underlying26 cells_int icell_len (by omega) h2
 match cs,hl with
 | [c0, c1, c2], _ =>
   refine⟨⟨a,b,A,n,c,xs⟩,?_,hn,hn2,hr,⟨o0,o1⟩,hw⟩
   have e3: [c2]=[Value.slice A n c]:=by
    have h:(List.drop 2 [c0,c1,c2]).take (Tryz.prog.cellsOf 26)=[Value.slice A n c]:=e2
    rw[show Tryz.prog.cellsOf 26=1 by kernel_rfl] at h
    simpa using h
   simp[icell] at e0 e1 e3
   rw[e0,e1,e3];rfl
set_option maxRecDepth 100000 in
theorem open_rents {H:Type} {enc:TypeId×Value→H} {W:World} {base b':Nat} {spare:Nat→Bool} {held:Bool} {v:Value} {d:DataW H} {p:List MemPlace}
 (hv:Value.okWide Tryz.prog W .any b' 30 v) (h:DataW.Trod enc Tryz.prog W base spare held 30 v d p):∃A n c rs,v= .slice A n c∧n≤9223372036854775807∧RsAt0 W A n rs∧∀r∈rs,Rr.wf W r:=by
 obtain⟨A,n,c,xs,rfl,hn,hm,hr,hw⟩:=open_slW (shape_rent W) Tryz.underlying30 cells_rent Rr.len (by omega) hv h
 exact⟨A,n,c,xs,rfl,hm,⟨hr,hn,fun r hr=>⟨(hw r hr).1,(hw r hr).2.1,(hw r hr).2.2.1⟩⟩,hw⟩
end Go.Proofs.YtiioegopckoldaaGreatDoor
namespace Go.Proofs.YtiioegopckoldaaGreatDoor
open Go.RowKit Go.Shelf Go.WideShapes Go.ChangeShapes Go.ChangeAt
def Rc.wf (r:Rc):Prop:=r.cap.wf∧r.leak.wf∧r.gain.wf
theorem cells_rc:Tryz.prog.cellsOf 47=6:=by kernel_rfl
theorem shape_rc:Shape 47 Rc.cells Rc.wf:=fun H enc w base spare held fuel cs x h=>by
 have hl:=(trod_field Tryz.underlying47 h).1
 rw[cells_rc] at hl
 obtain⟨a,e0,o0⟩:=trod_sub Tryz.underlying47 h 0 rfl rfl rfl cells_sp shape_sp
 obtain⟨b,e1,o1⟩:=trod_sub Tryz.underlying47 h 1 rfl rfl rfl cells_sp shape_sp
 obtain⟨c,e2,o2⟩:=trod_sub Tryz.underlying47 h 2 rfl rfl rfl cells_sp shape_sp
 match cs,hl with
 | [c0, c1, c2, c3, c4, c5], _ =>
   refine⟨⟨a,b,c⟩,?_,o0,o1,o2⟩
   simp[Sp.cells] at e0 e1 e2
   rw[e0.1,e0.2,e1.1,e1.2,e2.1,e2.2];rfl
set_option maxRecDepth 100000 in
theorem topFed_lifted (os:Os) (started:os.Started) (H:Type) (enc:TypeId×Value→H) :
 ReturnsInHanded {} Tryz.checked os 3 .any (fun w args=>(Rows.topFedSpec.pre enc Tryz.prog Tryz.f3 [] false w args∧laidMetH Tryz.prog laidNv w)∧sizedMet enc Tryz.prog Tryz.f3 (OpenSpec.ofChange Rows.topFedSpec) false w args) (Rows.topFedSpec.post enc Tryz.prog Tryz.f3 false true false false):=by
 refine law_laid os started H enc (s:=Rows.topFedSpec) Tryz.func3 (by kernel_rfl) ?_ rfl Tryz.underlying4 rfl (of_decide_eq_true (by kernel_rfl))
  (ChangeSpec.witness_shaped (enc:=enc) (C:=Tryz.checked) (os:=os) (X:=fun w _=>laidMetH Tryz.prog laidNv w) false (World.laidAll Tryz.prog os laidNv) #[.slice none 0 0,.agg #[.int .i64 0,.int .i64 0],.agg #[.slice none 0 0,.slice none 0 0,.int .i64 0,.int .i64 0],.slice none 0 0,.slice none 0 0,.slice none 0 0] 8 (World.laidAll_os _ _ _)
   (World.shaped_of_ZipB (by kernel_rfl) (by kernel_rfl)) (by kernel_rfl) (by kernel_rfl) (by kernel_rfl)
   (by rw[MakeChecks.laidMetH_plain _ _ _ (by kernel_rfl)];exact laidMet_laidAll _ (by kernel_rfl) (by kernel_rfl))) ?_
 ·intro ds hds
  match ds,hds with
  | [a,b,c,d,e,f],_=>rfl
 ·intro W base args ds ps hval hA hlt hnv
  rw[Tryz.params3] at hA hval
  obtain⟨v0,v1,v2,v3,v4,v5,d0,d1,d2,d3,d4,d5,p0,p1,p2,p3,p4,p5,rfl,rfl,rfl,h0,h1,h2,h3,h4,h5⟩:=trodAll_six hA
  obtain⟨A,n,c,g,rfl,hn,hm,hx,_⟩:=open_sl shape_rc Tryz.underlying22 cells_rc Rc.len (by omega) (hval 0 _ v0 rfl rfl) h0
  obtain⟨⟨sl,sh⟩,e1,_⟩:=open_val shape_sp Tryz.underlying24 (hval 1 _ v1 rfl rfl) h1
  rw[show(v1:Value)= .agg #[.int .i64 sl,.int .i64 sh] from e1]
  obtain⟨Ac,nc,cc,Af,nf,cf,dry,days,cs,fs,rfl,hnc,hnf,_,_,hcs,hfs,_,_,_,_⟩:=open_net (hval 2 _ v2 rfl rfl) h2
  obtain⟨A1,m,cm,ss,rfl,hms,hms2,hss,_⟩:=open_sl shape_so Tryz.underlying29 cells_so So.len (by omega) (hval 3 _ v3 rfl rfl) h3
  obtain⟨A2,r,c2,rs,rfl,hr2,hR,_⟩:=open_rents (hval 4 _ v4 rfl rfl) h4
  obtain⟨B,nb,cb,bys,rfl,hnb,hnb2,hby,h32⟩:=open_sl shape_u32 Tryz.underlying31 cells_u32 u32cell_len (by omega) (hval 5 _ v5 rfl rfl) h5
  exact topfed_walk A Ac Af A1 A2 B n c nc cc nf cf m cm r c2 nb cb sl sh dry days g cs fs ss rs bys W hnv hn hm hx hnc hnf hcs hfs hms hms2 hss hR hr2 hnb hnb2 hby h32
theorem topFed_row_holds:Rows.TopFedSaid:=
 OpenClaim.holds_of_wide 3 Tryz.f3 rfl rfl rfl rfl rfl rfl rfl ⟨rfl,rfl,rfl,rfl,rfl⟩ rfl rfl rfl rfl rfl (by kernel_rfl) Tryz.func3 (by kernel_rfl)
  (of_decide_eq_true (by kernel_rfl)) (by unfold Func.isWrapper;rw[if_neg (of_decide_eq_false (by kernel_rfl))];exact⟨rfl,rfl⟩)
  (fun os started H enc _=>topFed_lifted os started H enc)
theorem topFed_params:(Tryz.f3.params.toList.all fun t=>Tryz.prog.wantsStandIn t == false)=true:=by kernel_rfl
theorem topFed_holds:Rows.TopFedCardSaid:=
 Claim7.holds_tied_plain_at .later [] [.data] true (true, "5e502a6c3fcf0c6f3724b64004bd3e95add114ddef492e4206a6cc5584cc7c6d") true
  topFed_row_holds (fun _ h=>by cases h) (by kernel_rfl) (fun _ h=>by cases h) topFed_row_tie rfl ⟨rfl,rfl⟩ (by kernel_rfl) rfl
  (fun f fn hf hfn=>by
   obtain rfl : f = 3 := Option.some.inj ((show Tryz.prog.funcNamed "aflaj/aflajtop.TopFed" = some 3 by kernel_rfl).symm.trans hf) |>.symm
   obtain rfl:fn=Tryz.f3:=(Option.some.inj (Tryz.func3.symm.trans hfn)).symm
   exact⟨by kernel_rfl,fun j t ht=>by
    have h:=List.all_eq_true.1 topFed_params t (by rw[←Array.getElem?_toList] at ht;exact List.mem_of_getElem? ht)
    exact eq_of_beq h⟩)
  (by kernel_rfl)
#print axioms topFed_holds
end Go.Proofs.YtiioegopckoldaaGreatDoor
