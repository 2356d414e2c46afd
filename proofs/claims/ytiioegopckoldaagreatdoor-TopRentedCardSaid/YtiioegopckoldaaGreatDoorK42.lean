/- lemmas for topRented_holds: QDV QDU QDW QB QA2 QA4 QA5 QA6 QE HR13 LayL. No conditions. -/
import Derived.Test.YtiioegopckoldaaGreatDoorK41
import Derived.Test.YtiioegopckoldaaGreatDoorProg
import Derived.KernelRfl
import Derived.Laws.Externs
import Derived.Test.YtiioegopckoldaaGreatDoorK11
import Derived.BigRegion
import Derived.Test.YtiioegopckoldaaGreatDoorK05
import Derived.Test.YtiioegopckoldaaGreatDoorK29
import Derived.LaidMore
import Derived.Lay
set_option linter.unusedVariables false
set_option linter.unusedSimpArgs false
namespace Go.Proofs.YtiioegopckoldaaGreatDoor.CV
open Go Go.RowKit
noncomputable def trK {α β:Type} (t:Tr α) (K:Tr α→β):β:=match t with
 | .nil=>K .nil
 | .node l v r=>K (.node l v r)
noncomputable def listK {α β:Type} (t:List α) (K:List α→β):β:=match t with
 | []=>K []
 | x :: l=>K (x :: l)
noncomputable def optK {β:Type} (t:Option Nat) (K:Option Nat→β):β:=match t with
 | none=>K none
 | some n=>natK n fun n=>K (some n)
noncomputable def modeK {β:Type} (t:FrameMode) (K:FrameMode→β):β:=match t with
 | .run=>K .run
 | .returning=>K .returning
 | .panicking l=>K (.panicking l)
noncomputable def stK {β:Type} (st:St) (K:St→β):β:=match st with
 | ⟨⟨fn, tm, nt, todo, defers, mode, kind, rnd, nb⟩, cs, H, nx⟩ =>
   natK fn fun fn=>trK tm fun tm=>natK nt fun nt=>listK todo fun todo=>listK defers fun defers=>modeK mode fun mode=>optK rnd fun rnd=>natK nb fun nb=>
   listK cs fun cs=>trK H fun H=>natK nx fun nx=>(match kind with
   | .normal=>K ⟨⟨fn,tm,nt,todo,defers,mode,.normal,rnd,nb⟩,cs,H,nx⟩
   | kind=>K ⟨⟨fn,tm,nt,todo,defers,mode,kind,rnd,nb⟩,cs,H,nx⟩)
theorem trK_id {α β:Type} (t:Tr α) (K:Tr α→β):trK t K=K t:=by cases t <;> rfl
theorem listK_id {α β:Type} (t:List α) (K:List α→β):listK t K=K t:=by cases t <;> rfl
theorem optK_id {β:Type} (t:Option Nat) (K:Option Nat→β):optK t K=K t:=by cases t <;> simp[optK,natK_id]
theorem modeK_id {β:Type} (t:FrameMode) (K:FrameMode→β):modeK t K=K t:=by cases t <;> rfl
theorem stK_id {β:Type} (st:St) (K:St→β):stK st K=K st:=by
 obtain⟨⟨fn,tm,nt,todo,defers,mode,kind,rnd,nb⟩,cs,H,nx⟩:=st
 simp only[stK,natK_id,trK_id,listK_id,optK_id,modeK_id]
 cases kind <;> rfl
section
variable (P:Program) (G:Nat) (FJ:FuncId→Option Nat) (OV:FuncId→Option TypeId) (KN:Fr→Tr CObj→Bool)
noncomputable def stK4 {β:Type} (n:Nat) (st:St) (K:St→β):β:=match Nat.mod n 8 with
 | 0=>stK st K
 | _=>K st
theorem stK4_id {β:Type} (n:Nat) (st:St) (K:St→β):stK4 n st K=K st:=by
 unfold stK4
 split
 ·exact stK_id st K
 ·rfl
noncomputable def runF:Nat→St→Option (List Out)
 | 0,_=>none
 | n + 1, st => stK4 n st fun st => match doneC P st with
   | some v=>some [{v,H:=st.H,nx:=st.nx,fn:=st.fr.fn }]
   | none=>stepC P G FJ OV (subC KN (runF n)) st (runF n)
theorem runF_eq:∀(n:Nat) (st:St),runF P G FJ OV KN n st=runC P G FJ OV KN n st:=by
 intro n
 induction n with
 | zero=>intro st;rfl
 | succ n ih =>
   intro st
   have e1:runF P G FJ OV KN n=runC P G FJ OV KN n:=funext ih
   simp only[runF,runC,stK4_id,e1]
   rfl
end
end Go.Proofs.YtiioegopckoldaaGreatDoor.CV
namespace Go.Proofs.YtiioegopckoldaaGreatDoor.CV
open Go Go.RowKit
section
variable {P:Program} {G:Nat} {FJ:FuncId→Option Nat} {OV:FuncId→Option TypeId} {KN:Fr→Tr CObj→Bool}
noncomputable def ren0 (G:Nat):Ren:=fun g=>if g < G then some ⟨g,0,0⟩ else none
noncomputable def isTrueV:Value→Bool
 | .bool b=>b
 | _=>false
noncomputable def runTrue (P:Program) (G:Nat) (FJ:FuncId→Option Nat) (OV:FuncId→Option TypeId) (KN:Fr→Tr CObj→Bool) (H0:Tr CObj) (f:FuncId) (n:Nat):Bool:=match enterC P f [] .normal G with
 | none=>false
 | some fr => match runF P G FJ OV KN n ⟨fr, [], H0, G⟩ with
   | none=>false
   | some outs=>outs.all fun o=>isTrueV o.v && Nat.beq o.fn f
theorem calls_true (hmix:P.follows .mixedOrders=true) (hov:OvOk P OV) {f:FuncId} {n:Nat} {H0:Tr CObj} {w:World} (hkn:KnOk P G w.heap.size KN) (hG:G≤w.heap.size)
 (hH0:∀g o,H0.get g=some o→g < G→∃ro,w.heap[g]?=some ro∧ORel P (ren0 G) ⟨g,0,0⟩ o ro) (hrun:runTrue P G FJ OV KN H0 f n=true) :
 Calls P f #[] w fun e w'=>e= .returned (.bool true)∧Below w.heap.size w w':=by
 intro cs
 unfold runTrue at hrun
 split at hrun
 ·cases hrun
 ·rename_i fr hent
  split at hrun
  ·cases hrun
  ·rename_i outs hr
   obtain⟨r1,r2,r3,_,_,_,_,r4⟩:=enter_rel (args':=#[]) (LR.nil (ren0 G)) hent
   have ren_lt:∀g p,ren0 G g=some p→g < G∧p=⟨g,0,0⟩:=fun g p h=>by
    unfold ren0 at h
    split at h
    ·rename_i hg;injection h with h;exact⟨hg,h.symm⟩
    ·cases h
   have hH:HRel P G w.heap.size (ren0 G) H0 G w:=by
    refine⟨fun b o p hb hp=>?_,fun b b' o o' p p' _ _ hp hp' e=>?_,fun b p hp=>?_,fun g hg=>⟨⟨g,0,0⟩,by simp[ren0,hg],rfl⟩,Nat.le_refl _,Nat.le_refl _⟩
    ·obtain⟨hlt,rfl⟩:=ren_lt b p hp
     exact hH0 b o hb hlt
    ·obtain⟨_,rfl⟩:=ren_lt b p hp
     obtain⟨_,rfl⟩:=ren_lt b' p' hp'
     exact e
    ·obtain⟨hlt,rfl⟩:=ren_lt b p hp
     exact⟨hlt,by show b < w.heap.size;omega,fun h=>by omega⟩
   have hrel:Rel P G w.heap.size cs G (ren0 G) ⟨fr,[],H0,G⟩ (Frame.enter P f #[] .normal) cs w:=
    ⟨hH,r1,fun i b hb=>(by have hb:(i,b)∈alOf fr:=hb;rw[r2] at hb;cases hb),by show fr.nb≤G;omega,.nil (by show G≤fr.nb;omega)⟩
   obtain⟨o,ho,ρ2,v',fr2,w2,q1,q2,q3,q4,q5,q6,q7,q8⟩:=runC_ok hmix hov hkn n cs G _ _ _ _ w outs hrel (by rw[←runF_eq];exact hr)
   have hall:=List.all_eq_true.1 hrun o ho
   rw[Bool.and_eq_true] at hall
   have hfn:o.fn=f:=Nat.eq_of_beq_eq_true hall.2
   have hv:v'= .bool true:=by
    have h1:=hall.1
    generalize o.v=v at q3 h1
    cases q3 <;> simp_all [isTrueV]
   subst hv
   exact⟨.returned (.bool true),w2,fr2,⟨rfl,q6⟩,q1,q8.trans hfn,q2⟩
end
end Go.Proofs.YtiioegopckoldaaGreatDoor.CV
namespace Go.Proofs.YtiioegopckoldaaGreatDoor.CV
open Go Go.RowKit
noncomputable def romFrom (c:Tr Value):Nat→List Value→Bool
 | _,[]=>true
 | i, v :: vs => match c.get i with
   | some u=>veq 8 u v && okV OKD v && romFrom c (i+1) vs
   | none=>false
noncomputable def romIs (vs:List Value) (H:Tr CObj):Bool:=match H.get 0 with
 | some (.rom c n)=>Nat.beq n vs.length && romFrom c 0 vs
 | _=>false
noncomputable def knownC (vs:List Value) (fs:List FuncId):Fr→Tr CObj→Bool:=fun fr H=>fs.any (Nat.beq fr.fn) && (match fr.tm with | .nil=>true | _=>false) && romIs vs H
noncomputable def rom0 (vs:List Value):Tr CObj:= .node .nil (some (.rom (Tr.ofList (vs.length+1) vs) vs.length)) .nil
def Var0 (vs:List Value) (w:World):Prop:=0 < w.heap.size∧∀(j:Nat) v,vs[j]?=some v→w.cell? ⟨0,j,none⟩=some v
theorem romFrom_spec {c:Tr Value}:∀(vs:List Value) (i:Nat),romFrom c i vs=true→∀(j:Nat) v,vs[j]?=some v→c.get (i+j)=some v∧okV OKD v=true:=by
 intro vs
 induction vs with
 | nil=>intro i _ j v h;simp at h
 | cons u vs ih =>
   intro i h j v hj
   unfold romFrom at h
   split at h
   ·rename_i x hx
    simp only[Bool.and_eq_true] at h
    cases j with
    | zero =>
      simp at hj;subst hj
      rw[veq_eq _ _ _ h.1.1] at hx
      exact⟨hx,h.1.2⟩
    | succ j =>
      have:=ih (i+1) h.2 j v (by simpa using hj)
      rw[show i+(j+1)=i+1+j by omega];exact this
   ·cases h
section
variable {P:Program} {FJ:FuncId→Option Nat} {OV:FuncId→Option TypeId}
theorem var0_of {n0 nx:Nat} {ρ:Ren} {H:Tr CObj} {w:World} {vs:List Value} (hH:HRel P 1 n0 ρ H nx w) (h:romIs vs H=true):Var0 vs w:=by
 unfold romIs at h
 split at h
 ·rename_i c n hg
  rw[Bool.and_eq_true] at h
  have hn:n=vs.length:=Nat.eq_of_beq_eq_true h.1
  obtain⟨p,hp,hpr⟩:=hH.glob 0 (by omega)
  obtain⟨ro,h1,h2⟩:=hH.obj 0 _ p hg hp
  have hlt:=(hH.dom 0 p hp).2.1
  rw[hpr] at h1 hlt
  cases h2 with
  | rom hc =>
    refine⟨hlt,fun j v hj=>?_⟩
    obtain⟨g1,g2⟩:=romFrom_spec vs 0 h.2 j v hj
    rw[Nat.zero_add] at g1
    obtain⟨v',q1,q2⟩:=hc j v (by rw[hn];exact(List.getElem?_eq_some_iff.1 hj).1) g1
    rw[cell_of h1,q1,okV_eq _ _ _ g2 q2]
 ·cases h
theorem knOk_known {n0:Nat} {vs:List Value} {fs:List FuncId} (h:∀f∈fs,∀w,Var0 vs w→Calls P f #[] w fun e w'=>e= .returned (.bool true)∧Below w.heap.size w w'):KnOk P 1 n0 (knownC vs fs):=by
 intro f args args' fr H nx ρ w hent hargs hH hk
 unfold knownC at hk
 simp only[Bool.and_eq_true] at hk
 obtain⟨⟨hf,ht⟩,hr⟩:=hk
 obtain⟨_,_,_,_,_,hfn,_,_⟩:=enter_rel hargs hent
 obtain⟨g,hg,hgb⟩:=List.any_eq_true.1 hf
 have hg2:fr.fn=g:=Nat.eq_of_beq_eq_true hgb
 have harg:args=[]:=by
  unfold enterC at hent
  split at hent
  ·cases hent
  ·split at hent
   ·cases hent
   ·split at hent
    ·cases hent
    ·injection hent with hent;subst hent
     cases args with
     | nil=>rfl
     | cons x l=>simp[Tr.ofList] at ht
 subst harg
 have harg':args'= #[]:=by apply Array.ext';simpa using hargs.of_nil
 rw[harg']
 exact h f (by rw[←hfn,hg2];exact hg) w (var0_of hH hr)
theorem calls_var0 (hmix:P.follows .mixedOrders=true) (hov:OvOk P OV) {vs:List Value} (hvs:vs.all (okV OKD)=true) (hne:0 < vs.length) {fs:List FuncId} (h:∀f∈fs,∀w,Var0 vs w→Calls P f #[] w fun e w'=>e= .returned (.bool true)∧Below w.heap.size w w')
 {f:FuncId} {n:Nat} (hrun:runTrue P 1 FJ OV (knownC vs fs) (rom0 vs) f n=true) (w:World) (hw:Var0 vs w):Calls P f #[] w fun e w'=>e= .returned (.bool true)∧Below w.heap.size w w':=by
 refine calls_true hmix hov (knOk_known h) hw.1 (fun g o ho hg=>?_) hrun
 have hg:g=0:=by omega
 subst hg
 simp only[rom0,Tr.get_zero,Option.some.injEq] at ho
 subst ho
 obtain⟨v0,hv0⟩:∃v,vs[0]?=some v:=⟨_,List.getElem?_eq_getElem hne⟩
 have hc:=hw.2 0 v0 hv0
 unfold World.cell? at hc
 simp only[] at hc
 generalize hro:w.heap[0]?=ro at hc
 cases ro with
 | none=>simp at hc
 | some ro =>
   cases ro with
   | cells cr t fz =>
     refine⟨_,rfl,.rom fun i v hi hv=>?_⟩
     have hv':=ofList_get _ _ _ _ hv
     have:=hw.2 i v hv'
     rw[cell_of hro] at this
     exact⟨v,this,okV_refl _ _ (List.all_eq_true.1 hvs v (List.mem_of_getElem? hv'))⟩
   | _=>simp at hc
end
end Go.Proofs.YtiioegopckoldaaGreatDoor.CV
namespace Go.Proofs.YtiioegopckoldaaGreatDoor
open Go.RowKit CV
def evFj:FuncId→Option Nat:=fun f=>if Nat.beq f 244 then some 1 else if Nat.beq f 147 then some 0 else if Nat.beq f 78 then some 0 else if Nat.beq f 29 then some 0 else none
def evOv:FuncId→Option TypeId:=fun f=>match Nat.beq f 262 with | true=>some 158 | false=>none
def evNv:List Value:=[.int .i64 1,.int .i64 0]
end Go.Proofs.YtiioegopckoldaaGreatDoor
namespace Go.Proofs.YtiioegopckoldaaGreatDoor
open Go.RowKit CV
set_option maxRecDepth 100000
set_option maxHeartbeats 0
theorem ev02_run:runTrue Go.Proofs.Tryz.prog 1 evFj evOv (knownC evNv []) (rom0 evNv) 147 60000=true:=by kernel_rfl
end Go.Proofs.YtiioegopckoldaaGreatDoor
namespace Go.Proofs.YtiioegopckoldaaGreatDoor
open Go.RowKit CV
set_option maxRecDepth 100000
set_option maxHeartbeats 0
theorem ev04_run:runTrue Go.Proofs.Tryz.prog 1 evFj evOv (knownC evNv [147]) (rom0 evNv) 78 60000=true:=by kernel_rfl
end Go.Proofs.YtiioegopckoldaaGreatDoor
namespace Go.Proofs.YtiioegopckoldaaGreatDoor
open Go.RowKit CV
set_option maxRecDepth 100000
set_option maxHeartbeats 0
theorem ev05_run:runTrue Go.Proofs.Tryz.prog 1 evFj evOv (knownC evNv [78]) (rom0 evNv) 29 60000=true:=by kernel_rfl
end Go.Proofs.YtiioegopckoldaaGreatDoor
namespace Go.Proofs.YtiioegopckoldaaGreatDoor
open Go.RowKit CV
set_option maxRecDepth 100000
set_option maxHeartbeats 0
theorem ev06_run:runTrue Go.Proofs.Tryz.prog 1 evFj evOv (knownC evNv [29]) (rom0 evNv) 6 60000=true:=by kernel_rfl
end Go.Proofs.YtiioegopckoldaaGreatDoor
namespace Go.Proofs.YtiioegopckoldaaGreatDoor
open Go.RowKit CV
theorem evOv_ok:OvOk Tryz.prog evOv:=by
 intro f t h
 unfold evOv at h
 split at h
 ·rename_i hb
  have hf:=Nat.eq_of_beq_eq_true hb
  injection h with h
  subst hf h
  exact⟨#[4],fun args w=>run_callFunc_extern Tryz.func262 (by kernel_rfl) (by kernel_rfl) (by kernel_rfl) (e:=Extern.SlicesOverlaps.overlaps #[158,158] #[4]) (by kernel_rfl) args w⟩
 ·cases h
theorem ev02_any:∀w:World,Var0 evNv w→Calls Tryz.prog 147 #[] w fun e w'=>e= .returned (.bool true)∧Below w.heap.size w w':=
 calls_var0 (by kernel_rfl) evOv_ok (by kernel_rfl) (by decide) (fs:=[]) (fun f hf=>by cases hf) ev02_run
theorem ev04_any:∀w:World,Var0 evNv w→Calls Tryz.prog 78 #[] w fun e w'=>e= .returned (.bool true)∧Below w.heap.size w w':=
 calls_var0 (by kernel_rfl) evOv_ok (by kernel_rfl) (by decide) (fun f hf=>by simp only[List.mem_singleton] at hf;subst hf;exact ev02_any) ev04_run
theorem ev05_any:∀w:World,Var0 evNv w→Calls Tryz.prog 29 #[] w fun e w'=>e= .returned (.bool true)∧Below w.heap.size w w':=
 calls_var0 (by kernel_rfl) evOv_ok (by kernel_rfl) (by decide) (fun f hf=>by simp only[List.mem_singleton] at hf;subst hf;exact ev04_any) ev05_run
theorem ev06_any:∀w:World,Var0 evNv w→Calls Tryz.prog 6 #[] w fun e w'=>e= .returned (.bool true)∧Below w.heap.size w w':=
 calls_var0 (by kernel_rfl) evOv_ok (by kernel_rfl) (by decide) (fun f hf=>by simp only[List.mem_singleton] at hf;subst hf;exact ev05_any) ev06_run
end Go.Proofs.YtiioegopckoldaaGreatDoor
namespace Go.Proofs.YtiioegopckoldaaGreatDoor
open Go.RowKit Go.Shelf
def Nv (w:World):Prop:=At w 0 [.int .i64 1,.int .i64 0]
theorem Nv.below {w w':World} (h:Nv w) (hb:Below w.heap.size w w'):Nv w':=At.below h hb
theorem eql_endsA (w:World):(Op.equalIn 10000 295 (.agg #[.int .i64 700000,.int .i64 710000]) (.agg #[.int .i64 1,.int .i64 0])).run Tryz.prog w= .ok false w:=by kernel_rfl
attribute [local go_sem] eql_endsA
end Go.Proofs.YtiioegopckoldaaGreatDoor
namespace Go.Proofs.YtiioegopckoldaaGreatDoor
open Go.RowKit Go.Shelf Go.WideShapes Go.ChangeShapes Go.ChangeAt Go.Deep
abbrev laidNv : List (String × DataW Unit) := [("aflaj/hour.never", Rows.laid_aflaj_hour_never)]
set_option maxRecDepth 100000 in
theorem nv_of_laid {W:World} (h:laidMetH Tryz.prog laidNv W):Nv W:=by
 rw[MakeChecks.laidMetH_plain _ _ _ (by kernel_rfl)] at h
 obtain⟨ps,⟨g,t,cs,fuel,p,q,hg,ht,hv,hd,_,_⟩,_,_⟩:=h
 obtain rfl := Option.some.inj ((show Tryz.prog.globalNamed "aflaj/hour.never" = some 0 by kernel_rfl).symm.trans hg)
 obtain rfl:=Option.some.inj ((show(Tryz.prog.globals[0]?).map (·.type)=some 295 by kernel_rfl).symm.trans ht)
 obtain⟨xs,n,_,ex,hcl,hl,hel⟩:=DataW.trod_array Tryz.underlying295 hd
 have c2:Tryz.prog.cellsOf 295=2:=by kernel_rfl
 have c1:Tryz.prog.cellsOf 3=1:=by kernel_rfl
 rw[c2] at hcl
 have h0:=hel 0 (by omega)
 have h1:=hel 1 (by omega)
 rw[c1] at h0 h1
 have l0:0 < xs.length:=by omega
 have l1:1 < xs.length:=by omega
 rw[List.getElem?_eq_getElem l0] at h0
 rw[List.getElem?_eq_getElem l1] at h1
 obtain⟨z0,e0,f0,_⟩:=DataW.trod_int Tryz.underlying3 h0
 obtain⟨z1,e1,f1,_⟩:=DataW.trod_int Tryz.underlying3 h1
 have ea: [(DataW.lit (.int .i64 1):DataW Unit),.lit (.int .i64 0)]=xs.map (·.1):=DataW.agg.inj (Prod.mk.inj ex).1
 have ea0:=congrArg (·[0]?) ea
 have ea1:=congrArg (·[1]?) ea
 simp only[List.getElem?_map,List.getElem?_eq_getElem l0,List.getElem?_eq_getElem l1,f0,f1,List.getElem?_cons_zero,List.getElem?_cons_succ,Option.map_some,Option.some.injEq,DataW.lit.injEq,Lit.int.injEq,true_and] at ea0 ea1
 subst ea0 ea1
 match hcs:cs.toList,hcl with
 | [y0,y1],_=>
  rw[hcs] at e0 e1
  have e0':y0= .int .i64 1:=by simpa using e0
  have e1':y1= .int .i64 0:=by simpa using e1
  have k0:=World.var?_cell hg hv 0
  have k1:=World.var?_cell hg hv 1
  rw[←Array.getElem?_toList,hcs] at k0 k1
  rw[e0'] at k0
  rw[e1'] at k1
  refine⟨World.block_lt_of_cell? W _ k0,fun j v hj=>?_⟩
  match j,hj with
  | 0,hj=>rw[←hj];exact k0
  | 1,hj=>rw[←hj];exact k1
set_option maxRecDepth 100000 in
theorem law_laid (os:Os) (started:os.Started) (H:Type) (enc:TypeId×Value→H) {F:FuncId} {fn:Func} {s:ChangeSpec}
 (hfn:Tryz.prog.funcs[F]?=some fn) (noInit:Tryz.prog.inits.idxOf? F=none)
 (hspec:∀ds:List (DataW H),ds.length=fn.params.size→s.fn H ds={results:=[.lit (.bool true)],args:=ds }) (hvars:s.vars=[])
 (hbool:Tryz.prog.underlying 4=some .bool) (hres:fn.resultTypes= #[4])
 (hread:∀t∈fn.params.toList,Tryz.prog.readableRec t=true∧t < Tryz.prog.types.size)
 (witness:∃(w:World) (tape:Tape) (i:Input),w.os=os∧(w.forCall tape i).Shaped Tryz.checked.prog∧i.vars=[]∧Input.okWide Tryz.checked.prog (w.forCall tape i) .any w.heap.size F i∧
  ((s.pre enc Tryz.checked.prog fn [] false (w.forCall tape i).memory i.args∧laidMetH Tryz.checked.prog laidNv (w.forCall tape i).memory)∧sizedMet enc Tryz.checked.prog fn (OpenSpec.ofChange s) false (w.forCall tape i).memory i.args)∧({}:Assume).holds Tryz.checked.prog (lone (Frame.enter Tryz.checked.prog F i.args .normal) [] (w.forCall tape i)))
 (walk:∀(W:World) (base:Nat) (args:Array Value) (ds:List (DataW H)) (ps:List MemPlace),(∀(j:Nat) t v,fn.params[j]?=some t→args[j]?=some v→Value.okWide Tryz.prog W .any base t v)→
  DataW.TrodAll enc Tryz.prog W 0 (fun _=>true) true fn.params.toList args.toList ds ps→(∀p∈ps,p.block < W.heap.size)→Nv W→Calls Tryz.prog F args W fun e W'=>e= .returned (.bool true)∧Below W.heap.size W W') :
 ReturnsInHanded {} Tryz.checked os F .any (fun w args=>(s.pre enc Tryz.prog fn [] false w args∧laidMetH Tryz.prog laidNv w)∧sizedMet enc Tryz.prog fn (OpenSpec.ofChange s) false w args) (s.post enc Tryz.prog fn false true false false):=by
 refine returnsInHanded_of_change_and (C:=Tryz.checked) (X:=fun w _=>laidMetH Tryz.prog laidNv w) (fun _ _ _ hh h=>h.of_heap hh) Tryz.own started noInit hfn witness ?_
 intro W base args ds gs before hval hW _ _ hL _
 have hW':=hW
 obtain⟨p,q,hA0,hV,hbefore,hfz,hnd⟩:=hW
 have hA:DataW.TrodAll enc Tryz.prog W 0 (fun _=>true) true fn.params.toList args.toList ds p:=hA0
 rw[hvars] at hV
 obtain⟨rfl,rfl⟩:=trodVars_none hV
 have hlen:ds.length=fn.params.size:=by
  have:∀(ts:List TypeId) (vs:List Value) (ds:List (DataW H)) (ps:List MemPlace),DataW.TrodAll enc Tryz.prog W 0 (fun _=>true) true ts vs ds ps→ds.length=ts.length:=by
   intro ts
   induction ts with
   | nil=>intro vs ds ps h;obtain⟨_,rfl,_⟩:=trodAll_nil h;rfl
   | cons t ts ih =>
     intro vs ds ps h
     obtain⟨v,vs',d,ds',p,q,rfl,rfl,rfl,hd,hr⟩:=trodAll_cons h
     simp[ih _ _ _ hr]
  simpa using this _ _ _ _ hA
 have hlt:∀x∈p,x.block < W.heap.size:=fun x hx=>hW'.lt x (by rw[hbefore];simp[hx])
 refine(walk W base args ds p hval hA hlt (nv_of_laid hL)).mono fun e W' ⟨he,hb⟩=>?_
 subst he
 have e1:s.fn H (ds ++ [])={results:=[.lit (.bool true)],args:=ds }:=by rw[List.append_nil];exact hspec ds hlen
 have hbef:before=p:=by rw[hbefore];simp
 refine⟨_,rfl,post_of_below (pa:=p) (pv:=[]) (gs:=[]) hW' ?_ ?_ ?_ (by simp[hbef]) hb ?_⟩
 ·intro b sp hd
  rw[e1,hres]
  exact trodAll_mk1 (shut_bool hbool _)
 ·intro sp hsp
  rw[e1]
  exact trodAll_stays Tryz.laidOut hb hread hA hlt (fun x hx=>hsp x (by rw[hbef];exact hx))
 ·intro sp hsp
  rw[e1,hvars]
  rfl
 ·exact ok_one hres rfl (okWide_bool_mk hbool _)
end Go.Proofs.YtiioegopckoldaaGreatDoor
