/- lemmas for topRented_holds: QDQ QDR. No conditions. -/
import Derived.Test.YtiioegopckoldaaGreatDoorK39
set_option linter.unusedVariables false
set_option linter.unusedSimpArgs false
namespace Go.Proofs.YtiioegopckoldaaGreatDoor.CV
open Go Go.RowKit
section
variable {P:Program} {G n0 lo:Nat} {FJ:FuncId→Option Nat} {OV:FuncId→Option TypeId} {sub:Sub} {base:List Frame} {ρ:Ren} {st:St} {fr':Frame} {cs':List Frame} {w:World} {β:Type} {K:St→Option β} {out:β}
theorem exit_rel {id:Nat}:∀{k:List CI} {k':List Item},KR ρ k k'→(∀k2,exitC id k=some k2→∃k2',exitTo id k'=some k2'∧KR ρ k2 k2')∧(exitC id k=none→exitTo id k'=none):=by
 intro k k' h
 induction h with
 | nil=>exact⟨fun k2 h=>by simp[exitC] at h,fun _=>rfl⟩
 | it hx hk ih =>
   rename_i x k k'
   cases x with
   | inBlock id' =>
     simp only[exitC,exitTo]
     by_cases e:id'=id
     ·subst e
      simp only[Nat.beq_refl,beq_self_eq_true,if_true]
      exact⟨fun k2 h=>by injection h with h;subst h;exact⟨_,rfl,hk⟩,fun h=>by cases h⟩
     ·have h1:Nat.beq id' id=false:=by cases hb:Nat.beq id' id with | false=>rfl | true=>exact absurd (Nat.eq_of_beq_eq_true hb) e
      have h2:(id' == id)=false:=by simpa using e
      simp only[h1,h2,Bool.false_eq_true,if_false]
      exact ih
   | code c=>simpa only[exitC,exitTo] using ih
   | inLoop c=>simpa only[exitC,exitTo] using ih
   | inScope c=>simpa only[exitC,exitTo] using ih
   | beginRound=>simpa only[exitC,exitTo] using ih
   | _=>simp[plainItem] at hx
 | rf hp _ ih=>simpa only[exitC,exitTo] using ih
 | erf hp _ ih=>simpa only[exitC,exitTo] using ih
 | ops he hL _ ih=>simpa only[exitC,exitTo] using ih
theorem goto_rel {l:Nat}:∀{k:List CI} {k':List Item},KR ρ k k'→(∀k2,gotoC l k=some k2→∃k2',gotoIn l k'=some k2'∧KR ρ k2 k2')∧(gotoC l k=none→gotoIn l k'=none):=by
 intro k k' h
 induction h with
 | nil=>exact⟨fun k2 h=>by simp[gotoC] at h,fun _=>rfl⟩
 | it hx hk ih =>
   rename_i x k k'
   cases x with
   | inScope b =>
     simp only[gotoC,gotoIn]
     cases hf:findLabel b l with
     | none=>exact ih
     | some rest=>exact⟨fun k2 h=>by injection h with h;subst h;exact⟨_,rfl,.it rfl (.it rfl hk)⟩,fun h=>by cases h⟩
   | code c=>simpa only[gotoC,gotoIn] using ih
   | inLoop c=>simpa only[gotoC,gotoIn] using ih
   | inBlock c=>simpa only[gotoC,gotoIn] using ih
   | beginRound=>simpa only[gotoC,gotoIn] using ih
   | _=>simp[plainItem] at hx
 | rf hp _ ih=>simpa only[gotoC,gotoIn] using ih
 | erf hp _ ih=>simpa only[gotoC,gotoIn] using ih
 | ops he hL _ ih=>simpa only[gotoC,gotoIn] using ih
theorem KR.al {k:List CI} {k':List Item} (h:KR ρ k k') (fr:Fr):alOf {fr with todo:=k }=[]:=by cases h <;> rfl
theorem todo_to (h:Rel P G n0 base lo ρ st fr' cs' w) (hm:st.fr.mode= .run) {k:List CI} {k':List Item} (hT:TRel ρ st.fr.tm st.fr.nt (fun _=>False) fr'.tmps) (hk:KR ρ k k') {w2:World} (hw:w2.heap=w.heap) (hb:Below n0 w w2)
 (hs:step P (lone fr' cs' w)= .next (lone {fr' with todo:=k' } cs' w2)) (hK:K {st with fr:={st.fr with todo:=k } }=some out):StepTo P G n0 base lo ρ st.fr.nb fr' cs' w K out:=by
 refine⟨ρ,_,_,cs',w2,hK,.one hs,h.top (H2:=st.H) (nx2:=st.nx) (Grow.refl _ _) (h.heap.of_heap hw) (Nat.le_refl _) ⟨h.fr.fn,h.fr.kind,h.fr.rnd,h.fr.mode,h.fr.defers,fun _=>⟨_,.plain hk,hT⟩,fun e=>absurd hm e⟩ (fun i b hb=>?_) rfl,hb,Grow.refl _ _⟩
 rw[hk.al] at hb;cases hb
theorem run_mode (h:FRel ρ st.fr fr') (hm:st.fr.mode= .run):fr'.mode= .run:=by
 have:=h.mode;rw[hm] at this;generalize fr'.mode=m at this ⊢;cases this;rfl
theorem plain_of {k:List CI} {td:List Item} {pend:Nat→Prop} (h:TodoR ρ k td pend) (h1:∀ops ls ph phs hp al r,k≠.dr ops ls ph phs hp al :: r) (h2:∀ops ph phs hp al r,k≠.drh ops ph phs hp al :: r):KR ρ k td∧pend=fun _=>False:=by
 cases h with
 | plain h=>exact⟨h,rfl⟩
 | dr=>exact absurd rfl (h1 _ _ _ _ _ _ _)
 | drh=>exact absurd rfl (h2 _ _ _ _ _ _)
theorem run_setLoop {l:Nat} {lp:Loop} {o:Obj} (h:w.heap[l]?=some (.loop lp)):(setObj l o).run P w= .ok () {w with heap:=w.heap.setIfInBounds l o }:=by simp[setObj,Sem.run,h]
theorem back_to (h:Rel P G n0 base lo ρ st fr' cs' w) {c:Fr} {cs:List Fr} {c':Frame} {cs2:List Frame} (hcs:st.cs=c :: cs) (hcs':cs'=c' :: cs2) (hm:c.mode= .run) {H2:Tr CObj} {w2:World} (hH:HRel P G n0 ρ H2 st.nx w2) (hb:Below n0 w w2) {v v':Value} (hv:VRel ρ v v')
 (hs:step P (lone fr' (c' :: cs2) w)= .next (lone (c'.finish v') cs2 w2)) (hK:finishC c v (fun c=>K {fr:=c,cs,H:=H2,nx:=st.nx })=some out):StepTo P G n0 base lo ρ st.fr.nb fr' cs' w K out:=by
 have hcsr:=h.cs
 rw[hcs,hcs'] at hcsr
 cases hcsr with
 | cons hcr hal hn hcc =>
   obtain⟨c2,k1,k2,k3,k4⟩:=finish_rel hcr hm (Ren.le.refl ρ) (fun _ _ _ h=>h) hv hK
   have hnb:=h.nb
   refine⟨ρ,_,_,_,w2,k1,by rw[hcs'];exact .one hs,⟨hH,k2,fun i b hb=>?_,by show c2.nb≤st.nx;omega,by show StkR ρ base lo c2.nb cs cs2;rw[k4];exact hcc⟩,hb,Grow.refl _ _⟩
   rcases k3 with e | e
   ·rw[e] at hb;have:=hal i b hb;show c2.nb≤b∧b < st.nx;omega
   ·rw[e] at hb;cases hb
theorem leave_to (h:Rel P G n0 base lo ρ st fr' cs' w) (hm:st.fr.mode= .run) (hT:TRel ρ st.fr.tm st.fr.nt (fun _=>False) fr'.tmps) (jump:Option Code) (hl:leaves fr'.todo jump) (hK:leaveC G st jump K=some out):StepTo P G n0 base lo ρ st.fr.nb fr' cs' w K out:=by
 have hm':=run_mode h.fr hm
 unfold leaveC at hK
 split at hK
 ·rename_i hro
  have hro':fr'.roundOf=none:=by have:=h.fr.rnd;rw[hro] at this;generalize fr'.roundOf=r at this ⊢;cases this;rfl
  have hs:∀(j:Option Code),j=jump→(j=none∨j=some .ret)→step P (lone fr' cs' w)= .next (lone {fr' with mode:= .returning } cs' w):=fun j e hj=>by
   subst e
   rcases hj with rfl | rfl
   ·exact s_end hm' hl hro'
   ·obtain⟨k,hk⟩:=hl;exact s_ret hm' hk hro'
  have fin:(j:Option Code)→j=jump→(j=none∨j=some .ret)→K {st with fr:={st.fr with mode:= .returning } }=some out→StepTo P G n0 base lo ρ st.fr.nb fr' cs' w K out:=fun j e hj hK=>by
   refine⟨ρ,_,_,cs',w,hK,.one (hs j e hj),h.top (H2:=st.H) (nx2:=st.nx) (Grow.refl _ _) h.heap (Nat.le_refl _) ⟨h.fr.fn,h.fr.kind,h.fr.rnd,.ret,h.fr.defers,fun e=>(by cases e),fun _=>hT⟩ (fun i b hb=>h.al i b hb) rfl,Below.refl _ _,Grow.refl _ _⟩
  split at hK
  ·exact fin _ rfl (.inl rfl) hK
  ·exact fin _ rfl (.inr rfl) hK
  ·cases hK
 ·rename_i l hro
  split at hK
  ·rename_i s pend fn tm nt params assign body df hg
   split at hK
   ·rename_i hb hk
    have hb:G≤l:=by have:=blt_false hb;omega
    obtain⟨H',e1,g1⟩:=setK_spec DEP st.H l (.loop (if jump.isNone then .ready else .done) jump fn tm nt params assign body df)
    rw[e1] at hK
    have hrn:=h.fr.rnd
    rw[hro] at hrn
    generalize hro':fr'.roundOf=r' at hrn
    cases hrn with
    | some hp =>
      obtain⟨p',ro,hp',hrow,hor⟩:=h.heap.objp hp hg
      rw[hp] at hp';injection hp' with hp';subst hp'
      cases hor with
      | loop hTl hd =>
        rename_i p q tmr
        let lp:Loop:={state:=if jump.isNone then .ready else .done,pending:=jump,fn,tmps:=tmr,params,assign,body,defers:=q.r }
        have hlt:=(h.heap.dom _ _ hp).2.1
        have hH2:HRel P G n0 ρ H' st.nx {w with heap:=w.heap.setIfInBounds p.r (.loop lp) }:=by
         refine h.heap.put (ro:= .loop lp) hg hp g1 Upd.setObj (by simp[hlt]) ?_
         exact .loop hTl hd
        have hrun:(Instr.endRound p.r jump).run P w= .ok (.bool jump.isNone) {w with heap:=w.heap.setIfInBounds p.r (.loop lp) }:=by
         simp only[Instr.endRound,Sem.run_bind,run_getLoop hrow,Result.andThen_ok,run_setLoop hrow,Sem.run_pure]
         rfl
        have hkind:fr'.kind= .normal:=by rw[h.fr.kind,hk]
        unfold doReturnC at hK
        cases hcs:st.cs with
        | nil=>rw[hcs] at hK;cases hK
        | cons c cs =>
          rw[hcs,hk] at hK
          simp only[] at hK
          have hcsr:=h.cs
          rw[hcs] at hcsr
          cases hcs':cs' with
          | nil =>
            rw[hcs'] at hcsr;cases hcsr
          | cons c' cs2 =>
            split at hK
            ·rename_i hcm
             have hv:VRel ρ (.bool jump.isNone) (.bool jump.isNone):= .bool _
             rw[←hcs']
             exact back_to h hcs hcs' hcm hH2 (Upd.setObj.below ((h.heap.dom _ _ hp).2.2 hb)) hv (s_leave hm' hl hro' hkind hrun) hK
            ·cases hK
   ·cases hK
  ·cases hK
def resSem (tmr:Array Value):ResultVar→Sem Value
 | .tmp t=>pure (tmr.getD t undef)
 | .cell a t=>do loadVar t (←asAddr (tmr.getD a undef))
theorem resC_run (hH:HRel P G n0 ρ st.H st.nx w) {tm:Tr Value} {nt:Nat} {tmr:Array Value} (hT:TRel ρ tm nt (fun _=>False) tmr) {r:ResultVar} {v:Value} (hv:resC P st.H tm r=some v):∃v',VRel ρ v v'∧(resSem tmr r).run P w= .ok v' w:=by
 cases r with
 | tmp t =>
   obtain⟨v',r1,r2⟩:=(hT.2 t v hv).2 (fun h=>h)
   exact⟨v',r2,by simp[resSem,r1]⟩
 | cell a t =>
   simp only[resC] at hv
   split at hv
   ·rename_i b o ha
    obtain⟨v',r1,r2⟩:=(hT.2 a _ ha).2 (fun h=>h)
    cases r2 with
    | ptr hA =>
      cases hA with
      | some hp =>
        obtain⟨u,q1,q2⟩:=loadC_run hH hp hv
        exact⟨u,q1,by simp[resSem,r1,asAddr,q2]⟩
   ·cases hv
theorem resultsC_run (hH:HRel P G n0 ρ st.H st.nx w) {tm:Tr Value} {nt:Nat} {tmr:Array Value} (hT:TRel ρ tm nt (fun _=>False) tmr):∀(l:List ResultVar) (vs:List Value),resultsC P st.H tm l=some vs→
 ∃vs',LR ρ vs vs'∧(l.mapM (resSem tmr)).run P w= .ok vs' w:=by
 intro l
 induction l with
 | nil=>intro vs h;simp[resultsC] at h;subst h;exact⟨[],LR.nil ρ,rfl⟩
 | cons r l ih =>
   intro vs h
   unfold resultsC at h
   split at h
   ·rename_i v us hv hus
    injection h with h;subst h
    obtain⟨us',h1,h2⟩:=ih us hus
    obtain⟨v',r1,r2⟩:=resC_run hH hT hv
    exact⟨v' :: us',.cons r1 h1,by rw[List.mapM_cons];simp only[Sem.run_bind,r2,Result.andThen_ok,h2];rfl⟩
   ·cases h
theorem results_eq (fn:Func) (tmr:Array Value):results fn tmr=(do
 let vs ←fn.results.mapM (resSem tmr)
 pure (if h:vs.size=1 then vs[0] else .tuple vs)):=by
 unfold results
 congr 1
theorem resultC_run (hH:HRel P G n0 ρ st.H st.nx w) (hf:FRel ρ st.fr fr') (hm:st.fr.mode≠.run) {v:Value} (h:resultC P st.H st.fr=some v) :
 ∃fn v',P.funcs[fr'.fn]?=some fn∧(results fn fr'.tmps).run P w= .ok v' w∧VRel ρ v v':=by
 unfold resultC at h
 split at h
 ·cases h
 ·rename_i fn hfn
  have key:∀l,resultsC P st.H st.fr.tm fn.results.toList=some l→∃l',LR ρ l l'∧(results fn fr'.tmps).run P w= .ok (if h:l'.toArray.size=1 then l'.toArray[0] else .tuple l'.toArray) w:=fun l hl=>by
   obtain⟨l',h1,h2⟩:=resultsC_run hH (hf.off hm) _ _ hl
   refine⟨l',h1,?_⟩
   rw[results_eq,Array.mapM_eq_mapM_toList]
   simp only[Sem.run_bind,Sem.run_map,h2,Result.andThen_ok]
   rfl
  split at h
  ·cases h
  ·rename_i u hl
   injection h with h;subst h
   obtain⟨l',h1,h2⟩:=key _ hl
   obtain⟨u',m,rfl,hu,hm2⟩:=h1.of_cons
   rw[hm2.of_nil] at h2
   exact⟨fn,u',by rw[hf.fn];exact hfn,by simpa using h2,hu⟩
  ·rename_i l hne hl
   injection h with h;subst h
   obtain⟨l',h1,h2⟩:=key _ hl
   refine⟨fn,.tuple l'.toArray,by rw[hf.fn];exact hfn,?_,LR.tuple h1⟩
   rw[h2,dif_neg]
   intro e
   have:l.length=1:=by rw[h1.1];simpa using e
   match l,this with
   | [x],_=>exact hne x rfl
end
end Go.Proofs.YtiioegopckoldaaGreatDoor.CV
namespace Go.Proofs.YtiioegopckoldaaGreatDoor.CV
open Go Go.RowKit
section
variable {P:Program} {G n0 lo:Nat} {FJ:FuncId→Option Nat} {OV:FuncId→Option TypeId} {sub:Sub} {base:List Frame} {ρ:Ren} {st:St} {fr':Frame} {cs':List Frame} {w:World} {β:Type} {K:St→Option β} {out:β}
theorem planOf_spec {ops:Array Oper} {phs:List Ph} (h:planOf ops=some phs):depsLow ops=true∧namesOk ops (masksOf ops.toList [])=true∧phsOk ops (masksOf ops.toList []) 0 none phs=true:=by
 unfold planOf at h
 simp only[] at h
 split at h
 ·rename_i hb
  injection h with h
  simp only[Bool.and_eq_true] at hb
  rw[←h];exact⟨hb.1.1,hb.1.2,hb.2⟩
 ·cases h
theorem region_to (hmix:P.follows .mixedOrders=true) (h:Rel P G n0 base lo ρ st fr' cs' w) (hm:st.fr.mode= .run) {i:Nat} {ops:Array Oper} {draw:Bool} {k:List CI} {k':List Item} (hT:TRel ρ st.fr.tm st.fr.nt (fun _=>False) fr'.tmps) (hk:KR ρ k k')
 (htd:fr'.todo= .code (.region i ops draw) :: k') (hK:regionC st ops draw k K=some out):StepTo P G n0 base lo ρ st.fr.nb fr' cs' w K out:=by
 have hm':=run_mode h.fr hm
 unfold regionC at hK
 split at hK
 ·exact todo_to h hm hT (.ops (pre:=[]) rfl (by simp[List.range_eq_range']) hk) rfl (Below.refl _ _) (s_region hm' htd) hK
 ·split at hK
  ·rename_i p phs hp
   obtain⟨hlow,hnames,hst⟩:=planOf_spec hp
   have hs:=s_region_draw (P:=P) (cs:=cs') (w:=w) hm' htd
   have hsched:Region.schedule (P.follows .mixedOrders) ops (w.tape w.drawn (.order fr'.fn i))=Region.linearise .any ops (w.tape w.drawn (.order fr'.fn i)):=by
    unfold Region.schedule;rw[hmix];rfl
   rw[hsched] at hs
   obtain⟨hsch,hall⟩:=sch_start hlow (w.tape w.drawn (.order fr'.fn i))
   obtain⟨s1,_⟩:=phsOk_spec hst
   have hI:DrI ops (Region.linearise .any ops (w.tape w.drawn (.order fr'.fn i))) p phs none:=by
    refine⟨hnames,hlow,⟨0,hst⟩,hsch,fun j hj hn=>absurd (hall j hj) hn,fun j hj hl=>⟨fun _=>?_,fun _=>hall j hj⟩,fun x e=>(by cases e)⟩
    cases hb:p.cm.testBit j with
    | false=>rfl
    | true =>
      rcases s1.new j hj hb with e | e
      ·simp at e
      ·rw[hl] at e;cases e
   refine⟨ρ,_,_,cs',_,hK,.one hs,h.top (H2:=st.H) (nx2:=st.nx) (Grow.refl _ _) (h.heap.of_heap (w':={w with drawn:=w.drawn+1 }) rfl) (Nat.le_refl _) ⟨h.fr.fn,h.fr.kind,h.fr.rnd,h.fr.mode,h.fr.defers,fun _=>⟨_,.dr hI (fun j hj=>?_) ⟨fun j b hb=>(by cases hb),by simp⟩ hk,?_⟩,fun e=>absurd hm e⟩ (fun i b hb=>(by cases hb)) rfl,below_of_heap n0 rfl rfl rfl rfl,Grow.refl _ _⟩
   ·obtain⟨hl,_⟩:=phsOk_ls hst j hj
    refine⟨hall j ?_,hl⟩
    unfold lightAt at hl
    split at hl
    ·rename_i o ho;exact(Array.getElem?_eq_some_iff.1 ho).1
    ·cases hl
   ·exact⟨hT.1,fun t v hv=>⟨(hT.2 t v hv).1,fun _=>(hT.2 t v hv).2 fun h=>h⟩⟩
  ·cases hK
theorem rangeFunc_to (h:Rel P G n0 base lo ρ st fr' cs' w) (hm:st.fr.mode= .run) {f:Operand} {params:Array Tmp} {assign body:Code} {k:List CI} {k':List Item} (hT:TRel ρ st.fr.tm st.fr.nt (fun _=>False) fr'.tmps) (hk:KR ρ k k')
 (htd:fr'.todo= .code (.rangeFunc f params assign body) :: k') (hK:rangeFuncC P G st f params assign body k K=some out):StepTo P G n0 base lo ρ st.fr.nb fr' cs' w K out:=by
 have hm':=run_mode h.fr hm
 unfold rangeFuncC at hK
 split at hK
 ·rename_i fn first cap hf
  have hfv:=ev_rel h.heap hT (x:=f) (fun t _ h=>h) hf
  simp only[] at hK
  have go:∀(ρ1:Ren) (H1:Tr CObj) (nx1:Nat) (w1:World) (df:Nat) (q:Plc) (mark mark':List Deferred),Grow ρ ρ1 st.nx→HRel P G n0 ρ1 H1 nx1 w1→st.nx≤nx1→Below n0 w w1→ρ1 df=some q→DsR ρ1 mark mark'→
   (∀w2:World,w2={w1 with heap:=w1.heap.push (.loop {state:= .ready,pending:=none,fn:=fr'.fn,tmps:=fr'.tmps,params,assign,body,defers:=q.r }) }→(Instr.enterLoop fr'.fn fr'.tmps params assign body fr'.roundOf).run P w= .ok (w1.heap.size,mark') w2)→
   (natK nx1 fun l=>Tr.setK DEP H1 l (.loop .ready none st.fr.fn st.fr.tm st.fr.nt params assign body df) fun H=>
    match enterC P fn ((first.toList ++ [.func (.yield l) #[] #[]]) ++ cap.toList) .normal (nx1+1) with
    | some fr=>natK (nx1+1) fun nx=>K ⟨fr,{st.fr with todo:= .it (.inRangeFunc l) :: k,defers:=mark ++ st.fr.defers } :: st.cs,H,nx⟩
    | none=>none)=some out→StepTo P G n0 base lo ρ st.fr.nb fr' cs' w K out:=by
   intro ρ1 H1 nx1 w1 df q mark mark' hg hH1 hnx hb hdf hmark hrun hK
   rw[natK_id] at hK
   obtain⟨H2,e1,g1⟩:=setK_spec DEP H1 nx1 (.loop .ready none st.fr.fn st.fr.tm st.fr.nt params assign body df)
   rw[e1] at hK
   let p:Plc:=⟨w1.heap.size,0,0⟩
   have hfresh:=hH1.fresh (Nat.le_refl nx1)
   have hle:=ρ1.ext_le p hfresh
   have hg2:Grow ρ (ρ1.ext nx1 p) st.nx:=hg.trans (Grow.ext p hfresh hnx)
   have hH2:=hH1.new (b:=nx1) (p:=p) (H':=H2) (ro:= .loop {state:= .ready,pending:=none,fn:=fr'.fn,tmps:=fr'.tmps,params,assign,body,defers:=q.r }) (Nat.le_refl _) rfl g1 (by
    rw[h.fr.fn]
    exact .loop ((hT.mono hg.le).mono hle) (hle _ _ hdf))
   split at hK
   ·rename_i fr hinv
    rw[natK_id] at hK
    have hfv2:=hfv.mono hg2.le
    generalize hef:fr'.eval f=y at hfv2
    cases hfv2 with
    | func hfn ha hA hbb hB =>
      rename_i fn' first' cap'
      cases hfn
      have hself:=ρ1.ext_self nx1 p
      have hyv:VRel (ρ1.ext nx1 p) (.func (.yield nx1) #[] #[]) (.func (.yield w1.heap.size) #[] #[]):=by
       have hy:FnR (ρ1.ext nx1 p) (.yield nx1) (.yield p.r):= .yield hself
       exact .func hy rfl (fun i x y h=>by simp at h) rfl (fun i x y h=>by simp at h)
      have hargs:LR (ρ1.ext nx1 p) ((first.toList ++ [Value.func (.yield nx1) #[] #[]]) ++ cap.toList) ((first' ++ #[Value.func (.yield w1.heap.size) #[] #[]]) ++ cap').toList:=by
       rw[Array.toList_append,Array.toList_append]
       exact((LR.of_arr ha hA).append (.cons hyv (LR.nil _))).append (LR.of_arr hbb hB)
      obtain⟨i1,i2,i3,_,_,_,_,i4⟩:=enter_rel hargs hinv
      have hr:=hrun _ rfl
      have hres:∀w2:World,(do let d ←resolve fr'.eval {callee:= .value f,args:=#[.const (.func (.yield w1.heap.size) #[] #[])],argTypes:=#[] } 0;invoke d.target d.args:Sem Next).run P w2= .ok (.enter fn ((first' ++ #[.func (.yield w1.heap.size) #[] #[]]) ++ cap')) w2:=fun w2=>by
       have e:resolve fr'.eval {callee:= .value f,args:=#[.const (.func (.yield w1.heap.size) #[] #[])],argTypes:=#[] } 0=pure {target:= .fn (.func fn) cap',args:=first' ++ #[.func (.yield w1.heap.size) #[] #[]] }:=by
        simp[resolve,hef,Deferred.ofValue];rfl
       rw[e,pure_bind]
       exact i4 w2
      have hfr2:FRel (ρ1.ext nx1 p) {st.fr with todo:= .it (.inRangeFunc nx1) :: k,defers:=mark ++ st.fr.defers } {fr' with todo:= .inRangeFunc w1.heap.size :: k',defers:=mark' ++ fr'.defers }:=by
       have hf0:=h.fr.mono hg2.le (fun i b hb=>hg2.un b (h.al i b hb).2)
       have hkk:KR (ρ1.ext nx1 p) (.it (.inRangeFunc nx1) :: k) (.inRangeFunc p.r :: k'):= .rf hself (hk.mono hg2.le)
       refine⟨hf0.fn,hf0.kind,hf0.rnd,hf0.mode,(hmark.mono hle).append hf0.defers,fun _=>⟨_,.plain hkk,hT.mono hg2.le⟩,fun e=>absurd hm e⟩
      have hs:=s_rangeFunc (cs:=cs') hm' htd hr (hres _)
      refine⟨ρ1.ext nx1 p,_,_,_,_,hK,.one hs,⟨hH2,i1,fun i b hb=>?_,by show fr.nb≤nx1+1;rw[i3];exact Nat.le_refl _,?_⟩,hb.trans (below_push w1 n0 _ hH1.big),hg2.down h.nb⟩
      ·have hb:(i,b)∈alOf fr:=hb
       rw[i2] at hb;cases hb
      show StkR _ base lo fr.nb _ _
      rw[i3]
      exact .cons hfr2 (fun i b hb=>(by cases hb)) (Nat.le_trans h.nb (by omega)) (h.cs.mono hg2.le fun b hb=>hg2.un b (Nat.lt_of_lt_of_le hb h.nb))
   ·cases hK
  have hrn:=h.fr.rnd
  split at hK
  ·rename_i l hl
   rw[hl] at hrn
   generalize hro:fr'.roundOf=r at hrn
   cases hrn with
   | some hp =>
     rename_i pl
     split at hK
     ·rename_i s pend fn2 tm nt ps as bd df hg
      obtain⟨p',ro,hp',hrow,hor⟩:=h.heap.objp hp hg
      rw[hp] at hp';injection hp' with hp';subst hp'
      cases hor with
      | loop hT2 hd =>
        rename_i q tmr
        refine go ρ st.H st.nx w df q [] [] (Grow.refl _ _) h.heap (Nat.le_refl _) (Below.refl _ _) hd .nil (fun w2 e=>?_) hK
        subst e
        simp only[Instr.enterLoop,hro,Sem.run_bind,run_getLoop hrow,Result.andThen_ok,Sem.run_pure]
        simp[newObj,Sem.run]
     ·cases hK
  ·rename_i hl
   rw[hl] at hrn
   generalize hro:fr'.roundOf=r at hrn
   cases hrn with
   | none =>
     rw[natK_id] at hK
     obtain⟨H1,e1,g1⟩:=setK_spec DEP st.H st.nx (.defd (some []))
     rw[e1,natK_id] at hK
     let p:Plc:=⟨w.heap.size,0,0⟩
     have hfresh:=h.heap.fresh (Nat.le_refl st.nx)
     have hself:=ρ.ext_self st.nx p
     have hH1:=h.heap.new (b:=st.nx) (p:=p) (H':=H1) (ro:= .deferred (some [])) (Nat.le_refl _) rfl g1 (.defd .nil)
     have htg:TgR (ρ.ext st.nx p) (.collected st.nx) (.collected p.r):= .coll hself
     refine go (ρ.ext st.nx p) H1 (st.nx+1) _ st.nx p [{target:= .collected st.nx,args:=#[] }] [{target:= .collected w.heap.size,args:=#[] }] (Grow.ext p hfresh (Nat.le_refl _)) hH1 (by omega) (below_push w n0 _ h.heap.big) hself (.cons ⟨htg,LR.nil _⟩ .nil) (fun w2 e=>?_) hK
     subst e
     simp only[Instr.enterLoop,hro,Sem.run_bind,Result.andThen_ok,Sem.run_pure]
     simp[newObj,Sem.run];rfl
 ·cases hK
end
end Go.Proofs.YtiioegopckoldaaGreatDoor.CV
