/- lemmas for topRented_holds: QDN QDO QDP. No conditions. -/
import Derived.Test.YtiioegopckoldaaGreatDoorK38
set_option linter.unusedVariables false
set_option linter.unusedSimpArgs false
namespace Go.Proofs.YtiioegopckoldaaGreatDoor.CV
open Go Go.RowKit
section
variable {P:Program} {G n0 lo:Nat} {base:List Frame} {ρ:Ren} {st:St} {fr':Frame} {cs':List Frame} {w:World} {β:Type} {K:St→Option β} {out:β}
def StepTo (P:Program) (G n0:Nat) (base:List Frame) (lo:Nat) (ρ:Ren) (n:Nat) (fr':Frame) (cs':List Frame) (w:World) {β:Type} (K:St→Option β) (out:β):Prop:=
 ∃ρ2 st2 fr2 cs2 w2,K st2=some out∧Steps P (lone fr' cs' w) (lone fr2 cs2 w2)∧Rel P G n0 base lo ρ2 st2 fr2 cs2 w2∧Below n0 w w2∧Grow ρ ρ2 n
theorem Rel.top (h:Rel P G n0 base lo ρ st fr' cs' w) {ρ2:Ren} {H2:Tr CObj} {nx2:Nat} {w2:World} {fr2:Fr} {fr2':Frame} (hg:Grow ρ ρ2 st.fr.nb) (hH:HRel P G n0 ρ2 H2 nx2 w2) (hnx:st.nx≤nx2)
 (hf:FRel ρ2 fr2 fr2') (hal:∀i b,(i,b)∈alOf fr2→fr2.nb≤b∧b < nx2) (hnb:fr2.nb=st.fr.nb):Rel P G n0 base lo ρ2 {fr:=fr2,cs:=st.cs,H:=H2,nx:=nx2 } fr2' cs' w2:=
 ⟨hH,hf,hal,by have:=h.nb;show fr2.nb≤nx2;omega,by show StkR ρ2 base lo fr2.nb st.cs cs';rw[hnb];exact h.cs.mono hg.le hg.un⟩
theorem fin_to (h:Rel P G n0 base lo ρ st fr' cs' w) (hm:st.fr.mode= .run) {ρ2:Ren} {H2:Tr CObj} {nx2:Nat} {w2:World} {v v':Value} (hg:Grow ρ ρ2 st.nx) (hH:HRel P G n0 ρ2 H2 nx2 w2) (hnx:st.nx≤nx2) (hb:Below n0 w w2) (hv:VRel ρ2 v v')
 (hs:step P (lone fr' cs' w)= .next (lone (fr'.finish v') cs' w2)) (hK:finishC st.fr v (fun fr=>K {fr,cs:=st.cs,H:=H2,nx:=nx2 })=some out):StepTo P G n0 base lo ρ st.fr.nb fr' cs' w K out:=by
 obtain⟨fr2,k1,k2,k3,k4⟩:=finish_rel h.fr hm hg.le (fun i b hb=>hg.un b (h.al i b hb).2) hv hK
 have hgn:=hg.down h.nb
 refine⟨ρ2,_,fr'.finish v',cs',w2,k1,.one hs,h.top hgn hH hnx k2 (fun i b hb=>?_) k4,hb,hgn⟩
 rcases k3 with e | e
 ·rw[e] at hb;have:=h.al i b hb;rw[k4];omega
 ·rw[e] at hb;cases hb
theorem run_callFunc {f : FuncId} {fn : Func} {c : Code} {args : Array Value} (hf : P.funcs[f]? = some fn) (hb : fn.body = some c) (hn : (fn.name == "runtime.NumGoroutine") = false) : (callFunc f args).run P w = .ok (.enter f args) w := by
 have hn' : fn.name ≠ "runtime.NumGoroutine" := by simpa using hn
 simp[callFunc,hf,hb,hn']
theorem enter_rel {f:FuncId} {args:List Value} {args':Array Value} {kind:CallKind} {nb:Nat} {fr:Fr} (ha:LR ρ args args'.toList) (h:enterC P f args kind nb=some fr) :
 FRel ρ fr (Frame.enter P f args' kind)∧alOf fr=[]∧fr.nb=nb∧fr.mode= .run∧fr.kind=kind∧fr.fn=f∧fr.rnd=none∧∀w:World,(callFunc f args').run P w= .ok (.enter f args') w:=by
 unfold enterC at h
 split at h
 ·cases h
 ·rename_i fn hf
  split at h
  ·cases h
  ·rename_i c hb
   split at h
   ·cases h
   ·rename_i hn
    injection h with h;subst h
    have hlen:args.length=args'.size:=by simpa using ha.1
    have he:Frame.enter P f args' kind={fn:=f,tmps:=args' ++ Array.replicate (fn.ntmps-args'.size) undef,todo:=[.code c],defers:=[],mode:= .run,kind }:=by simp[Frame.enter,hf,hb]
    rw[he]
    refine⟨⟨rfl,rfl,.none,.run,.nil,fun _=>⟨_,.plain (.it rfl .nil),?_⟩,fun e=>absurd rfl e⟩,rfl,rfl,rfl,rfl,rfl,rfl,fun w=>run_callFunc hf hb hn⟩
    ·refine⟨by simp[hlen],fun t v hv=>?_⟩
     obtain⟨y,h1,h2⟩:=ha.get (ofList_get _ _ _ _ hv)
     have hlt:t < args'.size:=by have:=(List.getElem?_eq_some_iff.1 h1).1;simpa using this
     refine⟨by show t < args.length+(fn.ntmps-args.length);omega,fun _=>⟨y,?_,h2⟩⟩
     rw[Array.getElem?_append_left hlt]
     simpa using h1
theorem params_rel:∀(ps:List (Tmp×Value)) (ps':List (Tmp×Value)) (fr fr2:Fr) (tmr:Array Value),ps.map (·.1)=ps'.map (·.1)→LR ρ (ps.map (·.2)) (ps'.map (·.2))→TRel ρ fr.tm fr.nt (fun _=>False) tmr→
 ps.foldlM (fun (fr:Fr) (p:Tmp×Value)=>putK fr (some p.1) p.2 some) fr=some fr2→
 ∃tm,fr2={fr with tm }∧TRel ρ tm fr.nt (fun _=>False) (ps'.foldl (fun tmps (p:Tmp×Value)=>tmps.setIfInBounds p.1 p.2) tmr):=by
 intro ps
 induction ps with
 | nil =>
   intro ps' fr fr2 tmr h1 _ ht h
   cases ps' with
   | cons _ _=>simp at h1
   | nil=>simp at h;subst h;exact⟨fr.tm,rfl,ht⟩
 | cons p ps ih =>
   intro ps' fr fr2 tmr h1 h2 ht h
   cases ps' with
   | nil=>simp at h1
   | cons p' ps' =>
     obtain⟨t,v⟩:=p
     obtain⟨t',v'⟩:=p'
     simp at h1
     obtain⟨rfl,h1⟩:=h1
     obtain⟨v2,m,e,hv,hm⟩:=LR.of_cons (by simpa using h2)
     simp at e
     obtain⟨rfl,rfl⟩:=e
     rw[List.foldlM_cons] at h
     cases hp:putK fr (some t) v (some:Fr→Option Fr) with
     | none=>rw[hp] at h;cases h
     | some fr1 =>
       rw[hp] at h
       obtain⟨tm,k1,k2,_,_⟩:=put_rel ht hv hp
       injection k1 with k1;subst k1
       obtain⟨tm2,r1,r2⟩:=ih ps' {fr with tm } fr2 _ h1 hm (by simpa[putA] using k2) h
       exact⟨tm2,r1,r2⟩
theorem run_getLoop {l:Nat} {lp:Loop} (h:w.heap[l]?=some (.loop lp)):(Instr.getLoop l).run P w= .ok lp w:=by
 simp[Instr.getLoop,getObj,Sem.run,h,bind,Sem.bind,pure]
theorem invoke_rel (hH:HRel P G n0 ρ st.H st.nx w) {t t':Target} {args:List Value} {args':Array Value} {kind:CallKind} {nb:Nat} {fr:Fr} (ht:TgR ρ t t') (ha:LR ρ args args'.toList) (h:invokeC P t args kind st.H nb=some fr) :
 alOf fr=[]∧fr.nb=nb∧((∃f args2 fr2',(∀w:World,(invoke t' args').run P w= .ok (.enter f args2) w)∧fr2'=Frame.enter P f args2 kind∧FRel ρ fr fr2'∧∃cap,t'= .fn (.func f) cap)∨
  (kind= .normal∧∃l f tmps assign body,(invoke t' args').run P w= .ok (.round l f tmps assign body) w∧FRel ρ fr (Frame.round l f tmps assign body .normal))):=by
 unfold invokeC at h
 split at h
 ·rename_i f cap
  cases ht with
  | fn hf hc =>
    cases hf
    rename_i cap'
    obtain⟨r1,r2,r3,_,_,_,_,r4⟩:=enter_rel (args':=args' ++ cap') (by simpa using ha.append hc) h
    exact⟨r2,r3,.inl ⟨f,args' ++ cap',_,fun w=>by simp only[invoke];exact r4 w,rfl,r1,_,rfl⟩⟩
 ·rename_i l cap
  split at h
  ·rename_i s pend fn tm nt params assign body df hg
   split at h
   ·rename_i hlen
    have hlen:args.length=params.size:=by simpa using hlen
    cases ht with
    | fn hf hc =>
      cases hf with
      | yield hp =>
        rename_i pl
        obtain⟨p',ro,hp',hro,hor⟩:=hH.objp hp hg
        rw[hp] at hp';injection hp' with hp';subst hp'
        cases hor with
        | loop hT hd =>
          rename_i q tmr
          have hsz:args'.size=params.size:=by have:=ha.1;simp at this;omega
          have hz1:(params.toList.zip args).map (·.1)=(params.toList.zip args'.toList).map (·.1):=by
           rw[List.map_fst_zip (by simp[hlen]),List.map_fst_zip (by simp[hsz])]
          have hz2:LR ρ ((params.toList.zip args).map (·.2)) ((params.toList.zip args'.toList).map (·.2)):=by
           rw[List.map_snd_zip (by simp[hlen]),List.map_snd_zip (by simp[hsz])];exact ha
          obtain⟨tm2,rfl,k2⟩:=params_rel (params.toList.zip args) (params.toList.zip args'.toList) _ _ tmr hz1 hz2 hT h
          refine⟨rfl,rfl,.inr ⟨rfl,pl.r,fn,(params.zip args').foldl (fun tmps (t,a)=>tmps.setIfInBounds t a) tmr,assign,body,?_,?_⟩⟩
          ·simp only[invoke,Instr.yield,Sem.run_bind,run_getLoop hro,Result.andThen_ok]
           rw[if_neg (by simp[hsz])]
           rfl
          ·refine⟨rfl,rfl,.some hp,.run,.nil,fun _=>⟨_,.plain (.it rfl (.it rfl (.it rfl .nil))),?_⟩,fun e=>absurd rfl e⟩
           simp only[Frame.round]
           rw[←Array.foldl_toList,Array.toList_zip]
           exact k2
   ·cases h
  ·cases h
 ·cases h
theorem resolve_rel {e:Operand→Option Value} {er:Operand→Value} {c:Call} {d:Deferred} {t:TypeId} (he:∀x∈c.operands.toList,∀v,e x=some v→VRel ρ v (er x)) (h:resolveC e c=some d) :
 ∃d',DfR ρ d d'∧(∀w:World,(resolve er c t).run P w= .ok d' w)∧resolve er c t=pure d':=by
 unfold resolveC at h
 split at h
 ·rename_i f hc
  split at h
  ·rename_i fn first cap vs hf hvs
   injection h with h;subst h
   have hfr:=he f (by simp[Call.operands,hc]) _ hf
   have hL:=evs_rel (ρ:=ρ) (er:=er) _ _ (fun x hx=>he x (by simp[Call.operands] at hx ⊢;exact .inr hx)) hvs
   generalize hy:er f=y at hfr
   cases hfr with
   | func hfn ha hA hb hB =>
     rename_i fn' first' cap'
     have hres:resolve er c t=pure {target:= .fn fn' cap',args:=first' ++ c.args.map er }:=by
      simp only[resolve,hc,hy,Deferred.ofValue]
     refine⟨_,⟨.fn hfn (LR.of_arr hb hB),?_⟩,fun w=>by rw[hres];rfl,hres⟩
     simpa using(LR.of_arr ha hA).append hL
  ·cases h
 ·cases h
end
end Go.Proofs.YtiioegopckoldaaGreatDoor.CV
namespace Go.Proofs.YtiioegopckoldaaGreatDoor.CV
open Go Go.RowKit
section
variable {P:Program} {G n0 lo:Nat} {FJ:FuncId→Option Nat} {OV:FuncId→Option TypeId} {sub:Sub} {base:List Frame} {ρ:Ren} {st:St} {fr':Frame} {cs':List Frame} {w:World} {β:Type} {K:St→Option β} {out:β}
def SubOk (P:Program) (G n0:Nat) (sub:Sub):Prop:=
 ∀(f:FuncId) (args:List Value) (args':Array Value) (fr:Fr) (H:Tr CObj) (nx:Nat) (outs:List Out) (base:List Frame) (ρ:Ren) (w:World),enterC P f args .normal nx=some fr→LR ρ args args'.toList→HRel P G n0 ρ H nx w→sub fr H nx=some outs→
  ∃o∈outs,∃ρ2 v' fr2 w2,Steps P (lone (Frame.enter P f args' .normal) base w) (lone fr2 base w2)∧fr2.leaving P w2 (.returned v')∧VRel ρ2 o.v v'∧HRel P G n0 ρ2 o.H o.nx w2∧nx≤o.nx∧Below n0 w w2∧Grow ρ ρ2 nx
def OvOk (P:Program) (OV:FuncId→Option TypeId):Prop:=
 ∀f t,OV f=some t→∃tr,∀(args:Array Value) (w:World),(callFunc f args).run P w=((Extern.SlicesOverlaps.overlaps #[t,t] tr args).run P w).andThen fun v w=> .ok (.value v) w
theorem not_defer_of {o:Oper} {op:Op} (h:o.op=op) (hn:∀c,op≠.defer c):∀c,o.op≠.defer c:=fun c e=>hn c (h ▸ e)
theorem ext_rel (hH:HRel P G n0 ρ st.H st.nx w) {b o m l c cap':Nat} {a':Option Addr} {H:Tr CObj} {γ:Type} {Kx:Tr CObj→Option γ} {r:γ} (hA:AR ρ (some ⟨b,o,none⟩) a') (hC:CapR ρ (some ⟨b,o,none⟩) c cap') (hc:CAP≤c) (hm:m≤cap')
 (h:extK P st.H b o m Kx=some r):∃H',Kx H'=some r∧HRel P G n0 ρ H' st.nx w:=by
 unfold extK at h
 split at h
 ·rename_i cs n t hg
  split at h
  ·rename_i s hs
   obtain⟨H',e1,g1⟩:=setK_spec DEP st.H b (.cells cs (max n (o+m*s)) t)
   rw[e1] at h
   cases hA with
   | some hp =>
     rename_i p
     obtain⟨p',ro,hp',hro,hor⟩:=hH.objp hp hg
     rw[hp] at hp';injection hp' with hp';subst hp'
     cases hor with
     | cells hn hz hes hcc hdm =>
       cases hC with
       | eq h=>omega
       | low _ hl ha hp2 hsz =>
         injection ha with ha;injection ha with h1 h2 h3
         subst h1 h2
         rw[hp] at hp2;injection hp2 with hp2;subst hp2
         have:=hes _ hs
         rw[this] at hsz
         have hms:m*s≤cap'*s:=Nat.mul_le_mul_right _ hm
         refine⟨H',h,hH.put hg hp g1 (Upd.refl _ _) hro (.cells (by omega) hz hes (fun i v hi hv=>hcc i v (hdm i v hv) hv) fun i v hv=>by have:=hdm i v hv;omega)⟩
  ·cases h
 ·cases h
theorem gather_ok (hsub:SubOk P G n0 sub) (hH:HRel P G n0 ρ st.H st.nx w) {f:FuncId} {b o l c k:Nat} {cap':Nat} {a':Option Addr} {rest rest':List Value} (base:List Frame) (hA:AR ρ (some ⟨b,o,none⟩) a') (hC:CapR ρ (some ⟨b,o,none⟩) c cap') (hc:CAP≤c) (hr:LR ρ rest rest') (hk:c-CAP+k < CAP) :
 ∀(n:Nat) (outs:List Out),gather P sub f st.H st.nx b o l (c-CAP) k rest n=some outs→∀j,j < n→(j < k→cap'=c-CAP+j)→(c-CAP+j≤cap')→
 ∃x∈outs,∃ρ2 v' fr2 w2,Steps P (lone (Frame.enter P f (.slice a' l cap' :: rest').toArray .normal) base w) (lone fr2 base w2)∧fr2.leaving P w2 (.returned v')∧VRel ρ2 x.v v'∧HRel P G n0 ρ2 x.H x.nx w2∧st.nx≤x.nx∧Below n0 w w2∧Grow ρ ρ2 st.nx:=by
 intro n
 induction n with
 | zero=>intro outs _ j hj;omega
 | succ n ih =>
   intro outs h j hj hjk hle
   unfold gather at h
   by_cases e:j=n
   ·subst e
    obtain⟨H',h1,hH'⟩:=ext_rel (l:=l) (H:=st.H) hH hA hC hc hle h
    split at h1
    ·cases h1
    ·rename_i fr hfr
     split at h1
     ·rename_i a1 b1 hs1 hs2
      injection h1 with h1;subst h1
      have hcap:CapR ρ (some ⟨b,o,none⟩) (match Nat.blt j k with | true=>c-CAP+j | false=>CAP+(c-CAP+j)) cap':=by
       split
       ·rename_i hb;rw[Nat.blt_eq] at hb
        rw[hjk hb]
        cases hC with
        | eq h=>omega
        | low _ hl ha hp hs =>
          exact .eq (by omega)
       ·cases hC with
        | eq h=>omega
        | low _ hl ha hp hs=>exact .low (by omega) (by omega) ha hp hs
      obtain⟨x,hx,ρ2,v',fr2,w2,r1,r2,r3,r4,r5,r6,r7⟩:=hsub f _ (.slice a' l cap' :: rest').toArray fr H' st.nx a1 base ρ w hfr (.cons (.sl hA hcap) hr) hH' hs1
      exact⟨x,List.mem_append_left _ hx,ρ2,v',fr2,w2,r1,r2,r3,r4,r5,r6,r7⟩
     ·cases h1
   ·have hrest:∃b1,gather P sub f st.H st.nx b o l (c-CAP) k rest n=some b1∧∀x∈b1,x∈outs:=by
     unfold extK at h
     split at h
     ·split at h
      ·obtain⟨H',e1,_⟩:=setK_spec DEP st.H b (.cells _ (max _ (o+(c-CAP+n)*_)) _)
       rw[e1] at h
       split at h
       ·cases h
       ·split at h
        ·rename_i a1 b1 hs1 hs2
         injection h with h;subst h
         exact⟨b1,hs2,fun x hx=>List.mem_append_right _ hx⟩
        ·cases h
      ·cases h
     ·cases h
    obtain⟨b1,hb1,hmem⟩:=hrest
    obtain⟨x,hx,hh⟩:=ih b1 hb1 j (by omega) hjk hle
    exact⟨x,hmem x hx,hh⟩
def Obs (o' o:CObj):Prop:=∀(P:Program) (ρ:Ren) (p:Plc) (ro:Obj),ORel P ρ p o' ro→ORel P ρ p o ro
theorem obeq_obs {o o':CObj} (h:obeq o o'=true):Obs o' o:=by
 intro P ρ p ro hr
 unfold obeq at h
 split at h
 ·simp only[Bool.and_eq_true] at h
  obtain⟨⟨h1,h2⟩,h3⟩:=h
  have h2:=Nat.eq_of_beq_eq_true h2
  have h3:=Nat.eq_of_beq_eq_true h3
  subst h2 h3
  cases hr with
  | cells hn hz hs hc hdm=>exact .cells hn hz hs (fun i v hi hv=>hc i v hi (by rw[←treq_get (veq_eq 8) _ _ h1 i];exact hv)) fun i v hv=>hdm i v (by rw[←treq_get (veq_eq 8) _ _ h1 i];exact hv)
 ·rw[←Nat.eq_of_beq_eq_true h] at hr;exact hr
 ·cases h
theorem HRel.weak {nx:Nat} {H H':Tr CObj} (hH:HRel P G n0 ρ H nx w) (h:∀j o,H'.get j=some o→∃o',H.get j=some o'∧Obs o' o):HRel P G n0 ρ H' nx w where
 obj:=fun j o p ho hp=>by
  obtain⟨o',h1,h2⟩:=h j o ho
  obtain⟨ro,h3,h4⟩:=hH.obj j o' p h1 hp
  exact⟨ro,h3,h2 _ _ _ _ h4⟩
 inj:=fun j j' x x' q q' hx hx' hq hq' e=>by
  obtain⟨o,h1,_⟩:=h j x hx
  obtain⟨o',h2,_⟩:=h j' x' hx'
  exact hH.inj _ _ _ _ _ _ h1 h2 hq hq' e
 dom:=hH.dom
 glob:=hH.glob
 low:=hH.low
 big:=hH.big
theorem HRel.more {nx N:Nat} {H:Tr CObj} (hH:HRel P G n0 ρ H nx w) (h:nx≤N):HRel P G n0 ρ H N w:=
 ⟨hH.obj,hH.inj,fun b p hb=>by have:=hH.dom b p hb;exact⟨by omega,this.2⟩,hH.glob,by have:=hH.low;omega,hH.big⟩
theorem interT_spec:∀(a b:Tr CObj) (j:Nat) (o:CObj),(interT a b).get j=some o→a.get j=some o∧∃o',b.get j=some o'∧Obs o' o:=by
 intro a
 induction a with
 | nil=>intro b j o h;simp[interT,Tr.get_nil] at h
 | node l v r ihl ihr =>
   intro b j o h
   cases b with
   | nil=>simp[interT,Tr.get_nil] at h
   | node l' v' r' =>
     simp only[interT] at h
     cases j with
     | zero =>
       rw[Tr.get_zero] at h ⊢
       rw[Tr.get_zero]
       split at h
       ·rename_i x y
        split at h
        ·rename_i hb
         injection h with h;subst h
         exact⟨rfl,y,rfl,obeq_obs hb⟩
        ·cases h
       ·cases h
     | succ j =>
       rw[Tr.get_succ] at h ⊢
       rw[Tr.get_succ]
       by_cases hj:j % 2=0
       ·simp only[hj,if_true] at h ⊢;exact ihl _ _ _ h
       ·simp only[hj,if_false] at h ⊢;exact ihr _ _ _ h
theorem interAll_spec:∀(l:List Out) (a r:Out),interAll a l=some r→∀x,(x=a∨x∈l)→r.v=x.v∧r.nx=x.nx∧∀j o,r.H.get j=some o→∃o',x.H.get j=some o'∧Obs o' o:=by
 intro l
 induction l with
 | nil =>
   intro a r h x hx
   simp[interAll] at h;subst h
   rcases hx with rfl | hx
   ·exact⟨rfl,rfl,fun j o h=>⟨o,h,fun _ _ _ _ h=>h⟩⟩
   ·cases hx
 | cons b l ih =>
   intro a r h x hx
   simp only[interAll] at h
   split at h
   ·rename_i hb
    rw[Bool.and_eq_true] at hb
    have e1:=veq_eq _ _ _ hb.1
    have e2:=Nat.eq_of_beq_eq_true hb.2
    obtain⟨a1,a2,a3⟩:=ih _ _ h _ (.inl rfl)
    simp only at a1 a2 a3
    rcases hx with rfl | hx
    ·exact⟨a1,a2,fun j o ho=>let⟨o',h1,h2⟩:=a3 j o ho;⟨o',(interT_spec _ _ _ _ h1).1,h2⟩⟩
    ·rcases List.mem_cons.1 hx with rfl | hx
     ·exact⟨by rw[a1,e1],by rw[a2,e2],fun j o ho=>by
       obtain⟨o',h1,h2⟩:=a3 j o ho
       obtain⟨_,o'',h3,h4⟩:=interT_spec _ _ _ _ h1
       exact⟨o'',h3,fun P ρ p ro hr=>h2 _ _ _ _ (h4 _ _ _ _ hr)⟩⟩
     ·exact ih _ _ h x (.inr hx)
   ·cases h
theorem normAll_spec {N:Nat}:∀(l l':List Out),normAll P G N l=some l'→∀x∈l,∃y∈l',normC P G N x=some y:=by
 intro l
 induction l with
 | nil=>intro l' _ x hx;cases hx
 | cons a l ih =>
   intro l' h x hx
   simp only[normAll] at h
   split at h
   ·rename_i a' m ha hm
    injection h with h;subst h
    rcases List.mem_cons.1 hx with rfl | hx
    ·exact⟨a',by simp,ha⟩
    ·obtain⟨y,h1,h2⟩:=ih _ hm x hx
     exact⟨y,by simp[h1],h2⟩
   ·cases h
theorem max_le:∀(l:List Out) (m:Nat),m≤l.foldl (fun m o=>max m o.nx) m∧∀x∈l,x.nx≤l.foldl (fun m o=>max m o.nx) m:=by
 intro l
 induction l with
 | nil=>intro m;exact⟨Nat.le_refl _,fun x hx=>by cases hx⟩
 | cons a l ih =>
   intro m
   obtain⟨h1,h2⟩:=ih (max m a.nx)
   simp only[List.foldl_cons]
   exact⟨by omega,fun x hx=>by
    rcases List.mem_cons.1 hx with rfl | hx
    ·omega
    ·exact h2 x hx⟩
theorem normC_ok {N:Nat} {x y:Out} {v':Value} (hN:x.nx≤N) (hv:VRel ρ x.v v') (hH:HRel P G n0 ρ x.H x.nx w) (h:normC P G N x=some y) :
 ∃ρ2,VRel ρ2 y.v v'∧HRel P G n0 ρ2 y.H y.nx w∧y.nx=N+1∧Grow ρ ρ2 N:=by
 unfold normC at h
 split at h
 ·rename_i b l c hxv
  split at h
  ·rename_i cs n t hg
   split at h
   ·rename_i hb
    simp only[Bool.and_eq_true,Nat.ble_eq] at hb
    obtain⟨⟨hG,hc⟩,hl⟩:=hb
    split at h
    ·cases h
    ·rename_i s hs
     split at h
     ·cases h
     ·rename_i vs hvs
      injection h with h
      obtain⟨H1,d1,g1⟩:=delK_spec x.H b
      obtain⟨H',e1,g2⟩:=setK_spec DEP H1 N (mkCells vs t)
      rw[d1,e1] at h
      subst h
      rw[hxv] at hv
      cases hv with
      | sl hA hC =>
        cases hA with
        | some hp =>
          rename_i c' p
          have hHN:=hH.more hN
          have hfresh:=hHN.fresh (Nat.le_refl N)
          have hle:=ρ.ext_le p hfresh
          obtain⟨p',ro,hp',hro,hor⟩:=hH.objp hp hg
          rw[hp] at hp';injection hp' with hp';subst hp'
          cases hor with
          | cells hn hz hes hcc hdm =>
            rename_i cr
            obtain⟨hvl,l',hL,hcr⟩:=cellsAt_spec hcc _ _ _ hvs
            cases hC with
            | eq h=>omega
            | low _ hlow ha hp2 hsz =>
              injection ha with ha;injection ha with e1 e2 e3
              subst e1 e2
              rw[hp] at hp2;injection hp2 with hp2;subst hp2
              have hes':=hes _ hs
              have hfit:l*s≤cr.size:=by
               rw[hes'] at hsz
               have:l*s≤c'*s:=Nat.mul_le_mul_right _ (by omega)
               omega
              refine⟨ρ.ext N p,.sl (.some (ρ.ext_self N p)) (.low (by omega) (by omega) rfl (ρ.ext_self N p) hsz),?_,rfl,Grow.ext p hfresh (Nat.le_refl _)⟩
              refine hHN.move hG hg hp (fun j x hx=>⟨(g2 j x hx).1,fun hj=>g1 j x ((g2 j x hx).2 hj)⟩) (Upd.refl _ _) hro ?_
              refine .cells (by rw[hvl];exact hfit) hz hes (fun j v hj hv=>?_) fun j v hv=>(List.getElem?_eq_some_iff.1 (ofList_get _ _ _ _ hv)).1
              obtain⟨y,h1,h2⟩:=hL.get (ofList_get _ _ _ _ hv)
              exact⟨y,by have:=hcr j y h1;simpa using this,h2.mono hle⟩
   ·cases h
  ·cases h
 ·cases h
theorem joinC_ok {outs:List Out} {x o:Out} {v':Value} (hx:x∈outs) (hv:VRel ρ x.v v') (hH:HRel P G n0 ρ x.H x.nx w) (h:joinC P G outs=some o) :
 ∃ρ2,VRel ρ2 o.v v'∧HRel P G n0 ρ2 o.H o.nx w∧x.nx≤o.nx∧Grow ρ ρ2 x.nx:=by
 unfold joinC at h
 split at h
 ·rename_i a l hn
  have hN:=(max_le outs 0).2 x hx
  obtain⟨y,hy,hxy⟩:=normAll_spec _ _ hn x hx
  obtain⟨ρ2,r1,r2,r3,r4⟩:=normC_ok hN hv hH hxy
  obtain⟨s1,s2,s3⟩:=interAll_spec _ _ _ h y (by simpa using hy)
  refine⟨ρ2,by rw[s1];exact r1,?_,by omega,r4.down hN⟩
  rw[s2]
  exact r2.weak s3
 ·cases h
end
end Go.Proofs.YtiioegopckoldaaGreatDoor.CV
namespace Go.Proofs.YtiioegopckoldaaGreatDoor.CV
open Go Go.RowKit
section
variable {P:Program} {G n0 lo:Nat} {FJ:FuncId→Option Nat} {OV:FuncId→Option TypeId} {sub:Sub} {base:List Frame} {ρ:Ren} {st:St} {fr':Frame} {cs':List Frame} {w:World} {β:Type} {K:St→Option β} {out:β}
theorem push_to (h:Rel P G n0 base lo ρ st fr' cs' w) {fr:Fr} {fr2':Frame} (hf:FRel ρ fr fr2') (hal:alOf fr=[]) (hnb:fr.nb=st.nx) (hs:step P (lone fr' cs' w)= .next (lone fr2' (fr' :: cs') w))
 (hK:K {st with fr,cs:=st.fr :: st.cs }=some out):StepTo P G n0 base lo ρ st.fr.nb fr' cs' w K out:=
 ⟨ρ,_,fr2',fr' :: cs',w,hK,.one hs,⟨h.heap,hf,fun i b hb=>(by rw[hal] at hb;cases hb),(by show fr.nb≤st.nx;omega),
  by show StkR ρ base lo fr.nb (st.fr :: st.cs) (fr' :: cs');rw[hnb];exact .cons h.fr h.al h.nb h.cs⟩,Below.refl _ _,Grow.refl _ _⟩
theorem drop_spec (ops:Array Oper):∀(l:List Nat) (tm:Tr Value),∃tm2,(∀(β:Type) (K:Tr Value→β),dropC ops l tm K=K tm2)∧∀t v,tm2.get t=some v→tm.get t=some v∧∀i∈l,(ops[i]?).bind (·.dst)≠some t:=by
 intro l
 induction l with
 | nil=>intro tm;exact⟨tm,fun _ _=>rfl,fun t v h=>⟨h,fun i hi=>by cases hi⟩⟩
 | cons i l ih =>
   intro tm
   cases hd:(ops[i]?).bind (·.dst) with
   | none =>
     obtain⟨tm2,h1,h2⟩:=ih tm
     refine⟨tm2,fun β K=>by simp only[dropC,hd];exact h1 β K,fun t v h=>⟨(h2 t v h).1,fun j hj=>?_⟩⟩
     rcases List.mem_cons.1 hj with rfl | hj
     ·rw[hd];simp
     ·exact(h2 t v h).2 j hj
   | some d =>
     obtain⟨tm1,d1,g1⟩:=delK_spec tm d
     obtain⟨tm2,h1,h2⟩:=ih tm1
     refine⟨tm2,fun β K=>by simp only[dropC,hd,d1];exact h1 β K,fun t v h=>⟨(g1 t v (h2 t v h).1).2,fun j hj=>?_⟩⟩
     rcases List.mem_cons.1 hj with rfl | hj
     ·rw[hd];intro e;injection e with e;exact(g1 t v (h2 t v h).1).1 e.symm
     ·exact(h2 t v h).2 j hj
theorem ChR.append {ρ:Ren} {a a' b b'} (h:ChR ρ a a') (k:ChR ρ b b'):ChR ρ (a ++ b) (a' ++ b'):=by
 induction h with | nil=>exact k | cons h _ ih=>exact .cons h ih
theorem raise_rel {fr:Fr} {γ:Type} {Kf:Fr→Option γ} {r:γ} {chain chain':List PanicEntry} (hf:FRel ρ fr fr') (hc:ChR ρ chain chain') (h:raiseC fr chain Kf=some r) :
 ∃fr2,Kf fr2=some r∧FRel ρ fr2 (fr'.raise chain')∧fr2.todo=fr.todo∧fr2.nb=fr.nb:=by
 obtain⟨h1,h2,h3,h4,h5,h6,h7⟩:=hf
 unfold raiseC at h
 cases hm:fr.mode with
 | panicking old =>
   rw[hm] at h h4
   simp only[] at h
   generalize hm':fr'.mode=m' at h4
   cases h4 with
   | pan hch =>
     rename_i l'
     refine⟨_,h,?_,rfl,rfl⟩
     have hr:fr'.raise chain'={fr' with mode:= .panicking (chain' ++ l') }:=by simp only[Frame.raise,hm']
     rw[hr]
     exact⟨h1,h2,h3,.pan (hc.append hch),h5,fun e=>(by cases e),fun _=>h7 (by rw[hm];simp)⟩
 | returning =>
   rw[hm] at h h4
   simp only[] at h
   generalize hm':fr'.mode=m' at h4
   cases h4
   refine⟨_,h,?_,rfl,rfl⟩
   have hr:fr'.raise chain'={fr' with mode:= .panicking chain' }:=by simp only[Frame.raise,hm']
   rw[hr]
   exact⟨h1,h2,h3,.pan hc,h5,fun e=>(by cases e),fun _=>h7 (by rw[hm];simp)⟩
 | run =>
   rw[hm] at h h4
   simp only[] at h
   generalize hm':fr'.mode=m' at h4
   cases h4
   obtain⟨pend,hT,htm⟩:=h6 hm
   have hr:fr'.raise chain'={fr' with mode:= .panicking chain' }:=by simp only[Frame.raise,hm']
   split at h
   ·rename_i ops ph phs hp al k htd
    obtain⟨tm2,d1,d2⟩:=drop_spec ops ((List.range ops.size).filter (lightAt ops)) fr.tm
    rw[d1] at h
    refine⟨_,h,?_,rfl,rfl⟩
    rw[hr]
    refine⟨h1,h2,h3,.pan hc,h5,fun e=>(by cases e),fun _=>⟨htm.1,fun t v hv=>?_⟩⟩
    obtain⟨a1,a2⟩:=d2 t v hv
    obtain⟨b1,b2⟩:=htm.2 t v a1
    refine⟨b1,fun _=>b2 fun hp=>?_⟩
    rw[htd] at hT
    generalize fr'.todo=td' at hT
    cases hT with
    | plain hk=>cases hk
    | drh hI hi hal hk =>
      obtain⟨j,hj,hl,hd⟩:=hp
      exact a2 j (List.mem_filter.2 ⟨List.mem_range.2 (hI.sch.lt j hj),hl⟩) hd
   ·cases h
   ·rename_i hn1 hn2
    refine⟨_,h,?_,rfl,rfl⟩
    rw[hr]
    have:pend=fun _=>False:=by
     generalize htd:fr.todo=td at hT hn1 hn2
     generalize fr'.todo=td' at hT
     cases hT with
     | plain hk=>rfl
     | dr=>exact absurd rfl (hn2 _ _ _ _ _ _ _)
     | drh=>exact absurd rfl (hn1 _ _ _ _ _ _)
    rw[this] at htm
    exact⟨h1,h2,h3,.pan hc,h5,fun e=>(by cases e),fun _=>htm⟩
theorem FRel.defers_cons {fr:Fr} {d d':Deferred} (h:FRel ρ fr fr') (hd:DfR ρ d d'):FRel ρ {fr with defers:=d :: fr.defers } {fr' with defers:=d' :: fr'.defers }:=
 ⟨h.fn,h.kind,h.rnd,h.mode,.cons hd h.defers,h.run,h.off⟩
theorem enter_any {f:FuncId} {args:List Value} {kind:CallKind} {nb:Nat} {fr:Fr} (h:enterC P f args kind nb=some fr) (args2:List Value):∃fr2,enterC P f args2 kind nb=some fr2:=by
 unfold enterC at h ⊢
 split at h
 ·cases h
 ·split at h
  ·cases h
  ·split at h
   ·cases h
   ·exact⟨_,rfl⟩
theorem gather_enter {f:FuncId} {H:Tr CObj} {nx b o l lb k n:Nat} {rest:List Value} {outs:List Out} (h:gather P sub f H nx b o l lb k rest (n+1)=some outs):∃args fr,enterC P f args .normal nx=some fr:=by
 unfold gather extK at h
 split at h
 ·split at h
  ·rename_i s hs
   obtain⟨H',e1,_⟩:=setK_spec DEP H b (.cells _ (max _ (o+(lb+n)*s)) _)
   rw[e1] at h
   split at h
   ·cases h
   ·rename_i fr hfr;exact⟨_,fr,hfr⟩
  ·cases h
 ·cases h
theorem heavy_to {ops:Array Oper} {i:Nat} {L:List Nat} {k':List Item} {o:Oper} {pend:Nat→Prop} (hsub:SubOk P G n0 sub) (hov:OvOk P OV) (h:Rel P G n0 base lo ρ st fr' cs' w) (hat:OpAt G ρ st.fr fr' ops i L k' o pend) (hw:Region.wanted o (yielded ops fr'.tmps)=true)
 (hK:heavyK P G FJ OV sub st o K=some out):StepTo P G n0 base lo ρ st.fr.nb fr' cs' w K out:=by
 have hev:=hat.eval h.heap
 have hm:=hat.mode
 have gr:=Grow.refl ρ st.nx
 unfold heavyK at hK
 simp only[] at hK
 split at hK
 ·
  rename_i x hop
  split at hK
  ·rename_i v hv
   have hv':=hev x (by rw[hop];simp[Op.operands]) v hv
   refine fin_to h hm gr h.heap (Nat.le_refl _) (Below.refl _ _) hv' (s_value hat.real hat.todo hat.op hw (not_defer_of hop (by simp)) (by simp[execOp,hop])) hK
  ·cases hK
 ·
  rename_i t a x hop
  split at hK
  ·rename_i b off v ha hx
   split at hK
   ·rename_i n hn
    split at hK
    ·rename_i hsz
     have hsz:v.cells.size=n:=by simpa using hsz
     have hA:=hev a (by rw[hop];simp[Op.operands]) _ ha
     have hX:=hev x (by rw[hop];simp[Op.operands]) _ hx
     generalize hea:fr'.eval a=ya at hA
     cases hA with
     | ptr hA =>
       cases hA with
       | some hp =>
         have hc:=cells_rel hX
         obtain⟨H',w',k1,k2,k3,k4⟩:=storeK_run h.heap hp hc hK
         refine fin_to h hm gr k3 (Nat.le_refl _) k4 VRel.undef (s_next hat.real hat.todo hat.op hw (not_defer_of hop (by simp)) ?_) k1
         have hsz':(fr'.eval x).cells.size=n:=by have:=hc.1;simp at this;omega
         simp only[execOp,hop,Instr.storeAt,hea,Instr.sureAddr,storeVar,Sem.run_bind,Sem.run_pure,Result.andThen_ok,run_sizeOf (w:=w) hn,hsz',ne_eq,not_true_eq_false,if_false,k2]
    ·cases hK
   ·cases hK
  ·cases hK
 ·
  rename_i t m k x hop
  split at hK
  ·rename_i mv kv xv hmv hkv hxv
   obtain⟨H',w',k1,k2,k3,k4⟩:=setMapK_run h.heap (hev m (by rw[hop];simp[Op.operands]) _ hmv) (hev k (by rw[hop];simp[Op.operands]) _ hkv) (hev x (by rw[hop];simp[Op.operands]) _ hxv) hK
   refine fin_to h hm gr k3 (Nat.le_refl _) k4 VRel.undef (s_next hat.real hat.todo hat.op hw (not_defer_of hop (by simp)) ?_) k1
   simp only[execOp,hop,Sem.run_bind,k2,Result.andThen_ok];rfl
  ·cases hK
 ·
  rename_i t m k x hop
  split at hK
  ·rename_i mv kv xv hmv hkv hxv
   obtain⟨H',w',k1,k2,k3,k4⟩:=setMapK_run h.heap (hev m (by rw[hop];simp[Op.operands]) _ hmv) (hev k (by rw[hop];simp[Op.operands]) _ hkv) (hev x (by rw[hop];simp[Op.operands]) _ hxv) hK
   refine fin_to h hm gr k3 (Nat.le_refl _) k4 VRel.undef (s_next hat.real hat.todo hat.op hw (not_defer_of hop (by simp)) ?_) k1
   simp only[execOp,hop,Sem.run_bind,k2,Result.andThen_ok];rfl
  ·cases hK
 ·
  rename_i c hop
  split at hK
  ·rename_i d hro hd
   obtain⟨d',r1,_,r2⟩:=resolve_rel (P:=P) (er:=fr'.eval) (t:=o.type) (fun x hx=>hev x (by rw[hop];simpa[Op.operands] using hx)) hd
   have hro':fr'.roundOf=none:=by have:=h.fr.rnd;rw[hro] at this;generalize fr'.roundOf=r at this ⊢;cases this;rfl
   have hs:=s_defer (P:=P) (cs:=cs') (d:=d') (w':=w) hat.real hat.todo hat.op hw hro' (by simp only[execOp,hop,r2,pure_bind];rfl)
   have hf:=h.fr.defers_cons r1
   obtain⟨fr2,k1,k2,k3,k4⟩:=finish_rel (fr:={st.fr with defers:=d :: st.fr.defers }) hf hm (Ren.le.refl ρ) (fun _ _ _ h=>h) VRel.undef hK
   refine⟨ρ,_,_,cs',w,k1,.one hs,h.top (Grow.refl _ _) h.heap (Nat.le_refl _) k2 (fun i b hb=>?_) k4,Below.refl _ _,Grow.refl _ _⟩
   rcases k3 with e | e
   ·rw[e] at hb;rw[k4];exact h.al i b hb
   ·rw[e] at hb;cases hb
  ·cases hK
 ·
  rename_i x hop
  split at hK
  ·rename_i t v hx
   have hX:=hev x (by rw[hop];simp[Op.operands]) _ hx
   generalize hex:fr'.eval x=y at hX
   have hchain:ChR ρ [{v:= .iface t v,recovered:=false }] [{v:=y,recovered:=false }]:= .cons hX .nil
   obtain⟨fr2,k1,k2,k3,k4⟩:=raise_rel h.fr hchain hK
   have hs:=s_panic (P:=P) (cs:=cs') (v:=y) (w:=w) (w':=w) hat.real hat.todo hat.op hw (not_defer_of hop (by simp)) (by
    cases hX;simp[execOp,hop,hex,Instr.panic])
   refine⟨ρ,_,_,cs',w,k1,.one hs,h.top (Grow.refl _ _) h.heap (Nat.le_refl _) k2 (fun i b hb=>?_) k4,Below.refl _ _,Grow.refl _ _⟩
   have:alOf fr2=alOf st.fr:=by unfold alOf;rw[k3]
   rw[this] at hb;rw[k4];exact h.al i b hb
  ·cases hK
 ·
  rename_i c hop
  obtain⟨callee,args,argTypes⟩:=c
  have args_ok:∀x∈args.toList,∀v,ev G st.fr.tm x=some v→VRel ρ v (fr'.eval x):=fun x hx=>hev x (by rw[hop];simp[Op.operands,Call.operands] at hx ⊢;exact .inr hx)
  have two:∀l:List Value,∀a b:Value,LR ρ [a,b] l→∃a' b',l=[a',b']∧VRel ρ a a'∧VRel ρ b b':=fun l a b hl=>by
   obtain⟨a',m,rfl,ha,hm⟩:=hl.of_cons
   obtain⟨b',m,rfl,hb,hm⟩:=hm.of_cons
   rw[hm.of_nil];exact⟨a',b',rfl,ha,hb⟩
  split at hK
  ·
   rename_i hc
   simp only[] at hc hK;subst hc
   split at hK
   ·rename_i t t1 s x ht0 ht1 hl
    have hL:=evs_rel (ρ:=ρ) (er:=fr'.eval) _ _ args_ok hl
    obtain⟨s',x',e,hs,hx⟩:=two _ _ _ hL
    obtain⟨ρ2,v,v',H',nx',w',g,hnx,k1,k2,k3,k4,k5⟩:=appendK_run (tt:=o.type) h.heap ht0 ht1 hs hx hK
    have hargs:args.map fr'.eval= #[s',x']:=by apply Array.ext';simpa using e
    refine fin_to h hm ⟨g.1,fun b hb hn=>by rw[g.2 b hb];exact hn⟩ k4 hnx k5 k2 (s_value hat.real hat.todo hat.op hw (not_defer_of hop (by simp)) ?_) k1
    simp only[execOp,hop,resolve,hargs,pure_bind,invoke,builtin,Sem.run_bind,k3,Result.andThen_ok];rfl
   ·cases hK
  ·
   rename_i hc
   simp only[] at hc hK;subst hc
   split at hK
   ·rename_i t d x ht0 hl
    have hL:=evs_rel (ρ:=ρ) (er:=fr'.eval) _ _ args_ok hl
    obtain⟨d',x',e,hd,hx⟩:=two _ _ _ hL
    obtain⟨v,H',w',k1,k2,k3,k4,k5⟩:=copyK_run (tt:=o.type) h.heap ht0 hd hx hK
    have hargs:args.map fr'.eval= #[d',x']:=by apply Array.ext';simpa using e
    refine fin_to h hm gr k4 (Nat.le_refl _) k5 k2 (s_value hat.real hat.todo hat.op hw (not_defer_of hop (by simp)) ?_) k1
    simp only[execOp,hop,resolve,hargs,pure_bind,invoke,builtin,Sem.run_bind,k3,Result.andThen_ok];rfl
   ·cases hK
  ·
   rename_i hc
   simp only[] at hc hK;subst hc
   split at hK
   ·rename_i t x ht0 hl
    have hL:=evs_rel (ρ:=ρ) (er:=fr'.eval) _ _ args_ok hl
    obtain⟨x',m,e,hx,hm2⟩:=hL.of_cons
    rw[hm2.of_nil] at e
    obtain⟨H',w',k1,k3,k4,k5⟩:=clearK_run (tt:=o.type) h.heap ht0 hx hK
    have hargs:args.map fr'.eval= #[x']:=by apply Array.ext';simpa using e
    refine fin_to h hm gr k4 (Nat.le_refl _) k5 VRel.undef (s_value hat.real hat.todo hat.op hw (not_defer_of hop (by simp)) ?_) k1
    simp only[execOp,hop,resolve,hargs,pure_bind,invoke,builtin,Sem.run_bind,k3,Result.andThen_ok];rfl
   ·cases hK
  ·
   rename_i hc
   simp only[] at hc hK;subst hc
   have hrun:(execOp fr'.eval o).run P w= .ok .recover w:=by
    simp only[execOp,hop,resolve,pure_bind,invoke,builtin];rfl
   have hkind:=h.fr.kind
   split at hK
   ·rename_i c cs hro hk hcs
    have hro':fr'.roundOf=none:=by have:=h.fr.rnd;rw[hro] at this;generalize fr'.roundOf=r at this ⊢;cases this;rfl
    have hs:=s_recover (P:=P) (cs:=cs') (w:=w) (w':=w) hat.real hat.todo hat.op hw (not_defer_of hop (by simp)) hro' hrun
    have hcsr:=h.cs
    rw[hcs] at hcsr
    cases hcsr with
    | cons hcr hcal hcn hcc =>
      rename_i c' cs2
      split at hK
      ·rename_i v older hcm
       have hmo:=hcr.mode
       rw[hcm] at hmo
       generalize hcm':c'.mode=m' at hmo
       cases hmo with
       | pan hch =>
         cases hch with
         | cons hv hch =>
           rename_i v' older'
           have htr:tryRecover fr' (c' :: cs2)=some (v',{c' with mode:= .panicking ({v:=v',recovered:=true } :: older') } :: cs2):=by
            simp only[tryRecover,hkind,hk,hcm']
           rw[htr] at hs
           obtain⟨fr2,k1,k2,k3,k4⟩:=finish_rel h.fr hm (Ren.le.refl ρ) (fun _ _ _ h=>h) hv hK
           refine⟨ρ,_,_,_,w,k1,.one hs,⟨h.heap,k2,fun i b hb=>?_,by rw[k4];exact h.nb,?_⟩,Below.refl _ _,Grow.refl _ _⟩
           ·rcases k3 with e | e
            ·rw[e] at hb;rw[k4];exact h.al i b hb
            ·rw[e] at hb;cases hb
           ·show StkR ρ base lo fr2.nb _ _
            rw[k4]
            refine .cons ⟨hcr.fn,hcr.kind,hcr.rnd,.pan (.cons hv hch),hcr.defers,fun e=>(by cases e),fun _=>hcr.off (by rw[hcm];simp)⟩ hcal hcn hcc
      ·rename_i hnot
       have htr:tryRecover fr' (c' :: cs2)=none:=by
        have hmo:=hcr.mode
        simp only[tryRecover,hkind,hk]
        generalize hcm:c.mode=m at hmo hnot
        generalize c'.mode=m' at hmo
        cases hmo with
        | run=>rfl
        | ret=>rfl
        | pan hch =>
          cases hch with
          | nil=>rfl
          | cons hv hch =>
            rename_i r g _ _
            cases r with
            | true=>rfl
            | false =>
              cases g with
              | true=>rfl
              | false=>exact absurd rfl (hnot _ _)
       rw[htr] at hs
       have hst:{st with cs:=c :: cs }=st:=by cases st;simp only at hcs;subst hcs;rfl
       exact fin_to h hm gr h.heap (Nat.le_refl _) (Below.refl _ _) .nilIface hs hK
   ·rename_i hro hk
    have hro':fr'.roundOf=none:=by have:=h.fr.rnd;rw[hro] at this;generalize fr'.roundOf=r at this ⊢;cases this;rfl
    have hs:=s_recover (P:=P) (cs:=cs') (w:=w) (w':=w) hat.real hat.todo hat.op hw (not_defer_of hop (by simp)) hro' hrun
    have htr:tryRecover fr' cs'=none:=by unfold tryRecover;rw[hkind,hk]
    rw[htr] at hs
    exact fin_to h hm gr h.heap (Nat.le_refl _) (Below.refl _ _) .nilIface hs hK
   ·cases hK
  ·cases hK
  ·cases hK
  ·
   rename_i f hc
   simp only[] at hc;subst hc
   split at hK
   ·rename_i d hd
    obtain⟨d',r1,r2,r3⟩:=resolve_rel (P:=P) (er:=fr'.eval) (t:=o.type) (fun x hx=>hev x (by rw[hop];simpa[Op.operands] using hx)) hd
    have hnd:=not_defer_of hop (by simp)
    split at hK
    ·
     rename_i v hv
     obtain⟨o1,f2,t,a,b,la,ca,lb,cb,o2,o3,o4,o5⟩:=overlapC_run h.heap r1 hv
     obtain⟨tr,hcall⟩:=hov f2 t o2
     refine fin_to h hm gr h.heap (Nat.le_refl _) (Below.refl _ _) o1 (s_value hat.real hat.todo hat.op hw hnd ?_) hK
     simp only[execOp,hop,r3,pure_bind,o3,invoke]
     rw[show d'.args ++ #[]=d'.args by simp,hcall,o5];rfl
    ·split at hK
     ·
      split at hK
      ·rename_i fr hinv
       obtain⟨i1,i2,i3⟩:=invoke_rel (st:=st) h.heap r1.target r1.args hinv
       rcases i3 with⟨f2,args2,fr2',hrun,rfl,hf,cap,_⟩ | ⟨_,l,f2,tmps,assign,body,hrun,hf⟩
       ·exact push_to h hf i1 i2 (s_enter hat.real hat.todo hat.op hw hnd (by simp only[execOp,hop,r3,pure_bind];exact hrun w)) hK
       ·exact push_to h hf i1 i2 (s_round hat.real hat.todo hat.op hw hnd (by simp only[execOp,hop,r3,pure_bind];exact hrun)) hK
      ·cases hK
     ·
      rename_i f2 cap k hfk
      have htg:d.target= .fn (.func f2) cap:=by
       split at hfk
       ·rename_i f3 cap3 htg
        split at hfk
        ·injection hfk with hfk;injection hfk with h1 h2;injection h2 with h2 h3;subst h1 h2;exact htg
        ·cases hfk
       ·cases hfk
      have htr:=r1.target
      rw[htg] at htr
      generalize htg':d'.target=tg' at htr
      cases htr with
      | fn hfn hcap =>
        cases hfn
        rename_i cap'
        have hargs:=r1.args.append hcap
        split at hK
        ·rename_i b off l c rest hargs2
         rw[hargs2] at hargs
         obtain⟨s',rest',he,hs',hrest⟩:=hargs.of_cons
         have hcallee:∀(fr:Fr),enterC P f2 (.slice (some ⟨b,off,none⟩) l c :: rest) .normal st.nx=some fr→(execOp fr'.eval o).run P w= .ok (.enter f2 (d'.args ++ cap')) w:=fun fr hfr=>by
          simp only[execOp,hop,r3,pure_bind,htg',invoke]
          exact(enter_rel (args':=d'.args ++ cap') (by rw[Array.toList_append,he];exact .cons hs' hrest) hfr).2.2.2.2.2.2.2 w
         split at hK
         ·split at hK
          ·rename_i fr hfr
           obtain⟨e1,e2,e3,_⟩:=enter_rel (args':=d'.args ++ cap') (by rw[Array.toList_append,he];exact .cons hs' hrest) hfr
           exact push_to h e1 e2 e3 (s_enter hat.real hat.todo hat.op hw hnd (hcallee fr hfr)) hK
          ·cases hK
         ·rename_i hcb
          have hcb:CAP≤c:=by have:=blt_false hcb;omega
          split at hK
          ·rename_i hkc
           rw[Nat.blt_eq] at hkc
           split at hK
           ·cases hK
           ·rename_i outs houts
            split at hK
            ·cases hK
            ·rename_i oo hoo
             rw[natK_id] at hK
             cases hs' with
             | sl hA hC =>
               rename_i a' cap2
               have hlow:c-CAP≤cap2:=by cases hC with | eq h=>omega | low _ hl=>exact hl
               obtain⟨j,hj1,hj2,hj3⟩:∃j,j < k+1∧(j < k→cap2=c-CAP+j)∧c-CAP+j≤cap2:=by
                by_cases hlt:cap2-(c-CAP) < k
                ·exact⟨cap2-(c-CAP),by omega,fun _=>by omega,by omega⟩
                ·exact⟨k,by omega,fun hh=>by omega,by omega⟩
               obtain⟨x,hx,ρ2,v',fr2,w2,q1,q2,q3,q4,q5,q6,q7⟩:=gather_ok hsub h.heap (fr' :: cs') hA hC hcb hrest hkc (k+1) outs houts j hj1 hj2 hj3
               obtain⟨ρ3,t1,t2,t3,t4⟩:=joinC_ok hx q3 q4 hoo
               have hgr:Grow ρ ρ3 st.nx:=q7.trans (t4.down q5)
               have hargs':d'.args ++ cap'=(.slice a' l cap2 :: rest').toArray:=by apply Array.ext';rw[Array.toList_append,he]
               have hent:∃fr,enterC P f2 (.slice (some ⟨b,off,none⟩) l c :: rest) .normal st.nx=some fr:=by
                obtain⟨args3,fr3,h3⟩:=gather_enter houts
                exact enter_any h3 _
               obtain⟨fr,hfr⟩:=hent
               have hs1:=s_enter (P:=P) (cs:=cs') (w:=w) hat.real hat.todo hat.op hw hnd (hcallee fr hfr)
               rw[hargs'] at hs1
               have hs2:=step_leave_returned (c:=fr') (cs:=cs') q2
               obtain⟨fr3,k1,k2,k3,k4⟩:=finish_rel h.fr hm hgr.le (fun i b hb=>hgr.un b (h.al i b hb).2) t1 hK
               have hgn:=hgr.down h.nb
               refine⟨ρ3,_,fr'.finish v',cs',w2,k1,.head hs1 (q1.trans (.one hs2)),h.top hgn t2 (by omega) k2 (fun i b hb=>?_) k4,q6,hgn⟩
               rcases k3 with e | e
               ·rw[e] at hb;have:=h.al i b hb;rw[k4];omega
               ·rw[e] at hb;cases hb
          ·cases hK
        ·
         rename_i hargs2
         rw[hargs2] at hargs
         split at hK
         ·cases hK
         ·rename_i fr hfr
          split at hK
          ·rename_i oo hsubr
           rw[natK_id] at hK
           have hL:LR ρ [] (d'.args ++ cap').toList:=by rw[Array.toList_append];exact hargs
           have hcallee:(execOp fr'.eval o).run P w= .ok (.enter f2 (d'.args ++ cap')) w:=by
            simp only[execOp,hop,r3,pure_bind,htg',invoke]
            exact(enter_rel (args':=d'.args ++ cap') hL hfr).2.2.2.2.2.2.2 w
           obtain⟨x,hx,ρ2,v',fr2,w2,q1,q2,q3,q4,q5,q6,q7⟩:=hsub f2 [] (d'.args ++ cap') fr st.H st.nx _ (fr' :: cs') ρ w hfr hL h.heap hsubr
           simp only[List.mem_singleton] at hx
           subst hx
           have hs1:=s_enter (P:=P) (cs:=cs') (w:=w) hat.real hat.todo hat.op hw hnd hcallee
           have hs2:=step_leave_returned (c:=fr') (cs:=cs') q2
           obtain⟨fr3,k1,k2,k3,k4⟩:=finish_rel h.fr hm q7.le (fun i b hb=>q7.un b (h.al i b hb).2) q3 hK
           have hgn:=q7.down h.nb
           refine⟨ρ2,_,fr'.finish v',cs',w2,k1,.head hs1 (q1.trans (.one hs2)),h.top hgn q4 q5 k2 (fun i b hb=>?_) k4,q6,hgn⟩
           rcases k3 with e | e
           ·rw[e] at hb;have:=h.al i b hb;rw[k4];omega
           ·rw[e] at hb;cases hb
          ·cases hK
        ·cases hK
   ·cases hK
 ·cases hK
end
end Go.Proofs.YtiioegopckoldaaGreatDoor.CV
