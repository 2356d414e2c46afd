/- lemmas for topRented_holds: QDS QDT. No conditions. -/
import Derived.Test.YtiioegopckoldaaGreatDoorK40
set_option linter.unusedVariables false
set_option linter.unusedSimpArgs false
namespace Go.Proofs.YtiioegopckoldaaGreatDoor.CV
open Go Go.RowKit
section
variable {P:Program} {G n0 lo:Nat} {FJ:FuncId→Option Nat} {OV:FuncId→Option TypeId} {sub:Sub} {base:List Frame} {ρ:Ren} {st:St} {fr':Frame} {cs':List Frame} {w:World} {β:Type} {K:St→Option β} {out:β}
theorem codeC_to (hmix:P.follows .mixedOrders=true) (h:Rel P G n0 base lo ρ st fr' cs' w) (hm:st.fr.mode= .run) {c:Code} {k:List CI} {k':List Item} (hT:TRel ρ st.fr.tm st.fr.nt (fun _=>False) fr'.tmps) (hk:KR ρ k k')
 (htd:fr'.todo= .code c :: k') (hK:codeC P G st c k K=some out):StepTo P G n0 base lo ρ st.fr.nb fr' cs' w K out:=by
 have hm':=run_mode h.fr hm
 cases c with
 | skip=>exact todo_to h hm hT hk rfl (Below.refl _ _) (s_skip hm' htd) hK
 | label l=>exact todo_to h hm hT hk rfl (Below.refl _ _) (s_label hm' htd) hK
 | seq a b=>exact todo_to h hm hT (.it rfl (.it rfl hk)) rfl (Below.refl _ _) (s_seq hm' htd) hK
 | cond c a b =>
   simp only[codeC] at hK
   split at hK
   ·rename_i hc
    have hv:=ev_rel h.heap hT (x:=c) (fun t _ h=>h) hc
    generalize he:fr'.eval c=y at hv
    cases hv
    exact todo_to h hm hT (.it rfl hk) rfl (Below.refl _ _) (s_cond (t:=true) hm' htd he) hK
   ·rename_i hc
    have hv:=ev_rel h.heap hT (x:=c) (fun t _ h=>h) hc
    generalize he:fr'.eval c=y at hv
    cases hv
    exact todo_to h hm hT (.it rfl hk) rfl (Below.refl _ _) (s_cond (t:=false) hm' htd he) hK
   ·cases hK
 | block id b=>exact todo_to h hm hT (.it rfl (.it rfl hk)) rfl (Below.refl _ _) (s_block hm' htd) hK
 | loop b=>exact todo_to h hm hT (.it rfl (.it rfl hk)) rfl (Below.refl _ _) (s_loop hm' htd) hK
 | scope b=>exact todo_to h hm hT (.it rfl (.it rfl hk)) rfl (Below.refl _ _) (s_scope hm' htd) hK
 | exit id =>
   simp only[codeC] at hK
   split at hK
   ·rename_i k2 hx
    obtain⟨k2',e1,e2⟩:=(exit_rel hk).1 k2 hx
    exact todo_to h hm hT e2 rfl (Below.refl _ _) (s_exit hm' htd e1) hK
   ·rename_i hx
    exact leave_to h hm hT (some (.exit id)) ⟨k',htd,(exit_rel hk).2 hx⟩ hK
 | goto l =>
   simp only[codeC] at hK
   split at hK
   ·rename_i k2 hx
    obtain⟨k2',e1,e2⟩:=(goto_rel hk).1 k2 hx
    exact todo_to h hm hT e2 rfl (Below.refl _ _) (s_goto hm' htd e1) hK
   ·rename_i hx
    exact leave_to h hm hT (some (.goto l)) ⟨k',htd,(goto_rel hk).2 hx⟩ hK
 | ret=>exact leave_to h hm hT (some .ret) ⟨k',htd⟩ hK
 | region i ops draw=>exact region_to hmix h hm hT hk htd hK
 | rangeFunc f params assign body=>exact rangeFunc_to h hm hT hk htd hK
 | refuse _=>cases hK
theorem HRel.lay {H H':Tr CObj} {nx:Nat} (hH:HRel P G n0 ρ H nx w) {o:CObj} (hH':∀j x,H'.get j=some x→(j=nx→x=o)∧(j≠nx→H.get j=some x)):HRel P G n0 ρ H' (nx+1) w where
 obj:=fun j x p hx hp=>hH.obj j x p ((hH' j x hx).2 (fun e=>by rw[e,hH.fresh (Nat.le_refl _)] at hp;cases hp)) hp
 inj:=fun j j' x x' p p' hx hx' hp hp' e=>
  hH.inj _ _ _ _ _ _ ((hH' j x hx).2 (fun e=>by rw[e,hH.fresh (Nat.le_refl _)] at hp;cases hp)) ((hH' j' x' hx').2 (fun e=>by rw[e,hH.fresh (Nat.le_refl _)] at hp';cases hp')) hp hp' e
 dom:=fun j p hp=>let⟨a,b,c⟩:=hH.dom j p hp;⟨by omega,b,c⟩
 glob:=hH.glob
 low:=by have:=hH.low;omega
 big:=hH.big
theorem StepTo.pre {ρ1:Ren} {n:Nat} {fr1:Frame} {cs1:List Frame} {w1:World} (hs:Steps P (lone fr' cs' w) (lone fr1 cs1 w1)) (hg:Grow ρ ρ1 n) (hb:Below n0 w w1) (h:StepTo P G n0 base lo ρ1 n fr1 cs1 w1 K out):StepTo P G n0 base lo ρ n fr' cs' w K out:=by
 obtain⟨ρ2,st2,fr2,cs2,w2,a,b,c,d,e⟩:=h
 exact⟨ρ2,st2,fr2,cs2,w2,a,hs.trans b,c,hb.trans d,hg.trans e⟩
theorem kr_pend (pd:Option Code) {k:List CI} {k':List Item} (hk:KR ρ k k'):KR ρ (match pd with | some c=> .it (.code c) :: k | none=>k) ((pd.map Item.code).toList ++ k'):=by
 cases pd with
 | none=>exact hk
 | some c=>exact .it rfl hk
theorem opC_to (hsub:SubOk P G n0 sub) (hov:OvOk P OV) (h:Rel P G n0 base lo ρ st fr' cs' w) {ops:Array Oper} {i:Nat} {L:List Nat} {k':List Item} {o:Oper} {pend:Nat→Prop} (hat:OpAt G ρ st.fr fr' ops i L k' o pend)
 (hK:opC P G FJ OV sub st ops o K=some out):StepTo P G n0 base lo ρ st.fr.nb fr' cs' w K out:=by
 unfold opC at hK
 split at hK
 ·cases hK
 ·rename_i hg
  exact fin_to h hat.mode (Grow.refl _ _) h.heap (Nat.le_refl _) (Below.refl _ _) VRel.undef (s_skipOp hat.real hat.todo hat.op (hat.guard hg)) hK
 ·rename_i hg
  have hw:=hat.guard hg
  split at hK
  ·rename_i hl
   unfold lightK at hK
   split at hK
   ·cases hK
   ·rename_i v hlt
    obtain⟨v',h1,h2⟩:=light_ok h.heap (hat.eval h.heap) hlt
    exact fin_to h hat.mode (Grow.refl _ _) h.heap (Nat.le_refl _) (Below.refl _ _) h1 (s_value hat.real hat.todo hat.op hw (light_no_defer hl) h2) hK
   ·rename_i v ob hlt
    obtain⟨v',ro,p,hp,hrun,hall⟩:=light_ok h.heap (hat.eval h.heap) hlt
    rw[natK_id] at hK
    obtain⟨H',e1,g1⟩:=setK_spec DEP st.H st.nx ob
    rw[e1,natK_id] at hK
    have hfresh:=h.heap.fresh (Nat.le_refl st.nx)
    have hle:=ρ.ext_le p hfresh
    obtain⟨r1,r2⟩:=hall (ρ.ext st.nx p) hle (ρ.ext_self _ _)
    exact fin_to h hat.mode (Grow.ext p hfresh (Nat.le_refl _)) (h.heap.new (Nat.le_refl _) hp g1 r2) (by omega) (below_push w n0 ro h.heap.big) r1 (s_value hat.real hat.todo hat.op hw (light_no_defer hl) hrun) hK
  ·exact heavy_to hsub hov h hat hw hK
theorem execC_to (hmix:P.follows .mixedOrders=true) (hsub:SubOk P G n0 sub) (hov:OvOk P OV) (h:Rel P G n0 base lo ρ st fr' cs' w) (hm:st.fr.mode= .run) (hK:execC P G FJ OV sub st K=some out):StepTo P G n0 base lo ρ st.fr.nb fr' cs' w K out:=by
 have hm':=run_mode h.fr hm
 obtain⟨pend,hTd,hT⟩:=h.fr.run hm
 generalize htd':fr'.todo=td' at hTd
 unfold execC at hK
 split at hK
 ·
  rename_i htd
  rw[htd] at hTd
  obtain⟨hk,rfl⟩:=plain_of hTd (by simp) (by simp)
  cases hk
  exact leave_to h hm hT none htd' hK
 ·rename_i c k htd
  rw[htd] at hTd
  obtain⟨hk,rfl⟩:=plain_of hTd (by simp) (by simp)
  cases hk with
  | it hx hk=>exact codeC_to hmix h hm hT hk htd' hK
 ·rename_i id k htd
  rw[htd] at hTd
  obtain⟨hk,rfl⟩:=plain_of hTd (by simp) (by simp)
  cases hk with
  | it hx hk=>exact todo_to h hm hT hk rfl (Below.refl _ _) (s_inBlock hm' htd') hK
 ·rename_i b k htd
  rw[htd] at hTd
  obtain⟨hk,rfl⟩:=plain_of hTd (by simp) (by simp)
  cases hk with
  | it hx hk=>exact todo_to h hm hT hk rfl (Below.refl _ _) (s_inScope hm' htd') hK
 ·rename_i b k htd
  rw[htd] at hTd
  obtain⟨hk,rfl⟩:=plain_of hTd (by simp) (by simp)
  cases hk with
  | it hx hk=>exact todo_to h hm hT (.it rfl (.it rfl hk)) rfl (Below.refl _ _) (s_inLoop hm' htd') hK
 ·
  rename_i k htd
  rw[htd] at hTd
  obtain⟨hk,rfl⟩:=plain_of hTd (by simp) (by simp)
  cases hk with
  | it hx hk =>
    rename_i k'
    split at hK
    ·cases hK
    ·rename_i l hl
     split at hK
     ·rename_i pd fn tm nt params assign body df hg
      split at hK
      ·cases hK
      ·rename_i hb
       have hb:G≤l:=by have:=blt_false hb;omega
       obtain⟨H',e1,g1⟩:=setK_spec DEP st.H l (.loop .busy pd fn tm nt params assign body df)
       rw[e1] at hK
       have hrn:=h.fr.rnd
       rw[hl] at hrn
       generalize hro:fr'.roundOf=r' at hrn
       cases hrn with
       | some hp =>
         obtain⟨p',ro,hp',hrow,hor⟩:=h.heap.objp hp hg
         rw[hp] at hp';injection hp' with hp';subst hp'
         cases hor with
         | loop hTl hd =>
           rename_i p q tmr
           have hlt:=(h.heap.dom _ _ hp).2.1
           let lp:Loop:={state:= .busy,pending:=pd,fn,tmps:=tmr,params,assign,body,defers:=q.r }
           have hH2:HRel P G n0 ρ H' st.nx {w with heap:=w.heap.setIfInBounds p.r (.loop lp) }:=
            h.heap.put (ro:= .loop lp) hg hp g1 Upd.setObj (by simp[hlt]) (.loop hTl hd)
           have hrun:(Instr.beginRound p.r).run P w= .ok () {w with heap:=w.heap.setIfInBounds p.r (.loop lp) }:=by
            simp only[Instr.beginRound,Sem.run_bind,run_getLoop hrow,Result.andThen_ok,run_setLoop hrow,Sem.run_pure]
            rfl
           refine⟨ρ,_,_,cs',_,hK,.one (s_beginRound hm' htd' hro hrun),h.top (Grow.refl _ _) hH2 (Nat.le_refl _) ⟨h.fr.fn,h.fr.kind,h.fr.rnd,h.fr.mode,h.fr.defers,fun _=>⟨_,.plain hk,hT⟩,fun e=>absurd hm e⟩ (fun i b hb=>?_) rfl,Upd.setObj.below ((h.heap.dom _ _ hp).2.2 hb),Grow.refl _ _⟩
           rw[hk.al] at hb;cases hb
     ·cases hK
 ·
  rename_i l k htd
  rw[htd] at hTd
  obtain⟨hk,rfl⟩:=plain_of hTd (by simp) (by simp)
  split at hK
  ·rename_i s pd fn tm nt params assign body df hg
   split at hK
   ·cases hK
   ·cases hK
   ·rename_i s _ _ hns hnb
    have hb:G≤l:=by have:=blt_false hnb;omega
    obtain⟨H',e1,g1⟩:=setK_spec DEP st.H l (.loop .exhausted pd fn tm nt params assign body df)
    rw[e1] at hK
    cases hk with
    | it hx hk=>simp[plainItem] at hx
    | erf hp hk =>
      rename_i p k'
      obtain⟨p',ro,hp',hrow,hor⟩:=h.heap.objp hp hg
      rw[hp] at hp';injection hp' with hp';subst hp'
      cases hor with
      | loop hTl hd =>
        rename_i q tmr
        have hlt:=(h.heap.dom _ _ hp).2.1
        let lp:Loop:={state:= .exhausted,pending:=pd,fn,tmps:=tmr,params,assign,body,defers:=q.r }
        have hH2:HRel P G n0 ρ H' st.nx {w with heap:=w.heap.setIfInBounds p.r (.loop lp) }:=
         h.heap.put (ro:= .loop lp) hg hp g1 Upd.setObj (by simp[hlt]) (.loop hTl hd)
        have hrun:(Instr.endLoop p.r).run P w= .ok pd {w with heap:=w.heap.setIfInBounds p.r (.loop lp) }:=by
         simp only[Instr.endLoop,Sem.run_bind,run_getLoop hrow,Result.andThen_ok]
         cases s with
         | busy=>exact absurd rfl hns
         | _=>rw[if_neg (by decide)];simp only[Sem.run_bind,run_setLoop hrow,Result.andThen_ok,Sem.run_pure];rfl
        have hkk:=kr_pend pd hk
        refine⟨ρ,_,_,cs',_,hK,.one (s_endRange hm' htd' hrun),h.top (Grow.refl _ _) hH2 (Nat.le_refl _) ⟨h.fr.fn,h.fr.kind,h.fr.rnd,h.fr.mode,h.fr.defers,fun _=>⟨_,.plain hkk,hT⟩,fun e=>absurd hm e⟩ (fun i b hb=>?_) rfl,Upd.setObj.below ((h.heap.dom _ _ hp).2.2 hb),Grow.refl _ _⟩
        exact absurd (Eq.subst (motive:=fun l=>(i,b)∈l) (hkk.al st.fr) hb) (by simp)
  ·cases hK
 ·cases hK
 ·
  rename_i ops k htd
  rw[htd] at hTd
  obtain⟨hk,rfl⟩:=plain_of hTd (by simp) (by simp)
  cases hk with
  | ops he hL hk =>
    simp at hL;subst hL
    exact todo_to h hm hT hk rfl (Below.refl _ _) (s_region_end hm' htd') hK
 ·
  rename_i ops o rest k htd
  rw[htd] at hTd
  obtain⟨hk,rfl⟩:=plain_of hTd (by simp) (by simp)
  obtain⟨i,L,k',rfl,ho,hkk,hnext⟩:=KR_ops_at hk
  exact opC_to hsub hov h ⟨hm,hm',htd',ho,hT,fun t _ h=>h⟩ hK
 ·
  rename_i ops i ls ph phs hp al k htd
  rw[htd] at hTd
  cases hTd with
  | dr hI hls hal hk =>
    rename_i L k'
    split at hK
    ·cases hK
    ·rename_i o ho
     obtain⟨hiL,hil⟩:=hls i (by simp)
     have put:∀(v:Value) (al2:List (Nat×Nat)) (H2:Tr CObj) (nx2:Nat),HRel P G n0 ρ H2 nx2 w→st.nx≤nx2→AlR ρ al2 L→(∀i b,(i,b)∈al2→st.fr.nb≤b∧b < nx2)→
      putK {st.fr with todo:= .dr ops ls ph phs hp al2 :: k } o.dst v (fun fr=>K {fr,cs:=st.cs,H:=H2,nx:=nx2 })=some out→StepTo P G n0 base lo ρ st.fr.nb fr' cs' w K out:=by
      intro v al2 H2 nx2 hH2 hnx hal2 hb hK
      have hT2:∃tm,K {fr:={st.fr with todo:= .dr ops ls ph phs hp al2 :: k,tm },cs:=st.cs,H:=H2,nx:=nx2 }=some out∧TRel ρ tm st.fr.nt (pendOf ops L) fr'.tmps:=by
       cases hd:o.dst with
       | none=>rw[hd] at hK;exact⟨st.fr.tm,hK,hT⟩
       | some d =>
         rw[hd] at hK
         simp only[putK] at hK
         split at hK
         ·cases hK
         ·rename_i hbl
          rw[Nat.blt_eq] at hbl
          rw[forceQ_id] at hK
          obtain⟨tm,e1,g1⟩:=setK_spec DEP st.fr.tm d v
          rw[e1] at hK
          refine⟨tm,hK,hT.1,fun t u hu=>?_⟩
          by_cases e:t=d
          ·subst e
           exact⟨hbl,fun hnp=>absurd ⟨i,hiL,hil,by simp[ho,hd]⟩ hnp⟩
          ·exact hT.2 t u ((g1 t u hu).2 e)
      obtain⟨tm,hK2,hT2⟩:=hT2
      exact⟨ρ,_,fr',cs',w,hK2,.refl _ _,h.top (Grow.refl _ _) hH2 hnx ⟨h.fr.fn,h.fr.kind,h.fr.rnd,h.fr.mode,h.fr.defers,fun _=>⟨_,by rw[htd'];exact .dr hI (fun j hj=>hls j (by simp[hj])) hal2 hk,hT2⟩,fun e=>absurd hm e⟩ (fun i b hb'=>hb i b hb') rfl,Below.refl _ _,Grow.refl _ _⟩
     have hab:∀i b,(i,b)∈al→st.fr.nb≤b∧b < st.nx:=fun i b hb=>h.al i b (by simp only[alOf,htd];exact hb)
     split at hK
     ·cases hK
     ·exact put _ al st.H st.nx h.heap (Nat.le_refl _) hal hab hK
     ·split at hK
      ·cases hK
      ·exact put _ al st.H st.nx h.heap (Nat.le_refl _) hal hab hK
      ·rename_i v ob hlt
       rw[natK_id] at hK
       obtain⟨H',e1,g1⟩:=setK_spec DEP st.H st.nx ob
       rw[e1,natK_id] at hK
       have hfresh:=h.heap.fresh (Nat.le_refl st.nx)
       refine put v ((i,st.nx) :: al) H' (st.nx+1) (h.heap.lay g1) (by omega) ⟨fun j b hb hj=>?_,?_⟩ (fun j b hb=>?_) hK
       ·rcases List.mem_cons.1 hb with e | hb
        ·injection e with e1 e2;rw[e2];exact hfresh
        ·exact hal.un j b hb hj
       ·simp only[List.map_cons,List.nodup_cons]
        refine⟨fun hm=>?_,hal.nodup⟩
        obtain⟨⟨x,y⟩,hx,e⟩:=List.mem_map.1 hm
        simp only at e;subst e
        have:=(hab _ _ hx).2;omega
       ·have:=h.nb
        rcases List.mem_cons.1 hb with e | hb
        ·injection e with e1 e2;omega
        ·have:=hab j b hb;omega
  | plain hk=>cases hk
 ·
  rename_i ops ph phs hp al k htd
  rw[htd] at hTd
  cases hTd with
  | plain hk=>cases hk
  | dr hI hls hal hk =>
    rename_i L k'
    have hab:∀i b,(i,b)∈al→st.fr.nb≤b∧b < st.nx:=fun i b hb=>h.al i b (by simp only[alOf,htd];exact hb)
    split at hK
    ·cases hK
    ·rename_i hag
     have hag:=List.all_eq_true.1 hag
     obtain⟨sp1,sp2⟩:=hI.split
     split at hK
     ·rename_i hh
      split at hK
      ·have hall:=sp2 hh
       obtain⟨ρ2,w2,tmps2,s1,s2,s3,s4,s5,s6,s7⟩:=lights_run (cs:=cs') (L2:=[]) hab L ρ w fr' h.heap hm' (by simpa using htd') (by simpa using hI) (fun i hi=>⟨(hall i hi).1,(hall i hi).2.1,hag i (hall i hi).2.2⟩) (by simpa using hT) (by simpa using hal)
       have hs:=s_region_end (P:=P) (fr:={fr' with tmps:=tmps2,todo:= .inRegion ops [] :: k' }) (cs:=cs') (w:=w2) hm' rfl
       have hT3:TRel ρ2 st.fr.tm st.fr.nt (fun _=>False) tmps2:=⟨s5.1,fun t v hv=>⟨(s5.2 t v hv).1,fun _=>(s5.2 t v hv).2 (fun⟨j,hj,_⟩=>by cases hj)⟩⟩
       refine⟨ρ2,_,_,cs',w2,hK,s1.trans (.one hs),h.top s2 s3 (Nat.le_refl _) ⟨h.fr.fn,h.fr.kind,h.fr.rnd.mono s2.le,h.fr.mode.mono s2.le,h.fr.defers.mono s2.le,fun _=>⟨_,.plain (hk.mono s2.le),hT3⟩,fun e=>absurd hm e⟩ (fun i b hb=>?_) rfl,s4,s2⟩
       rw[hk.al] at hb;cases hb
      ·cases hK
     ·rename_i i hh
      split at hK
      ·rename_i o p phs' ho
       obtain⟨L1,L2,rfl,hall⟩:=sp1 i hh
       obtain⟨ρ2,w2,tmps2,s1,s2,s3,s4,s5,s6,s7⟩:=lights_run (cs:=cs') (L2:=i :: L2) hab L1 ρ w fr' h.heap hm' htd' hI (fun i hi=>⟨(hall i hi).1,(hall i hi).2.1,hag i (hall i hi).2.2⟩) hT hal
       refine StepTo.pre s1 s2 s4 ?_
       have hrel:Rel P G n0 base lo ρ2 {st with fr:={st.fr with todo:= .drh ops ph (p :: phs') hp al :: k } } {fr' with tmps:=tmps2,todo:= .inRegion ops (i :: L2) :: k' } cs' w2:=
        h.top (fr2:={st.fr with todo:= .drh ops ph (p :: phs') hp al :: k }) s2 s3 (Nat.le_refl _) ⟨h.fr.fn,h.fr.kind,h.fr.rnd.mono s2.le,h.fr.mode.mono s2.le,h.fr.defers.mono s2.le,fun _=>⟨_,.drh s7 hh s6 (hk.mono s2.le),s5⟩,fun e=>absurd hm e⟩ (fun i b hb=>hab i b hb) rfl
       have hat:OpAt G ρ2 {st.fr with todo:= .drh ops ph (p :: phs') hp al :: k } {fr' with tmps:=tmps2,todo:= .inRegion ops (i :: L2) :: k' } ops i L2 k' o (pendOf ops (i :: L2)):=
        ⟨hm,hm',rfl,ho,s5,fun t ht ⟨j,hj,h1,h2⟩=>names_free s7.names s7.low s7.sch ho ht hj h1 h2⟩
       split at hK
       ·cases hK
       ·rename_i hg
        have hfin:=fin_to (K:=K) (out:=out) hrel hm (Grow.refl _ _) hrel.heap (Nat.le_refl _) (Below.refl _ _) VRel.undef (s_skipOp hat.real hat.todo hat.op (hat.guard hg)) hK
        exact hfin
       ·rename_i hg
        have hfin:=heavy_to hsub hov hrel hat (hat.guard hg) hK
        exact hfin
      ·cases hK
 ·cases hK
end
end Go.Proofs.YtiioegopckoldaaGreatDoor.CV
namespace Go.Proofs.YtiioegopckoldaaGreatDoor.CV
open Go Go.RowKit
section
variable {P:Program} {G n0 lo:Nat} {FJ:FuncId→Option Nat} {OV:FuncId→Option TypeId} {sub:Sub} {base:List Frame} {ρ:Ren} {st:St} {fr':Frame} {cs':List Frame} {w:World} {β:Type} {K:St→Option β} {out:β}
theorem run_getDefd {r:Nat} {o:Option (List Deferred)} (h:w.heap[r]?=some (.deferred o)):(getObj r).run P w= .ok (.deferred o) w:=by simp[getObj,Sem.run,h]
theorem run_setDefd {r:Nat} {o:Obj} {o':Option (List Deferred)} (h:w.heap[r]?=some (.deferred o')):(setObj r o).run P w= .ok () {w with heap:=w.heap.setIfInBounds r o }:=by simp[setObj,Sem.run,h]
theorem unwind_mode (h:FRel ρ st.fr fr') (hm:st.fr.mode≠.run):fr'.mode≠.run:=by
 have:=h.mode
 generalize st.fr.mode=m at this hm
 generalize fr'.mode=m' at this ⊢
 cases this <;> first | exact absurd rfl hm | simp
theorem ch_drop {l l':List PanicEntry} (h:ChR ρ l l'):l.dropWhile (!·.goexit)=[]→l'.dropWhile (!·.goexit)=[]:=by
 induction h with
 | nil=>exact id
 | cons _ _ ih =>
   rename_i g _ _ _ _
   cases g with
   | true=>intro h;simp at h
   | false=>intro h;simpa using ih (by simpa using h)
theorem unwindC_to (h:Rel P G n0 base lo ρ st fr' cs' w) (hm:st.fr.mode≠.run) (hK:unwindC P G st K=some out):StepTo P G n0 base lo ρ st.fr.nb fr' cs' w K out:=by
 have hm':=unwind_mode h.fr hm
 have hT:=h.fr.off hm
 have hds:=h.fr.defers
 unfold unwindC at hK
 split at hK
 ·
  rename_i b args ds hd
  rw[hd] at hds
  generalize hd':fr'.defers=dd at hds
  cases hds with
  | cons hdf hl =>
    rename_i d' ds'
    obtain⟨tg',args'⟩:=d'
    obtain⟨ht,hta⟩:=hdf
    cases ht with
    | coll hp =>
      rename_i p
      split at hK
      ·rename_i l hg
       split at hK
       ·cases hK
       ·rename_i hb
        have hb:G≤b:=by have:=blt_false hb;omega
        obtain⟨H',e1,g1⟩:=setK_spec DEP st.H b (.defd none)
        rw[e1] at hK
        obtain⟨p',ro,hp',hrow,hor⟩:=h.heap.objp hp hg
        rw[hp] at hp';injection hp' with hp';subst hp'
        cases hor with
        | defd hl2 =>
          rename_i l'
          have hlt:=(h.heap.dom _ _ hp).2.1
          have hH2:HRel P G n0 ρ H' st.nx {w with heap:=w.heap.setIfInBounds p.r (.deferred none) }:=
           h.heap.put (ro:= .deferred none) hg hp g1 Upd.setObj (by simp[hlt]) .gone
          have hrun:(Instr.takeDeferred p.r).run P w= .ok l' {w with heap:=w.heap.setIfInBounds p.r (.deferred none) }:=by
           simp only[Instr.takeDeferred,Sem.run_bind,run_getDefd hrow,Result.andThen_ok,run_setDefd hrow,Sem.run_pure]
          exact⟨ρ,_,_,cs',_,hK,.one (s_collected hm' hd' hrun),h.top (Grow.refl _ _) hH2 (Nat.le_refl _) ⟨h.fr.fn,h.fr.kind,h.fr.rnd,h.fr.mode,hl2.append hl,fun e=>absurd e hm,fun _=>hT⟩ (fun i b hb=>h.al i b hb) rfl,Upd.setObj.below ((h.heap.dom _ _ hp).2.2 hb),Grow.refl _ _⟩
      ·cases hK
 ·
  rename_i d ds hne hd
  rw[hd] at hds
  generalize hd':fr'.defers=dd at hds
  cases hds with
  | cons hdf hl =>
    rename_i d' ds'
    obtain⟨tg',args'⟩:=d'
    obtain⟨ht,ha⟩:=hdf
    split at hK
    ·rename_i fr hinv
     obtain⟨i1,i2,i3⟩:=invoke_rel h.heap ht ha hinv
     rcases i3 with⟨f,args2,fr2',hrun,rfl,hf2,cap,hcap⟩ | ⟨hk,_⟩
     ·simp only at hcap
      subst hcap
      have hs:=s_deferred (cs:=cs') hm' hd' (hrun w)
      refine⟨ρ,_,_,_,w,hK,.one hs,⟨h.heap,hf2,fun i b hb=>?_,?_,?_⟩,Below.refl _ _,Grow.refl _ _⟩
      ·have hb:(i,b)∈alOf fr:=hb
       rw[i1] at hb;cases hb
      ·show fr.nb≤st.nx;rw[i2];exact Nat.le_refl _
      ·show StkR ρ base lo fr.nb _ _
       rw[i2]
       exact .cons ⟨h.fr.fn,h.fr.kind,h.fr.rnd,h.fr.mode,hl,fun e=>absurd e hm,fun _=>hT⟩ (fun i b hb=>h.al i b hb) h.nb h.cs
     ·cases hk
    ·cases hK
 ·rename_i hd
  rw[hd] at hds
  generalize hd':fr'.defers=dd at hds
  cases hds
  have hmo:=h.fr.mode
  split at hK
  ·cases hK
  ·
   rename_i chain hmc
   rw[hmc] at hmo
   generalize hm2:fr'.mode=m at hmo
   cases hmo with
   | pan hch =>
     rename_i chain'
     split at hK
     ·rename_i c cs fn hcs hfn
      have hcsr:=h.cs
      rw[hcs] at hcsr
      cases hcsr with
      | cons hcr hal hn hcc =>
        rename_i c' cs2
        obtain⟨c2,k1,k2,k3,k4⟩:=raise_rel hcr hch hK
        have hs:=s_raise (c:=c') (cs:=cs2) (w:=w) hm2 hd' (by rw[h.fr.fn];exact hfn)
        have hnb:=h.nb
        refine⟨ρ,_,_,_,w,k1,.one hs,⟨h.heap,k2,fun i b hb=>?_,by show c2.nb≤st.nx;omega,by show StkR ρ base lo c2.nb cs cs2;rw[k4];exact hcc⟩,Below.refl _ _,Grow.refl _ _⟩
        have hb:(i,b)∈alOf c2:=hb
        have:alOf c2=alOf c:=by unfold alOf;rw[k3]
        rw[this] at hb
        have:=hal i b hb;show c2.nb≤b∧b < st.nx;omega
     ·cases hK
  ·
   rename_i hmr
   rw[hmr] at hmo
   generalize hm2:fr'.mode=m at hmo
   cases hmo
   split at hK
   ·cases hK
   ·rename_i v hv
    obtain⟨fn,v',hfn,hrun,hvv⟩:=resultC_run h.heap h.fr hm hv
    unfold doReturnC at hK
    split at hK
    ·cases hK
    ·rename_i c cs hcs
     have hcsr:=h.cs
     rw[hcs] at hcsr
     generalize hcs':cs'=cl at hcsr
     cases hcsr with
     | cons hcr hal hn hcc =>
       rename_i c' cs2
       have hnb:=h.nb
       have hkd:=h.fr.kind
       split at hK
       ·rename_i hkn
        split at hK
        ·rename_i hcm
         rw[←hcs']
         exact back_to h hcs hcs' hcm h.heap (Below.refl _ _) hvv (s_returned hm2 hd' hfn hrun (by rw[hkd,hkn])) hK
        ·cases hK
       ·rename_i hkn
        have hcmo:=hcr.mode
        split at hK
        ·rename_i x g older hcm
         rw[hcm] at hcmo
         generalize hcm':c'.mode=m at hcmo
         cases hcmo with
         | pan hch =>
           cases hch with
           | cons hx hol =>
             rename_i x' older'
             split at hK
             ·rename_i hdw
              have hdw':older'.dropWhile (!·.goexit)=[]:=by
               exact ch_drop hol hdw
              have hs:=s_returnedR (c:=c') (cs:=cs2) hm2 hd' hfn hrun (by rw[hkd,hkn]) hcm' hdw'
              refine⟨ρ,_,_,_,w,hK,.one hs,⟨h.heap,⟨hcr.fn,hcr.kind,hcr.rnd,.ret,hcr.defers,fun e=>(by cases e),fun _=>hcr.off (by rw[hcm];simp)⟩,fun i b hb=>?_,by show c.nb≤st.nx;omega,hcc⟩,Below.refl _ _,Grow.refl _ _⟩
              have:=hal i b hb;show c.nb≤b∧b < st.nx;omega
             ·cases hK
        ·cases hK
        ·rename_i hnr hnrun
         have hcx:∀x g l,c'.mode≠.panicking ({v:=x,recovered:=true,goexit:=g } :: l):=fun x g l e=>by
          generalize hcm:c.mode=m at hcmo
          rw[e] at hcmo
          cases hcmo with
          | pan hch =>
            cases hch with
            | cons hx hol=>exact hnr _ _ _ hcm
         have hs:=s_returnedD (c:=c') (cs:=cs2) hm2 hd' hfn hrun (by rw[hkd,hkn]) hcx
         refine⟨ρ,_,_,_,w,hK,.one hs,⟨h.heap,hcr,fun i b hb=>?_,by show c.nb≤st.nx;omega,hcc⟩,Below.refl _ _,Grow.refl _ _⟩
         have:=hal i b hb;show c.nb≤b∧b < st.nx;omega
       ·cases hK
theorem stepC_to (hmix:P.follows .mixedOrders=true) (hsub:SubOk P G n0 sub) (hov:OvOk P OV) (h:Rel P G n0 base lo ρ st fr' cs' w) (hK:stepC P G FJ OV sub st K=some out):StepTo P G n0 base lo ρ st.fr.nb fr' cs' w K out:=by
 unfold stepC at hK
 split at hK
 ·rename_i hm;exact execC_to hmix hsub hov h hm hK
 ·rename_i hm;exact unwindC_to h (fun e=>hm e) hK
end
section
variable {P:Program} {G n0:Nat} {FJ:FuncId→Option Nat} {OV:FuncId→Option TypeId}
theorem doneC_spec {base:List Frame} {lo:Nat} {ρ:Ren} {st:St} {fr':Frame} {cs':List Frame} {w:World} (h:Rel P G n0 base lo ρ st fr' cs' w) {v:Value} (hd:doneC P st=some v) :
 ∃v',cs'=base∧fr'.leaving P w (.returned v')∧VRel ρ v v'∧fr'.fn=st.fr.fn:=by
 unfold doneC at hd
 split at hd
 ·rename_i hcs hm hds hk
  obtain⟨fn,v',hfn,hrun,hvv⟩:=resultC_run h.heap h.fr (by rw[hm];simp) hd
  have hcsr:=h.cs
  rw[hcs] at hcsr
  cases hcsr
  have hmo:=h.fr.mode
  rw[hm] at hmo
  have hdd:=h.fr.defers
  rw[hds] at hdd
  refine⟨v',rfl,⟨?_,?_,by rw[h.fr.kind,hk],fn,hfn,hrun⟩,hvv,h.fr.fn⟩
  ·generalize fr'.mode=m at hmo ⊢;cases hmo;rfl
  ·generalize fr'.defers=m at hdd ⊢;cases hdd;rfl
 ·cases hd
variable {KN:Fr→Tr CObj→Bool}
def KnOk (P:Program) (G n0:Nat) (KN:Fr→Tr CObj→Bool):Prop:=
 ∀(f:FuncId) (args:List Value) (args':Array Value) (fr:Fr) (H:Tr CObj) (nx:Nat) (ρ:Ren) (w:World),enterC P f args .normal nx=some fr→LR ρ args args'.toList→HRel P G n0 ρ H nx w→KN fr H=true→
  Calls P f args' w fun e w'=>e= .returned (.bool true)∧Below w.heap.size w w'
theorem HRel.of_below {ρ:Ren} {H:Tr CObj} {nx:Nat} {w w':World} (hH:HRel P G n0 ρ H nx w) (hb:Below w.heap.size w w'):HRel P G n0 ρ H nx w':=by
 refine⟨fun b o p ho hp=>?_,hH.inj,fun b p hp=>?_,hH.glob,hH.low,Nat.le_trans hH.big hb.size⟩
 ·obtain⟨ro,h1,h2⟩:=hH.obj b o p ho hp
  exact⟨ro,by rw[hb.block _ (hH.dom b p hp).2.1];exact h1,h2⟩
 ·have:=hH.dom b p hp
  exact⟨this.1,Nat.lt_of_lt_of_le this.2.1 hb.size,this.2.2⟩
theorem runC_ok (hmix:P.follows .mixedOrders=true) (hov:OvOk P OV) (hkn:KnOk P G n0 KN):∀(n:Nat) (base:List Frame) (lo:Nat) (ρ:Ren) (st:St) (fr':Frame) (cs':List Frame) (w:World) (outs:List Out),
 Rel P G n0 base lo ρ st fr' cs' w→runC P G FJ OV KN n st=some outs→
 ∃o∈outs,∃ρ2 v' fr2 w2,Steps P (lone fr' cs' w) (lone fr2 base w2)∧fr2.leaving P w2 (.returned v')∧VRel ρ2 o.v v'∧HRel P G n0 ρ2 o.H o.nx w2∧lo≤o.nx∧Below n0 w w2∧Grow ρ ρ2 lo∧fr2.fn=o.fn:=by
 intro n
 induction n with
 | zero=>intro base lo ρ st fr' cs' w outs _ h;cases h
 | succ n ih =>
   intro base lo ρ st fr' cs' w outs hR h
   unfold runC at h
   split at h
   ·rename_i v hd
    injection h with h;subst h
    obtain⟨v',rfl,h2,h3,h4⟩:=doneC_spec hR hd
    refine⟨{v,H:=st.H,nx:=st.nx,fn:=st.fr.fn },by simp,ρ,v',fr',w,.refl _ _,h2,h3,hR.heap,?_,Below.refl _ _,Grow.refl _ _,h4⟩
    have:=hR.cs.lo_le
    have:=hR.nb
    show lo≤st.nx;omega
   ·have hsub:SubOk P G n0 (subC KN (runC P G FJ OV KN n)):=by
     intro f args args' fr H nx outs base ρ w hent hargs hH hrun
     unfold subC at hrun
     split at hrun
     ·rename_i hk
      injection hrun with hrun;subst hrun
      obtain⟨e,w2,fr2,⟨rfl,hb⟩,hcm,_,hl⟩:=hkn f args args' fr H nx ρ w hent hargs hH hk base
      exact⟨{v:= .bool true,H,nx },by simp,ρ,.bool true,fr2,w2,hcm,hl,.bool _,hH.of_below hb,Nat.le_refl _,⟨hb.os,hb.tape,hb.output,hb.size,fun k hk=>hb.block k (Nat.lt_of_lt_of_le hk hH.big)⟩,Grow.refl _ _⟩
     ·obtain⟨r1,r2,r3,_,_,_,_,r4⟩:=enter_rel hargs hent
      have hrel:Rel P G n0 base nx ρ ⟨fr,[],H,nx⟩ (Frame.enter P f args' .normal) base w:=
       ⟨hH,r1,fun i b hb=>(by have hb:(i,b)∈alOf fr:=hb;rw[r2] at hb;cases hb),by show fr.nb≤nx;omega,.nil (by show nx≤fr.nb;omega)⟩
      obtain⟨o,ho,ρ2,v',fr2,w2,q1,q2,q3,q4,q5,q6,q7,_⟩:=ih base nx ρ _ _ _ w outs hrel hrun
      exact⟨o,ho,ρ2,v',fr2,w2,q1,q2,q3,q4,q5,q6,q7⟩
    obtain⟨ρ2,st2,fr2,cs2,w2,a,b,c,d,e⟩:=stepC_to hmix hsub hov hR h
    obtain⟨o,ho,ρ3,v',fr3,w3,q1,q2,q3,q4,q5,q6,q7,q8⟩:=ih base lo ρ2 st2 fr2 cs2 w2 outs c a
    refine⟨o,ho,ρ3,v',fr3,w3,b.trans q1,q2,q3,q4,q5,d.trans q6,(e.down ?_).trans q7,q8⟩
    exact hR.cs.lo_le
end
end Go.Proofs.YtiioegopckoldaaGreatDoor.CV
