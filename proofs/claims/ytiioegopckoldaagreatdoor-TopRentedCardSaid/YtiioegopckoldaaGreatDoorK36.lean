/- lemmas for topRented_holds: QDG QDH. No conditions. -/
import Derived.Test.YtiioegopckoldaaGreatDoorK35
set_option linter.unusedVariables false
set_option linter.unusedSimpArgs false
namespace Go.Proofs.YtiioegopckoldaaGreatDoor.CV
open Go Go.RowKit
section
variable {P:Program} {ρ:Ren} {w:World} {G n0 nx:Nat} {H:Tr CObj}
theorem copyK_run {β:Type} (hH:HRel P G n0 ρ H nx w) {ts:Array TypeId} {tt t:TypeId} {d d' x x':Value} {K:Value→Tr CObj→Option β} {out:β} (ht0:ts[0]?=some t)
 (hd:VRel ρ d d') (hx:VRel ρ x x') (h:copyK P G H t d x K=some out) :
 ∃v H' w',K v H'=some out∧VRel ρ v v∧(Builtin.copy_ ts tt #[d',x']).run P w= .ok v w'∧HRel P G n0 ρ H' nx w'∧Below n0 w w':=by
 unfold copyK at h
 split at h
 ·rename_i e base l c xb n xc hdt
  split at h
  ·cases h
  ·rename_i s hs
   have hsz:=run_sizeOf (w:=w) hs
   have a0:(#[d',x']:Array Value)[0]?=some d':=rfl
   have a1:(#[d',x']:Array Value)[1]?=some x':=rfl
   split at h
   ·rename_i cells b o hsrc
    obtain⟨l',hL,hlen,hrun⟩:=srcC_run hH hx hsrc
    cases hd with
    | sl hA hC =>
      cases hA with
      | some hp =>
        obtain⟨H',w',k1,k2,k3,k4⟩:=storeK_run hH hp hL h
        refine⟨_,H',w',k1,.int _ _,?_,k3,k4⟩
        have hr:=hrun w rfl
        cases hx with
        | sl hA2 hC2 =>
          simp only[Builtin.copy_,ht0,a0,a1,Sem.run_bind,Go.Proofs.YtiioegopckoldaaGreatDoor.CV.run_underlying hdt,Result.andThen_ok,hsz,Builtin.lenOf,Sem.run_pure,hr,k2]
   ·rename_i hsrc
    obtain⟨l',hL,hlen,hrun⟩:=srcC_run hH hx hsrc
    cases hd with
    | sl hA hC =>
      cases hA
      refine⟨_,H,w,h,.int _ _,?_,hH,Below.refl _ _⟩
      have hr:=hrun w rfl
      cases hx with
      | sl hA2 hC2 =>
        simp only[Builtin.copy_,ht0,a0,a1,Sem.run_bind,Go.Proofs.YtiioegopckoldaaGreatDoor.CV.run_underlying hdt,Result.andThen_ok,hsz,Builtin.lenOf,Sem.run_pure,hr]
   ·cases h
 ·cases h
theorem clearK_run {β:Type} (hH:HRel P G n0 ρ H nx w) {ts:Array TypeId} {tt t:TypeId} {x x':Value} {K:Tr CObj→Option β} {out:β} (ht0:ts[0]?=some t)
 (hx:VRel ρ x x') (h:clearK P G H t x K=some out) :
 ∃H' w',K H'=some out∧(Builtin.clear_ ts tt #[x']).run P w= .ok (.tuple #[]) w'∧HRel P G n0 ρ H' nx w'∧Below n0 w w':=by
 have a0:(#[x']:Array Value)[0]?=some x':=rfl
 unfold clearK at h
 split at h
 ·rename_i e b o n c hdt
  split at h
  ·rename_i z hz
   obtain⟨z1,z2⟩:=run_zeroValue (w:=w) hz
   cases hx with
   | sl hA hC =>
     cases hA with
     | some hp =>
       obtain⟨H',w',k1,k2,k3,k4⟩:=storeK_run hH hp (replicate_LR z2 (n+1)) h
       refine⟨H',w',k1,?_,k3,k4⟩
       simp only[Builtin.clear_,ht0,a0,Sem.run_bind,Go.Proofs.YtiioegopckoldaaGreatDoor.CV.run_underlying hdt,Result.andThen_ok,z1,Builtin.zeroCells,range_eq,k2,Sem.run_pure]
  ·cases h
 ·rename_i e l c hdt
  cases hx with
  | sl hA hC =>
    cases hA
    exact⟨H,w,h,by simp only[Builtin.clear_,ht0,a0,Sem.run_bind,Go.Proofs.YtiioegopckoldaaGreatDoor.CV.run_underlying hdt,Result.andThen_ok,Sem.run_pure],hH,Below.refl _ _⟩
 ·rename_i e a c hdt
  cases hx with
  | sl hA hC =>
    refine⟨H,w,h,?_,hH,Below.refl _ _⟩
    rename_i a' c'
    cases a' <;> simp only[Builtin.clear_,ht0,a0,Sem.run_bind,Go.Proofs.YtiioegopckoldaaGreatDoor.CV.run_underlying hdt,Result.andThen_ok,Sem.run_pure]
 ·cases h
theorem beq0 (a b:Nat):(Nat.beq a b=true)=(a=b):=by simp
theorem overlaps_eq (t:TypeId) (tr:Array TypeId) (a b:Option Addr) (la ca lb cb:Nat):∃q:Sem Nat,Extern.SlicesOverlaps.overlaps #[t,t] tr #[.slice a la ca,.slice b lb cb]=(do
 let .slice elem ← underlying t | stuck "slices.overlaps: slice type expected"
 let size ←sizeOf elem
 match a,b with
 | some a, some b =>
   if la=0∨lb=0∨size=0 then pure (Value.bool false)
   else if a.block != b.block && (←frozen a) && (←frozen b) then unsupported .addressObserved
   else do
    if a.block != b.block then do
     noView a;noView b
     if ←mayBeOne a b then return Value.bool ((←q) == 1)
    pure (Value.bool (a.block == b.block && a.off < b.off+lb*size && b.off < a.off+la*size))
 | _,_=>pure (Value.bool false)):=⟨_,rfl⟩
theorem overlapC_run {OV:FuncId→Option TypeId} (hH:HRel P G n0 ρ H nx w) {dd:Deferred} {d':Deferred} {v:Value} (hd:DfR ρ dd d') (h:overlapC P OV H dd=some v) :
 VRel ρ v v∧∃f t a b la ca lb cb,OV f=some t∧d'.target= .fn (.func f) #[]∧d'.args= #[.slice a la ca,.slice b lb cb]∧∀tr,(Extern.SlicesOverlaps.overlaps #[t,t] tr d'.args).run P w= .ok v w:=by
 unfold overlapC at h
 split at h
 ·rename_i f a la ca b lb cb htg hargs
  split at h
  ·cases h
  ·rename_i t ht
   split at h
   ·rename_i e hdt
    have hA:=hd.args
    rw[hargs] at hA
    obtain⟨va,m1,e1,hva,hm1⟩:=hA.of_cons
    obtain⟨vb,m2,e2,hvb,hm2⟩:=hm1.of_cons
    have e3:=hm2.of_nil
    subst e3
    subst e2
    have hargs':d'.args= #[va,vb]:=by apply Array.ext';simp[e1]
    have htg':d'.target= .fn (.func f) #[]:=by
     have ht:=hd.target
     rw[htg] at ht
     generalize hx:d'.target=x at ht
     cases ht with
     | fn hf hc =>
       cases hf
       have:=hc.of_nil
       congr 1;exact Array.ext' (by simpa using this)
    split at h
    ·rename_i s x i y j hs
     have hsz:=run_sizeOf (w:=w) hs
     cases hva with
     | sl hA1 hC1 =>
       cases hvb with
       | sl hA2 hC2 =>
         cases hA1 with
         | some hp1 =>
           cases hA2 with
           | some hp2 =>
             rename_i p1 p2
             split at h
             ·rename_i hz
              injection h with h;subst h
              refine⟨.bool _,f,t,_,_,_,_,_,_,ht,htg',hargs',fun tr=>?_⟩
              have hz:la=0∨lb=0∨s=0:=by simpa[or_assoc,beq0] using hz
              obtain⟨qq,hqq⟩:=overlaps_eq t tr _ _ _ _ _ _
              rw[hargs',hqq]
              simp[Go.Proofs.YtiioegopckoldaaGreatDoor.CV.run_underlying hdt,hsz,hz]
             ·rename_i hz
              have hz:¬(la=0∨lb=0∨s=0):=by rw[←Bool.not_eq_true] at hz;simpa[or_assoc,beq0] using hz
              have fr:∀{b:Nat} {p:Plc} {o:Nat} {c n tt},ρ b=some p→H.get b=some (.cells c n tt)→w.frozen? ⟨p.r,o,none⟩=false∧∃k,w.shape? p.r=some k:=by
               intro b p o c n tt hp hg
               obtain⟨p',ro,hp',hro,hor⟩:=hH.objp hp hg
               rw[hp] at hp';injection hp' with hp';subst hp'
               cases hor with
               | cells _ _ _ _ _=>exact⟨by simp[World.frozen?,hro],by simp[World.shape?,hro]⟩
              split at h
              ·rename_i hxy hg1 hg2
               have hxy:x=y:=by simpa using hxy
               subst hxy
               rw[hp1] at hp2;injection hp2 with hp2;subst hp2
               injection h with h;subst h
               refine⟨.bool _,f,t,_,_,_,_,_,_,ht,htg',hargs',fun tr=>?_⟩
               obtain⟨qq,hqq⟩:=overlaps_eq t tr _ _ _ _ _ _
               rw[hargs',hqq]
               simp[Go.Proofs.YtiioegopckoldaaGreatDoor.CV.run_underlying hdt,hsz,hz]
               rw[Bool.eq_iff_iff]
               simp[Nat.blt_eq]
              ·rename_i hxy hg1 hg2
               have hxy:¬x=y:=by intro e;rw[e] at hxy;simp at hxy
               injection h with h;subst h
               have hne:¬p1.r=p2.r:=fun e=>hxy (hH.inj _ _ _ _ _ _ hg1 hg2 hp1 hp2 e)
               refine⟨.bool _,f,t,_,_,_,_,_,_,ht,htg',hargs',fun tr=>?_⟩
               obtain⟨qq,hqq⟩:=overlaps_eq t tr _ _ _ _ _ _
               rw[hargs',hqq]
               obtain⟨f1,k1,s1⟩:=fr (o:=i) hp1 hg1
               obtain⟨f2,k2,s2⟩:=fr (o:=j) hp2 hg2
               have f3:=fun o=>(fr (o:=o) hp1 hg1).1
               have f4:=fun o=>(fr (o:=o) hp2 hg2).1
               have hst1:(stringish ⟨p1.r,i,none⟩).run P w= .ok false w:=by simp[stringish,f3,s1]
               have hst2:(stringish ⟨p2.r,j,none⟩).run P w= .ok false w:=by simp[stringish,f4,s2]
               have hv1:(noView ⟨p1.r,i,none⟩).run P w= .ok () w:=by simp[noView,viewAt,s1]
               have hv2:(noView ⟨p2.r,j,none⟩).run P w= .ok () w:=by simp[noView,viewAt,s2]
               have hone:(mayBeOne ⟨p1.r,i,none⟩ ⟨p2.r,j,none⟩).run P w= .ok false w:=by simp[mayBeOne,hst1,hst2]
               simp[Go.Proofs.YtiioegopckoldaaGreatDoor.CV.run_underlying hdt,hsz,hz,hne,f1,hv1,hv2,hone]
              ·cases h
    ·rename_i s hs
     injection h with h;subst h
     cases hva with
     | sl hA1 hC1 =>
       cases hvb with
       | sl hA2 hC2 =>
         cases hA1
         refine⟨.bool _,f,t,_,_,_,_,_,_,ht,htg',hargs',fun tr=>?_⟩
         obtain⟨qq,hqq⟩:=overlaps_eq t tr _ _ _ _ _ _
         rw[hargs',hqq]
         simp[Go.Proofs.YtiioegopckoldaaGreatDoor.CV.run_underlying hdt,run_sizeOf (w:=w) hs]
    ·rename_i s hs _
     injection h with h;subst h
     cases hva with
     | sl hA1 hC1 =>
       cases hvb with
       | sl hA2 hC2 =>
         cases hA2
         refine⟨.bool _,f,t,_,_,_,_,_,_,ht,htg',hargs',fun tr=>?_⟩
         obtain⟨qq,hqq⟩:=overlaps_eq t tr _ _ _ _ _ _
         rw[hargs',hqq]
         simp[Go.Proofs.YtiioegopckoldaaGreatDoor.CV.run_underlying hdt,run_sizeOf (w:=w) hs]
    ·cases h
   ·cases h
 ·cases h
end
end Go.Proofs.YtiioegopckoldaaGreatDoor.CV
namespace Go.Proofs.YtiioegopckoldaaGreatDoor.CV
open Go Go.RowKit
section steps
variable {P:Program} {fr:Frame} {k:List Item} {cs:List Frame} {w:World}
theorem s_skip (hm:fr.mode= .run) (ht:fr.todo= .code .skip :: k):step P (lone fr cs w)= .next (lone {fr with todo:=k } cs w):=by
 obtain⟨fn,tmps,todo,defers,mode,kind,ro⟩:=fr;simp only at hm ht;subst hm ht;exact step_lone_go (by simp[stepG,stepG.exec])
theorem s_label {l:Nat} (hm:fr.mode= .run) (ht:fr.todo= .code (.label l) :: k):step P (lone fr cs w)= .next (lone {fr with todo:=k } cs w):=by
 obtain⟨fn,tmps,todo,defers,mode,kind,ro⟩:=fr;simp only at hm ht;subst hm ht;exact step_lone_go (by simp[stepG,stepG.exec])
theorem s_inBlock {l:Nat} (hm:fr.mode= .run) (ht:fr.todo= .inBlock l :: k):step P (lone fr cs w)= .next (lone {fr with todo:=k } cs w):=by
 obtain⟨fn,tmps,todo,defers,mode,kind,ro⟩:=fr;simp only at hm ht;subst hm ht;exact step_lone_go (by simp[stepG,stepG.exec])
theorem s_inScope {b:Code} (hm:fr.mode= .run) (ht:fr.todo= .inScope b :: k):step P (lone fr cs w)= .next (lone {fr with todo:=k } cs w):=by
 obtain⟨fn,tmps,todo,defers,mode,kind,ro⟩:=fr;simp only at hm ht;subst hm ht;exact step_lone_go (by simp[stepG,stepG.exec])
theorem s_seq {a b:Code} (hm:fr.mode= .run) (ht:fr.todo= .code (.seq a b) :: k):step P (lone fr cs w)= .next (lone {fr with todo:= .code a :: .code b :: k } cs w):=by
 obtain⟨fn,tmps,todo,defers,mode,kind,ro⟩:=fr;simp only at hm ht;subst hm ht;exact step_lone_go (by simp[stepG,stepG.exec])
theorem s_cond {c:Operand} {a b:Code} {t:Bool} (hm:fr.mode= .run) (ht:fr.todo= .code (.cond c a b) :: k) (hc:fr.eval c= .bool t) :
 step P (lone fr cs w)= .next (lone {fr with todo:= .code (if t then a else b) :: k } cs w):=by
 obtain⟨fn,tmps,todo,defers,mode,kind,ro⟩:=fr;simp only at hm ht;subst hm ht;exact step_lone_go (by simp[stepG,stepG.exec,hc])
theorem s_block {l:Nat} {b:Code} (hm:fr.mode= .run) (ht:fr.todo= .code (.block l b) :: k):step P (lone fr cs w)= .next (lone {fr with todo:= .code b :: .inBlock l :: k } cs w):=by
 obtain⟨fn,tmps,todo,defers,mode,kind,ro⟩:=fr;simp only at hm ht;subst hm ht;exact step_lone_go (by simp[stepG,stepG.exec])
theorem s_loop {b:Code} (hm:fr.mode= .run) (ht:fr.todo= .code (.loop b) :: k):step P (lone fr cs w)= .next (lone {fr with todo:= .code b :: .inLoop b :: k } cs w):=by
 obtain⟨fn,tmps,todo,defers,mode,kind,ro⟩:=fr;simp only at hm ht;subst hm ht;exact step_lone_go (by simp[stepG,stepG.exec])
theorem s_inLoop {b:Code} (hm:fr.mode= .run) (ht:fr.todo= .inLoop b :: k):step P (lone fr cs w)= .next (lone {fr with todo:= .code b :: .inLoop b :: k } cs w):=by
 obtain⟨fn,tmps,todo,defers,mode,kind,ro⟩:=fr;simp only at hm ht;subst hm ht;exact step_lone_go (by simp[stepG,stepG.exec])
theorem s_scope {b:Code} (hm:fr.mode= .run) (ht:fr.todo= .code (.scope b) :: k):step P (lone fr cs w)= .next (lone {fr with todo:= .code b :: .inScope b :: k } cs w):=by
 obtain⟨fn,tmps,todo,defers,mode,kind,ro⟩:=fr;simp only at hm ht;subst hm ht;exact step_lone_go (by simp[stepG,stepG.exec])
theorem s_exit {l:Nat} {k':List Item} (hm:fr.mode= .run) (ht:fr.todo= .code (.exit l) :: k) (hx:exitTo l k=some k'):step P (lone fr cs w)= .next (lone {fr with todo:=k' } cs w):=by
 obtain⟨fn,tmps,todo,defers,mode,kind,ro⟩:=fr;simp only at hm ht;subst hm ht;exact step_lone_go (by simp[stepG,stepG.exec,hx])
theorem s_goto {l:Nat} {k':List Item} (hm:fr.mode= .run) (ht:fr.todo= .code (.goto l) :: k) (hx:gotoIn l k=some k'):step P (lone fr cs w)= .next (lone {fr with todo:=k' } cs w):=by
 obtain⟨fn,tmps,todo,defers,mode,kind,ro⟩:=fr;simp only at hm ht;subst hm ht;exact step_lone_go (by simp[stepG,stepG.exec,hx])
theorem s_region {i:Nat} {ops:Array Oper} (hm:fr.mode= .run) (ht:fr.todo= .code (.region i ops false) :: k):step P (lone fr cs w)= .next (lone {fr with todo:= .inRegion ops (List.range ops.size) :: k } cs w):=by
 obtain⟨fn,tmps,todo,defers,mode,kind,ro⟩:=fr;simp only at hm ht;subst hm ht;exact step_lone_go (by simp[stepG,stepG.exec])
theorem s_region_draw {i:Nat} {ops:Array Oper} (hm:fr.mode= .run) (ht:fr.todo= .code (.region i ops true) :: k) :
 step P (lone fr cs w)= .next (lone {fr with todo:= .inRegion ops (Region.schedule (P.follows .mixedOrders) ops (w.tape w.drawn (.order fr.fn i))) :: k } cs {w with drawn:=w.drawn+1 }):=by
 obtain⟨fn,tmps,todo,defers,mode,kind,ro⟩:=fr;simp only at hm ht;subst hm ht;exact step_lone_go (by simp[stepG,stepG.exec,choose,Sem.run,Question.forced,Question.cut])
theorem s_region_end {ops:Array Oper} (hm:fr.mode= .run) (ht:fr.todo= .inRegion ops [] :: k):step P (lone fr cs w)= .next (lone {fr with todo:=k } cs w):=by
 obtain⟨fn,tmps,todo,defers,mode,kind,ro⟩:=fr;simp only at hm ht;subst hm ht;exact step_lone_go (by simp[stepG,stepG.exec])
theorem s_ret (hm:fr.mode= .run) (ht:fr.todo= .code .ret :: k) (hr:fr.roundOf=none):step P (lone fr cs w)= .next (lone {fr with mode:= .returning } cs w):=by
 obtain⟨fn,tmps,todo,defers,mode,kind,ro⟩:=fr;simp only at hm ht hr;subst hm ht hr;exact step_lone_go (by simp[stepG,stepG.exec])
theorem s_end (hm:fr.mode= .run) (ht:fr.todo=[]) (hr:fr.roundOf=none):step P (lone fr cs w)= .next (lone {fr with mode:= .returning } cs w):=by
 obtain⟨fn,tmps,todo,defers,mode,kind,ro⟩:=fr;simp only at hm ht hr;subst hm ht hr;exact step_lone_go (by simp[stepG,stepG.exec])
variable {ops:Array Oper} {i:Nat} {L:List Nat} {o:Oper}
theorem s_skipOp (hm:fr.mode= .run) (ht:fr.todo= .inRegion ops (i :: L) :: k) (ho:ops[i]?=some o) (hw:Region.wanted o (yielded ops fr.tmps)=false) :
 step P (lone fr cs w)= .next (lone (fr.finish undef) cs w):=by
 obtain⟨fn,tmps,todo,defers,mode,kind,ro⟩:=fr;simp only at hm ht hw;subst hm ht
 exact step_lone_go (by simp[stepG,stepG.exec,ho,hw])
theorem g_op (hm:fr.mode= .run) (ht:fr.todo= .inRegion ops (i :: L) :: k) (ho:ops[i]?=some o) (hw:Region.wanted o (yielded ops fr.tmps)=true) (hd:fr.roundOf=none∨∀c,o.op≠.defer c) :
 stepG P true {frame:=fr,callers:=cs,status:= .running,dying:=none } w=stepG.apply P true fr cs none (execOp fr.eval o) w:=by
 obtain⟨fn,tmps,todo,defers,mode,kind,ro⟩:=fr;simp only at hm ht hw hd;subst hm ht
 simp only[stepG,stepG.exec,stepG.oper,Frame.oper?,ho,hw,Option.map_some,Option.getD_some,if_true]
 cases ro with
 | none=>rfl
 | some l =>
   rcases hd with hd | hd
   ·cases hd
   ·cases hop:o.op <;> first | rfl | exact absurd hop (hd _)
theorem s_value {v:Value} {w':World} (hm:fr.mode= .run) (ht:fr.todo= .inRegion ops (i :: L) :: k) (ho:ops[i]?=some o) (hw:Region.wanted o (yielded ops fr.tmps)=true) (hd:∀c,o.op≠.defer c)
 (hr:(execOp fr.eval o).run P w= .ok (.value v) w'):step P (lone fr cs w)= .next (lone (fr.finish v) cs w'):=
 step_lone_go (by rw[g_op hm ht ho hw (.inr hd)];simp[stepG.apply,Sem.runT_eq,hr])
theorem s_next {w':World} (hm:fr.mode= .run) (ht:fr.todo= .inRegion ops (i :: L) :: k) (ho:ops[i]?=some o) (hw:Region.wanted o (yielded ops fr.tmps)=true) (hd:∀c,o.op≠.defer c)
 (hr:(execOp fr.eval o).run P w= .ok .skip w'):step P (lone fr cs w)= .next (lone (fr.finish undef) cs w'):=
 step_lone_go (by rw[g_op hm ht ho hw (.inr hd)];simp[stepG.apply,Sem.runT_eq,hr])
theorem s_enter {f:FuncId} {args:Array Value} {w':World} (hm:fr.mode= .run) (ht:fr.todo= .inRegion ops (i :: L) :: k) (ho:ops[i]?=some o) (hw:Region.wanted o (yielded ops fr.tmps)=true) (hd:∀c,o.op≠.defer c)
 (hr:(execOp fr.eval o).run P w= .ok (.enter f args) w'):step P (lone fr cs w)= .next (lone (Frame.enter P f args .normal) (fr :: cs) w'):=
 step_lone_go (by rw[g_op hm ht ho hw (.inr hd)];simp[stepG.apply,Sem.runT_eq,hr,ht])
theorem s_round {l:Nat} {f:FuncId} {tmps:Array Value} {assign body:Code} {w':World} (hm:fr.mode= .run) (ht:fr.todo= .inRegion ops (i :: L) :: k) (ho:ops[i]?=some o) (hw:Region.wanted o (yielded ops fr.tmps)=true) (hd:∀c,o.op≠.defer c)
 (hr:(execOp fr.eval o).run P w= .ok (.round l f tmps assign body) w'):step P (lone fr cs w)= .next (lone (Frame.round l f tmps assign body .normal) (fr :: cs) w'):=
 step_lone_go (by rw[g_op hm ht ho hw (.inr hd)];simp[stepG.apply,Sem.runT_eq,hr])
theorem s_defer {d:Deferred} {w':World} (hm:fr.mode= .run) (ht:fr.todo= .inRegion ops (i :: L) :: k) (ho:ops[i]?=some o) (hw:Region.wanted o (yielded ops fr.tmps)=true) (hro:fr.roundOf=none)
 (hr:(execOp fr.eval o).run P w= .ok (.defer d) w'):step P (lone fr cs w)= .next (lone ({fr with defers:=d :: fr.defers }.finish undef) cs w'):=
 step_lone_go (by rw[g_op hm ht ho hw (.inl hro)];simp[stepG.apply,Sem.runT_eq,hr])
theorem s_panic {v:Value} {w':World} (hm:fr.mode= .run) (ht:fr.todo= .inRegion ops (i :: L) :: k) (ho:ops[i]?=some o) (hw:Region.wanted o (yielded ops fr.tmps)=true) (hd:∀c,o.op≠.defer c)
 (hr:(execOp fr.eval o).run P w= .halt (.panic v) w'):step P (lone fr cs w)= .next (lone (fr.raise [{v,recovered:=false }]) cs w'):=
 step_lone_go (by rw[g_op hm ht ho hw (.inr hd)];simp[stepG.apply,Sem.runT_eq,hr])
theorem s_recover {w':World} (hm:fr.mode= .run) (ht:fr.todo= .inRegion ops (i :: L) :: k) (ho:ops[i]?=some o) (hw:Region.wanted o (yielded ops fr.tmps)=true) (hd:∀c,o.op≠.defer c) (hro:fr.roundOf=none)
 (hr:(execOp fr.eval o).run P w= .ok .recover w'):step P (lone fr cs w)= .next (match tryRecover fr cs with
  | some (v,cs)=>lone (fr.finish v) cs w'
  | none=>lone (fr.finish .nilIface) cs w'):=by
 cases htr:tryRecover fr cs with
 | none=>exact step_lone_go (by rw[g_op hm ht ho hw (.inr hd)];simp[stepG.apply,Sem.runT_eq,hr,hro,htr])
 | some x=>exact step_lone_go (by rw[g_op hm ht ho hw (.inr hd)];simp[stepG.apply,Sem.runT_eq,hr,hro,htr])
end steps
end Go.Proofs.YtiioegopckoldaaGreatDoor.CV
