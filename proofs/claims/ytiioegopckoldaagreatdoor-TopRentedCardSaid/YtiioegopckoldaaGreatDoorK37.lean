/- lemmas for topRented_holds: QDI QDJ QDK. No conditions. -/
import Derived.Test.YtiioegopckoldaaGreatDoorK36
set_option linter.unusedVariables false
set_option linter.unusedSimpArgs false
namespace Go.Proofs.YtiioegopckoldaaGreatDoor.CV
open Go Go.RowKit
section steps
variable {P:Program} {fr:Frame} {k:List Item} {cs:List Frame} {w:World}
theorem s_rangeFunc {f:Operand} {params:Array Tmp} {assign body:Code} {l:Nat} {mark:List Deferred} {w1 w2:World} {g:FuncId} {args:Array Value}
 (hm:fr.mode= .run) (ht:fr.todo= .code (.rangeFunc f params assign body) :: k)
 (he:(Instr.enterLoop fr.fn fr.tmps params assign body fr.roundOf).run P w= .ok (l,mark) w1)
 (hi:(do let d ←resolve fr.eval {callee:= .value f,args:=#[.const (.func (.yield l) #[] #[])],argTypes:=#[] } 0;invoke d.target d.args:Sem Next).run P w1= .ok (.enter g args) w2) :
 step P (lone fr cs w)= .next (lone (Frame.enter P g args .normal) ({fr with todo:= .inRangeFunc l :: k,defers:=mark ++ fr.defers } :: cs) w2):=by
 obtain⟨fn,tmps,todo,defers,mode,kind,ro⟩:=fr;simp only at hm ht he hi;subst hm ht
 have hev:({fn,tmps,todo:= .inRangeFunc l :: k,defers:=mark ++ defers,mode:= .run,kind,roundOf:=ro }:Frame).eval=({fn,tmps,todo:= .code (.rangeFunc f params assign body) :: k,defers,mode:= .run,kind,roundOf:=ro }:Frame).eval:=by
  funext x;cases x <;> rfl
 refine step_lone_go ?_
 simp only[stepG,stepG.exec,Sem.runT_eq,he]
 simp only[GStep.bare_after,stepG.apply,Sem.runT_eq,if_true,hev,hi]
 rfl
theorem s_endRange {l:Nat} {jump:Option Code} {w':World} (hm:fr.mode= .run) (ht:fr.todo= .endRangeFunc l :: k) (hr:(Instr.endLoop l).run P w= .ok jump w') :
 step P (lone fr cs w)= .next (lone {fr with todo:=(jump.map Item.code).toList ++ k } cs w'):=by
 obtain⟨fn,tmps,todo,defers,mode,kind,ro⟩:=fr;simp only at hm ht;subst hm ht;exact step_lone_go (by simp[stepG,stepG.exec,Sem.runT_eq,hr])
theorem s_beginRound {l:Nat} {w':World} (hm:fr.mode= .run) (ht:fr.todo= .beginRound :: k) (hro:fr.roundOf=some l) (hr:(Instr.beginRound l).run P w= .ok () w') :
 step P (lone fr cs w)= .next (lone {fr with todo:=k } cs w'):=by
 obtain⟨fn,tmps,todo,defers,mode,kind,ro⟩:=fr;simp only at hm ht hro;subst hm ht hro;exact step_lone_go (by simp[stepG,stepG.exec,stepG.apply,Sem.runT_eq,hr,Result.andThen,Frame.finish])
def leaves (todo:List Item):Option Code→Prop
 | none=>todo=[]
 | some .ret=>∃k,todo= .code .ret :: k
 | some (.exit id)=>∃k,todo= .code (.exit id) :: k∧exitTo id k=none
 | some (.goto l)=>∃k,todo= .code (.goto l) :: k∧gotoIn l k=none
 | _=>False
theorem s_leave {l:Nat} {jump:Option Code} {v:Value} {c:Frame} {w':World} (hm:fr.mode= .run) (ht:leaves fr.todo jump) (hro:fr.roundOf=some l) (hk:fr.kind= .normal) (hr:(Instr.endRound l jump).run P w= .ok v w') :
 step P (lone fr (c :: cs) w)= .next (lone (c.finish v) cs w'):=by
 obtain⟨fn,tmps,todo,defers,mode,kind,ro⟩:=fr;simp only at hm ht hro hk;subst hm hro hk
 unfold leaves at ht
 split at ht
 ·subst ht;exact step_lone_go (by simp[stepG,stepG.exec,Sem.runT_eq,hr,doReturn])
 ·obtain⟨k,rfl⟩:=ht;exact step_lone_go (by simp[stepG,stepG.exec,Sem.runT_eq,hr,doReturn])
 ·obtain⟨k,rfl,hx⟩:=ht;exact step_lone_go (by simp[stepG,stepG.exec,Sem.runT_eq,hr,doReturn,hx])
 ·obtain⟨k,rfl,hx⟩:=ht;exact step_lone_go (by simp[stepG,stepG.exec,Sem.runT_eq,hr,doReturn,hx])
 ·exact ht.elim
theorem notRun {m:FrameMode} (h:m≠.run):m= .returning∨∃c,m= .panicking c:=by cases m with | run=>exact absurd rfl h | returning=>exact .inl rfl | panicking c=>exact .inr ⟨c,rfl⟩
theorem g_unwind (hm:fr.mode≠.run):stepG P true {frame:=fr,callers:=cs,status:= .running,dying:=none } w=unwind P true fr cs none w:=by
 obtain⟨fn,tmps,todo,defers,mode,kind,ro⟩:=fr;simp only at hm
 rcases notRun hm with rfl | ⟨c,rfl⟩ <;> simp[stepG]
theorem s_collected {b:Nat} {args:Array Value} {ds calls:List Deferred} {w':World} (hm:fr.mode≠.run) (hd:fr.defers={target:= .collected b,args } :: ds) (hr:(Instr.takeDeferred b).run P w= .ok calls w') :
 step P (lone fr cs w)= .next (lone {fr with defers:=calls ++ ds } cs w'):=
 step_lone_go (by rw[g_unwind hm];simp[unwind,hd,Sem.runT_eq,hr])
theorem s_deferred {f g:FuncId} {cap args:Array Value} {dargs:Array Value} {ds:List Deferred} {w':World} (hm:fr.mode≠.run) (hd:fr.defers={target:= .fn (.func f) cap,args:=dargs } :: ds)
 (hr:(invoke (.fn (.func f) cap) dargs).run P w= .ok (.enter g args) w') :
 step P (lone fr cs w)= .next (lone (Frame.enter P g args .deferred) ({fr with defers:=ds } :: cs) w'):=
 step_lone_go (by rw[g_unwind hm];simp[unwind,hd,callDeferred,Sem.runT_eq,hr])
theorem s_raise {c:Frame} {chain:List PanicEntry} {fn:Func} (hm:fr.mode= .panicking chain) (hd:fr.defers=[]) (hf:P.funcs[fr.fn]?=some fn) :
 step P (lone fr (c :: cs) w)= .next (lone (c.raise chain) cs w):=
 step_lone_go (by rw[g_unwind (by rw[hm];simp)];simp[unwind,hd,hm,Frame.catches,hf])
theorem s_returned {c:Frame} {fn:Func} {v:Value} (hm:fr.mode= .returning) (hd:fr.defers=[]) (hf:P.funcs[fr.fn]?=some fn) (hr:(results fn fr.tmps).run P w= .ok v w) (hk:fr.kind= .normal) :
 step P (lone fr (c :: cs) w)= .next (lone (c.finish v) cs w):=
 step_lone_go (by rw[g_unwind (by rw[hm];simp)];simp[unwind,hd,hm,hf,Sem.runT_eq,hr,doReturn,hk])
theorem s_returnedD {c:Frame} {fn:Func} {v:Value} (hm:fr.mode= .returning) (hd:fr.defers=[]) (hf:P.funcs[fr.fn]?=some fn) (hr:(results fn fr.tmps).run P w= .ok v w) (hk:fr.kind= .deferred)
 (hc:∀x g l,c.mode≠.panicking ({v:=x,recovered:=true,goexit:=g } :: l)) :
 step P (lone fr (c :: cs) w)= .next (lone c cs w):=
 step_lone_go (by
  rw[g_unwind (by rw[hm];simp)]
  simp only[unwind,hd,hm,hf,Sem.runT_eq,hr,doReturn,hk]
  cases hcm:c.mode with
  | run=>rfl
  | returning=>rfl
  | panicking l =>
    cases l with
    | nil=>rfl
    | cons e l =>
      obtain⟨x,r,g⟩:=e
      cases r with
      | false=>rfl
      | true=>exact absurd hcm (hc x g l))
theorem s_returnedR {c:Frame} {fn:Func} {v x:Value} {g:Bool} {l:List PanicEntry} (hm:fr.mode= .returning) (hd:fr.defers=[]) (hf:P.funcs[fr.fn]?=some fn) (hr:(results fn fr.tmps).run P w= .ok v w) (hk:fr.kind= .deferred)
 (hc:c.mode= .panicking ({v:=x,recovered:=true,goexit:=g } :: l)) (hl:l.dropWhile (!·.goexit)=[]) :
 step P (lone fr (c :: cs) w)= .next (lone {c with mode:= .returning } cs w):=
 step_lone_go (by
  rw[g_unwind (by rw[hm];simp)]
  simp only[unwind,hd,hm,hf,Sem.runT_eq,hr,doReturn,hk,hc,hl]
  rfl)
end steps
inductive ChR (ρ:Ren):List PanicEntry→List PanicEntry→Prop
 | nil:ChR ρ [] []
 | cons {v v' r g l l'} (h:VRel ρ v v') (k:ChR ρ l l'):ChR ρ ({v,recovered:=r,goexit:=g } :: l) ({v:=v',recovered:=r,goexit:=g } :: l')
inductive MoR (ρ:Ren):FrameMode→FrameMode→Prop
 | run:MoR ρ .run .run
 | ret:MoR ρ .returning .returning
 | pan {l l'} (h:ChR ρ l l'):MoR ρ (.panicking l) (.panicking l')
def plainItem:Item→Bool
 | .code _ | .inBlock _ | .inLoop _ | .inScope _ | .beginRound=>true
 | _=>false
inductive KR (ρ:Ren):List CI→List Item→Prop
 | nil:KR ρ [] []
 | it {x k k'} (hx:plainItem x=true) (h:KR ρ k k'):KR ρ (.it x :: k) (x :: k')
 | rf {l p k k'} (hp:ρ l=some p) (h:KR ρ k k'):KR ρ (.it (.inRangeFunc l) :: k) (.inRangeFunc p.r :: k')
 | erf {l p k k'} (hp:ρ l=some p) (h:KR ρ k k'):KR ρ (.it (.endRangeFunc l) :: k) (.endRangeFunc p.r :: k')
 | ops {ops pre rest L k k'} (he:ops.toList=pre ++ rest) (hL:L=List.range' pre.length rest.length) (h:KR ρ k k'):KR ρ (.ops ops rest :: k) (.inRegion ops L :: k')
structure Sch (ops:Array Oper) (L:List Nat):Prop where
 nodup:L.Nodup
 lt:∀i∈L,i < ops.size
 ord:∀L1 i L2,L=L1 ++ i :: L2→∀o,ops[i]?=some o→∀d∈depsOf o,d∉i :: L2
 down:∀i,i < ops.size→i∉L→∀o,ops[i]?=some o→∀d∈depsOf o,d∉L
theorem Sch.tail {ops:Array Oper} {i:Nat} {L:List Nat} (h:Sch ops (i :: L)):Sch ops L where
 nodup:=(List.nodup_cons.1 h.nodup).2
 lt:=fun j hj=>h.lt j (by simp[hj])
 ord:=fun L1 j L2 e o ho d hd=>h.ord (i :: L1) j L2 (by rw[e];rfl) o ho d hd
 down:=fun j hj hjL o ho d hd hdL=>by
  by_cases e:j=i
  ·subst e;exact h.ord [] j L rfl o ho d hd (by simp[hdL])
  ·exact h.down j hj (by simp[e,hjL]) o ho d hd (by simp[hdL])
structure DrI (ops:Array Oper) (L:List Nat) (ph:Ph) (phs:List Ph) (hp:Option Nat):Prop where
 names:namesOk ops (masksOf ops.toList [])=true
 low:depsLow ops=true
 st:∃pm,phsOk ops (masksOf ops.toList []) pm hp (ph :: phs)=true
 sch:Sch ops L
 sub:∀i,i < ops.size→i∉L→ph.cm.testBit i=true
 hvy:∀i,i < ops.size→lightAt ops i=false→(i∈L↔ph.cm.testBit i=false)
 hpd:∀h,hp=some h→h∉L∧h < ops.size
def pendOf (ops:Array Oper) (L:List Nat) (t:Nat):Prop:=∃i∈L,lightAt ops i=true∧(ops[i]?).bind (·.dst)=some t
structure AlR (ρ:Ren) (al:List (Nat×Nat)) (L:List Nat):Prop where
 un:∀i b,(i,b)∈al→i∈L→ρ b=none
 nodup:(al.map (·.2)).Nodup
inductive TodoR (ρ:Ren):List CI→List Item→(Nat→Prop)→Prop
 | plain {k k'} (h:KR ρ k k'):TodoR ρ k k' (fun _=>False)
 | dr {ops ls ph phs hp al k L k'} (hI:DrI ops L ph phs hp) (hls:∀i∈ls,i∈L∧lightAt ops i=true) (hal:AlR ρ al L) (h:KR ρ k k'):TodoR ρ (.dr ops ls ph phs hp al :: k) (.inRegion ops L :: k') (pendOf ops L)
 | drh {ops ph phs hp al k i L k'} (hI:DrI ops (i :: L) ph phs hp) (hi:ph.h=some i) (hal:AlR ρ al (i :: L)) (h:KR ρ k k'):TodoR ρ (.drh ops ph phs hp al :: k) (.inRegion ops (i :: L) :: k') (pendOf ops (i :: L))
structure FRel (ρ:Ren) (fr:Fr) (fr':Frame):Prop where
 fn:fr'.fn=fr.fn
 kind:fr'.kind=fr.kind
 rnd:MR ρ fr.rnd fr'.roundOf
 mode:MoR ρ fr.mode fr'.mode
 defers:DsR ρ fr.defers fr'.defers
 run:fr.mode= .run→∃pend,TodoR ρ fr.todo fr'.todo pend∧TRel ρ fr.tm fr.nt pend fr'.tmps
 off:fr.mode≠.run→TRel ρ fr.tm fr.nt (fun _=>False) fr'.tmps
def alOf (fr:Fr):List (Nat×Nat):=match fr.todo with
 | .dr _ _ _ _ _ al :: _=>al
 | .drh _ _ _ _ al :: _=>al
 | _=>[]
section
variable {ρ ρ':Ren}
theorem ChR.mono (hle:ρ.le ρ') {l l'} (h:ChR ρ l l'):ChR ρ' l l':=by induction h with | nil=>exact .nil | cons h _ ih=>exact .cons (h.mono hle) ih
theorem MoR.mono (hle:ρ.le ρ') {l l'} (h:MoR ρ l l'):MoR ρ' l l':=by cases h with | run=>exact .run | ret=>exact .ret | pan h=>exact .pan (h.mono hle)
theorem KR.mono (hle:ρ.le ρ') {l l'} (h:KR ρ l l'):KR ρ' l l':=by
 induction h with
 | nil=>exact .nil
 | it hx _ ih=>exact .it hx ih
 | rf hp _ ih=>exact .rf (hle _ _ hp) ih
 | erf hp _ ih=>exact .erf (hle _ _ hp) ih
 | ops he hL _ ih=>exact .ops he hL ih
theorem FRel.mono (hle:ρ.le ρ') {fr fr'} (hun:∀i b,(i,b)∈alOf fr→ρ b=none→ρ' b=none) (h:FRel ρ fr fr'):FRel ρ' fr fr' where
 fn:=h.fn
 kind:=h.kind
 rnd:=h.rnd.mono hle
 mode:=h.mode.mono hle
 defers:=h.defers.mono hle
 run:=fun hm=>by
  obtain⟨pend,h1,h2⟩:=h.run hm
  refine⟨pend,?_,h2.mono hle⟩
  unfold alOf at hun
  generalize fr.todo=td at h1 hun ⊢
  generalize fr'.todo=td' at h1 ⊢
  cases h1 with
  | plain h=>exact .plain (h.mono hle)
  | dr hI hls hal h=>exact .dr hI hls ⟨fun i b hb hi=>hun i b hb (hal.un i b hb hi),hal.nodup⟩ (h.mono hle)
  | drh hI hi hal h=>exact .drh hI hi ⟨fun i b hb hi=>hun i b hb (hal.un i b hb hi),hal.nodup⟩ (h.mono hle)
 off:=fun hm=>(h.off hm).mono hle
inductive StkR (ρ:Ren) (base:List Frame) (lo:Nat):Nat→List Fr→List Frame→Prop
 | nil {n} (h:lo≤n):StkR ρ base lo n [] base
 | cons {n c c' cs cs'} (hc:FRel ρ c c') (hal:∀i b,(i,b)∈alOf c→c.nb≤b∧b < n) (hn:c.nb≤n) (h:StkR ρ base lo c.nb cs cs'):StkR ρ base lo n (c :: cs) (c' :: cs')
theorem StkR.mono (hle:ρ.le ρ') {base lo n cs cs'} (hun:∀b,b < n→ρ b=none→ρ' b=none) (h:StkR ρ base lo n cs cs'):StkR ρ' base lo n cs cs':=by
 induction h with
 | nil h=>exact .nil h
 | cons hc hal hn _ ih=>exact .cons (hc.mono hle fun i b hb h=>hun b (hal i b hb).2 h) hal hn (ih fun b hb h=>hun b (by omega) h)
theorem StkR.up {base lo n m cs cs'} (hnm:n≤m) (h:StkR ρ base lo n cs cs'):StkR ρ base lo m cs cs':=by
 cases h with
 | nil h=>exact .nil (by omega)
 | cons hc hal hn h=>exact .cons hc (fun i b hb=>by have:=hal i b hb;omega) (by omega) h
theorem StkR.lo_le {base lo n cs cs'} (h:StkR ρ base lo n cs cs'):lo≤n:=by
 induction h with
 | nil h=>exact h
 | cons hc hal hn _ ih=>omega
end
structure Rel (P:Program) (G n0:Nat) (base:List Frame) (lo:Nat) (ρ:Ren) (st:St) (fr':Frame) (cs':List Frame) (w:World):Prop where
 heap:HRel P G n0 ρ st.H st.nx w
 fr:FRel ρ st.fr fr'
 al:∀i b,(i,b)∈alOf st.fr→st.fr.nb≤b∧b < st.nx
 nb:st.fr.nb≤st.nx
 cs:StkR ρ base lo st.fr.nb st.cs cs'
end Go.Proofs.YtiioegopckoldaaGreatDoor.CV
namespace Go.Proofs.YtiioegopckoldaaGreatDoor.CV
open Go Go.RowKit
theorem masks_prefix:∀(l:List Oper) (acc:List Nat) (j:Nat),j < acc.length→(masksOf l acc).getD j 0=acc.getD j 0:=by
 intro l
 induction l with
 | nil=>intro acc j _;rfl
 | cons o l ih =>
   intro acc j hj
   simp only[masksOf]
   rw[ih _ _ (by simp;omega)]
   simp only[List.getD_eq_getElem?_getD]
   rw[List.getElem?_append_left hj]
theorem masks_at:∀(l:List Oper) (acc:List Nat) (k:Nat) (o:Oper),l[k]?=some o→(∀d∈depsOf o,d < acc.length+k)→
 (masksOf l acc).getD (acc.length+k) 0=(depsOf o).foldl (fun m d=>m ||| (masksOf l acc).getD d 0) (2 ^ (acc.length+k)):=by
 intro l
 induction l with
 | nil=>intro acc k o h;simp at h
 | cons x l ih =>
   intro acc k o h hd
   cases k with
   | zero =>
     simp at h;subst h
     have hp:∀d,d < acc.length→(masksOf (x :: l) acc).getD d 0=acc.getD d 0:=fun d hd=>masks_prefix _ _ _ hd
     have:∀(ds:List Nat) (m:Nat),(∀d∈ds,d < acc.length)→ds.foldl (fun m d=>m ||| (masksOf (x :: l) acc).getD d 0) m=ds.foldl (fun m d=>m ||| acc.getD d 0) m:=by
      intro ds
      induction ds with
      | nil=>intro m _;rfl
      | cons d ds ih=>intro m h;simp only[List.foldl_cons];rw[hp d (h d (by simp)),ih _ fun y hy=>h y (by simp[hy])]
     rw[this _ _ (fun d h=>by have:=hd d h;omega)]
     simp only[masksOf,Nat.add_zero]
     rw[masks_prefix _ _ _ (by simp)]
     simp
   | succ k =>
     have:=ih (acc ++ [(depsOf x).foldl (fun m d=>m ||| acc.getD d 0) (2 ^ acc.length)]) k o (by simpa using h) (fun d h=>by have:=hd d h;simp;omega)
     simp only[List.length_append,List.length_cons,List.length_nil,Nat.zero_add] at this
     rw[show acc.length+(k+1)=acc.length+1+k by omega]
     exact this
theorem fold_bits (f:Nat→Nat) (j:Nat):∀(ds:List Nat) (m:Nat),(ds.foldl (fun m d=>m ||| f d) m).testBit j=true↔m.testBit j=true∨∃d∈ds,(f d).testBit j=true:=by
 intro ds
 induction ds with
 | nil=>intro m;simp
 | cons d ds ih=>intro m;rw[List.foldl_cons,ih];simp[or_assoc]
theorem pow_bit (i j:Nat):(2 ^ i).testBit j=true↔j=i:=by simp[Nat.testBit_two_pow];exact eq_comm
section
variable {ops:Array Oper}
theorem low_spec (h:depsLow ops=true) {i:Nat} {o:Oper} (ho:ops[i]?=some o):∀d∈depsOf o,d < i:=by
 intro d hd
 unfold depsLow at h
 have hi:i < ops.size:=(Array.getElem?_eq_some_iff.1 ho).1
 have:=List.all_eq_true.1 h i (by simp[hi])
 simp only[ho] at this
 have:=List.all_eq_true.1 this d hd
 simpa[Nat.blt_eq] using this
theorem mask_anc (low:depsLow ops=true) (N:Nat→Prop) (down:∀i,i < ops.size→N i→∀o,ops[i]?=some o→∀d∈depsOf o,N d) :
 ∀(i:Nat) (o:Oper),ops[i]?=some o→(∀d∈depsOf o,N d)→∀j,((masksOf ops.toList []).getD i 0).testBit j=true→j=i∨N j:=by
 intro i
 induction i using Nat.strongRecOn with
 | _ i ih =>
   intro o ho hd j hj
   have hlow:=low_spec low ho
   have:=masks_at ops.toList [] i o (by simpa using ho) (by simpa using hlow)
   simp only[List.length_nil,Nat.zero_add] at this
   rw[this,fold_bits,pow_bit] at hj
   rcases hj with hj | ⟨d,hd1,hd2⟩
   ·exact .inl hj
   ·have hdi:=hlow d hd1
    have hds:d < ops.size:=by have:=(Array.getElem?_eq_some_iff.1 ho).1;omega
    have hdo:ops[d]?=some ops[d]:=Array.getElem?_eq_getElem hds
    rcases ih d hdi _ hdo (down d hds (hd d hd1) _ hdo) j hd2 with rfl | h
    ·exact .inr (hd _ hd1)
    ·exact .inr h
theorem names_free (hn:namesOk ops (masksOf ops.toList [])=true) (low:depsLow ops=true) {i:Nat} {L:List Nat} {o:Oper} (hs:Sch ops (i :: L)) (ho:ops[i]?=some o) {t:Nat} (ht:t∈readsOf ops o)
 {j:Nat} (hj:j∈i :: L) (hl:lightAt ops j=true) (hd:(ops[j]?).bind (·.dst)=some t):False:=by
 have hjs:=hs.lt j hj
 have his:=hs.lt i (by simp)
 unfold namesOk at hn
 have h1:=List.all_eq_true.1 hn j (by simp[hjs])
 obtain⟨oj,hoj,hdj⟩:=Option.bind_eq_some_iff.1 hd
 simp only[hl,Bool.not_true,Bool.false_or,hoj,hdj,Bool.and_eq_true] at h1
 by_cases e:j=i
 ·subst e
  rw[ho] at hoj;injection hoj with hoj;subst hoj
  have hc:(readsOf ops o).contains t=true:=by simpa using ht
  rw[hc] at h1;simp at h1
 ·have h2:=List.all_eq_true.1 h1.2 i (by simp[his])
  simp only[ho] at h2
  have hc:(namesOf ops o).contains t=true:=by unfold namesOf;simp[ht]
  have hne:(j == i)=false:=by simpa using e
  rw[hne,hc] at h2
  have hm:((masksOf ops.toList []).getD i 0).testBit j=true:=by simpa using h2
  rcases mask_anc low (fun d=>d∉i :: L) (fun a ha hN o ho d hd=>hs.down a ha hN o ho d hd) i o ho (fun d hd=>hs.ord [] i L rfl o ho d hd) j hm with h | h
  ·exact e h
  ·exact h hj
structure PhS (ops:Array Oper) (pm:Nat) (hp:Option Nat) (ph:Ph):Prop where
 up:∀i,i < ops.size→pm.testBit i=true→ph.cm.testBit i=true
 new:∀i,i < ops.size→ph.cm.testBit i=true→pm.testBit i=true∨lightAt ops i=true
 next:∀i,i < ops.size→ph.cm.testBit i=false→ph.h≠some i→∀o,ops[i]?=some o→∃d∈depsOf o,ph.cm.testBit d=false
 fl:∀i,i < ops.size→ph.cm.testBit i=true→lightAt ops i=true→i∈ph.fl∨∃h,hp=some h∧((masksOf ops.toList []).getD h 0).testBit i=true
 h:∀i,i < ops.size→ph.h=some i→lightAt ops i=false∧ph.cm.testBit i=false
theorem phOk_spec {pm:Nat} {hp:Option Nat} {ph:Ph} (h:phOk ops (masksOf ops.toList []) pm hp ph=true):PhS ops pm hp ph:=by
 unfold phOk at h
 have all:=fun i hi=>List.all_eq_true.1 h i (List.mem_range.2 hi)
 simp only[Bool.and_eq_true,Bool.or_eq_true,Bool.not_eq_true'] at all
 refine⟨fun i hi hb=>?_,fun i hi hb=>?_,fun i hi hb hh o ho=>?_,fun i hi hb hl=>?_,fun i hi hh=>?_⟩
 ·obtain⟨⟨⟨⟨⟨a1,a2⟩,a3⟩,a4⟩,a5⟩,a6⟩:=all i hi
  rcases a1 with a1 | a1
  ·rw[hb] at a1;cases a1
  ·exact a1
 ·obtain⟨⟨⟨⟨⟨a1,a2⟩,a3⟩,a4⟩,a5⟩,a6⟩:=all i hi
  rcases a2 with(a2 | a2) | a2
  ·rw[hb] at a2;cases a2
  ·exact .inl a2
  ·exact .inr a2
 ·obtain⟨⟨⟨⟨⟨a1,a2⟩,a3⟩,a4⟩,a5⟩,a6⟩:=all i hi
  rcases a3 with(a3 | a3) | a3
  ·rw[hb] at a3;cases a3
  ·exact absurd (by simpa using a3) hh
  ·rw[ho] at a3
   obtain⟨d,h1,h2⟩:=List.any_eq_true.1 a3
   exact⟨d,h1,by simpa using h2⟩
 ·obtain⟨⟨⟨⟨⟨a1,a2⟩,a3⟩,a4⟩,a5⟩,a6⟩:=all i hi
  rcases a4 with((a4 | a4) | a4) | a4
  ·rw[hb] at a4;cases a4
  ·rw[hl] at a4;cases a4
  ·exact .inl (by simpa using a4)
  ·cases hp with
   | none=>cases a4
   | some h0=>exact .inr ⟨h0,rfl,a4⟩
 ·obtain⟨⟨⟨⟨⟨a1,a2⟩,a3⟩,a4⟩,a5⟩,a6⟩:=all i hi
  rcases a5 with a5 | a5
  ·rw[hh] at a5;simp at a5
  ·exact a5
theorem phsOk_spec {pm:Nat} {hp:Option Nat} {ph:Ph} {phs:List Ph} (h:phsOk ops (masksOf ops.toList []) pm hp (ph :: phs)=true) :
 PhS ops pm hp ph∧(match ph.h with
  | none=>phs=[]
  | some h=>h < ops.size∧phsOk ops (masksOf ops.toList []) (ph.cm ||| 2 ^ h) (some h) phs=true):=by
 unfold phsOk at h
 simp only[Bool.and_eq_true] at h
 refine⟨phOk_spec h.1.1.1,?_⟩
 have h2:=h.2
 split at h2
 ·rename_i e;rw[e];simpa using h2
 ·rename_i x e
  rw[e]
  simp only[Bool.and_eq_true,Nat.blt_eq] at h2
  exact h2
theorem phsOk_ls {pm:Nat} {hp:Option Nat} {ph:Ph} {phs:List Ph} (h:phsOk ops (masksOf ops.toList []) pm hp (ph :: phs)=true):∀j∈ph.ls,lightAt ops j=true∧pm.testBit j=false:=by
 unfold phsOk at h
 simp only[Bool.and_eq_true] at h
 intro j hj
 have:=List.all_eq_true.1 h.1.2 j hj
 simpa using this
end
end Go.Proofs.YtiioegopckoldaaGreatDoor.CV
namespace Go.Proofs.YtiioegopckoldaaGreatDoor.CV
open Go Go.RowKit
section
variable {P:Program} {G n0 nx:Nat} {ρ ρ':Ren} {H:Tr CObj} {w:World}
theorem ev_rel (hH:HRel P G n0 ρ H nx w) {tm:Tr Value} {nt:Nat} {pend:Nat→Prop} {fr':Frame} (ht:TRel ρ tm nt pend fr'.tmps) {x:Operand} {v:Value} (hx:∀t,x= .tmp t→¬pend t) (h:ev G tm x=some v) :
 VRel ρ v (fr'.eval x):=by
 cases x with
 | tmp t =>
   obtain⟨v',h1,h2⟩:=(ht.2 t v h).2 (hx t rfl)
   simpa[Frame.eval,h1] using h2
 | const c =>
   simp only[ev] at h
   split at h
   ·injection h with h;subst h;exact okV_refl _ _ (by assumption)
   ·cases h
 | global g =>
   simp only[ev] at h
   split at h
   ·rename_i hg
    injection h with h;subst h
    obtain⟨p,h1,h2⟩:=hH.glob g hg
    have:VRel ρ (.pointer (some ⟨g,0,none⟩)) (.pointer (some ⟨p.r,0,none⟩)):= .ptr (.some h1)
    rw[h2] at this;exact this
   ·cases h
 | func f =>
   simp only[ev] at h
   injection h with h;subst h
   exact .func (.func f) rfl (fun i x y h=>by simp at h) rfl (fun i x y h=>by simp at h)
theorem guard_rel {ops:Array Oper} {tm:Tr Value} {nt:Nat} {pend:Nat→Prop} {tmr:Array Value} (ht:TRel ρ tm nt pend tmr) {o:Oper} {b:Bool}
 (hx:∀j want d,o.guard=some (j,want)→(ops[j]?).bind (·.dst)=some d→¬pend d) (h:guardC ops tm o=some b):Region.wanted o (yielded ops tmr)=b:=by
 unfold guardC at h
 unfold Region.wanted
 split at h
 ·rename_i hg;rw[hg];injection h with h
 ·rename_i j want hg
  rw[hg]
  simp only[]
  unfold yielded
  split at h
  ·rename_i hj;injection h with h;subst h;simp[hj]
  ·rename_i oj hj
   split at h
   ·rename_i hd;injection h with h;subst h;simp[hj,hd]
   ·rename_i d hd
    have hb:(ops[j]?).bind (·.dst)=some d:=by simp[hj,hd]
    have hp:=hx j want d hg hb
    split at h
    ·cases h
    ·rename_i bb hv
     obtain⟨v',h1,h2⟩:=(ht.2 d _ hv).2 hp
     cases h2
     injection h with h;subst h
     simp only[hj,Option.bind_some,hd,h1]
     cases bb <;> cases want <;> rfl
    ·rename_i v hnb hv
     obtain⟨v',h1,h2⟩:=(ht.2 d _ hv).2 hp
     injection h with h;subst h
     simp only[hj,Option.bind_some,hd,h1]
     cases h2 <;> first | rfl | exact absurd rfl (hnb _)
def putA (tmr:Array Value) (dst:Option Tmp) (v:Value):Array Value:=match dst with
 | none=>tmr
 | some d=>tmr.setIfInBounds d v
theorem put_rel {β:Type} {fr:Fr} {dst:Option Tmp} {v v':Value} {K:Fr→Option β} {out:β} {pend:Nat→Prop} {tmr:Array Value} (ht:TRel ρ fr.tm fr.nt pend tmr) (hv:VRel ρ v v') (h:putK fr dst v K=some out) :
 ∃tm,K {fr with tm }=some out∧TRel ρ tm fr.nt pend (putA tmr dst v')∧(∀d,dst=some d→∀u,tm.get d=some u→u=v)∧(∀t,dst≠some t→∀u,tm.get t=some u→fr.tm.get t=some u):=by
 cases dst with
 | none=>exact⟨fr.tm,h,ht,fun d e=>(by cases e),fun t _ u hu=>hu⟩
 | some d =>
   simp only[putK] at h
   split at h
   ·cases h
   ·rename_i hb
    rw[Nat.blt_eq] at hb
    rw[forceQ_id] at h
    obtain⟨tm,e1,g1⟩:=setK_spec DEP fr.tm d v
    rw[e1] at h
    refine⟨tm,h,⟨by simp[ht.1,putA],fun t u hu=>?_⟩,fun d' e u hu=>?_,fun t e u hu=>?_⟩
    ·by_cases e:t=d
     ·subst e;rw[(g1 t u hu).1 rfl];exact⟨hb,fun _=>⟨v',by simp[ht.1,hb,putA],hv⟩⟩
     ·obtain⟨hlt,hh⟩:=ht.2 t u ((g1 t u hu).2 e)
      refine⟨hlt,fun hp=>?_⟩
      obtain⟨u',h1,h2⟩:=hh hp
      exact⟨u',by simp[putA,Array.getElem?_setIfInBounds,Ne.symm e,h1],h2⟩
    ·injection e with e;subst e;exact(g1 _ u hu).1 rfl
    ·exact(g1 t u hu).2 fun e'=>e (by rw[e'])
theorem finish_op {fr':Frame} {ops:Array Oper} {i:Nat} {L:List Nat} {k':List Item} {o:Oper} (ht:fr'.todo= .inRegion ops (i :: L) :: k') (ho:ops[i]?=some o) (v:Value) :
 fr'.finish v={fr' with tmps:=putA fr'.tmps o.dst v,todo:= .inRegion ops L :: k' }:=by
 obtain⟨fn,tmps,todo,defers,mode,kind,ro⟩:=fr'
 simp only at ht;subst ht
 cases hd:o.dst <;> simp[Frame.finish,ho,hd,putA]
structure OpAt (G:Nat) (ρ:Ren) (fr:Fr) (fr':Frame) (ops:Array Oper) (i:Nat) (L:List Nat) (k':List Item) (o:Oper) (pend:Nat→Prop):Prop where
 mode:fr.mode= .run
 real:fr'.mode= .run
 todo:fr'.todo= .inRegion ops (i :: L) :: k'
 op:ops[i]?=some o
 tm:TRel ρ fr.tm fr.nt pend fr'.tmps
 free:∀t∈readsOf ops o,¬pend t
theorem OpAt.eval (hH:HRel P G n0 ρ H nx w) {fr:Fr} {fr':Frame} {ops:Array Oper} {i:Nat} {L:List Nat} {k':List Item} {o:Oper} {pend:Nat→Prop} (h:OpAt G ρ fr fr' ops i L k' o pend) :
 ∀x∈o.op.operands.toList,∀v,ev G fr.tm x=some v→VRel ρ v (fr'.eval x):=fun x hx v hv=>
 ev_rel hH h.tm (fun t e=>h.free t (by
  subst e
  unfold readsOf
  refine List.mem_append_left _ (List.mem_filterMap.2 ⟨_,hx,rfl⟩))) hv
theorem OpAt.guard {fr:Fr} {fr':Frame} {ops:Array Oper} {i:Nat} {L:List Nat} {k':List Item} {o:Oper} {pend:Nat→Prop} (h:OpAt G ρ fr fr' ops i L k' o pend) {b:Bool} (hb:guardC ops fr.tm o=some b) :
 Region.wanted o (yielded ops fr'.tmps)=b:=
 guard_rel h.tm (fun j want d hg hd=>h.free d (by
  unfold readsOf
  refine List.mem_append_right _ ?_
  rw[hg]
  simpa using hd)) hb
theorem KR_ops_at {ops:Array Oper} {o:Oper} {rest:List Oper} {k:List CI} {td:List Item} (h:KR ρ (.ops ops (o :: rest) :: k) td) :
 ∃i L k',td= .inRegion ops (i :: L) :: k'∧ops[i]?=some o∧KR ρ k k'∧∀ρ2:Ren,ρ.le ρ2→KR ρ2 (.ops ops rest :: k) (.inRegion ops L :: k'):=by
 cases h with
 | ops he hL h =>
   rename_i pre L k'
   subst hL
   refine⟨pre.length,List.range' (pre.length+1) rest.length,k',by simp[List.range'],?_,h,fun ρ2 hle=> .ops (pre:=pre ++ [o]) (by simp[he]) (by simp) (h.mono hle)⟩
   have:ops.toList[pre.length]?=some o:=by rw[he];simp
   simpa using this
theorem pendOf_tail {ops:Array Oper} {i:Nat} {L:List Nat} (hi:lightAt ops i=false) (t:Nat):pendOf ops (i :: L) t↔pendOf ops L t:=by
 unfold pendOf
 constructor
 ·rintro⟨j,hj,h1,h2⟩
  rcases List.mem_cons.1 hj with e | hj
  ·subst e;rw[hi] at h1;cases h1
  ·exact⟨j,hj,h1,h2⟩
 ·rintro⟨j,hj,h⟩;exact⟨j,by simp[hj],h⟩
theorem DrI.next {ops:Array Oper} {i:Nat} {L:List Nat} {ph p:Ph} {phs:List Ph} {hp:Option Nat} (h:DrI ops (i :: L) ph (p :: phs) hp) (hi:ph.h=some i):DrI ops L p phs (some i):=by
 obtain⟨pm,hst⟩:=h.st
 obtain⟨s1,s2⟩:=phsOk_spec hst
 rw[hi] at s2
 obtain⟨his,s2⟩:=s2
 obtain⟨t1,_⟩:=phsOk_spec s2
 have hnd:=List.nodup_cons.1 h.sch.nodup
 have bit:∀j,(ph.cm ||| 2 ^ i).testBit j=true↔ph.cm.testBit j=true∨j=i:=fun j=>by rw[Nat.testBit_or,Bool.or_eq_true,pow_bit]
 refine⟨h.names,h.low,⟨_,s2⟩,h.sch.tail,fun j hj hjL=>t1.up j hj ((bit j).2 ?_),fun j hj hl=>?_,fun x e=>by injection e with e;subst e;exact⟨hnd.1,his⟩⟩
 ·by_cases e:j=i
  ·exact .inr e
  ·exact .inl (h.sub j hj (by simp[e,hjL]))
 ·have h1:=h.hvy j hj hl
  constructor
  ·intro hjL
   have hne:j≠i:=fun e=>hnd.1 (e ▸ hjL)
   have hcm:=h1.1 (by simp[hjL])
   cases hb:p.cm.testBit j with
   | false=>rfl
   | true =>
     rcases t1.new j hj hb with h | h
     ·rcases(bit j).1 h with h | h
      ·rw[hcm] at h;cases h
      ·exact absurd h hne
     ·rw[hl] at h;cases h
  ·intro hb
   have hcm:ph.cm.testBit j=false∧j≠i:=by
    constructor
    ·cases hc:ph.cm.testBit j with
     | false=>rfl
     | true=>rw[t1.up j hj ((bit j).2 (.inl hc))] at hb;cases hb
    ·intro e;rw[t1.up j hj ((bit j).2 (.inr e))] at hb;cases hb
   have:=h1.2 hcm.1
   rcases List.mem_cons.1 this with e | h
   ·exact absurd e hcm.2
   ·exact h
theorem DrI.next_ls {ops:Array Oper} {i:Nat} {L:List Nat} {ph p:Ph} {phs:List Ph} {hp:Option Nat} (h:DrI ops (i :: L) ph (p :: phs) hp) (hi:ph.h=some i):∀j∈p.ls,j∈L∧lightAt ops j=true:=by
 obtain⟨pm,hst⟩:=h.st
 obtain⟨s1,s2⟩:=phsOk_spec hst
 rw[hi] at s2
 obtain⟨his,s2⟩:=s2
 intro j hj
 obtain⟨hl,hb⟩:=phsOk_ls s2 j hj
 have hjs:j < ops.size:=by
  unfold lightAt at hl
  split at hl
  ·rename_i o ho;exact(Array.getElem?_eq_some_iff.1 ho).1
  ·cases hl
 rw[Nat.testBit_or,Bool.or_eq_false_iff] at hb
 have hne:j≠i:=fun e=>by
  have:=(pow_bit i j).2 e
  rw[this] at hb;cases hb.2
 refine⟨?_,hl⟩
 by_cases hm:j∈i :: L
 ·rcases List.mem_cons.1 hm with e | hm
  ·exact absurd e hne
  ·exact hm
 ·rw[h.sub j hjs hm] at hb;cases hb.1
theorem finish_rel {β:Type} {fr:Fr} {fr':Frame} (hfr:FRel ρ fr fr') (hm:fr.mode= .run) (hle:ρ.le ρ') (hun:∀i b,(i,b)∈alOf fr→ρ b=none→ρ' b=none) {v v':Value} (hv:VRel ρ' v v') {K:Fr→Option β} {out:β}
 (h:finishC fr v K=some out):∃fr2,K fr2=some out∧FRel ρ' fr2 (fr'.finish v')∧(alOf fr2=alOf fr∨alOf fr2=[])∧fr2.nb=fr.nb:=by
 obtain⟨h1,h2,h3,h4,h5,h6,h7⟩:=hfr
 obtain⟨pend,hT,htm⟩:=h6 hm
 unfold finishC at h
 split at h
 ·rename_i ops o rest k htd
  rw[htd] at hT
  generalize htd':fr'.todo=td' at hT
  cases hT with
  | plain hk =>
    obtain⟨i,L,k',rfl,ho,hkk,hnext⟩:=KR_ops_at hk
    obtain⟨tm,k1,k2,_,_⟩:=put_rel (fr:={fr with todo:= .ops ops rest :: k }) (htm.mono hle) hv h
    refine⟨_,k1,?_,.inr rfl,rfl⟩
    rw[finish_op htd' ho]
    exact⟨h1,h2,h3.mono hle,h4.mono hle,h5.mono hle,fun _=>⟨_,.plain (hnext ρ' hle),k2⟩,fun hne=>absurd hm hne⟩
 ·rename_i ops ph p phs hp al k htd
  rw[htd] at hT
  generalize htd':fr'.todo=td' at hT
  cases hT with
  | plain hk=>cases hk
  | drh hI hi hal hk =>
    rename_i i L k'
    rw[hi] at h
    simp only[] at h
    split at h
    ·rename_i o ho
     obtain⟨tm,k1,k2,_,_⟩:=put_rel (fr:={fr with todo:= .dr ops p.ls p phs (some i) al :: k }) (htm.mono hle) hv h
     refine⟨_,k1,?_,.inl (by simp[alOf,htd]),rfl⟩
     rw[finish_op htd' ho]
     have hil:lightAt ops i=false:=by
      obtain⟨pm,hst⟩:=hI.st
      exact((phsOk_spec hst).1.h i (hI.sch.lt i (by simp)) hi).1
     have hal':∀i b,(i,b)∈al→ρ b=none→ρ' b=none:=fun i b hb=>hun i b (by simp only[alOf,htd];exact hb)
     refine⟨h1,h2,h3.mono hle,h4.mono hle,h5.mono hle,fun _=>⟨_,.dr (hI.next hi) (hI.next_ls hi) ⟨fun j b hb hj=>hal' j b hb (hal.un j b hb (by simp[hj])),hal.nodup⟩ (hk.mono hle),⟨k2.1,fun t u hu=>⟨(k2.2 t u hu).1,fun hp=>(k2.2 t u hu).2 fun hq=>hp ((pendOf_tail hil t).1 hq)⟩⟩⟩,fun hne=>absurd hm hne⟩
    ·cases h
 ·rename_i l k htd
  rw[htd] at hT
  generalize htd':fr'.todo=td' at hT
  cases hT with
  | plain hk =>
    cases hk with
    | it hx=>simp[plainItem] at hx
    | rf hp hk =>
      refine⟨_,h,?_,.inr rfl,rfl⟩
      simp only[Frame.finish,htd']
      exact⟨h1,h2,h3.mono hle,h4.mono hle,h5.mono hle,fun _=>⟨_,.plain (.erf (hle _ _ hp) (hk.mono hle)),htm.mono hle⟩,fun hne=>absurd hm hne⟩
 ·rename_i k htd
  rw[htd] at hT
  generalize htd':fr'.todo=td' at hT
  cases hT with
  | plain hk =>
    cases hk with
    | it hx hk =>
      rename_i k'
      by_cases hal:alOf {fr with todo:=k }=[]
      ·refine⟨_,h,?_,.inr hal,rfl⟩
       simp only[Frame.finish,htd']
       exact⟨h1,h2,h3.mono hle,h4.mono hle,h5.mono hle,fun _=>⟨_,.plain (hk.mono hle),htm.mono hle⟩,fun hne=>absurd hm hne⟩
      ·exfalso;apply hal
       cases hk <;> rfl
 ·cases h
end
end Go.Proofs.YtiioegopckoldaaGreatDoor.CV
