/- lemmas for topRented_holds: QDD QDE. No conditions. -/
import Derived.Test.YtiioegopckoldaaGreatDoorK33
set_option linter.unusedVariables false
set_option linter.unusedSimpArgs false
namespace Go.Proofs.YtiioegopckoldaaGreatDoor.CV
open Go Go.RowKit
section
variable {P:Program} {ρ:Ren} {w:World} {G n0 nx:Nat} {H:Tr CObj}
theorem assertC_run {x x' v:Value} {xt t:TypeId} {ok:Bool} (hx:VRel ρ x x') (h:assertC P x t ok=some v) :
 ∃v',VRel ρ v v'∧(Instr.typeAssert x' xt t ok).run P w= .ok v' w:=by
 unfold assertC at h
 split at h
 ·cases h
 ·rename_i d hni hd
  cases hx
  split at h
  ·rename_i z hz
   injection h with h;subst h
   obtain⟨z1,z2⟩:=run_zeroValue (w:=w) hz
   refine⟨_,LR.tuple (a':=#[z,.bool false]) (.cons (okV_refl _ _ z2) (.cons (.bool _) (LR.nil ρ))),?_⟩
   cases d <;> simp only[Instr.typeAssert,Sem.run_bind,Go.Proofs.YtiioegopckoldaaGreatDoor.CV.run_underlying hd,Result.andThen_ok] <;> simp[z1]
  ·cases h
 ·rename_i d u y hni hd
  cases hx with
  | iface _ hv =>
    rename_i v'
    have nif:∀m,d≠.interface m:=fun m e=>hni m e
    split at h
    ·rename_i hb
     have hb:u=t:=by simpa using hb
     subst hb
     injection h with h
     refine⟨if ok then .tuple #[v',.bool true] else v',?_,?_⟩
     ·subst h;cases ok
      ·exact hv
      ·exact LR.tuple (.cons hv (.cons (.bool _) (LR.nil ρ)))
     ·cases d <;> first | exact absurd rfl (nif _) | (simp only[Instr.typeAssert,Sem.run_bind,Go.Proofs.YtiioegopckoldaaGreatDoor.CV.run_underlying hd,Result.andThen_ok];cases ok <;> simp)
    ·rename_i hb
     have hb:¬u=t:=by intro e;rw[e] at hb;simp at hb
     split at h
     ·rename_i z hz
      injection h with h;subst h
      obtain⟨z1,z2⟩:=run_zeroValue (w:=w) hz
      refine⟨_,LR.tuple (a':=#[z,.bool false]) (.cons (okV_refl _ _ z2) (.cons (.bool _) (LR.nil ρ))),?_⟩
      cases d <;> first | exact absurd rfl (nif _) | (simp only[Instr.typeAssert,Sem.run_bind,Go.Proofs.YtiioegopckoldaaGreatDoor.CV.run_underlying hd,Result.andThen_ok];simp[z1,hb])
     ·cases h
 ·cases h
theorem lenC_run (hH:HRel P G n0 ρ H nx w) {ts:Array TypeId} {tt:TypeId} {t:TypeId} {x x' v:Value} {args:Array Value} (ht:ts[0]?=some t) (ha:args[0]?=some x') (hx:VRel ρ x x') (h:lenC P H t x=some v) :
 VRel ρ v v∧(Builtin.len_ ts tt args).run P w= .ok v w:=by
 unfold lenC at h
 split at h
 ·rename_i s hd;cases hx;injection h with h;subst h
  exact⟨.int _ _,by simp only[Builtin.len_,ht,ha,Sem.run_bind,Go.Proofs.YtiioegopckoldaaGreatDoor.CV.run_underlying hd,Result.andThen_ok];rfl⟩
 ·rename_i n e hd;injection h with h;subst h
  exact⟨.int _ _,by simp only[Builtin.len_,ht,ha,Sem.run_bind,Go.Proofs.YtiioegopckoldaaGreatDoor.CV.run_underlying hd,Result.andThen_ok];rfl⟩
 ·rename_i e a l c hd;cases hx;injection h with h;subst h
  exact⟨.int _ _,by simp only[Builtin.len_,ht,ha,Sem.run_bind,Go.Proofs.YtiioegopckoldaaGreatDoor.CV.run_underlying hd,Result.andThen_ok];rfl⟩
 ·rename_i hd;cases hx with | map hm=>cases hm;injection h with h;subst h;exact⟨.int _ _,by simp only[Builtin.len_,ht,ha,Sem.run_bind,Go.Proofs.YtiioegopckoldaaGreatDoor.CV.run_underlying hd,Result.andThen_ok];rfl⟩
 ·rename_i kt et r hd
  split at h
  ·rename_i es cl hg
   injection h with h;subst h
   cases hx with
   | map hm =>
     cases hm with
     | some hp =>
       obtain⟨p',ro,hp',hro,hor⟩:=hH.objp hp hg
       rw[hp] at hp';injection hp' with hp';subst hp'
       cases hor with
       | map hms =>
         have:=hms.1
         refine⟨.int _ _,?_⟩
         simp only[Builtin.len_,ht,ha,Sem.run_bind,Go.Proofs.YtiioegopckoldaaGreatDoor.CV.run_underlying hd,Result.andThen_ok,run_getObj_map hro]
         simp[this]
  ·cases h
 ·cases h
theorem capC_run {ts:Array TypeId} {tt:TypeId} {t:TypeId} {x x' v:Value} {args:Array Value} (ht:ts[0]?=some t) (ha:args[0]?=some x') (hx:VRel ρ x x') (h:capC P t x=some v) :
 ∃v',VRel ρ v v'∧(Builtin.cap_ ts tt args).run P w= .ok v' w:=by
 unfold capC at h
 split at h
 ·rename_i e a l c hd
  injection h with h
  cases hx with
  | sl hA hC =>
    rename_i c'
    refine⟨goInt c',?_,?_⟩
    ·subst h
     split
     ·rename_i hb;rw[Nat.blt_eq] at hb
      cases hC with
      | eq _=>exact .int _ _
      | low h=>omega
     ·rename_i hb
      have hb:=blt_false hb
      cases hC with
      | eq h=>exact absurd h hb
      | low _ hl=>exact .cap hl
    ·simp only[Builtin.cap_,ht,ha,Sem.run_bind,Go.Proofs.YtiioegopckoldaaGreatDoor.CV.run_underlying hd,Result.andThen_ok]
     rfl
 ·cases h
theorem LR_int1 {k:IntKind} {n:Int} {l l':List Value} (h:LR ρ (.int k n :: l) l'):∃m,l'= .int k n :: m∧LR ρ l m:=by
 obtain⟨v',m,rfl,hv,hm⟩:=h.of_cons
 cases hv;exact⟨m,rfl,hm⟩
theorem minL_run {k:IntKind}:∀(l m:List Value) (a:Int) (v:Value),LR ρ l m→minL k a l=some v→VRel ρ v v∧(m.foldlM Builtin.min2 (.int k a)).run P w= .ok v w:=by
 intro l
 induction l with
 | nil=>intro m a v hm h;simp[minL] at h;subst h;rw[hm.of_nil];exact⟨.int _ _,rfl⟩
 | cons x l ih =>
   intro m a v hm h
   obtain⟨x',m',rfl,hx,hm'⟩:=hm.of_cons
   unfold minL at h
   split at h
   ·rename_i e;cases e
   ·rename_i k' b l' e
    injection e with e1 e2;subst e1 e2
    cases hx
    obtain⟨r1,r2⟩:=ih m' _ v hm' h
    refine⟨r1,?_⟩
    simp only[List.foldlM_cons,Sem.run_bind,Builtin.min2,Sem.run_pure,Result.andThen_ok]
    rw[ltI_spec] at r2
    simpa using r2
   ·cases h
theorem maxL_run {k:IntKind}:∀(l m:List Value) (a:Int) (v:Value),LR ρ l m→maxL k a l=some v→VRel ρ v v∧(m.foldlM Builtin.max2 (.int k a)).run P w= .ok v w:=by
 intro l
 induction l with
 | nil=>intro m a v hm h;simp[maxL] at h;subst h;rw[hm.of_nil];exact⟨.int _ _,rfl⟩
 | cons x l ih =>
   intro m a v hm h
   obtain⟨x',m',rfl,hx,hm'⟩:=hm.of_cons
   unfold maxL at h
   split at h
   ·rename_i e;cases e
   ·rename_i k' b l' e
    injection e with e1 e2;subst e1 e2
    cases hx
    obtain⟨r1,r2⟩:=ih m' _ v hm' h
    refine⟨r1,?_⟩
    simp only[List.foldlM_cons,Sem.run_bind,Builtin.max2,Sem.run_pure,Result.andThen_ok]
    rw[ltI_spec] at r2
    simpa using r2
   ·cases h
theorem minC_run {ts:Array TypeId} {tt:TypeId} {l:List Value} {args:Array Value} {v:Value} (hl:LR ρ l args.toList) (h:minC l=some v) :
 VRel ρ v v∧(Builtin.min_ ts tt args).run P w= .ok v w:=by
 unfold minC at h
 split at h
 ·rename_i k a l
  obtain⟨m,he,hm⟩:=LR_int1 hl
  simp only[Builtin.min_,he]
  exact minL_run _ _ _ _ hm h
 ·cases h
theorem maxC_run {ts:Array TypeId} {tt:TypeId} {l:List Value} {args:Array Value} {v:Value} (hl:LR ρ l args.toList) (h:maxC l=some v) :
 VRel ρ v v∧(Builtin.max_ ts tt args).run P w= .ok v w:=by
 unfold maxC at h
 split at h
 ·rename_i k a l
  obtain⟨m,he,hm⟩:=LR_int1 hl
  simp only[Builtin.max_,he]
  exact maxL_run _ _ _ _ hm h
 ·cases h
theorem light_ok (hH:HRel P G n0 ρ H nx w) {e:Operand→Option Value} {er:Operand→Value} {o:Oper} {b:Nat} {v:Value} {ob:Option CObj}
 (he:∀x∈o.op.operands.toList,∀v,e x=some v→VRel ρ v (er x)) (h:light P e H b o.op=some (v,ob)):LightOk P ρ w b (execOp er o) v ob:=by
 obtain⟨dst,op,type,pos,after,guard⟩:=o
 simp only[] at he h
 unfold light at h
 simp only[] at h
 have ret:∀{x:Option Value} (s:Sem Next),(∀u,x=some u→∃v',VRel ρ u v'∧s.run P w= .ok (.value v') w)→
  (match x with | some v=>some (v,(none:Option CObj)) | none=>none)=some (v,ob)→LightOk P ρ w b s v ob:=fun {x} s hs hx=>by
  cases x with
  | none=>cases hx
  | some u=>injection hx with hx;injection hx with h1 h2;subst h1 h2;exact hs u rfl
 split at h
 ·
  rename_i x
  refine ret _ (fun u hu=>⟨er x,he x (by simp[Op.operands]) u hu,rfl⟩) h
 ·
  rename_i c a b'
  split at h
  ·rename_i hc
   have hc:=he c (by simp[Op.operands]) _ hc
   refine ret _ (fun u hu=>⟨er a,he a (by simp[Op.operands]) u hu,?_⟩) h
   generalize hx:er c=y at hc
   cases hc
   simp[execOp,hx,asBool]
  ·rename_i hc
   have hc:=he c (by simp[Op.operands]) _ hc
   refine ret _ (fun u hu=>⟨er b',he b' (by simp[Op.operands]) u hu,?_⟩) h
   generalize hx:er c=y at hc
   cases hc
   simp[execOp,hx,asBool]
  ·cases h
 ·
  rename_i t
  split at h
  ·rename_i z hz
   injection h with h;injection h with h1 h2;subst h1 h2
   obtain⟨z1,z2⟩:=run_zeroValue (w:=w) hz
   refine new_row (okV_LR z2) _ (v':= .pointer (some ⟨w.heap.size,0,none⟩)) ?_ fun ρ' hb=>ptr_new hb
   simp[execOp,Instr.alloc,z1,newVar,newRow]
  ·cases h
 ·
  rename_i t x
  split at h
  ·rename_i u hu
   injection h with h;injection h with h1 h2;subst h1 h2
   have hr:=he x (by simp[Op.operands]) u hu
   refine new_row (cells_rel hr) _ (v':= .pointer (some ⟨w.heap.size,0,none⟩)) ?_ fun ρ' hb=>ptr_new hb
   simp[execOp,Instr.box,newVar,newRow]
  ·cases h
 ·
  rename_i t ps
  split at h
  ·rename_i qs hq
   have hp:=parts_rel (ρ:=ρ) (er:=er) _ _ (fun x hx=>he x (by simpa[Op.operands] using hx)) hq
   refine ret _ (fun u hu=>?_) h
   obtain⟨v',h1,h2⟩:=buildC_run (w:=w) (ps':=ps.map fun (i,x)=>(i,er x)) (by simpa using hp) hu
   exact⟨v',h1,by simp only[execOp,Sem.run_bind,h2,Result.andThen_ok];rfl⟩
  ·cases h
 ·
  rename_i t len ps
  split at h
  ·rename_i qs hq
   have hp:=parts_rel (ρ:=ρ) (er:=er) _ _ (fun x hx=>he x (by simpa[Op.operands] using hx)) hq
   split at h
   ·rename_i cs et hb
    injection h with h;injection h with h1 h2;subst h1 h2
    obtain⟨hl,cs',hL,hrun⟩:=buildSliceC_run (w:=w) (ps':=ps.map fun (i,x)=>(i,er x)) (by simpa using hp) hb
    refine new_row (l':=cs'.toList) hL _ (v':= .slice (some ⟨w.heap.size,0,none⟩) len len) ?_ fun ρ' hb=>sl_new hl hb
    simp only[execOp,Sem.run_bind,hrun,Result.andThen_ok];rfl
   ·cases h
  ·cases h
 ·
  rename_i t a
  split at h
  ·rename_i b' o hu
   have hr:=he a (by simp[Op.operands]) _ hu
   refine ret _ (fun u hu=>?_) h
   generalize hx:er a=y at hr
   cases hr with
   | ptr hA =>
     cases hA with
     | some hp =>
       obtain⟨v',h1,h2⟩:=loadC_run hH hp hu
       exact⟨v',h1,by simp only[execOp,hx,Instr.loadAt,Instr.sureAddr,Sem.run_bind,Sem.run_pure,h2,Result.andThen_ok]⟩
  ·cases h
 ·
  rename_i x
  split at h
  ·rename_i a hu
   have hr:=he x (by simp[Op.operands]) _ hu
   refine ret (x:=some _) _ (fun u hu=>?_) h
   injection hu with hu;subst hu
   generalize hx:er x=y at hr
   cases hr with
   | ptr hA=>cases hA with | some hp=>exact⟨_,.ptr (.some hp),by simp[execOp,hx]⟩
  ·rename_i f a b' hu
   have hr:=he x (by simp[Op.operands]) _ hu
   refine ret (x:=some _) _ (fun u hu=>?_) h
   injection hu with hu;subst hu
   generalize hx:er x=y at hr
   refine⟨y,hr,?_⟩
   cases hr with
   | func hf=>cases hf;simp[execOp,hx]
  ·rename_i f a b' hu
   have hr:=he x (by simp[Op.operands]) _ hu
   refine ret (x:=some _) _ (fun u hu=>?_) h
   injection hu with hu;subst hu
   generalize hx:er x=y at hr
   refine⟨y,hr,?_⟩
   cases hr with
   | func hf=>cases hf;simp[execOp,hx]
  ·cases h
 ·
  rename_i op t x y yt
  split at h
  ·rename_i a b' ha hb
   refine ret _ (fun u hu=>?_) h
   obtain⟨r1,r2⟩:=binC_run (w:=w) (he x (by simp[Op.operands]) _ ha) (he y (by simp[Op.operands]) _ hb) hu
   refine⟨u,r2,?_⟩
   simp only[execOp,bind_assoc] at r1 ⊢
   rw[←bind_assoc,Sem.run_bind,r1];rfl
  ·cases h
 ·
  rename_i op t x
  split at h
  ·rename_i a ha
   refine ret _ (fun u hu=>?_) h
   obtain⟨r1,r2⟩:=unC_run (P:=P) (w:=w) (he x (by simp[Op.operands]) _ ha) hu
   exact⟨u,r2,by simp only[execOp,Sem.run_bind,r1,Result.andThen_ok];rfl⟩
  ·cases h
 ·
  rename_i s d x
  split at h
  ·rename_i a ha
   refine ret _ (fun u hu=>?_) h
   obtain⟨r1,r2⟩:=convC_run hH (he x (by simp[Op.operands]) _ ha) hu
   exact⟨u,r2,by simp only[execOp,Sem.run_bind,r1,Result.andThen_ok];rfl⟩
  ·cases h
 ·
  rename_i t x
  split at h
  ·cases h
  ·rename_i a d hni ha hd
   refine ret (x:=some _) _ (fun u hu=>?_) h
   injection hu with hu;subst hu
   refine⟨_,.iface t (he x (by simp[Op.operands]) _ ha),?_⟩
   cases d <;> first | exact(hni _ rfl).elim | (simp only[execOp,Instr.makeInterface,Sem.run_bind,Go.Proofs.YtiioegopckoldaaGreatDoor.CV.run_underlying hd,Result.andThen_ok];rfl)
  ·cases h
 ·
  rename_i fn a b'
  split at h
  ·rename_i f
   split at h
   ·rename_i va vb ha hb
    refine ret (x:=some _) _ (fun u hu=>?_) h
    injection hu with hu;subst hu
    have h1:=evs_rel (ρ:=ρ) (er:=er) _ _ (fun x hx=>he x (by simp[Op.operands] at hx ⊢;exact .inl hx)) ha
    have h2:=evs_rel (ρ:=ρ) (er:=er) _ _ (fun x hx=>he x (by simp[Op.operands] at hx ⊢;exact .inr hx)) hb
    refine⟨.func (.func f) (a.map er) (b'.map er),.func (.func f) (by simpa using h1.1) (fun i x y hx hy=>h1.2 i x y (by simpa using hx) (by simpa using hy)) (by simpa using h2.1) (fun i x y hx hy=>h2.2 i x y (by simpa using hx) (by simpa using hy)),?_⟩
    simp[execOp,Instr.makeFunc]
   ·cases h
  ·cases h
 ·
  rename_i t
  injection h with h;injection h with h1 h2;subst h1 h2
  refine⟨.map (some w.heap.size),.map #[] 0,⟨w.heap.size,0,0⟩,rfl,by simp[execOp,Instr.makeMap],fun ρ' hle hb=>⟨.map (.some hb),.map ⟨rfl,fun i e e' he=>by simp at he⟩⟩⟩
 ·
  rename_i t l c
  split at h
  ·rename_i lv cv hl hc
   split at h
   ·rename_i ln cn hln hcn
    split at h
    ·rename_i ob' hm
     injection h with h;injection h with h1 h2;subst h1 h2
     obtain⟨kl,rfl⟩:=nat?_spec hln
     obtain⟨kc,rfl⟩:=nat?_spec hcn
     have rl:=he l (by simp[Op.operands]) _ hl
     have rc:=he c (by simp[Op.operands]) _ hc
     generalize hx:er l=x at rl
     generalize hy:er c=y at rc
     cases rl;cases rc
     obtain⟨hc30,cs,e',hL,rfl,hrun⟩:=makeSliceC_run (ρ:=ρ) (w:=w) (k:=kl) (k':=kc) hm
     refine new_row (l':=cs) hL _ (v':= .slice (some ⟨w.heap.size,0,none⟩) ln cn) ?_ fun ρ' hb=>sl_new (by unfold CAP;omega) hb
     simp only[execOp,hx,hy,Sem.run_bind,hrun,Result.andThen_ok];rfl
    ·cases h
   ·cases h
  ·cases h
 ·
  rename_i t x lo hi mx
  split at h
  ·rename_i xv lv hv mv hx hl hh hm
   refine ret _ (fun u hu=>?_) h
   obtain⟨v',r1,r2⟩:=sliceOp_run (er:=er) (lo:=lo) (hi:=hi) (mx:=mx) hH (he x (by simp[Op.operands]) _ hx) (fun y hy=>he y (by simp[Op.operands] at hy ⊢;exact .inr hy)) hl hh hm hu
   exact⟨v',r1,by simp only[execOp,Sem.run_bind,r2,Result.andThen_ok];rfl⟩
  ·cases h
 ·
  rename_i t x i
  split at h
  ·rename_i xv hx
   refine ret _ (fun u hu=>?_) h
   obtain⟨v',r1,r2⟩:=fieldAddrC_run (w:=w) (he x (by simp[Op.operands]) _ hx) hu
   exact⟨v',r1,by simp only[execOp,Sem.run_bind,r2,Result.andThen_ok];rfl⟩
  ·cases h
 ·
  rename_i t x i
  split at h
  ·rename_i cs fs hx hf
   split at h
   ·rename_i f hfi
    refine ret _ (fun u hu=>?_) h
    have hr:=he x (by simp[Op.operands]) _ hx
    generalize hxe:er x=y at hr
    cases hr with
    | agg hs hA =>
      obtain⟨v',r1,r2⟩:=partC_run (w:=w) (LR.of_arr hs hA) hu
      unfold fieldsC at hf
      split at hf
      ·rename_i fs' hd
       injection hf with hf;subst hf
       exact⟨v',r1,by simp only[execOp,hxe,Instr.field,asAgg,Sem.run_bind,Go.Proofs.YtiioegopckoldaaGreatDoor.CV.run_underlying hd,Result.andThen_ok,hfi,Sem.run_pure,r2]⟩
      ·cases hf
   ·cases h
  ·cases h
 ·
  rename_i t x i
  split at h
  ·rename_i xv iv hx hi
   refine ret _ (fun u hu=>?_) h
   obtain⟨v',r1,r2⟩:=indexAddrC_run (w:=w) (he x (by simp[Op.operands]) _ hx) (he i (by simp[Op.operands]) _ hi) hu
   exact⟨v',r1,by simp only[execOp,Sem.run_bind,r2,Result.andThen_ok];rfl⟩
  ·cases h
 ·
  rename_i t m k ok
  split at h
  ·rename_i mv kv hm hk
   refine ret _ (fun u hu=>?_) h
   obtain⟨v',r1,r2⟩:=lookupC_run hH (he m (by simp[Op.operands]) _ hm) (he k (by simp[Op.operands]) _ hk) hu
   exact⟨v',r1,by simp only[execOp,Sem.run_bind,r2,Result.andThen_ok];rfl⟩
  ·cases h
 ·
  rename_i x xt t ok
  split at h
  ·rename_i xv hx
   refine ret _ (fun u hu=>?_) h
   obtain⟨v',r1,r2⟩:=assertC_run (P:=P) (w:=w) (xt:=xt) (he x (by simp[Op.operands]) _ hx) hu
   exact⟨v',r1,by simp only[execOp,Sem.run_bind,r2,Result.andThen_ok];rfl⟩
  ·cases h
 ·
  rename_i t i
  split at h
  ·rename_i vs ht
   refine ret _ (fun u hu=>?_) h
   have hr:=he t (by simp[Op.operands]) _ ht
   generalize hxe:er t=y at hr
   cases hr with
   | tuple hs hA =>
     obtain⟨y,r1,r2⟩:=(LR.of_arr hs hA).get (i:=i) (by simpa using hu)
     refine⟨y,r2,?_⟩
     rw[Array.getElem?_toList] at r1
     simp[execOp,hxe,Instr.extract,r1]
  ·cases h
 ·
  rename_i c
  obtain⟨callee,args,argTypes⟩:=c
  have args_ok:∀x∈args.toList,∀v,e x=some v→VRel ρ v (er x):=fun x hx=>he x (by simp[Op.operands,Call.operands] at hx ⊢;exact .inr hx)
  split at h
  ·rename_i hc
   simp only[] at hc h;subst hc
   split at h
   ·rename_i t x ht hx
    split at h
    ·rename_i xv hxv
     refine ret _ (fun u hu=>?_) h
     have ha:(args.map er)[0]?=some (er x):=by simp[hx]
     obtain⟨r1,r2⟩:=lenC_run (tt:=type) hH ht ha (args_ok x (by have:=Array.mem_of_getElem? hx;simpa using this) _ hxv) hu
     exact⟨u,r1,by simp only[execOp,resolve,invoke,builtin,Sem.run_bind,Sem.run_pure,Result.andThen_ok,r2]⟩
    ·cases h
   ·cases h
  ·rename_i hc
   simp only[] at hc h;subst hc
   split at h
   ·rename_i t x ht hx
    split at h
    ·rename_i xv hxv
     refine ret _ (fun u hu=>?_) h
     have ha:(args.map er)[0]?=some (er x):=by simp[hx]
     obtain⟨v',r1,r2⟩:=capC_run (w:=w) (tt:=type) ht ha (args_ok x (by have:=Array.mem_of_getElem? hx;simpa using this) _ hxv) hu
     exact⟨v',r1,by simp only[execOp,resolve,invoke,builtin,Sem.run_bind,Sem.run_pure,Result.andThen_ok,r2]⟩
    ·cases h
   ·cases h
  ·rename_i hc
   simp only[] at hc h;subst hc
   split at h
   ·rename_i l hl
    refine ret _ (fun u hu=>?_) h
    have hL:=evs_rel (ρ:=ρ) (er:=er) _ _ args_ok hl
    obtain⟨r1,r2⟩:=minC_run (P:=P) (w:=w) (ts:=argTypes) (tt:=type) (args:=args.map er) (by simpa using hL) hu
    exact⟨u,r1,by simp only[execOp,resolve,invoke,builtin,Sem.run_bind,Sem.run_pure,Result.andThen_ok,r2]⟩
   ·cases h
  ·rename_i hc
   simp only[] at hc h;subst hc
   split at h
   ·rename_i l hl
    refine ret _ (fun u hu=>?_) h
    have hL:=evs_rel (ρ:=ρ) (er:=er) _ _ args_ok hl
    obtain⟨r1,r2⟩:=maxC_run (P:=P) (w:=w) (ts:=argTypes) (tt:=type) (args:=args.map er) (by simpa using hL) hu
    exact⟨u,r1,by simp only[execOp,resolve,invoke,builtin,Sem.run_bind,Sem.run_pure,Result.andThen_ok,r2]⟩
   ·cases h
  ·cases h
 ·cases h
end
end Go.Proofs.YtiioegopckoldaaGreatDoor.CV
namespace Go.Proofs.YtiioegopckoldaaGreatDoor.CV
open Go Go.RowKit
structure Upd (w w':World) (r:Nat):Prop where
 os:w'.os=w.os
 tape:w'.tape=w.tape
 output:w'.output=w.output
 size:w'.heap.size=w.heap.size
 block:∀k,k≠r→w'.heap[k]?=w.heap[k]?
theorem Upd.refl (w:World) (r:Nat):Upd w w r:=⟨rfl,rfl,rfl,rfl,fun _ _=>rfl⟩
theorem Upd.trans {a b c:World} {r:Nat} (h:Upd a b r) (k:Upd b c r):Upd a c r:=
 ⟨k.os.trans h.os,k.tape.trans h.tape,k.output.trans h.output,k.size.trans h.size,fun i hi=>(k.block i hi).trans (h.block i hi)⟩
theorem Upd.below {w w':World} {r n0:Nat} (h:Upd w w' r) (hr:n0≤r):Below n0 w w':=
 ⟨h.os,h.tape,h.output,Nat.le_of_eq h.size.symm,fun k hk=>h.block k (by omega)⟩
theorem Upd.setCell (w:World) (r o:Nat) (v:Value):Upd w (w.setCell ⟨r,o,none⟩ v) r:=by
 refine⟨rfl,rfl,rfl,by simp[World.setCell],fun k hk=>?_⟩
 simp only[World.setCell,Array.getElem?_modify]
 rw[if_neg (by simpa using fun e=>hk e.symm)]
theorem setCell_at {w:World} {r o:Nat} {cr:Array Value} {t fz} (v:Value) (h:w.heap[r]?=some (.cells cr t fz)) :
 (w.setCell ⟨r,o,none⟩ v).heap[r]?=some (.cells (cr.setIfInBounds o v) t fz):=by
 simp[World.setCell,Array.getElem?_modify,h]
theorem Upd.setObj {w:World} {r:Nat} {o:Obj}:Upd w {w with heap:=w.heap.setIfInBounds r o } r:=
 ⟨rfl,rfl,rfl,by simp,fun k hk=>by simp only[Array.getElem?_setIfInBounds];rw[if_neg (fun e=>hk e.symm)]⟩
section
variable {P:Program} {ρ:Ren} {w:World} {G n0 nx:Nat} {H:Tr CObj}
theorem HRel.put (hH:HRel P G n0 ρ H nx w) {b:Nat} {p:Plc} {o o':CObj} {ro:Obj} {H':Tr CObj} {w':World} (hg:H.get b=some o) (hp:ρ b=some p)
 (hH':∀j x,H'.get j=some x→(j=b→x=o')∧(j≠b→H.get j=some x)) (hu:Upd w w' p.r) (hr:w'.heap[p.r]?=some ro) (ho:ORel P ρ p o' ro):HRel P G n0 ρ H' nx w' where
 obj:=fun j x q hx h1=>by
  by_cases hj:j=b
  ·have:=(hH' j x hx).1 hj;subst hj this;rw[hp] at h1;injection h1 with h1;subst h1;exact⟨ro,hr,ho⟩
  ·have hx':=(hH' j x hx).2 hj
   obtain⟨rq,h2,h3⟩:=hH.obj j x q hx' h1
   refine⟨rq,?_,h3⟩
   rw[hu.block _ fun e=>hj (hH.inj _ _ _ _ _ _ hx' hg h1 hp e)];exact h2
 inj:=fun j j' x x' q q' hx hx' hq hq' e=>by
  have get:∀j x,H'.get j=some x→∃y,H.get j=some y:=fun j x hx=>by
   by_cases hj:j=b
   ·subst hj;exact⟨o,hg⟩
   ·exact⟨x,(hH' j x hx).2 hj⟩
  obtain⟨y,hy⟩:=get _ _ hx
  obtain⟨y',hy'⟩:=get _ _ hx'
  exact hH.inj _ _ _ _ _ _ hy hy' hq hq' e
 dom:=fun j q hq=>by rw[hu.size];exact hH.dom j q hq
 glob:=hH.glob
 low:=hH.low
 big:=by rw[hu.size];exact hH.big
theorem HRel.sub (hH:HRel P G n0 ρ H nx w) {H':Tr CObj} (h:∀j x,H'.get j=some x→H.get j=some x):HRel P G n0 ρ H' nx w where
 obj:=fun j x q hx hq=>hH.obj j x q (h j x hx) hq
 inj:=fun j j' x x' q q' hx hx'=>hH.inj j j' x x' q q' (h _ _ hx) (h _ _ hx')
 dom:=hH.dom
 glob:=hH.glob
 low:=hH.low
 big:=hH.big
def Ren.ext (ρ:Ren) (b:Nat) (p:Plc):Ren:=fun j=>if j=b then some p else ρ j
theorem Ren.ext_self (ρ:Ren) (b:Nat) (p:Plc):ρ.ext b p b=some p:=by simp[Ren.ext]
theorem Ren.ext_le (ρ:Ren) {b:Nat} (p:Plc) (h:ρ b=none):ρ.le (ρ.ext b p):=fun j q hq=>by
 unfold Ren.ext;split
 ·rename_i e;subst e;rw[h] at hq;cases hq
 ·exact hq
theorem HRel.fresh (hH:HRel P G n0 ρ H nx w) {b:Nat} (h:nx≤b):ρ b=none:=by
 cases hb:ρ b with
 | none=>rfl
 | some p=>have:=(hH.dom b p hb).1;omega
theorem HRel.new (hH:HRel P G n0 ρ H nx w) {b:Nat} {p:Plc} {o:CObj} {ro:Obj} {H':Tr CObj} (hb:nx≤b) (hp:p.r=w.heap.size)
 (hH':∀j x,H'.get j=some x→(j=b→x=o)∧(j≠b→H.get j=some x)) (ho:ORel P (ρ.ext b p) p o ro) :
 HRel P G n0 (ρ.ext b p) H' (b+1) {w with heap:=w.heap.push ro }:=by
 have hle:=ρ.ext_le p (hH.fresh hb)
 have old:∀j q,j≠b→ρ.ext b p j=some q→ρ j=some q:=fun j q hj hq=>by simpa[Ren.ext,hj] using hq
 refine⟨fun j x q hx hq=>?_,fun j j' x x' q q' hx hx' hq hq' e=>?_,fun j q hq=>?_,fun g hg=>?_,by have:=hH.low;omega,by have:=hH.big;simp;omega⟩
 ·by_cases hj:j=b
  ·have:=(hH' j x hx).1 hj;subst hj this
   rw[ρ.ext_self] at hq;injection hq with hq;subst hq
   exact⟨ro,by simp[hp],ho⟩
  ·have h1:=old _ _ hj hq
   obtain⟨rq,h2,h3⟩:=hH.obj j x q ((hH' j x hx).2 hj) h1
   refine⟨rq,?_,h3.mono _ hle⟩
   have:=(hH.dom j q h1).2.1
   simp only[Array.getElem?_push]
   rw[if_neg (by omega)];exact h2
 ·by_cases hj:j=b <;> by_cases hj':j'=b
  ·omega
  ·subst hj
   rw[ρ.ext_self] at hq;injection hq with hq;subst hq
   have:=(hH.dom j' q' (old _ _ hj' hq')).2.1
   omega
  ·subst hj'
   rw[ρ.ext_self] at hq';injection hq' with hq';subst hq'
   have:=(hH.dom j q (old _ _ hj hq)).2.1
   omega
  ·exact hH.inj _ _ _ _ _ _ ((hH' j x hx).2 hj) ((hH' j' x' hx').2 hj') (old _ _ hj hq) (old _ _ hj' hq') e
 ·by_cases hj:j=b
  ·subst hj
   rw[ρ.ext_self] at hq;injection hq with hq;subst hq
   have:=hH.big
   exact⟨by omega,by simp;omega,fun _=>by omega⟩
  ·obtain⟨h1,h2,h3⟩:=hH.dom j q (old _ _ hj hq)
   exact⟨by omega,by simp;omega,h3⟩
 ·obtain⟨q,h1,h2⟩:=hH.glob g hg
  exact⟨q,hle _ _ h1,h2⟩
theorem below_push (w:World) (n0:Nat) (ro:Obj) (h:n0≤w.heap.size):Below n0 w {w with heap:=w.heap.push ro }:=
 ⟨rfl,rfl,rfl,by simp,fun k hk=>by simp only[Array.getElem?_push];rw[if_neg (by omega)]⟩
theorem oneC_rel {v v':Value} (hv:VRel ρ v v') (h:oneC v=true):v'.oneCell'=true:=by cases hv <;> first | rfl | (simp[oneC] at h)
theorem setCells_run {β:Type} {r o n:Nat} {t:TypeId} {K:Tr Value→Option β} {out:β}:∀(l l':List Value) (i:Nat) (c:Tr Value) (cr:Array Value) (w:World),LR ρ l l'→
 w.heap[r]?=some (.cells cr t (0,0))→n≤cr.size→(∀(i:Nat) v,i < n→c.get i=some v→∃v',cr[i]?=some v'∧VRel ρ v v')→
 setCellsK c n (o+i) l K=some out→
 ∃c' cr' w',K c'=some out∧(storeCells ⟨r,o,none⟩ l' i).run P w= .ok () w'∧Upd w w' r∧w'.heap[r]?=some (.cells cr' t (0,0))∧cr'.size=cr.size∧
  (∀(i:Nat) v,i < n→c'.get i=some v→∃v',cr'[i]?=some v'∧VRel ρ v v')∧(∀i v,c'.get i=some v→i < n∨c.get i=some v):=by
 intro l
 induction l with
 | nil=>intro l' i c cr w hl hr hn hc h;rw[hl.of_nil];exact⟨c,cr,w,h,rfl,.refl _ _,hr,rfl,hc,fun _ _ h=> .inr h⟩
 | cons v l ih =>
   intro l' i c cr w hl hr hn hc h
   obtain⟨v',m,rfl,hv,hm⟩:=hl.of_cons
   simp only[setCellsK] at h
   split at h
   ·cases h
   ·rename_i hb
    simp only[Bool.and_eq_true,Nat.blt_eq] at hb
    rw[forceQ_id] at h
    obtain⟨c1,e1,g1⟩:=setK_spec DEP c (o+i) v
    rw[e1] at h
    have hcell:w.cell? ⟨r,o+i,none⟩=cr[o+i]?:=cell_of hr
    have hlt:o+i < cr.size:=by omega
    have hst:(store ((⟨r,o,none⟩:Addr).add i) v').run P w= .ok () (w.setCell ⟨r,o+i,none⟩ v'):=by
     rw[addr_add,run_store P w _ _ _ (oneC_rel hv hb.2),hcell]
     simp[hlt,World.frozen?,hr]
    obtain⟨c',cr',w',k1,k2,k3,k4,k5,k6,k7⟩:=ih m (i+1) c1 (cr.setIfInBounds (o+i) v') (w.setCell ⟨r,o+i,none⟩ v') hm (setCell_at v' hr) (by simpa using hn)
     (fun j x hj hx=>by
      obtain⟨a1,a2⟩:=g1 j x hx
      by_cases e:j=o+i
      ·subst e;rw[a1 rfl];exact⟨v',by simp[hlt],hv⟩
      ·obtain⟨y,y1,y2⟩:=hc j x hj (a2 e)
       exact⟨y,by simp[Array.getElem?_setIfInBounds,Ne.symm e,y1],y2⟩) h
    refine⟨c',cr',w',k1,?_,(Upd.setCell w r (o+i) v').trans k3,k4,by simpa using k5,k6,fun j x hx=>?_⟩
    rotate_left
    ·rcases k7 j x hx with h | h
     ·exact .inl h
     ·by_cases e:j=o+i
      ·exact .inl (by omega)
      ·exact .inr ((g1 j x h).2 e)
    simp only[storeCells,Sem.run_bind,hst,Result.andThen_ok,k2]
theorem storeK_run {β:Type} (hH:HRel P G n0 ρ H nx w) {b o:Nat} {p:Plc} {l l':List Value} {K:Tr CObj→Option β} {out:β} (hp:ρ b=some p) (hl:LR ρ l l') (h:storeK G H b o l K=some out) :
 ∃H' w',K H'=some out∧(storeCells ⟨p.r,o,none⟩ l').run P w= .ok () w'∧HRel P G n0 ρ H' nx w'∧Below n0 w w':=by
 unfold storeK at h
 split at h
 ·cases h
 ·rename_i hb
  have hb:G≤b:=by have:=blt_false hb;omega
  split at h
  ·rename_i c n t hg
   obtain⟨p',ro,hp',hro,hor⟩:=hH.objp hp hg
   rw[hp] at hp';injection hp' with hp';subst hp'
   cases hor with
   | cells hn hz hs hc hdm =>
     obtain⟨c',cr',w',k1,k2,k3,k4,k5,k6,k7⟩:=setCells_run (P:=P) (o:=o) (r:=p.r) l l' 0 c _ w hl hro hn hc (by simpa using h)
     obtain⟨H',e1,g1⟩:=setK_spec DEP H b (.cells c' n t)
     rw[e1] at k1
     refine⟨H',w',k1,k2,hH.put hg hp g1 k3 k4 (.cells (by omega) (by omega) hs k6 (fun i v hv=>(k7 i v hv).elim id (hdm i v))),k3.below ((hH.dom b p hp).2.2 hb)⟩
  ·cases h
theorem MsR.push {es es':List MapEntry} {e e':MapEntry} (h:MsR ρ es es') (hk:VRel ρ e.key e'.key) (hv:VRel ρ e.val e'.val) (hb:e.born=e'.born):MsR ρ (es ++ [e]) (es' ++ [e']):=
 ⟨by simp[h.1],fun i x y hx hy=>by
  by_cases hi:i < es.length
  ·rw[List.getElem?_append_left hi] at hx;rw[List.getElem?_append_left (h.1 ▸ hi)] at hy;exact h.2 i x y hx hy
  ·rw[List.getElem?_append_right (by omega)] at hx;rw[List.getElem?_append_right (h.1 ▸ by omega)] at hy
   rw[←h.1] at hy
   cases hj:i-es.length with
   | zero=>rw[hj] at hx hy;simp at hx hy;subst hx hy;exact⟨hk,hv,hb⟩
   | succ j=>rw[hj] at hx;simp at hx⟩
theorem MsR.mod {es es':List MapEntry} {k k' v v':Value} (h:MsR ρ es es') (i:Nat) (hk:VRel ρ k k') (hv:VRel ρ v v') :
 MsR ρ (es.modify i fun e=>{e with key:=k,val:=v }) (es'.modify i fun e=>{e with key:=k',val:=v' }):=
 ⟨by simp[h.1],fun j x y hx hy=>by
  rw[List.getElem?_modify] at hx hy
  cases hex:es[j]? with
  | none=>simp[hex] at hx
  | some a =>
    cases hey:es'[j]? with
    | none=>simp[hey] at hy
    | some b =>
      have:=h.2 j a b hex hey
      by_cases e:i=j
      ·simp[hex,e] at hx;simp[hey,e] at hy;subst hx hy;exact⟨hk,hv,this.2.2⟩
      ·simp[hex,e] at hx;simp[hey,e] at hy;subst hx hy;exact this⟩
theorem ba_beq {a b:ByteArray} (h:(a == b)=true):a=b:=by
 cases a;cases b
 have h:ByteArray.beq _ _=true:=h
 simp[ByteArray.beq] at h
 rw[h]
theorem ba_self (a:ByteArray):(a == a)=true:=by
 show ByteArray.beq _ _=true
 simp[ByteArray.beq]
theorem sameNow_bits {d:TypeDesc} {k x:Value} (h:Instr.sameNow d k x=some true):x=k:=by
 unfold Instr.sameNow at h
 split at h
 ·split at h
  ·rename_i e;subst e;simp at h;rw[h]
  ·cases h
 ·rename_i a b;injection h with h;rw[ba_beq h]
 ·rename_i a b;simp at h;rw[h]
 ·cases h
theorem findNow_key {d:TypeDesc} {k:Value}:∀(es:List MapEntry) (i j:Nat) (v:Value),Instr.findNow d k es i=some (some (j,v))→i≤j∧∃e,es[j-i]?=some e∧e.key=k:=by
 intro es
 induction es with
 | nil=>intro i j v h;simp[Instr.findNow] at h
 | cons e es ih =>
   intro i j v h
   simp only[Instr.findNow] at h
   cases hs:Instr.sameNow d k e.key with
   | none=>simp[hs] at h
   | some b =>
     rw[hs] at h
     cases b with
     | true=>simp at h;obtain⟨rfl,_⟩:=h;exact⟨Nat.le_refl _,e,by simp,sameNow_bits hs⟩
     | false =>
       simp only[] at h
       obtain⟨hj,x,hx,hk⟩:=ih (i+1) j v h
       exact⟨by omega,x,by rw[show j-i=(j-(i+1))+1 by omega];simpa using hx,hk⟩
theorem sameBits_self {k:Value} (t:TypeId) (h:keyOk P t=true) (d:TypeDesc) (hd:P.underlying t=some d) (x:Value) (hs:Instr.sameNow d k x=some true):Instr.sameBits 10000 k k=true:=by
 unfold Instr.sameNow at hs
 split at hs <;> first | (simp[Instr.sameBits];done) | (simp only[Instr.sameBits];exact ba_self _) | cases hs
theorem run_setObj {r:Nat} {es:Array MapEntry} {cl:Nat} {o:Obj} (h:w.heap[r]?=some (.map es cl)):(setObj r o).run P w= .ok () {w with heap:=w.heap.setIfInBounds r o }:=by simp[setObj,Sem.run,h]
theorem setMapK_run {β:Type} (hH:HRel P G n0 ρ H nx w) {t:TypeId} {m m' k k' v v':Value} {K:Tr CObj→Option β} {out:β} (hm:VRel ρ m m') (hk:VRel ρ k k') (hv:VRel ρ v v') (h:setMapK P G H t m k v K=some out) :
 ∃H' w',K H'=some out∧(Instr.mapUpdate t m' k' v').run P w= .ok () w'∧HRel P G n0 ρ H' nx w'∧Below n0 w w':=by
 unfold setMapK at h
 split at h
 ·rename_i kt et r hd
  split at h
  ·cases h
  ·rename_i hb
   have hb:G≤r:=by have:=blt_false hb;omega
   split at h
   ·rename_i es clock hg
    cases hm with
    | map hm =>
      cases hm with
      | some hp =>
        obtain⟨p',ro,hp',hro,hor⟩:=hH.objp hp hg
        rw[hp] at hp';injection hp' with hp';subst hp'
        cases hor with
        | map hms =>
          rename_i es'
          have hr0:=(hH.dom _ _ hp).2.1
          split at h
          ·cases h
          ·rename_i i u hf
           obtain⟨hok,hkk,hck,_,h2⟩:=findC_run (w:=w) hk hms hf
           obtain⟨u',e,e',he,he',_,_,hrunf,_⟩:=h2 i u rfl
           subst hkk
           unfold findC at hf
           split at hf
           ·rename_i d hdk
            split at hf
            ·rename_i hkb
             simp only[Bool.and_eq_true] at hkb
             obtain⟨_,e2,he2,hek⟩:=findNow_key es 0 i u hf
             simp only[Nat.sub_zero] at he2
             rw[he] at he2;injection he2 with he2;subst he2
             have hek':e'.key=k':=by
              have:=(hms.2 i e e' he he').1
              rw[hek] at this
              exact okV_eq _ _ _ hkb.2 this
             have hsb:Instr.sameBits 10000 k' k'=true:=by
              have hfn:=hf
              have:∃x,Instr.sameNow d k' x=some true:=by
               clear he he' hek hek' hrunf h2 hms
               have key:∀(es:List MapEntry) (i0:Nat),Instr.findNow d k' es i0=some (some (i,u))→∃x,Instr.sameNow d k' x=some true:=by
                intro es
                induction es with
                | nil=>intro i0 h;simp[Instr.findNow] at h
                | cons a es ih =>
                  intro i0 h
                  simp only[Instr.findNow] at h
                  cases hs:Instr.sameNow d k' a.key with
                  | none=>simp[hs] at h
                  | some b => cases b with
                    | true=>exact⟨_,hs⟩
                    | false=>rw[hs] at h;exact ih _ h
               exact key _ _ hfn
              obtain⟨x,hx⟩:=this
              exact sameBits_self kt hkb.1 d hdk x hx
             obtain⟨H',e1,g1⟩:=setK_spec DEP H r (.map (es.modify i fun e=>{e with key:=k',val:=v }) clock)
             rw[e1] at h
             refine⟨H',{w with heap:=w.heap.setIfInBounds _ (.map (es'.modify i fun e=>{e with key:=k',val:=v' }) clock) },h,?_,hH.put (ro:= .map (es'.modify i fun e=>{e with key:=k',val:=v' }) clock) hg hp g1 Upd.setObj (by simp[hr0]) (.map (by rw[Array.toList_modify];exact hms.mod i hk hv)),Upd.setObj.below ((hH.dom _ _ hp).2.2 hb)⟩
             have he'':es'[i]?=some e':=by simpa using he'
             simp only[Instr.mapUpdate,Sem.run_bind,Go.Proofs.YtiioegopckoldaaGreatDoor.CV.run_underlying hd,Result.andThen_ok,run_getObj_map hro,hck,hrunf,he'',Option.map_some,Option.getD_some,hek',Instr.keyThatStays,hsb,if_true,Sem.run_pure,run_setObj hro]
            ·cases hf
           ·cases hf
          ·rename_i hf
           obtain⟨hok,hkk,hck,h1,_⟩:=findC_run (w:=w) hk hms hf
           subst hkk
           rw[natK_id] at h
           obtain⟨H',e1,g1⟩:=setK_spec DEP H r (.map (es ++ [{key:=k',val:=v,born:=clock }]) (clock+1))
           rw[e1] at h
           refine⟨H',{w with heap:=w.heap.setIfInBounds _ (.map (es'.push {key:=k',val:=v',born:=clock }) (clock+1)) },h,?_,hH.put (ro:= .map (es'.push {key:=k',val:=v',born:=clock }) (clock+1)) hg hp g1 Upd.setObj (by simp[hr0]) (.map (by rw[Array.toList_push];exact hms.push (e':={key:=k',val:=v',born:=clock }) hk hv rfl)),Upd.setObj.below ((hH.dom _ _ hp).2.2 hb)⟩
           simp only[Instr.mapUpdate,Sem.run_bind,Go.Proofs.YtiioegopckoldaaGreatDoor.CV.run_underlying hd,Result.andThen_ok,run_getObj_map hro,hck,h1 rfl,run_setObj hro]
   ·cases h
 ·cases h
end
end Go.Proofs.YtiioegopckoldaaGreatDoor.CV
