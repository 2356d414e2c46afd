/- lemmas for topRented_holds: QCX QCY QCZ QDA. No conditions. -/
import Derived.Test.YtiioegopckoldaaGreatDoorK31
import Derived.Laws.BytesString
import Derived.Laws.BitsLemmas
set_option linter.unusedVariables false
set_option linter.unusedSimpArgs false
namespace Go.Proofs.YtiioegopckoldaaGreatDoor.CV
open Go Go.RowKit
def TRel (ρ:Ren) (tm:Tr Value) (nt:Nat) (pend:Nat→Prop) (tmr:Array Value):Prop:=
 tmr.size=nt∧∀(t:Nat) v,tm.get t=some v→t < nt∧(¬pend t→∃v',tmr[t]?=some v'∧VRel ρ v v')
theorem TRel.mono {ρ ρ':Ren} (hle:ρ.le ρ') {tm nt pend tmr} (h:TRel ρ tm nt pend tmr):TRel ρ' tm nt pend tmr:=
 ⟨h.1,fun t v hv=>⟨(h.2 t v hv).1,fun hp=>let⟨v',h1,h2⟩:=(h.2 t v hv).2 hp;⟨v',h1,h2.mono hle⟩⟩⟩
inductive TgR (ρ:Ren):Target→Target→Prop
 | fn {f f'} {c c':Array Value} (h:FnR ρ f f') (hc:LR ρ c.toList c'.toList):TgR ρ (.fn f c) (.fn f' c')
 | coll {b p} (h:ρ b=some p):TgR ρ (.collected b) (.collected p.r)
structure DfR (ρ:Ren) (d d':Deferred):Prop where
 target:TgR ρ d.target d'.target
 args:LR ρ d.args.toList d'.args.toList
inductive DsR (ρ:Ren):List Deferred→List Deferred→Prop
 | nil:DsR ρ [] []
 | cons {d d' l l'} (h:DfR ρ d d') (k:DsR ρ l l'):DsR ρ (d :: l) (d' :: l')
theorem TgR.mono {ρ ρ':Ren} (hle:ρ.le ρ') {t t'} (h:TgR ρ t t'):TgR ρ' t t':=by
 cases h with | fn h hc=>exact .fn (h.mono hle) (hc.mono hle) | coll h=>exact .coll (hle _ _ h)
theorem DfR.mono {ρ ρ':Ren} (hle:ρ.le ρ') {d d'} (h:DfR ρ d d'):DfR ρ' d d':=⟨h.target.mono hle,h.args.mono hle⟩
theorem DsR.mono {ρ ρ':Ren} (hle:ρ.le ρ') {d d'} (h:DsR ρ d d'):DsR ρ' d d':=by
 induction h with | nil=>exact .nil | cons h _ ih=>exact .cons (h.mono hle) ih
theorem DsR.append {ρ:Ren} {a a' b b'} (h:DsR ρ a a') (k:DsR ρ b b'):DsR ρ (a ++ b) (a' ++ b'):=by
 induction h with | nil=>exact k | cons h _ ih=>exact .cons h ih
def MsR (ρ:Ren) (es es':List MapEntry):Prop:=
 es.length=es'.length∧∀(i:Nat) e e',es[i]?=some e→es'[i]?=some e'→VRel ρ e.key e'.key∧VRel ρ e.val e'.val∧e.born=e'.born
theorem MsR.mono {ρ ρ':Ren} (hle:ρ.le ρ') {es es'} (h:MsR ρ es es'):MsR ρ' es es':=
 ⟨h.1,fun i e e' he he'=>let⟨a,b,c⟩:=h.2 i e e' he he';⟨a.mono hle,b.mono hle,c⟩⟩
section
variable (P:Program)
inductive ORel (ρ:Ren) (p:Plc):CObj→Obj→Prop
 | cells {c:Tr Value} {n t} {cr:Array Value} (hn:n≤cr.size) (hz:p.sz=cr.size) (hs:∀s,sizeC P t=some s→p.es=s)
  (hc:∀(i:Nat) v,i < n→c.get i=some v→∃v',cr[i]?=some v'∧VRel ρ v v') (hdm:∀i v,c.get i=some v→i < n):ORel ρ p (.cells c n t) (.cells cr t (0,0))
 | rom {c:Tr Value} {n t fz} {cr:Array Value} (hc:∀(i:Nat) v,i < n→c.get i=some v→∃v',cr[i]?=some v'∧VRel ρ v v'):ORel ρ p (.rom c n) (.cells cr t fz)
 | map {es es' clock} (h:MsR ρ es es'.toList):ORel ρ p (.map es clock) (.map es' clock)
 | loop {st pend fn tm nt params assign body df q tmr} (h:TRel ρ tm nt (fun _=>False) tmr) (hd:ρ df=some q) :
  ORel ρ p (.loop st pend fn tm nt params assign body df) (.loop {state:=st,pending:=pend,fn,tmps:=tmr,params,assign,body,defers:=q.r })
 | defd {ds ds'} (h:DsR ρ ds ds'):ORel ρ p (.defd (some ds)) (.deferred (some ds'))
 | gone:ORel ρ p (.defd none) (.deferred none)
theorem ORel.mono {ρ ρ':Ren} (hle:ρ.le ρ') {p o o'} (h:ORel P ρ p o o'):ORel P ρ' p o o':=by
 cases h with
 | cells hn hz hs hc hdm=>exact .cells hn hz hs (fun i v hi hv=>let⟨v',a,b⟩:=hc i v hi hv;⟨v',a,b.mono hle⟩) hdm
 | rom hc=>exact .rom (fun i v hi hv=>let⟨v',a,b⟩:=hc i v hi hv;⟨v',a,b.mono hle⟩)
 | map h=>exact .map (h.mono hle)
 | loop h hd=>exact .loop (h.mono hle) (hle _ _ hd)
 | defd h=>exact .defd (h.mono hle)
 | gone=>exact .gone
structure HRel (G n0:Nat) (ρ:Ren) (H:Tr CObj) (nx:Nat) (w:World):Prop where
 obj:∀b o p,H.get b=some o→ρ b=some p→∃ro,w.heap[p.r]?=some ro∧ORel P ρ p o ro
 inj:∀b b' o o' p p',H.get b=some o→H.get b'=some o'→ρ b=some p→ρ b'=some p'→p.r=p'.r→b=b'
 dom:∀b p,ρ b=some p→b < nx∧p.r < w.heap.size∧(G≤b→n0≤p.r)
 glob:∀g,g < G→∃p,ρ g=some p∧p.r=g
 low:G≤nx
 big:n0≤w.heap.size
end
section
variable {P:Program} {G n0:Nat} {ρ:Ren} {H:Tr CObj} {nx:Nat} {w:World}
theorem HRel.objp (hH:HRel P G n0 ρ H nx w) {b:Nat} {o:CObj} {p:Plc} (hp:ρ b=some p) (hg:H.get b=some o):∃p' ro,ρ b=some p'∧w.heap[p'.r]?=some ro∧ORel P ρ p' o ro:=
 let⟨ro,h1,h2⟩:=hH.obj b o p hg hp;⟨p,ro,hp,h1,h2⟩
theorem run_underlying {t d} (h:P.underlying t=some d):(underlying t).run P w= .ok d w:=by simp[underlying,h]
theorem run_typeInfo {t i} (h:P.info? t=some i):(typeInfo t).run P w= .ok i w:=by simp[typeInfo,h]
theorem run_sizeOf {t n} (h:sizeC P t=some n):(sizeOf t).run P w= .ok n w:=by
 unfold sizeC at h
 cases hi:P.info? t with
 | none=>simp[hi] at h
 | some i=>simp[hi] at h;simp[sizeOf,run_typeInfo hi,h]
theorem sizeC_info {t i} (h:P.info? t=some i):sizeC P t=some i.size:=by simp[sizeC,h]
theorem run_zeroValue {t z} (h:zeroOf P t=some z):(zeroValue t).run P w= .ok z w∧okV OKD z=true:=by
 unfold zeroOf at h
 cases hi:P.info? t with
 | none=>simp[hi] at h
 | some i =>
   cases hz:i.zero with
   | none=>simp[hi,hz] at h
   | some z' =>
     simp only[hi,hz] at h
     split at h
     ·injection h with h;subst h;exact⟨by simp[zeroValue,run_typeInfo hi,hz],by assumption⟩
     ·cases h
theorem run_isAgg {t b} (h:aggC P t=some b):(isAgg t).run P w= .ok b w:=by
 unfold aggC at h
 cases hd:P.underlying t with
 | none=>simp[hd] at h
 | some d =>
   have:=run_underlying (w:=w) hd
   cases d <;> simp[hd] at h <;> subst h <;> simp[isAgg,this]
theorem addr_add (b o i:Nat):(⟨b,o,none⟩:Addr).add i=⟨b,o+i,none⟩:=by
 unfold Addr.add;split <;> simp_all
theorem cellsAt_spec {c:Tr Value} {n:Nat} {cr:Array Value} (hc:∀(i:Nat) v,i < n→c.get i=some v→∃v',cr[i]?=some v'∧VRel ρ v v') :
 ∀(k o:Nat) (l:List Value),cellsAt c n o k=some l→l.length=k∧∃l',LR ρ l l'∧∀(j:Nat) x,l'[j]?=some x→cr[o+j]?=some x:=by
 intro k
 induction k with
 | zero=>intro o l h;simp[cellsAt] at h;subst h;exact⟨rfl,[],LR.nil ρ,fun j x hx=>by simp at hx⟩
 | succ k ih =>
   intro o l h
   simp only[cellsAt] at h
   cases hb:Nat.blt o n with
   | false=>simp[hb] at h
   | true =>
     cases hg:c.get o with
     | none=>simp[hb,hg] at h
     | some v =>
       cases hr:cellsAt c n (o+1) k with
       | none=>simp[hb,hg,hr] at h
       | some vs =>
         simp[hb,hg,hr] at h
         subst h
         obtain⟨hl,l',hL,hcr⟩:=ih _ _ hr
         obtain⟨v',h1,h2⟩:=hc o v (by simpa[Nat.blt_eq] using hb) hg
         refine⟨by simp[hl],v' :: l',.cons h2 hL,fun j x hx=>?_⟩
         cases j with
         | zero=>simp at hx;subst hx;exact h1
         | succ j=>have:=hcr j x (by simpa using hx);rw[show o+(j+1)=o+1+j by omega];exact this
theorem run_loadCellsFrom {r o:Nat}:∀(l:List Value) (i:Nat) (acc:Array Value),(∀(j:Nat) x,l[j]?=some x→w.cell? ⟨r,o+(i+j),none⟩=some x)→
 (loadCellsFrom ⟨r,o,none⟩ i l.length acc).run P w= .ok (acc ++ l.toArray) w:=by
 intro l
 induction l with
 | nil=>intro i acc _;simp[loadCellsFrom]
 | cons v l ih =>
   intro i acc h
   have h0:=h 0 v rfl
   have ih':=ih (i+1) (acc.push v) fun j x hx=>by
    have:=h (j+1) x (by simpa using hx)
    rw[show o+(i+1+j)=o+(i+(j+1)) by omega];exact this
   simp only[Nat.add_zero] at h0
   simp only[List.length_cons,loadCellsFrom,Sem.run_bind,addr_add,run_load,h0,Result.andThen_ok,ih']
   simp
theorem run_loadCells {r o:Nat} {l:List Value} (h:∀(j:Nat) x,l[j]?=some x→w.cell? ⟨r,o+j,none⟩=some x) :
 (loadCells ⟨r,o,none⟩ l.length).run P w= .ok l.toArray w:=by
 have:=run_loadCellsFrom (P:=P) (w:=w) (r:=r) (o:=o) l 0 #[] (fun j x hx=>by simpa using h j x hx)
 simpa[loadCells] using this
theorem cell_of {r o:Nat} {cr:Array Value} {t fz} (h:w.heap[r]?=some (.cells cr t fz)):w.cell? ⟨r,o,none⟩=cr[o]?:=by simp[World.cell?,h]
theorem read_cells (hH:HRel P G n0 ρ H nx w) {b:Nat} {p:Plc} (hp:ρ b=some p) {c n t} (hg:H.get b=some (.cells c n t)) {o k l} (h:cellsAt c n o k=some l) :
 ∃l',LR ρ l l'∧l.length=k∧∀(j:Nat) x,l'[j]?=some x→w.cell? ⟨p.r,o+j,none⟩=some x:=by
 obtain⟨p',ro,hp',hro,hor⟩:=hH.objp hp hg
 rw[hp] at hp';injection hp' with hp';subst hp'
 cases hor with
 | cells hn hz hs hc hdm =>
   obtain⟨hl,l',hL,hcr⟩:=cellsAt_spec hc k o l h
   exact⟨l',hL,hl,fun j x hx=>by rw[cell_of hro];exact hcr j x hx⟩
theorem loadR_run {t:TypeId} {c:Tr Value} {n o r:Nat} {cr:Array Value} {t' fz} {v:Value} (hro:w.heap[r]?=some (.cells cr t' fz)) (hc:∀(i:Nat) v,i < n→c.get i=some v→∃v',cr[i]?=some v'∧VRel ρ v v') (h:loadR P t c n o=some v) :
 ∃v',VRel ρ v v'∧(loadVar t ⟨r,o,none⟩).run P w= .ok v' w:=by
 unfold loadR at h
 split at h
 ·rename_i ha
  split at h
  ·rename_i k hk
   split at h
   ·rename_i l hl
    injection h with h;subst h
    obtain⟨hlen,l',hL,hcr⟩:=cellsAt_spec hc k o l hl
    refine⟨.agg ⟨l'⟩,LR.agg hL,?_⟩
    have:=run_loadCells (P:=P) (w:=w) (r:=r) (o:=o) (l:=l') (fun j x hx=>by rw[cell_of hro];exact hcr j x hx)
    rw[←hL.1,hlen] at this
    simp[loadVar,run_isAgg ha,run_sizeOf hk,this]
   ·cases h
  ·cases h
 ·rename_i ha
  split at h
  ·rename_i hb
   obtain⟨v',h1,h2⟩:=hc o v (by simpa[Nat.blt_eq] using hb) h
   exact⟨v',h2,by simp[loadVar,run_isAgg ha,cell_of hro,h1]⟩
  ·cases h
 ·cases h
theorem loadC_run (hH:HRel P G n0 ρ H nx w) {t b o:Nat} {p:Plc} {v:Value} (hp:ρ b=some p) (h:loadC P H t b o=some v) :
 ∃v',VRel ρ v v'∧(loadVar t ⟨p.r,o,none⟩).run P w= .ok v' w:=by
 unfold loadC at h
 split at h
 ·rename_i c n t' hg
  obtain⟨p',ro,hp',hro,hor⟩:=hH.objp hp hg
  rw[hp] at hp';injection hp' with hp';subst hp'
  cases hor with
  | cells hn hz hs hc hdm=>exact loadR_run hro hc h
 ·rename_i c n hg
  obtain⟨p',ro,hp',hro,hor⟩:=hH.objp hp hg
  rw[hp] at hp';injection hp' with hp';subst hp'
  cases hor with
  | rom hc=>exact loadR_run hro hc h
 ·cases h
end
end Go.Proofs.YtiioegopckoldaaGreatDoor.CV
namespace Go.Proofs.YtiioegopckoldaaGreatDoor.CV
open Go Go.RowKit
section
variable {P:Program} {ρ:Ren} {w:World}
theorem kindEq_spec {a b:IntKind} (h:kindEq a b=true):a=b:=by cases a <;> cases b <;> first | rfl | (simp[kindEq] at h)
theorem eqI_spec (a b:Int):eqI a b=(a == b):=by
 have:eqI a b=true↔(a == b)=true:=by cases a <;> cases b <;> simp[eqI] <;> omega
 cases h:eqI a b <;> cases h':(a == b) <;> simp_all
theorem ltI_spec (a b:Int):ltI a b=decide (a < b):=by
 have:ltI a b=true↔a < b:=by cases a <;> cases b <;> simp[ltI,Nat.blt_eq] <;> omega
 cases h:ltI a b <;> simp_all
theorem wrapF_spec (k:IntKind) (n:Int):wrapF k n=k.wrap n:=by
 cases k <;> try rfl
 cases n with
 | ofNat m =>
   simp only[wrapF]
   cases hb:Nat.blt m (2 ^ 63) with
   | true =>
     have:m < 2 ^ 63:=by simpa[Nat.blt_eq] using hb
     simp only[IntKind.wrap_i64,Int.ofNat_eq_natCast];omega
   | false=>rfl
 | negSucc m =>
   simp only[wrapF]
   cases hb:Nat.blt m (2 ^ 63) with
   | true =>
     have:m < 2 ^ 63:=by simpa[Nat.blt_eq] using hb
     simp only[IntKind.wrap_i64];omega
   | false=>rfl
theorem nat?_spec {v:Value} {n:Nat} (h:nat? v=some n):∃k,v= .int k (n:Int):=by
 unfold nat? at h;split at h
 ·injection h with h;subst h;exact⟨_,rfl⟩
 ·cases h
theorem runP_spec {α:Type}:∀(n:Nat) (s:Sem α) (a:α),runP P n s=some a→s.run P w= .ok a w:=by
 intro n
 induction n with
 | zero=>intro s a h;simp[runP] at h
 | succ n ih =>
   intro s a h
   cases s <;> simp only[runP] at h <;> try(simp at h;done)
   ·injection h with h;subst h;rfl
   ·simpa[Sem.run] using ih _ _ h
theorem intC_run {op:BinOp} {t:TypeId} {k:IntKind} {a b:Int} {v:Value} (h:intC op k a b=some v) :
 (binOp op t (.int k a) (.int k b)).run P w= .ok v w∧VRel ρ v v:=by
 have hb:∀op,bitC op k a b=some v→(Op.intBits op k a b).run P w= .ok v w∧VRel ρ v v:=fun op h=>by
  unfold bitC at h
  split at h
  ·rename_i v' hv
   injection h with h;subst h
   refine⟨by rw[hv];rfl,?_⟩
   unfold Op.intBits at hv
   cases op <;> simp only[] at hv <;> first | (injection hv with hv;subst hv;exact .int _ _) | (cases hv)
  ·cases h
 have n1:(!decide (b < a))=decide (a≤b):=by by_cases h:b < a <;> simp[h] <;> omega
 have n2:(!decide (a < b))=decide (b≤a):=by by_cases h:a < b <;> simp[h] <;> omega
 cases op
 case add | sub | mul=>
  simp only[intC,wrapF_spec] at h
  injection h with h;subst h
  exact⟨by simp[binOp,Op.intArith],.int _ _⟩
 case quo | rem=>
  simp only[intC,eqI_spec] at h
  split at h
  ·cases h
  ·rename_i hz
   injection h with h;subst h
   have hz:¬b=0:=by simpa using hz
   exact⟨by simp[binOp,Op.intDiv,hz],.int _ _⟩
 case and | or | xor | andNot=>
  simp only[intC] at h
  have hh:=hb _ h
  exact⟨by simpa only[binOp,ne_eq,not_true_eq_false,if_false] using hh.1,hh.2⟩
 case shl | shr=>simp[intC] at h
 case eql | neq | lss | leq | gtr | geq=>
  simp only[intC,eqI_spec,ltI_spec,n1,n2] at h
  injection h with h;subst h
  exact⟨by simp[binOp,Op.intCmp,bne],.bool _⟩
theorem anyBin_run {op:BinOp} {t:TypeId} {x y:Operand} {a b a' b' v:Value} (ha:VRel ρ a a') (hb:VRel ρ b b') (h:anyBin P op t x y a b=some v) :
 (do eqGuard op t x y a' b';binOp op t a' b':Sem Value).run P w= .ok v w∧VRel ρ v v:=by
 unfold anyBin at h
 split at h
 ·rename_i ho
  simp only[okPair,Bool.and_eq_true] at ho
  rw[okV_eq _ _ _ ho.1 ha,okV_eq _ _ _ ho.2 hb]
  split at h
  ·rename_i u hu
   split at h
   ·rename_i hok
    injection h with h;subst h
    exact⟨runP_spec _ _ _ hu,okV_refl _ _ hok⟩
   ·cases h
  ·cases h
 ·cases h
theorem run_eqGuard_int {op:BinOp} {t:TypeId} {x y:Operand} {k k':IntKind} {a b:Int}:(eqGuard op t x y (.int k a) (.int k' b)).run P w= .ok () w:=by
 unfold eqGuard;cases op <;> simp
theorem depth_succ:∃d,Op.maxDepth=d+1:=⟨9999,rfl⟩
def nil2 (d:TypeDesc) (a b:Value):Bool:=match d,a,b with
 | .pointer _,.pointer (some _),.pointer none=>true | .pointer _,.pointer none,.pointer (some _)=>true
 | .slice _,.slice (some _) _ _,.slice none _ _=>true | .slice _,.slice none _ _,.slice (some _) _ _=>true
 | .map _ _,.map (some _),.map none=>true | .map _ _,.map none,.map (some _)=>true
 | .func _ _ _,.func _ _ _,.nilFunc=>true | .func _ _ _,.nilFunc,.func _ _ _=>true
 | .interface _,.iface _ _,.nilIface=>true | .interface _,.nilIface,.iface _ _=>true
 | _,_,_=>false
theorem equalIn_nil (t:TypeId) (d:TypeDesc) (a b:Value) (hm:nil2 d a b=true) (dd:Nat) (hd:P.underlying t=some d):(Op.equalIn (dd+1) t a b).run P w= .ok false w:=by
 unfold nil2 at hm
 split at hm <;> first
  | (simp at hm;done)
  | (simp only[Op.equalIn,Sem.run_bind,Go.Proofs.YtiioegopckoldaaGreatDoor.CV.run_underlying hd,Result.andThen_ok];rfl)
theorem nil2_plain (t:TypeId) (d:TypeDesc) (a b:Value) (hm:nil2 d a b=true):(∀op x y,(eqGuard op t x y a b).run P w= .ok () w)∧binOp .eql t a b=(do pure (.bool (←Op.equal t a b)))∧binOp .neq t a b=(do pure (.bool (!(←Op.equal t a b)))):=by
 unfold nil2 at hm
 split at hm <;> first
  | (simp at hm;done)
  | exact⟨fun op x y=>by cases op <;> simp[eqGuard],rfl,rfl⟩
theorem equal_nil {t:TypeId} {a b a' b':Value} (ha:VRel ρ a a') (hb:VRel ρ b b') (h:nilC P t a b=true) :
 (Op.equal t a' b').run P w= .ok false w∧(∀op x y,(eqGuard op t x y a' b').run P w= .ok () w)∧binOp .eql t a' b'=(do pure (.bool (←Op.equal t a' b')))∧binOp .neq t a' b'=(do pure (.bool (!(←Op.equal t a' b')))):=by
 obtain⟨dd,hdd⟩:=depth_succ
 unfold nilC at h
 cases hd:P.underlying t with
 | none=>simp[hd] at h
 | some d =>
   simp only[hd] at h
   suffices hm:nil2 d a' b'=true by
    exact⟨by unfold Op.equal;rw[hdd];exact equalIn_nil t d _ _ hm dd hd,nil2_plain t d _ _ hm⟩
   clear hd
   cases d <;> simp only[] at h <;> (try(simp at h;done)) <;> cases ha <;> (try(simp at h;done)) <;> cases hb <;> (try(simp at h;done)) <;> first
    | rfl
    | (rename_i hx _ _ _ _ _ _ hy _;cases hx <;> cases hy <;> first | rfl | (simp at h;done))
    | (rename_i hx _ _ hy;cases hx <;> cases hy <;> first | rfl | (simp at h;done))
end
end Go.Proofs.YtiioegopckoldaaGreatDoor.CV
namespace Go.Proofs.YtiioegopckoldaaGreatDoor.CV
open Go Go.RowKit
section
variable {P:Program} {ρ:Ren} {w:World} {G n0 nx:Nat} {H:Tr CObj}
theorem binC_run {op:BinOp} {t:TypeId} {x y:Operand} {a b a' b' v:Value} (ha:VRel ρ a a') (hb:VRel ρ b b') (h:binC P op t x y a b=some v) :
 (do eqGuard op t x y a' b';binOp op t a' b':Sem Value).run P w= .ok v w∧VRel ρ v v:=by
 unfold binC at h
 split at h
 ·rename_i k n k' m
  have e1:a'= .int k n:=by cases ha;rfl
  have e2:b'= .int k' m:=by cases hb;rfl
  split at h
  ·exact anyBin_run ha hb h
  ·exact anyBin_run ha hb h
  ·split at h
   ·rename_i hk
    have hk:=kindEq_spec hk;subst hk
    have:=intC_run (P:=P) (w:=w) (ρ:=ρ) (t:=t) h
    subst e1 e2
    exact⟨by simp only[Sem.run_bind,run_eqGuard_int,Result.andThen_ok];exact this.1,this.2⟩
   ·cases h
 ·rename_i n m
  split at h
  ·rename_i hle
   injection h with h;subst h
   cases ha
   cases hb with
   | cap hm =>
     have hle:n≤m:=by simpa using hle
     refine⟨?_,.bool _⟩
     simp[eqGuard,binOp,Op.intCmp]
     omega
  ·cases h
 ·split at h
  ·rename_i hn
   obtain⟨h1,h2,h3,h4⟩:=equal_nil (w:=w) ha hb hn
   split at h
   ·injection h with h;subst h
    exact⟨by simp only[Sem.run_bind,h2,Result.andThen_ok,h3,h1];rfl,.bool _⟩
   ·injection h with h;subst h
    exact⟨by simp only[Sem.run_bind,h2,Result.andThen_ok,h4,h1];rfl,.bool _⟩
   ·cases h
  ·exact anyBin_run ha hb h
theorem unC_run {op:UnOp} {a a' v:Value} (ha:VRel ρ a a') (h:unC op a=some v):(Op.unary op a').run P w= .ok v w∧VRel ρ v v:=by
 unfold unC at h
 split at h
 ·rename_i b;cases ha;injection h with h;subst h
  exact⟨by cases b <;> rfl,.bool _⟩
 ·cases ha;injection h with h;subst h
  exact⟨by simp[Op.unary,Op.intArith,wrapF_spec],.int _ _⟩
 ·cases h
theorem bytesC_spec:∀(l:List Value) (bs:List UInt8),bytesC l=some bs→∃ns:List Int,l=ns.map (Value.int .u8)∧bs=ns.map fun n=>UInt8.ofNat n.toNat:=by
 intro l
 induction l with
 | nil=>intro bs h;simp[bytesC] at h;subst h;exact⟨[],rfl,rfl⟩
 | cons v l ih =>
   intro bs h
   unfold bytesC at h
   split at h
   ·rename_i he;cases he
   ·rename_i n l' he
    injection he with he1 he2;subst he1 he2
    split at h
    ·rename_i bs' hb
     injection h with h;subst h
     obtain⟨ns,h1,h2⟩:=ih _ hb
     exact⟨n :: ns,by simp[h1],by simp[h2]⟩
    ·cases h
   ·cases h
theorem push_all:∀(ns:List Int) (s:ByteArray),ns.foldl (fun r n=>r.push (UInt8.ofNat n.toNat)) s=⟨⟨s.data.toList ++ ns.map fun n=>UInt8.ofNat n.toNat⟩⟩:=by
 intro ns
 induction ns with
 | nil=>intro s;cases s;simp
 | cons n ns ih=>intro s;rw[List.foldl_cons,ih];simp[ByteArray.push]
theorem LR_ints {k:IntKind}:∀(ns:List Int) (l:List Value),LR ρ (ns.map (Value.int k)) l→l=ns.map (Value.int k):=by
 intro ns
 induction ns with
 | nil=>intro l h;exact h.of_nil
 | cons n ns ih =>
   intro l h
   obtain⟨v',m,rfl,hv,hm⟩:=h.of_cons
   cases hv
   rw[ih _ hm];rfl
theorem convC_run (hH:HRel P G n0 ρ H nx w) {s d:TypeId} {a a' v:Value} (ha:VRel ρ a a') (h:convC P H s d a=some v) :
 (convert s d a').run P w= .ok v w∧VRel ρ v v:=by
 unfold convC at h
 split at h
 ·rename_i d' k k' n hs hd
  cases ha;injection h with h;subst h
  refine⟨?_,.int _ _⟩
  simp[convert,Go.Proofs.YtiioegopckoldaaGreatDoor.CV.run_underlying hs,Go.Proofs.YtiioegopckoldaaGreatDoor.CV.run_underlying hd,Conv.intToInt,wrapF_spec]
 ·rename_i e b o l c hs hd
  split at h
  ·rename_i cs n t he hg
   split at h
   ·rename_i vs hvs
    split at h
    ·rename_i bs hbs
     injection h with h;subst h
     cases ha with
     | sl hA hC =>
       cases hA with
       | some hp =>
         obtain⟨l',hL,hlen,hc⟩:=read_cells hH hp hg hvs
         obtain⟨ns,rfl,rfl⟩:=bytesC_spec _ _ hbs
         have:=LR_ints _ _ hL;subst this
         refine⟨?_,.string _⟩
         rw[run_convert_bytes_string w s d e _ _ _ hs he hd]
         have hlen':l=(ns.map (Value.int .u8)).length:=hlen.symm
         rw[hlen',run_bytesToString w _ _ _ ns (run_loadCells hc),push_all]
         simp
    ·cases h
   ·cases h
  ·cases h
 ·cases h
theorem cells_rel {v v':Value} (h:VRel ρ v v'):LR ρ v.cells.toList v'.cells.toList:=by
 cases h with
 | agg hs hA=>exact LR.of_arr hs hA
 | _=>exact .cons (by constructor <;> assumption) (LR.nil ρ)
theorem set_rel {l l':List Value} {v v':Value} (h:LR ρ l l') (hv:VRel ρ v v') (k:Nat):LR ρ (l.set k v) (l'.set k v'):=
 ⟨by simp[h.1],fun i x y hx hy=>by
  rw[List.getElem?_set] at hx hy
  split at hx
  ·rename_i e;subst e
   simp only[if_true] at hy
   split at hx
   ·rename_i hk
    rw[if_pos (h.1 ▸ hk)] at hy
    injection hx with hx;injection hy with hy;subst hx hy;exact hv
   ·cases hx
  ·rename_i e
   rw[if_neg e] at hy
   exact h.2 i x y hx hy⟩
theorem fold_rel (off:Nat):∀(l l':List Value) (n:Nat) (cs cs':Array Value),LR ρ l l'→LR ρ cs.toList cs'.toList→
 LR ρ ((l.zipIdx n).foldl (fun cs (p:Value×Nat)=>cs.setIfInBounds (off+p.2) p.1) cs).toList ((l'.zipIdx n).foldl (fun cs (p:Value×Nat)=>cs.setIfInBounds (off+p.2) p.1) cs').toList:=by
 intro l
 induction l with
 | nil=>intro l' n cs cs' h hc;rw[h.of_nil];exact hc
 | cons v l ih =>
   intro l' n cs cs' h hc
   obtain⟨v',m,rfl,hv,hm⟩:=h.of_cons
   simp only[List.zipIdx_cons,List.foldl_cons]
   exact ih m (n+1) _ _ hm (by simpa using set_rel hc hv (off+n))
def PR (ρ:Ren) (l l':List (Nat×Value)):Prop:=l.map (·.1)=l'.map (·.1)∧LR ρ (l.map (·.2)) (l'.map (·.2))
theorem fill_rel (place:Nat→Option (Nat×Nat)):∀(ps ps':List (Nat×Value)) (cs cs' r:Array Value),PR ρ ps ps'→LR ρ cs.toList cs'.toList→
 Instr.fill place cs ps=some r→∃r',Instr.fill place cs' ps'=some r'∧LR ρ r.toList r'.toList:=by
 intro ps
 induction ps with
 | nil =>
   intro ps' cs cs' r hp hc h
   cases ps' with
   | cons p ps'=>exact absurd hp.1 (by simp)
   | nil=>simp[Instr.fill] at h;subst h;exact⟨cs',rfl,hc⟩
 | cons p ps ih =>
   intro ps' cs cs' r hp hc h
   obtain⟨i,v⟩:=p
   cases ps' with
   | nil=>exact absurd hp.1 (by simp)
   | cons p' ps' =>
     obtain⟨i',v'⟩:=p'
     have hi:i=i':=by have:=hp.1;simp at this;exact this.1
     subst hi
     obtain⟨v'',m,he,hv,hm⟩:=LR.of_cons (by simpa using hp.2)
     simp at he
     obtain⟨rfl,he⟩:=he
     subst he
     have hcv:=cells_rel hv
     have hsz:v.cells.size=v'.cells.size:=by simpa using hcv.1
     have hcs:cs.size=cs'.size:=by simpa using hc.1
     simp only[Instr.fill] at h ⊢
     cases hpl:place i with
     | none=>simp[hpl] at h
     | some q =>
       obtain⟨off,size⟩:=q
       simp only[hpl] at h ⊢
       rw[←hsz,←hcs]
       split at h
       ·cases h
       ·rename_i hcond
        simp only[hcond,if_false,Bool.false_eq_true]
        refine ih ps' _ _ _ ⟨by have:=hp.1;simp at this ⊢;exact this,hm⟩ ?_ h
        rw[←Array.foldl_toList,←Array.foldl_toList,Array.toList_zipIdx,Array.toList_zipIdx]
        exact fold_rel off _ _ _ _ _ hcv hc
theorem evs_rel {e:Operand→Option Value} {er:Operand→Value}:∀(l:List Operand) (vs:List Value),(∀x∈l,∀v,e x=some v→VRel ρ v (er x))→evs e l=some vs→LR ρ vs (l.map er):=by
 intro l
 induction l with
 | nil=>intro vs _ h;simp[evs] at h;subst h;exact LR.nil ρ
 | cons x l ih =>
   intro vs he h
   unfold evs at h
   split at h
   ·cases h
   ·rename_i v hv
    split at h
    ·cases h
    ·rename_i us hus
     injection h with h;subst h
     exact .cons (he x (by simp) v hv) (ih us (fun y hy=>he y (by simp[hy])) hus)
theorem parts_rel {e:Operand→Option Value} {er:Operand→Value}:∀(l:List (Nat×Operand)) (vs:List (Nat×Value)),(∀x∈l.map (·.2),∀v,e x=some v→VRel ρ v (er x))→parts e l=some vs→PR ρ vs (l.map fun (i,x)=>(i,er x)):=by
 intro l
 induction l with
 | nil=>intro vs _ h;simp[parts] at h;subst h;exact⟨rfl,LR.nil ρ⟩
 | cons x l ih =>
   intro vs he h
   obtain⟨i,x⟩:=x
   unfold parts at h
   split at h
   ·cases h
   ·rename_i v hv
    split at h
    ·cases h
    ·rename_i us hus
     injection h with h;subst h
     have:=ih us (fun y hy=>he y (by simp at hy ⊢;exact .inr hy)) hus
     exact⟨by simp[this.1],.cons (he x (by simp) v hv) this.2⟩
theorem placesC_run:∀(l:List Field) (ps:List (Nat×Nat)),placesC P l=some ps→
 (l.mapM fun f=>Functor.map (Prod.mk f.offset) (sizeOf f.type)).run P w= .ok ps w:=by
 intro l
 induction l with
 | nil=>intro ps h;simp[placesC] at h;subst h;simp
 | cons f l ih =>
   intro ps h
   unfold placesC at h
   split at h
   ·cases h
   ·rename_i s hs
    split at h
    ·cases h
    ·rename_i us hus
     injection h with h;subst h
     simp[List.mapM_cons,run_sizeOf hs,ih _ hus]
theorem okV_LR {z:Value} (h:okV OKD z=true):LR ρ z.cells.toList z.cells.toList:=cells_rel (okV_refl _ _ h)
theorem buildC_run {t:TypeId} {ps:List (Nat×Value)} {ps':Array (Nat×Value)} {v:Value} (hp:PR ρ ps ps'.toList) (h:buildC P t ps=some v) :
 ∃v',VRel ρ v v'∧(Instr.build t ps').run P w= .ok v' w:=by
 unfold buildC at h
 split at h
 ·cases h
 ·rename_i z hz
  obtain⟨hz1,hz2⟩:=run_zeroValue (w:=w) hz
  split at h
  ·rename_i fs hd
   split at h
   ·cases h
   ·rename_i pl hpl
    split at h
    ·cases h
    ·rename_i cs hf
     injection h with h;subst h
     obtain⟨r',h1,h2⟩:=fill_rel _ _ _ _ _ _ hp (okV_LR hz2) hf
     refine⟨.agg r',LR.agg h2,?_⟩
     have hm:=placesC_run (w:=w) _ _ hpl
     have h1':Instr.fill (fun x=>pl.toArray[x]?) z.cells ps'.toList=some r':=by simpa using h1
     simp only[Instr.build,Sem.run_bind,hz1,Result.andThen_ok,Go.Proofs.YtiioegopckoldaaGreatDoor.CV.run_underlying hd]
     rw[Array.mapM_eq_mapM_toList]
     simp[hm,h1]
  ·rename_i n e hd
   split at h
   ·cases h
   ·rename_i s hs
    split at h
    ·cases h
    ·rename_i cs hf
     injection h with h;subst h
     obtain⟨r',h1,h2⟩:=fill_rel _ _ _ _ _ _ hp (okV_LR hz2) hf
     refine⟨.agg r',LR.agg h2,?_⟩
     simp[Instr.build,hz1,Go.Proofs.YtiioegopckoldaaGreatDoor.CV.run_underlying hd,run_sizeOf hs,h1]
  ·cases h
end
end Go.Proofs.YtiioegopckoldaaGreatDoor.CV
namespace Go.Proofs.YtiioegopckoldaaGreatDoor.CV
open Go Go.RowKit
section
variable {P:Program} {ρ:Ren} {w:World} {G n0 nx:Nat} {H:Tr CObj}
theorem blt_false {a b:Nat} (h:Nat.blt a b=false):¬a < b:=fun hlt=>by rw[←Nat.blt_eq,h] at hlt;cases hlt
def LightOk (P:Program) (ρ:Ren) (w:World) (b:Nat) (s:Sem Next) (v:Value):Option CObj→Prop
 | none=>∃v',VRel ρ v v'∧s.run P w= .ok (.value v') w
 | some c=>∃v' ro p,p.r=w.heap.size∧s.run P w= .ok (.value v') {w with heap:=w.heap.push ro }∧∀ρ':Ren,ρ.le ρ'→ρ' b=some p→VRel ρ' v v'∧ORel P ρ' p c ro
theorem mk_rel {l l':List Value} {t:TypeId} {r:Nat} (h:LR ρ l l'):ORel P ρ ⟨r,l'.length,(sizeC P t).getD 0⟩ (mkCells l t) (.cells ⟨l'⟩ t (0,0)):=by
 refine .cells (by simp[h.1]) (by simp) (fun s hs=>by simp[hs]) (fun i v hi hv=>?_) fun i v hv=>(List.getElem?_eq_some_iff.1 (ofList_get _ _ _ _ hv)).1
 obtain⟨y,h1,h2⟩:=h.get (ofList_get _ _ _ _ hv)
 exact⟨y,by simpa using h1,h2⟩
theorem new_row {l l':List Value} {t:TypeId} {b:Nat} (h:LR ρ l l') (s:Sem Next) {v v':Value}
 (hs:s.run P w= .ok (.value v') {w with heap:=w.heap.push (.cells ⟨l'⟩ t (0,0)) })
 (hv:∀ρ':Ren,ρ' b=some ⟨w.heap.size,l'.length,(sizeC P t).getD 0⟩→VRel ρ' v v'):LightOk P ρ w b s v (some (mkCells l t)):=
 ⟨v',_,_,rfl,hs,fun ρ' hle hb=>⟨hv ρ' hb,mk_rel (h.mono hle)⟩⟩
theorem ptr_new {ρ':Ren} {b:Nat} {r sz es:Nat} (h:ρ' b=some ⟨r,sz,es⟩):VRel ρ' (.pointer (some ⟨b,0,none⟩)) (.pointer (some ⟨r,0,none⟩)):= .ptr (.some h)
theorem sl_new {ρ':Ren} {b:Nat} {r sz es l c:Nat} (hc:c < CAP) (h:ρ' b=some ⟨r,sz,es⟩):VRel ρ' (.slice (some ⟨b,0,none⟩) l c) (.slice (some ⟨r,0,none⟩) l c):= .sl (.some h) (.eq hc)
theorem buildSliceC_run {t et:TypeId} {len:Nat} {ps:List (Nat×Value)} {ps':Array (Nat×Value)} {cs:Array Value} (hp:PR ρ ps ps'.toList) (h:buildSliceC P t len ps=some (cs,et)) :
 len < CAP∧∃cs':Array Value,LR ρ cs.toList cs'.toList∧(Instr.buildSlice t len ps').run P w= .ok (.slice (some ⟨w.heap.size,0,none⟩) len len) {w with heap:=w.heap.push (.cells cs' et (0,0)) }:=by
 unfold buildSliceC at h
 split at h
 ·rename_i e hd
  split at h
  ·cases h
  ·rename_i s hs
   split at h
   ·cases h
   ·rename_i hb
    have hb:¬(2 ^ 24 < len*s)∧len < CAP:=by
     simp at hb;exact⟨blt_false hb.1,hb.2⟩
    refine⟨hb.2,?_⟩
    split at h
    ·cases h
    ·rename_i zero hz
     split at h
     ·cases h
     ·rename_i r hf
      injection h with h;injection h with h1 h2;subst h1 h2
      have hzz:∃zz:Array Value,LR ρ zero.toList zero.toList∧(if len*s=0 then pure #[] else do pure (←zeroValue e).cells:Sem (Array Value)).run P w= .ok zero w:=by
       refine⟨zero,?_⟩
       split at hz
       ·rename_i h0
        injection hz with hz;subst hz
        exact⟨LR.nil ρ,by simp[h0]⟩
       ·rename_i h0
        split at hz
        ·rename_i z hzv
         injection hz with hz;subst hz
         obtain⟨z1,z2⟩:=run_zeroValue (w:=w) hzv
         have:¬len*s=0:=fun e=>h0 e
         exact⟨okV_LR z2,by simp only[if_neg this,Sem.run_bind,z1,Result.andThen_ok];rfl⟩
        ·cases hz
      obtain⟨_,hzL,hzr⟩:=hzz
      have hL:LR ρ ((Array.range (len*s)).map (zero[· % zero.size]!)).toList ((Array.range (len*s)).map (zero[· % zero.size]!)).toList:=by
       refine⟨rfl,fun i x y hx hy=>?_⟩
       rw[hx] at hy;injection hy with hy;subst hy
       simp only[Array.toList_map,List.getElem?_map,Option.map_eq_some_iff] at hx
       obtain⟨j,_,hj⟩:=hx
       subst hj
       by_cases hi:j % zero.size < zero.size
       ·have:zero[j % zero.size]! =zero[j % zero.size]:=by simp[hi]
        rw[this]
        exact hzL.2 (j % zero.size) _ _ (by simp[hi]) (by simp[hi])
       ·have:zero[j % zero.size]! =(default:Value):=by simp[hi]
        rw[this];exact .bool _
      obtain⟨r',f1,f2⟩:=fill_rel _ _ _ _ _ _ hp hL hf
      refine⟨r',f2,?_⟩
      have hb1:¬(len*s > 2 ^ 24):=hb.1
      by_cases h0:len*s=0
      ·have h0z:zero= #[]:=by simp[h0] at hzr;first | exact hzr | exact hzr.symm
       subst h0z
       rw[h0] at f1
       simp only[Instr.buildSlice,Sem.run_bind,Go.Proofs.YtiioegopckoldaaGreatDoor.CV.run_underlying hd,Result.andThen_ok,run_sizeOf hs,Sem.run_ite,h0,if_true,Sem.run_pure,Nat.not_lt_zero,if_false,Nat.zero_le,f1,newRow]
       simp[f1]
      ·split at hz
       ·rename_i h0';exact absurd h0' h0
       ·split at hz
        ·rename_i z hzv
         injection hz with hz;subst hz
         obtain⟨z1,z2⟩:=run_zeroValue (w:=w) hzv
         simp only[Instr.buildSlice,Sem.run_bind,Go.Proofs.YtiioegopckoldaaGreatDoor.CV.run_underlying hd,Result.andThen_ok,run_sizeOf hs,Sem.run_ite,if_neg h0,if_neg hb1,z1,Sem.run_pure,f1,newRow]
         simp[f1]
        ·cases hz
 ·cases h
end
end Go.Proofs.YtiioegopckoldaaGreatDoor.CV
