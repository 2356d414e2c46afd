/- lemmas for topRented_holds: QDF. No conditions. -/
import Derived.Test.YtiioegopckoldaaGreatDoorK34
set_option linter.unusedVariables false
set_option linter.unusedSimpArgs false
namespace Go.Proofs.YtiioegopckoldaaGreatDoor.CV
open Go Go.RowKit
section
variable {P:Program} {ρ:Ren} {w:World} {G n0 nx:Nat} {H:Tr CObj}
theorem HRel.of_heap (hH:HRel P G n0 ρ H nx w) {w':World} (h:w'.heap=w.heap):HRel P G n0 ρ H nx w':=
 ⟨by rw[h];exact hH.obj,hH.inj,by rw[h];exact hH.dom,hH.glob,hH.low,by rw[h];exact hH.big⟩
theorem below_of_heap {w w':World} (n0:Nat) (h:w'.heap=w.heap) (ho:w'.os=w.os) (ht:w'.tape=w.tape) (hu:w'.output=w.output):Below n0 w w':=
 ⟨ho,ht,hu,by rw[h];exact Nat.le_refl _,fun k _=>by rw[h]⟩
theorem srcC_run (hH:HRel P G n0 ρ H nx w) {s n:Nat} {v v':Value} {l:List Value} (hv:VRel ρ v v') (h:srcC H s n v=some l) :
 ∃l',LR ρ l l'∧l.length=n*s∧∀w2:World,w2.heap=w.heap→(Builtin.firstCells s n v').run P w2= .ok l'.toArray w2:=by
 unfold srcC at h
 split at h
 ·rename_i b o len c
  split at h
  ·rename_i cs m t hg
   cases hv with
   | sl hA hC =>
     cases hA with
     | some hp =>
       obtain⟨l',hL,hlen,hc⟩:=read_cells hH hp hg h
       refine⟨l',hL,hlen,fun w2 hw=>?_⟩
       have:=run_loadCells (P:=P) (w:=w2) (r:=_) (o:=o) (l:=l') (fun j x hx=>by have:=hc j x hx;simpa only[World.cell?,hw] using this)
       rw[←hL.1,hlen] at this
       exact this
  ·cases h
 ·cases hv with
  | sl hA hC =>
    cases hA
    split at h
    ·rename_i hn
     injection h with h;subst h
     have hn:n=0:=by simpa using hn
     exact⟨[],LR.nil ρ,by simp[hn],fun w2 _=>rfl⟩
    ·cases h
 ·cases h
structure TailOk (P:Program) (w:World) (i:TypeInfo) (e t1:TypeId) (x':Value) (n:Nat) (new':List Value):Prop where
 row:(∃d,P.underlying t1=some (.slice d)∧(∃a c,x'= .slice a n c)∧∀w2:World,w2.heap=w.heap→(Builtin.firstCells i.size n x').run P w2= .ok new'.toArray w2)∨
  (∃k k',P.underlying t1=some (.int k)∧x'= .int k' (n:Int)∧n < 2 ^ 20∧n*i.bytes < 2 ^ 30∧((n*i.size=0∧new'=[])∨(¬n*i.size=0∧∃z,(∀w2:World,(zeroValue e).run P w2= .ok z w2)∧Builtin.zeroCells z.cells n=new'.toArray)))
theorem tailC_run (hH:HRel P G n0 ρ H nx w) {i:TypeInfo} {e t1:TypeId} {x x':Value} {n:Nat} {new:List Value} (hx:VRel ρ x x') (h:tailC P H i e t1 x=some (n,new)) :
 ∃new',LR ρ new new'∧new.length=n*i.size∧TailOk P w i e t1 x' n new':=by
 unfold tailC at h
 split at h
 ·rename_i d xb m xc hd
  split at h
  ·rename_i l hl
   injection h with h;injection h with h1 h2;subst h1 h2
   obtain⟨l',hL,hlen,hrun⟩:=srcC_run hH hx hl
   cases hx with
   | sl hA hC=>exact⟨l',hL,hlen,⟨.inl ⟨d,hd,⟨_,_,rfl⟩,hrun⟩⟩⟩
  ·cases h
 ·rename_i k k' m hd
  split at h
  ·rename_i hb
   simp only[Bool.and_eq_true,Nat.blt_eq] at hb
   cases hx
   split at h
   ·rename_i h0
    have h0:m*i.size=0:=by simpa using h0
    injection h with h;injection h with h1 h2;subst h1 h2
    exact⟨[],LR.nil ρ,by simp[h0],⟨.inr ⟨k,k',hd,rfl,hb.1,hb.2,.inl ⟨h0,rfl⟩⟩⟩⟩
   ·rename_i h0
    have h0:¬m*i.size=0:=by simpa using h0
    split at h
    ·rename_i z hz
     split at h
     ·rename_i hs
      have hs:z.cells.size=i.size:=by simpa using hs
      injection h with h;injection h with h1 h2;subst h1 h2
      have z2:=(run_zeroValue (w:=w) hz).2
      refine⟨_,replicate_LR z2 m,by rw[(replicateL_eq _ _).1];simp[hs],⟨.inr ⟨k,k',hd,rfl,hb.1,hb.2,.inr ⟨h0,z,fun w2=>(run_zeroValue hz).1,?_⟩⟩⟩⟩
      rw[Builtin.zeroCells,range_eq]
     ·cases h
    ·cases h
  ·cases h
 ·cases h
theorem growBy_le (newLen:Nat):∀(k c:Nat),c≤2*newLen→Builtin.growBy newLen k c≤2*newLen+192:=by
 intro k
 induction k with
 | zero=>intro c hc;simp[Builtin.growBy];omega
 | succ k ih =>
   intro c hc
   simp only[Builtin.growBy]
   split
   ·omega
   ·rename_i h
    by_cases hk:c+(c+768) / 4≤2*newLen
    ·exact ih _ hk
    ·
     have:Builtin.growBy newLen k (c+(c+768) / 4)=c+(c+768) / 4:=by
      cases k with
      | zero=>rfl
      | succ k=>simp only[Builtin.growBy];rw[if_pos (by omega)]
     rw[this];omega
theorem nextcap_le {need cap:Nat} (h:cap < need):Builtin.nextslicecap need cap≤2*need+192:=by
 unfold Builtin.nextslicecap
 split
 ·omega
 ·split
  ·omega
  ·exact growBy_le _ _ _ (by omega)
theorem append_run_in {ts:Array TypeId} {tt t t1 e:TypeId} {i:TypeInfo} {base:Option Addr} {l n cap:Nat} {x':Value} {new':List Value} (ht0:ts[0]?=some t) (ht1:ts[1]?=some t1) (hd:P.underlying t=some (.slice e)) (hi:P.info? e=some i)
 (hT:TailOk P w i e t1 x' n new') (hle:l+n≤cap) {w':World} (hst:(match base with | some a=>storeCells (a.add (l*i.size)) new' | none=>pure ()).run P w= .ok () w') :
 (Builtin.append_ ts tt #[.slice base l cap,x']).run P w= .ok (.slice base (l+n) cap) w':=by
 have hsz:=run_sizeOf (w:=w) (sizeC_info hi)
 have hti:=run_typeInfo (w:=w) hi
 have a0:(#[Value.slice base l cap,x']:Array Value)[0]?=some (.slice base l cap):=rfl
 have a1:(#[Value.slice base l cap,x']:Array Value)[1]?=some x':=rfl
 rcases hT.row with⟨d,hd1,⟨a,c,rfl⟩,hr⟩ | ⟨k,k',hd1,rfl,hn,hb,hz⟩
 ·have hr:=hr w rfl
  simp only[Builtin.append_,ht0,ht1,a0,a1,Sem.run_bind,Go.Proofs.YtiioegopckoldaaGreatDoor.CV.run_underlying hd,Go.Proofs.YtiioegopckoldaaGreatDoor.CV.run_underlying hd1,Result.andThen_ok,hsz,Sem.run_pure,Bool.false_eq_true,if_false,Builtin.lenOf,hle,if_true,Bool.not_false,hr]
  cases base <;> simp_all
 ·have hbz:¬((n:Int)*(i.bytes:Int) > 2 ^ 48):=by
   have:((n*i.bytes:Nat):Int) < 1073741824:=by omega
   rw[Int.natCast_mul] at this;omega
  have hw:=wrap_small (n:=n) (by omega)
  have hn0:¬((n:Int) < 0):=by omega
  simp only[Builtin.append_,ht0,ht1,a0,a1,Sem.run_bind,Go.Proofs.YtiioegopckoldaaGreatDoor.CV.run_underlying hd,Go.Proofs.YtiioegopckoldaaGreatDoor.CV.run_underlying hd1,Result.andThen_ok,hsz,Sem.run_pure,asInt,asIntOf]
  rw[if_pos trivial]
  simp only[pure_bind,hw]
  rw[if_neg hn0,Sem.run_bind,hti,Result.andThen_ok,if_neg hbz]
  simp only[pure_bind,Int.toNat_natCast]
  rw[if_pos hle]
  simp only[Bool.not_true,Bool.false_eq_true,if_false]
  rcases hz with⟨h0,rfl⟩ | ⟨h0,z,hz,hzc⟩
  ·rw[if_pos h0,pure_bind]
   cases base with
   | none=>simpa using hst
   | some a=>simp only[] at hst;simp only[Sem.run_bind,hst,Result.andThen_ok];rfl
  ·rw[if_neg h0]
   simp only[bind_assoc,pure_bind]
   rw[Sem.run_bind,hz w,Result.andThen_ok,hzc]
   cases base with
   | none=>simpa using hst
   | some a=>simp only[] at hst;simp only[Sem.run_bind,hst,Result.andThen_ok];rfl
theorem append_run_grow {ts:Array TypeId} {tt t t1 e:TypeId} {i:TypeInfo} {base:Option Addr} {l n cap:Nat} {x' z:Value} {new' old':List Value} (ht0:ts[0]?=some t) (ht1:ts[1]?=some t1) (hd:P.underlying t=some (.slice e)) (hi:P.info? e=some i)
 (hT:TailOk P w i e t1 x' n new') (hle:cap < l+n) (hz:∀w2:World,(zeroValue e).run P w2= .ok z w2) (hold:∀w2:World,w2.heap=w.heap→(Builtin.firstCells i.size l (.slice base l cap)).run P w2= .ok old'.toArray w2)
 (hb1:2*(l+n)*i.bytes < 2 ^ 30) (hb2:2*(l+n) < 2 ^ 30) :
 ∃c',l+n≤c'∧(Builtin.append_ ts tt #[.slice base l cap,x']).run P w =
  .ok (.slice (some ⟨w.heap.size,0,none⟩) (l+n) c') {w with drawn:=w.drawn+1,heap:=w.heap.push (.cells (old'.toArray ++ new'.toArray ++ Builtin.zeroCells z.cells (c'-(l+n))) e (0,0)) }:=by
 have hsz:=run_sizeOf (w:=w) (sizeC_info hi)
 have hti:∀w,(typeInfo e).run P w= .ok i w:=fun w=>run_typeInfo (w:=w) hi
 have a0:(#[Value.slice base l cap,x']:Array Value)[0]?=some (.slice base l cap):=rfl
 have a1:(#[Value.slice base l cap,x']:Array Value)[1]?=some x':=rfl
 have hnle:¬(l+n≤cap):=by omega
 have hmax:¬(((l+n:Nat):Int) > IntKind.i64.max):=by
  have:IntKind.i64.max=9223372036854775807:=by decide
  rw[this];omega
 have hnext:¬(Builtin.nextslicecap (l+n) cap*i.bytes > 2 ^ 48):=by
  have h1:=nextcap_le hle
  have h2:i.bytes < 2 ^ 30:=by
   have:1*i.bytes≤2*(l+n)*i.bytes:=Nat.mul_le_mul_right _ (by omega)
   omega
  have h3:Builtin.nextslicecap (l+n) cap*i.bytes≤(2*(l+n)+192)*i.bytes:=Nat.mul_le_mul_right _ h1
  rw[Nat.add_mul] at h3
  omega
 have hforced:(Question.appendCap (l+n) cap e).forced=false:=rfl
 refine⟨(Question.appendCap (l+n) cap e).cut (w.tape w.drawn (.appendCap (l+n) cap e)),by simp[Question.cut],?_⟩
 have hdr:({w with drawn:=w.drawn+1 }:World).heap=w.heap:=rfl
 rcases hT.row with⟨d,hd1,⟨a,c,rfl⟩,hr⟩ | ⟨k,k',hd1,rfl,hn,hb,hzz⟩
 ·simp only[Builtin.append_,ht0,ht1,a0,a1,Sem.run_bind,Go.Proofs.YtiioegopckoldaaGreatDoor.CV.run_underlying hd,Go.Proofs.YtiioegopckoldaaGreatDoor.CV.run_underlying hd1,Result.andThen_ok,hsz,Sem.run_pure]
  rw[if_neg (by simp)]
  simp only[Builtin.lenOf,pure_bind]
  rw[if_neg hnle,Sem.run_bind,hti,Result.andThen_ok,if_neg (fun h=>hmax h.1)]
  try simp only[pure_bind]
  rw[Sem.run_bind,hti,Result.andThen_ok,if_neg hnext]
  simp only[pure_bind,Sem.run_bind,run_choose,hforced,Bool.false_eq_true,if_false,Result.andThen_ok,hti,run_askRoom,hold _ hdr,hr _ hdr,Bool.not_false,if_true,hz,newRow,run_newObj,Sem.run_pure]
 ·have hbz:¬((n:Int)*(i.bytes:Int) > 2 ^ 48):=by
   have:((n*i.bytes:Nat):Int) < 1073741824:=by omega
   rw[Int.natCast_mul] at this;omega
  have hw:=wrap_small (n:=n) (by omega)
  have hn0:¬((n:Int) < 0):=by omega
  simp only[Builtin.append_,ht0,ht1,a0,a1,Sem.run_bind,Go.Proofs.YtiioegopckoldaaGreatDoor.CV.run_underlying hd,Go.Proofs.YtiioegopckoldaaGreatDoor.CV.run_underlying hd1,Result.andThen_ok,hsz,Sem.run_pure,asInt,asIntOf]
  rw[if_pos trivial]
  simp only[pure_bind,hw]
  rw[if_neg hn0,Sem.run_bind,hti,Result.andThen_ok,if_neg hbz]
  simp only[pure_bind,Int.toNat_natCast]
  rw[if_neg hnle,Sem.run_bind,hti,Result.andThen_ok,if_neg (fun h=>hmax h.1)]
  try simp only[pure_bind]
  rw[Sem.run_bind,hti,Result.andThen_ok,if_neg hnext]
  simp only[pure_bind,Sem.run_bind,run_choose,hforced,Bool.false_eq_true,if_false,Result.andThen_ok,hti,run_askRoom,hold _ hdr,Bool.not_true]
  rcases hzz with⟨h0,rfl⟩ | ⟨h0,z',hz',hzc⟩
  ·simp only[if_pos h0,pure_bind,Sem.run_bind,Sem.run_pure,Result.andThen_ok,hz,newRow,run_newObj]
  ·have hzz:z'=z:=by have h1:=hz w;rw[hz' w] at h1;injection h1
   subst hzz
   simp only[if_neg h0,bind_assoc,pure_bind,Sem.run_bind,Sem.run_pure,Result.andThen_ok,hz',hzc,newRow,run_newObj]
theorem HRel.move (hH:HRel P G n0 ρ H nx w) {b:Nat} {p:Plc} {o o':CObj} {ro:Obj} {H':Tr CObj} {w':World} (hb:G≤b) (hg:H.get b=some o) (hp:ρ b=some p)
 (hH':∀j x,H'.get j=some x→(j=nx→x=o')∧(j≠nx→j≠b∧H.get j=some x)) (hu:Upd w w' p.r) (hr:w'.heap[p.r]?=some ro) (ho:ORel P (ρ.ext nx p) p o' ro) :
 HRel P G n0 (ρ.ext nx p) H' (nx+1) w':=by
 have hle:=ρ.ext_le p (hH.fresh (Nat.le_refl nx))
 have old:∀j q,j≠nx→ρ.ext nx p j=some q→ρ j=some q:=fun j q hj hq=>by simpa[Ren.ext,hj] using hq
 refine⟨fun j x q hx hq=>?_,fun j j' x x' q q' hx hx' hq hq' e=>?_,fun j q hq=>?_,fun g hg=>?_,by have:=hH.low;omega,by rw[hu.size];exact hH.big⟩
 ·by_cases hj:j=nx
  ·have:=(hH' j x hx).1 hj;subst hj this
   rw[ρ.ext_self] at hq;injection hq with hq;subst hq
   exact⟨ro,hr,ho⟩
  ·obtain⟨hjb,hx'⟩:=(hH' j x hx).2 hj
   have h1:=old _ _ hj hq
   obtain⟨rq,h2,h3⟩:=hH.obj j x q hx' h1
   refine⟨rq,?_,h3.mono _ hle⟩
   rw[hu.block _ fun e=>hjb (hH.inj _ _ _ _ _ _ hx' hg h1 hp e)];exact h2
 ·by_cases hj:j=nx <;> by_cases hj':j'=nx
  ·omega
  ·subst hj
   rw[ρ.ext_self] at hq;injection hq with hq;subst hq
   obtain⟨h1,h2⟩:=(hH' j' x' hx').2 hj'
   exact absurd (hH.inj _ _ _ _ _ _ h2 hg (old _ _ hj' hq') hp e.symm) h1
  ·subst hj'
   rw[ρ.ext_self] at hq';injection hq' with hq';subst hq'
   obtain⟨h1,h2⟩:=(hH' j x hx).2 hj
   exact absurd (hH.inj _ _ _ _ _ _ h2 hg (old _ _ hj hq) hp e) h1
  ·exact hH.inj _ _ _ _ _ _ ((hH' j x hx).2 hj).2 ((hH' j' x' hx').2 hj').2 (old _ _ hj hq) (old _ _ hj' hq') e
 ·rw[hu.size]
  by_cases hj:j=nx
  ·subst hj
   rw[ρ.ext_self] at hq;injection hq with hq;subst hq
   have:=hH.dom b p hp
   exact⟨by omega,this.2.1,fun _=>this.2.2 hb⟩
  ·obtain⟨h1,h2,h3⟩:=hH.dom j q (old _ _ hj hq)
   exact⟨by omega,h2,h3⟩
 ·obtain⟨q,h1,h2⟩:=hH.glob g hg
  exact⟨q,hle _ _ h1,h2⟩
theorem stores_run {r:Nat} {t:TypeId}:∀(l:List Value) (o i:Nat) (cr:Array Value) (w:World),(∀v∈l,v.oneCell'=true)→w.heap[r]?=some (.cells cr t (0,0))→o+i+l.length≤cr.size→
 ∃cr' w',(storeCells ⟨r,o,none⟩ l i).run P w= .ok () w'∧Upd w w' r∧w'.heap[r]?=some (.cells cr' t (0,0))∧cr'.size=cr.size∧
  (∀j:Nat,j < o+i→cr'[j]?=cr[j]?)∧(∀(j:Nat) x,l[j]?=some x→cr'[o+i+j]?=some x):=by
 intro l
 induction l with
 | nil=>intro o i cr w _ hr _;exact⟨cr,w,rfl,.refl _ _,hr,rfl,fun _ _=>rfl,fun j x hx=>by simp at hx⟩
 | cons v l ih =>
   intro o i cr w h1 hr hn
   simp only[List.length_cons] at hn
   have hlt:o+i < cr.size:=by omega
   have hst:(store ((⟨r,o,none⟩:Addr).add i) v).run P w= .ok () (w.setCell ⟨r,o+i,none⟩ v):=by
    rw[addr_add,run_store P w _ _ _ (h1 v (by simp)),cell_of hr]
    simp[hlt,World.frozen?,hr]
   obtain⟨cr',w',k1,k2,k3,k4,k5,k6⟩:=ih o (i+1) (cr.setIfInBounds (o+i) v) (w.setCell ⟨r,o+i,none⟩ v) (fun x hx=>h1 x (by simp[hx])) (setCell_at v hr) (by simp;omega)
   refine⟨cr',w',by simp only[storeCells,Sem.run_bind,hst,Result.andThen_ok,k1],(Upd.setCell w r (o+i) v).trans k2,k3,by simpa using k4,fun j hj=>?_,fun j x hx=>?_⟩
   ·rw[k5 j (by omega),Array.getElem?_setIfInBounds,if_neg (by omega)]
   ·cases j with
    | zero=>simp at hx;subst hx;rw[Nat.add_zero,k5 _ (by omega)];simp[hlt]
    | succ j=>have:=k6 j x (by simpa using hx);rw[show o+i+(j+1)=o+(i+1)+j by omega];exact this
theorem appendK_run {β:Type} (hH:HRel P G n0 ρ H nx w) {ts:Array TypeId} {tt t t1:TypeId} {s s' x x':Value} {K:Value→Tr CObj→Nat→Option β} {out:β} (ht0:ts[0]?=some t) (ht1:ts[1]?=some t1)
 (hs:VRel ρ s s') (hx:VRel ρ x x') (h:appendK P G H nx t t1 s x K=some out) :
 ∃ρ' v v' H' nx' w',(ρ.le ρ'∧∀b,b < nx→ρ' b=ρ b)∧nx≤nx'∧K v H' nx'=some out∧VRel ρ' v v'∧(Builtin.append_ ts tt #[s',x']).run P w= .ok v' w'∧HRel P G n0 ρ' H' nx' w'∧Below n0 w w':=by
 unfold appendK at h
 split at h
 ·rename_i e base l cap hd
  split at h
  ·cases h
  ·rename_i i hi
   split at h
   ·cases h
   ·rename_i n new hT
    obtain⟨new',hnew,hnlen,hTt⟩:=tailC_run hH hx hT
    cases hs with
    | sl hA hC =>
      rename_i base' cap'
      have hlow:=lowC_le hC
      split at h
      ·
       rename_i hle
       have hle : l + n ≤ cap' := by have : l + n ≤ lowC cap := by simpa using hle
                                     omega
       unfold placeK at h
       split at h
       ·cases hA
        split at h
        ·rename_i hne
         have hne:new=[]:=by simpa using hne
         subst hne
         rw[hnew.of_nil] at hTt
         exact⟨ρ,_,_,H,nx,w,⟨.refl ρ,fun _ _=>rfl⟩,Nat.le_refl _,h,.sl .none (by cases hC with | eq h=>exact .eq h | low _ _ ha=>cases ha),append_run_in ht0 ht1 hd hi hTt hle rfl,hH,Below.refl _ _⟩
        ·cases h
       ·rename_i b o
        cases hA with
        | some hp =>
          split at h
          ·rw[hnew.of_nil] at hTt
           exact⟨ρ,_,_,H,nx,w,⟨.refl ρ,fun _ _=>rfl⟩,Nat.le_refl _,h,.sl (.some hp) (by cases hC with | eq h=>exact .eq h | low a1 a2 a3 a4 a5=>exact .low a1 a2 a3 a4 a5),append_run_in ht0 ht1 hd hi hTt hle rfl,hH,Below.refl _ _⟩
          ·obtain⟨H',w',k1,k2,k3,k4⟩:=storeK_run hH hp hnew h
           refine⟨ρ,_,_,H',nx,w',⟨.refl ρ,fun _ _=>rfl⟩,Nat.le_refl _,k1,.sl (.some hp) (by cases hC with | eq h=>exact .eq h | low a1 a2 a3 a4 a5=>exact .low a1 a2 a3 a4 a5),append_run_in ht0 ht1 hd hi hTt hle ?_,k3,k4⟩
           simp only[addr_add];exact k2
       ·cases h
      ·
       rename_i hnle
       have hnle:¬l+n≤lowC cap:=by simpa using hnle
       unfold growK at h
       split at h
       ·rename_i old z hold hz
        split at h
        ·rename_i hb
         simp only[Bool.and_eq_true,Nat.blt_eq] at hb
         obtain⟨⟨hb1,hb2⟩,hzs⟩:=hb
         have hzs:z.cells.size=i.size:=by simpa using hzs
         obtain⟨old',hoL,holen,horun⟩:=srcC_run hH (.sl (l:=l) hA hC) hold
         have hzr:∀w2:World,(zeroValue e).run P w2= .ok z w2:=fun w2=>(run_zeroValue hz).1
         have hzl:∀k,(Builtin.zeroCells z.cells k).size=k*i.size:=fun k=>by rw[Builtin.zeroCells];simp[hzs]
         have hLL:=hoL.append hnew
         have grow:∀(H1:Tr CObj) (H':Tr CObj),cap' < l+n→(∀j x,H1.get j=some x→H.get j=some x)→(∀j x,H'.get j=some x→(j=nx→x=mkCells (old ++ new) e)∧(j≠nx→H1.get j=some x))→
          K (.slice (some ⟨nx,0,none⟩) (l+n) (CAP+(l+n))) H' (nx+1)=some out→
          ∃ρ' v v' H' nx' w',(ρ.le ρ'∧∀b,b < nx→ρ' b=ρ b)∧nx≤nx'∧K v H' nx'=some out∧VRel ρ' v v'∧(Builtin.append_ ts tt #[.slice base' l cap',x']).run P w= .ok v' w'∧HRel P G n0 ρ' H' nx' w'∧Below n0 w w':=by
          intro H1 H' hlt hsub hget hK
          obtain⟨c',hc',hrun⟩:=append_run_grow (tt:=tt) ht0 ht1 hd hi hTt hlt hzr horun hb1 hb2
          let p:Plc:=⟨w.heap.size,(old'.toArray ++ new'.toArray ++ Builtin.zeroCells z.cells (c'-(l+n))).size,i.size⟩
          have hle:=ρ.ext_le p (hH.fresh (Nat.le_refl nx))
          have hsz:(old'.toArray ++ new'.toArray ++ Builtin.zeroCells z.cells (c'-(l+n))).size=c'*i.size:=by
           simp only[Array.size_append,List.size_toArray,hzl,←hoL.1,←hnew.1,holen,hnlen]
           rw[←Nat.add_mul,←Nat.add_mul];congr 1;omega
          have hH1:HRel P G n0 ρ H1 nx {w with drawn:=w.drawn+1 }:=(hH.sub hsub).of_heap rfl
          have hor:ORel P (ρ.ext nx p) p (mkCells (old ++ new) e) (.cells (old'.toArray ++ new'.toArray ++ Builtin.zeroCells z.cells (c'-(l+n))) e (0,0)):=by
           refine .cells (by have:=hoL.1;have:=hnew.1;simp;omega) rfl (fun s hs=>by rw[sizeC_info hi] at hs;injection hs) (fun j v hj hv=>?_) fun j v hv=>(List.getElem?_eq_some_iff.1 (ofList_get _ _ _ _ hv)).1
           obtain⟨y,h1,h2⟩:=hLL.get (ofList_get _ _ _ _ hv)
           refine⟨y,?_,h2.mono hle⟩
           have hlt':j < (old' ++ new').length:=(List.getElem?_eq_some_iff.1 h1).1
           rw[Array.getElem?_append_left (by simpa using hlt')]
           simpa using h1
          have hnew:=hH1.new (b:=nx) (p:=p) (Nat.le_refl _) rfl hget hor
          refine⟨ρ.ext nx p,_,_,H',nx+1,_,⟨hle,fun b hb=>by simp[Ren.ext];omega⟩,by omega,hK,?_,hrun,hnew,?_⟩
          ·refine .sl (.some (ρ.ext_self nx p)) (.low (by omega) (by omega) rfl (ρ.ext_self nx p) ?_)
           show 0+c'*i.size≤_
           rw[show p.sz=c'*i.size from hsz];omega
          ·exact(below_of_heap (w:=w) (w':={w with drawn:=w.drawn+1 }) n0 rfl rfl rfl rfl).trans (below_push {w with drawn:=w.drawn+1 } n0 _ hH1.big)
         split at h
         ·rename_i hcap
          rw[Nat.blt_eq] at hcap
          have hcc:cap'=cap:=by cases hC with | eq _=>rfl | low h=>omega
          have hl:lowC cap=cap:=by unfold lowC;rw[show Nat.blt cap CAP=true by rw[Nat.blt_eq];exact hcap]
          obtain⟨H',e1,g1⟩:=setK_spec DEP H nx (mkCells (old ++ new) e)
          rw[e1,natK_id] at h
          exact grow H H' (by omega) (fun _ _ h=>h) g1 h
         ·split at h
          ·rename_i hcap _ b
           split at h
           ·rename_i c m t' hg
            split at h
            ·rename_i hbb
             simp only[Bool.and_eq_true,Nat.ble_eq,Nat.beq_eq] at hbb
             obtain⟨⟨hte,hGb⟩,hone⟩:=hbb
             subst hte
             obtain⟨H1,d1,g1⟩:=delK_spec H b
             obtain⟨H',e1,g2⟩:=setK_spec DEP H1 nx (mkCells (old ++ new) t')
             rw[d1,e1,natK_id] at h
             by_cases hgrow:cap' < l+n
             ·exact grow H1 H' hgrow (fun j x hx=>(g1 j x hx).2) g2 h
             ·
              cases hA with
              | some hp =>
                rename_i p
                obtain⟨p',ro,hp',hro,hor⟩:=hH.objp hp hg
                rw[hp] at hp';injection hp' with hp';subst hp'
                cases hor with
                | cells hn hz' hs hc hdm =>
                  rename_i cr
                  have hes:p.es=i.size:=hs _ (sizeC_info hi)
                  cases hC with
                  | eq hcl=>rw[show Nat.blt cap CAP=true by rw[Nat.blt_eq];exact hcl] at *;simp at *
                  | low a1 a2 a3 a4 a5 =>
                    injection a3 with a3;injection a3 with a31 a32 a33
                    subst a31 a32
                    rw[hp] at a4;injection a4 with a4;subst a4
                    rw[hes] at a5
                    have hfit:l*i.size+n*i.size≤cr.size:=by
                     rw[←Nat.add_mul,←hz']
                     have:(l+n)*i.size≤cap'*i.size:=Nat.mul_le_mul_right _ (by omega)
                     omega
                    have hone':∀v∈new',v.oneCell'=true:=fun v hv=>by
                     obtain⟨j,hj⟩:=List.getElem?_of_mem hv
                     have hj':j < new.length:=by rw[hnew.1];exact(List.getElem?_eq_some_iff.1 hj).1
                     have hj2:=List.getElem?_eq_getElem hj'
                     exact oneC_rel (hnew.2 j _ _ hj2 hj) (List.all_eq_true.1 hone _ (List.getElem_mem hj'))
                    obtain⟨cr',w',k1,k2,k3,k4,k5,k6⟩:=stores_run (P:=P) new' (l*i.size) 0 cr w hone' hro (by rw[←hnew.1,hnlen];omega)
                    obtain⟨_,old2,hold2L,hold2c⟩:=cellsAt_spec hc _ _ _ (show cellsAt c m 0 (l*i.size)=some old by simpa[srcC,hg] using hold)
                    have hmv:=hH.move (o':=mkCells (old ++ new) t') (ro:= .cells cr' t' (0,0)) hGb hg hp (fun j x hx=>⟨(g2 j x hx).1,fun hj=>g1 j x ((g2 j x hx).2 hj)⟩) k2 k3 (by
                     have hle:=ρ.ext_le p (hH.fresh (Nat.le_refl nx))
                     refine .cells (by simp[holen,hnlen,k4];omega) (by omega) hs (fun j v hj hv=>?_) fun j v hv=>(List.getElem?_eq_some_iff.1 (ofList_get _ _ _ _ hv)).1
                     have hv:=ofList_get _ _ _ _ hv
                     by_cases hjl:j < old.length
                     ·rw[List.getElem?_append_left hjl] at hv
                      obtain⟨y,h1,h2⟩:=hold2L.get hv
                      exact⟨y,by rw[k5 j (by omega)];have:=hold2c j y h1;simpa using this,h2.mono hle⟩
                     ·rw[List.getElem?_append_right (by omega)] at hv
                      obtain⟨y,h1,h2⟩:=hnew.get hv
                      refine⟨y,?_,h2.mono hle⟩
                      have:=k6 _ y h1
                      rw[show l*i.size+0+(j-old.length)=j by omega] at this
                      exact this)
                    refine⟨ρ.ext nx p,_,_,H',nx+1,w',⟨ρ.ext_le p (hH.fresh (Nat.le_refl nx)),fun b hb=>by simp[Ren.ext];omega⟩,by omega,h,?_,append_run_in ht0 ht1 hd hi hTt (by omega) ?_,hmv,k2.below ((hH.dom _ _ hp).2.2 hGb)⟩
                    ·refine .sl (.some (ρ.ext_self nx p)) (.low (by omega) (by omega) rfl (ρ.ext_self nx p) (by rw[hes];omega))
                    ·simp only[addr_add,Nat.zero_add];exact k1
            ·cases h
           ·cases h
          ·cases h
        ·cases h
       ·cases h
 ·cases h
end
end Go.Proofs.YtiioegopckoldaaGreatDoor.CV
