/- lemmas for topRented_holds: Law OpenG PF2 TN. No conditions. -/
import Derived.Test.YtiioegopckoldaaGreatDoorRows
import Derived.Test.YtiioegopckoldaaGreatDoorK01
import Derived.ProofKit
import Derived.Deep.Slices
import Derived.ChangeSame
import Derived.OpenShut
import Derived.Test.YtiioegopckoldaaGreatDoorK23
import Derived.Test.YtiioegopckoldaaGreatDoorK28
import Derived.Test.YtiioegopckoldaaGreatDoorK03
import Derived.Deep.QuietTactic
import Derived.BigQuiet
set_option linter.unusedVariables false
set_option linter.unusedSimpArgs false
namespace Go.Proofs.YtiioegopckoldaaGreatDoor
open Go.RowKit Go.Shelf Go.WideShapes Go.ChangeShapes Go.ChangeAt Go.Deep
theorem Tryz.own:ownKnob Tryz.prog.godebug=none:=by kernel_rfl
theorem Tryz.laidOut:laidOutB Tryz.prog=true:=by kernel_rfl
section
variable {H:Type} {enc:TypeId×Value→H} {P:Program}
theorem trodAll_stays (hl:laidOutB P=true) {W W':World} {sp:Nat→Bool} (hb:Below W.heap.size W W'):∀{ts:List TypeId} {vs:List Value} {ds:List (DataW H)} {ps:List MemPlace},
 (∀t∈ts,P.readableRec t=true∧t < P.types.size)→DataW.TrodAll enc P W 0 (fun _=>true) true ts vs ds ps→(∀x∈ps,x.block < W.heap.size)→(∀x∈ps,sp x.block=true)→DataW.TrodAll enc P W' 0 sp true ts vs ds ps
 | [], vs, ds, ps, _, h, _, _ => by
   obtain⟨rfl,rfl,rfl⟩:=trodAll_nil h
   exact trodAll_mk0
 | t :: ts, vs, ds, ps, ht, h, hlt, hsp => by
   obtain⟨v,vs',d,ds',p,q,rfl,rfl,rfl,hd,hr⟩:=trodAll_cons h
   have h1:=WideElems.Trod_stays hl (ht t (by simp)).1 (ht t (by simp)).2 (sp':=sp) hd (fun x hx=>hb.same (hlt x (by simp[hx]))) (fun x hx=>hsp x (by simp[hx]))
   have h2:=trodAll_stays hl hb (fun t' h'=>ht t' (by simp[h'])) hr (fun x hx=>hlt x (by simp[hx])) (fun x hx=>hsp x (by simp[hx]))
   exact trodAll_cons_mk h1 h2
theorem post_of_below {f:Func} {s:ChangeSpec} {apart fresh handsOn again:Bool} {W W':World} {args:Array Value} {v:Value} {ds gs:List (DataW H)} {before pa pv:List MemPlace}
 (hW:DataW.Whole enc P f.params.toList s.vars apart W args.toList ds gs before)
 (hres:∀(b:Nat) (sp:Nat→Bool) (hd:Bool),DataW.TrodAll enc P W' b sp hd f.resultTypes.toList (v.resultList f.resultTypes.size) (s.fn H (ds ++ gs)).results [])
 (hargs:∀sp:Nat→Bool,(∀p∈before,sp p.block=true)→DataW.TrodAll enc P W' 0 sp true f.params.toList args.toList (s.fn H (ds ++ gs)).args pa)
 (hvars:∀sp:Nat→Bool,(∀p∈before,sp p.block=true)→DataW.TrodVars enc P W' sp s.vars (s.fn H (ds ++ gs)).vars pv)
 (hps:before=pa ++ pv) (hb:Below W.heap.size W W')
 (hok:∀(j:Nat) (t:TypeId) (r:Value),f.resultTypes[j]?=some t→(v.resultList f.resultTypes.size)[j]?=some r→Value.okWide P W' .any 0 t r) :
 s.post enc P f apart fresh handsOn again W args v W':=by
 have hlt:∀p∈before,p.block < W.heap.size:=fun p hp=>hW.lt p hp
 have hold:∀p∈before,(fun b=>decide (b < W.heap.size)) p.block=true:=fun p hp=>by simpa using hlt p hp
 refine⟨ds,gs,before,[],pa,pv,hW,hres _ _ _,hargs _ hold,hvars _ hold,World.keptBut_mono (fun p hp=>⟨hp,?_⟩) (hb.frame (·∈before)),fun _=>?_⟩
 ·rw[hps,List.mem_append] at hp
  exact Or.inr hp
 ·obtain⟨_,_,_,_,_,hz,hn⟩:=hW
  refine⟨hok,_,_,([] ++ pa) ++ pv,⟨[] ++ pa,pv,trodAll_append (hargs _ (fun _ _=>rfl)) (hres _ _ _),hvars _ (fun _ _=>rfl),rfl,?_,?_⟩,?_⟩
  ·intro b off hp
   have hin:MemPlace.cell b off∈before:=by rw[hps];simpa using hp
   rw[hb.frozen (hlt _ hin)]
   exact hz b off hin
  ·intro ha
   have:=hn ha
   rw[hps] at this
   simpa using this
  ·intro p hp _
   rw[hps]
   simpa using hp
end
end Go.Proofs.YtiioegopckoldaaGreatDoor
namespace Go.Proofs.YtiioegopckoldaaGreatDoor
open Go.RowKit Go.Shelf Go.WideShapes Go.ChangeShapes Go.ChangeAt Go.Deep
def Shape {α:Type} (t:TypeId) (rep:α→List Value) (ok:α→Prop):Prop:=
 ∀(H:Type) (enc:TypeId×Value→H) (w:World) (base:Nat) (spare:Nat→Bool) (held:Bool) (fuel:Nat) (cs:List Value) (x:DataW H×List MemPlace),DataW.trod enc Tryz.prog w base spare held fuel t cs=some x→∃a:α,cs=rep a∧ok a
def i64ok (n:Int):Prop:= -9223372036854775808≤n∧n≤9223372036854775807
theorem i64ok_of {n:Int} (h:(Lit.int .i64 n).wf=true):i64ok n:=bounds_i64 h
theorem shape_int:Shape 3 icell i64ok:=fun H enc w base spare held fuel cs x h=>by
 obtain⟨n,rfl,_,hw⟩:=DataW.trod_int Tryz.underlying3 h
 exact⟨n,rfl,i64ok_of hw⟩
def Sp.wf (s:Sp):Prop:=i64ok s.lo∧i64ok s.hi
theorem cells_int:Tryz.prog.cellsOf 3=1:=by kernel_rfl
set_option maxRecDepth 100000 in
theorem open_sl {α:Type} {t e:TypeId} {rep:α→List Value} {ok:α→Prop} {k:Nat} (hs:Shape e rep ok) (ht:Tryz.prog.underlying t=some (.slice e)) (hC:Tryz.prog.cellsOf e=k) (hk:∀a,(rep a).length=k) (hk0:0 < k)
 {H:Type} {enc:TypeId×Value→H} {W:World} {base b':Nat} {spare:Nat→Bool} {held:Bool} {v:Value} {d:DataW H} {p:List MemPlace}
 (hv:Value.okWide Tryz.prog W .any b' t v) (h:DataW.Trod enc Tryz.prog W base spare held t v d p) :
 ∃A n c,∃xs:List α,v= .slice A n c∧n=xs.length∧n≤9223372036854775807∧Rd W W.heap.size rep A xs∧∀x∈xs,ok x:=by
 obtain⟨a0,len,cap,rfl⟩:=okWide_slice ht hv
 obtain⟨fuel,hf⟩:=h
 rcases open_slice ht hf with⟨hcs,_⟩ | ⟨a,len',cap',m,n,D,Pl,hcs,_,hl,hm,hmm,_,hi⟩
 ·simp[Value.cells] at hcs
  obtain⟨rfl,rfl,rfl⟩:=hcs
  exact⟨none,0,0,[],rfl,rfl,by omega,Rd.nil _ _ _ _,by simp⟩
 ·simp[Value.cells] at hcs
  obtain⟨rfl,rfl,rfl⟩:=hcs
  have hle:len≤m:=by rw[hmm];split <;> omega
  have hex:∀i,i < len→∃x:α,ok x∧∀j u,(rep x)[j]?=some u→W.cell? (a.add (i*k+j))=some u:=fun i hlt=>by
   obtain⟨cs',hc,ht'⟩:=hi i (by omega)
   rw[hC] at hc
   obtain⟨x,rfl,o⟩:=hs _ _ _ _ _ _ _ _ _ ht'
   obtain⟨_,hcl,hat⟩:=World.cells?_some hc
   refine⟨x,o,fun j u hu=>?_⟩
   have hj:j < k:=by rw[←hcl];exact(List.getElem?_eq_some_iff.1 hu).1
   have:=hat j hj
   rw[hu,add_add] at this
   exact this
  rcases Nat.eq_zero_or_pos len with h0 | h0
  ·subst h0
   exact⟨some a,0,cap,[],rfl,rfl,by omega,Rd.nil _ _ _ _,by simp⟩
  ·obtain⟨x0,_,_⟩:=hex 0 h0
   haveI:Inhabited α:=⟨x0⟩
   obtain⟨f,hfx⟩:=choose_lt hex
   have hspot:a.spot=none∧a.block < W.heap.size:=by
    have h1:0 < (rep (f 0)).length:=by rw[hk];exact hk0
    have h2:=(hfx 0 h0).2 0 _ (List.getElem?_eq_getElem h1)
    rw[show 0*k+0=0 by omega] at h2
    have h3:a.add 0=a:=by simp[Addr.add]
    rw[h3] at h2
    refine⟨?_,World.block_lt_of_cell? W a h2⟩
    unfold World.cell? at h2
    split at h2
    ·split at h2
     ·cases h2
     ·rename_i hn;simpa using hn
    ·cases h2
   have hA:a=⟨a.block,a.off,none⟩:=by
    obtain⟨ab,ao,sp⟩:=a
    simp only at hspot
    rw[hspot.1]
   refine⟨some a,len,cap,(List.range len).map f,rfl,by simp,by simp only[maxLen] at hm;omega,fun _=>⟨a.block,a.off,by rw[←hA],hspot.2,?_⟩,?_⟩
   ·intro j u hu
    have hlen:=flat_len hk ((List.range len).map f)
    have hj:j < len*k:=by
     have:=(List.getElem?_eq_some_iff.1 hu).1
     rw[hlen] at this
     simpa using this
    have hik:j / k < len:=Nat.div_lt_of_lt_mul (by rw[Nat.mul_comm];exact hj)
    have hdm:j / k*k+j % k=j:=by rw[Nat.mul_comm];exact Nat.div_add_mod j k
    have hx:((List.range len).map f)[j / k]?=some (f (j / k)):=by simp[hik]
    have h4:=flat_get hk hx (Nat.mod_lt j hk0)
    rw[hdm,hu] at h4
    have h5:=(hfx _ hik).2 _ _ h4.symm
    rw[hdm,hA] at h5
    unfold Addr.add at h5
    split at h5
    ·rename_i hz;rw[hz];simpa using h5
    ·exact h5
   ·intro x hx
    obtain⟨i,hi',rfl⟩:=List.mem_map.1 hx
    exact(hfx i (by simpa using hi')).1
end Go.Proofs.YtiioegopckoldaaGreatDoor
namespace Go.Proofs.YtiioegopckoldaaGreatDoor
open Go.RowKit Go.Shelf Go.WideShapes Go.ChangeShapes Go.ChangeAt
theorem bounds_u16 {n:Int} (h:(Lit.int .u16 n).wf=true):0≤n∧n≤65535:=by
 simp[Lit.wf,IntKind.min,IntKind.max,IntKind.signed,IntKind.bits] at h
 omega
def u32cell (n:Nat):List Value:=[.int .u32 (n:Int)]
theorem u32cell_len (n:Nat):(u32cell n).length=1:=rfl
theorem Rd.u32 {w:World} {B:Nat} {A:Option Addr} {xs:List Nat} (h:Rd w B u32cell A xs) {i:Nat} (hi:i < xs.length) :
 ∃b off n,A=some ⟨b,off,none⟩∧b < B∧xs[i]?=some n∧w.cell? ⟨b,off+i,none⟩=some (.int .u32 (n:Int)):=by
 obtain⟨b,off,e,hB,hc⟩:=h (by omega)
 have hx:xs[i]?=some xs[i]:=List.getElem?_eq_getElem hi
 have:=flat_get u32cell_len hx (j:=0) (by omega)
 simp only[Nat.mul_one,Nat.add_zero] at this
 exact⟨b,off,_,e,hB,hx,hc _ _ this⟩
theorem bounds_u32 {n:Int} (h:(Lit.int .u32 n).wf=true):0≤n∧n≤4294967295:=by
 simp[Lit.wf,IntKind.min,IntKind.max,IntKind.signed,IntKind.bits] at h
 omega
theorem cells_u32:Tryz.prog.cellsOf 44=1:=by kernel_rfl
theorem shape_u32:Shape 44 u32cell (fun n=>n≤4294967295):=fun H enc w base spare held fuel cs x h=>by
 obtain⟨n,rfl,_,hw⟩:=DataW.trod_int Tryz.underlying44 h
 have hb:=bounds_u32 hw
 exact⟨n.toNat,by unfold u32cell;rw[Int.toNat_of_nonneg hb.1],by omega⟩
def u8cell (n:Nat):List Value:=[.int .u8 (n:Int)]
theorem u8cell_len (n:Nat):(u8cell n).length=1:=rfl
theorem Rd.u8 {w:World} {B:Nat} {A:Option Addr} {xs:List Nat} (h:Rd w B u8cell A xs) {i:Nat} (hi:i < xs.length) :
 ∃b off n,A=some ⟨b,off,none⟩∧b < B∧xs[i]?=some n∧w.cell? ⟨b,off+i,none⟩=some (.int .u8 (n:Int)):=by
 obtain⟨b,off,e,hB,hc⟩:=h (by omega)
 have hx:xs[i]?=some xs[i]:=List.getElem?_eq_getElem hi
 have:=flat_get u8cell_len hx (j:=0) (by omega)
 simp only[Nat.mul_one,Nat.add_zero] at this
 exact⟨b,off,_,e,hB,hx,hc _ _ this⟩
end Go.Proofs.YtiioegopckoldaaGreatDoor
namespace Go.Proofs.YtiioegopckoldaaGreatDoor
open Go.RowKit Go.Shelf Go.WideShapes Go.ChangeShapes Go.ChangeAt
def u16cell (n:Nat):List Value:=[.int .u16 (n:Int)]
theorem u16cell_len (n:Nat):(u16cell n).length=1:=rfl
theorem Rd.u16 {w:World} {B:Nat} {A:Option Addr} {xs:List Nat} (h:Rd w B u16cell A xs) {i:Nat} (hi:i < xs.length) :
 ∃b off n,A=some ⟨b,off,none⟩∧b < B∧xs[i]?=some n∧w.cell? ⟨b,off+i,none⟩=some (.int .u16 (n:Int)):=by
 obtain⟨b,off,e,hB,hc⟩:=h (by omega)
 have hx:xs[i]?=some xs[i]:=List.getElem?_eq_getElem hi
 have:=flat_get u16cell_len hx (j:=0) (by omega)
 simp only[Nat.mul_one,Nat.add_zero] at this
 exact⟨b,off,_,e,hB,hx,hc _ _ this⟩
theorem cells_u16:Tryz.prog.cellsOf 59=1:=by kernel_rfl
theorem shape_u16:Shape 59 u16cell (fun n=>n≤65535):=fun H enc w base spare held fuel cs x h=>by
 obtain⟨n,rfl,_,hw⟩:=DataW.trod_int Tryz.underlying59 h
 have hb:=bounds_u16 hw
 exact⟨n.toNat,by unfold u16cell;rw[Int.toNat_of_nonneg hb.1],by omega⟩
structure Grid (W:World) (lo:Nat) (ss:List Sl) (xss:List (List Int)):Prop where
 len:ss.length=xss.length
 row:∀(i:Nat) (s:Sl) (xs:List Int),ss[i]?=some s→xss[i]?=some xs→s.n=xs.length∧Own W lo 3 1 icell (.slice s.a s.n s.c) xs
 far:∀(i j:Nat) (s t:Sl) (g:Nat),i≠j→ss[i]?=some s→ss[j]?=some t→s.a.map Addr.block=some g→¬t.a.map Addr.block=some g
theorem sl_block {A:Option Addr} {n c g:Nat}:(Value.slice A n c).ownBlock=some g↔A.map Addr.block=some g:=by cases A <;> exact Iff.rfl
theorem Grid.nil (W:World) (lo:Nat):Grid W lo [] []:=⟨rfl,by simp,by simp⟩
theorem Grid.blk {W:World} {lo:Nat} {ss:List Sl} {xss:List (List Int)} (h:Grid W lo ss xss) {i:Nat} {s:Sl} {g:Nat} (hs:ss[i]?=some s) (hg:s.a.map Addr.block=some g):lo≤g∧g < W.heap.size:=by
 have hi:i < xss.length:=by rw[←h.len];exact(List.getElem?_eq_some_iff.1 hs).1
 exact(h.row i s _ hs (List.getElem?_eq_getElem hi)).2.blockG (sl_block.2 hg)
theorem Grid.keptK {W W':World} {lo:Nat} {R:Nat→Prop} {ss:List Sl} {xss:List (List Int)} (h:Grid W lo ss xss) (hk:Kept R W W') (hR:∀s∈ss,∀g,s.a.map Addr.block=some g→lo≤g→g < W.heap.size→R g):Grid W' lo ss xss:=
 ⟨h.len,fun i s xs h1 h2=>⟨(h.row i s xs h1 h2).1,(h.row i s xs h1 h2).2.keptG hk fun g hg=>by
  have hb:=(h.row i s xs h1 h2).2.blockG hg
  exact hR s (List.mem_of_getElem? h1) g (sl_block.1 hg) hb.1 hb.2⟩,h.far⟩
theorem Grid.bel {W W':World} {lo:Nat} {ss:List Sl} {xss:List (List Int)} (h:Grid W lo ss xss) (hb:Below W.heap.size W W'):Grid W' lo ss xss:=h.keptK (Kept.all (fun _=>True) hb) (fun _ _ _ _ _ _=>trivial)
theorem Grid.snoc {W:World} {lo:Nat} {ss:List Sl} {xss:List (List Int)} {s:Sl} {xs:List Int} (h:Grid W lo ss xss) (hn:s.n=xs.length) (ho:Own W lo 3 1 icell (.slice s.a s.n s.c) xs) (hf:∀t∈ss,∀g,t.a.map Addr.block=some g→¬s.a.map Addr.block=some g):Grid W lo (ss ++ [s]) (xss ++ [xs]):=by
 have hl:=h.len
 have key:∀(i:Nat) (t:Sl),(ss ++ [s])[i]?=some t→(i < ss.length∧ss[i]?=some t)∨(i=ss.length∧t=s):=fun i t hi=>by
  by_cases e:i < ss.length
  ·rw[List.getElem?_append_left e] at hi;exact .inl ⟨e,hi⟩
  ·rw[List.getElem?_append_right (by omega)] at hi
   have:i-ss.length=0:=by
    have:=(List.getElem?_eq_some_iff.1 hi).1
    simp at this;omega
   rw[this] at hi
   simp at hi
   exact .inr ⟨by omega,hi.symm⟩
 refine⟨by simp[hl],fun i t ys h1 h2=>?_,fun i j t u g hij h1 h2 hg hg'=>?_⟩
 ·rcases key i t h1 with⟨e,h3⟩ | ⟨e,rfl⟩
  ·rw[List.getElem?_append_left (by omega)] at h2
   exact h.row i t ys h3 h2
  ·rw[e,hl,List.getElem?_append_right (Nat.le_refl _),Nat.sub_self] at h2
   simp at h2
   subst h2
   exact⟨hn,ho⟩
 ·rcases key i t h1 with⟨e,h3⟩ | ⟨e,rfl⟩ <;> rcases key j u h2 with⟨e',h4⟩ | ⟨e',rfl⟩
  ·exact h.far i j t u g hij h3 h4 hg hg'
  ·exact hf t (List.mem_of_getElem? h3) g hg hg'
  ·exact hf u (List.mem_of_getElem? h4) g hg' hg
  ·omega
theorem Grid.rows {W:World} {lo:Nat} {ss:List Sl} {xss:List (List Int)} (h:Grid W lo ss xss):Rows W W.heap.size icell ss xss:=
 ⟨h.len,fun i s xs h1 h2=>⟨(h.row i s xs h1 h2).1,by
  obtain⟨A,c,e,r⟩:=(h.row i s xs h1 h2).2.rdn s.n (h.row i s xs h1 h2).1.symm
  injection e with e1 _ _
  rw[e1];exact r⟩⟩
theorem Grid.put {W:World} {lo:Nat} {ss:List Sl} {xss:List (List Int)} {i k g n c:Nat} {xs:List Int} (h:Grid W lo ss xss) (hs:ss[i]?=some ⟨some ⟨g,0,none⟩,n,c⟩) (hx:xss[i]?=some xs) (hk:k < xs.length) (y:Int) :
 Grid (W.setCell ⟨g,k,none⟩ (.int .i64 y)) lo ss (xss.set i (xs.set k y))∧W.cell? ⟨g,k,none⟩=some (.int .i64 (xs.getD k 0))∧W.frozen? ⟨g,k,none⟩=false∧lo≤g∧g < W.heap.size:=by
 have h0:=h.row i _ xs hs hx
 obtain⟨p1,p2,p3⟩:=h0.2.put1 hk h0.1 y
 have hb:=h.blk hs (g:=g) rfl
 refine⟨⟨by rw[List.length_set];exact h.len,fun j t ys h1 h2=>?_,h.far⟩,p2,p3,hb.1,hb.2⟩
 by_cases e:j=i
 ·subst e
  rw[List.getElem?_set_self (by rw[←h.len];exact(List.getElem?_eq_some_iff.1 hs).1)] at h2
  obtain rfl:=Option.some.inj h2
  obtain rfl:_=t:=Option.some.inj (hs.symm.trans h1)
  exact⟨by rw[List.length_set];exact h0.1,p1⟩
 ·rw[List.getElem?_set_ne (fun h=>e h.symm)] at h2
  refine⟨(h.row j t ys h1 h2).1,(h.row j t ys h1 h2).2.keptG (Kept.setCell W ⟨g,k,none⟩ _) fun g' hg'=>?_⟩
  intro e2
  exact h.far j i t _ g' e h1 hs (sl_block.1 hg') (by rw[show g'=g from e2];rfl)
structure Tbl (qs:List (List Int)) (r m:Nat) (d:Int):Prop where
 len:qs.length=r
 row:∀(j:Nat) (xs:List Int),qs[j]?=some xs→xs.length=m∧∀x∈xs,-d≤x∧x≤23040+d
theorem Tbl.at_ {qs:List (List Int)} {r m:Nat} {d:Int} (h:Tbl qs r m d) {j k:Nat} (hj:j < r) (hk:k < m):∃xs,qs[j]?=some xs∧xs.length=m∧ -d≤xs.getD k 0∧xs.getD k 0≤23040+d:=by
 have hj2:j < qs.length:=by rw[h.len];exact hj
 have h1:qs[j]?=some qs[j]:=List.getElem?_eq_getElem hj2
 obtain⟨h2,h3⟩:=h.row j _ h1
 have hk2:k < qs[j].length:=by rw[h2];exact hk
 refine⟨_,h1,h2,?_⟩
 rw[List.getD_eq_getElem?_getD,List.getElem?_eq_getElem hk2]
 exact h3 _ (List.getElem_mem hk2)
theorem Tbl.put {qs:List (List Int)} {r m:Nat} {d d':Int} (h:Tbl qs r m d) {j:Nat} {xs:List Int} (hj:qs[j]?=some xs) (k:Nat) {y:Int} (hd:d≤d') (h1: -d'≤y) (h2:y≤23040+d'):Tbl (qs.set j (xs.set k y)) r m d':=by
 refine⟨by rw[List.length_set];exact h.len,fun i zs hi=>?_⟩
 have key:(zs=xs.set k y)∨qs[i]?=some zs:=by
  by_cases e:i=j
  ·subst e
   rw[List.getElem?_set_self (List.getElem?_eq_some_iff.1 hj).1] at hi
   exact .inl (Option.some.inj hi).symm
  ·rw[List.getElem?_set_ne (fun h=>e h.symm)] at hi
   exact .inr hi
 rcases key with rfl | hi
 ·obtain⟨a1,a2⟩:=h.row j xs hj
  refine⟨by rw[List.length_set];exact a1,fun x hx=>?_⟩
  rcases List.mem_or_eq_of_mem_set hx with hx | rfl
  ·have:=a2 x hx;omega
  ·exact⟨h1,h2⟩
 ·obtain⟨a1,a2⟩:=h.row i zs hi
  exact⟨a1,fun x hx=>by have:=a2 x hx;omega⟩
end Go.Proofs.YtiioegopckoldaaGreatDoor
namespace Go.Proofs.YtiioegopckoldaaGreatDoor
open Go.RowKit Go.Shelf
set_option maxHeartbeats 4000000 in
set_option maxRecDepth 100000 in
theorem tnth_any (A:Option Addr) (n c:Nat) (xs:List Nat) (i:Int) (w:World) (hn:n=xs.length) (h32:∀x∈xs,x≤4294967295) (hx:Rd w w.heap.size u32cell A xs) (hn2:n≤9223372036854775807) (i0:0≤i) (i1:i≤1000) :
 Calls Tryz.prog 12 #[.slice A n c,.int .i64 i] w fun e w'=>∃m:Nat,e= .returned (.int .u32 (m:Int))∧m≤4294967295∧Below w.heap.size w w':=by
 obtain⟨j,rfl⟩:∃j:Nat,i=j:=⟨i.toNat,by omega⟩
 by_cases hz:n=0
 ·subst hz
  go_enter Tryz.func12,Tryz.ntmps12
  go_wp2_with fail
  go_ret
  exact⟨0,rfl,by omega,Below.refl _ _⟩
 have hm:j % n < n:=Nat.mod_lt _ (by omega)
 obtain⟨k,hk⟩:∃k,k=j % n:=⟨_,rfl⟩
 rw[←hk] at hm
 obtain⟨b,off,x,rfl,hb,hxk,c0⟩:=hx.u32 (i:=k) (by omega)
 have hxm:=h32 x (List.mem_of_getElem? hxk)
 have t1:Int.tmod (j:Int) (n:Int)=(k:Int):=by rw[Int.tmod_eq_emod_of_nonneg (by omega),hk];exact(Int.natCast_emod j n).symm
 have t2:(j:Int) % (n:Int)=(k:Int):=by rw[hk];exact(Int.natCast_emod j n).symm
 have nz:((n:Int) == 0)=false:=by simpa using hz
 have nz2:¬(n:Int)=0:=by omega
 clear hk hxk hx hn
 go_enter Tryz.func12,Tryz.ntmps12
 go_wp2_with fail
 go_ret
 exact⟨x,rfl,hxm,Below.refl _ _⟩
end Go.Proofs.YtiioegopckoldaaGreatDoor
