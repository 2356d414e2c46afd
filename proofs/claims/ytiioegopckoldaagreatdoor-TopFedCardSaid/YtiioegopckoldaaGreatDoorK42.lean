/- lemmas for topFed_holds: PBG FE1 SA1 FE2 R1 T06 FJ1. No conditions. -/
import Derived.Test.YtiioegopckoldaaGreatDoorK33
import Derived.Test.YtiioegopckoldaaGreatDoorK37
import Derived.Test.YtiioegopckoldaaGreatDoorK31
import Derived.Test.YtiioegopckoldaaGreatDoorK30
import Derived.Test.YtiioegopckoldaaGreatDoorK29
import Derived.Test.YtiioegopckoldaaGreatDoorK32
import Derived.Test.YtiioegopckoldaaGreatDoorK25
import Derived.Test.YtiioegopckoldaaGreatDoorK08
import Derived.Test.YtiioegopckoldaaGreatDoorK39
import Derived.Deep.Cut
import Derived.Test.YtiioegopckoldaaGreatDoorK41
import Derived.Test.YtiioegopckoldaaGreatDoorK40
import Derived.Test.YtiioegopckoldaaGreatDoorK06
import Derived.Deep.QuietTactic
import Derived.BigQuiet
import Derived.Test.YtiioegopckoldaaGreatDoorK14
set_option linter.unusedVariables false
set_option linter.unusedSimpArgs false
namespace Go.Proofs.YtiioegopckoldaaGreatDoor
open Go.RowKit Go.Shelf
end Go.Proofs.YtiioegopckoldaaGreatDoor
namespace Go.Proofs.YtiioegopckoldaaGreatDoor
open Go.RowKit Go.Shelf
def BestAt (W:World) (v:Value) (b:Option (List Int)):Prop:=
 (b=none∧v= .slice none 0 0)∨∃a n c l,b=some l∧v= .slice (some a) n c∧n=l.length∧n≤8∧Rd W W.heap.size icell (some a) l
theorem BestAt.bel {W W':World} {v:Value} {b:Option (List Int)} (h:BestAt W v b) (hb:Below W.heap.size W W'):BestAt W' v b:=by
 rcases h with h | ⟨a,n,c,l,h1,h2,h3,h4,h5⟩
 ·exact .inl h
 ·exact .inr ⟨a,n,c,l,h1,h2,h3,h4,h5.bel hb⟩
end Go.Proofs.YtiioegopckoldaaGreatDoor
namespace Go.Proofs.YtiioegopckoldaaGreatDoor
theorem wkAt_ge {cs:List Ca} {fs:List Int} {dry days:Int} (hok:netOk cs fs dry days=true) (dr:List Int) (c:Int) {v v':Int} (h:v'≤v):(goF (wkT cs c) ⟨v',v'⟩).lo≤(goF (wkAt cs dr c) ⟨v,v⟩).lo:=by
 have hw:=wkT_wf hok c
 have key:(wkAt cs dr c).thr=(wkT cs c).thr∧(wkAt cs dr c).fill.hi≤(wkT cs c).fill.hi:=by
  unfold wkAt wkT at *
  cases hc:cs[c.toNat]? with
  | none=>exact⟨rfl,Int.le_refl _⟩
  | some ca =>
    rw[hc] at hw
    refine⟨rfl,?_⟩
    by_cases hd:c∈dr
    ·rw[decide_eq_true hd];exact Int.le_refl _
    ·rw[decide_eq_false hd];exact hw.2.1.1
 show downF v' _ _≤downF v _ _
 rw[key.1]
 unfold downF
 exact Int.ediv_le_ediv (by omega) (Int.mul_le_mul_of_nonneg_right (by omega) hw.2.2.1.1)
theorem pathW_ge {cs:List Ca} {fs:List Int} {dry days:Int} (hok:netOk cs fs dry days=true) (dr:List Int):∀(p:List Int) (lost:List Sp) (v:Sp) (v':Int),v'≤v.lo→getK cs p v'≤(pathW cs dr p lost v).2.lo
 | [],_,_,_,h=>h
 | c :: p, lost, v, v', h => by
   have h1:pathW cs dr (c :: p) lost v=pathW cs dr p (canalW cs dr (lost,v) c).1 (canalW cs dr (lost,v) c).2:=rfl
   have h2:getK cs (c :: p) v'=getK cs p (goF (wkT cs c) ⟨v',v'⟩).lo:=rfl
   rw[h1,h2]
   exact pathW_ge hok dr p _ _ _ (wkAt_ge hok dr c h)
theorem getK_nul {cs:List Ca} {fs:List Int} {dry days:Int} (hok:netOk cs fs dry days=true):∀p:List Int,getK cs p 0=0
 | []=>rfl
 | c :: p => by
   have h2:getK cs (c :: p) 0=getK cs p (goF (wkT cs c) ⟨0,0⟩).lo:=rfl
   have hw:=wkT_wf hok c
   have h3:(goF (wkT cs c) ⟨0,0⟩).lo=0:=by
    simp only[goF,downF]
    have:=hw.2.1.1
    rw[show max (0:Int) (0-(wkT cs c).fill.hi)=0 by omega]
    simp
   rw[h2,h3,getK_nul hok p]
def fedU (ns:List Int):Nat→List Us×Int
 | 0=>([],0)
 | k+1=>if ns.getD k 0=0 then fedU ns k else((fedU ns k).1 ++ [⟨(k:Int),(fedU ns k).2,(fedU ns k).2+ns.getD k 0⟩],(fedU ns k).2+ns.getD k 0)
theorem fedU_now {ns:List Int} (h:∀k,0≤ns.getD k 0∧ns.getD k 0≤23040):∀k,0≤(fedU ns k).2∧(fedU ns k).2≤k*23040
 | 0=>⟨Int.le_refl _,Int.le_refl _⟩
 | k + 1 => by
   have h1:=fedU_now h k
   have h2:=h k
   unfold fedU
   split
   ·omega
   ·show 0≤(fedU ns k).2+ns.getD k 0∧(fedU ns k).2+ns.getD k 0≤_
    omega
theorem fedU_len (ns:List Int):∀k,(fedU ns k).1.length≤k
 | 0=>Nat.le_refl _
 | k + 1 => by
   have h1:=fedU_len ns k
   unfold fedU
   split
   ·omega
   ·simp;omega
theorem fedU_mem {ns:List Int}:∀{k j:Nat},j < k→ns.getD j 0≠0→∃(i:Nat) (u:Us),(fedU ns k).1[i]?=some u∧u.field=(j:Int)∧u.to-u.frm=ns.getD j 0
 | 0,j,h,_=>by omega
 | k + 1, j, h, hj => by
   unfold fedU
   by_cases e:j=k
   ·subst e
    rw[if_neg hj]
    exact⟨(fedU ns j).1.length,_,List.getElem?_concat_length,rfl,by show(fedU ns j).2+ns.getD j 0-(fedU ns j).2=_;omega⟩
   ·obtain⟨i,u,h1,h2,h3⟩:=fedU_mem (k:=k) (show j < k by omega) hj
    split
    ·exact⟨i,u,h1,h2,h3⟩
    ·exact⟨i,u,by show((fedU ns k).1 ++ [_])[i]?=some u;rw[List.getElem?_append_left (List.getElem?_eq_some_iff.1 h1).1];exact h1,h2,h3⟩
theorem usAll_app {nf cyc:Int} {u:Us}:∀{us:List Us} {last now:Int},usAll nf cyc last us=true→(∀x∈us,x.to≤now)→last≤now→usOk nf cyc now u=true→usAll nf cyc last (us ++ [u])=true
 | [], last, now, _, _, hl, hu => by
   show(usOk nf cyc last u && true)=true
   unfold usOk at hu ⊢
   simp only[Bool.and_eq_true,Bool.not_eq_true',decide_eq_true_eq,decide_eq_false_iff_not,Bool.and_true] at hu ⊢
   refine⟨hu.1,?_,hu.2.2⟩
   omega
 | x :: us, last, now, h, hx, hl, hu => by
   rw[List.cons_append]
   unfold usAll at h ⊢
   rw[Bool.and_eq_true] at h ⊢
   exact⟨h.1,usAll_app h.2 (fun y hy=>hx y (List.mem_cons_of_mem _ hy)) (hx x (List.mem_cons_self ..)) hu⟩
theorem fedU_all {ns:List Int} (h:∀k,0≤ns.getD k 0∧ns.getD k 0≤23040) {cyc:Int}:∀k,(fedU ns k).2≤cyc→usAll (ns.length:Int) cyc 0 (fedU ns k).1=true∧(∀x∈(fedU ns k).1,x.to≤(fedU ns k).2)
 | 0,_=>⟨rfl,by simp[fedU]⟩
 | k + 1, hc => by
   have h2:=h k
   have h3:=(fedU_now h k).1
   unfold fedU at hc ⊢
   by_cases e:ns.getD k 0=0
   ·rw[if_pos e] at hc ⊢
    exact fedU_all h k hc
   ·rw[if_neg e] at hc ⊢
    have hc':(fedU ns k).2+ns.getD k 0≤cyc:=hc
    obtain⟨a1,a2⟩:=fedU_all h k (cyc:=cyc) (by omega)
    have hk:k < ns.length:=by
     apply Classical.byContradiction
     intro hk
     apply e
     rw[List.getD_eq_getElem?_getD,List.getElem?_eq_none (by omega)];rfl
    refine⟨usAll_app a1 a2 h3 ?_,fun x hx=>?_⟩
    ·unfold usOk
     simp only[Bool.and_eq_true,Bool.not_eq_true',decide_eq_true_eq,decide_eq_false_iff_not]
     refine⟨⟨by omega,by omega⟩,by omega,by omega,by omega⟩
    ·show x.to≤(fedU ns k).2+ns.getD k 0
     rcases List.mem_append.1 hx with hx | hx
     ·have:=a2 x hx;omega
     ·rw[List.mem_singleton] at hx;subst hx;exact Int.le_refl _
theorem fedU_ok {ns:List Int} (h:∀k,0≤ns.getD k 0∧ns.getD k 0≤23040) {days:Int} {k:Nat} (hk:k≤60) (hc:(fedU ns k).2≤days*1440):usesOk (ns.length:Int) days (fedU ns k).1=true:=by
 unfold usesOk
 rw[(fedU_all h k hc).1,Bool.true_and]
 exact decide_eq_true (by have:=fedU_len ns k;omega)
theorem waters_ge {cs:List Ca} {fs:List Int} {dry days a b:Int} {us:List Us} (hok:netOk cs fs dry days=true) (huo:usesOk fs.length days us=true) (hs:Sp.ok 0 13000000 ⟨a,b⟩=true) :
 ∀k,k≤us.length→∀i u,i < k→us[i]?=some u→getK cs (pathK cs fs u.field) (a*(u.to-u.frm))≤(atS (watersK cs fs dry (days*1440) a b us k).1 u.field.toNat).lo
 | 0,_,i,u,hi,_=>by omega
 | k + 1, hk, i, u, hi, hu => by
   have hx:us[k]?=some us[k]:=List.getElem?_eq_getElem (by omega)
   obtain⟨g1,_,g3,_⟩:=watersK_bd (dry:=dry) hok huo hs k (by omega)
   have hf:=fun (v:Us) (hv:v∈us)=>(usesOk_mem huo hv).1
   rw[watersK_succ]
   unfold useW
   rw[hx]
   show _≤(atS (putS _ _ _) _).lo
   obtain⟨L,hL⟩:∃L,L=(watersK cs fs dry (days*1440) a b us k).1:=⟨_,rfl⟩
   have hge:=pathW_ge hok (dryL cs fs dry (days*1440) us k) (pathK cs fs us[k].field) (watersK cs fs dry (days*1440) a b us k).2 ⟨a*(us[k].to-us[k].frm),b*(us[k].to-us[k].frm)⟩ (a*(us[k].to-us[k].frm)) (Int.le_refl _)
   obtain⟨y,hy⟩:∃y,y=(pathW cs (dryL cs fs dry (days*1440) us k) (pathK cs fs us[k].field) (watersK cs fs dry (days*1440) a b us k).2 ⟨a*(us[k].to-us[k].frm),b*(us[k].to-us[k].frm)⟩).2:=⟨_,rfl⟩
   rw[←hy] at hge ⊢
   have hpos:0≤y.lo:=by
    refine Int.le_trans ?_ hge
    have:=(getK_amt hok (pathK cs fs us[k].field) (flow_amts (m:=us[k].to-us[k].frm) hs (netOk_parts hok).2.2.2.1 (by have:=(usesOk_mem huo (List.getElem_mem (by omega:k < us.length))).2;omega) (by have:=(usesOk_mem huo (List.getElem_mem (by omega:k < us.length))).2;omega)).1 _ (Nat.le_refl _)).1
    rw[List.take_length] at this
    exact this
   rw[←hL] at g1 g3 ⊢
   have hput:∀j,j < L.length→atS (putS L us[k].field.toNat y) j=if j=us[k].field.toNat then addS (atS L j) y else atS L j:=fun j hj=>by
    unfold putS
    by_cases e:j=us[k].field.toNat
    ·rw[if_pos e,←e];unfold atS;rw[List.getElem?_set_self hj];rfl
    ·rw[if_neg e];unfold atS;rw[List.getElem?_set_ne (fun h=>e h.symm)]
   have hfu:=hf u (List.mem_of_getElem? hu)
   rw[hput u.field.toNat (by rw[g3];omega)]
   by_cases e:i=k
   ·subst e
    have:us[i]=u:=by rw[hx] at hu;exact Option.some.inj hu
    rw[this] at hge ⊢
    rw[if_pos rfl]
    show _≤(atS L u.field.toNat).lo+y.lo
    have:=((g1.at (by omega) u.field.toNat).1).1
    omega
   ·have ih:=waters_ge hok huo hs k (by omega) i u (by omega) hu
    rw[←hL] at ih
    split
    ·show _≤(atS L u.field.toNat).lo+y.lo
     omega
    ·exact ih
theorem waters_pos {cs:List Ca} {fs:List Int} {dry days a b:Int} {us:List Us} (hok:netOk cs fs dry days=true) (huo:usesOk fs.length days us=true) (hs:Sp.ok 0 13000000 ⟨a,b⟩=true) (j:Nat) :
 0≤(atS (watersK cs fs dry (days*1440) a b us us.length).1 j).lo∧0≤(atS (watersK cs fs dry (days*1440) a b us us.length).1 j).hi:=by
 obtain⟨g1,_⟩:=watersK_bd (dry:=dry) hok huo hs us.length (Nat.le_refl _)
 have:=g1.at (by omega) j
 exact⟨this.1.1,this.2.1⟩
end Go.Proofs.YtiioegopckoldaaGreatDoor
namespace Go.Proofs.YtiioegopckoldaaGreatDoor
theorem need_spec {s:So} (h:soOk s=true):(∃n,needF s=(n,0)∧s.crop≤n∧n≤1000000000∧fineF s n=true∧∀x,s.crop≤x→x < n→fineF s x=false)∨(needF s=(0,6)∧∀x,s.crop≤x→x≤1000000000→fineF s x=false):=by
 have hf:=So.fit_of h
 unfold needF
 rw[if_pos h]
 unfold needR
 by_cases h1:fineF s s.crop=true
 ·rw[if_pos h1]
  exact .inl ⟨s.crop,rfl,Int.le_refl _,hf.cr.2,h1,fun x a b=>by omega⟩
 ·rw[if_neg h1]
  have h1':fineF s s.crop=false:=by simpa using h1
  by_cases h2:s.wash.lo≤s.mineral.hi
  ·rw[if_pos h2]
   refine .inr ⟨rfl,fun x a _=>?_⟩
   have e:=salted_past a
   simp only[fineF,decide_eq_false_iff_not] at h1' ⊢
   have:=Int.mul_nonneg (show 0≤x-s.crop by omega) (show 0≤s.mineral.hi-s.wash.lo by omega)
   rw[Int.mul_sub] at this
   rw[Int.mul_sub] at e
   omega
  ·rw[if_neg h2]
   obtain⟨n,hn⟩:∃n,n=s.crop+(saltedF true s s.crop-1000*s.limit+(s.wash.lo-s.mineral.hi)-1) / (s.wash.lo-s.mineral.hi):=⟨_,rfl⟩
   have key:=fun x (hx:s.crop≤x)=>fine_iff hx (show s.mineral.hi < s.wash.lo by omega) h1'
   have hcn:s.crop≤n:=by
    by_cases hc:s.crop≤n
    ·exact hc
    ·have:=(key s.crop (Int.le_refl _)).2 (by rw[←hn];omega)
     rw[h1'] at this;simp at this
   rw[←hn] at key
   dsimp only
   rw[←hn]
   by_cases h3:n≤1000000000
   ·rw[if_pos h3]
    refine .inl ⟨n,rfl,hcn,h3,(key n hcn).2 (Int.le_refl _),fun x a b=>?_⟩
    cases hx:fineF s x with
    | false=>rfl
    | true=>have:=(key x a).1 hx;omega
   ·rw[if_neg h3]
    refine .inr ⟨rfl,fun x a b=>?_⟩
    cases hx:fineF s x with
    | false=>rfl
    | true=>have:=(key x a).1 hx;omega
end Go.Proofs.YtiioegopckoldaaGreatDoor
namespace Go.Proofs.YtiioegopckoldaaGreatDoor
open Go.RowKit Go.Shelf
theorem need_soil (s:So) (w:World) :
 Calls Tryz.prog 15 #[.agg #[.int .i64 s.salt.lo,.int .i64 s.salt.hi,.int .i64 s.limit,.int .i64 s.crop,.int .i64 s.mineral.lo,.int .i64 s.mineral.hi,.int .i64 s.wash.lo,.int .i64 s.wash.hi,.int .i64 s.rise.lo,.int .i64 s.rise.hi]] w fun e w'=>e= .returned (.tuple #[.int .i64 (needF s).1,.int .i64 (needF s).2])∧Below w.heap.size w w':=need_fn _ _ _ _ _ _ _ _ _ _ _
theorem wants_zero {cs:List Ca} {fs:List Int} {dry days a b:Int} {ss:List So} {o:List Int} {i:Int} (h:wantsP cs fs dry days a b ss o i 0) :
 netOk cs fs dry days=true∧Sp.ok 0 13000000 ⟨a,b⟩=true∧ss.length=fs.length∧(∀s∈ss,soOk s=true)∧i=0∧WOk cs fs dry days a b ss ss.length o:=by
 unfold wantsP at h
 split at h
 ·split at h
  ·split at h
   ·rename_i h1 h2 h3
    rcases h with⟨h4,h5,_⟩ | ⟨_,_,_,_,h5,_⟩
    ·exact⟨h1,h2,h3.1,by simpa using h3.2,h5,h4⟩
    ·cases h5
   ·cases h.2.2
  ·cases h.2.2
 ·cases h.2.2
theorem wants_nz {cs:List Ca} {fs:List Int} {dry days a b:Int} {ss:List So} {o:List Int} {i e:Int} (h:wantsP cs fs dry days a b ss o i e) (he:e≠0):o=[]:=by
 unfold wantsP at h
 split at h
 ·split at h
  ·split at h
   ·rcases h with⟨_,_,h5⟩ | ⟨_,_,h5,_⟩
    ·exact absurd h5 he
    ·exact h5
   ·exact h.1
  ·exact h.1
 ·exact h.1
theorem want_gets {cs:List Ca} {fs:List Int} {dry days a b:Int} {ss:List So} {o:List Int} (hok:netOk cs fs dry days=true) (hsp:Sp.ok 0 13000000 ⟨a,b⟩=true) (hl:ss.length=fs.length) (hso:∀s∈ss,soOk s=true) (h:WOk cs fs dry days a b ss ss.length o) {k:Nat} {s:So} (hs:ss[k]?=some s) :
 ∃n r,needF s=(n,0)∧s.crop≤n∧n≤1000000000∧fineF s n=true∧o[k]?=some r∧0≤r∧r≤days*1440∧n≤getK cs (pathK cs fs (k:Int)) (a*r):=by
 have hk:=(List.getElem?_eq_some_iff.1 hs).1
 obtain⟨s',n,r,h1,h2,h3,h4⟩:=h.all k hk
 rw[hs] at h1;injection h1 with h1;subst h1
 have hsk:=hso s (List.mem_of_getElem? hs)
 have hcr:=(So.fit_of hsk).cr
 rcases need_spec hsk with⟨n',e1,e2,e3,e4,_⟩ | ⟨e1,_⟩
 rotate_left
 ·rw[h2] at e1;injection e1 with _ e1;cases e1
 rw[h2] at e1
 injection e1 with e1 _
 subst e1
 refine⟨n,r,h2,e2,e3,e4,h4,?_⟩
 unfold minutesP at h3
 rw[if_pos hok,if_pos hsp] at h3
 split at h3
 ·rcases h3 with⟨h5,_⟩ | ⟨_,h5,h6,h7,_⟩
  ·cases h5
  ·exact⟨h5,h6,by simpa[enoughB] using h7⟩
 ·cases h3.2
theorem fed_gets {cs:List Ca} {fs:List Int} {dry days a b:Int} {ss:List So} {o:List Int} (hok:netOk cs fs dry days=true) (hsp:Sp.ok 0 13000000 ⟨a,b⟩=true) (hl:ss.length=fs.length) (hso:∀s∈ss,soOk s=true) (h:WOk cs fs dry days a b ss ss.length o)
 (huo:usesOk (fs.length:Int) days (fedU o ss.length).1=true) {k:Nat} {s:So} {n r:Int} (hs:ss[k]?=some s) (hr:o[k]?=some r) (hn:n≤getK cs (pathK cs fs (k:Int)) (a*r)) :
 n≤(atS (watersK cs fs dry (days*1440) a b (fedU o ss.length).1 (fedU o ss.length).1.length).1 k).lo:=by
 have hk:=(List.getElem?_eq_some_iff.1 hs).1
 have hd:o.getD k 0=r:=by rw[List.getD_eq_getElem?_getD,hr];rfl
 by_cases hz:r=0
 ·rw[hz,Int.mul_zero,getK_nul hok] at hn
  exact Int.le_trans hn (waters_pos hok huo hsp k).1
 ·obtain⟨i,u,h1,h2,h3⟩:=fedU_mem (ns:=o) hk (by rw[hd];exact hz)
  have:=waters_ge (dry:=dry) hok huo hsp _ (Nat.le_refl _) i u (List.getElem?_eq_some_iff.1 h1).1 h1
  rw[h2,h3,hd] at this
  exact Int.le_trans hn this
theorem fed_bd {cs:List Ca} {fs:List Int} {dry days a b:Int} {ss:List So} {o:List Int} (hok:netOk cs fs dry days=true) (h:∀(k:Nat) (s:So),ss[k]?=some s→∃r:Int,o[k]?=some r∧0≤r∧r≤days*1440) (hl:o.length=ss.length):∀k,0≤o.getD k 0∧o.getD k 0≤23040:=fun k=>by
 have hd:=(netOk_parts hok).2.2.2.1
 by_cases hk:k < ss.length
 ·obtain⟨r,h1,h2,h3⟩:=h k ss[k] (List.getElem?_eq_getElem hk)
  rw[List.getD_eq_getElem?_getD,h1]
  show 0≤r∧r≤23040
  omega
 ·rw[List.getD_eq_getElem?_getD,List.getElem?_eq_none (by omega)]
  show(0:Int)≤0∧(0:Int)≤23040
  omega
theorem Rd.so2 {w:World} {B:Nat} {A:Option Addr} {xs:List So} (h:Rd w B So.cells A xs) {i:Nat} (hi:i < xs.length) :
 ∃b off s,A=some ⟨b,off,none⟩∧b < B∧xs[i]?=some s∧w.cell? ⟨b,off+i*10,none⟩=some (.int .i64 s.salt.lo)∧w.cell? ⟨b,off+i*10+1,none⟩=some (.int .i64 s.salt.hi)∧w.cell? ⟨b,off+i*10+2,none⟩=some (.int .i64 s.limit)∧w.cell? ⟨b,off+i*10+3,none⟩=some (.int .i64 s.crop)∧w.cell? ⟨b,off+i*10+4,none⟩=some (.int .i64 s.mineral.lo)∧
  w.cell? ⟨b,off+i*10+5,none⟩=some (.int .i64 s.mineral.hi)∧w.cell? ⟨b,off+i*10+6,none⟩=some (.int .i64 s.wash.lo)∧w.cell? ⟨b,off+i*10+7,none⟩=some (.int .i64 s.wash.hi)∧w.cell? ⟨b,off+i*10+8,none⟩=some (.int .i64 s.rise.lo)∧w.cell? ⟨b,off+i*10+9,none⟩=some (.int .i64 s.rise.hi):=by
 obtain⟨b,off,e,hB,hc⟩:=h (by omega)
 have hx:xs[i]?=some xs[i]:=List.getElem?_eq_getElem hi
 have g:=fun j (hj:j < 10) v hv=>hc (i*10+j) v (by rw[flat_get So.len hx hj];exact hv)
 exact⟨b,off,_,e,hB,hx,g 0 (by omega) _ rfl,g 1 (by omega) _ rfl,g 2 (by omega) _ rfl,g 3 (by omega) _ rfl,g 4 (by omega) _ rfl,g 5 (by omega) _ rfl,g 6 (by omega) _ rfl,g 7 (by omega) _ rfl,g 8 (by omega) _ rfl,g 9 (by omega) _ rfl⟩
end Go.Proofs.YtiioegopckoldaaGreatDoor
namespace Go.Proofs.YtiioegopckoldaaGreatDoor
open Go.RowKit Go.Shelf
def great (cs:List Ca) (fs:List Int) (nu:Nat):Bool:=decide (24 < cs.length) || decide (18 < fs.length) || decide (80 < nu)
theorem rGreat_any (Ac Af Au:Option Addr) (nc cc nf cf nu cu:Nat) (dry days:Int) (cs:List Ca) (fs:List Int) (w:World) (hnc:nc=cs.length) (hnf:nf=fs.length) :
 Calls Tryz.prog 36 #[.agg #[.slice Ac nc cc,.slice Af nf cf,.int .i64 dry,.int .i64 days],.slice Au nu cu] w fun e w'=>e= .returned (.bool (great cs fs nu))∧Below w.heap.size w w':=by
 have Hc:=hide hnc;have Hf:=hide hnf
 clear hnc hnf
 by_cases h1:24 < nc
 ·go_enter Tryz.func36,Tryz.ntmps36
  go_wp2
  go_ret
  exact⟨ret_bool (by unfold great;rw[←Hc.out,←Hf.out];simp[h1]),below_new _ _⟩
 ·by_cases h2:18 < nf
  ·go_enter Tryz.func36,Tryz.ntmps36
   go_wp2
   go_ret
   exact⟨ret_bool (by unfold great;rw[←Hc.out,←Hf.out];simp[h2]),below_new _ _⟩
  ·by_cases h3:80 < nu
   all_goals
    go_enter Tryz.func36,Tryz.ntmps36
    go_wp2
    go_ret
    exact⟨ret_bool (by unfold great;rw[←Hc.out,←Hf.out];simp[h1,h2,h3];try omega),below_new _ _⟩
end Go.Proofs.YtiioegopckoldaaGreatDoor
namespace Go.Proofs.YtiioegopckoldaaGreatDoor
open Go.RowKit Go.Shelf
set_option maxHeartbeats 4000000 in
set_option maxRecDepth 100000 in
theorem tnth_any (A:Option Addr) (n c:Nat) (xs:List Nat) (i:Int) (w:World) (hn:n=xs.length) (h32:∀x∈xs,x≤4294967295) (hx:Rd w w.heap.size u32cell A xs) (hn2:n≤9223372036854775807) (i0:0≤i) (i1:i≤1000) :
 Calls Tryz.prog 12 #[.slice A n c,.int .i64 i] w fun e w'=>∃m:Nat,e= .returned (.int .u32 (m:Int))∧m≤4294967295∧Below w.heap.size w w':=by
 obtain⟨j,rfl⟩:∃j:Nat,i=j:=⟨i.toNat,by omega⟩
 by_cases hz:n=0
 ·subst hz
  go_enter Tryz.func12,Tryz.ntmps12
  go_wp2_with fail
  go_ret
  exact⟨0,rfl,by omega,Below.refl _ _⟩
 have hm:j % n < n:=Nat.mod_lt _ (by omega)
 obtain⟨k,hk⟩:∃k,k=j % n:=⟨_,rfl⟩
 rw[←hk] at hm
 obtain⟨b,off,x,rfl,hb,hxk,c0⟩:=hx.u32 (i:=k) (by omega)
 have hxm:=h32 x (List.mem_of_getElem? hxk)
 have t1:Int.tmod (j:Int) (n:Int)=(k:Int):=by rw[Int.tmod_eq_emod_of_nonneg (by omega),hk];exact(Int.natCast_emod j n).symm
 have t2:(j:Int) % (n:Int)=(k:Int):=by rw[hk];exact(Int.natCast_emod j n).symm
 have nz:((n:Int) == 0)=false:=by simpa using hz
 have nz2:¬(n:Int)=0:=by omega
 clear hk hxk hx hn
 go_enter Tryz.func12,Tryz.ntmps12
 go_wp2_with fail
 go_ret
 exact⟨x,rfl,hxm,Below.refl _ _⟩
set_option maxHeartbeats 4000000 in
set_option maxRecDepth 100000 in
theorem tamong_any (lo hi:Int) (m:Nat) (w:World) (h0:0≤lo) (h1:lo≤hi) (h2:hi≤1000000000000) (hm:m≤4294967295) :
 Calls Tryz.prog 11 #[.agg #[.int .i64 lo,.int .i64 hi],.int .u32 (m:Int)] w fun e w'=>∃r,e= .returned (.int .i64 r)∧(lo≤r∧r≤hi)∧Below w.heap.size w w':=by
 obtain⟨W,HW⟩:∃W,Hid (w.alloc (.cells #[.int .i64 lo,.int .i64 hi] 24)=W):=⟨_,hide rfl⟩
 have hx:At W w.heap.size [.int .i64 lo,.int .i64 hi]:=by rw[←HW.out];exact At.new w #[.int .i64 lo,.int .i64 hi] _ _ rfl _ rfl
 have hB:Below w.heap.size w W:=by rw[←HW.out];exact below_new w _
 obtain⟨q0,q1⟩:=hx.c2
 have fm:IntKind.i64.wrap (m:Int)=m:=wrapI (by omega)
 have e1:(0:Int)≤(m:Int) % (hi-lo+1)∧(m:Int) % (hi-lo+1) < hi-lo+1:=⟨Int.emod_nonneg _ (by omega),Int.emod_lt_of_pos _ (by omega)⟩
 obtain⟨r,hr⟩:∃r,r=(m:Int) % (hi-lo+1):=⟨_,rfl⟩
 rw[←hr] at e1
 have t1:Int.tmod (m:Int) (hi-lo+1)=r:=by rw[Int.tmod_eq_emod_of_nonneg (by omega),hr]
 have nz:¬hi-lo+1=0:=by omega
 have Hr:=hide hr
 clear hr hx
 go_enter Tryz.func11,Tryz.ntmps11
 go_wp2_with fail
 rw[HW.out]
 go_quiet (fail)
 go_wp2_with fail
 go_ret
 exact⟨lo+r,by first | rfl | simp,⟨by omega,by omega⟩,below_drewN hB _⟩
structure PlanOk (cs:List Ca) (fs:List Int) (dry days a b:Int) (ss:List So) (out:List Int):Prop where
 net:netOk cs fs dry days=true
 sp:Sp.ok 0 13000000 ⟨a,b⟩=true
 le:ss.length=fs.length
 so:∀s∈ss,soOk s=true
 wo:WOk cs fs dry days a b ss ss.length out
 n8:ss.length≤8
 c24:cs.length≤24∧fs.length≤18
 fit:(fedU out ss.length).2≤days*1440
theorem plan_bad {out:List Int} {rs:List Rr} (h:rentsOk out rs=false):planF out rs=([],0,62):=by
 unfold planF;rw[h];rfl
set_option maxHeartbeats 40000000 in
set_option maxRecDepth 100000 in
theorem planned_any (Ac Af A A2:Option Addr) (nc cc nf cf n c r c2:Nat) (dry days a b:Int) (cs:List Ca) (fs:List Int) (ss:List So) (rs:List Rr) (w:World) (hnc:nc=cs.length) (hnf:nf=fs.length) (hcs:Rd w w.heap.size Ca.cells Ac cs) (hfs:Rd w w.heap.size icell Af fs)
 (hn:n=ss.length) (hm:n≤9223372036854775807) (hx:Rd w w.heap.size So.cells A ss) (hR:RsAt0 w A2 r rs) (hr2:r≤9223372036854775807) :
 Calls Tryz.prog 10 #[.agg #[.slice Ac nc cc,.slice Af nf cf,.int .i64 dry,.int .i64 days],.agg #[.int .i64 a,.int .i64 b],.slice A n c,.slice A2 r c2] w fun e w'=>∃v1 v2 v3 bb,e= .returned (.tuple #[v1,v2,v3,.bool bb])∧(bb=true→∃out,PlanOk cs fs dry days a b ss out∧Own w' w.heap.size 119 3 Us.cells v3 (fedU out ss.length).1)∧Below w.heap.size w w':=by
 obtain⟨b4,w1,e4,ew1,hx4,hb1,hz1⟩:=mk_bx w #[.slice Ac nc cc,.slice Af nf cf,.int .i64 dry,.int .i64 days] 28
 obtain⟨b5,w2,e5,ew2,hx5,hb2,hz2⟩:=mk_bx w1 #[.int .i64 a,.int .i64 b] 24
 have e45:b4+1=b5:=by have:=e5.out;omega
 have hB2:=hb1.trans (hb2.mono hb1.size)
 have rc2:=hcs.bel hB2;have rf2:=hfs.bel hB2
 have Rs:=hide (hx.bel hB2);have RR:=hide (hR.bel hB2)
 have X4:=hide (hx4.bel hb2);have X5:=hide hx5
 have Hn:=hide hn;have Hnc:=hide hnc;have Hnf:=hide hnf;have HB2:=hide hB2
 clear hn hcs hfs hx hb1 hb2 hz1 hz2 hnc hnf hR hx4 hx5 hB2
 go_enter Tryz.func10,Tryz.ntmps10
 obtain⟨q0,q1,q2,q3⟩:=X4.out.at_.c4
 go_wp2_with fail
 rw[ew1.out,e4.out,e45,ew2.out]
 go_wp2_with fail
 refine(rGreat_any Ac Af none nc cc nf cf 0 0 dry days cs fs w2 Hnc.out Hnf.out).mono ?_
 rintro e w4 ⟨rfl,hb4⟩
 have H4:=hide hb4
 clear q0 q1 q2 q3 hb4
 cases hg:great cs fs 0
 rotate_left
 ·clear hg
  go_wp2_with fail
  go_returns
  exact⟨_,_,_,false,rfl,by simp,HB2.out.trans (H4.out.mono HB2.out.size)⟩
 have hl:cs.length≤24∧fs.length≤18:=by simp[great] at hg;omega
 have N2:Hid (NetAt w2 Ac Af nc nf cs fs):=hide ⟨rc2,rf2,Hnc.out,Hnf.out,by have:=Hnc.out;omega,by have:=Hnf.out;omega⟩
 have Hl:=hide hl
 clear hg hl rc2 rf2
 by_cases h8:8 < n
 ·go_wp2_with fail
  go_returns
  exact⟨_,_,_,false,rfl,by simp,HB2.out.trans (H4.out.mono HB2.out.size)⟩
 have hn8:n≤8:=by omega
 obtain⟨q0,q1,q2,q3⟩:=(X4.out.bel H4.out).at_.c4
 obtain⟨p0,p1,_,_⟩:=(X5.out.bel H4.out).w2
 go_wp2_with fail
 refine(wants_fn Ac Af A nc _ nf _ n _ dry days a b cs fs ss w4 (N2.out.below H4.out) Hn.out (by omega) (Rs.out.bel H4.out)).mono ?_
 rintro e w5 ⟨v,out,i,er,rfl,ho,hw,hb5⟩
 have H5:=hide (H4.out.trans (hb5.mono H4.out.size))
 clear q0 q1 q2 q3 p0 p1 hb5
 by_cases he:er=0
 rotate_left
 ·obtain⟨Ao,co,rfl,_⟩:=ho.rdn 0 (by rw[wants_nz hw he];rfl)
  have t1:(er != 0)=true:=by simpa using he
  clear hw ho he
  go_wp2_with fail
  go_returns
  exact⟨_,_,_,false,rfl,by simp,HB2.out.trans (H5.out.mono HB2.out.size)⟩
 subst he
 obtain⟨hok,hsp,hle,hso,rfl,hwo⟩:=wants_zero hw
 have hol:out.length=n:=by rw[hwo.len,Hn.out]
 obtain⟨Ao,co,rfl,ro⟩:=ho.rdn n hol
 have Hok:=hide hok;have Hsp:=hide hsp;have Hle:=hide hle;have Hso:=hide hso;have Hwo:=hide hwo;have Hol:=hide hol;have Ro:=hide ro
 have tn:((n:Int) != (n:Int))=false:=by simp
 have tn2:((n:Int) == (n:Int))=true:=by simp
 clear hw ho hok hsp hle hso hwo hol ro
 go_wp2_with fail
 refine(great6_any Ao A2 n _ r _ out rs w5 Hol.out.symm hm (RR.out.bel H5.out) hr2).mono ?_
 rintro e w6 ⟨rfl,hb6⟩
 have H6:=hide (H5.out.trans (hb6.mono H5.out.size));have H56:=hide hb6
 clear hb6
 cases hrd:greatF out rs
 rotate_left
 ·clear hrd
  go_wp2_with fail
  go_returns
  exact⟨_,_,_,false,rfl,by simp,HB2.out.trans (H6.out.mono HB2.out.size)⟩
 have HR:=hide (RR.out.small (ns:=out) hrd).1
 have hr12:r≤12:=(RR.out.small (ns:=out) hrd).2.1
 clear hrd
 go_wp2_with fail
 refine(plan_any Ao A2 n _ r _ out rs w6 (Ro.out.bel H56.out) Hol.out.symm hm (HR.out.bel H6.out) hr2).mono ?_
 rintro e w7 ⟨vA,rfl,⟨ssA,oA,rA⟩,hb7⟩
 have H7:=hide (H6.out.trans (hb7.mono H6.out.size));have H57:=hide (H56.out.trans (hb7.mono H56.out.size))
 obtain⟨A4,c4,rfl,pA⟩:=oA.rdn _ rfl
 have ssAl:ssA.length=(planF out rs).1.length:=rA.len
 rw[ssAl]
 clear hb7 oA ssAl
 cases hro:rentsOk out rs
 ·rw[plan_bad hro]
  clear hro pA rA
  go_wp2_with fail
  go_returns
  exact⟨_,_,_,false,rfl,by simp,HB2.out.trans (H7.out.mono HB2.out.size)⟩
 have Hro:=hide (RentsOk.of hro)
 have hr8:r≤8:=by rw[HR.out.en];exact Hro.out.rl
 clear hro
 by_cases hf:(boR out rs).Feas (capsR rs)
 rotate_left
 ·have hpn:=plan_none Hro.out hf
  rw[hpn]
  clear hpn hf pA rA
  go_wp2_with fail
  go_returns
  exact⟨_,_,_,false,rfl,by simp,HB2.out.trans (H7.out.mono HB2.out.size)⟩
 obtain⟨p,cst,hpf,hpl,_,_⟩:=plan_planned Hro.out hf
 rw[hpf] at rA ⊢
 have Hpl:=hide hpl
 have hpr:p.length=r:=by rw[hpl.len,HR.out.en]
 have hp1:(p,cst,(0:Int)).1.length=r:=hpr
 rw[hp1]
 have Hpr:=hide hpr
 have PA:=hide pA;have RA:=hide rA
 clear hpf hpl hpr hp1 hf pA rA
 go_wp2_with fail
 refine(rplanned_any Ao A2 A4 n _ r _ r _ out rs ssA p w7 (Ro.out.bel H57.out) Hol.out.symm Hro.out (HR.out.bel H7.out) Hpr.out.symm PA.out RA.out).mono ?_
 rintro e w8 ⟨c',bb,rfl,_,hnn,hb8⟩
 have H8:=hide (H7.out.trans (hb8.mono H7.out.size));have H58:=hide (H57.out.trans (hb8.mono H57.out.size))
 cases bb
 ·exact absurd Hpl.out (hnn rfl).1
 have Hfb:Hid (∀k,0≤out.getD k 0∧out.getD k 0≤23040):=hide (fed_bd (a:=a) (b:=b) Hok.out (fun k s hs=>by
  obtain⟨_,x,_,_,_,_,h1,h2,h3,_⟩:=want_gets Hok.out Hsp.out Hle.out Hso.out Hwo.out hs
  exact⟨x,h1,h2,h3⟩) (by rw[Hol.out];exact Hn.out))
 have R8:=hide (Ro.out.bel H58.out)
 clear hnn hb8
 go_wp2_with fail
 go_loopw [20,21,73] (fun uv nv kv wr=>∃(k:Nat) (pv:Value) (now:Int),pv=uv∧k≤n∧kv= .int .i64 k∧nv= .int .i64 now∧Hid (now=(fedU out k).2)∧Hid (Own wr w8.heap.size 119 3 Us.cells pv (fedU out k).1)∧Below w8.heap.size w8 wr) (fun _ _ kv _=>n-(intOf kv).toNat)
 case atStart=>exact⟨0,_,0,rfl,by omega,rfl,rfl,hide rfl,hide (Own.nil _ _ _ _ _),Below.refl _ _⟩
 case round=>
  obtain⟨k,pv,now,rfl,hk,rfl,rfl,Hnow,HO,hb⟩:=hrel
  have hnb:0≤now∧now≤k*23040:=by rw[Hnow.out];exact fedU_now Hfb.out k
  by_cases hkn:k < n
  ·have ik:(k:Int) < (n:Int):=by omega
   have Hb:=hide hb
   obtain⟨bx,ox,g,hAx,_,hxx,cx⟩:=(R8.out.bel hb).int (i:=k) (by rw[Hol.out];exact hkn)
   have hgx:out.getD k 0=g:=by rw[List.getD_eq_getElem?_getD,hxx];rfl
   have hgb:0≤g∧g≤23040:=by rw[←hgx];exact Hfb.out k
   subst hAx
   clear hxx hb
   by_cases hg0:g=0
   ·subst hg0
    have Hs:Hid (fedU out (k+1)=fedU out k):=hide (by show(if out.getD k 0=0 then _ else _)=_;rw[if_pos hgx])
    clear hgx
    go_wp2_with fail
    exact⟨⟨k+1,pv,now,rfl,by omega,by go_num,rfl,by rw[Hs.out];exact Hnow,by rw[Hs.out];exact HO,Hb.out⟩,by simp[intOf];omega⟩
   ·have t0:0 < g:=by omega
    have Hs:Hid (fedU out (k+1)=((fedU out k).1 ++ [⟨(k:Int),now,now+g⟩],now+g)):=hide (by show(if out.getD k 0=0 then _ else _)=_;rw[if_neg (by rw[hgx];exact hg0),hgx,←Hnow.out])
    have fw:IntKind.i64.wrap (now+g)=now+g:=wrapI (by omega)
    have hul:(fedU out k).1.length+1≤1000000:=by have:=fedU_len out k;omega
    have hsz:=Hb.out.size
    clear hgx hg0
    go_wp2_with (at_builtin;refine wpList_app1l (v:=pv) (xs:=(fedU out k).1) (base:=w8.heap.size) (k:=3) (bytes:=24) (E:=119) el_us rfl (.tmp 80) (.tmp 88) rfl rfl rfl HO.out ⟨(k:Int),now,now+g⟩ rfl hul hsz ?_;intro v' w10 o10 k10 hat;have O10:=hide o10;have K10:=hide k10;clear o10 k10 hat)
    have hK:Below w8.heap.size w8 w10:=Hb.out.trans (K10.out.below (fun b hb e=>by have:=(HO.out.blockG e).1;omega) hsz)
    exact⟨⟨k+1,v',now+g,rfl,by omega,by go_num,rfl,hide (by rw[Hs.out]),by rw[Hs.out];exact O10,hK⟩,by simp[intOf];omega⟩
  ·obtain rfl:n=k:=by omega
   obtain⟨w9,rfl⟩:∃w9,w9=wr:=⟨wr,rfl⟩
   have H9:=hide (H8.out.trans (hb.mono H8.out.size))
   have hdy:=(netOk_parts Hok.out).2.2.2.1
   have fm:IntKind.i64.wrap (days*1440)=days*1440:=wrapI (by omega)
   obtain⟨q0,q1,q2,q3⟩:=(X4.out.bel H9.out).at_.c4
   have hsz8:w.heap.size≤w8.heap.size:=(HB2.out.trans (H8.out.mono HB2.out.size)).size
   clear hb
   go_upto_region 21 with fail
   go_quiet (fail)
   go_wp2_with fail
   go_returns
   have hq:Below w9.heap.size w9 (w9.drewN nq):=below_drewN (Below.refl _ _) nq
   refine⟨_,_,pv,decide (now≤days*1440),rfl,fun hd=>⟨out,⟨Hok.out,Hsp.out,Hle.out,Hso.out,Hwo.out,by rw[←Hn.out];exact hn8,Hl.out,by rw[←Hn.out,←Hnow.out];exact of_decide_eq_true hd⟩,?_⟩,HB2.out.trans ((H9.out.trans (hq.mono H9.out.size)).mono HB2.out.size)⟩
   rw[←Hn.out]
   exact(HO.out.below hq).mono hsz8
end Go.Proofs.YtiioegopckoldaaGreatDoor
namespace Go.Proofs.YtiioegopckoldaaGreatDoor
theorem upG_mono {v v' fill thr:Int} (h:v≤v') (t0:0≤thr):upG v fill thr≤upG v' fill thr:=by
 unfold upG
 have:=Int.mul_le_mul_of_nonneg_right (show max 0 (v-fill)≤max 0 (v'-fill) by omega) t0
 exact Int.ediv_le_ediv (by omega) (by omega)
theorem goF_in {x:Wk} (hx:x.wf) {u v:Sp} (h1:v.lo≤u.lo) (h2:u.hi≤v.hi):(goF x v).lo≤(goF x u).lo∧(goF x u).hi≤(goF x v).hi:=
 ⟨downF_mono h1 hx.2.2.1.1,upG_mono h2 hx.2.2.2.1⟩
theorem pathW_in {cs:List Ca} {fs:List Int} {dry days:Int} (hok:netOk cs fs dry days=true) (dr:List Int):∀(p:List Int) (lost lost':List Sp) (u v:Sp),v.lo≤u.lo→u.hi≤v.hi→(pathW cs dr p lost v).2.lo≤(pathW cs dr p lost' u).2.lo∧(pathW cs dr p lost' u).2.hi≤(pathW cs dr p lost v).2.hi
 | [],_,_,_,_,h1,h2=>⟨h1,h2⟩
 | c :: p, lost, lost', u, v, h1, h2 => by
   obtain⟨g1,g2⟩:=goF_in (wkAt_wf hok dr c) h1 h2
   exact pathW_in hok dr p (canalW cs dr (lost,v) c).1 (canalW cs dr (lost',u) c).1 (canalW cs dr (lost',u) c).2 (canalW cs dr (lost,v) c).2 g1 g2
theorem waters_in {cs:List Ca} {fs:List Int} {dry days a b f:Int} {us:List Us} (hok:netOk cs fs dry days=true) (huo:usesOk fs.length days us=true) (h1:a≤f) (h2:f≤b) :
 ∀k,k≤us.length→(watersK cs fs dry (days*1440) a b us k).1.length=(watersK cs fs dry (days*1440) f f us k).1.length∧∀j,(atS (watersK cs fs dry (days*1440) a b us k).1 j).lo≤(atS (watersK cs fs dry (days*1440) f f us k).1 j).lo∧(atS (watersK cs fs dry (days*1440) f f us k).1 j).hi≤(atS (watersK cs fs dry (days*1440) a b us k).1 j).hi
 | 0,_=>⟨rfl,fun j=>⟨Int.le_refl _,Int.le_refl _⟩⟩
 | k + 1, hk => by
   have hx:us[k]?=some us[k]:=List.getElem?_eq_getElem (by omega)
   obtain⟨il,ih⟩:=waters_in (a:=a) (b:=b) (f:=f) (dry:=dry) hok huo h1 h2 k (by omega)
   have hu:=(usesOk_mem huo (List.getElem_mem (by omega:k < us.length))).2
   rw[watersK_succ,watersK_succ]
   unfold useW
   rw[hx]
   obtain⟨p1,p2⟩:=pathW_in hok (dryL cs fs dry (days*1440) us k) (pathK cs fs us[k].field) (watersK cs fs dry (days*1440) a b us k).2 (watersK cs fs dry (days*1440) f f us k).2 ⟨f*(us[k].to-us[k].frm),f*(us[k].to-us[k].frm)⟩ ⟨a*(us[k].to-us[k].frm),b*(us[k].to-us[k].frm)⟩ (Int.mul_le_mul_of_nonneg_right h1 (by omega)) (Int.mul_le_mul_of_nonneg_right h2 (by omega))
   obtain⟨y,hy⟩:∃y,y=(pathW cs (dryL cs fs dry (days*1440) us k) (pathK cs fs us[k].field) (watersK cs fs dry (days*1440) a b us k).2 ⟨a*(us[k].to-us[k].frm),b*(us[k].to-us[k].frm)⟩).2:=⟨_,rfl⟩
   obtain⟨z,hz⟩:∃z,z=(pathW cs (dryL cs fs dry (days*1440) us k) (pathK cs fs us[k].field) (watersK cs fs dry (days*1440) f f us k).2 ⟨f*(us[k].to-us[k].frm),f*(us[k].to-us[k].frm)⟩).2:=⟨_,rfl⟩
   rw[←hy,←hz] at p1 p2
   show(putS _ _ _).length=(putS _ _ _).length∧∀j,(atS (putS _ _ _) j).lo≤(atS (putS _ _ _) j).lo∧(atS (putS _ _ _) j).hi≤(atS (putS _ _ _) j).hi
   rw[←hy,←hz]
   obtain⟨L,hL⟩:∃L,L=(watersK cs fs dry (days*1440) a b us k).1:=⟨_,rfl⟩
   obtain⟨M,hM⟩:∃M,M=(watersK cs fs dry (days*1440) f f us k).1:=⟨_,rfl⟩
   rw[←hL,←hM] at il ih ⊢
   refine⟨by rw[putS_len,putS_len,il],fun j=>?_⟩
   have hj:=ih j
   unfold putS
   by_cases e:j=us[k].field.toNat
   ·by_cases hl:j < L.length
    ·rw[←e];unfold atS;rw[List.getElem?_set_self hl,List.getElem?_set_self (by rw[←il];exact hl)]
     show(atS L j).lo+y.lo≤(atS M j).lo+z.lo∧(atS M j).hi+z.hi≤(atS L j).hi+y.hi
     omega
    ·unfold atS
     rw[List.getElem?_eq_none (by rw[List.length_set];omega),List.getElem?_eq_none (by rw[List.length_set];omega)]
     exact⟨Int.le_refl _,Int.le_refl _⟩
   ·have e2:∀(N:List Sp) (q:Sp),atS (N.set us[k].field.toNat q) j=atS N j:=fun N q=>by unfold atS;rw[List.getElem?_set_ne (fun h=>e h.symm)]
    rw[e2,e2];exact hj
def RunG (g:List Rc) (s:Sp) (k:Nat) (v:Int):Prop:=
 ∃ns:Nat→Int,inS (ns 0) s∧(∀j r,j < k→g[j]?=some r→leastF r (ns j)≤ns (j+1)∧ns (j+1)≤mostF r (ns j))∧(∀j,j≤k→0≤ns j∧ns j≤2000000)∧ns k=v
theorem RunG.start {g:List Rc} {s:Sp} {v:Int} (hs:s.fine 1000000) (h:inS v s):RunG g s 0 v:=⟨fun _=>v,h,fun j r hj=>absurd hj (by omega),fun j _=>by
 obtain⟨a,b,c⟩:=hs
 unfold inS at h
 show 0≤v∧v≤2000000
 omega,rfl⟩
theorem RunG.next {g:List Rc} {s:Sp} {k:Nat} {v c l m:Int} {r:Rc} (h:RunG g s k v) (hr:g[k]?=some r) (hf:r.fine) (hc:inS c r.cap) (hl:inS l r.leak) (hm:inS m r.gain):RunG g s (k+1) (nextF v c l m):=by
 obtain⟨ns,h0,h1,h2,h3⟩:=h
 have hn:=next_step (n:=v) hc hl hm
 have hb:0≤nextF v c l m∧nextF v c l m≤2000000:=by
  obtain⟨⟨a1,a2,a3⟩,⟨b1,b2,b3⟩,⟨c1,c2,c3⟩⟩:=hf
  unfold inS at hc hl hm
  unfold nextF
  have:=(h2 k (Nat.le_refl _)).1
  omega
 have e:∀j,j≤k→(fun j=>if j=k+1 then nextF v c l m else ns j) j=ns j:=fun j hj=>if_neg (by omega)
 have e2:(fun j=>if j=k+1 then nextF v c l m else ns j) (k+1)=nextF v c l m:=if_pos rfl
 refine⟨fun j=>if j=k+1 then nextF v c l m else ns j,by rw[e 0 (by omega)];exact h0,fun j r' hj hr'=>?_,fun j hj=>?_,e2⟩
 ·rw[e j (by omega)]
  by_cases hjk:j=k
  ·subst hjk
   rw[e2,h3]
   obtain rfl:r=r':=Option.some.inj (hr.symm.trans hr')
   exact hn
  ·rw[e (j+1) (by omega)]
   exact h1 j r' (by omega) hr'
 ·by_cases hjk:j=k+1
  ·rw[hjk,e2];exact hb
  ·rw[e j (by omega)]
   exact h2 j (by omega)
theorem rdS_nil (n k:Nat):(rdS n []).getD k allS=allS:=by
 show(List.replicate (n+1) allS).getD k allS=allS
 rw[List.getD_eq_getElem?_getD,List.getElem?_replicate]
 split <;> rfl
theorem gal_told {g:List Rc} {s:Sp} {v:Int} (hg:gOk g=true) (hs:Sp.ok 0 1000000 s=true) (h:RunG g s g.length v) :
 ∃l a b,flErr g s []=0∧flL g s []=l∧l.length=g.length+1∧l[g.length]?=some ⟨a,b⟩∧a≤v∧v≤b∧Sp.ok 0 13000000 ⟨a,b⟩=true:=by
 have hs1:s.fine 1000000:=by
  simp only[Sp.ok,Bool.and_eq_true,decide_eq_true_eq] at hs
  exact⟨hs.1.1,hs.1.2,hs.2⟩
 have hfine:=gOk_fine hg
 obtain⟨ns,h0,h1,h2,h3⟩:=h
 have F:Feas g (rdS g.length []) s ns:=⟨h0,fun k hk=>by
  rw[rdS_nil]
  have:=h2 k hk
  show(0:Int)≤ns k∧ns k≤13000000
  omega,fun k r hr=>h1 k r (List.getElem?_eq_some_iff.1 hr).1 hr⟩
 obtain⟨l,hl,hin⟩:=feas_in g _ s ns hfine F
 have hlen:=flowsF_len g _ s l hl
 have he:gEnter g s []=0:=by
  unfold gEnter
  rw[if_pos hg]
  have hb:anyBad 1000000 [s]=false:=by
   obtain⟨a1,a2,a3⟩:=hs1
   simp[anyBad,Sp.bad]
   omega
  rw[hb]
  simp[gasBad]
 have hfit:fitS g [] s=some l:=hl
 have hE:flErr g s []=0:=by
  unfold flErr;rw[if_pos he,hfit];rfl
 have hL:flL g s []=l:=by
  unfold flL;rw[if_pos hE,hfit];rfl
 have hk:g.length < l.length:=by omega
 have hx:l[g.length]?=some l[g.length]:=List.getElem?_eq_getElem hk
 have hf:=flowsF_fine g _ s l hfine (fun x hx=>rdS_bd g.length [] (by simp) x hx) ⟨hs1.1,hs1.2.1,by have:=hs1.2.2;omega⟩ hl l[g.length] (List.getElem_mem hk)
 have hi:=hin g.length (Nat.le_refl _)
 rw[List.getD_eq_getElem?_getD,hx,h3] at hi
 refine⟨l,l[g.length].lo,l[g.length].hi,hE,hL,hlen,hx,hi.1,hi.2,?_⟩
 obtain⟨a1,a2,a3⟩:=hf
 simp only[Sp.ok,Bool.and_eq_true,decide_eq_true_eq]
 exact⟨⟨a1,a2⟩,a3⟩
end Go.Proofs.YtiioegopckoldaaGreatDoor
