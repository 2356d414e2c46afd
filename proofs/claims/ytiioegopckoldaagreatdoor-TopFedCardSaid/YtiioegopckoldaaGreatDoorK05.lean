/- lemmas for topFed_holds: Net V1 V2. No conditions. -/
import Derived.Test.YtiioegopckoldaaGreatDoorK03
import Derived.Test.YtiioegopckoldaaGreatDoorK04
import Derived.Test.YtiioegopckoldaaGreatDoorK01
import Derived.Handy
set_option linter.unusedVariables false
set_option linter.unusedSimpArgs false
namespace Go.Proofs.YtiioegopckoldaaGreatDoor
open Go.RowKit Go.Shelf
theorem At.c5 {w:World} {p:Nat} {v0 v1 v2 v3 v4:Value} (h:At w p [v0,v1,v2,v3,v4]):w.cell? ⟨p,0,none⟩=some v0∧w.cell? ⟨p,1,none⟩=some v1∧w.cell? ⟨p,2,none⟩=some v2∧w.cell? ⟨p,3,none⟩=some v3∧w.cell? ⟨p,4,none⟩=some v4:=⟨h.2 0 _ rfl,h.2 1 _ rfl,h.2 2 _ rfl,h.2 3 _ rfl,h.2 4 _ rfl⟩
structure Us where
 field:Int
 frm:Int
 to:Int
 deriving DecidableEq
def Us.cells (u:Us):List Value:=[.int .i64 u.field,.int .i64 u.frm,.int .i64 u.to]
theorem Us.len (u:Us):u.cells.length=3:=rfl
theorem Us.one (s:Us):∀u∈s.cells,u.oneCell'=true:=by simp[Us.cells,Value.oneCell']
theorem Rd.us {w:World} {B:Nat} {A:Option Addr} {xs:List Us} (h:Rd w B Us.cells A xs) {i:Nat} (hi:i < xs.length) :
 ∃b off f s t,A=some ⟨b,off,none⟩∧b < B∧xs[i]?=some ⟨f,s,t⟩∧w.cell? ⟨b,off+i*3,none⟩=some (.int .i64 f)∧w.cell? ⟨b,off+i*3+1,none⟩=some (.int .i64 s)∧w.cell? ⟨b,off+i*3+2,none⟩=some (.int .i64 t):=by
 obtain⟨b,off,e,hB,hc⟩:=h (by omega)
 have hx:xs[i]?=some xs[i]:=List.getElem?_eq_getElem hi
 exact⟨b,off,_,_,_,e,hB,hx,hc _ _ (flat_get Us.len hx (j:=0) (by omega)),hc _ _ (flat_get Us.len hx (j:=1) (by omega)),hc _ _ (flat_get Us.len hx (j:=2) (by omega))⟩
structure NetAt (w:World) (Ac Af:Option Addr) (nc nf:Nat) (cs:List Ca) (fs:List Int):Prop where
 rc:Rd w w.heap.size Ca.cells Ac cs
 rf:Rd w w.heap.size icell Af fs
 ec:nc=cs.length
 ef:nf=fs.length
 nc2:nc≤1000
 nf2:nf≤1000
theorem NetAt.below {w w':World} {Ac Af:Option Addr} {nc nf:Nat} {cs:List Ca} {fs:List Int} (h:NetAt w Ac Af nc nf cs fs) (hb:Below w.heap.size w w'):NetAt w' Ac Af nc nf cs fs:=
 ⟨(h.rc.below hb).more hb.size,(h.rf.below hb).more hb.size,h.ec,h.ef,h.nc2,h.nf2⟩
def netPre (cs:List Ca) (fs:List Int) (dry days:Int):Bool:=decide (cs.length≤16) && decide (fs.length≤12) && inB 0 23040 dry && inB 1 16 days
def caAll:Nat→List Ca→Bool
 | _,[]=>true
 | i,c :: cs=>caOk i c && caAll (i+1) cs
def netOk (cs:List Ca) (fs:List Int) (dry days:Int):Bool:=netPre cs fs dry days && !(anyOut 0 cs.length fs) && caAll 0 cs && decide fs.Nodup
def netErr (cs:List Ca) (fs:List Int) (dry days:Int):Int:=if netOk cs fs dry days then 0 else 50
theorem caAll_iff:∀(i:Nat) (cs:List Ca),caAll i cs=true↔∀(k:Nat) (c:Ca),cs[k]?=some c→caOk (i+k) c=true
 | i,[]=>by simp[caAll]
 | i, c :: cs => by
   unfold caAll
   rw[Bool.and_eq_true,caAll_iff (i+1) cs]
   constructor
   ·rintro⟨h1,h2⟩ k d hk
    cases k with
    | zero=>simp at hk;subst hk;exact h1
    | succ k=>have:=h2 k d (by simpa using hk);rwa [show i+1+k=i+(k+1) by omega] at this
   ·intro h
    exact⟨h 0 c rfl,fun k d hk=>by have:=h (k+1) d (by simpa using hk);rwa [show i+(k+1)=i+1+k by omega] at this⟩
def caTo (cs:List Ca) (k:Nat):Prop:=∀(j:Nat) (c:Ca),j < k→cs[j]?=some c→caOk j c=true
theorem caTo_zero (cs:List Ca):caTo cs 0:=fun j c h=>by omega
theorem caTo_snoc {cs:List Ca} {k:Nat} {c:Ca} (h:caTo cs k) (hx:cs[k]?=some c) (hc:caOk k c=true):caTo cs (k+1):=fun j d hj hd=>by
 by_cases e:j=k
 ·subst e;rw[hx] at hd;injection hd with hd;subst hd;exact hc
 ·exact h j d (by omega) hd
theorem caTo_all {cs:List Ca} {k:Nat} (h:caTo cs k) (hk:cs.length≤k):caAll 0 cs=true:=
 (caAll_iff 0 cs).2 fun j c hj=>by
  have:=(List.getElem?_eq_some_iff.1 hj).1
  rw[Nat.zero_add];exact h j c (by omega) hj
theorem caAll_hit {cs:List Ca} {k:Nat} {c:Ca} (hx:cs[k]?=some c) (hc:caOk k c=false):caAll 0 cs=false:=by
 rw[Bool.eq_false_iff];intro h
 have:=(caAll_iff 0 cs).1 h k c hx
 rw[Nat.zero_add,hc] at this
 cases this
theorem caFrm_of {cs:List Ca} (h:caAll 0 cs=true):caFrm cs:=fun k c hk=>by
 have:=(caAll_iff 0 cs).1 h k c hk
 simp[caOk,inB] at this
 omega
theorem netOk_parts {cs:List Ca} {fs:List Int} {dry days:Int} (h:netOk cs fs dry days=true):cs.length≤16∧fs.length≤12∧(0≤dry∧dry≤23040)∧(1≤days∧days≤16)∧(∀n∈fs,0≤n∧n≤cs.length)∧caAll 0 cs=true∧fs.Nodup:=by
 simp only[netOk,netPre,Bool.and_eq_true,decide_eq_true_eq,inB,Bool.not_eq_true',anyOut,List.any_eq_false] at h
 obtain⟨⟨⟨⟨⟨⟨h1,h2⟩,h3⟩,h4⟩,h5⟩,h6⟩,h7⟩:=h
 refine⟨h1,h2,h3,h4,fun n hn=>?_,h6,h7⟩
 have:=h5 n hn
 simp[outB] at this
 omega
theorem netOk_frm {cs:List Ca} {fs:List Int} {dry days:Int} (h:netOk cs fs dry days=true):caFrm cs:=caFrm_of (netOk_parts h).2.2.2.2.2.1
def nodeF (fs:List Int) (k:Nat):Nat:=match fs[k]? with | some n=>n.toNat | none=>0
theorem nodeF_of {cs:List Ca} {fs:List Int} {dry days:Int} (h:netOk cs fs dry days=true) {k:Nat} (hk:k < fs.length):fs[k]?=some ((nodeF fs k:Nat):Int)∧nodeF fs k≤cs.length:=by
 have hx:fs[k]?=some fs[k]:=List.getElem?_eq_getElem hk
 have:=(netOk_parts h).2.2.2.2.1 fs[k] (List.getElem_mem hk)
 unfold nodeF
 rw[hx]
 simp only
 exact⟨by rw[show((fs[k].toNat:Nat):Int)=fs[k] by omega],by omega⟩
structure SetTo (fs:List Int) (k:Nat) (f:Int→Option Bool) (s:Nat):Prop where
 mem:∀j,f j=if j∈fs.take k then some true else none
 le:s≤k
 eq:s=k↔(fs.take k).Nodup
theorem SetTo.zero (fs:List Int):SetTo fs 0 (fun _=>none) 0:=⟨fun j=>by simp,Nat.le_refl _,by simp⟩
theorem SetTo.snoc {fs:List Int} {k:Nat} {f:Int→Option Bool} {s:Nat} {x:Int} (h:SetTo fs k f s) (hx:fs[k]?=some x):SetTo fs (k+1) (upd f x (some true)) (if(f x).isSome then s else s+1):=by
 have h1:=h.le
 have h2:=h.eq
 have h3:=h.mem x
 refine⟨fun j=>?_,by split <;> omega,?_⟩
 ·unfold upd
  rw[take_snoc hx,h.mem j]
  by_cases e:j=x
  ·subst e;simp
  ·simp[e]
 ·rw[take_snoc hx,List.nodup_append]
  by_cases hm:x∈fs.take k
  ·rw[h3,if_pos hm]
   simp only[Option.isSome_some,if_true]
   constructor
   ·omega
   ·rintro⟨_,_,h5⟩;exact absurd rfl (h5 x hm x (by simp))
  ·rw[h3,if_neg hm]
   simp only[Option.isSome_none,Bool.false_eq_true,if_false]
   constructor
   ·intro e
    refine⟨h2.1 (by omega),by simp,fun a ha b hb=>?_⟩
    simp at hb
    subst hb
    intro e2
    subst e2
    exact hm ha
   ·rintro⟨h5,_⟩
    have:=h2.2 h5
    omega
end Go.Proofs.YtiioegopckoldaaGreatDoor
namespace Go.Proofs.YtiioegopckoldaaGreatDoor
open Go.RowKit Go.Shelf
set_option maxHeartbeats 400000 in
theorem lev_from1 (x lo hi:Int) (p q:Nat) (w:World) (hp:w.cell? ⟨p,0,none⟩=some (.int .i64 lo)) (hq:w.cell? ⟨q,0,none⟩=some (.int .i64 hi)) :
 Calls Tryz.prog 259 #[.int .i64 x,.pointer (some ⟨p,0,none⟩),.pointer (some ⟨q,0,none⟩)] w fun e w'=>e= .returned (.bool (outB lo hi x))∧Below w.heap.size w w':=by
 by_cases h:x < lo
 all_goals
  go_enter Tryz.func259,Tryz.ntmps259
  go_wp2
  go_ret
  exact⟨by first | (simp[outB,h];done) | (simp[outB,h];omega),Below.refl _ _⟩
set_option maxHeartbeats 400000 in
theorem lev_from (lo hi:Int) (A:Option Addr) (xs:List Int) (n c:Nat) (w:World) (hn:n=xs.length) (hm:n≤9223372036854775807) (hx:Rd w w.heap.size icell A xs) :
 Calls Tryz.prog 235 #[.int .i64 lo,.int .i64 hi,.slice A n c] w fun e w'=>e= .returned (.bool (!(anyOut lo hi xs)))∧Below w.heap.size w w':=by
 have eg:∀args w,(callFunc 259 args).run Tryz.prog w= .ok (.enter 259 args) w:=enters_of Tryz.func259 (by kernel_rfl) rfl
 have hb1:Below w.heap.size w (w.alloc (.cells #[.int .i64 lo] 3)):=below_new _ _
 have hc1:(w.alloc (.cells #[.int .i64 lo] 3)).cell? ⟨w.heap.size,0,none⟩=some (.int .i64 lo):=cell_new _ _ _ _ _ rfl
 obtain⟨w1,Hw1⟩:∃w1,Hid (w.alloc (.cells #[.int .i64 lo] 3)=w1):=⟨_,hide rfl⟩
 rw[Hw1.out] at hb1 hc1
 have hs1:w1.heap.size=w.heap.size+1:=by rw[←Hw1.out];simp
 have hb2:Below w1.heap.size w1 (w1.alloc (.cells #[.int .i64 hi] 3)):=below_new _ _
 have hc2:(w1.alloc (.cells #[.int .i64 hi] 3)).cell? ⟨w1.heap.size,0,none⟩=some (.int .i64 hi):=cell_new _ _ _ _ _ rfl
 have hc1':=(hb2.cell (p:=⟨w.heap.size,0,none⟩) (by simp;omega)).trans hc1
 have hb3:=hb1.trans (hb2.mono hb1.size)
 have H:=hide (containsfunc_int 259 #[.pointer (some ⟨w.heap.size,0,none⟩),.pointer (some ⟨w1.heap.size,0,none⟩)] (outB lo hi) A xs n c (w1.alloc (.cells #[.int .i64 hi] 3)) hn hm eg
  ((hx.below hb3).more hb3.size)
  (fun x w' _ hb=>lev_from1 x lo hi w.heap.size w1.heap.size w' ((hb.cell (p:=⟨w.heap.size,0,none⟩) (by simp;omega)).trans hc1') ((hb.cell (p:=⟨w1.heap.size,0,none⟩) (by simp)).trans hc2)))
 rw[hs1] at H
 have Hb:=hide hb3
 clear hx hn hc1 hc2 hc1' hb1 hb2 hb3 eg
 go_enter Tryz.func235,Tryz.ntmps235
 go_wp2_with fail
 rw[Hw1.out]
 refine H.out.mono ?_
 rintro e w' ⟨rfl,hb⟩
 go_wp2
 go_ret
 exact⟨rfl,Hb.out.trans (hb.mono Hb.out.size)⟩
theorem lev_one (lo hi x:Int) (w1:World) (p:Nat) (hp:p=w1.heap.size):Calls Tryz.prog 235 #[.int .i64 lo,.int .i64 hi,.slice (some ⟨p,0,none⟩) 1 1] (w1.alloc (.cells #[.int .i64 x] 3)) fun e w'=>e= .returned (.bool (inB lo hi x))∧Below w1.heap.size w1 w':=by
 subst hp
 refine(lev_from lo hi _ [x] 1 1 _ rfl (by omega) (by simpa using Rd.new (cells:=icell) w1 #[.int .i64 x] 3 [x] rfl)).mono ?_
 rintro e w' ⟨rfl,hb⟩
 exact⟨ret_bool (channel_one_in lo hi x),(below_new w1 _).trans (hb.mono (by simp))⟩
theorem lev_two (lo hi x y:Int) (w1:World) (p:Nat) (hp:p=w1.heap.size):Calls Tryz.prog 235 #[.int .i64 lo,.int .i64 hi,.slice (some ⟨p,0,none⟩) 2 2] (w1.alloc (.cells #[.int .i64 x,.int .i64 y] 3)) fun e w'=>e= .returned (.bool (inB lo hi x && inB lo hi y))∧Below w1.heap.size w1 w':=by
 subst hp
 refine(lev_from lo hi _ [x,y] 2 2 _ rfl (by omega) (by simpa using Rd.new (cells:=icell) w1 #[.int .i64 x,.int .i64 y] 3 [x,y] rfl)).mono ?_
 rintro e w' ⟨rfl,hb⟩
 exact⟨ret_bool (channel_two_in lo hi x y),(below_new w1 _).trans (hb.mono (by simp))⟩
set_option maxHeartbeats 400000 in
theorem lev_proper (a b lo hi:Int) (w:World) :
 Calls Tryz.prog 275 #[.agg #[.int .i64 a,.int .i64 b],.int .i64 lo,.int .i64 hi] w fun e w'=>e= .returned (.bool (Sp.ok lo hi ⟨a,b⟩))∧Below w.heap.size w w':=by
 by_cases h:a≤b
 ·have hb0:Below w.heap.size w (w.alloc (.cells #[.int .i64 a,.int .i64 b] 24)):=below_new _ _
  go_enter Tryz.func275,Tryz.ntmps275
  go_wp2_with fail
  refine(lev_two lo hi a b _ _ (by simp)).mono ?_
  rintro e w' ⟨rfl,hb⟩
  go_wp2
  go_ret
  exact⟨ret_bool (by rw[Bool.eq_iff_iff];simp[inB,Sp.ok];omega),hb0.trans (hb.mono hb0.size)⟩
 ·go_enter Tryz.func275,Tryz.ntmps275
  go_wp2
  go_ret
  exact⟨ret_bool (by simp[Sp.ok];omega),below_new _ _⟩
structure Q4 where
 a:Int
 b:Int
 lo:Int
 hi:Int
 deriving DecidableEq
def Q4.cells (u:Q4):List Value:=[.int .i64 u.a,.int .i64 u.b,.int .i64 u.lo,.int .i64 u.hi]
theorem Q4.len (u:Q4):u.cells.length=4:=rfl
theorem Q4.one (s:Q4):∀u∈s.cells,u.oneCell'=true:=by simp[Q4.cells,Value.oneCell']
theorem Rd.q4 {w:World} {B:Nat} {A:Option Addr} {xs:List Q4} (h:Rd w B Q4.cells A xs) {i:Nat} (hi:i < xs.length) :
 ∃b off f s t u,A=some ⟨b,off,none⟩∧b < B∧xs[i]?=some ⟨f,s,t,u⟩∧w.cell? ⟨b,off+i*4,none⟩=some (.int .i64 f)∧w.cell? ⟨b,off+i*4+1,none⟩=some (.int .i64 s)∧w.cell? ⟨b,off+i*4+2,none⟩=some (.int .i64 t)∧w.cell? ⟨b,off+i*4+3,none⟩=some (.int .i64 u):=by
 obtain⟨b,off,e,hB,hc⟩:=h (by omega)
 have hx:xs[i]?=some xs[i]:=List.getElem?_eq_getElem hi
 exact⟨b,off,_,_,_,_,e,hB,hx,hc _ _ (flat_get Q4.len hx (j:=0) (by omega)),hc _ _ (flat_get Q4.len hx (j:=1) (by omega)),hc _ _ (flat_get Q4.len hx (j:=2) (by omega)),hc _ _ (flat_get Q4.len hx (j:=3) (by omega))⟩
def twoB (p a b:Int):Bool:=decide (a≠b) && (inB 0 (p-1) a && inB 0 (p-1) b)
def q4Ok (p lo hi:Int) (q:Q4):Bool:=twoB p q.a q.b && Sp.ok lo hi ⟨q.lo,q.hi⟩
def mkOk (p:Int) (x:Us):Bool:=inB 0 (p-1) x.field && Sp.ok (-10000000) 10000000 ⟨x.frm,x.to⟩
def svOk (p:Int) (sh:List Q4) (mk:List Us) (th:List Q4):Bool:=
 inB 1 20 p && decide (sh.length≤60) && decide (mk.length≤20) && decide (th.length≤30) && sh.all (q4Ok p (-20000000) 20000000) && mk.all (mkOk p) && th.all (q4Ok p 1 100000000)
def svErr (p:Int) (sh:List Q4) (mk:List Us) (th:List Q4):Int:=if svOk p sh mk th then 0 else 10
structure SvAt (w:World) (As Am At:Option Addr) (ns nm nt:Nat) (sh:List Q4) (mk:List Us) (th:List Q4):Prop where
 rs:Rd w w.heap.size Q4.cells As sh
 rm:Rd w w.heap.size Us.cells Am mk
 rt:Rd w w.heap.size Q4.cells At th
 es:ns=sh.length
 em:nm=mk.length
 et:nt=th.length
 ns2:ns≤9223372036854775807
 nm2:nm≤9223372036854775807
 nt2:nt≤9223372036854775807
theorem SvAt.bel {w w':World} {As Am At:Option Addr} {ns nm nt:Nat} {sh:List Q4} {mk:List Us} {th:List Q4} (h:SvAt w As Am At ns nm nt sh mk th) (hb:Below w.heap.size w w'):SvAt w' As Am At ns nm nt sh mk th:=
 ⟨(h.rs.below hb).more hb.size,(h.rm.below hb).more hb.size,(h.rt.below hb).more hb.size,h.es,h.em,h.et,h.ns2,h.nm2,h.nt2⟩
theorem apart_any (p a b:Int) (A1 A2 A3:Option Addr) (n1 c1 n2 c2 n3 c3 q:Nat) (w:World) (hp:1≤p) (hp2:p≤20) (h:At w q [.int .i64 p,.slice A1 n1 c1,.slice A2 n2 c2,.slice A3 n3 c3]) :
 Calls Tryz.prog 274 #[.int .i64 a,.int .i64 b,.pointer (some ⟨q,0,none⟩)] w fun e w'=>e= .returned (.bool (twoB p a b))∧Below w.heap.size w w':=by
 obtain⟨q0,q1,q2,q3⟩:=h.c4
 clear h
 by_cases hab:a=b
 ·subst hab
  go_enter Tryz.func274,Tryz.ntmps274
  go_wp2
  go_ret
  exact⟨ret_bool (by simp[twoB]),Below.refl _ _⟩
 ·have fp:IntKind.i64.wrap (p-1)=p-1:=wrapI (by omega)
  go_enter Tryz.func274,Tryz.ntmps274
  go_wp2_with fail
  refine(lev_two 0 (p-1) a b _ _ (by simp)).mono ?_
  rintro e w' ⟨rfl,hb⟩
  go_wp2
  go_ret
  exact⟨ret_bool (by simp[twoB,hab]),hb⟩
end Go.Proofs.YtiioegopckoldaaGreatDoor
namespace Go.Proofs.YtiioegopckoldaaGreatDoor
open Go.RowKit Go.Shelf
theorem all_hit {α:Type} {p:α→Bool} {xs:List α} {k:Nat} {x:α} (hx:xs[k]?=some x) (hp:p x=false):xs.all p=false:=by
 rw[List.all_eq_false]
 exact⟨x,List.mem_of_getElem? hx,by rw[hp];decide⟩
theorem all_snoc {α:Type} {p:α→Bool} {xs:List α} {k:Nat} {x:α} (hx:xs[k]?=some x) (hp:p x=true) (h:(xs.take k).all p=true):(xs.take (k+1)).all p=true:=by
 rw[take_snoc hx,List.all_append,h]
 simp[hp]
theorem all_whole {α:Type} {p:α→Bool} {xs:List α} {k:Nat} (hk:xs.length=k) (h:(xs.take k).all p=true):xs.all p=true:=by
 rwa [List.take_of_length_le (by omega)] at h
theorem all_none {α:Type} {p:α→Bool} (xs:List α):(xs.take 0).all p=true:=rfl
set_option maxHeartbeats 4000000 in
set_option maxRecDepth 100000 in
theorem levCheck_any (p:Int) (A1 A2 A3:Option Addr) (n1 c1 n2 c2 n3 c3:Nat) (sh:List Q4) (mk:List Us) (th:List Q4) (w:World) (hsv:SvAt w A1 A2 A3 n1 n2 n3 sh mk th) :
 Calls Tryz.prog 257 #[.agg #[.int .i64 p,.slice A1 n1 c1,.slice A2 n2 c2,.slice A3 n3 c3]] w fun e w'=>e= .returned (.int .i64 (svErr p sh mk th))∧Below w.heap.size w w':=by
 have hn1:=hsv.ns2;have hn2:=hsv.nm2;have hn3:=hsv.nt2
 have hat0:=At.new w #[.int .i64 p,.slice A1 n1 c1,.slice A2 n2 c2,.slice A3 n3 c3] 311 w.heap.size rfl _ rfl
 have hB0:=below_new w (.cells #[.int .i64 p,.slice A1 n1 c1,.slice A2 n2 c2,.slice A3 n3 c3] 311)
 cases c:inB 1 20 p
 ·have h10:=hide (show svErr p sh mk th=10 by simp[svErr,svOk,c])
  have C:=hide c
  go_enter Tryz.func257,Tryz.ntmps257
  go_wp2_with fail
  refine(lev_one _ _ _ _ _ (by simp)).mono ?_
  rintro e w2 ⟨rfl,hb2⟩
  rw[C.out]
  go_wp2
  go_ret
  exact⟨ret_int h10.out.symm,hB0.trans (hb2.mono hB0.size)⟩
 have C:=hide c
 have hp:1≤p∧p≤20:=by simpa[inB] using c
 obtain⟨hp1,hp2⟩:=hp
 clear c
 by_cases h2:60 < n1
 ·have h10:=hide (show svErr p sh mk th=10 by
   have:=hsv.es
   simp[svErr,svOk,show ¬sh.length≤60 by omega])
  go_enter Tryz.func257,Tryz.ntmps257
  go_wp2_with fail
  refine(lev_one _ _ _ _ _ (by simp)).mono ?_
  rintro e w2 ⟨rfl,hb2⟩
  rw[C.out]
  have hat2:=hat0.below hb2
  have hB2:=hB0.trans (hb2.mono hB0.size)
  obtain⟨q0,q1,q2,q3⟩:=hat2.c4
  clear hat0 hb2 hB0
  go_wp2
  go_ret
  exact⟨ret_int h10.out.symm,hB2⟩
 by_cases h3:20 < n2
 ·have h10:=hide (show svErr p sh mk th=10 by
   have:=hsv.em
   simp[svErr,svOk,show ¬mk.length≤20 by omega])
  go_enter Tryz.func257,Tryz.ntmps257
  go_wp2_with fail
  refine(lev_one _ _ _ _ _ (by simp)).mono ?_
  rintro e w2 ⟨rfl,hb2⟩
  rw[C.out]
  have hat2:=hat0.below hb2
  have hB2:=hB0.trans (hb2.mono hB0.size)
  obtain⟨q0,q1,q2,q3⟩:=hat2.c4
  clear hat0 hb2 hB0
  go_wp2
  go_ret
  exact⟨ret_int h10.out.symm,hB2⟩
 by_cases h4:30 < n3
 ·have h10:=hide (show svErr p sh mk th=10 by
   have:=hsv.et
   simp[svErr,svOk,show ¬th.length≤30 by omega])
  go_enter Tryz.func257,Tryz.ntmps257
  go_wp2_with fail
  refine(lev_one _ _ _ _ _ (by simp)).mono ?_
  rintro e w2 ⟨rfl,hb2⟩
  rw[C.out]
  have hat2:=hat0.below hb2
  have hB2:=hB0.trans (hb2.mono hB0.size)
  obtain⟨q0,q1,q2,q3⟩:=hat2.c4
  clear hat0 hb2 hB0
  go_wp2
  go_ret
  exact⟨ret_int h10.out.symm,hB2⟩
 have Hpre:=hide (show(inB 1 20 p && decide (sh.length≤60) && decide (mk.length≤20) && decide (th.length≤30))=true by
  have:=hsv.es;have:=hsv.em;have:=hsv.et
  rw[C.out]
  simp
  omega)
 have Hsv:=hide hsv
 clear hsv
 go_enter Tryz.func257,Tryz.ntmps257
 go_wp2_with fail
 refine(lev_one _ _ _ _ _ (by simp)).mono ?_
 rintro e w2 ⟨rfl,hb2⟩
 rw[C.out]
 have hat2:=hat0.below hb2
 have hB2:=hB0.trans (hb2.mono hB0.size)
 obtain⟨q0,q1,q2,q3⟩:=hat2.c4
 have Hat:=hide hat2
 clear hat0 hb2 hB0 hat2
 go_wp2_with fail
 clear q0 q1 q2 q3
 go_loopw [37] (fun i wr=>∃k:Nat,k≤n1∧i= .int .i64 k∧Below w2.heap.size w2 wr∧Hid ((sh.take k).all (q4Ok p (-20000000) 20000000)=true)) (fun i _=>n1-(intOf i).toNat)
 case atStart=>exact⟨0,by omega,rfl,Below.refl _ _,hide (all_none _)⟩
 case round=>
  obtain⟨k,hk,rfl,hb,hpre⟩:=hrel
  obtain⟨wo,rfl⟩:∃wo,wo=wr:=⟨wr,rfl⟩
  by_cases hlt:k < n1
  ·obtain⟨b,off,s0,s1,s2,s3,rfl,hB,hxk,d0,d1,d2,d3⟩:=((Hsv.out.bel hB2).bel hb).rs.q4 (i:=k) (by have:=Hsv.out.es;omega)
   have Hxk:=hide hxk;clear hxk
   have hat:=Hat.out.below hb
   obtain⟨bx,w3,ebx,ew3,hx3,hb3,hz3⟩:=mk_bx wo #[.int .i64 s0,.int .i64 s1,.int .i64 s2,.int .i64 s3] 306
   have hat3:=hat.below hb3
   have HB3:=hide (hb.trans (hb3.mono hb.size))
   have hx3:At w3 bx [.int .i64 s0,.int .i64 s1,.int .i64 s2,.int .i64 s3]:=hx3.at_
   obtain⟨x0,x1,x2,x3⟩:=hx3.c4
   clear hat
   go_wp2_with fail
   rw[ew3.out,ebx.out]
   clear d0 d1 d2 d3 ew3 ebx
   go_wp2_with fail
   refine(apart_any p s0 s1 _ _ _ _ _ _ _ _ _ _ w3 hp1 hp2 hat3).mono ?_
   rintro e w4 ⟨rfl,hb4⟩
   have hx4:=hx3.below hb4
   have HB4:=hide (HB3.out.trans (hb4.mono HB3.out.size))
   clear x0 x1 x2 x3
   obtain⟨x0,x1,x2,x3⟩:=hx4.c4
   clear hat3 hb3 hx3
   cases ht:twoB p s0 s1
   ·have h10:=hide (show svErr p sh mk th=10 by
     have:=all_hit (p:=q4Ok p (-20000000) 20000000) Hxk.out (by simp[q4Ok,ht])
     simp[svErr,svOk,this])
    clear ht
    go_wp2
    go_ret
    exact⟨ret_int h10.out.symm,hB2.trans (HB4.out.mono hB2.size)⟩
   ·have Ht:=hide ht
    clear ht
    go_wp2_with fail
    refine(lev_proper s2 s3 _ _ w4).mono ?_
    rintro e w5 ⟨rfl,hb5⟩
    have HB5:=hide (HB4.out.trans (hb5.mono HB4.out.size))
    cases ho:Sp.ok (-20000000) 20000000 ⟨s2,s3⟩
    ·have h10:=hide (show svErr p sh mk th=10 by
      have:=all_hit (p:=q4Ok p (-20000000) 20000000) Hxk.out (by simp[q4Ok,ho])
      simp[svErr,svOk,this])
     clear ho
     go_wp2
     go_ret
     exact⟨ret_int h10.out.symm,hB2.trans (HB5.out.mono hB2.size)⟩
    ·have Hp:=hide (all_snoc (p:=q4Ok p (-20000000) 20000000) Hxk.out (by simp[q4Ok,Ht.out,ho]) hpre.out)
     clear ho
     go_wp2
     exact⟨⟨k+1,by omega,by go_num,HB5.out,Hp⟩,by simp[intOf];omega⟩
  ·obtain rfl:n1=k:=by omega
   have Hs:=hide (all_whole Hsv.out.es.symm hpre.out)
   have hat:=Hat.out.below hb
   obtain⟨q0,q1,q2,q3⟩:=hat.c4
   have HatB:=hide hat
   have HBo:=hide (hB2.trans (hb.mono hB2.size))
   have hsv:=Hsv.out.bel HBo.out
   have HsvB:=hide hsv
   clear hat hsv hb hpre Hat Hsv
   go_wp2_with fail
   clear q0 q1 q2 q3
   have fp:IntKind.i64.wrap (p-1)=p-1:=wrapI (by omega)
   go_loopw [58] (fun i wr=>∃k:Nat,k≤n2∧i= .int .i64 k∧Below wo.heap.size wo wr∧Hid ((mk.take k).all (mkOk p)=true)) (fun i _=>n2-(intOf i).toNat)
   case atStart=>exact⟨0,by omega,rfl,Below.refl _ _,hide (all_none _)⟩
   case round=>
    obtain⟨k,hk,rfl,hb,hpre⟩:=hrel
    obtain⟨wq,rfl⟩:∃wq,wq=wr:=⟨wr,rfl⟩
    by_cases hlt:k < n2
    ·obtain⟨b,off,s0,s1,s2,rfl,hB,hxk,d0,d1,d2⟩:=(HsvB.out.bel hb).rm.us (i:=k) (by have:=HsvB.out.em;omega)
     have Hxk:=hide hxk;clear hxk
     have hat:=HatB.out.below hb
     obtain⟨bx,w3,ebx,ew3,hx3,hb3,hz3⟩:=mk_bx wq #[.int .i64 s0,.int .i64 s1,.int .i64 s2] 382
     have hat3:=hat.below hb3
     have HB3:=hide (hb.trans (hb3.mono hb.size))
     have hx3:At w3 bx [.int .i64 s0,.int .i64 s1,.int .i64 s2]:=hx3.at_
     obtain⟨q0,q1,q2,q3⟩:=(hat.below (below_new wq (.cells #[.int .i64 s0,.int .i64 s1,.int .i64 s2] 382))).c4
     clear hat
     go_wp2_with fail
     rw[ew3.out,ebx.out]
     clear d0 d1 d2 ew3 ebx
     refine(lev_one _ _ _ _ _ hz3.symm).mono ?_
     rintro e w4 ⟨rfl,hb4⟩
     have hx4:=hx3.below hb4
     have HB4:=hide (HB3.out.trans (hb4.mono HB3.out.size))
     clear q0 q1 q2 q3
     obtain⟨x0,x1,x2⟩:=hx4.c3
     clear hat3 hb3 hx3
     cases ht:inB 0 (p-1) s0
     ·have h10:=hide (show svErr p sh mk th=10 by
       have:=all_hit (p:=mkOk p) Hxk.out (by simp[mkOk,ht])
       simp[svErr,svOk,this])
      clear ht
      go_wp2
      go_ret
      exact⟨ret_int h10.out.symm,HBo.out.trans (HB4.out.mono HBo.out.size)⟩
     ·have Ht:=hide ht
      clear ht
      go_wp2_with fail
      refine(lev_proper s1 s2 _ _ w4).mono ?_
      rintro e w5 ⟨rfl,hb5⟩
      have HB5:=hide (HB4.out.trans (hb5.mono HB4.out.size))
      cases ho:Sp.ok (-10000000) 10000000 ⟨s1,s2⟩
      ·have h10:=hide (show svErr p sh mk th=10 by
        have:=all_hit (p:=mkOk p) Hxk.out (by simp[mkOk,ho])
        simp[svErr,svOk,this])
       clear ho
       go_wp2
       go_ret
       exact⟨ret_int h10.out.symm,HBo.out.trans (HB5.out.mono HBo.out.size)⟩
      ·have Hp:=hide (all_snoc (p:=mkOk p) Hxk.out (by simp[mkOk,Ht.out,ho]) hpre.out)
       clear ho
       go_wp2
       exact⟨⟨k+1,by omega,by go_num,HB5.out,Hp⟩,by simp[intOf];omega⟩
    ·obtain rfl:n2=k:=by omega
     have Hm:=hide (all_whole HsvB.out.em.symm hpre.out)
     have hat:=HatB.out.below hb
     obtain⟨q0,q1,q2,q3⟩:=hat.c4
     have HatC:=hide hat
     have HBp:=hide (HBo.out.trans (hb.mono HBo.out.size))
     have HsvC:=hide (HsvB.out.bel hb)
     clear hat hb hpre HatB HsvB fp
     go_wp2_with fail
     clear q0 q1 q2 q3
     go_loopw [80] (fun i wr=>∃k:Nat,k≤n3∧i= .int .i64 k∧Below wq.heap.size wq wr∧Hid ((th.take k).all (q4Ok p 1 100000000)=true)) (fun i _=>n3-(intOf i).toNat)
     case atStart=>exact⟨0,by omega,rfl,Below.refl _ _,hide (all_none _)⟩
     case round=>
      obtain⟨k,hk,rfl,hb,hpre⟩:=hrel
      obtain⟨wt,rfl⟩:∃wt,wt=wr:=⟨wr,rfl⟩
      by_cases hlt:k < n3
      ·obtain⟨b,off,s0,s1,s2,s3,rfl,hB,hxk,d0,d1,d2,d3⟩:=(HsvC.out.bel hb).rt.q4 (i:=k) (by have:=HsvC.out.et;omega)
       have Hxk:=hide hxk;clear hxk
       have hat:=HatC.out.below hb
       obtain⟨bx,w3,ebx,ew3,hx3,hb3,hz3⟩:=mk_bx wt #[.int .i64 s0,.int .i64 s1,.int .i64 s2,.int .i64 s3] 384
       have hat3:=hat.below hb3
       have HB3:=hide (hb.trans (hb3.mono hb.size))
       have hx3:At w3 bx [.int .i64 s0,.int .i64 s1,.int .i64 s2,.int .i64 s3]:=hx3.at_
       obtain⟨x0,x1,x2,x3⟩:=hx3.c4
       clear hat
       go_wp2_with fail
       rw[ew3.out,ebx.out]
       clear d0 d1 d2 d3 ew3 ebx
       go_wp2_with fail
       refine(apart_any p s0 s1 _ _ _ _ _ _ _ _ _ _ w3 hp1 hp2 hat3).mono ?_
       rintro e w4 ⟨rfl,hb4⟩
       have hx4:=hx3.below hb4
       have HB4:=hide (HB3.out.trans (hb4.mono HB3.out.size))
       clear x0 x1 x2 x3
       obtain⟨x0,x1,x2,x3⟩:=hx4.c4
       clear hat3 hb3 hx3
       cases ht:twoB p s0 s1
       ·have h10:=hide (show svErr p sh mk th=10 by
         have:=all_hit (p:=q4Ok p 1 100000000) Hxk.out (by simp[q4Ok,ht])
         simp[svErr,svOk,this])
        clear ht
        go_wp2
        go_ret
        exact⟨ret_int h10.out.symm,HBp.out.trans (HB4.out.mono HBp.out.size)⟩
       ·have Ht:=hide ht
        clear ht
        go_wp2_with fail
        refine(lev_proper s2 s3 _ _ w4).mono ?_
        rintro e w5 ⟨rfl,hb5⟩
        have HB5:=hide (HB4.out.trans (hb5.mono HB4.out.size))
        cases ho:Sp.ok 1 100000000 ⟨s2,s3⟩
        ·have h10:=hide (show svErr p sh mk th=10 by
          have:=all_hit (p:=q4Ok p 1 100000000) Hxk.out (by simp[q4Ok,ho])
          simp[svErr,svOk,this])
         clear ho
         go_wp2
         go_ret
         exact⟨ret_int h10.out.symm,HBp.out.trans (HB5.out.mono HBp.out.size)⟩
        ·have Hp:=hide (all_snoc (p:=q4Ok p 1 100000000) Hxk.out (by simp[q4Ok,Ht.out,ho]) hpre.out)
         clear ho
         go_wp2
         exact⟨⟨k+1,by omega,by go_num,HB5.out,Hp⟩,by simp[intOf];omega⟩
      ·obtain rfl:n3=k:=by omega
       have Hth:=hide (all_whole HsvC.out.et.symm hpre.out)
       have h0:=hide (show svErr p sh mk th=0 by
        have h1:=Hpre.out;have h2:=Hs.out;have h3:=Hm.out;have h4:=Hth.out
        unfold svErr svOk
        rw[h1,h2,h3,h4]
        rfl)
       go_wp2
       go_ret
       exact⟨ret_int h0.out.symm,HBp.out.trans (hb.mono HBp.out.size)⟩
end Go.Proofs.YtiioegopckoldaaGreatDoor
