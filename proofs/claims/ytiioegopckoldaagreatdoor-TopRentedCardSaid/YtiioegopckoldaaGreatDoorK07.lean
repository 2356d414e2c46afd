/- lemmas for topRented_holds: DE4 GA F2 G5 G7 FB G8 FP FC RangeG. No conditions. -/
import Derived.Test.YtiioegopckoldaaGreatDoorK06
import Derived.Test.YtiioegopckoldaaGreatDoorProg
import Derived.Test.YtiioegopckoldaaGreatDoorK01
import Derived.Deep.QuietTactic
import Derived.BigQuiet
import Derived.Test.YtiioegopckoldaaGreatDoorK03
import Derived.Handy
import Derived.Deep.RegionHeld3
import Derived.Deep.DrawnRows
import Derived.Lib.Mul64
import Derived.Laws.Bits64b
import Derived.Laws.MakeOwn
import Derived.Deep.Slices
import Derived.Test.YtiioegopckoldaaGreatDoorK05
set_option linter.unusedVariables false
set_option linter.unusedSimpArgs false
namespace Go.Proofs.YtiioegopckoldaaGreatDoor
open Go.RowKit Go.Shelf
structure Pc where
 fr:Int
 to:Int
 ow:Int
 le:Int
 un:Int
 deriving DecidableEq
def Pc.cells (p:Pc):List Value:=[.int .i64 p.fr,.int .i64 p.to,.int .i64 p.ow,.int .i64 p.le,.int .i64 p.un]
theorem Pc.len (p:Pc):p.cells.length=5:=rfl
theorem Pc.one (p:Pc):∀u∈p.cells,u.oneCell'=true:=by simp[Pc.cells,Value.oneCell']
theorem Rd.pc {w:World} {B:Nat} {A:Option Addr} {xs:List Pc} (h:Rd w B Pc.cells A xs) {i:Nat} (hi:i < xs.length) :
 ∃b off p,A=some ⟨b,off,none⟩∧b < B∧xs[i]?=some p∧w.cell? ⟨b,off+i*5,none⟩=some (.int .i64 p.fr)∧w.cell? ⟨b,off+i*5+1,none⟩=some (.int .i64 p.to)∧w.cell? ⟨b,off+i*5+2,none⟩=some (.int .i64 p.ow)∧w.cell? ⟨b,off+i*5+3,none⟩=some (.int .i64 p.le)∧w.cell? ⟨b,off+i*5+4,none⟩=some (.int .i64 p.un):=by
 obtain⟨b,off,e,hB,hc⟩:=h (by omega)
 have hx:xs[i]?=some xs[i]:=List.getElem?_eq_getElem hi
 exact⟨b,off,_,e,hB,hx,hc _ _ (flat_get Pc.len hx (j:=0) (by omega)),hc _ _ (flat_get Pc.len hx (j:=1) (by omega)),hc _ _ (flat_get Pc.len hx (j:=2) (by omega)),hc _ _ (flat_get Pc.len hx (j:=3) (by omega)),hc _ _ (flat_get Pc.len hx (j:=4) (by omega))⟩
theorem el_pc:ElLaw Tryz.prog 158 156 5 40 Pc.cells:=elLaw_of Tryz.underlying158 (z:= .agg #[.int .i64 0,.int .i64 0,.int .i64 0,.int .i64 0,.int .i64 0]) (by kernel_rfl) rfl (by omega) (fun _=>rfl) Pc.one (by omega)
def fidx {α:Type} (p:α→Bool):List α→Int
 | []=> -1
 | x :: xs=>if p x then 0 else if fidx p xs < 0 then -1 else fidx p xs+1
theorem fidx_hit {α:Type} {p:α→Bool}:∀{xs:List α} {k:Nat} {x:α},xs[k]?=some x→p x=true→(∀y∈xs.take k,p y=false)→fidx p xs=k
 | [],k,x,h,_,_=>by simp at h
 | y :: xs, 0, x, h, hp, _ => by
   have:y=x:=by simpa using h
   subst this
   simp[fidx,hp]
 | y :: xs, k + 1, x, h, hp, ha => by
   have h1:=fidx_hit (xs:=xs) (k:=k) (by simpa using h) hp (fun z hz=>ha z (by simp[hz]))
   have h2:p y=false:=ha y (by simp)
   unfold fidx
   rw[h2,h1]
   simp only[Bool.false_eq_true,if_false]
   rw[if_neg (by omega)]
   omega
theorem fidx_miss {α:Type} {p:α→Bool}:∀{xs:List α},(∀y∈xs,p y=false)→fidx p xs= -1
 | [],_=>rfl
 | y :: xs, ha => by
   have h1:=fidx_miss (p:=p) (xs:=xs) (fun z hz=>ha z (by simp[hz]))
   unfold fidx
   rw[ha y (by simp),h1]
   simp
theorem fidx_of {α:Type} (p:α→Bool):∀(xs:List α),(fidx p xs= -1∧∀y∈xs,p y=false)∨∃(k:Nat) (x:α),fidx p xs=k∧xs[k]?=some x∧p x=true∧∀y∈xs.take k,p y=false
 | []=> .inl ⟨rfl,by simp⟩
 | y :: xs => by
   cases h:p y
   ·rcases fidx_of p xs with⟨h1,h2⟩ | ⟨k,x,h1,h2,h3,h4⟩
    ·refine .inl ⟨by unfold fidx;rw[h,h1];rfl,fun z hz=>?_⟩
     rcases List.mem_cons.1 hz with rfl | hz
     ·exact h
     ·exact h2 z hz
    ·refine .inr ⟨k+1,x,?_,by simpa using h2,h3,fun z hz=>?_⟩
     ·unfold fidx
      rw[h,h1]
      simp only[Bool.false_eq_true,if_false]
      rw[if_neg (by omega)]
      omega
     ·rw[List.take_succ_cons] at hz
      rcases List.mem_cons.1 hz with rfl | hz
      ·exact h
      ·exact h4 z hz
   ·exact .inr ⟨0,y,by simp[fidx,h],rfl,h,by simp⟩
theorem deindex_pc (f:FuncId) (cp:Array Value) (p:Pc→Bool) (A:Option Addr) (xs:List Pc) (n c:Nat) (w:World) (hn:n=xs.length) (hm:n≤9223372036854775807)
 (eg:∀args w,(callFunc f args).run Tryz.prog w= .ok (.enter f args) w) (hx:Rd w w.heap.size Pc.cells A xs)
 (hf:∀x w',x∈xs→Below w.heap.size w w'→Calls Tryz.prog f (#[.agg #[.int .i64 x.fr,.int .i64 x.to,.int .i64 x.ow,.int .i64 x.le,.int .i64 x.un]] ++ cp) w' fun e w''=>e= .returned (.bool (p x))∧Below w'.heap.size w' w'') :
 Calls Tryz.prog 195 #[.slice A n c,.func (.func f) #[] cp] w fun e w'=>e= .returned (.int .i64 (fidx p xs))∧Below w.heap.size w w':=by
 have Hn:=hide hn;clear hn
 have Hx:=hide hx;clear hx
 have Hf:=hide hf;clear hf
 go_enter Tryz.func195,Tryz.ntmps195
 go_wp2_with fail
 go_loopw [5,8] (fun v i wr=>∃k:Nat,k≤n∧i= .int .i64 k∧Below w.heap.size w wr∧Hid (∀y∈xs.take k,p y=false)) (fun _ i _=>n-(intOf i).toNat)
 case atStart=>exact⟨0,by omega,rfl,Below.refl _ _,hide (by simp)⟩
 case round=>
  obtain⟨k,hk,rfl,hb,hpre⟩:=hrel
  by_cases hlt:k < n
  ·obtain⟨b,off,x,rfl,hB,hxk,c0,c1,c2,c3,c4⟩:=(Hx.out.bel hb).pc (i:=k) (by have:=Hn.out;omega)
   have H:=hide (Hf.out x wr (List.mem_of_getElem? hxk) hb)
   have Hxk:=hide hxk
   have Hb:=hide hb
   clear hxk hb
   go_wp2_with (go_at_fn f;refine H.out.mono ?_;rintro e w' ⟨rfl,hb2⟩;have HB2:=hide (Hb.out.trans (hb2.mono Hb.out.size));clear hb2)
   ·have h1:p x=true:=by assumption
    have he:=hide (fidx_hit Hxk.out h1 hpre.out)
    clear h1
    go_ret
    exact⟨ret_int he.out.symm,HB2.out⟩
   ·have h1:p x=false:=by first | assumption | (have h2:¬(p x=true):=by assumption;simpa using h2)
    have hp:=hide (pre_snoc Hxk.out h1 hpre.out)
    clear h1
    exact⟨⟨k+1,by omega,by go_num,HB2.out,hp⟩,by simp[intOf];omega⟩
  ·obtain rfl:n=k:=by omega
   have hpr:=hpre.out
   rw[List.take_of_length_le (by have:=Hn.out;omega)] at hpr
   have he:=hide (fidx_miss hpr)
   have Hb:=hide hb
   clear hpr hb
   go_wp2
   go_ret
   exact⟨ret_int he.out.symm,Hb.out⟩
theorem fidx_any {α:Type} (p:α→Bool) (xs:List α):decide (0≤fidx p xs)=xs.any p:=by
 rcases fidx_of p xs with⟨h1,h2⟩ | ⟨k,x,h1,h2,h3,_⟩
 ·rw[h1]
  symm
  rw[show decide ((0:Int)≤ -1)=false by decide,List.any_eq_false]
  exact fun y hy=>by rw[h2 y hy];decide
 ·rw[h1,any_hit h2 h3]
  simp
theorem decontains_pc (f:FuncId) (cp:Array Value) (p:Pc→Bool) (A:Option Addr) (xs:List Pc) (n c:Nat) (w:World) (hn:n=xs.length) (hm:n≤9223372036854775807)
 (eg:∀args w,(callFunc f args).run Tryz.prog w= .ok (.enter f args) w) (hx:Rd w w.heap.size Pc.cells A xs)
 (hf:∀x w',x∈xs→Below w.heap.size w w'→Calls Tryz.prog f (#[.agg #[.int .i64 x.fr,.int .i64 x.to,.int .i64 x.ow,.int .i64 x.le,.int .i64 x.un]] ++ cp) w' fun e w''=>e= .returned (.bool (p x))∧Below w'.heap.size w' w'') :
 Calls Tryz.prog 215 #[.slice A n c,.func (.func f) #[] cp] w fun e w'=>e= .returned (.bool (xs.any p))∧Below w.heap.size w w':=by
 have H:=hide (deindex_pc f cp p A xs n c w hn hm eg hx hf);clear hx hf hn eg
 go_enter Tryz.func215,Tryz.ntmps215
 go_wp2_with (go_at_call 195;refine H.out.mono ?_;rintro e w' ⟨rfl,hb⟩)
 go_ret
 exact⟨ret_bool (by rw[←fidx_any]),hb⟩
theorem decut1_any (x:Pc) (m:Int) (q:Nat) (w:World) (hq:At w q [.int .i64 m]) :
 Calls Tryz.prog 243 #[.agg #[.int .i64 x.fr,.int .i64 x.to,.int .i64 x.ow,.int .i64 x.le,.int .i64 x.un],.pointer (some ⟨q,0,none⟩)] w fun e w'=>e= .returned (.bool (decide (x.fr < m) && decide (m < x.to)))∧Below w.heap.size w w':=by
 have q0:=(hq.below (below_new w (.cells #[.int .i64 x.fr,.int .i64 x.to,.int .i64 x.ow,.int .i64 x.le,.int .i64 x.un] 156))).c1
 clear hq
 by_cases h:x.fr < m
 all_goals
  go_enter Tryz.func243,Tryz.ntmps243
  go_wp2
  go_ret
  exact⟨ret_bool (by first | (simp[h];done) | (simp;omega) | (simp;intro _;omega)),below_new w _⟩
theorem deof1_any (x:Pc) (t0 t1:Int) (q:Nat) (w:World) (hq:At w q [.int .i64 t0,.int .i64 t1]) :
 Calls Tryz.prog 264 #[.agg #[.int .i64 x.fr,.int .i64 x.to,.int .i64 x.ow,.int .i64 x.le,.int .i64 x.un],.pointer (some ⟨q,0,none⟩)] w fun e w'=>e= .returned (.bool (x.fr == t0))∧Below w.heap.size w w':=by
 have q0:=(hq.below (below_new w (.cells #[.int .i64 x.fr,.int .i64 x.to,.int .i64 x.ow,.int .i64 x.le,.int .i64 x.un] 156))).c2
 obtain⟨q0,q1⟩:=q0
 clear hq
 go_enter Tryz.func264,Tryz.ntmps264
 go_wp2
 go_ret
 exact⟨rfl,below_new w _⟩
theorem deof2_any (x:Pc) (t0 t1:Int) (q:Nat) (w:World) (hq:At w q [.int .i64 t0,.int .i64 t1]) :
 Calls Tryz.prog 265 #[.agg #[.int .i64 x.fr,.int .i64 x.to,.int .i64 x.ow,.int .i64 x.le,.int .i64 x.un],.pointer (some ⟨q,0,none⟩)] w fun e w'=>e= .returned (.bool (x.to == t1))∧Below w.heap.size w w':=by
 have q0:=(hq.below (below_new w (.cells #[.int .i64 x.fr,.int .i64 x.to,.int .i64 x.ow,.int .i64 x.le,.int .i64 x.un] 156))).c2
 obtain⟨q0,q1⟩:=q0
 clear hq
 go_enter Tryz.func265,Tryz.ntmps265
 go_wp2
 go_ret
 exact⟨rfl,below_new w _⟩
theorem dehis1_any (x:Pc) (d:Dv) (q:Nat) (w:World) (hq:At w q d.cells) :
 Calls Tryz.prog 246 #[.agg #[.int .i64 x.fr,.int .i64 x.to,.int .i64 x.ow,.int .i64 x.le,.int .i64 x.un],.pointer (some ⟨q,0,none⟩)] w fun e w'=>e= .returned (.bool (x.ow != d.fr))∧Below w.heap.size w w':=by
 have q0:=(hq.below (below_new w (.cells #[.int .i64 x.fr,.int .i64 x.to,.int .i64 x.ow,.int .i64 x.le,.int .i64 x.un] 156))).2 3 _ rfl
 clear hq
 go_enter Tryz.func246,Tryz.ntmps246
 go_wp2
 go_ret
 exact⟨rfl,below_new w _⟩
def Pc.busy (x:Pc) (day:Int):Bool:=(x.le != 0) && decide (day < x.un)
def Pc.user (x:Pc) (day:Int):Int:=if x.busy day then x.le else x.ow
theorem debusy_any (x:Pc) (day:Int) (w:World) :
 Calls Tryz.prog 131 #[.agg #[.int .i64 x.fr,.int .i64 x.to,.int .i64 x.ow,.int .i64 x.le,.int .i64 x.un],.int .i64 day] w fun e w'=>e= .returned (.bool (x.busy day))∧Below w.heap.size w w':=by
 cases h:(x.le != 0)
 all_goals
  go_enter Tryz.func131,Tryz.ntmps131
  go_wp2
  go_ret
  exact⟨ret_bool (by simp[Pc.busy,h]),below_new w _⟩
theorem deuser_any (x:Pc) (day:Int) (w:World) :
 Calls Tryz.prog 61 #[.agg #[.int .i64 x.fr,.int .i64 x.to,.int .i64 x.ow,.int .i64 x.le,.int .i64 x.un],.int .i64 day] w fun e w'=>e= .returned (.int .i64 (x.user day))∧Below w.heap.size w w':=by
 obtain⟨b1,w1,e1,ew1,hx1,hb1,hz1⟩:=mk_bx w #[.int .i64 x.fr,.int .i64 x.to,.int .i64 x.ow,.int .i64 x.le,.int .i64 x.un] 156
 have HX:=hide (show At w1 b1 [.int .i64 x.fr,.int .i64 x.to,.int .i64 x.ow,.int .i64 x.le,.int .i64 x.un] from hx1.at_)
 have HB:=hide hb1
 obtain⟨q0,q1,q2,q3,q4⟩:=HX.out.c5
 clear hx1 hb1 hz1
 go_enter Tryz.func61,Tryz.ntmps61
 go_upto_region 1 with fail
 rw[ew1.out,e1.out]
 clear ew1 e1
 go_wp2_with fail
 refine(debusy_any x day w1).mono ?_
 rintro e w2 ⟨rfl,hb2⟩
 obtain⟨r0,r1,r2,r3,r4⟩:=(HX.out.below hb2).c5
 clear q0 q1 q2 q3 q4
 have HB2:=hide (HB.out.trans (hb2.mono HB.out.size))
 clear hb2
 cases h:x.busy day
 all_goals
  go_wp2
  go_ret
  exact⟨ret_int (by simp[Pc.user,h]),HB2.out⟩
theorem derent1_any (x:Pc) (d:Dv) (q:Nat) (w:World) (hq:At w q d.cells) :
 Calls Tryz.prog 216 #[.agg #[.int .i64 x.fr,.int .i64 x.to,.int .i64 x.ow,.int .i64 x.le,.int .i64 x.un],.pointer (some ⟨q,0,none⟩)] w fun e w'=>e= .returned (.bool (x.busy d.day))∧Below w.heap.size w w':=by
 have q0:=(hq.below (below_new w (.cells #[.int .i64 x.fr,.int .i64 x.to,.int .i64 x.ow,.int .i64 x.le,.int .i64 x.un] 156))).2 1 _ rfl
 have hB:=below_new w (.cells #[.int .i64 x.fr,.int .i64 x.to,.int .i64 x.ow,.int .i64 x.le,.int .i64 x.un] 156)
 clear hq
 go_enter Tryz.func216,Tryz.ntmps216
 go_wp2_with fail
 refine(debusy_any x d.day _).mono ?_
 rintro e w2 ⟨rfl,hb2⟩
 have HB2:=hide (hB.trans (hb2.mono hB.size))
 clear hb2 hB q0
 go_wp2
 go_ret
 exact⟨rfl,HB2.out⟩
end Go.Proofs.YtiioegopckoldaaGreatDoor
namespace Go.Proofs.YtiioegopckoldaaGreatDoor
open Go.RowKit Go.Shelf
end Go.Proofs.YtiioegopckoldaaGreatDoor
namespace Go.Proofs.YtiioegopckoldaaGreatDoor
open Go.RowKit Go.Shelf
def Sp.bad (hi:Int) (s:Sp):Bool:=decide (s.lo < 0) || decide (s.hi < s.lo) || decide (hi < s.hi)
end Go.Proofs.YtiioegopckoldaaGreatDoor
namespace Go.Proofs.YtiioegopckoldaaGreatDoor
open Go.RowKit Go.Shelf
def anyBad (m:Int) (xs:List Sp):Bool:=xs.any (Sp.bad m)
def Rc.bad (r:Rc):Bool:=anyBad 1000000 [r.cap,r.leak,r.gain]
end Go.Proofs.YtiioegopckoldaaGreatDoor
namespace Go.Proofs.YtiioegopckoldaaGreatDoor
open Go.RowKit Go.Shelf
attribute [local go_sem] ite_min ite_max
def Ga.bad (n:Int) (x:Ga):Bool:=!(inB 0 n x.shaft) || anyBad 13000000 [x.flow]
end Go.Proofs.YtiioegopckoldaaGreatDoor
namespace Go.Proofs.YtiioegopckoldaaGreatDoor
open Go.RowKit Go.Shelf
def Yr.ok (y:Yr):Bool:=Sp.ok 0 10000 y.fell && inB 0 1000000 y.weight
end Go.Proofs.YtiioegopckoldaaGreatDoor
namespace Go.Proofs.YtiioegopckoldaaGreatDoor
open Go.RowKit Go.Shelf
attribute [local go_sem] ite_min ite_max
def leastF (r:Rc) (n:Int):Int:=max 0 (min n r.cap.lo-r.leak.hi)+r.gain.lo
def mostF (r:Rc) (n:Int):Int:=max 0 (min n r.cap.hi-r.leak.lo)+r.gain.hi
end Go.Proofs.YtiioegopckoldaaGreatDoor
namespace Go.Proofs.YtiioegopckoldaaGreatDoor
open Go.RowKit Go.Shelf
attribute [local go_sem] ite_min ite_max
def Rc.small (r:Rc):Prop:=(0≤r.cap.lo∧r.cap.lo≤13000000)∧(0≤r.leak.hi∧r.leak.hi≤13000000)∧(0≤r.gain.lo∧r.gain.lo≤13000000)
end Go.Proofs.YtiioegopckoldaaGreatDoor
namespace Go.Proofs.YtiioegopckoldaaGreatDoor
open Go.RowKit Go.Shelf
attribute [local go_sem] ite_min ite_max
def Yr.bad (y:Yr):Bool:=!(y.ok)
end Go.Proofs.YtiioegopckoldaaGreatDoor
namespace Go.Proofs.YtiioegopckoldaaGreatDoor
open Go.RowKit Go.Shelf
attribute [local go_sem] ite_min ite_max
end Go.Proofs.YtiioegopckoldaaGreatDoor
namespace Go.Proofs.YtiioegopckoldaaGreatDoor
open Go.RowKit Go.Shelf
attribute [local go_sem] ite_min ite_max
end Go.Proofs.YtiioegopckoldaaGreatDoor
namespace Go.Proofs.YtiioegopckoldaaGreatDoor
open Go.RowKit Go.Shelf
def mem (s n:Nat):List Int:=((List.range n).filter (fun i=>s.testBit i)).map fun (i:Nat)=>(i:Int)
end Go.Proofs.YtiioegopckoldaaGreatDoor
namespace Go.Proofs.YtiioegopckoldaaGreatDoor
open Go.RowKit Go.Shelf
def cutS (a b:Sp):Sp:=⟨max a.lo b.lo,min a.hi b.hi⟩
def allS:Sp:=⟨0,13000000⟩
def Sp.fine (m:Int) (s:Sp):Prop:=0≤s.lo∧s.lo≤s.hi∧s.hi≤m
def Rc.fine (r:Rc):Prop:=r.cap.fine 1000000∧r.leak.fine 1000000∧r.gain.fine 1000000
def Rc.zero:Rc:=⟨⟨0,0⟩,⟨0,0⟩,⟨0,0⟩⟩
def outS (r:Rc) (s:Sp):Sp:=⟨leastF r s.lo,mostF r s.hi⟩
def okS (s:Sp):Prop:=s.lo≤s.hi
instance (s:Sp):Decidable (okS s):=inferInstanceAs (Decidable (s.lo≤s.hi))
def rdS (n:Nat) (l:List Ga):List Sp:=l.foldl (fun rd x=>rd.set x.shaft.toNat (cutS (rd.getD x.shaft.toNat allS) x.flow)) (List.replicate (n+1) allS)
end Go.Proofs.YtiioegopckoldaaGreatDoor
namespace Go.Proofs.YtiioegopckoldaaGreatDoor
open Go.RowKit Go.Shelf
def inS (n:Int) (s:Sp):Prop:=s.lo≤n∧n≤s.hi
structure Feas (g:List Rc) (rd:List Sp) (s:Sp) (ns:Nat→Int):Prop where
 start:inS (ns 0) s
 read:∀k,k≤g.length→inS (ns k) (rd.getD k allS)
 step:∀k r,g[k]?=some r→leastF r (ns k)≤ns (k+1)∧ns (k+1)≤mostF r (ns k)
theorem Feas.tail {r:Rc} {g:List Rc} {rd:List Sp} {s:Sp} {ns:Nat→Int} (h:Feas (r :: g) rd s ns) (hr:r.fine):Feas g rd.tail (outS r (cutS s (rd.headD allS))) (fun k=>ns (k+1)):=by
 have h0:=h.read 0 (by simp)
 have h1:=h.start
 have h2:=h.step 0 r rfl
 have e:rd.getD 0 allS=rd.headD allS:=by cases rd <;> rfl
 rw[e] at h0
 obtain⟨⟨h3,h4,h5⟩,⟨h6,h7,h8⟩,⟨h9,h10,h11⟩⟩:=hr
 refine⟨?_,fun k hk=>?_,fun k r' hr'=>?_⟩
 ·simp only[inS,outS,cutS,leastF,mostF] at *
  omega
 ·have:=h.read (k+1) (by simpa using hk)
  cases rd <;> simpa[List.getD] using this
 ·exact h.step (k+1) r' (by simpa using hr')
def consN (n:Int) (ns:Nat→Int):Nat→Int | 0=>n | k+1=>ns k
theorem Feas.cons {r:Rc} {g:List Rc} {rd:List Sp} {s:Sp} {ns:Nat→Int} {n:Int} {s':Sp} (h:Feas g rd.tail s' ns) (hn:inS n (cutS s (rd.headD allS))) (hs:leastF r n≤ns 0∧ns 0≤mostF r n):Feas (r :: g) rd s (consN n ns):=by
 refine⟨?_,fun k hk=>?_,fun k r' hr'=>?_⟩
 ·simp only[inS,cutS,consN] at *;omega
 ·cases k with
  | zero =>
    have e:rd.getD 0 allS=rd.headD allS:=by cases rd <;> rfl
    rw[e]
    simp only[inS,cutS,consN] at *;omega
  | succ k =>
    have:=h.read k (by simpa using hk)
    cases rd <;> simpa[List.getD,consN] using this
 ·cases k with
  | zero =>
    simp at hr'
    subst hr'
    exact hs
  | succ k=>exact h.step k r' (by simpa using hr')
def subS (a b:Sp):Prop:=b.lo≤a.lo∧a.hi≤b.hi
def Rc.sub (a b:Rc):Prop:=subS a.cap b.cap∧subS a.leak b.leak∧subS a.gain b.gain
end Go.Proofs.YtiioegopckoldaaGreatDoor
namespace Go.Proofs.YtiioegopckoldaaGreatDoor
open Go.RowKit Go.Shelf
def holds (ss:List Sp) (n:Int):Nat:=(ss.filter fun s=>decide (s.lo≤n) && decide (n≤s.hi)).length
end Go.Proofs.YtiioegopckoldaaGreatDoor
namespace Go.Proofs.YtiioegopckoldaaGreatDoor
open Go.RowKit Go.Shelf
end Go.Proofs.YtiioegopckoldaaGreatDoor
namespace Go.Proofs.YtiioegopckoldaaGreatDoor
open Go.RowKit Go.Shelf
theorem run_copy_k {P:Program} (w:World) (dT sT ty elem:TypeId) (k g o dLen dCap:Nat) (a:Addr) (sLen sCap m:Nat) (cur:Array Value) (t:TypeId) (cs:List Value)
 (hu:P.underlying dT=some (.slice elem)) (hs:(P.info? elem).map (·.size)=some k) (hm:Nat.min sLen dLen=m)
 (hg:w.heap[g]?=some (.cells cur t (0,0))) (hn:cs.length=m*k)
 (hsrc:∀j v,cs[j]?=some v→w.cell? (a.add j)=some v) (hfit:o+cs.length≤cur.size) (h1:∀v∈cs,v.oneCell'=true) :
 (Builtin.copy_ #[dT,sT] ty #[.slice (some ⟨g,o,none⟩) dLen dCap,.slice (some a) sLen sCap]).run P w =
  .ok (goInt m) (w.setRow g (cur.toList.take o ++ cs ++ cur.toList.drop (o+cs.length)).toArray):=by
 have hl:=run_loadCells_list (P:=P) w a cs hsrc
 have hst:=run_storeCells_at P g o t cs 0 cur w hg (by simpa using hfit) h1
 cases hq:P.info? elem with
 | none=>simp[hq] at hs
 | some i =>
   have hi:i.size=k:=by simpa[hq] using hs
   simp only[Nat.add_zero] at hst
   simp[Builtin.copy_,run_underlying hu,Builtin.lenOf,Builtin.firstCells,sizeOf,typeInfo,hq,hi,hm,←hn,hl,hst]
theorem Own.copied {α:Type} {P:Program} {cells:α→List Value} {w:World} {base:Nat} {e:TypeId} {k g cap:Nat} {xs ys:List α} {n o s c' dCap:Nat} {b off:Nat} {T ty:TypeId} (h:Own w base e k cells (.slice (some ⟨g,0,none⟩) n cap) xs)
 (hk:∀x,(cells x).length=k) (h1:∀x,∀u∈cells x,u.oneCell'=true) (hu:P.underlying T=some (.slice e)) (hs:(P.info? e).map (·.size)=some k)
 (hn:n=xs.length) (hfit:o+s≤n) (hys:ys.length=s) (dLen sLen:Nat) (hmin:Nat.min sLen dLen=s) (hsrc:∀j v,(ys.flatMap cells)[j]?=some v→w.cell? ⟨b,off+j,none⟩=some v) :
 ∃w',(Builtin.copy_ #[T,T] ty #[.slice (some ⟨g,o*k,none⟩) dLen dCap,.slice (some ⟨b,off,none⟩) sLen c']).run P w= .ok (goInt s) w'∧
  Own w' base e k cells (.slice (some ⟨g,0,none⟩) n cap) (xs.take o ++ ys ++ xs.drop (o+s))∧Below base w w':=by
 subst hn
 obtain⟨hl,hn0 | ⟨g',cap',cur,hv,hb,hg,hnc,hcm,hcs,ht⟩⟩:=h
 ·exact absurd hn0.1 (by simp)
 ·injection hv with e1 e2 e3
  injection e1 with e1
  injection e1 with e1 _
  subst e1 e3
  have hfl:=flat_len hk ys
  have hfx:=flat_len hk xs
  have hcl:(ys.flatMap cells).length=s*k:=by rw[hfl,hys]
  have hle:o*k+s*k≤xs.length*k:=by rw[←Nat.add_mul];exact Nat.mul_le_mul_right _ hfit
  have hle2:xs.length*k≤cap*k:=Nat.mul_le_mul_right _ hnc
  have hrun:=run_copy_k (P:=P) w T T ty e k g (o*k) dLen dCap ⟨b,off,none⟩ sLen c' s cur e (ys.flatMap cells) hu hs hmin hg hcl (fun j v hj=>by
   have hadd:(⟨b,off,none⟩:Addr).add j=⟨b,off+j,none⟩:=by unfold Addr.add;split <;> simp_all
   rw[hadd];exact hsrc j v hj) (by rw[hcl];omega) (flat_one h1 ys)
  refine⟨_,hrun,?_,?_⟩
  ·have hlen:(xs.take o ++ ys ++ xs.drop (o+s)).length=xs.length:=by simp[hys];omega
   refine⟨?_,.inr ⟨g,cap,_,?_,hb,setRow_heap w g cur _ e (0,0) hg,?_,hcm,?_,?_⟩⟩
   ·exact flat_len hk _
   ·rw[hlen]
   ·rw[hlen];exact hnc
   ·simp[hcl];omega
   ·rw[hlen,List.toList_toArray]
    have ec:cur.toList=(xs.flatMap cells) ++ cur.toList.drop (xs.length*k):=by
     conv=>lhs;rw[←List.take_append_drop (xs.length*k) cur.toList,ht]
    have ex:xs.flatMap cells=(xs.take o).flatMap cells ++ ((xs.drop o).take s).flatMap cells ++ (xs.drop (o+s)).flatMap cells:=by
     rw[←List.flatMap_append,←List.flatMap_append]
     congr 1
     rw[List.append_assoc]
     conv=>lhs;rw[←List.take_append_drop o xs]
     congr 1
     conv=>lhs;rw[←List.take_append_drop s (xs.drop o)]
     rw[List.drop_drop]
    have l1:((xs.take o).flatMap cells).length=o*k:=by rw[flat_len hk,List.length_take,Nat.min_eq_left (by omega)]
    have l2:(((xs.drop o).take s).flatMap cells).length=s*k:=by rw[flat_len hk,List.length_take,List.length_drop,Nat.min_eq_left (by omega)]
    have l3:((xs.drop (o+s)).flatMap cells).length=(xs.length-(o+s))*k:=by rw[flat_len hk,List.length_drop]
    have t1:cur.toList.take (o*k)=(xs.take o).flatMap cells:=by
     rw[ec,ex,List.append_assoc,List.append_assoc,List.take_append_of_le_length (by omega),List.take_of_length_le (by omega)]
    have t2:cur.toList.drop (o*k+s*k)=(xs.drop (o+s)).flatMap cells ++ cur.toList.drop (xs.length*k):=by
     conv=>lhs;rw[ec,ex,List.append_assoc]
     rw[List.drop_append_of_le_length (by simp only[List.length_append];omega),List.drop_of_length_le (by simp only[List.length_append];omega)]
     simp
    rw[hcl,t1,t2]
    have hs3:xs.length*k=((xs.take o).flatMap cells ++ ys.flatMap cells ++ (xs.drop (o+s)).flatMap cells).length:=by
     simp only[List.length_append,l1,hcl,l3]
     have:o*k+s*k+(xs.length-(o+s))*k=(o+s+(xs.length-(o+s)))*k:=by rw[Nat.add_mul,Nat.add_mul]
     rw[this];congr 1;omega
    rw[←List.append_assoc,hs3,List.take_left]
    simp
  ·exact(Below.refl _ _).trans ⟨rfl,rfl,rfl,by simp[World.setRow],fun j hj=>setRow_other w g j _ (by omega)⟩
end Go.Proofs.YtiioegopckoldaaGreatDoor
namespace Go.Proofs.YtiioegopckoldaaGreatDoor
open Go.RowKit Go.Shelf
attribute [local go_sem] ite_min ite_max
end Go.Proofs.YtiioegopckoldaaGreatDoor
namespace Go.Proofs.YtiioegopckoldaaGreatDoor
open Go.RowKit Go.Shelf
structure BoxX {α:Type} (e:TypeId) (k:Nat) (cells:α→List Value) (w:World) (L Z:Nat) (xs:List α) (X:Nat→Prop) (W:World):Prop where
 own:∃v,W.cell? ⟨L,0,none⟩=some v∧W.frozen? ⟨L,0,none⟩=false∧Own W Z e k cells v xs∧∀g,v.ownBlock=some g→¬X g
 lt:L < W.heap.size
 bl:Below w.heap.size w W
 xge:∀b,X b→Z≤b
 zle:Z≤W.heap.size
section
variable {α:Type} {e:TypeId} {k:Nat} {cells:α→List Value} {w W W':World} {L Z:Nat} {xs:List α} {X X' R:Nat→Prop}
theorem BoxX.kept (h:BoxX e k cells w L Z xs X W) (hk:Kept R W W') (h1:∀b,Z≤b→¬X b→R b) (h2:R L) (h3:∀b,b < w.heap.size→R b) (hX:∀b,X' b→X b∨W.heap.size≤b):BoxX e k cells w L Z xs X' W':=by
 obtain⟨v,c,f,o,n⟩:=h.own
 refine⟨⟨v,(hk.cell (p:=⟨L,0,none⟩) h2 h.lt).trans c,(hk.frozen (p:=⟨L,0,none⟩) h2 h.lt).trans f,o.keptG hk (fun g hg=>h1 g (o.blockG hg).1 (n g hg)),fun g hg hx=>?_⟩,Nat.lt_of_lt_of_le h.lt hk.size,h.bl.trans (hk.below h3 h.bl.size),fun b hb=>?_,Nat.le_trans h.zle hk.size⟩
 ·rcases hX g hx with h' | h'
  ·exact n g hg h'
  ·have:=(o.blockG hg).2;omega
 ·rcases hX b hb with h' | h'
  ·exact h.xge b h'
  ·have:=h.zle;omega
theorem BoxX.step {W1 wv:World} {v vv:Value} {x:α} (h:BoxX e k cells w L Z xs X W) (hc:W.cell? ⟨L,0,none⟩=some v) (hf:W.frozen? ⟨L,0,none⟩=false) (ho:Own W Z e k cells v xs) (hn:∀g,v.ownBlock=some g→¬X g) (hX':∀b,X' b→X b) (hXlt:∀b,X b→b < W.heap.size)
 (hb:Below W.heap.size W W1) (hg:W1.grownBy wv v.ownBlock) (ho1:Own wv Z e k cells vv (xs ++ [x])) (hat:vv.ownBlock=v.ownBlock∨vv.ownBlock=some W1.heap.size) (hL:L < Z) (hw:w.heap.size≤L) :
 BoxX e k cells w L Z (xs ++ [x]) X' (wv.setCell ⟨L,0,none⟩ vv)∧Kept (fun b=>¬v.ownBlock=some b∧b≠L) W (wv.setCell ⟨L,0,none⟩ vv):=by
 have k1:Kept (fun b=>¬v.ownBlock=some b) W wv:=((Kept.all (fun _=>True) hb).mono fun _ _ _=>trivial).trans ((Kept.grown hg).mono fun b _ hb e=>hb e.symm)
 have hLv:¬v.ownBlock=some L:=fun e=>by have:=(ho.blockG e).1;omega
 have k2:Kept (fun b=>¬v.ownBlock=some b∧b≠L) W (wv.setCell ⟨L,0,none⟩ vv):=(k1.mono fun b _ h=>h.1).trans ((Kept.setCell wv ⟨L,0,none⟩ vv).mono fun b _ h=>h.2)
 have c1:wv.cell? ⟨L,0,none⟩=some v:=(k1.cell (p:=⟨L,0,none⟩) hLv h.lt).trans hc
 have f1:wv.frozen? ⟨L,0,none⟩=false:=(k1.frozen (p:=⟨L,0,none⟩) hLv h.lt).trans hf
 have hLvv:∀g,vv.ownBlock=some g→g≠L:=fun g hg=>by have:=(ho1.blockG hg).1;omega
 refine⟨⟨⟨vv,World.cell?_setCell_same' _ _ _ (by rw[c1];rfl),by rw[World.frozen?_setCell];exact f1,ho1.keptG (Kept.setCell wv ⟨L,0,none⟩ vv) hLvv,fun g hg hx=>?_⟩,Nat.lt_of_lt_of_le h.lt k2.size,h.bl.trans (k2.below (fun b hb=>⟨fun e=>by have:=(ho.blockG e).1;omega,by omega⟩) h.bl.size),fun b hb=>h.xge b (hX' b hb),Nat.le_trans h.zle k2.size⟩,k2⟩
 rcases hat with h' | h'
 ·exact hn g (h'.symm.trans hg) (hX' g hx)
 ·rw[h'] at hg
  injection hg with hg
  have:=hXlt g (hX' g hx)
  have:=hb.size
  omega
end
end Go.Proofs.YtiioegopckoldaaGreatDoor
