/- lemmas for topRented_holds: OS4 OS5 Q1. No conditions. -/
import Derived.Test.YtiioegopckoldaaGreatDoorK14
import Derived.Test.YtiioegopckoldaaGreatDoorK01
set_option linter.unusedVariables false
set_option linter.unusedSimpArgs false
namespace Go.Proofs.YtiioegopckoldaaGreatDoor
open Go.RowKit Go.Shelf
set_option maxHeartbeats 40000000 in
set_option maxRecDepth 100000 in
theorem destable_ord (g n c q bb:Nat) (ds:List Dv) (w:World) (ho:Ox g n q bb ds w) (hl:OrdL ds) (hn:n≤60) :
 Calls Tryz.prog 206 #[.slice (some ⟨g,0,none⟩) n c,.int .i64 n,.func (.func 178) #[] #[.pointer (some ⟨q,0,none⟩)]] w fun e w'=>(∃v,e= .returned v)∧Below w.heap.size w w':=by
 have HO:=hide ho;have Hl:=hide hl
 clear ho hl
 go_enter Tryz.func206,Tryz.ntmps206
 go_wp2_with fail
 go_loopw [7,8] (fun av bv wr=>∃a b:Nat,Hid (b=a+20)∧a≤n∧av= .int .i64 a∧bv= .int .i64 b∧Below w.heap.size w wr) (fun av _ _=>n-(intOf av).toNat)
 case atStart=>exact⟨0,20,hide rfl,by omega,rfl,rfl,Below.refl _ _⟩
 case round=>
  obtain⟨a,b,Hab,han,rfl,rfl,hb⟩:=hrel
  have Hb:=hide hb
  obtain⟨wo,rfl⟩:∃wo,wo=wr:=⟨wr,rfl⟩
  by_cases hbn:b≤n
  ·have ik:(b:Int)≤(n:Int):=by omega
   have kb:IntKind.i64.wrap ((b:Int)+20)=(b:Int)+20:=wrapI (by omega)
   have H1:=hide (deisort_ord g n c a b q bb ds wo (HO.out.bel hb) Hl.out hn (by have:=Hab.out;omega) hbn)
   clear hb
   go_wp2_with fail
   refine H1.out.mono ?_
   rintro e wv ⟨⟨vv,rfl⟩,hbv⟩
   have Hv:=hide (Hb.out.trans (hbv.mono Hb.out.size))
   clear hbv H1
   go_wp2_with fail
   have hab:=Hab.out
   exact⟨⟨b,b+20,hide rfl,hbn,rfl,by go_num,Hv.out⟩,by simp[intOf];omega⟩
  ·have ik:¬(b:Int)≤(n:Int):=by omega
   have H1:=hide (deisort_ord g n c a n q bb ds wo (HO.out.bel hb) Hl.out hn han (by omega))
   clear hb
   go_wp2_with fail
   refine H1.out.mono ?_
   rintro e wv ⟨⟨vv,rfl⟩,hbv⟩
   have Hv:=hide (Hb.out.trans (hbv.mono Hb.out.size))
   clear hbv H1 ik hbn Hab Hb han
   go_wp2_with fail
   go_loopw [6] (fun sv wr=>∃s:Nat,20≤s∧s≤160∧sv= .int .i64 s∧Below w.heap.size w wr) (fun sv _=>160-(intOf sv).toNat)
   case atStart=>exact⟨20,by omega,by omega,rfl,Hv.out⟩
   case round=>
    obtain⟨s,hs1,hs2,rfl,hb⟩:=hrel
    have Hb:=hide hb
    obtain⟨wp,rfl⟩:∃wp,wp=wr:=⟨wr,rfl⟩
    by_cases hsn:s < n
    ·have ik:(s:Int) < (n:Int):=by omega
     obtain⟨t,ht⟩:∃t,t=2*s:=⟨_,rfl⟩
     have kt:IntKind.i64.wrap (2*(s:Int))=(t:Int):=by rw[wrapI (by omega)];omega
     have kt2:IntKind.i64.wrap ((s:Int)*2)=(t:Int):=by rw[wrapI (by omega)];omega
     have Ht:=hide ht
     clear hb ht
     go_wp2_with fail
     go_loopw [7,8] (fun av bv wr=>∃a b:Nat,Hid (b=a+t)∧a≤n∧av= .int .i64 a∧bv= .int .i64 b∧Below w.heap.size w wr) (fun av _ _=>n-(intOf av).toNat)
     case atStart=>exact⟨0,t,hide (by omega),by omega,rfl,rfl,Hb.out⟩
     case round=>
      obtain⟨a,b,Hab,han,rfl,rfl,hb⟩:=hrel
      have Hq:=hide hb
      obtain⟨wo,rfl⟩:∃wo,wo=wr:=⟨wr,rfl⟩
      obtain⟨m,hm⟩:∃m,m=a+s:=⟨_,rfl⟩
      have km:IntKind.i64.wrap ((a:Int)+(s:Int))=(m:Int):=by rw[wrapI (by omega)];omega
      have Hm:=hide hm
      clear hm
      by_cases hbn:b≤n
      ·have ik2:(b:Int)≤(n:Int):=by omega
       obtain⟨b2,hb2⟩:∃b2,b2=b+t:=⟨_,rfl⟩
       have kb:IntKind.i64.wrap ((b:Int)+(t:Int))=(b2:Int):=by rw[wrapI (by have:=Ht.out;omega)];omega
       have H1:=hide (desym_ord g n c q bb ds Hl.out hn n a m b (by omega) (by have:=Hm.out;omega) (by have:=Hm.out;have:=Ht.out;have:=Hab.out;omega) hbn wo (HO.out.bel hb))
       have HB2:=hide hb2
       clear hb hb2
       go_wp2_with fail
       refine H1.out.mono ?_
       rintro e wv ⟨⟨vv,rfl⟩,hbv⟩
       have Hv:=hide (Hq.out.trans (hbv.mono Hq.out.size))
       clear hbv H1
       go_wp2_with fail
       have hab:=Hab.out;have ht:=Ht.out
       exact⟨⟨b,b2,HB2,hbn,rfl,rfl,Hv.out⟩,by simp[intOf];omega⟩
      ·have ik2:¬(b:Int)≤(n:Int):=by omega
       by_cases hmn:m < n
       ·have ik3:(m:Int) < (n:Int):=by omega
        have H1:=hide (desym_ord g n c q bb ds Hl.out hn n a m n (by omega) (by have:=Hm.out;omega) hmn (Nat.le_refl _) wo (HO.out.bel hb))
        clear hb
        go_wp2_with fail
        refine H1.out.mono ?_
        rintro e wv ⟨⟨vv,rfl⟩,hbv⟩
        have Hv:=hide (Hq.out.trans (hbv.mono Hq.out.size))
        clear hbv H1
        go_wp2_with fail
        have ht:=Ht.out
        exact⟨⟨t,by omega,by omega,rfl,Hv.out⟩,by simp[intOf];omega⟩
       ·have ik3:¬(m:Int) < (n:Int):=by omega
        clear hb
        go_wp2_with fail
        have ht:=Ht.out
        exact⟨⟨t,by omega,by omega,rfl,Hq.out⟩,by simp[intOf];omega⟩
    ·have ik:¬(s:Int) < (n:Int):=by omega
     clear hb
     go_wp2_with fail
     go_returns
     exact⟨⟨_,rfl⟩,Hb.out⟩
theorem desort_ord (g n c q bb:Nat) (ds:List Dv) (w:World) (ho:Ox g n q bb ds w) (hl:OrdL ds) (hn:n≤60) :
 Calls Tryz.prog 177 #[.slice (some ⟨g,0,none⟩) n c,.func (.func 178) #[] #[.pointer (some ⟨q,0,none⟩)]] w fun e w'=>(∃v,e= .returned v)∧Below w.heap.size w w':=by
 have H1:=hide (destable_ord g n c q bb ds w ho hl hn)
 clear ho hl
 go_enter Tryz.func177,Tryz.ntmps177
 go_wp2_with fail
 refine H1.out.mono ?_
 rintro e w' ⟨⟨v1,rfl⟩,hb⟩
 have Hb:=hide hb
 clear hb H1
 go_wp2_with fail
 go_returns
 exact⟨⟨_,rfl⟩,Hb.out⟩
theorem ord_sorted {ds:List Dv} (hl:OrdL ds) (hn:ds.length≤60) (h0:0 < ds.length):OrdOk ds:=fun v base bb w ho hat=>by
 obtain⟨n,en⟩:∃n,n=ds.length:=⟨_,rfl⟩
 obtain⟨g,c,rfl⟩:=ho.some_ n en.symm (by omega)
 obtain⟨A,d,hv,hr⟩:=ho.rdn n en.symm
 obtain⟨b3,w1,e3,ew1,hx3,hb1,hz3⟩:=mk_bx w #[.slice (some ⟨bb,0,none⟩) 2 2] 287
 have HB:=hide hb1
 have hmf:∀(fn:Fn) (first cap:Array Value) (w:World),(Instr.makeFunc fn first cap).run Tryz.prog w= .ok (.func fn first cap) w:=fun _ _ _ _=>rfl
 have ha:A=some ⟨g,0,none⟩:=by injection hv with hv;exact hv.symm
 subst ha
 have H1:=hide (desort_ord g n c b3 bb ds w1 ⟨hr.bel hb1,(show Bx w1 b3 [.slice (some ⟨bb,0,none⟩) 2 2] from hx3).at_,hat.below hb1,en⟩ hl (by omega))
 clear hx3 hb1 hz3 ho hat hr hv en
 go_enter Tryz.func123,Tryz.ntmps123
 go_upto_region 1 with fail
 rw[ew1.out,e3.out]
 go_wp2_with fail
 refine H1.out.mono ?_
 rintro e w' ⟨⟨v1,rfl⟩,hb⟩
 have Hb:=hide (HB.out.trans (hb.mono HB.out.size))
 clear hb H1
 go_wp2_with fail
 go_returns
 exact⟨rfl,Hb.out⟩
theorem cmpI3_self (x:Int):cmpI3 x x=0:=by unfold cmpI3;rw[if_neg (by omega),if_neg (by omega)]
theorem ordL_ids {ds:List Dv} {D:Int} (hd:∀d∈ds,d.day=D) (hid:∀(j k:Nat) (x y:Dv),j≤k→ds[j]?=some x→ds[k]?=some y→x.id≤y.id):OrdL ds:=fun j k x y hjk hx hy=>by
 have h1:=hid j k x y hjk hx hy
 unfold cmpD
 rw[hd y (List.mem_of_getElem? hy),hd x (List.mem_of_getElem? hx),cmpI3_self,if_neg (by simp)]
 unfold cmpI3
 split
 ·omega
 ·split <;> omega
end Go.Proofs.YtiioegopckoldaaGreatDoor
namespace Go.Proofs.YtiioegopckoldaaGreatDoor
open Go.RowKit Go.Shelf
theorem deisort_zero (v fn:Value) (w:World):Calls Tryz.prog 239 #[v,.int .i64 0,.int .i64 0,fn] w fun e w'=>(∃v,e= .returned v)∧w=w':=by
 go_enter Tryz.func239,Tryz.ntmps239
 go_wp2_with fail
 go_loopw [8] (fun iv wr=>iv= .int .i64 1∧w=wr) (fun _ _=>0)
 case atStart=>exact⟨rfl,rfl⟩
 case round=>
  obtain⟨rfl,rfl⟩:=hrel
  go_wp2_with fail
  go_returns
  exact⟨⟨_,rfl⟩,rfl⟩
theorem destable_zero (v fn:Value) (w:World):Calls Tryz.prog 206 #[v,.int .i64 0,fn] w fun e w'=>(∃v,e= .returned v)∧w=w':=by
 go_enter Tryz.func206,Tryz.ntmps206
 go_wp2_with fail
 go_loopw [7,8] (fun av bv wr=>av= .int .i64 0∧bv= .int .i64 20∧w=wr) (fun _ _ _=>0)
 case atStart=>exact⟨rfl,rfl,rfl⟩
 case round=>
  obtain⟨rfl,rfl,rfl⟩:=hrel
  go_wp2_with fail
  refine(deisort_zero _ _ _).mono ?_
  rintro e w' ⟨⟨v1,rfl⟩,rfl⟩
  go_wp2_with fail
  go_loopw [6] (fun bv wr=>bv= .int .i64 20∧w=wr) (fun _ _=>0)
  case atStart=>exact⟨rfl,rfl⟩
  case round=>
   obtain⟨rfl,rfl⟩:=hrel
   go_wp2_with fail
   go_returns
   exact⟨⟨_,rfl⟩,rfl⟩
theorem desort_zero (A:Option Addr) (c:Nat) (fn:Value) (w:World):Calls Tryz.prog 177 #[.slice A 0 c,fn] w fun e w'=>(∃v,e= .returned v)∧w=w':=by
 go_enter Tryz.func177,Tryz.ntmps177
 go_wp2_with fail
 refine(destable_zero _ _ _).mono ?_
 rintro e w' ⟨⟨v1,rfl⟩,rfl⟩
 go_wp2_with fail
 go_returns
 exact⟨⟨_,rfl⟩,rfl⟩
theorem ord_nil:OrdOk []:=fun v base bb w ho hat=>by
 obtain⟨A,c,rfl,_⟩:=ho.rdn 0 rfl
 obtain⟨b3,w1,e3,ew1,hx3,hb1,hz3⟩:=mk_bx w #[.slice (some ⟨bb,0,none⟩) 2 2] 287
 have HB:=hide hb1
 have hmf:∀(fn:Fn) (first cap:Array Value) (w:World),(Instr.makeFunc fn first cap).run Tryz.prog w= .ok (.func fn first cap) w:=fun _ _ _ _=>rfl
 clear hx3 hb1 hz3 ho hat
 go_enter Tryz.func123,Tryz.ntmps123
 go_upto_region 1 with fail
 rw[ew1.out,e3.out]
 go_wp2_with fail
 refine(desort_zero _ _ _ _).mono ?_
 rintro e w' ⟨⟨v1,rfl⟩,rfl⟩
 go_wp2_with fail
 go_returns
 exact⟨rfl,HB.out⟩
end Go.Proofs.YtiioegopckoldaaGreatDoor
namespace Go.Proofs.YtiioegopckoldaaGreatDoor
def sumTo (f:Nat→Int):Nat→Int
 | 0=>0
 | k+1=>sumTo f k+f k
theorem sumTo_congr {f g:Nat→Int}:∀{n:Nat},(∀k,k < n→f k=g k)→sumTo f n=sumTo g n
 | 0,_=>rfl
 | n + 1, h => by
   show sumTo f n+f n=sumTo g n+g n
   rw[sumTo_congr fun k hk=>h k (by omega),h n (by omega)]
theorem sumTo_le {f g:Nat→Int}:∀{n:Nat},(∀k,k < n→f k≤g k)→sumTo f n≤sumTo g n
 | 0,_=>Int.le_refl _
 | n + 1, h => by
   have h1:=sumTo_le (f:=f) (g:=g) (n:=n) fun k hk=>h k (by omega)
   have h2:=h n (by omega)
   show sumTo f n+f n≤sumTo g n+g n
   omega
theorem sumTo_add (f g:Nat→Int):∀n:Nat,sumTo (fun k=>f k+g k) n=sumTo f n+sumTo g n
 | 0=>rfl
 | n + 1 => by
   show sumTo (fun k=>f k+g k) n+(f n+g n)=sumTo f n+f n+(sumTo g n+g n)
   rw[sumTo_add f g n];omega
theorem sumTo_zero {f:Nat→Int} {n:Nat} (h:∀k,k < n→f k=0):sumTo f n=0:=by
 rw[sumTo_congr (g:=fun _=>0) h]
 clear h
 induction n with
 | zero=>rfl
 | succ n ih=>show sumTo (fun _=>0) n+0=0;rw[ih];rfl
theorem sumTo_nonneg {f:Nat→Int} {n:Nat} (h:∀k,k < n→0≤f k):0≤sumTo f n:=by
 have h1:=sumTo_le (f:=fun _=>0) (g:=f) h
 rw[sumTo_zero (fun _ _=>rfl)] at h1
 exact h1
theorem sumTo_one (f:Nat→Int) (i:Nat):∀{n:Nat},i < n→sumTo f n=sumTo (fun k=>if k=i then 0 else f k) n+f i
 | 0,h=>by omega
 | n + 1, h => by
   show sumTo f n+f n=sumTo _ n+(if n=i then 0 else f n)+f i
   by_cases hn:n=i
   ·rw[if_pos hn,hn,sumTo_congr (n:=i) (g:=fun k=>if k=i then 0 else f k)]
    ·omega
    ·intro k hk;rw[if_neg (by omega)]
   ·rw[if_neg hn,sumTo_one f i (n:=n) (by omega)];omega
structure Bo where
 m:Nat
 r:Nat
 nd:Nat→Int
 st:Nat→Nat
 pr:Nat→Int
namespace Bo
variable (B:Bo)
def on (S i:Nat):Bool:=B.st i &&& S != 0
def need (S:Nat):Int:=sumTo (fun k=>if S.testBit k then B.nd k else 0) B.m
def there (x:Nat→Int) (S:Nat):Int:=sumTo (fun i=>if B.on S i then x i else 0) B.r
def but (x:Nat→Int) (S j:Nat):Int:=sumTo (fun i=>if i≠j∧B.on S i=true then x i else 0) B.r
def Feas (x:Nat→Int):Prop:=∀S,S < 2 ^ B.m→B.need S≤B.there x S
def cost (x:Nat→Int):Int:=sumTo (fun i=>x i*B.pr i) B.r
theorem on_iff {S i:Nat}:B.on S i=true↔∃k,(B.st i).testBit k=true∧S.testBit k=true:=by
 unfold on
 constructor
 ·intro h
  have h1:B.st i &&& S≠0:=by simpa using h
  obtain⟨k,hk⟩:=Nat.exists_testBit_of_ne_zero h1
  rw[Nat.testBit_and,Bool.and_eq_true] at hk
  exact⟨k,hk⟩
 ·rintro⟨k,h1,h2⟩
  have:(B.st i &&& S).testBit k=true:=by rw[Nat.testBit_and,h1,h2];rfl
  simp
  intro h0
  rw[h0] at this
  simp at this
theorem on_or {S T i:Nat}:B.on (S ||| T) i=(B.on S i || B.on T i):=by
 rw[Bool.eq_iff_iff,Bool.or_eq_true,on_iff,on_iff,on_iff]
 constructor
 ·rintro⟨k,h1,h2⟩
  rw[Nat.testBit_or,Bool.or_eq_true] at h2
  rcases h2 with h | h
  ·exact .inl ⟨k,h1,h⟩
  ·exact .inr ⟨k,h1,h⟩
 ·rintro(⟨k,h1,h2⟩ | ⟨k,h1,h2⟩)
  ·exact⟨k,h1,by rw[Nat.testBit_or,h2];rfl⟩
  ·exact⟨k,h1,by rw[Nat.testBit_or,h2];simp⟩
theorem on_and {S T i:Nat} (h:B.on (S &&& T) i=true):B.on S i=true∧B.on T i=true:=by
 obtain⟨k,h1,h2⟩:=B.on_iff.1 h
 rw[Nat.testBit_and,Bool.and_eq_true] at h2
 exact⟨B.on_iff.2 ⟨k,h1,h2.1⟩,B.on_iff.2 ⟨k,h1,h2.2⟩⟩
theorem need_mod (S T:Nat):B.need (S ||| T)+B.need (S &&& T)=B.need S+B.need T:=by
 unfold need
 rw[←sumTo_add,←sumTo_add]
 refine sumTo_congr fun k _=>?_
 rw[Nat.testBit_or,Nat.testBit_and]
 cases S.testBit k <;> cases T.testBit k <;> simp
theorem need_zero:B.need 0=0:=sumTo_zero fun k _=>by simp
theorem there_zero (x:Nat→Int):B.there x 0=0:=sumTo_zero fun k _=>by simp[on]
theorem there_mod {x:Nat→Int} (h0:∀i,i < B.r→0≤x i) (S T:Nat):B.there x (S ||| T)+B.there x (S &&& T)≤B.there x S+B.there x T:=by
 unfold there
 rw[←sumTo_add,←sumTo_add]
 refine sumTo_le fun i hi=>?_
 have hx:=h0 i hi
 have h1:=B.on_or (S:=S) (T:=T) (i:=i)
 have h2:=B.on_and (S:=S) (T:=T) (i:=i)
 cases ha:B.on (S &&& T) i
 ·rw[h1]
  cases B.on S i <;> cases B.on T i <;> simp <;> omega
 ·obtain⟨h3,h4⟩:=h2 ha
  rw[h1,h3,h4];simp
theorem there_le {x y:Nat→Int} (h:∀i,i < B.r→x i≤y i) (S:Nat):B.there x S≤B.there y S:=sumTo_le fun i hi=>by
 have:=h i hi
 cases B.on S i <;> simp <;> omega
theorem and_lt {S T n:Nat} (h:S < 2 ^ n):S &&& T < 2 ^ n:=Nat.lt_of_le_of_lt Nat.and_le_left h
theorem tight_or {x:Nat→Int} (h0:∀i,i < B.r→0≤x i) (hf:B.Feas x) {S T:Nat} (hS:S < 2 ^ B.m) (hT:T < 2 ^ B.m) (tS:B.there x S=B.need S) (tT:B.there x T=B.need T):B.there x (S ||| T)=B.need (S ||| T):=by
 have h1:=B.need_mod S T
 have h2:=B.there_mod h0 S T
 have h3:=hf (S ||| T) (Nat.or_lt_two_pow hS hT)
 have h4:=hf (S &&& T) (and_lt hS)
 omega
theorem there_one {x:Nat→Int} {S i:Nat} (hi:i < B.r) (ho:B.on S i=true):B.there x S=B.but x S i+x i:=by
 unfold there but
 rw[sumTo_one _ i hi,if_pos ho]
 congr 1
 refine sumTo_congr fun k _=>?_
 by_cases hk:k=i
 ·rw[if_pos hk,if_neg (by simp[hk])]
 ·rw[if_neg hk]
  by_cases h:B.on S k=true
  ·rw[if_pos h,if_pos ⟨hk,h⟩]
  ·rw[if_neg h,if_neg (fun h'=>h h'.2)]
structure Lacks (x:Nat→Int) (i:Nat) (v:Int):Prop where
 pos:0≤v
 all:∀S,S < 2 ^ B.m→B.on S i=true→B.need S-B.but x S i≤v
 hit:v=0∨∃S,S < 2 ^ B.m∧B.on S i=true∧v=B.need S-B.but x S i
def upd (x:Nat→Int) (i:Nat) (v:Int):Nat→Int:=fun j=>if j=i then v else x j
theorem but_upd (x:Nat→Int) (S i:Nat) (v:Int):B.but (upd x i v) S i=B.but x S i:=sumTo_congr fun k _=>by
 unfold upd
 by_cases hk:k=i
 ·rw[if_neg (fun h=>h.1 hk),if_neg (fun h=>h.1 hk)]
 ·rw[if_neg hk]
theorem there_off {x:Nat→Int} {S i:Nat} {v:Int} (h:B.on S i=false):B.there (upd x i v) S=B.there x S:=sumTo_congr fun k _=>by
 unfold upd
 by_cases hk:k=i
 ·rw[hk,h];rfl
 ·rw[if_neg hk]
structure Cov (h x:Nat→Int) (pre:List Nat):Prop where
 feas:B.Feas x
 pos:∀i,i < B.r→0≤x i
 le:∀i,i < B.r→x i≤h i
 same:∀i,i < B.r→i∉pre→x i=h i
 tight:∃S,S < 2 ^ B.m∧B.there x S=B.need S∧∀j∈pre,x j=0∨B.on S j=true
theorem Cov.start {h:Nat→Int} (hf:B.Feas h) (h0:∀i,i < B.r→0≤h i):B.Cov h h []:=
 ⟨hf,h0,fun _ _=>Int.le_refl _,fun _ _ _=>rfl,⟨0,Nat.two_pow_pos _,by rw[need_zero,there_zero],by simp⟩⟩
theorem Cov.step {h x:Nat→Int} {pre:List Nat} {i:Nat} {v:Int} (c:B.Cov h x pre) (hi:i < B.r) (hn:i∉pre) (hl:B.Lacks x i v):B.Cov h (upd x i v) (pre ++ [i]):=by
 have hvx:v≤x i:=by
  rcases hl.hit with h1 | ⟨S,hS,ho,h1⟩
  ·rw[h1];exact c.pos i hi
  ·have h2:=c.feas S hS
   rw[B.there_one hi ho] at h2
   omega
 have hle:∀j,j < B.r→upd x i v j≤x j:=by
  intro j _
  unfold upd
  by_cases hj:j=i
  ·rw[if_pos hj,hj];exact hvx
  ·rw[if_neg hj];exact Int.le_refl _
 have hpos:∀j,j < B.r→0≤upd x i v j:=by
  intro j hj
  unfold upd
  by_cases h':j=i
  ·rw[if_pos h'];exact hl.pos
  ·rw[if_neg h'];exact c.pos j hj
 have hfe:B.Feas (upd x i v):=by
  intro S hS
  cases ho:B.on S i
  ·rw[B.there_off ho];exact c.feas S hS
  ·rw[B.there_one hi ho,B.but_upd]
   have:=hl.all S hS ho
   have e:upd x i v i=v:=by unfold upd;rw[if_pos rfl]
   rw[e]
   omega
 refine⟨hfe,hpos,fun j hj=>Int.le_trans (hle j hj) (c.le j hj),?_,?_⟩
 ·intro j hj hjp
  rw[List.mem_append,List.mem_singleton,not_or] at hjp
  unfold upd
  rw[if_neg hjp.2]
  exact c.same j hj hjp.1
 ·obtain⟨S,hS,tS,cS⟩:=c.tight
  have tS':B.there (upd x i v) S=B.need S:=by
   have h1:=hfe S hS
   have h2:=B.there_le hle S
   omega
  have cS':∀j∈pre,upd x i v j=0∨B.on S j=true:=by
   intro j hj
   unfold upd
   rw[if_neg (fun e:j=i=>hn (e ▸ hj))]
   exact cS j hj
  rcases hl.hit with h1 | ⟨T,hT,ho,h1⟩
  ·refine⟨S,hS,tS',fun j hj=>?_⟩
   rw[List.mem_append,List.mem_singleton] at hj
   rcases hj with hj | rfl
   ·exact cS' j hj
   ·exact .inl (by unfold upd;rw[if_pos rfl];exact h1)
  ·have tT:B.there (upd x i v) T=B.need T:=by
    rw[B.there_one hi ho,B.but_upd]
    have e:upd x i v i=v:=by unfold upd;rw[if_pos rfl]
    rw[e]
    omega
   refine⟨S ||| T,Nat.or_lt_two_pow hS hT,B.tight_or hpos hfe hS hT tS' tT,fun j hj=>?_⟩
   rw[List.mem_append,List.mem_singleton] at hj
   rw[B.on_or]
   rcases hj with hj | rfl
   ·rcases cS' j hj with h | h
    ·exact .inl h
    ·exact .inr (by rw[h];rfl)
   ·exact .inr (by rw[ho];simp)
def sumL (f:Nat→Int):List Nat→Int
 | []=>0
 | i :: l=>f i+sumL f l
theorem sumL_snoc (f:Nat→Int) (i:Nat):∀l:List Nat,sumL f (l ++ [i])=sumL f l+f i
 | []=>by simp[sumL]
 | j :: l => by
   show f j+sumL f (l ++ [i])=f j+sumL f l+f i
   rw[sumL_snoc f i l];omega
theorem sumL_congr {f g:Nat→Int}:∀{l:List Nat},(∀i∈l,f i=g i)→sumL f l=sumL g l
 | [],_=>rfl
 | i :: l, h => by
   show f i+sumL f l=g i+sumL g l
   rw[h i (by simp),sumL_congr fun j hj=>h j (by simp[hj])]
theorem sumTo_without (f:Nat→Int) {i:Nat} {l:List Nat} (hn:i∉l) (n:Nat) (hi:i < n) :
 sumTo (fun k=>if k∈i :: l then f k else 0) n=f i+sumTo (fun k=>if k∈l then f k else 0) n:=by
 rw[sumTo_one _ i hi,if_pos (by simp)]
 have:sumTo (fun k=>if k∈l then f k else 0) n=sumTo (fun k=>if k=i then 0 else if k∈i :: l then f k else 0) n:=sumTo_congr fun k _=>by
  by_cases hk:k=i
  ·rw[if_pos hk,if_neg (by rw[hk];exact hn)]
  ·rw[if_neg hk]
   by_cases h:k∈l
   ·rw[if_pos h,if_pos (by simp[h])]
   ·rw[if_neg h,if_neg (by simp[hk,h])]
 rw[this]
 omega
theorem sumL_to (f:Nat→Int) (n:Nat):∀{l:List Nat},l.Nodup→(∀i∈l,i < n)→sumL f l=sumTo (fun k=>if k∈l then f k else 0) n
 | [], _, _ => by
   show(0:Int)=_
   rw[sumTo_zero];intro k _;simp
 | i :: l, hd, hl => by
   have h1:=List.nodup_cons.1 hd
   rw[sumTo_without f h1.1 n (hl i (by simp)),←sumL_to f n h1.2 fun j hj=>hl j (by simp[hj])]
   rfl
theorem Cov.least {h x y:Nat→Int} {pre:List Nat} (c:B.Cov h x pre) (hd:pre.Nodup) (hp:∀i∈pre,i < B.r) (yf:B.Feas y) (y0:∀i,i < B.r→0≤y i) (yh:∀i,i < B.r→y i≤h i):sumL x pre≤sumL y pre:=by
 obtain⟨S,hS,tS,cS⟩:=c.tight
 have h1:=yf S hS
 rw[←tS] at h1
 rw[sumL_to x B.r hd hp,sumL_to y B.r hd hp]
 have key:sumTo (fun k=>if k∈pre then x k else 0) B.r+B.there y S≤sumTo (fun k=>if k∈pre then y k else 0) B.r+B.there x S:=by
  unfold there
  rw[←sumTo_add,←sumTo_add]
  refine sumTo_le fun k hk=>?_
  have hy0:=y0 k hk
  have hyh:=yh k hk
  by_cases hkp:k∈pre
  ·rw[if_pos hkp,if_pos hkp]
   rcases cS k hkp with e | e
   ·rw[e]
    cases B.on S k <;> simp <;> omega
   ·rw[if_pos e,if_pos e];omega
  ·rw[if_neg hkp,if_neg hkp,c.same k hk hkp]
   cases B.on S k <;> simp <;> omega
 omega
theorem abel {x y p:Nat→Int}:∀(l:List Nat),(∀i∈l,0≤p i)→l.Pairwise (fun i j=>p j≤p i)→(∀n,n≤l.length→sumL x (l.take n)≤sumL y (l.take n))→
 ∀q,0≤q→(∀i∈l,q≤p i)→q*(sumL y l-sumL x l)≤sumL (fun i=>y i*p i) l-sumL (fun i=>x i*p i) l:=by
 intro l
 induction h:l.length generalizing l with
 | zero =>
   intro _ _ _ q _ _
   rw[List.length_eq_zero_iff.1 h]
   simp[sumL]
 | succ n ih =>
   intro hp hs hle q hq hqp
   obtain⟨l',i,rfl⟩:∃l' i,l=l' ++ [i]:=by
    rcases List.eq_nil_or_concat l with e | ⟨l',i,e⟩
    ·rw[e] at h;cases h
    ·exact⟨l',i,by rw[e,List.concat_eq_append]⟩
   have hl':l'.length=n:=by simpa using h
   rw[List.pairwise_append] at hs
   have hq2:∀j∈l',p i≤p j:=fun j hj=>hs.2.2 j hj i (by simp)
   have h1:=ih l' hl' (fun j hj=>hp j (by simp[hj])) hs.1 (fun k hk=>by
    have:=hle k (by omega)
    rwa [List.take_append_of_le_length (by omega)] at this) (p i) (hp i (by simp)) hq2
   have h2:=hle (n+1) (Nat.le_refl _)
   rw[List.take_of_length_le (by simp;omega)] at h2
   rw[sumL_snoc,sumL_snoc] at h2 ⊢
   rw[sumL_snoc,sumL_snoc]
   have h3:q≤p i:=hqp i (by simp)
   have e1:p i*(sumL y l'-sumL x l')+(y i*p i-x i*p i)=p i*(sumL y l'+y i-(sumL x l'+x i)):=by
    rw[Int.mul_comm (y i),Int.mul_comm (x i),←Int.mul_sub,←Int.mul_add]
    congr 1
    omega
   have h4:q*(sumL y l'+y i-(sumL x l'+x i))≤p i*(sumL y l'+y i-(sumL x l'+x i)):=Int.mul_le_mul_of_nonneg_right h3 (by omega)
   omega
inductive Run (h:Nat→Int):List Nat→(Nat→Int)→Prop
 | nil:Run h [] h
 | snoc {pre:List Nat} {x:Nat→Int} {i:Nat} {v:Int}:Run h pre x→i < B.r→i∉pre→B.Lacks x i v→Run h (pre ++ [i]) (upd x i v)
theorem Run.cov {h:Nat→Int} (hf:B.Feas h) (h0:∀i,i < B.r→0≤h i) {l:List Nat} {x:Nat→Int} (R:B.Run h l x):B.Cov h x l:=by
 induction R with
 | nil=>exact Cov.start B hf h0
 | snoc _ hi hn hl ih=>exact ih.step B hi hn hl
theorem Run.nodup {h:Nat→Int} {l:List Nat} {x:Nat→Int} (R:B.Run h l x):l.Nodup∧∀i∈l,i < B.r:=by
 induction R with
 | nil=>simp
 | @snoc pre x i v _ hi hn hl ih =>
   refine⟨List.nodup_append.2 ⟨ih.1,by simp,fun a ha b hb=>by rw[List.mem_singleton] at hb;rw[hb];exact fun e=>hn (e ▸ ha)⟩,fun j hj=>?_⟩
   rw[List.mem_append,List.mem_singleton] at hj
   rcases hj with hj | rfl
   ·exact ih.2 j hj
   ·exact hi
theorem Run.pres {h y:Nat→Int} (hf:B.Feas h) (h0:∀i,i < B.r→0≤h i) (yf:B.Feas y) (y0:∀i,i < B.r→0≤y i) (yh:∀i,i < B.r→y i≤h i) {l:List Nat} {x:Nat→Int} (R:B.Run h l x) :
 ∀n,n≤l.length→sumL x (l.take n)≤sumL y (l.take n):=by
 induction R with
 | nil=>intro n _;simp[sumL]
 | @snoc pre x i v R hi hn hl ih =>
   intro n hle
   have R':=Run.snoc R hi hn hl
   by_cases hn':n≤pre.length
   ·rw[List.take_append_of_le_length hn']
    have e:sumL (upd x i v) (pre.take n)=sumL x (pre.take n):=sumL_congr fun j hj=>by
     unfold upd
     rw[if_neg]
     intro e
     exact hn (e ▸ List.mem_of_mem_take hj)
    rw[e]
    exact ih n hn'
   ·rw[List.take_of_length_le (by simp at hle ⊢;omega)]
    exact(R'.cov B hf h0).least B (R'.nodup B).1 (R'.nodup B).2 yf y0 yh
structure Min (h:Nat→Int) (c:Int):Prop where
 is:∃x,B.Feas x∧(∀i,i < B.r→0≤x i)∧(∀i,i < B.r→x i≤h i)∧B.cost x=c
 le:∀y,B.Feas y→(∀i,i < B.r→0≤y i)→(∀i,i < B.r→y i≤h i)→c≤B.cost y
theorem Min.one {h:Nat→Int} {c d:Int} (hc:B.Min h c) (hd:B.Min h d):c=d:=by
 obtain⟨x,a1,a2,a3,a4⟩:=hc.is
 obtain⟨y,b1,b2,b3,b4⟩:=hd.is
 have:=hc.le y b1 b2 b3
 have:=hd.le x a1 a2 a3
 omega
theorem sumL_all {f:Nat→Int} {l:List Nat} (hd:l.Nodup) (hl:∀i∈l,i < B.r) (hall:∀i,i < B.r→i∈l):sumL f l=sumTo f B.r:=by
 rw[sumL_to f B.r hd hl]
 exact sumTo_congr fun k hk=>by rw[if_pos (hall k hk)]
theorem Run.min {h:Nat→Int} (hf:B.Feas h) (h0:∀i,i < B.r→0≤h i) (hp:∀i,i < B.r→0≤B.pr i) {l:List Nat} {x:Nat→Int} (R:B.Run h l x) (hs:l.Pairwise (fun i j=>B.pr j≤B.pr i)) (hall:∀i,i < B.r→i∈l):B.Min h (B.cost x):=by
 have c:=R.cov B hf h0
 obtain⟨hd,hl⟩:=R.nodup B
 refine⟨⟨x,c.feas,c.pos,c.le,rfl⟩,fun y yf y0 yh=>?_⟩
 have h1:=abel (x:=x) (y:=y) (p:=B.pr) l (fun i hi=>hp i (hl i hi)) hs (R.pres B hf h0 yf y0 yh) 0 (Int.le_refl _) (fun i hi=>hp i (hl i hi))
 rw[B.sumL_all (f:=fun i=>x i*B.pr i) hd hl hall,B.sumL_all (f:=fun i=>y i*B.pr i) hd hl hall] at h1
 unfold cost
 omega
end Bo
end Go.Proofs.YtiioegopckoldaaGreatDoor
