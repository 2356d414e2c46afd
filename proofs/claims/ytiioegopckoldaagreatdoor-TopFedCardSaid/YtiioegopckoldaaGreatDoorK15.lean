/- lemmas for topFed_holds: T02 HR1 HR2 HR3 HR4. No conditions. -/
import Derived.Test.YtiioegopckoldaaGreatDoorK09
import Derived.Test.YtiioegopckoldaaGreatDoorK14
import Derived.Handy
import Derived.Test.YtiioegopckoldaaGreatDoorK01
import Derived.Test.YtiioegopckoldaaGreatDoorK04
import Derived.Deep.RegionHeld
import Derived.Test.YtiioegopckoldaaGreatDoorK06
set_option linter.unusedVariables false
set_option linter.unusedSimpArgs false
namespace Go.Proofs.YtiioegopckoldaaGreatDoor
open Go.RowKit Go.Shelf
def shA:List Q4:=[⟨0,1,-9,-1⟩]
theorem svA:svOk 2 shA [] []=true:=by decide
theorem fitA:(solveF 2 (fun _=>false) shA []).2=true:=by decide
theorem runA:runsTo (solveF 2 (fun _=>false) shA []).1 [0,1] (2-1)=[2]:=by decide
def gaA:List Rc:=[⟨⟨5,5⟩,⟨0,0⟩,⟨0,0⟩⟩]
theorem flEA:flErr gaA ⟨3,8⟩ []=0:=by decide
theorem flLA:flL gaA ⟨3,8⟩ []=[⟨3,8⟩,⟨3,5⟩]:=by decide
set_option maxHeartbeats 4000000 in
set_option maxRecDepth 100000 in
theorem alive02_any (w:World):Calls Tryz.prog 147 #[] w fun e w'=>e= .returned (.bool true)∧Below w.heap.size w w':=by
 obtain⟨b1,w1,e1,ew1,r1,hb1⟩:=mk_row (cells:=Q4.cells) w #[.int .i64 0,.int .i64 1,.int .i64 (-9),.int .i64 (-1)] 306 shA rfl
 obtain⟨b2,w2,e2,ew2,r2,hb2⟩:=mk_row (cells:=icell) w1 #[.int .i64 0,.int .i64 1] 3 [0,1] rfl
 have hsv:SvAt w2 (some ⟨b1,0,none⟩) none none 1 0 0 shA [] []:=⟨(r1.below hb2).more hb2.size,Rd.nil _ _ _ _,Rd.nil _ _ _ _,rfl,rfl,rfl,by omega,by omega,by omega⟩
 have HB2:=hide (hb1.trans (hb2.mono hb1.size))
 have Hsv:=hide hsv;have R2:=hide r2
 clear hsv r1 r2 hb1 hb2
 go_enter Tryz.func147,Tryz.ntmps147
 go_wp2_with fail
 have h12:b1+1=b2:=by rw[←e2.out,←ew1.out,←e1.out];simp
 rw[ew1.out,e1.out,ew2.out,h12]
 clear ew1 e1 ew2 e2
 refine(levRuns_any 2 _ _ _ _ _ _ _ _ _ _ 2 _ shA [] [] [0,1] w2 Hsv.out svA fitA R2.out rfl (by omega) (by omega) (by decide)).mono ?_
 rintro e w3 ⟨v,rfl,ho,hb3⟩
 rw[runA] at ho
 obtain⟨A,cA,rfl,hr⟩:=ho.rd
 obtain⟨bA,oA,rfl,hbA,hcA⟩:=hr (by decide)
 have cu:=hcA 0 (.int .u8 2) rfl
 rw[Nat.add_zero] at cu
 have HB3:=hide (HB2.out.trans (hb3.mono HB2.out.size))
 have Hcu:=hide (show bA < w3.heap.size∧w3.cell? ⟨bA,oA,none⟩=some (.int .u8 2) from⟨hbA,cu⟩)
 clear ho hr hcA cu hb3 Hsv R2
 obtain⟨b4,w4,e4,ew4,r4,hb4⟩:=mk_row (cells:=Rc.cells) w3 #[.int .i64 5,.int .i64 5,.int .i64 0,.int .i64 0,.int .i64 0,.int .i64 0] 47 gaA rfl
 have R4:=hide r4;have HB4:=hide (HB3.out.trans (hb4.mono HB3.out.size));have H34:=hide hb4
 clear r4 hb4
 go_wp2_with fail
 rw[ew4.out,e4.out]
 clear ew4 e4
 refine(gflows_any _ none gaA ⟨3,8⟩ [] 1 _ 0 0 w4 rfl (by omega) R4.out rfl (by omega) (Rd.nil _ _ _ _)).mono ?_
 rintro e w5 ⟨vf,vl,rfl,o1,_,hb5⟩
 rw[flLA] at o1
 rw[flEA]
 obtain⟨F,cF,rfl,hr⟩:=o1.rd
 obtain⟨bF,oF,x,y,rfl,hbF,hxy,f0,f1⟩:=hr.sp (i:=1) (by decide)
 injection hxy with hxy
 injection hxy with hx hy
 subst hx hy
 have HB5:=hide (HB4.out.trans (hb5.mono HB4.out.size))
 have cu5:w5.cell? ⟨bA,oA,none⟩=some (.int .u8 2):=(hb5.cell (p:=⟨bA,oA,none⟩) (Nat.lt_of_lt_of_le Hcu.out.1 H34.out.size)).trans ((H34.out.cell (p:=⟨bA,oA,none⟩) Hcu.out.1).trans Hcu.out.2)
 have hstr:∀c,(convert 74 9 (.slice (some ⟨bA,oA,none⟩) 1 c)).run Tryz.prog w5= .ok (.string {data:=#[2] }) w5:=fun c=>by
  rw[run_convert_bytes_string w5 _ _ 5 _ _ _ Tryz.underlying74 Tryz.underlying5 Tryz.underlying9]
  rw[run_bytesToString w5 _ _ _ [2] (by simp[go_sem,cu5])]
  rfl
 clear o1 hr hb5 cu5
 go_wp2_with fail
 go_ret
 exact⟨rfl,HB5.out⟩
end Go.Proofs.YtiioegopckoldaaGreatDoor
namespace Go.Proofs.YtiioegopckoldaaGreatDoor
open Go.RowKit Go.Shelf
set_option maxHeartbeats 400000 in
theorem hin_from1 (x lo hi:Int) (p q:Nat) (w:World) (hp:w.cell? ⟨p,0,none⟩=some (.int .i64 lo)) (hq:w.cell? ⟨q,0,none⟩=some (.int .i64 hi)) :
 Calls Tryz.prog 230 #[.int .i64 x,.pointer (some ⟨p,0,none⟩),.pointer (some ⟨q,0,none⟩)] w fun e w'=>e= .returned (.bool (outB lo hi x))∧Below w.heap.size w w':=by
 by_cases h:x < lo
 all_goals
  go_enter Tryz.func230,Tryz.ntmps230
  go_wp2
  go_ret
  exact⟨by first | (simp[outB,h];done) | (simp[outB,h];omega),Below.refl _ _⟩
set_option maxHeartbeats 400000 in
theorem hin_from (lo hi:Int) (A:Option Addr) (xs:List Int) (n c:Nat) (w:World) (hn:n=xs.length) (hm:n≤9223372036854775807) (hx:Rd w w.heap.size icell A xs) :
 Calls Tryz.prog 190 #[.int .i64 lo,.int .i64 hi,.slice A n c] w fun e w'=>e= .returned (.bool (!(anyOut lo hi xs)))∧Below w.heap.size w w':=by
 have eg:∀args w,(callFunc 230 args).run Tryz.prog w= .ok (.enter 230 args) w:=enters_of Tryz.func230 (by kernel_rfl) rfl
 have hb1:Below w.heap.size w (w.alloc (.cells #[.int .i64 lo] 3)):=below_new _ _
 have hc1:(w.alloc (.cells #[.int .i64 lo] 3)).cell? ⟨w.heap.size,0,none⟩=some (.int .i64 lo):=cell_new _ _ _ _ _ rfl
 obtain⟨w1,Hw1⟩:∃w1,Hid (w.alloc (.cells #[.int .i64 lo] 3)=w1):=⟨_,hide rfl⟩
 rw[Hw1.out] at hb1 hc1
 have hs1:w1.heap.size=w.heap.size+1:=by rw[←Hw1.out];simp
 have hb2:Below w1.heap.size w1 (w1.alloc (.cells #[.int .i64 hi] 3)):=below_new _ _
 have hc2:(w1.alloc (.cells #[.int .i64 hi] 3)).cell? ⟨w1.heap.size,0,none⟩=some (.int .i64 hi):=cell_new _ _ _ _ _ rfl
 have hc1':=(hb2.cell (p:=⟨w.heap.size,0,none⟩) (by simp;omega)).trans hc1
 have hb3:=hb1.trans (hb2.mono hb1.size)
 have H:=hide (containsfunc_int 230 #[.pointer (some ⟨w.heap.size,0,none⟩),.pointer (some ⟨w1.heap.size,0,none⟩)] (outB lo hi) A xs n c (w1.alloc (.cells #[.int .i64 hi] 3)) hn hm eg
  ((hx.below hb3).more hb3.size)
  (fun x w' _ hb=>hin_from1 x lo hi w.heap.size w1.heap.size w' ((hb.cell (p:=⟨w.heap.size,0,none⟩) (by simp;omega)).trans hc1') ((hb.cell (p:=⟨w1.heap.size,0,none⟩) (by simp)).trans hc2)))
 rw[hs1] at H
 have Hb:=hide hb3
 clear hx hn hc1 hc2 hc1' hb1 hb2 hb3 eg
 go_enter Tryz.func190,Tryz.ntmps190
 go_wp2_with fail
 rw[Hw1.out]
 refine H.out.mono ?_
 rintro e w' ⟨rfl,hb⟩
 go_wp2
 go_ret
 exact⟨rfl,Hb.out.trans (hb.mono Hb.out.size)⟩
theorem hin_one (lo hi x:Int) (w1:World) (p:Nat) (hp:p=w1.heap.size):Calls Tryz.prog 190 #[.int .i64 lo,.int .i64 hi,.slice (some ⟨p,0,none⟩) 1 1] (w1.alloc (.cells #[.int .i64 x] 3)) fun e w'=>e= .returned (.bool (inB lo hi x))∧Below w1.heap.size w1 w':=by
 subst hp
 refine(hin_from lo hi _ [x] 1 1 _ rfl (by omega) (by simpa using Rd.new (cells:=icell) w1 #[.int .i64 x] 3 [x] rfl)).mono ?_
 rintro e w' ⟨rfl,hb⟩
 exact⟨ret_bool (channel_one_in lo hi x),(below_new w1 _).trans (hb.mono (by simp))⟩
theorem hin_two (lo hi x y:Int) (w1:World) (p:Nat) (hp:p=w1.heap.size):Calls Tryz.prog 190 #[.int .i64 lo,.int .i64 hi,.slice (some ⟨p,0,none⟩) 2 2] (w1.alloc (.cells #[.int .i64 x,.int .i64 y] 3)) fun e w'=>e= .returned (.bool (inB lo hi x && inB lo hi y))∧Below w1.heap.size w1 w':=by
 subst hp
 refine(hin_from lo hi _ [x,y] 2 2 _ rfl (by omega) (by simpa using Rd.new (cells:=icell) w1 #[.int .i64 x,.int .i64 y] 3 [x,y] rfl)).mono ?_
 rintro e w' ⟨rfl,hb⟩
 exact⟨ret_bool (channel_two_in lo hi x y),(below_new w1 _).trans (hb.mono (by simp))⟩
set_option maxHeartbeats 400000 in
theorem hin_proper (a b lo hi:Int) (w:World) :
 Calls Tryz.prog 233 #[.agg #[.int .i64 a,.int .i64 b],.int .i64 lo,.int .i64 hi] w fun e w'=>e= .returned (.bool (Sp.ok lo hi ⟨a,b⟩))∧Below w.heap.size w w':=by
 by_cases h:a≤b
 ·have hb0:Below w.heap.size w (w.alloc (.cells #[.int .i64 a,.int .i64 b] 24)):=below_new _ _
  go_enter Tryz.func233,Tryz.ntmps233
  go_wp2_with fail
  refine(hin_two lo hi a b _ _ (by simp)).mono ?_
  rintro e w' ⟨rfl,hb⟩
  go_wp2
  go_ret
  exact⟨ret_bool (by rw[Bool.eq_iff_iff];simp[inB,Sp.ok];omega),hb0.trans (hb.mono hb0.size)⟩
 ·go_enter Tryz.func233,Tryz.ntmps233
  go_wp2
  go_ret
  exact⟨ret_bool (by simp[Sp.ok];omega),below_new _ _⟩
theorem hminute_any (a b:Int) (w:World) :
 Calls Tryz.prog 192 #[.agg #[.int .i64 a,.int .i64 b]] w fun e w'=>e= .returned (.bool (Sp.ok (-100000) 100000 ⟨a,b⟩))∧Below w.heap.size w w':=by
 go_enter Tryz.func192,Tryz.ntmps192
 go_wp2_with fail
 refine(hin_proper a b (-100000) 100000 _).mono ?_
 rintro e w' ⟨rfl,hb⟩
 go_wp2
 go_ret
 exact⟨rfl,(below_new w _).trans (hb.mono (by simp))⟩
def hdownF (n:Int):Int:=if n < 0 then -((-n+1000-1).tdiv 1000) else n.tdiv 1000
theorem hdown_any (n:Int) (w:World) (h1: -1000000000000≤n) (h2:n≤1000000000000) :
 Calls Tryz.prog 229 #[.int .i64 n] w fun e w'=>e= .returned (.int .i64 (hdownF n))∧Below w.heap.size w w':=by
 by_cases h:n < 0
 ·have f1:IntKind.i64.wrap (-n)= -n:=wrapI (by omega)
  have f2:IntKind.i64.wrap (-n+1000)= -n+1000:=wrapI (by omega)
  have f3:IntKind.i64.wrap (-n+1000-1)= -n+1000-1:=wrapI (by omega)
  have hq: -1001000000000≤(-n+1000-1).tdiv 1000∧(-n+1000-1).tdiv 1000≤1001000000000:=by
   rw[Int.tdiv_eq_ediv_of_nonneg (by omega)]
   omega
  have f4:IntKind.i64.wrap ((-n+1000-1).tdiv 1000)=(-n+1000-1).tdiv 1000:=wrapI (by omega)
  have f5:IntKind.i64.wrap (-((-n+1000-1).tdiv 1000))= -((-n+1000-1).tdiv 1000):=wrapI (by omega)
  clear hq
  go_enter Tryz.func229,Tryz.ntmps229
  go_wp2
  go_ret
  exact⟨ret_int (by unfold hdownF;rw[if_pos h]),Below.refl _ _⟩
 ·have hq:0≤n.tdiv 1000∧n.tdiv 1000≤1000000000000:=by
   rw[Int.tdiv_eq_ediv_of_nonneg (by omega)]
   omega
  have f4:IntKind.i64.wrap (n.tdiv 1000)=n.tdiv 1000:=wrapI (by omega)
  clear hq
  go_enter Tryz.func229,Tryz.ntmps229
  go_wp2
  go_ret
  exact⟨ret_int (by unfold hdownF;rw[if_neg (by omega)]),Below.refl _ _⟩
theorem hsome_any (a b:Int) (w:World) :
 Calls Tryz.prog 256 #[.agg #[.int .i64 a,.int .i64 b]] w fun e w'=>e= .returned (.bool (decide (a≤b)))∧Below w.heap.size w w':=by
 go_enter Tryz.func256,Tryz.ntmps256
 go_wp2
 go_ret
 exact⟨rfl,below_new w _⟩
theorem hdownF_bd {n:Int} (h1: -1000000000000≤n) (h2:n≤1000000000000): -1001000000000≤hdownF n∧hdownF n≤1001000000000:=by
 unfold hdownF
 split
 ·rw[Int.tdiv_eq_ediv_of_nonneg (by omega)];omega
 ·rw[Int.tdiv_eq_ediv_of_nonneg (by omega)];omega
set_option maxHeartbeats 4000000 in
set_option maxRecDepth 100000 in
theorem hminutes_any (a b:Int) (w:World) (h1: -1000000000000≤a) (h2:a≤1000000000000) (h3: -1000000000000≤b) (h4:b≤1000000000000) :
 Calls Tryz.prog 188 #[.agg #[.int .i64 a,.int .i64 b]] w fun e w'=>e= .returned (.agg #[.int .i64 (hdownF a),.int .i64 (-(hdownF (-b)))])∧Below w.heap.size w w':=by
 obtain⟨b1,w1,e1,ew1,hx1,hb1,hz1⟩:=mk_bx w #[.int .i64 a,.int .i64 b] 295
 obtain⟨b2,w2,e2,ew2,hx,hb2,hz2⟩:=mk_bx w1 #[.int .i64 0,.int .i64 0] 24
 have hx:Bx w2 b2 [.int .i64 0,.int .i64 0]:=hx
 have Ha:=hide ((show At w1 b1 [.int .i64 a,.int .i64 b] from hx1.at_).below hb2)
 have hne:b1≠b2:=by have:=e2.out;omega
 have f1:IntKind.i64.wrap (-b)= -b:=wrapI (by omega)
 have f2:IntKind.i64.wrap (-(hdownF (-b)))= -(hdownF (-b)):=wrapI (by have:=hdownF_bd (n:= -b) (by omega) (by omega);omega)
 have HB:=hide (hb1.trans (hb2.mono hb1.size))
 have Hx:=hide hx
 have hlt:w.heap.size≤b2:=by have:=hb1.size;have:=e2.out;omega
 clear hx1 hb1 hb2 hx
 go_enter Tryz.func188,Tryz.ntmps188
 go_wp2_with fail
 have h12:b1+1=b2:=by rw[←e2.out,hz1]
 rw[ew1.out,e1.out,ew2.out,h12]
 have hx:=Hx.out
 refine wp_region_held_drew (S:=(fun W=>Kept (fun b=>b≠b2) w2 W)) (by kernel_rfl) (by(try dsimp only);exact Kept.all _ (Below.refl _ _).drew) (fun hHeld=>?_)
 have hdr:Below w2.heap.size w2 (World.drew w2):=(Below.refl _ _).drew
 generalize World.drew w2=Wd1 at hHeld hdr ⊢
 have hx:=hx.bel hdr
 have hbc:=Below.refl Wd1.heap.size Wd1
 iterate 2
  refine tkHl [0,3] ?_ rfl rfl (Or.inl ⟨by rfl,?_⟩) hHeld ?_
  rotate_left
  ·(intro w _;go_simp;try(with_reducible rfl))
  try simp only[Act.put,tl1,tl2,tl3]
 iterate 2
  refine tkHl [1,4] ?_ rfl rfl (Or.inl ⟨by rfl,?_⟩) hHeld ?_
  rotate_left
  ·(intro w hSw;(try dsimp only at hSw);obtain⟨z0,z1⟩:=(Ha.out.kept hSw hne).c2;go_simp;try(with_reducible rfl))
  try simp only[Act.put,tl1,tl2,tl3]
 refine tkH 5 ?_ rfl (Or.inl ⟨by rfl,?_⟩) hHeld ?_
 rotate_left
 ·(intro w _;go_simp;try(with_reducible rfl))
 try simp only[Act.put,tl1,tl2,tl3]
 refine wpAnyH_ready (rs:=[2]) (by kernel_rfl) (by simp) ?_
 refine AllReadyH.cons (o:=⟨_,_,_,_,_,_⟩) rfl (fun K hK=>?_) AllReadyH.nil
 go_simp
 refine(hdown_any _ _ (by omega) (by omega)).mono ?_
 rintro e V5 ⟨rfl,hb⟩
 go_wp2_with fail
 have hHeldN:=hHeld.trans (Kept.all _ hb)
 have hx:=hx.bel hb
 have hbc:=hbc.trans (hb.mono hbc.size)
 refine hK.out _ _ ?_ (fun hHeld2=>?_)
 ·exact hHeldN
 clear hK K hHeld hHeldN hb;have hHeld:=hHeld2;clear hHeld2
 try simp only[Act.put,tl1,tl2,tl3]
 refine wpAnyH_ready (rs:=[6]) (by kernel_rfl) (by simp) ?_
 refine AllReadyH.cons (o:=⟨_,_,_,_,_,_⟩) rfl (fun K hK=>?_) AllReadyH.nil
 go_simp
 refine(hdown_any _ _ (by omega) (by omega)).mono ?_
 rintro e V9 ⟨rfl,hb⟩
 go_wp2_with fail
 have hHeldN:=hHeld.trans (Kept.all _ hb)
 have hx:=hx.bel hb
 have hbc:=hbc.trans (hb.mono hbc.size)
 refine hK.out _ _ ?_ (fun hHeld2=>?_)
 ·exact hHeldN
 clear hK K hHeld hHeldN hb;have hHeld:=hHeld2;clear hHeld2
 try simp only[Act.put,tl1,tl2,tl3]
 iterate 2
  refine tkHl [7,8] ?_ rfl rfl (Or.inl ⟨by rfl,?_⟩) hHeld ?_
  rotate_left
  ·(intro w _;go_simp;try(with_reducible rfl))
  try simp only[Act.put,tl1,tl2,tl3]
 refine wpAnyH_ready (rs:=[9]) (by kernel_rfl) (by simp) ?_
 refine AllReadyH.cons (o:=⟨_,_,_,_,_,_⟩) rfl (fun K hK=>?_) AllReadyH.nil
 obtain⟨y0,y1,y2,y3⟩:=hx.w2
 have HX:=hide (hx.set2 (.int .i64 (hdownF a)) (.int .i64 (-(hdownF (-b)))))
 have HkF:=hide ((hHeld.trans (Kept.setCell _ ⟨b2,0,none⟩ (.int .i64 (hdownF a)))).trans (Kept.setCell _ ⟨b2,1,none⟩ (.int .i64 (-(hdownF (-b))))))
 clear hx
 go_simp
 refine hK.out _ _ ?_ (fun _=>?_)
 ·(try dsimp only);exact HkF.out
 clear hK K hHeld
 try simp only[Act.put,tl1,tl2,tl3]
 refine wpAnyH_done (by kernel_rfl) ?_ _
 obtain⟨k0,k1⟩:=HX.out.at_.c2
 have HB2:=hide (HB.out.trans (HkF.out.below (B:=w.heap.size) (fun c hc=>by show c≠b2;omega) HB.out.size))
 clear HX HkF y0 y1 y2 y3
 go_wp2_with fail
 refine bodyPost_ret (by simp[results,Tryz.results188,go_sem,k0,k1];try rfl) rfl ?_
 exact⟨rfl,HB2.out⟩
end Go.Proofs.YtiioegopckoldaaGreatDoor
namespace Go.Proofs.YtiioegopckoldaaGreatDoor
open Go.RowKit Go.Shelf
attribute [local go_sem] ite_min ite_max
def comF (a e:Sp):Sp:=⟨max a.lo e.lo,min a.hi e.hi⟩
def commonF (f:Sp) (l:List Sp):Sp:=l.foldl comF f
theorem common_next {f:Sp} {l:List Sp} {k:Nat} {x:Sp} (hx:l[k]?=some x):commonF f (l.take (k+1))=comF (commonF f (l.take k)) x:=by
 unfold commonF
 rw[take_snoc hx,List.foldl_append]
 rfl
set_option maxHeartbeats 4000000 in
set_option maxRecDepth 100000 in
theorem hcommon_any (a b:Int) (A:Option Addr) (l:List Sp) (n c:Nat) (w:World) (hA:Rd w w.heap.size Sp.cells A l) (hn:n=l.length) (hn2:n≤9223372036854775807) (hs:(commonF ⟨a,b⟩ l).lo≤(commonF ⟨a,b⟩ l).hi) :
 Calls Tryz.prog 228 #[.agg #[.int .i64 a,.int .i64 b],.slice A n c] w fun e w'=>e= .returned (.agg #[.int .i64 (commonF ⟨a,b⟩ l).lo,.int .i64 (commonF ⟨a,b⟩ l).hi])∧Below w.heap.size w w':=by
 obtain⟨b1,w1,e1,ew1,hx1,hb1,hz1⟩:=mk_bx w #[.int .i64 a,.int .i64 b] 295
 obtain⟨b2,w2,e2,ew2,hx2,hb2,hz2⟩:=mk_bx w1 #[.int .i64 0,.int .i64 0] 295
 have hx2:Bx w2 b2 [.int .i64 0,.int .i64 0]:=hx2
 have hx1:Bx w2 b1 [.int .i64 a,.int .i64 b]:=(show Bx w1 b1 [.int .i64 a,.int .i64 b] from hx1).bel hb2
 have hne:b1≠b2:=by have:=e2.out;omega
 have HB:=hide (hb1.trans (hb2.mono hb1.size))
 have hl1:w.heap.size≤b1:=by have:=e1.out;omega
 have hl2:w.heap.size≤b2:=by have:=hb1.size;have:=e2.out;omega
 have Hx1:=hide hx1;have Hx2:=hide hx2
 have HA:=hide (hA.below HB.out)
 have Hn:=hide hn;have Hs:=hide hs
 have h12:b1+1=b2:=by rw[←e2.out,hz1]
 have hlt1:b1 < w2.heap.size:=hx1.lt
 clear hx1 hx2 hb1 hb2 hA hn hs
 go_enter Tryz.func228,Tryz.ntmps228
 go_wp2_with fail
 rw[ew1.out,e1.out,ew2.out,h12]
 clear ew1 e1 ew2 e2 hz1 hz2 h12
 go_loopw [9] (fun i wr=>∃k:Nat,k≤n∧i= .int .i64 k∧Hid (Bx wr b1 [.int .i64 (commonF ⟨a,b⟩ (l.take k)).lo,.int .i64 (commonF ⟨a,b⟩ (l.take k)).hi])∧Kept (fun c=>c≠b1) w2 wr) (fun i _=>n-(intOf i).toNat)
 case atStart=>exact⟨0,by omega,rfl,Hx1,Kept.refl _ _⟩
 case round=>
  clear Hx1
  obtain⟨k,hk,rfl,hT,hkp⟩:=hrel
  by_cases hlt:k < n
  ·obtain⟨bl,off,x,y,rfl,hbl,hxk,c0,c1⟩:=(HA.out.keptR hkp (fun c hc=>by show c≠b1;omega) HB.out.size).sp (i:=k) (by have:=Hn.out;omega)
   have hnx:=common_next (f:=⟨a,b⟩) hxk
   obtain⟨⟨u,v⟩,hc⟩:∃cc,cc=commonF ⟨a,b⟩ (l.take k):=⟨_,rfl⟩
   have hTT:=hT.out
   rw[←hc] at hTT hnx
   obtain⟨b6,w6,e6,ew6,hx6,hb6,hz6⟩:=mk_bx wr #[.int .i64 x,.int .i64 y] 295
   have hx6:At w6 b6 [.int .i64 x,.int .i64 y]:=hx6.at_
   have hT6:=hTT.bel hb6
   have hset:=hT6.set2 (.int .i64 (max u x)) (.int .i64 (min v y))
   have hkk:Kept (fun c=>c≠b1) w2 ((w6.setCell ⟨b1,0,none⟩ (.int .i64 (max u x))).setCell ⟨b1,1,none⟩ (.int .i64 (min v y))):=((hkp.trans (Kept.all _ hb6)).trans (Kept.setCell _ ⟨b1,0,none⟩ _)).trans (Kept.setCell _ ⟨b1,1,none⟩ _)
   rw[←ew6.out] at hx6 hT6 hset hkk
   rw[←e6.out] at hx6
   obtain⟨p0,p1,y0,y1⟩:=hT6.w2
   obtain⟨z0,z1⟩:=hx6.c2
   have Hset:=hide (show Bx _ b1 [.int .i64 (commonF ⟨a,b⟩ (l.take (k+1))).lo,.int .i64 (commonF ⟨a,b⟩ (l.take (k+1))).hi] by rw[hnx];exact hset)
   have Hkk:=hide hkk
   clear hset hkk hx6 hT6 hTT hnx hc hxk hT ew6 e6 hb6 hz6 hkp
   go_wp2_with fail
   exact⟨⟨k+1,by omega,by go_num,Hset,Hkk.out⟩,by simp[intOf];omega⟩
  ·obtain rfl:n=k:=by omega
   have hT2:=hT.out
   rw[List.take_of_length_le (by have:=Hn.out;omega)] at hT2
   have hs:=Hs.out
   obtain⟨⟨u,v⟩,hc⟩:∃cc,cc=commonF ⟨a,b⟩ l:=⟨_,rfl⟩
   rw[←hc] at hT2 hs
   dsimp only at hT2 hs
   have Hc:=hide hc
   obtain⟨p0,p1,_,_⟩:=hT2.w2
   have HT2:=hide hT2
   have Hx22:=hide (Hx2.out.kept hkp (fun e=>hne e.symm))
   have HBk:=hide (HB.out.trans (hkp.below (fun c (hc:c < w.heap.size)=>by show c≠b1;omega) HB.out.size))
   have hd:decide (u≤v)=true:=decide_eq_true hs
   clear hT hT2 hc hkp
   go_wp2_with fail
   refine(hsome_any u v wr).mono ?_
   rintro e w5 ⟨rfl,hb5⟩
   rw[hd]
   obtain⟨r0,r1,y0,y1⟩:=(HT2.out.bel hb5).w2
   have hx5:=Hx22.out.bel hb5
   obtain⟨s0,s1,y2,y3⟩:=hx5.w2
   obtain⟨k0,k1⟩:=(hx5.set2 (.int .i64 u) (.int .i64 v)).at_.c2
   have HB5:=hide ((HBk.out.trans (hb5.mono HBk.out.size)).trans (((Kept.setCell w5 ⟨b2,0,none⟩ (.int .i64 u)).trans (Kept.setCell _ ⟨b2,1,none⟩ (.int .i64 v))).below (B:=w.heap.size) (fun c hc=>by show c≠b2;omega) (by have:=HBk.out.size;have:=hb5.size;omega)))
   clear p0 p1 hb5 hx5
   go_wp2_with fail
   refine bodyPost_ret (by simp[results,Tryz.results228,go_sem,k0,k1];try rfl) rfl ?_
   rw[←Hc.out]
   exact⟨rfl,HB5.out⟩
end Go.Proofs.YtiioegopckoldaaGreatDoor
namespace Go.Proofs.YtiioegopckoldaaGreatDoor
open Go.RowKit Go.Shelf
theorem hev1_any (a b:Int) (q:Nat) (w:World) (hq:w.cell? ⟨q,0,none⟩=some (.func (.func 192) #[] #[])) (hlt:q < w.heap.size) :
 Calls Tryz.prog 267 #[.agg #[.int .i64 a,.int .i64 b],.pointer (some ⟨q,0,none⟩)] w fun e w'=>e= .returned (.bool (!(Sp.ok (-100000) 100000 ⟨a,b⟩)))∧Below w.heap.size w w':=by
 have hq2:(w.alloc (.cells #[.int .i64 a,.int .i64 b] 24)).cell? ⟨q,0,none⟩=some (.func (.func 192) #[] #[]):=((below_new w _).cell (p:=⟨q,0,none⟩) hlt).trans hq
 go_enter Tryz.func267,Tryz.ntmps267
 go_wp2_with fail
 refine(hminute_any a b _).mono ?_
 rintro e w' ⟨rfl,hb⟩
 clear hq hq2
 go_wp2
 go_ret
 exact⟨rfl,bel2 hb⟩
theorem henters1:∀args w,(callFunc 267 args).run Tryz.prog w= .ok (.enter 267 args) w:=enters_of Tryz.func267 (by kernel_rfl) rfl
theorem hevery_any (A:Option Addr) (xs:List Sp) (n c:Nat) (w:World) (hn:n=xs.length) (hm:n≤9223372036854775807) (hx:Rd w w.heap.size Sp.cells A xs) :
 Calls Tryz.prog 249 #[.slice A n c,.func (.func 192) #[] #[]] w fun e w'=>e= .returned (.bool (!(xs.any fun x=>!(Sp.ok (-100000) 100000 x))))∧Below w.heap.size w w':=by
 obtain⟨b1,w1,e1,ew1,hx1,hb1,hz1⟩:=mk_bx w #[.func (.func 192) #[] #[]] 202
 have hx1:Bx w1 b1 [.func (.func 192) #[] #[]]:=hx1
 have H:=hide (containsfunc_Sp 267 #[.pointer (some ⟨b1,0,none⟩)] (fun x=>!(Sp.ok (-100000) 100000 x)) A xs n c w1 hn hm henters1 ((hx.below hb1).more hb1.size)
  (fun lo hi w' _ hb=>hev1_any lo hi b1 w' (hx1.bel hb).at_.c1 (hx1.bel hb).lt))
 have HB:=hide hb1
 clear hx hn hx1 hb1
 go_enter Tryz.func249,Tryz.ntmps249
 go_wp2_with fail
 rw[ew1.out,e1.out]
 refine H.out.mono ?_
 rintro e w' ⟨rfl,hb⟩
 go_wp2
 go_ret
 exact⟨rfl,HB.out.trans (hb.mono HB.out.size)⟩
theorem hindex_star (f:FuncId) (cp:Array Value) (w:World) :
 Calls Tryz.prog 280 #[.slice none 0 0,.func (.func f) #[] cp] w fun e w'=>e= .returned (.int .i64 (-1))∧Below w.heap.size w w':=by
 go_enter Tryz.func280,Tryz.ntmps280
 go_wp2_with fail
 go_loopw [4,8] (fun _ i wr=>i= .int .i64 0∧w=wr) (fun _ _ _=>0)
 case atStart=>exact⟨rfl,rfl⟩
 case round=>
  obtain⟨rfl,rfl⟩:=hrel
  go_wp2
  go_ret
  exact⟨rfl,Below.refl _ _⟩
theorem hcont_star (f:FuncId) (cp:Array Value) (w:World) :
 Calls Tryz.prog 268 #[.slice none 0 0,.func (.func f) #[] cp] w fun e w'=>e= .returned (.bool false)∧Below w.heap.size w w':=by
 go_enter Tryz.func268,Tryz.ntmps268
 go_wp2_with (go_at_call 280;refine(hindex_star f cp w).mono ?_;rintro e w' ⟨rfl,hb⟩)
 go_ret
 exact⟨rfl,hb⟩
theorem hevery_star (f:FuncId) (w:World):Calls Tryz.prog 250 #[.slice none 0 0,.func (.func f) #[] #[]] w fun e w'=>e= .returned (.bool true)∧Below w.heap.size w w':=by
 go_enter Tryz.func250,Tryz.ntmps250
 go_wp2_with fail
 refine(hcont_star _ _ _).mono ?_
 rintro e w' ⟨rfl,hb⟩
 go_wp2
 go_ret
 exact⟨rfl,bel2 hb⟩
theorem hCheck_one (A:Option Addr) (c:Nat) (m:Sp) (h0 h1 s0 s1:Int) (w:World) (hx:Rd w w.heap.size Sp.cells A [m]) (hm:Sp.ok (-100000) 100000 m=true) (hh:Sp.ok 0 60000 ⟨h0,h1⟩=true) (hs:Sp.ok 1000 100000 ⟨s0,s1⟩=true) :
 Calls Tryz.prog 219 #[.agg #[.slice A 1 c,.slice none 0 0,.int .i64 h0,.int .i64 h1,.int .i64 s0,.int .i64 s1]] w fun e w'=>e= .returned (.int .i64 0)∧Below w.heap.size w w':=by
 obtain⟨b1,w1,e1,ew1,hx1,hb1,hz1⟩:=mk_bx w #[.slice A 1 c,.slice none 0 0,.int .i64 h0,.int .i64 h1,.int .i64 s0,.int .i64 s1] 86
 have hx1:At w1 b1 [.slice A 1 c,.slice none 0 0,.int .i64 h0,.int .i64 h1,.int .i64 s0,.int .i64 s1]:=hx1.at_
 have HX:=hide ((hx.below hb1).more hb1.size)
 have HA:=hide hx1
 have Hb1:=hide hb1
 have Hm:=hide (show(!([m].any fun x=>!(Sp.ok (-100000) 100000 x)))=true by simp[hm])
 have Hh:=hide hh;have Hs:=hide hs
 clear hx hx1 hb1 hm hh hs
 go_enter Tryz.func219,Tryz.ntmps219
 obtain⟨q0,q1,q2,q3,q4,q5⟩:=(show At (w.alloc (.cells #[.slice A 1 c,.slice none 0 0,.int .i64 h0,.int .i64 h1,.int .i64 s0,.int .i64 s1] 86)) w.heap.size _ by rw[ew1.out,e1.out];exact HA.out).c6l
 go_wp2_with fail
 rw[ew1.out,e1.out]
 refine(hevery_any A [m] 1 c w1 rfl (by omega) HX.out).mono ?_
 rintro e w2 ⟨rfl,hb2⟩
 rw[Hm.out]
 have HB2:=hide (Hb1.out.trans (hb2.mono Hb1.out.size))
 have ha2:=HA.out.below hb2
 clear q0 q1 q2 q3 q4 q5
 obtain⟨q0,q1,q2,q3,q4,q5⟩:=ha2.c6l
 have HA2:=hide ha2
 clear ha2 hb2
 go_wp2_with fail
 refine(hevery_star _ w2).mono ?_
 rintro e w3 ⟨rfl,hb3⟩
 have HB3:=hide (HB2.out.trans (hb3.mono HB2.out.size))
 clear q0 q1 q2 q3 q4 q5
 obtain⟨q0,q1,q2,q3,q4,q5⟩:=(HA2.out.below hb3).c6l
 have HA3:=hide (HA2.out.below hb3)
 clear hb3
 go_wp2_with fail
 refine(hin_proper h0 h1 _ _ w3).mono ?_
 rintro e w4 ⟨rfl,hb4⟩
 rw[Hh.out]
 have HB4:=hide (HB3.out.trans (hb4.mono HB3.out.size))
 clear q0 q1 q2 q3 q4 q5
 obtain⟨q0,q1,q2,q3,q4,q5⟩:=(HA3.out.below hb4).c6l
 have HA4:=hide (HA3.out.below hb4)
 clear hb4
 go_wp2_with fail
 refine(hin_proper s0 s1 _ _ w4).mono ?_
 rintro e w5 ⟨rfl,hb5⟩
 rw[Hs.out]
 have HB5:=hide (HB4.out.trans (hb5.mono HB4.out.size))
 clear q0 q1 q2 q3 q4 q5
 obtain⟨q0,q1,q2,q3,q4,q5⟩:=(HA4.out.below hb5).c6l
 clear hb5
 go_wp2_with fail
 go_loopw [4] (fun i wr=>i= .int .i64 1∧w5=wr) (fun _ _=>0)
 case atStart=>exact⟨rfl,rfl⟩
 case round=>
  obtain⟨rfl,rfl⟩:=hrel
  go_wp2
  go_ret
  exact⟨rfl,HB5.out⟩
end Go.Proofs.YtiioegopckoldaaGreatDoor
namespace Go.Proofs.YtiioegopckoldaaGreatDoor
open Go.RowKit Go.Shelf
theorem hindex_turn (f:FuncId) (cp:Array Value) (J:Nat→World→Prop) (A:Option Addr) (xs:List Sp) (n c:Nat) (w:World) (hn:n=xs.length) (hm:n≤9223372036854775807)
 (eg:∀args w,(callFunc f args).run Tryz.prog w= .ok (.enter f args) w) (h0:J 0 w) (hJ:∀k w',J k w'→Rd w' w'.heap.size Sp.cells A xs)
 (hf:∀k lo hi w',xs[k]?=some (⟨lo,hi⟩:Sp)→J k w'→Calls Tryz.prog f (#[.agg #[.int .i64 lo,.int .i64 hi]] ++ cp) w' fun e w''=>e= .returned (.bool false)∧J (k+1) w'') :
 Calls Tryz.prog 193 #[.slice A n c,.func (.func f) #[] cp] w fun e w'=>e= .returned (.int .i64 (-1))∧J n w':=by
 have Hn:=hide hn;clear hn
 have HJ:=hide hJ;clear hJ
 have Hf:=hide hf;clear hf
 have H0:=hide h0;clear h0
 go_enter Tryz.func193,Tryz.ntmps193
 go_wp2_with fail
 go_loopw [4,8] (fun v i wr=>∃k:Nat,k≤n∧i= .int .i64 k∧Hid (J k wr)) (fun _ i _=>n-(intOf i).toNat)
 case atStart=>exact⟨0,by omega,rfl,H0⟩
 case round=>
  obtain⟨k,hk,rfl,hj⟩:=hrel
  by_cases hlt:k < n
  ·obtain⟨b,off,lo,hi,rfl,hB,hxk,hc0,hc1⟩:=(HJ.out k _ hj.out).sp (i:=k) (by have:=Hn.out;omega)
   have H:=hide (Hf.out k lo hi wr hxk hj.out)
   clear hxk
   go_wp2_with (go_at_fn f;refine H.out.mono ?_;rintro e w' ⟨rfl,hj'⟩;have Hj2:=hide hj';clear hj')
   exact⟨⟨k+1,by omega,by go_num,Hj2⟩,by simp[intOf];omega⟩
  ·obtain rfl:n=k:=by omega
   go_wp2
   go_ret
   exact⟨rfl,hj.out⟩
theorem hon1_any (f t L:Int) (q:Nat) (w:World) (hq:Bx w q [.int .i64 L]) (h1:inB L 23040 f=true) (h2:inB (f+1) 23040 t=true) (hL:0≤L) :
 Calls Tryz.prog 189 #[.agg #[.int .i64 f,.int .i64 t],.pointer (some ⟨q,0,none⟩)] w fun e w'=>e= .returned (.bool true)∧Bx w' q [.int .i64 t]∧Kept (fun b=>b≠q) w w':=by
 obtain⟨b1,w1,e1,ew1,hx1,hb1,hz1⟩:=mk_bx w #[.int .i64 f,.int .i64 t] 61
 have hx1:At w1 b1 [.int .i64 f,.int .i64 t]:=hx1.at_
 have hq1:=hq.bel hb1
 have Hq1:=hide hq1;have Hx1:=hide hx1;have Hb1:=hide hb1
 have H1:=hide h1;have H2:=hide h2
 have hf:L≤f∧f≤23040:=by simpa[inB] using h1
 have f1:IntKind.i64.wrap (f+1)=f+1:=wrapI (by omega)
 rw[←ew1.out] at hx1 hq1
 rw[←e1.out] at hx1
 obtain⟨z0,z1⟩:=hx1.c2
 have q0:=hq1.at_.c1
 clear hx1 hq1 hb1 h1 h2 hq
 go_enter Tryz.func189,Tryz.ntmps189
 go_wp2_with fail
 rw[ew1.out,e1.out]
 refine(hin_one L 23040 f w1 _ hz1.symm).mono ?_
 rintro e w2 ⟨rfl,hb2⟩
 rw[H1.out]
 have Hb2:=hide hb2
 clear z0 z1 q0
 obtain⟨z0,z1⟩:=(Hx1.out.below hb2).c2
 clear hb2
 go_wp2_with fail
 refine(hin_one (f+1) 23040 t w2 _ rfl).mono ?_
 rintro e w3 ⟨rfl,hb3⟩
 rw[H2.out]
 have Hb3:=hide (Hb2.out.trans (hb3.mono Hb2.out.size))
 clear z0 z1 hb3
 obtain⟨z0,z1⟩:=(Hx1.out.below Hb3.out).c2
 have hq3:=Hq1.out.bel Hb3.out
 have q0:=hq3.at_.c1
 have q1:=hq3.fz 0
 have HS:=hide (show Bx (w3.setCell ⟨q,0,none⟩ (.int .i64 t)) q [.int .i64 t] by simpa using hq3.set (j:=0) (.int .i64 t) (by simp))
 have HK:=hide (show Kept (fun b=>b≠q) w (w3.setCell ⟨q,0,none⟩ (.int .i64 t)) from((Kept.all _ Hb1.out).trans (Kept.all _ Hb3.out)).trans (Kept.setCell _ ⟨q,0,none⟩ _))
 clear hq3
 go_wp2
 go_ret
 exact⟨rfl,HS.out,HK.out⟩
end Go.Proofs.YtiioegopckoldaaGreatDoor
