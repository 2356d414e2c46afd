/- lemmas for topFed_holds: S10. No conditions. -/
import Derived.Test.YtiioegopckoldaaGreatDoorK29
import Derived.Deep.RegionHeld3
set_option linter.unusedVariables false
set_option linter.unusedSimpArgs false
namespace Go.Proofs.YtiioegopckoldaaGreatDoor
open Go.RowKit Go.Shelf
attribute [local go_sem] ite_min ite_max
end Go.Proofs.YtiioegopckoldaaGreatDoor
namespace Go.Proofs.YtiioegopckoldaaGreatDoor
open Go.RowKit Go.Shelf
end Go.Proofs.YtiioegopckoldaaGreatDoor
namespace Go.Proofs.YtiioegopckoldaaGreatDoor
open Go.RowKit Go.Shelf
theorem keepF {p q:Nat} {w W W':World} {a0 a1 li cr m0 m1 w0 w1 r0 r1:Int} (hb:Below W.heap.size W W') (h:W.cell? ⟨p,0,none⟩=some (.int .i64 a0)∧W.cell? ⟨p,1,none⟩=some (.int .i64 a1)∧W.cell? ⟨p,2,none⟩=some (.int .i64 li)∧W.cell? ⟨p,3,none⟩=some (.int .i64 cr)∧W.cell? ⟨p,4,none⟩=some (.int .i64 m0)∧W.cell? ⟨p,5,none⟩=some (.int .i64 m1)∧W.cell? ⟨p,6,none⟩=some (.int .i64 w0)∧W.cell? ⟨p,7,none⟩=some (.int .i64 w1)∧W.cell? ⟨p,8,none⟩=some (.int .i64 r0)∧W.cell? ⟨p,9,none⟩=some (.int .i64 r1)∧W.cell? ⟨q,2,none⟩=some (.int .i64 li)∧p < W.heap.size∧q < W.heap.size∧Below w.heap.size w W):W'.cell? ⟨p,0,none⟩=some (.int .i64 a0)∧W'.cell? ⟨p,1,none⟩=some (.int .i64 a1)∧W'.cell? ⟨p,2,none⟩=some (.int .i64 li)∧W'.cell? ⟨p,3,none⟩=some (.int .i64 cr)∧W'.cell? ⟨p,4,none⟩=some (.int .i64 m0)∧W'.cell? ⟨p,5,none⟩=some (.int .i64 m1)∧W'.cell? ⟨p,6,none⟩=some (.int .i64 w0)∧W'.cell? ⟨p,7,none⟩=some (.int .i64 w1)∧W'.cell? ⟨p,8,none⟩=some (.int .i64 r0)∧W'.cell? ⟨p,9,none⟩=some (.int .i64 r1)∧W'.cell? ⟨q,2,none⟩=some (.int .i64 li)∧p < W'.heap.size∧q < W'.heap.size∧Below w.heap.size w W':=by
 obtain⟨h0,h1,h2,h3,h4,h5,h6,h7,h8,h9,h10,hp,hq,hB⟩:=h
 exact⟨(hb.cell (by simp only[];omega)).trans h0,(hb.cell (by simp only[];omega)).trans h1,(hb.cell (by simp only[];omega)).trans h2,(hb.cell (by simp only[];omega)).trans h3,(hb.cell (by simp only[];omega)).trans h4,(hb.cell (by simp only[];omega)).trans h5,(hb.cell (by simp only[];omega)).trans h6,(hb.cell (by simp only[];omega)).trans h7,(hb.cell (by simp only[];omega)).trans h8,(hb.cell (by simp only[];omega)).trans h9,(hb.cell (by simp only[];omega)).trans h10,Nat.lt_of_lt_of_le hp hb.size,Nat.lt_of_lt_of_le hq hb.size,hB.trans (hb.mono hB.size)⟩
theorem lastF {p q:Nat} {w W:World} {a0 a1 li cr m0 m1 w0 w1 r0 r1:Int} (h:W.cell? ⟨p,0,none⟩=some (.int .i64 a0)∧W.cell? ⟨p,1,none⟩=some (.int .i64 a1)∧W.cell? ⟨p,2,none⟩=some (.int .i64 li)∧W.cell? ⟨p,3,none⟩=some (.int .i64 cr)∧W.cell? ⟨p,4,none⟩=some (.int .i64 m0)∧W.cell? ⟨p,5,none⟩=some (.int .i64 m1)∧W.cell? ⟨p,6,none⟩=some (.int .i64 w0)∧W.cell? ⟨p,7,none⟩=some (.int .i64 w1)∧W.cell? ⟨p,8,none⟩=some (.int .i64 r0)∧W.cell? ⟨p,9,none⟩=some (.int .i64 r1)∧W.cell? ⟨q,2,none⟩=some (.int .i64 li)∧p < W.heap.size∧q < W.heap.size∧Below w.heap.size w W):Below w.heap.size w W:=by
 obtain⟨h0,h1,h2,h3,h4,h5,h6,h7,h8,h9,h10,hp,hq,hB⟩:=h
 exact hB
def fineF (s:So) (v:Int):Bool:=decide (saltedF true s v≤1000*s.limit)
set_option maxHeartbeats 8000000 in
set_option maxRecDepth 100000 in
theorem fine_any (a0 a1 li cr m0 m1 w0 w1 r0 r1 v:Int) (p q:Nat) (w:World) (hp:At w p [.int .i64 a0,.int .i64 a1,.int .i64 li,.int .i64 cr,.int .i64 m0,.int .i64 m1,.int .i64 w0,.int .i64 w1,.int .i64 r0,.int .i64 r1]) (hq:w.cell? ⟨q,2,none⟩=some (.int .i64 li)) (hql:q < w.heap.size) (hf:So.fit 100000000 ⟨⟨a0,a1⟩,li,cr,⟨m0,m1⟩,⟨w0,w1⟩,⟨r0,r1⟩⟩) (hli:0≤li∧li≤100000000) (h0:0≤v) (h1:v≤1000000000) :
 Calls Tryz.prog 42 #[.int .i64 v,.pointer (some ⟨p,0,none⟩),.pointer (some ⟨q,0,none⟩)] w fun e w'=>e= .returned (.bool (fineF ⟨⟨a0,a1⟩,li,cr,⟨m0,m1⟩,⟨w0,w1⟩,⟨r0,r1⟩⟩ v))∧Below w.heap.size w w':=by
 have HcB:=hide (show w.drew.cell? ⟨p,0,none⟩=some (.int .i64 a0)∧w.drew.cell? ⟨p,1,none⟩=some (.int .i64 a1)∧w.drew.cell? ⟨p,2,none⟩=some (.int .i64 li)∧w.drew.cell? ⟨p,3,none⟩=some (.int .i64 cr)∧w.drew.cell? ⟨p,4,none⟩=some (.int .i64 m0)∧w.drew.cell? ⟨p,5,none⟩=some (.int .i64 m1)∧w.drew.cell? ⟨p,6,none⟩=some (.int .i64 w0)∧w.drew.cell? ⟨p,7,none⟩=some (.int .i64 w1)∧w.drew.cell? ⟨p,8,none⟩=some (.int .i64 r0)∧w.drew.cell? ⟨p,9,none⟩=some (.int .i64 r1)∧w.drew.cell? ⟨q,2,none⟩=some (.int .i64 li)∧p < w.drew.heap.size∧q < w.drew.heap.size∧Below w.heap.size w w.drew from by
  obtain⟨q0,q1,q2,q3,q4,q5,q6,q7,q8,q9⟩:=hp.c10
  exact⟨q0,q1,q2,q3,q4,q5,q6,q7,q8,q9,hq,hp.1,hql,(Below.refl _ _).drew⟩)
 have Hf:=hide (hf.mono (B':=100000000000000) (by omega))
 clear hp hq hql hf
 obtain⟨z,hz⟩:∃z,z=saltedF true ⟨⟨a0,a1⟩,li,cr,⟨m0,m1⟩,⟨w0,w1⟩,⟨r0,r1⟩⟩ v:=⟨_,rfl⟩
 have hfin:fineF ⟨⟨a0,a1⟩,li,cr,⟨m0,m1⟩,⟨w0,w1⟩,⟨r0,r1⟩⟩ v=decide (z≤1000*li):=by rw[hz];rfl
 rw[hfin]
 have Hz:=hide hz;clear hz hfin
 go_enter Tryz.func42,Tryz.ntmps42
 go_wp2_with fail
 go_region_held3 (fun W=>W.cell? ⟨p,0,none⟩=some (.int .i64 a0)∧W.cell? ⟨p,1,none⟩=some (.int .i64 a1)∧W.cell? ⟨p,2,none⟩=some (.int .i64 li)∧W.cell? ⟨p,3,none⟩=some (.int .i64 cr)∧W.cell? ⟨p,4,none⟩=some (.int .i64 m0)∧W.cell? ⟨p,5,none⟩=some (.int .i64 m1)∧W.cell? ⟨p,6,none⟩=some (.int .i64 w0)∧W.cell? ⟨p,7,none⟩=some (.int .i64 w1)∧W.cell? ⟨p,8,none⟩=some (.int .i64 r0)∧W.cell? ⟨p,9,none⟩=some (.int .i64 r1)∧W.cell? ⟨q,2,none⟩=some (.int .i64 li)∧p < W.heap.size∧q < W.heap.size∧Below w.heap.size w W) (first | assumption | exact HcB.out | (refine keepF hb ?_;assumption)) (first | (go_at_call 44;refine(high_any _).mono ?_;rintro e w' ⟨rfl,hb⟩) | (go_at_call 45;refine(low_any _).mono ?_;rintro e w' ⟨rfl,hb⟩) | (go_at_call 43;refine(salted_high a0 a1 li cr m0 m1 w0 w1 r0 r1 v _ Hf.out h0 h1).mono ?_;rintro e w' ⟨rfl,hb⟩;rw[←Hz.out]))
 all_goals
  go_wp2_with fail
  go_ret
  exact⟨ret_bool (by rw[show IntKind.i64.wrap (1000*li)=1000*li by rw[IntKind.wrap_i64];omega]),lastF (by assumption)⟩
set_option maxHeartbeats 1000000 in
theorem least_fn (f:FuncId) (cp:Array Value) (so:Int→Bool) (lo hi:Int) (w:World) (eg:∀args w,(callFunc f args).run Tryz.prog w= .ok (.enter f args) w) (hlo:0≤lo) (hle:lo≤hi+1) (hhi:hi≤1000000000000)
 (hf:∀x w',lo≤x→x≤hi→Below w.heap.size w w'→Calls Tryz.prog f (#[.int .i64 x] ++ cp) w' fun e w''=>e= .returned (.bool (so x))∧Below w'.heap.size w' w'')
 (hmono:∀x y,lo≤x→x≤y→y≤hi→so x=true→so y=true) :
 Calls Tryz.prog 46 #[.int .i64 lo,.int .i64 hi,.func (.func f) #[] cp] w fun e w'=>∃r:Int,e= .returned (.int .i64 r)∧lo≤r∧r≤hi+1∧(∀x,lo≤x→x < r→so x=false)∧(r≤hi→so r=true)∧Below w.heap.size w w':=by
 have Hf:=hide hf;have Hm:=hide hmono;clear hf hmono
 go_enter Tryz.func46,Tryz.ntmps46
 go_wp2_with fail
 go_loopw [0,1] (fun a b wr=>∃l h:Int,a= .int .i64 l∧b= .int .i64 h∧lo≤l∧l≤h∧h≤hi+1∧Hid (∀x,lo≤x→x < l→so x=false)∧Hid (h≤hi→so h=true)∧Below w.heap.size w wr) (fun a b _=>(intOf b-intOf a).toNat)
 case atStart=>exact⟨lo,hi+1,rfl,by go_num,by omega,by omega,by omega,hide (fun x h1 h2=>by omega),hide (fun h=>by omega),Below.refl _ _⟩
 case round=>
  obtain⟨l,h,rfl,rfl,h1,h2,h3,ha,hb,hB⟩:=hrel
  by_cases hlt:l < h
  ·obtain⟨m,hm⟩:∃m,m=l+(h-l) / 2:=⟨_,rfl⟩
   have hm1:l≤m∧m < h:=by omega
   have hm2:lo≤l+(h-l) / 2∧l+(h-l) / 2≤hi:=by omega
   have H:=hide (Hf.out (l+(h-l) / 2) wr hm2.1 hm2.2 hB)
   cases hs:so (l+(h-l) / 2)
   all_goals
    have Hs:=hide hs
    rw[hs] at H
    clear hs
    go_wp2_with (go_at_fn f;refine H.out.mono ?_;rintro e w' ⟨rfl,hb'⟩)
   ·refine⟨⟨_,h,rfl,rfl,by go_num,by go_num,h3,hide (fun x h4 h5=>?_),hb,hB.trans (hb'.mono hB.size)⟩,by simp[intOf];omega⟩
    rcases Bool.eq_false_or_eq_true (so x) with e | e
    ·have:=Hm.out x (l+(h-l) / 2) h4 (by omega) hm2.2 e
     rw[Hs.out] at this
     cases this
    ·exact e
   ·exact⟨⟨l,_,rfl,rfl,h1,by omega,by omega,ha,hide (fun _=>Hs.out),hB.trans (hb'.mono hB.size)⟩,by simp[intOf];omega⟩
  ·obtain rfl:l=h:=by omega
   go_wp2
   go_ret
   exact⟨l,rfl,h1,h3,ha.out,hb.out,hB⟩
theorem enters_need2:∀args w,(callFunc 47 args).run Tryz.prog w= .ok (.enter 47 args) w:=enters_of Tryz.func47 (by kernel_rfl) rfl
def soF (s:So) (x:Int):Bool:=decide (s.mineral.hi < s.wash.lo) && fineF s x
set_option maxHeartbeats 2000000 in
theorem need2_any (a0 a1 li cr m0 m1 w0 w1 r0 r1 v:Int) (p q r:Nat) (w:World) (hp:At w p [.int .i64 a0,.int .i64 a1,.int .i64 li,.int .i64 cr,.int .i64 m0,.int .i64 m1,.int .i64 w0,.int .i64 w1,.int .i64 r0,.int .i64 r1]) (hq:At w q [.int .i64 a0,.int .i64 a1,.int .i64 li,.int .i64 cr,.int .i64 m0,.int .i64 m1,.int .i64 w0,.int .i64 w1,.int .i64 r0,.int .i64 r1]) (hr:At w r [.func (.func 42) #[] #[.pointer (some ⟨p,0,none⟩),.pointer (some ⟨q,0,none⟩)]]) (hf:So.fit 100000000 ⟨⟨a0,a1⟩,li,cr,⟨m0,m1⟩,⟨w0,w1⟩,⟨r0,r1⟩⟩) (hli:0≤li∧li≤100000000) (h0:0≤v) (h1:v≤1000000000) :
 Calls Tryz.prog 47 #[.int .i64 v,.pointer (some ⟨q,0,none⟩),.pointer (some ⟨r,0,none⟩)] w fun e w'=>e= .returned (.bool (soF ⟨⟨a0,a1⟩,li,cr,⟨m0,m1⟩,⟨w0,w1⟩,⟨r0,r1⟩⟩ v))∧Below w.heap.size w w':=by
 have H:=hide (fine_any a0 a1 li cr m0 m1 w0 w1 r0 r1 v p q w hp hq.c10.2.2.1 hq.1 hf hli h0 h1)
 obtain⟨q0,q1,q2,q3,q4,q5,q6,q7,q8,q9⟩:=hq.c10
 have z0:=hr.c1
 clear hp hq hr hf
 obtain⟨fi,hfi⟩:∃fi,fi=fineF ⟨⟨a0,a1⟩,li,cr,⟨m0,m1⟩,⟨w0,w1⟩,⟨r0,r1⟩⟩ v:=⟨_,rfl⟩
 have hso:soF ⟨⟨a0,a1⟩,li,cr,⟨m0,m1⟩,⟨w0,w1⟩,⟨r0,r1⟩⟩ v=(decide (m1 < w0) && fi):=by rw[hfi];rfl
 rw[hso]
 rw[←hfi] at H
 clear hso hfi
 by_cases hmw:m1 < w0
 all_goals
  go_enter Tryz.func47,Tryz.ntmps47
  go_wp2_with (go_at_call 42;refine H.out.mono ?_;rintro e w' ⟨rfl,hb⟩)
  go_ret
  first | exact⟨ret_bool (by simp[hmw]),hb⟩ | exact⟨ret_bool (by simp;intro h;omega),Below.refl _ _⟩
def needR (s:So):Int×Int:=
 if fineF s s.crop then(s.crop,0) else if s.wash.lo≤s.mineral.hi then(0,6) else
  let n:=s.crop+(saltedF true s s.crop-1000*s.limit+(s.wash.lo-s.mineral.hi)-1) / (s.wash.lo-s.mineral.hi)
  if n≤1000000000 then(n,0) else(0,6)
def needF (s:So):Int×Int:=if soOk s then needR s else(0,60)
theorem salted_past {s:So} {x:Int} (h:s.crop≤x):saltedF true s x=saltedF true s s.crop-(x-s.crop)*(s.wash.lo-s.mineral.hi):=by
 have e1:max 0 (x-s.crop)=x-s.crop:=by omega
 have e2:max 0 (s.crop-s.crop)=0:=by omega
 simp only[saltedF,Sp.at,Bool.not_true,Bool.false_eq_true,if_false,if_true,e1,e2,Int.zero_mul,Int.sub_mul,Int.mul_sub]
 omega
theorem fine_iff {s:So} {x:Int} (h:s.crop≤x) (hm:s.mineral.hi < s.wash.lo) (hn:fineF s s.crop=false) :
 fineF s x=true↔s.crop+(saltedF true s s.crop-1000*s.limit+(s.wash.lo-s.mineral.hi)-1) / (s.wash.lo-s.mineral.hi)≤x:=by
 have hp:0 < s.wash.lo-s.mineral.hi:=by omega
 have e:=salted_past h
 simp only[fineF,decide_eq_true_eq,e]
 generalize s.wash.lo-s.mineral.hi=m at *
 generalize saltedF true s s.crop=F at *
 have key:(F-1000*s.limit+m-1) / m≤x-s.crop↔F-1000*s.limit≤(x-s.crop)*m:=by
  rw[show(F-1000*s.limit+m-1) / m≤x-s.crop↔(F-1000*s.limit+m-1) / m < x-s.crop+1 by omega,Int.ediv_lt_iff_lt_mul hp,Int.add_mul]
  omega
 generalize (x-s.crop)*m=P at *
 generalize (F-1000*s.limit+m-1) / m=D at *
 omega
theorem soF_mono {s:So} (hn:fineF s s.crop=false):∀x y:Int,s.crop≤x→x≤y→y≤1000000000→soF s x=true→soF s y=true:=by
 intro x y h1 h2 _ h
 simp only[soF,Bool.and_eq_true,decide_eq_true_eq] at h ⊢
 have h3:=(fine_iff h1 h.1 hn).1 h.2
 exact⟨h.1,(fine_iff (by omega) h.1 hn).2 (by omega)⟩
theorem need_of {s:So} {r:Int} (hn:fineF s s.crop=false) (h1:s.crop≤r) (h2:r≤1000000000+1) (h3:∀x,s.crop≤x→x < r→soF s x=false) (h4:r≤1000000000→soF s r=true) :
 (if 1000000000 < r then((0,6):Int×Int) else(r,0))=needR s:=by
 unfold needR
 rw[hn]
 simp only[Bool.false_eq_true,if_false]
 by_cases hm:s.wash.lo≤s.mineral.hi
 ·rw[if_pos hm]
  by_cases hr:1000000000 < r
  ·rw[if_pos hr]
  ·have:=h4 (by omega)
   simp[soF] at this
   omega
 ·rw[if_neg hm]
  have hm':s.mineral.hi < s.wash.lo:=by omega
  have hi:∀x,s.crop≤x→(soF s x=true↔s.crop+(saltedF true s s.crop-1000*s.limit+(s.wash.lo-s.mineral.hi)-1) / (s.wash.lo-s.mineral.hi)≤x):=fun x hx=>by
   rw[←fine_iff hx hm' hn]
   simp[soF,hm']
  generalize hN:s.crop+(saltedF true s s.crop-1000*s.limit+(s.wash.lo-s.mineral.hi)-1) / (s.wash.lo-s.mineral.hi)=N at *
  have hNc:s.crop≤N:=by
   by_cases hc:N≤s.crop
   ·have:=(hi s.crop (by omega)).2 hc
    simp[soF,hn] at this
   ·omega
  by_cases hr:1000000000 < r
  ·rw[if_pos hr,if_neg]
   intro hle
   have:=h3 N hNc (by omega)
   rw[(hi N hNc).2 (Int.le_refl _)] at this
   cases this
  ·have hle:=(hi r h1).1 (h4 (by omega))
   have hre:r=N:=by
    by_cases hlt:N < r
    ·have:=h3 N hNc hlt
     rw[(hi N hNc).2 (Int.le_refl _)] at this
     cases this
    ·omega
   rw[if_neg hr,if_pos (by omega),hre]
end Go.Proofs.YtiioegopckoldaaGreatDoor
namespace Go.Proofs.YtiioegopckoldaaGreatDoor
open Go.RowKit Go.Shelf
theorem So.limit_of {s:So} (h:soOk s=true):0≤s.limit∧s.limit≤100000000:=by
 simp[soOk,Sp.ok,inB] at h
 omega
set_option maxHeartbeats 8000000 in
set_option maxRecDepth 100000 in
theorem need_fn (a0 a1 li cr m0 m1 w0 w1 r0 r1:Int) (w:World) :
 Calls Tryz.prog 15 #[.agg #[.int .i64 a0,.int .i64 a1,.int .i64 li,.int .i64 cr,.int .i64 m0,.int .i64 m1,.int .i64 w0,.int .i64 w1,.int .i64 r0,.int .i64 r1]] w fun e w'=>e= .returned (.tuple #[.int .i64 (needF ⟨⟨a0,a1⟩,li,cr,⟨m0,m1⟩,⟨w0,w1⟩,⟨r0,r1⟩⟩).1,.int .i64 (needF ⟨⟨a0,a1⟩,li,cr,⟨m0,m1⟩,⟨w0,w1⟩,⟨r0,r1⟩⟩).2])∧Below w.heap.size w w':=by
 obtain⟨w3,Hw3⟩:∃w3,Hid (w.alloc (.cells #[.int .i64 a0,.int .i64 a1,.int .i64 li,.int .i64 cr,.int .i64 m0,.int .i64 m1,.int .i64 w0,.int .i64 w1,.int .i64 r0,.int .i64 r1] 51)=w3):=⟨_,hide rfl⟩
 have hB:Below w.heap.size w w3:=by rw[←Hw3.out];exact below_new _ _
 have hs:At w3 w.heap.size [.int .i64 a0,.int .i64 a1,.int .i64 li,.int .i64 cr,.int .i64 m0,.int .i64 m1,.int .i64 w0,.int .i64 w1,.int .i64 r0,.int .i64 r1]:=by rw[←Hw3.out];exact At.new w #[.int .i64 a0,.int .i64 a1,.int .i64 li,.int .i64 cr,.int .i64 m0,.int .i64 m1,.int .i64 w0,.int .i64 w1,.int .i64 r0,.int .i64 r1] _ w.heap.size rfl _ rfl
 have hck:=hide (salt_check a0 a1 li cr m0 m1 w0 w1 r0 r1 w3)
 cases h0:soOk ⟨⟨a0,a1⟩,li,cr,⟨m0,m1⟩,⟨w0,w1⟩,⟨r0,r1⟩⟩
 ·have hce:soCheck ⟨⟨a0,a1⟩,li,cr,⟨m0,m1⟩,⟨w0,w1⟩,⟨r0,r1⟩⟩=60:=by simp[soCheck,h0]
  have hae:needF ⟨⟨a0,a1⟩,li,cr,⟨m0,m1⟩,⟨w0,w1⟩,⟨r0,r1⟩⟩=(0,60):=by simp[needF,h0]
  have Hce:=hide hce
  rw[hae]
  clear hae hce h0
  go_enter Tryz.func15,Tryz.ntmps15
  go_wp2_with fail
  rw[Hw3.out]
  refine hck.out.mono ?_
  rintro e w' ⟨rfl,hb⟩
  rw[Hce.out]
  go_wp2
  go_ret2
  exact⟨rfl,hB.trans (hb.mono hB.size)⟩
 ·have hce:soCheck ⟨⟨a0,a1⟩,li,cr,⟨m0,m1⟩,⟨w0,w1⟩,⟨r0,r1⟩⟩=0:=by simp[soCheck,h0]
  have hfit:=So.fit_of h0
  have hlim:=So.limit_of h0
  have hnf:needF ⟨⟨a0,a1⟩,li,cr,⟨m0,m1⟩,⟨w0,w1⟩,⟨r0,r1⟩⟩=needR ⟨⟨a0,a1⟩,li,cr,⟨m0,m1⟩,⟨w0,w1⟩,⟨r0,r1⟩⟩:=by simp[needF,h0]
  rw[hnf]
  have hcr:0≤cr∧cr≤1000000000:=hfit.cr
  have hli:0≤li∧li≤100000000:=hlim
  have H0:=hide h0;have Hce:=hide hce;have Hfit:=hide hfit;clear h0 hce hfit hlim hnf
  cases hfc:fineF ⟨⟨a0,a1⟩,li,cr,⟨m0,m1⟩,⟨w0,w1⟩,⟨r0,r1⟩⟩ cr
  all_goals
   have Hfc:=hide hfc;clear hfc
   go_enter Tryz.func15,Tryz.ntmps15
   go_wp2_with fail
   rw[Hw3.out]
   refine hck.out.mono ?_
   rintro e w4 ⟨rfl,hb⟩
   rw[Hce.out]
   have hs4:=hs.below hb
   obtain⟨q0,q1,q2,q3,q4,q5,q6,q7,q8,q9⟩:=hs4.c10
   obtain⟨w5,Hw5⟩:∃w5,Hid ((w4.alloc (.cells #[.int .i64 a0,.int .i64 a1,.int .i64 li,.int .i64 cr,.int .i64 m0,.int .i64 m1,.int .i64 w0,.int .i64 w1,.int .i64 r0,.int .i64 r1] 128)).alloc (.cells #[.func (.func 42) #[] #[.pointer (some ⟨w4.heap.size,0,none⟩),.pointer (some ⟨w.heap.size,0,none⟩)]] 135)=w5):=⟨_,hide rfl⟩
   have hb45:Below w4.heap.size w4 w5:=by rw[←Hw5.out];exact(below_new _ _).alloc (by simp) _
   have hx5:At w5 w4.heap.size [.int .i64 a0,.int .i64 a1,.int .i64 li,.int .i64 cr,.int .i64 m0,.int .i64 m1,.int .i64 w0,.int .i64 w1,.int .i64 r0,.int .i64 r1]:=by rw[←Hw5.out];exact(At.new w4 #[.int .i64 a0,.int .i64 a1,.int .i64 li,.int .i64 cr,.int .i64 m0,.int .i64 m1,.int .i64 w0,.int .i64 w1,.int .i64 r0,.int .i64 r1] _ _ rfl _ rfl).alloc _
   have hf5:At w5 (w4.heap.size+1) [.func (.func 42) #[] #[.pointer (some ⟨w4.heap.size,0,none⟩),.pointer (some ⟨w.heap.size,0,none⟩)]]:=by rw[←Hw5.out];exact At.new (w4.alloc _) #[.func (.func 42) #[] #[.pointer (some ⟨w4.heap.size,0,none⟩),.pointer (some ⟨w.heap.size,0,none⟩)]] _ _ (by simp) _ rfl
   have hs5:=hs4.below hb45
   have hBw5:Below w.heap.size w w5:=hB.trans ((hb.mono hB.size).trans (hb45.mono (by have:=hB.size;have:=hb.size;omega)))
   have h55:((w4.alloc (.cells #[.int .i64 a0,.int .i64 a1,.int .i64 li,.int .i64 cr,.int .i64 m0,.int .i64 m1,.int .i64 w0,.int .i64 w1,.int .i64 r0,.int .i64 r1] 128)).alloc (.cells #[.func (.func 42) #[] #[.pointer (some ⟨w4.heap.size,0,none⟩),.pointer (some ⟨w.heap.size,0,none⟩)]] 135)).cell? ⟨w.heap.size,3,none⟩=some (.int .i64 cr):=by rw[Hw5.out];exact hs5.c10.2.2.2.1
   go_wp2_with fail
   rw[Hw5.out]
   refine(fine_any a0 a1 li cr m0 m1 w0 w1 r0 r1 cr w4.heap.size w.heap.size w5 hx5 hs5.c10.2.2.1 hs5.1 Hfit.out hli hcr.1 hcr.2).mono ?_
   rintro e w6 ⟨rfl,hb6⟩
   rw[Hfc.out]
   have hs6:=hs5.below hb6
   have hx6:=hx5.below hb6
   have hf6:=hf5.below hb6
   have hBw6:=hBw5.trans (hb6.mono hBw5.size)
   obtain⟨p0,p1,p2,p3,p4,p5,p6,p7,p8,p9⟩:=hs6.c10
  ·have H:=hide (least_fn 47 #[.pointer (some ⟨w.heap.size,0,none⟩),.pointer (some ⟨w4.heap.size+1,0,none⟩)] (soF ⟨⟨a0,a1⟩,li,cr,⟨m0,m1⟩,⟨w0,w1⟩,⟨r0,r1⟩⟩) cr 1000000000 w6 enters_need2 hcr.1 (by omega) (by omega)
    (fun x w' h1 h2 hbx=>need2_any a0 a1 li cr m0 m1 w0 w1 r0 r1 x w4.heap.size w.heap.size (w4.heap.size+1) w' (hx6.below hbx) (hs6.below hbx) (hf6.below hbx) Hfit.out hli (by omega) h2)
    (soF_mono Hfc.out))
   clear hx6 hf6 hs6 hx5 hf5 hs5
   go_wp2_with fail
   refine H.out.mono ?_
   rintro e w7 ⟨r,rfl,h1,h2,h3,h4,hb7⟩
   have hnd:=need_of Hfc.out h1 h2 h3 h4
   have Hnd:=hide hnd
   clear hnd h3 h4
   by_cases hr:1000000000 < r
   ·go_wp2
    go_ret2
    rw[←Hnd.out,if_pos hr]
    exact⟨rfl,hBw6.trans (hb7.mono hBw6.size)⟩
   ·go_wp2
    go_ret2
    rw[←Hnd.out,if_neg (by omega)]
    exact⟨rfl,hBw6.trans (hb7.mono hBw6.size)⟩
  ·have hnr:needR ⟨⟨a0,a1⟩,li,cr,⟨m0,m1⟩,⟨w0,w1⟩,⟨r0,r1⟩⟩=(cr,0):=by unfold needR;rw[if_pos Hfc.out]
   have Hnr:=hide hnr
   clear hnr
   go_wp2
   go_ret2
   rw[Hnr.out]
   exact⟨rfl,hBw6⟩
end Go.Proofs.YtiioegopckoldaaGreatDoor
