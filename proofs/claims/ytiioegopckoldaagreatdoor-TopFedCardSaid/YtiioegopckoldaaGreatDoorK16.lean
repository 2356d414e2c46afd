/- lemmas for topFed_holds: HR5 HR6 HR7 HR8 HR9. No conditions. -/
import Derived.Test.YtiioegopckoldaaGreatDoorK15
import Derived.Test.YtiioegopckoldaaGreatDoorK08
import Derived.Deep.Cut
import Derived.BigRegion
set_option linter.unusedVariables false
set_option linter.unusedSimpArgs false
namespace Go.Proofs.YtiioegopckoldaaGreatDoor
open Go.RowKit Go.Shelf
theorem hcont_turn (f:FuncId) (cp:Array Value) (J:Nat→World→Prop) (A:Option Addr) (xs:List Sp) (n c:Nat) (w:World) (hn:n=xs.length) (hm:n≤9223372036854775807)
 (eg:∀args w,(callFunc f args).run Tryz.prog w= .ok (.enter f args) w) (h0:J 0 w) (hJ:∀k w',J k w'→Rd w' w'.heap.size Sp.cells A xs)
 (hf:∀k lo hi w',xs[k]?=some (⟨lo,hi⟩:Sp)→J k w'→Calls Tryz.prog f (#[.agg #[.int .i64 lo,.int .i64 hi]] ++ cp) w' fun e w''=>e= .returned (.bool false)∧J (k+1) w'') :
 Calls Tryz.prog 231 #[.slice A n c,.func (.func f) #[] cp] w fun e w'=>e= .returned (.bool false)∧J n w':=by
 have H:=hide (hindex_turn f cp J A xs n c w hn hm eg h0 hJ hf);clear hJ hf hn eg h0
 go_enter Tryz.func231,Tryz.ntmps231
 go_wp2_with (go_at_call 193;refine H.out.mono ?_;rintro e w' ⟨rfl,hb⟩;have Hb:=hide hb;clear hb)
 go_ret
 exact⟨rfl,Hb.out⟩
def lastT (xs:List Sp):Nat→Int
 | 0=>0
 | k+1=>(xs.getD k ⟨0,0⟩).hi
theorem hevt1_any (f t L:Int) (q r:Nat) (w:World) (hr:w.cell? ⟨r,0,none⟩=some (.func (.func 189) #[] #[.pointer (some ⟨q,0,none⟩)])) (hlt:r < w.heap.size) (hq:Bx w q [.int .i64 L]) (h1:inB L 23040 f=true) (h2:inB (f+1) 23040 t=true) (hL:0≤L) :
 Calls Tryz.prog 232 #[.agg #[.int .i64 f,.int .i64 t],.pointer (some ⟨r,0,none⟩)] w fun e w'=>e= .returned (.bool false)∧Bx w' q [.int .i64 t]∧Kept (fun b=>b≠q) w w':=by
 obtain⟨b1,w1,e1,ew1,hx1,hb1,hz1⟩:=mk_bx w #[.int .i64 f,.int .i64 t] 61
 have hr1:=(hb1.cell (p:=⟨r,0,none⟩) hlt).trans hr
 have hq1:=hq.bel hb1
 have H:=hide (hon1_any f t L q w1 hq1 h1 h2 hL)
 have Hb1:=hide hb1
 rw[←ew1.out] at hr1
 clear hq hq1 h1 h2 hr hb1 hx1
 go_enter Tryz.func232,Tryz.ntmps232
 go_wp2_with fail
 rw[ew1.out]
 refine H.out.mono ?_
 rintro e w' ⟨rfl,hb,hk⟩
 have Hb:=hide hb;have Hk:=hide ((Kept.all _ Hb1.out).trans hk)
 clear hb hk hr1
 go_wp2
 go_ret
 exact⟨rfl,Hb.out,Hk.out⟩
theorem hentersT:∀args w,(callFunc 232 args).run Tryz.prog w= .ok (.enter 232 args) w:=enters_of Tryz.func232 (by kernel_rfl) rfl
theorem hevery_turns (A:Option Addr) (xs:List Sp) (n c q B:Nat) (w:World) (hx:Rd w B Sp.cells A xs) (hn:n=xs.length) (hm:n≤9223372036854775807) (hq:Bx w q [.int .i64 0]) (hB:B≤q) (hB2:B≤w.heap.size)
 (hin:∀k lo hi,xs[k]?=some (⟨lo,hi⟩:Sp)→inB (lastT xs k) 23040 lo=true∧inB (lo+1) 23040 hi=true∧0≤lastT xs k) :
 Calls Tryz.prog 191 #[.slice A n c,.func (.func 189) #[] #[.pointer (some ⟨q,0,none⟩)]] w fun e w'=>e= .returned (.bool true)∧Kept (fun b=>b≠q) w w':=by
 obtain⟨b1,w1,e1,ew1,hx1,hb1,hz1⟩:=mk_bx w #[.func (.func 189) #[] #[.pointer (some ⟨q,0,none⟩)]] 299
 have hx1:Bx w1 b1 [.func (.func 189) #[] #[.pointer (some ⟨q,0,none⟩)]]:=hx1
 have hq1:=hq.bel hb1
 have hne:b1≠q:=by have:=hq.lt;have:=e1.out;omega
 have hxw:=hx.below (hb1.mono hB2)
 have hs1:=hb1.size
 have H:=hide (hcont_turn 232 #[.pointer (some ⟨b1,0,none⟩)] (fun k W=>Bx W q [.int .i64 (lastT xs k)]∧Kept (fun b=>b≠q) w1 W) A xs n c w1 hn hm hentersT ⟨hq1,Kept.refl _ _⟩
  (fun k W hj=>(hxw.keptR hj.2 (fun b hb=>by show b≠q;omega) (by omega)).more (by have:=hj.2.size;omega))
  (fun k lo hi W hxk hj=>by
   obtain⟨i1,i2,i3⟩:=hin k lo hi hxk
   refine(hevt1_any lo hi (lastT xs k) q b1 W (hx1.kept hj.2 hne).at_.c1 (hx1.kept hj.2 hne).lt hj.1 i1 i2 i3).mono ?_
   rintro e w' ⟨rfl,h1,h2⟩
   refine⟨rfl,?_,hj.2.trans h2⟩
   show Bx w' q [.int .i64 (xs.getD k ⟨0,0⟩).hi]
   rw[List.getD_eq_getElem?_getD,hxk]
   exact h1))
 have HB:=hide hb1
 clear hx hn hq hin hx1 hq1 hb1 hxw
 go_enter Tryz.func191,Tryz.ntmps191
 go_wp2_with fail
 rw[ew1.out,e1.out]
 refine H.out.mono ?_
 rintro e w' ⟨rfl,hb,hk⟩
 have Hk:=hide ((Kept.all _ HB.out).trans hk)
 clear hb hk
 go_wp2
 go_ret
 exact⟨rfl,Hk.out⟩
theorem hon2_any (f t x y:Int) (q:Nat) (w:World) (hq:At w q [.int .i64 x,.int .i64 y]) :
 Calls Tryz.prog 194 #[.agg #[.int .i64 f,.int .i64 t],.pointer (some ⟨q,0,none⟩)] w fun e w'=>e= .returned (.bool (decide (x < t)))∧Below w.heap.size w w':=by
 obtain⟨q0,q1⟩:=(hq.below (below_new w (.cells #[.int .i64 f,.int .i64 t] 61))).c2
 clear hq
 go_enter Tryz.func194,Tryz.ntmps194
 go_wp2
 go_ret
 exact⟨rfl,below_new _ _⟩
theorem hindex_turn0 (f:FuncId) (cp:Array Value) (A:Option Addr) (xs:List Sp) (n c:Nat) (lo hi:Int) (w:World) (hn:n=xs.length) (hm:n≤9223372036854775807)
 (eg:∀args w,(callFunc f args).run Tryz.prog w= .ok (.enter f args) w) (hx:Rd w w.heap.size Sp.cells A xs) (h0:xs[0]?=some ⟨lo,hi⟩)
 (hf:Calls Tryz.prog f (#[.agg #[.int .i64 lo,.int .i64 hi]] ++ cp) w fun e w''=>e= .returned (.bool true)∧Below w.heap.size w w'') :
 Calls Tryz.prog 193 #[.slice A n c,.func (.func f) #[] cp] w fun e w'=>e= .returned (.int .i64 0)∧Below w.heap.size w w':=by
 have hn1:0 < n:=by have:=(List.getElem?_eq_some_iff.1 h0).1;omega
 obtain⟨b,off,lo',hi',rfl,hB,hxk,hc0,hc1⟩:=hx.sp (i:=0) (by omega)
 rw[h0] at hxk
 injection hxk with hxk
 injection hxk with e1 e2
 subst e1 e2
 simp only[Nat.zero_mul,Nat.add_zero] at hc0 hc1
 have Hf:=hide hf
 clear hf hx hn h0
 go_enter Tryz.func193,Tryz.ntmps193
 go_wp2_with fail
 go_loopw [4,8] (fun v i wr=>i= .int .i64 0∧w=wr) (fun _ _ _=>0)
 case atStart=>exact⟨rfl,rfl⟩
 case round=>
  obtain⟨rfl,rfl⟩:=hrel
  go_wp2_with (go_at_fn f;refine Hf.out.mono ?_;rintro e w' ⟨rfl,hj'⟩)
  go_ret
  exact⟨rfl,hj'⟩
end Go.Proofs.YtiioegopckoldaaGreatDoor
namespace Go.Proofs.YtiioegopckoldaaGreatDoor
open Go.RowKit Go.Shelf
def tuA:List Sp:=[⟨0,720⟩,⟨720,1440⟩]
theorem tuA_in:∀k lo hi,tuA[k]?=some (⟨lo,hi⟩:Sp)→inB (lastT tuA k) 23040 lo=true∧inB (lo+1) 23040 hi=true∧0≤lastT tuA k:=fun k lo hi h=>by
 match k,h with
 | 0,h=>injection h with h;injection h with h1 h2;subst h1 h2;decide
 | 1,h=>injection h with h;injection h with h1 h2;subst h1 h2;decide
 | k+2,h=>simp[tuA] at h
theorem henters2:∀args w,(callFunc 194 args).run Tryz.prog w= .ok (.enter 194 args) w:=enters_of Tryz.func194 (by kernel_rfl) rfl
theorem wpList_app1h {α:Type} {cells:α→List Value} {P:Program} {T E:TypeId} {k bytes:Nat} {wr:World} {base:Nat} {v:Value} {xs:List α} {ops:Array Oper} {rest:List Oper} {o:Oper} {a:Act} {Q:Exit→Act→World→Prop} {cs:Array Value} {ty:TypeId} (L:ElLaw P T E k bytes cells) (hgd:o.guard=none) (s x:Operand)
 (ho:o.op= .call {callee:= .builtin .append,args:=#[s,x],argTypes:=#[T,T] }) (hs:a.eval s=v) (hx:a.eval x= .slice (some ⟨wr.heap.size,0,none⟩) 1 1) (hown:Own wr base E k cells v xs) (y:α) (hcs:cs.toList=cells y)
 (hlen:xs.length+1≤1000000) (hbase:base≤wr.heap.size)
 (h:∀v' w',Own w' base E k cells v' (xs ++ [y])→Kept (fun b=>¬v.ownBlock=some b) wr w'→(v'.ownBlock=v.ownBlock∨∃n,v'.ownBlock=some n∧wr.heap.size≤n)→wpList P ops Q rest (a.put o.dst v') w'):wpList P ops Q (o :: rest) a (wr.alloc (.cells cs ty)):=by
 refine wpList_app (v:=v) (xs:=xs) (ys:=[y]) (n:=1) L hgd s x ho hs (hown.alloc _) rfl hx (Rd.new wr cs ty [y] (by simpa using hcs)) hlen (by simp;omega) ?_
 intro v' w' h1 h2 h3
 exact h v' w' h1 ((Kept.alloc _ wr _).trans ((Kept.grown h2).mono fun b hb hlt e=>hlt e.symm)) (h3.imp_right fun e=>⟨_,e,by simp⟩)
set_option maxHeartbeats 4000000 in
set_option maxRecDepth 100000 in
theorem hOnA_any (A:Option Addr) (c:Nat) (w:World) (hx:Rd w w.heap.size Sp.cells A tuA) :
 Calls Tryz.prog 145 #[.slice A 2 c,.agg #[.int .i64 700,.int .i64 710]] w fun e w'=>∃v,e= .returned (.tuple #[v,.int .i64 0,.int .i64 0])∧Own w' w.heap.size 3 1 icell v [0]∧Below w.heap.size w w':=by
 obtain⟨bA,oA,x0,x1,rfl,hbA,_,_,_⟩:=hx.sp (i:=0) (by decide)
 obtain⟨b1,w1,e1,ew1,hx1,hb1,hz1⟩:=mk_bx w #[.int .i64 700,.int .i64 710] 24
 obtain⟨b2,w2,e2,ew2,hx2,hb2,hz2⟩:=mk_bx w1 #[.int .i64 0] 3
 have hx2:Bx w2 b2 [.int .i64 0]:=hx2
 have hx1:At w2 b1 [.int .i64 700,.int .i64 710]:=(show At w1 b1 [.int .i64 700,.int .i64 710] from hx1.at_).below hb2
 have hB2:=hb1.trans (hb2.mono hb1.size)
 have h12:b1+1=b2:=by rw[←e2.out,hz1]
 have hl:w.heap.size≤b2:=by have:=hb1.size;have:=e2.out;omega
 have hx2r:=hx.below hB2
 have H3:=hide (hevery_turns (some ⟨bA,oA,none⟩) tuA 2 c b2 w.heap.size w2 hx2r rfl (by omega) hx2 hl hB2.size tuA_in)
 have Hx1:=hide hx1;have HB2:=hide hB2;have Hx:=hide hx2r
 have hne:b1≠b2:=by omega
 clear hx hx1 hx2 hb1 hb2 hB2 hx2r
 go_enter Tryz.func145,Tryz.ntmps145
 go_wp2_with fail
 rw[ew1.out,e1.out,ew2.out,h12]
 refine H3.out.mono ?_
 rintro e w3 ⟨rfl,hk3⟩
 have Hx13:=hide (Hx1.out.kept hk3 hne)
 have HB3:=hide (HB2.out.trans (hk3.below (B:=w.heap.size) (fun b hb=>by show b≠b2;omega) HB2.out.size))
 have Hx3:=hide (Hx.out.keptR hk3 (fun b hb=>by show b≠b2;omega) HB2.out.size)
 obtain⟨q0,q1⟩:=Hx13.out.c2
 clear hk3 ew1 e1 ew2 e2 hz1 hz2
 go_wp2_with fail
 refine(hminute_any 700 710 w3).mono ?_
 rintro e w4 ⟨rfl,hb4⟩
 rw[show Sp.ok (-100000) 100000 ⟨700,710⟩=true by decide]
 have Hx14:=hide (Hx13.out.below hb4)
 have HB4:=hide (HB3.out.trans (hb4.mono HB3.out.size))
 have Hx4:=hide (Hx3.out.below (hb4.mono HB3.out.size))
 clear q0 q1 hb4
 go_wp2_with fail
 refine(hindex_turn0 194 #[.pointer (some ⟨b1,0,none⟩)] _ tuA 2 c 0 720 w4 rfl (by omega) henters2 (Hx4.out.more HB4.out.size) rfl ((hon2_any 0 720 700 710 b1 w4 Hx14.out).mono (by rintro e w' ⟨rfl,hb⟩;exact⟨rfl,hb⟩))).mono ?_
 rintro e w5 ⟨rfl,hb5⟩
 have Hx15:=hide (Hx14.out.below hb5)
 have HB5:=hide (HB4.out.trans (hb5.mono HB4.out.size))
 have Hx5:=hide (Hx4.out.below (hb5.mono HB4.out.size))
 clear hb5
 go_wp2_with fail
 go_loopw [33,4,5] (fun i m s wr=>(i= .int .i64 0∧m= .slice none 0 0∧s= .int .i64 (-1)∧w5=wr)∨(i= .int .i64 1∧s= .int .i64 0∧Hid (Own wr w5.heap.size 3 1 icell m [0])∧Kept (fun b=>b < w5.heap.size) w5 wr)) (fun i _ _ _=>2-(intOf i).toNat)
 case atStart=>exact .inl ⟨rfl,rfl,rfl,rfl⟩
 case round=>
  rcases hrel with⟨rfl,rfl,rfl,rfl⟩ | ⟨rfl,rfl,ho,hk⟩
  ·obtain⟨b',o',e,_,hc⟩:=Hx5.out (by decide)
   obtain⟨rfl,rfl⟩:bA=b'∧oA=o':=by injection e with e;injection e with e1 e2;exact⟨e1,e2⟩
   have c0:=hc 0 (.int .i64 0) rfl
   have c1:=hc 1 (.int .i64 720) rfl
   rw[Nat.add_zero] at c0
   obtain⟨b6,w6,e6,ew6,hx6,hb6,hz6⟩:=mk_bx w5 #[.int .i64 0,.int .i64 720] 61
   have hx6:At w6 b6 [.int .i64 0,.int .i64 720]:=hx6.at_
   have h15:=Hx15.out.below hb6
   have Hb6:=hide hb6;have Hx6:=hide hx6;have H15:=hide h15
   rw[←ew6.out] at hx6 h15
   rw[←e6.out] at hx6
   obtain⟨z0,z1⟩:=hx6.c2
   obtain⟨q0,q1⟩:=h15.c2
   clear hc hx6 h15 hb6 e hz6
   have hnil:=hide (Own.nil (cells:=icell) w6 w5.heap.size 3 1)
   go_upto_region 13 with fail
   rw[ew6.out,e6.out]
   clear z0 z1 q0 q1 c0 c1
   go_wp2_with (at_builtin;go_loud (refine wpList_app1h (v:= .slice none 0 0) (xs:=[]) (base:=w5.heap.size) (k:=1) (bytes:=8) (E:=3) el_int rfl (.tmp 50) (.tmp 54) rfl rfl rfl hnil.out (0:Int) rfl (by simp) Hb6.out.size ?_;intro v' w10 o10 k10 hat;have O10:=hide o10;have K10:=hide k10;have h15:=(H15.out.kept k10 (fun e=>by cases e)).c2;obtain⟨q0,q1⟩:=h15;have h66:=(Hx6.out.kept k10 (fun e=>by cases e)).c2;obtain⟨z0,z1⟩:=h66;clear o10 k10 hat))
   exact⟨.inr ⟨by go_num,rfl,hide (by simpa using O10.out),((Kept.all (fun b=>b < w5.heap.size) Hb6.out).trans (K10.out.mono (fun b _ _ e=>by cases e)))⟩,by simp[intOf]⟩
  ·obtain⟨b',o',e,_,hc⟩:=(Hx5.out.keptR hk (fun b hb=>Nat.lt_of_lt_of_le hb HB5.out.size) HB5.out.size) (by decide)
   obtain⟨rfl,rfl⟩:bA=b'∧oA=o':=by injection e with e;injection e with e1 e2;exact⟨e1,e2⟩
   have c0:=hc 2 (.int .i64 720) rfl
   have c1:=hc 3 (.int .i64 1440) rfl
   obtain⟨b6,w6,e6,ew6,hx6,hb6,hz6⟩:=mk_bx wr #[.int .i64 720,.int .i64 1440] 61
   have hx6:At w6 b6 [.int .i64 720,.int .i64 1440]:=hx6.at_
   have h15:=(Hx15.out.kept hk Hx15.out.1).below hb6
   have HO:=hide (ho.out.below hb6)
   have HBr:=hide ((HB5.out.trans (hk.below (B:=w.heap.size) (fun b hb=>Nat.lt_of_lt_of_le hb HB5.out.size) HB5.out.size)).trans (hb6.mono (by have:=hk.size;have:=HB5.out.size;omega)))
   rw[←ew6.out] at hx6 h15
   rw[←e6.out] at hx6
   obtain⟨z0,z1⟩:=hx6.c2
   obtain⟨q0,q1⟩:=h15.c2
   clear hc hx6 h15 hb6 e ho hk hz6
   go_wp2_with fail
   rw[ew6.out]
   refine bodyPost_ret (by simp[results,Tryz.results145,go_sem];try rfl) rfl ?_
   exact⟨_,rfl,HO.out.mono HB5.out.size,HBr.out⟩
end Go.Proofs.YtiioegopckoldaaGreatDoor
namespace Go.Proofs.YtiioegopckoldaaGreatDoor
open Go.RowKit Go.Shelf
theorem At.c7l {w:World} {p:Nat} {v0 v1 v2 v3 v4 v5 v6:Value} (h:At w p [v0,v1,v2,v3,v4,v5,v6]):w.cell? ⟨p,0,none⟩=some v0∧w.cell? ⟨p,1,none⟩=some v1∧w.cell? ⟨p,2,none⟩=some v2∧w.cell? ⟨p,3,none⟩=some v3∧w.cell? ⟨p,4,none⟩=some v4∧w.cell? ⟨p,5,none⟩=some v5∧w.cell? ⟨p,6,none⟩=some v6:=⟨h.2 0 _ rfl,h.2 1 _ rfl,h.2 2 _ rfl,h.2 3 _ rfl,h.2 4 _ rfl,h.2 5 _ rfl,h.2 6 _ rfl⟩
set_option maxHeartbeats 4000000 in
set_option maxRecDepth 100000 in
theorem hopen_one (A:Option Addr) (c:Nat) (m:Sp) (h0 h1 s0 s1 day:Int) (w:World) (hx:Rd w w.heap.size Sp.cells A [m]) (hm:Sp.ok (-100000) 100000 m=true) (hh:Sp.ok 0 60000 ⟨h0,h1⟩=true) (hs:Sp.ok 1000 100000 ⟨s0,s1⟩=true) (hd:inB 0 100000 day=true) :
 Calls Tryz.prog 251 #[.agg #[.slice A 1 c,.slice none 0 0,.int .i64 h0,.int .i64 h1,.int .i64 s0,.int .i64 s1],.int .i64 day] w fun e w'=>e= .returned (.tuple #[.agg #[.slice A 1 c,.slice none 0 0,.int .i64 h0,.int .i64 h1,.int .i64 s0,.int .i64 s1,.int .i64 day],.int .i64 0])∧Below w.heap.size w w':=by
 obtain⟨b1,w1,e1,ew1,hx1,hb1,hz1⟩:=mk_bx w #[.slice A 1 c,.slice none 0 0,.int .i64 h0,.int .i64 h1,.int .i64 s0,.int .i64 s1] 86
 have hx1:At w1 b1 [.slice A 1 c,.slice none 0 0,.int .i64 h0,.int .i64 h1,.int .i64 s0,.int .i64 s1]:=hx1.at_
 have HX:=hide ((hx.below hb1).more hb1.size)
 have HA:=hide hx1
 have Hb1:=hide hb1
 have C:=hide (fun (w':World) (hb:Below w.heap.size w w')=>hCheck_one A c m h0 h1 s0 s1 w' ((hx.below hb).more hb.size) hm hh hs)
 have Hd:=hide hd
 obtain⟨b2,w2,e2,ew2,hx2,hb2,hz2⟩:=mk_bx w1 #[.slice none 0 0,.slice none 0 0,.int .i64 0,.int .i64 0,.int .i64 0,.int .i64 0,.int .i64 0] 360
 have hx2:Bx w2 b2 [.slice none 0 0,.slice none 0 0,.int .i64 0,.int .i64 0,.int .i64 0,.int .i64 0,.int .i64 0]:=hx2
 have HK:=hide hx2
 have hBb:=hb1.trans (hb2.mono hb1.size)
 have HB2:=hide hBb
 have HA2:=hide (hx1.below hb2)
 have h12:b1+1=b2:=by rw[←e2.out,hz1]
 have hne:b1≠b2:=by omega
 have hlt2:w.heap.size≤b2:=by have:=hb1.size;have:=e2.out;omega
 clear hx hx1 hx2 hb1 hb2 hBb hm hh hs hd hz1 hz2
 go_enter Tryz.func251,Tryz.ntmps251
 obtain⟨q0,q1,q2,q3,q4,q5⟩:=(show At (w.alloc (.cells #[.slice A 1 c,.slice none 0 0,.int .i64 h0,.int .i64 h1,.int .i64 s0,.int .i64 s1] 86)) w.heap.size [.slice A 1 c,.slice none 0 0,.int .i64 h0,.int .i64 h1,.int .i64 s0,.int .i64 s1] from At.new _ #[.slice A 1 c,.slice none 0 0,.int .i64 h0,.int .i64 h1,.int .i64 s0,.int .i64 s1] _ _ rfl _ rfl).c6l
 go_wp2_with fail
 rw[ew1.out,e1.out,ew2.out,h12]
 refine(C.out w2 HB2.out).mono ?_
 rintro e w3 ⟨rfl,hb3⟩
 have HA3:=hide (HA2.out.below hb3)
 have HK3:=hide (HK.out.below hb3)
 have HB3:=hide (HB2.out.trans (hb3.mono HB2.out.size))
 clear ew1 e1 ew2 e2 q0 q1 q2 q3 q4 q5 hb3
 go_wp2_with fail
 refine(hin_one 0 100000 day w3 _ rfl).mono ?_
 rintro e w4 ⟨rfl,hb4⟩
 rw[Hd.out]
 have ha4:=HA3.out.below (hb4)
 have HK4:=hide (HK3.out.below hb4)
 have HB4:=hide (HB3.out.trans (hb4.mono HB3.out.size))
 obtain⟨q0,q1,q2,q3,q4,q5⟩:=ha4.c6l
 obtain⟨k0,k1,k2,k3,k4,k5,k6⟩:=HK4.out.at_.c7l
 have fz:=HK4.out.fz
 have f0:=fz 0;have f1:=fz 1;have f2:=fz 2;have f3:=fz 3;have f4:=fz 4;have f5:=fz 5;have f6:=fz 6
 clear fz
 clear ha4 hb4
 go_wp2_with fail
 clear k0 k1 k2 k3 k4 k5 k6 f0 f1 f2 f3 f4 f5 f6
 have hF:=((((((HK4.out.set (.slice A 1 c) (j:=0) (by simp)).set (.slice none 0 0) (j:=1) (by simp)).set (.int .i64 h0) (j:=2) (by simp)).set (.int .i64 h1) (j:=3) (by simp)).set (.int .i64 s0) (j:=4) (by simp)).set (.int .i64 s1) (j:=5) (by simp)).set (.int .i64 day) (j:=6) (by simp)
 have HW:=hide (((((((HB4.out.setCell (p:=⟨b2,0,none⟩) hlt2 (.slice A 1 c)).setCell (p:=⟨b2,1,none⟩) hlt2 (.slice none 0 0)).setCell (p:=⟨b2,2,none⟩) hlt2 (.int .i64 h0)).setCell (p:=⟨b2,3,none⟩) hlt2 (.int .i64 h1)).setCell (p:=⟨b2,4,none⟩) hlt2 (.int .i64 s0)).setCell (p:=⟨b2,5,none⟩) hlt2 (.int .i64 s1)).setCell (p:=⟨b2,6,none⟩) hlt2 (.int .i64 day))
 generalize (((((((w4.setCell ⟨b2,0,none⟩ (.slice A 1 c)).setCell ⟨b2,1,none⟩ (.slice none 0 0)).setCell ⟨b2,2,none⟩ (.int .i64 h0)).setCell ⟨b2,3,none⟩ (.int .i64 h1)).setCell ⟨b2,4,none⟩ (.int .i64 s0)).setCell ⟨b2,5,none⟩ (.int .i64 s1)).setCell ⟨b2,6,none⟩ (.int .i64 day))=W at hF HW ⊢
 obtain⟨k0,k1,k2,k3,k4,k5,k6⟩:=(show At W b2 [.slice A 1 c,.slice none 0 0,.int .i64 h0,.int .i64 h1,.int .i64 s0,.int .i64 s1,.int .i64 day] from hF.at_).c7l
 refine bodyPost_ret (v:= .tuple #[.agg #[.slice A 1 c,.slice none 0 0,.int .i64 h0,.int .i64 h1,.int .i64 s0,.int .i64 s1,.int .i64 day],.int .i64 0]) ?_ rfl ?_
 rotate_left
 ·exact⟨rfl,HW.out⟩
 simp[results,Tryz.results251,go_sem,k0,k1,k2,k3,k4,k5,k6]
end Go.Proofs.YtiioegopckoldaaGreatDoor
namespace Go.Proofs.YtiioegopckoldaaGreatDoor
open Go.RowKit Go.Shelf
def kpCells (A:Option Addr) (c:Nat) (h0 h1 s0 s1 day:Int):List Value:=[.slice A 1 c,.slice none 0 0,.int .i64 h0,.int .i64 h1,.int .i64 s0,.int .i64 s1,.int .i64 day]
set_option maxHeartbeats 4000000 in
set_option maxRecDepth 100000 in
theorem hmarks_one (A:Option Addr) (c:Nat) (lo hi h0 h1 s0 s1 day:Int) (b:Nat) (w:World) (hk:At w b (kpCells A c h0 h1 s0 s1 day)) (hx:Rd w w.heap.size Sp.cells A [⟨lo,hi⟩]) (g1: -1000000000≤lo) (g2:lo≤1000000000) (g3: -1000000000≤hi) (g4:hi≤1000000000) :
 Calls Tryz.prog 281 #[.int .i64 0,.int .i64 0,.pointer (some ⟨b,0,none⟩)] w fun e w'=>e= .returned (.tuple #[.agg #[.int .i64 (1000*lo),.int .i64 (1000*hi)],.bool true])∧Below w.heap.size w w':=by
 have f1:IntKind.i64.wrap (1000*lo)=1000*lo:=wrapI (by omega)
 have f2:IntKind.i64.wrap (1000*hi)=1000*hi:=wrapI (by omega)
 obtain⟨bA,oA,x0,x1,rfl,hbA,hg,c0,c1⟩:=hx.sp (i:=0) (by simp)
 obtain⟨rfl,rfl⟩:lo=x0∧hi=x1:=by simpa using hg
 obtain⟨b1,w1,e1,ew1,hx1,hb1,hz1⟩:=mk_bx w #[.int .i64 0,.int .i64 0] 295
 have hx1:Bx w1 b1 [.int .i64 0,.int .i64 0]:=hx1
 have hk1:=hk.below hb1
 rw[show oA+0*2=oA by omega] at c0 c1
 have c0':=(hb1.cell (p:=⟨bA,oA,none⟩) hbA).trans c0
 have c1':=(hb1.cell (p:=⟨bA,oA+1,none⟩) hbA).trans c1
 have HA:=hide hbA
 have HX:=hide hx1;have HK:=hide hk1;have Hb1:=hide hb1
 have hl1:w.heap.size≤b1:=by have:=e1.out;omega
 clear hk hx hb1 hx1 c0 c1 hg hz1 hbA
 have K0:=hk1.2 0 _ rfl
 clear hk1
 have C0:=hide c0';have C1:=hide c1'
 clear c0' c1'
 go_enter Tryz.func281,Tryz.ntmps281
 go_upto_region 1 with fail
 rw[ew1.out,e1.out]
 go_wp2_with fail
 refine(hin_two 0 0 0 0 w1 _ rfl).mono ?_
 rintro e w3 ⟨rfl,hb3⟩
 have HK3:=hide (HK.out.below hb3)
 have HX3:=hide (HX.out.below hb3)
 have HB3:=hide (Hb1.out.trans (hb3.mono Hb1.out.size))
 have K3:=HK3.out.2 0 _ rfl
 have hAlt:bA < w1.heap.size:=Nat.lt_of_lt_of_le HA.out Hb1.out.size
 have d0:=(hb3.cell (p:=⟨bA,oA,none⟩) hAlt).trans C0.out
 have d1:=(hb3.cell (p:=⟨bA,oA+1,none⟩) hAlt).trans C1.out
 obtain⟨k0,k1,k2,k3⟩:=HX3.out.w2
 clear K0 hb3 hAlt ew1 e1
 go_upto_region 3 with fail
 go_region
 have hF:=HX3.out.set2 (.int .i64 (1000*lo)) (.int .i64 (1000*hi))
 have HW:=hide (((HB3.out.setCell (p:=⟨b1,0,none⟩) hl1 (.int .i64 (1000*lo))).setCell (p:=⟨b1,1,none⟩) hl1 (.int .i64 (1000*hi))).trans ((Kept.drew (fun _=>True) _ 1).below (B:=w.heap.size) (fun _ _=>trivial) (by have:=HB3.out.size;simpa using this)))
 have hF2:=hF.kept (Kept.drew (fun _=>True) _ 1) trivial
 clear hF k0 k1 k2 k3
 change Exit.then _ _ _ _ (World.drewN ((w3.setCell ⟨b1,0,none⟩ (.int .i64 (1000*lo))).setCell ⟨b1,1,none⟩ (.int .i64 (1000*hi))) 1)
 generalize World.drewN ((w3.setCell ⟨b1,0,none⟩ (.int .i64 (1000*lo))).setCell ⟨b1,1,none⟩ (.int .i64 (1000*hi))) 1=W at hF2 HW ⊢
 obtain⟨k0,k1⟩:=hF2.at_.c2
 go_wp2_with fail
 refine bodyPost_ret (by simp[results,Tryz.results281,go_sem,k0,k1];try rfl) rfl ?_
 exact⟨rfl,HW.out⟩
end Go.Proofs.YtiioegopckoldaaGreatDoor
namespace Go.Proofs.YtiioegopckoldaaGreatDoor
open Go.RowKit Go.Shelf
set_option maxHeartbeats 4000000 in
set_option maxRecDepth 100000 in
theorem hmark_one (A:Option Addr) (c:Nat) (lo hi h0 h1 s0 s1 day x2 x3 x4:Int) (b q:Nat) (w:World) (hk:At w b (kpCells A c h0 h1 s0 s1 day)) (hq:At w q [.func (.func 281) #[] #[.pointer (some ⟨b,0,none⟩)]]) (hx:Rd w w.heap.size Sp.cells A [⟨lo,hi⟩]) (g1: -1000000000≤lo) (g2:lo≤1000000000) (g3: -1000000000≤hi) (g4:hi≤1000000000) :
 Calls Tryz.prog 282 #[.agg #[.int .u8 1,.int .i64 0,.int .i64 x2,.int .i64 x3,.int .i64 x4],.pointer (some ⟨q,0,none⟩)] w fun e w'=>e= .returned (.tuple #[.agg #[.int .i64 (1000*lo),.int .i64 (1000*hi)],.bool true])∧Below w.heap.size w w':=by
 obtain⟨b1,w1,e1,ew1,hx1,hb1,hz1⟩:=mk_bx w #[.int .u8 1,.int .i64 0,.int .i64 x2,.int .i64 x3,.int .i64 x4] 257
 have hx1:Bx w1 b1 [.int .u8 1,.int .i64 0,.int .i64 x2,.int .i64 x3,.int .i64 x4]:=hx1
 obtain⟨b2,w2,e2,ew2,hx2,hb2,hz2⟩:=mk_bx w1 #[.int .i64 0,.int .i64 0] 295
 have hx2:Bx w2 b2 [.int .i64 0,.int .i64 0]:=hx2
 have hx12:=(hx1.at_.below hb2).2 1 _ rfl
 have hbb:=hb1.trans (hb2.mono hb1.size)
 have hq2:=(hq.below hbb).2 0 _ rfl
 have h12:b1+1=b2:=by rw[←e2.out,hz1]
 have hl2:w.heap.size≤b2:=by have:=hb1.size;have:=e2.out;omega
 have H:=hide (hmarks_one A c lo hi h0 h1 s0 s1 day b w2 (hk.below hbb) ((hx.below hbb).more hbb.size) g1 g2 g3 g4)
 have HB2:=hide hbb
 have HX2:=hide hx2
 clear hk hq hx hx1 hx2 hb1 hb2 hbb hz1 hz2
 go_enter Tryz.func282,Tryz.ntmps282
 go_upto_region 1 with fail
 rw[ew1.out,e1.out,ew2.out,h12]
 clear ew1 e1 ew2 e2
 go_wp2_with fail
 refine H.out.mono ?_
 rintro e w3 ⟨rfl,hb3⟩
 have HX3:=hide (HX2.out.below hb3)
 have HB3:=hide (HB2.out.trans (hb3.mono HB2.out.size))
 obtain⟨k0,k1,k2,k3⟩:=HX3.out.w2
 clear hx12 hq2 hb3
 go_wp2_with fail
 have hF:=HX3.out.set2 (.int .i64 (1000*lo)) (.int .i64 (1000*hi))
 have HW:=hide ((HB3.out.setCell (p:=⟨b2,0,none⟩) hl2 (.int .i64 (1000*lo))).setCell (p:=⟨b2,1,none⟩) hl2 (.int .i64 (1000*hi)))
 clear k0 k1 k2 k3
 generalize (w3.setCell ⟨b2,0,none⟩ (.int .i64 (1000*lo))).setCell ⟨b2,1,none⟩ (.int .i64 (1000*hi))=W at hF HW ⊢
 obtain⟨k0,k1⟩:=hF.at_.c2
 refine bodyPost_ret (by simp[results,Tryz.results282,go_sem,k0,k1];try rfl) rfl ?_
 exact⟨rfl,HW.out⟩
end Go.Proofs.YtiioegopckoldaaGreatDoor
