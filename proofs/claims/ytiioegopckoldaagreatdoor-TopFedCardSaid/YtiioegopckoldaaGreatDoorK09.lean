/- lemmas for topFed_holds: V6 GA. No conditions. -/
import Derived.Test.YtiioegopckoldaaGreatDoorK08
import Derived.Handy
import Derived.Test.YtiioegopckoldaaGreatDoorProg
import Derived.Test.YtiioegopckoldaaGreatDoorK01
set_option linter.unusedVariables false
set_option linter.unusedSimpArgs false
namespace Go.Proofs.YtiioegopckoldaaGreatDoor
open Go.RowKit Go.Shelf
attribute [local go_sem] Oper.semAt_some
def u8i (x:Int):List Value:=[.int .u8 x]
theorem el_u8i:ElLaw Tryz.prog 74 5 1 1 u8i:=elLaw_of Tryz.underlying74 (z:= .int .u8 0) (by kernel_rfl) rfl (by omega) (fun _=>rfl) (by simp[u8i,Value.oneCell']) (by omega)
def runOf (T:Nat→Nat→Int) (a b:Nat):Int:=if 0 < -(T a b) then 2 else if T b a≤0 then 0 else 1
def runsTo (T:Nat→Nat→Int) (pts:List Int):Nat→List Int
 | 0=>[]
 | k+1=>runsTo T pts k ++ [runOf T (pts.getD k 0).toNat (pts.getD (k+1) 0).toNat]
theorem runsTo_len (T:Nat→Nat→Int) (pts:List Int):∀k,(runsTo T pts k).length=k
 | 0=>rfl
 | k+1=>by simp[runsTo,runsTo_len T pts k]
structure TwoC (w:World) (b o1 o2:Nat) (x y:Int):Prop where
 c1:w.cell? ⟨b,o1,none⟩=some (.int .i64 x)
 c2:w.cell? ⟨b,o2,none⟩=some (.int .i64 y)
 lt:b < w.heap.size
theorem TwoC.bel {w w':World} {b o1 o2:Nat} {x y:Int} (h:TwoC w b o1 o2 x y) (hb:Below w.heap.size w w'):w'.cell? ⟨b,o1,none⟩=some (.int .i64 x)∧w'.cell? ⟨b,o2,none⟩=some (.int .i64 y):=
 ⟨(hb.cell (p:=⟨b,o1,none⟩) h.lt).trans h.c1,(hb.cell (p:=⟨b,o2,none⟩) h.lt).trans h.c2⟩
set_option maxHeartbeats 4000000 in
set_option maxRecDepth 100000 in
theorem levRuns_any (p:Nat) (A1 A2 A3 A:Option Addr) (n1 c1 n2 c2 n3 c3 n c:Nat) (sh:List Q4) (mk:List Us) (th:List Q4) (pts:List Int) (w:World) (hsv:SvAt w A1 A2 A3 n1 n2 n3 sh mk th) (hok:svOk p sh mk th=true)
 (hfit:(solveF p (fun _=>false) sh mk).2=true) (hA:Rd w w.heap.size icell A pts) (hn:n=pts.length) (hn1:1≤n) (hn2:n≤20) (hp:∀x∈pts,0≤x∧x < p) :
 Calls Tryz.prog 197 #[.agg #[.int .i64 p,.slice A1 n1 c1,.slice A2 n2 c2,.slice A3 n3 c3],.slice A n c] w fun e w'=>∃v,e= .returned (.tuple #[v,.int .i64 0])∧Own w' w.heap.size 5 1 u8i v (runsTo (solveF p (fun _=>false) sh mk).1 pts (n-1))∧Below w.heap.size w w':=by
 have hat0:=At.new w #[.int .i64 p,.slice A1 n1 c1,.slice A2 n2 c2,.slice A3 n3 c3] 311 w.heap.size rfl _ rfl
 have hB0:=below_new w (.cells #[.int .i64 p,.slice A1 n1 c1,.slice A2 n2 c2,.slice A3 n3 c3] 311)
 have hsv1:=hsv.bel hB0
 have Hok:=hide hok;have Hfit:=hide hfit;have HA:=hide hA;have Hn:=hide hn;have Hp:=hide hp
 have hp20:=(sv_parts hok).2.1
 have hp1:=(sv_parts hok).1
 clear hsv hok hfit hA hn hp
 have hall:(!(anyOut 0 ((p:Int)-1) pts))=true:=by
  rw[Bool.not_eq_true',Bool.eq_false_iff]
  intro h
  simp only[anyOut,List.any_eq_true,outB,Bool.or_eq_true,decide_eq_true_eq] at h
  obtain⟨x,hx,h⟩:=h
  have:=Hp.out x hx
  omega
 have Hall:=hide hall
 have fp:IntKind.i64.wrap ((p:Int)-1)=(p:Int)-1:=wrapI (by omega)
 clear hall
 go_enter Tryz.func197,Tryz.ntmps197
 go_wp2_with fail
 refine(levOpen_any p A1 A2 A3 n1 c1 n2 c2 n3 c3 sh mk th _ hsv1).mono ?_
 rintro e w2 ⟨hb2,h2⟩
 have hat2:=hat0.below hb2
 have hB2:=hB0.trans (hb2.mono hB0.size)
 rcases h2 with⟨h,_⟩ | ⟨_,h,_⟩ | ⟨_,_,b,rfl,hT,hbl⟩
 ·rw[Hok.out] at h;cases h
 ·rw[Int.toNat_natCast,Hfit.out] at h;cases h
 rw[Int.toNat_natCast] at hT
 obtain⟨T,hTe⟩:∃T,T=(solveF p (fun _=>false) sh mk).1:=⟨_,rfl⟩
 have hbd:∀i k,i≤p→k≤p→ -41943040000000≤T i k∧T i k≤20000000:=fun i k hi hk=>by rw[hTe];exact solveF_bd Hok.out hi hk
 rw[←hTe] at hT
 have HTe:=hide hTe
 obtain⟨q0,q1,q2,q3⟩:=hat2.c4
 have HT:=hide hT;have HB2:=hide hB2;have Hbd:=hide hbd
 have HA2:=hide ((HA.out.below hB2).more hB2.size)
 clear hat0 hb2 hB0 hsv1 hB2 hat2 hT hTe hbd hbl
 go_wp2_with fail
 refine(lev_from 0 ((p:Int)-1) A pts n c w2 Hn.out (by omega) HA2.out).mono ?_
 rintro e w3 ⟨rfl,hb3⟩
 rw[Hall.out]
 have HT3:=hide (HT.out.bel hb3)
 have HB3:=hide (HB2.out.trans (hb3.mono HB2.out.size))
 have HA3:=hide ((HA2.out.below hb3).more hb3.size)
 clear q0 q1 q2 q3 hb3 HT HB2 HA2
 go_wp2_with fail
 go_loopw [9,8] (fun u v wr=>∃k:Nat,k+1≤n∧u= .int .i64 ((k:Int)+1)∧Hid (Own wr w3.heap.size 5 1 u8i v (runsTo T pts k))∧Kept (fun b=>b < w3.heap.size) w3 wr) (fun i _ _=>n-(intOf i).toNat)
 case atStart=>exact⟨0,by omega,rfl,hide (Own.nil _ _ _ _ _),Kept.refl _ _⟩
 case round=>
  obtain⟨k,hk,rfl,ho,hkp⟩:=hrel
  obtain⟨wq,rfl⟩:∃x,x=wr:=⟨wr,rfl⟩
  by_cases hlt:k+1 < n
  ·obtain⟨bp,off,x0,rfl,hbp,hx0,z0⟩:=(HA3.out.keptR hkp (fun b hb=>hb) (Nat.le_refl _)).int (i:=k) (by have:=Hn.out;omega)
   obtain⟨bp',off',y0,e,_,hy0,z1⟩:=(HA3.out.keptR hkp (fun b hb=>hb) (Nat.le_refl _)).int (i:=k+1) (by have:=Hn.out;omega)
   obtain⟨rfl,rfl⟩:bp=bp'∧off=off':=by injection e with e;injection e with e1 e2;exact⟨e1,e2⟩
   have bx:=Hp.out _ (List.mem_of_getElem? hx0)
   have by':=Hp.out _ (List.mem_of_getElem? hy0)
   obtain⟨x,rfl⟩:∃x:Nat,x0=x:=⟨x0.toNat,by omega⟩
   obtain⟨y,rfl⟩:∃y:Nat,y0=y:=⟨y0.toNat,by omega⟩
   have hx21:x < 21:=by omega
   have hy21:y < 21:=by omega
   obtain⟨hlo,hhi⟩:=Hbd.out x y (by omega) (by omega)
   have hbw:bp < wq.heap.size:=by have:=hkp.size;omega
   have Hp0:=hide (TwoC.mk z0 z1 hbw)
   have hT:=HT3.out.kept hkp HT3.out.lt
   have Hnx:=hide (show runsTo T pts (k+1)=runsTo T pts k ++ [runOf T x y] by
    show runsTo T pts k ++ [runOf T (pts.getD k 0).toNat (pts.getD (k+1) 0).toNat]=_
    rw[List.getD_eq_getElem?_getD,List.getD_eq_getElem?_getD,hx0,hy0]
    rfl)
   have i0:(0:Int)≤(k:Int):=by omega
   have i1:(k:Int) < (n:Int):=by omega
   have i2:(0:Int)≤(k:Int)+1:=by omega
   have i3:(k:Int)+1 < (n:Int):=by omega
   have f1:IntKind.i64.wrap ((k:Int)+1-1)=(k:Int):=by rw[wrapI (by omega)];omega
   have f2:IntKind.i64.wrap (k:Int)=(k:Int):=wrapI (by omega)
   have Hho:=hide ho;have Hkp:=hide hkp;have HT9:=hide hT
   clear z0 z1 hx0 hy0 bx by' hT hkp
   go_wp2_with fail
   have hT:=HT9.out
   refine wp_norm ?_
   refine wp_region_held_drew (S:=(fun W=>Below wq.heap.size wq W)) (by kernel_rfl) (by(try dsimp only);exact(Below.refl _ _).drew) (fun hHeld=>?_)
   generalize World.drew wq=Wd15 at hHeld ⊢
   have hT:=hT.bel hHeld
   have hbc:=Below.refl Wd15.heap.size Wd15
   iterate 8
    refine tkHl [0,1,2,3,4,6,7,8] ?_ rfl rfl (Or.inl ⟨by rfl,?_⟩) hHeld ?_
    rotate_left
    ·(intro w _;go_simp;try(with_reducible rfl))
    try simp only[Act.put,tl1,tl2,tl3]
   iterate 2
    refine tkHl [5,9] ?_ rfl rfl (Or.inl ⟨by rfl,?_⟩) hHeld ?_
    rotate_left
    ·(intro w hSw;(try dsimp only at hSw);have z0:=(Hp0.out.bel hSw).1;have z1:=(Hp0.out.bel hSw).2;go_simp;try(with_reducible rfl))
    try simp only[Act.put,tl1,tl2,tl3]
   refine cut1 (C:=fun (b11:Nat) (Wc15_1:World)=>(Bx Wc15_1 b11 [.int .i64 0,.int .i64 0])∧(wq.heap.size≤b11)∧Below Wd15.heap.size Wd15 Wc15_1∧Below wq.heap.size wq Wc15_1) (G:=?_) ?_ ?_
   rotate_left
   ·intro hCut
    replace hbc:=Below.refl Wd15.heap.size Wd15
    refine wpAnyH_ready (rs:=[10,11]) (by kernel_rfl) (by simp) ?_
    refine AllReadyH.cons (o:=⟨_,_,_,_,_,_⟩) rfl (fun K hK=>?_) ?_
    ·
     go_simp
     refine(fall_any _ T _ _ _ hT hx21 hy21 hlo hhi).mono ?_
     rintro e V52 ⟨rfl,hb⟩
     go_wp2_with fail
     have hHeldN:=hHeld.trans (hb.mono hHeld.size)
     have hT:=hT.bel hb
     have hbc:=hbc.trans (hb.mono hbc.size)
     refine hK.out _ _ ?_ (fun hHeld2=>?_)
     ·exact hHeldN
     clear hK K hHeldN hb;have hHeld:=hHeld2;clear hHeld2
     try simp only[Act.put,tl1,tl2,tl3]
     refine wpAnyH_ready (rs:=[11]) (by kernel_rfl) (by simp) ?_
     refine AllReadyH.cons (o:=⟨_,_,_,_,_,_⟩) rfl (fun K hK=>?_) AllReadyH.nil
     go_simp
     obtain⟨b11,V11,e11,ew11,x11,hb,_⟩:=mk_bx V52 #[.int .i64 0,.int .i64 0] 24
     rw[ew11.out,e11.out]
     have hb11:wq.heap.size≤b11:=by have:=e11.out;have:=hHeld.size;omega
     have hHeldN:=hHeld.trans (hb.mono hHeld.size)
     have hT:=hT.bel hb
     have hbc:=hbc.trans (hb.mono hbc.size)
     refine hK.out _ _ ?_ (fun hHeld2=>?_)
     ·exact hHeldN
     clear hK K hHeldN hb;have hHeld:=hHeld2;clear hHeld2
     try simp only[Act.put,tl1,tl2,tl3]
     exact hCut b11 V11 ⟨x11,hb11,hbc,hHeld⟩
    refine AllReadyH.cons (o:=⟨_,_,_,_,_,_⟩) rfl (fun K hK=>?_) AllReadyH.nil
    go_simp
    obtain⟨b11,V11,e11,ew11,x11,hb,_⟩:=mk_bx Wd15 #[.int .i64 0,.int .i64 0] 24
    rw[ew11.out,e11.out]
    have hb11:wq.heap.size≤b11:=by have:=e11.out;have:=hHeld.size;omega
    have hHeldN:=hHeld.trans (hb.mono hHeld.size)
    have hT:=hT.bel hb
    have hbc:=hbc.trans (hb.mono hbc.size)
    refine hK.out _ _ ?_ (fun hHeld2=>?_)
    ·exact hHeldN
    clear hK K hHeldN hb;have hHeld:=hHeld2;clear hHeld2
    try simp only[Act.put,tl1,tl2,tl3]
    refine wpAnyH_ready (rs:=[10]) (by kernel_rfl) (by simp) ?_
    refine AllReadyH.cons (o:=⟨_,_,_,_,_,_⟩) rfl (fun K hK=>?_) AllReadyH.nil
    go_simp
    refine(fall_any _ T _ _ _ hT hx21 hy21 hlo hhi).mono ?_
    rintro e V52 ⟨rfl,hb⟩
    go_wp2_with fail
    have hHeldN:=hHeld.trans (hb.mono hHeld.size)
    have hT:=hT.bel hb
    have x11:=x11.bel hb
    have hbc:=hbc.trans (hb.mono hbc.size)
    refine hK.out _ _ ?_ (fun hHeld2=>?_)
    ·exact hHeldN
    clear hK K hHeldN hb;have hHeld:=hHeld2;clear hHeld2
    try simp only[Act.put,tl1,tl2,tl3]
    exact hCut b11 V52 ⟨x11,hb11,hbc,hHeld⟩
   intro b11 Wc15_1 ⟨x11,hb11,hbN,hHeldN⟩
   have hT:=hT.bel hbN
   have hbc:=hbc.trans (hbN.mono hbc.size);clear hHeld hbN;have hHeld:=hHeldN;clear hHeldN
   refine wpAnyH_ready (rs:=[12]) (by kernel_rfl) (by simp) ?_
   refine AllReadyH.cons (o:=⟨_,_,_,_,_,_⟩) rfl (fun K hK=>?_) AllReadyH.nil
   have X11:=hide x11
   obtain⟨y0,y1,y2,y3⟩:=x11.w2
   clear x11
   go_simp
   refine hK.out _ _ ?_ (fun hHeld2=>?_)
   ·(try dsimp only);exact(hHeld.setCell hb11 _).setCell hb11 _
   clear hK K hHeld;have hHeld:=hHeld2;clear hHeld2
   try simp only[Act.put,tl1,tl2,tl3]
   refine wpAnyH_done (by kernel_rfl) ?_ _
   have hx9:=X11.out.set2 (.int .i64 (-(T x y))) (.int .i64 (T y x))
   obtain⟨w9,Hw9⟩:∃w9,Hid ((Wc15_1.setCell ⟨b11,0,none⟩ (.int .i64 (-(T x y)))).setCell ⟨b11,1,none⟩ (.int .i64 (T y x))=w9):=⟨_,hide rfl⟩
   rw[Hw9.out] at hx9 hHeld ⊢
   have Ho9:=hide (Hho.out.below hHeld)
   have hB9:=hide (Hkp.out.trans (Kept.all (fun b=>b < w3.heap.size) hHeld))
   have hlen:(runsTo T pts k).length+1≤1000000:=by rw[runsTo_len];omega
   have f3:IntKind.i64.wrap ((k:Int)+1+1)=(k:Int)+1+1:=wrapI (by omega)
   obtain⟨lo,hlo'⟩:∃lo,lo= -(T x y):=⟨_,rfl⟩
   obtain⟨hi,hhi'⟩:∃hi,hi=T y x:=⟨_,rfl⟩
   have hro:runOf T x y=if 0 < lo then 2 else if hi≤0 then 0 else 1:=by unfold runOf;rw[hlo',hhi']
   have hx9:At w9 b11 [.int .i64 lo,.int .i64 hi]:=by rw[hlo',hhi'];exact hx9.at_
   obtain⟨c0,c1⟩:=hx9.c2
   rw[←hlo',←hhi']
   clear y0 y1 y2 y3 hHeld hT hbc X11 Hw9 hx9 hlo hhi hlo' hhi'
   unfold onNormV
   dsimp only
   by_cases h1:0 < lo
   ·have Hr:=hide (show runOf T x y=2 by rw[hro,if_pos h1])
    clear hro
    go_wp2_with (at_builtin;refine wpList_app1 (v:=u8) (xs:=runsTo T pts k) (base:=w3.heap.size) (k:=1) (bytes:=1) (E:=5) el_u8i rfl (.tmp 61) (.tmp 63) rfl rfl rfl Ho9.out (2:Int) rfl hlen hB9.out.size ?_;intro v' w10 o10 k10;have O10:=hide o10;have K10:=hide k10;clear o10 k10)
    exact⟨⟨k+1,by omega,by go_num,hide (by rw[Hnx.out,Hr.out];exact O10.out),hB9.out.trans K10.out⟩,by simp[intOf];omega⟩
   by_cases h2:hi≤0
   ·have Hr:=hide (show runOf T x y=0 by rw[hro,if_neg h1,if_pos h2])
    clear hro
    go_wp2_with (at_builtin;refine wpList_app1 (v:=u8) (xs:=runsTo T pts k) (base:=w3.heap.size) (k:=1) (bytes:=1) (E:=5) el_u8i rfl (.tmp 61) (.tmp 63) rfl rfl rfl Ho9.out (0:Int) rfl hlen hB9.out.size ?_;intro v' w10 o10 k10;have O10:=hide o10;have K10:=hide k10;clear o10 k10)
    exact⟨⟨k+1,by omega,by go_num,hide (by rw[Hnx.out,Hr.out];exact O10.out),hB9.out.trans K10.out⟩,by simp[intOf];omega⟩
   ·have Hr:=hide (show runOf T x y=1 by rw[hro,if_neg h1,if_neg h2])
    clear hro
    go_wp2_with (at_builtin;refine wpList_app1 (v:=u8) (xs:=runsTo T pts k) (base:=w3.heap.size) (k:=1) (bytes:=1) (E:=5) el_u8i rfl (.tmp 61) (.tmp 63) rfl rfl rfl Ho9.out (1:Int) rfl hlen hB9.out.size ?_;intro v' w10 o10 k10;have O10:=hide o10;have K10:=hide k10;clear o10 k10)
    exact⟨⟨k+1,by omega,by go_num,hide (by rw[Hnx.out,Hr.out];exact O10.out),hB9.out.trans K10.out⟩,by simp[intOf];omega⟩
  ·obtain rfl:n=k+1:=by omega
   go_wp2_with fail
   go_ret2
   exact⟨_,rfl,by rw[←HTe.out];exact ho.out.mono HB3.out.size,HB3.out.trans (hkp.below (fun b h=>Nat.lt_of_lt_of_le h HB3.out.size) HB3.out.size)⟩
end Go.Proofs.YtiioegopckoldaaGreatDoor
namespace Go.Proofs.YtiioegopckoldaaGreatDoor
open Go.RowKit Go.Shelf
theorem indexfunc_Sp (f:FuncId) (cp:Array Value) (p:Sp→Bool) (A:Option Addr) (xs:List Sp) (n c:Nat) (w:World) (hn:n=xs.length) (hm:n≤9223372036854775807)
 (eg:∀args w,(callFunc f args).run Tryz.prog w= .ok (.enter f args) w) (hx:Rd w w.heap.size Sp.cells A xs)
 (hf:∀lo hi w',(⟨lo,hi⟩:Sp)∈xs→Below w.heap.size w w'→Calls Tryz.prog f (#[.agg #[.int .i64 lo,.int .i64 hi]] ++ cp) w' fun e w''=>e= .returned (.bool (p ⟨lo,hi⟩))∧Below w'.heap.size w' w'') :
 Calls Tryz.prog 199 #[.slice A n c,.func (.func f) #[] cp] w fun e w'=>∃r:Int,e= .returned (.int .i64 r)∧decide (0≤r)=xs.any p∧Below w.heap.size w w':=by
 have Hn:=hide hn;clear hn
 have Hx:=hide hx;clear hx
 have Hf:=hide hf;clear hf
 go_enter Tryz.func199,Tryz.ntmps199
 go_wp2_with fail
 go_loopw [4,8] (fun v i wr=>∃k:Nat,k≤n∧i= .int .i64 k∧Below w.heap.size w wr∧Hid (∀y∈xs.take k,p y=false)) (fun _ i _=>n-(intOf i).toNat)
 case atStart=>exact⟨0,by omega,rfl,Below.refl _ _,hide pre_nil⟩
 case round=>
  obtain⟨k,hk,rfl,hb,hpre⟩:=hrel
  by_cases hlt:k < n
  ·obtain⟨b,off,lo,hi,rfl,hB,hxk,hc0,hc1⟩:=(Hx.out.below hb).sp (i:=k) (by have:=Hn.out;omega)
   have H:=hide (Hf.out lo hi wr (List.mem_of_getElem? hxk) hb)
   have Hxk:=hide hxk;clear hxk
   go_wp2_with (go_at_fn f;refine H.out.mono ?_;rintro e w' ⟨rfl,hb'⟩)
   ·go_ret
    have hp:p ⟨lo,hi⟩=true:=by assumption
    exact⟨k,rfl,by rw[any_hit Hxk.out hp];simp,hb.trans (hb'.mono hb.size)⟩
   ·have hp:p ⟨lo,hi⟩=false:=by assumption
    exact⟨⟨k+1,by omega,by go_num,hb.trans (hb'.mono hb.size),hide (pre_snoc Hxk.out hp hpre.out)⟩,by simp[intOf];omega⟩
  ·go_wp2
   go_ret
   exact⟨-1,rfl,by rw[any_miss (k:=k) (by have:=Hn.out;omega) hpre.out];simp,hb⟩
theorem containsfunc_Sp (f:FuncId) (cp:Array Value) (p:Sp→Bool) (A:Option Addr) (xs:List Sp) (n c:Nat) (w:World) (hn:n=xs.length) (hm:n≤9223372036854775807)
 (eg:∀args w,(callFunc f args).run Tryz.prog w= .ok (.enter f args) w) (hx:Rd w w.heap.size Sp.cells A xs)
 (hf:∀lo hi w',(⟨lo,hi⟩:Sp)∈xs→Below w.heap.size w w'→Calls Tryz.prog f (#[.agg #[.int .i64 lo,.int .i64 hi]] ++ cp) w' fun e w''=>e= .returned (.bool (p ⟨lo,hi⟩))∧Below w'.heap.size w' w'') :
 Calls Tryz.prog 151 #[.slice A n c,.func (.func f) #[] cp] w fun e w'=>e= .returned (.bool (xs.any p))∧Below w.heap.size w w':=by
 have H:=hide (indexfunc_Sp f cp p A xs n c w hn hm eg hx hf);clear hx hf hn eg
 go_enter Tryz.func151,Tryz.ntmps151
 go_wp2_with (go_at_call 199;refine H.out.mono ?_;rintro e w' ⟨r,rfl,hr,hb⟩;have Hr:=hide hr;clear hr)
 go_ret
 exact⟨by rw[←Hr.out];rfl,hb⟩
theorem indexfunc_Rc (f:FuncId) (cp:Array Value) (p:Rc→Bool) (A:Option Addr) (xs:List Rc) (n c:Nat) (w:World) (hn:n=xs.length) (hm:n≤9223372036854775807)
 (eg:∀args w,(callFunc f args).run Tryz.prog w= .ok (.enter f args) w) (hx:Rd w w.heap.size Rc.cells A xs)
 (hf:∀c0 c1 l0 l1 g0 g1 w',(⟨⟨c0,c1⟩,⟨l0,l1⟩,⟨g0,g1⟩⟩:Rc)∈xs→Below w.heap.size w w'→Calls Tryz.prog f (#[.agg #[.int .i64 c0,.int .i64 c1,.int .i64 l0,.int .i64 l1,.int .i64 g0,.int .i64 g1]] ++ cp) w' fun e w''=>e= .returned (.bool (p ⟨⟨c0,c1⟩,⟨l0,l1⟩,⟨g0,g1⟩⟩))∧Below w'.heap.size w' w'') :
 Calls Tryz.prog 198 #[.slice A n c,.func (.func f) #[] cp] w fun e w'=>∃r:Int,e= .returned (.int .i64 r)∧decide (0≤r)=xs.any p∧Below w.heap.size w w':=by
 have Hn:=hide hn;clear hn
 have Hx:=hide hx;clear hx
 have Hf:=hide hf;clear hf
 go_enter Tryz.func198,Tryz.ntmps198
 go_wp2_with fail
 go_loopw [4,8] (fun v i wr=>∃k:Nat,k≤n∧i= .int .i64 k∧Below w.heap.size w wr∧Hid (∀y∈xs.take k,p y=false)) (fun _ i _=>n-(intOf i).toNat)
 case atStart=>exact⟨0,by omega,rfl,Below.refl _ _,hide pre_nil⟩
 case round=>
  obtain⟨k,hk,rfl,hb,hpre⟩:=hrel
  by_cases hlt:k < n
  ·obtain⟨b,off,c0,c1,l0,l1,g0,g1,rfl,hB,hxk,hc0,hc1,hc2,hc3,hc4,hc5⟩:=(Hx.out.below hb).rc (i:=k) (by have:=Hn.out;omega)
   have H:=hide (Hf.out c0 c1 l0 l1 g0 g1 wr (List.mem_of_getElem? hxk) hb)
   have Hxk:=hide hxk;clear hxk
   go_wp2_with (go_at_fn f;refine H.out.mono ?_;rintro e w' ⟨rfl,hb'⟩)
   ·go_ret
    have hp:p ⟨⟨c0,c1⟩,⟨l0,l1⟩,⟨g0,g1⟩⟩=true:=by assumption
    exact⟨k,rfl,by rw[any_hit Hxk.out hp];simp,hb.trans (hb'.mono hb.size)⟩
   ·have hp:p ⟨⟨c0,c1⟩,⟨l0,l1⟩,⟨g0,g1⟩⟩=false:=by assumption
    exact⟨⟨k+1,by omega,by go_num,hb.trans (hb'.mono hb.size),hide (pre_snoc Hxk.out hp hpre.out)⟩,by simp[intOf];omega⟩
  ·go_wp2
   go_ret
   exact⟨-1,rfl,by rw[any_miss (k:=k) (by have:=Hn.out;omega) hpre.out];simp,hb⟩
theorem containsfunc_Rc (f:FuncId) (cp:Array Value) (p:Rc→Bool) (A:Option Addr) (xs:List Rc) (n c:Nat) (w:World) (hn:n=xs.length) (hm:n≤9223372036854775807)
 (eg:∀args w,(callFunc f args).run Tryz.prog w= .ok (.enter f args) w) (hx:Rd w w.heap.size Rc.cells A xs)
 (hf:∀c0 c1 l0 l1 g0 g1 w',(⟨⟨c0,c1⟩,⟨l0,l1⟩,⟨g0,g1⟩⟩:Rc)∈xs→Below w.heap.size w w'→Calls Tryz.prog f (#[.agg #[.int .i64 c0,.int .i64 c1,.int .i64 l0,.int .i64 l1,.int .i64 g0,.int .i64 g1]] ++ cp) w' fun e w''=>e= .returned (.bool (p ⟨⟨c0,c1⟩,⟨l0,l1⟩,⟨g0,g1⟩⟩))∧Below w'.heap.size w' w'') :
 Calls Tryz.prog 149 #[.slice A n c,.func (.func f) #[] cp] w fun e w'=>e= .returned (.bool (xs.any p))∧Below w.heap.size w w':=by
 have H:=hide (indexfunc_Rc f cp p A xs n c w hn hm eg hx hf);clear hx hf hn eg
 go_enter Tryz.func149,Tryz.ntmps149
 go_wp2_with (go_at_call 198;refine H.out.mono ?_;rintro e w' ⟨r,rfl,hr,hb⟩;have Hr:=hide hr;clear hr)
 go_ret
 exact⟨by rw[←Hr.out];rfl,hb⟩
theorem indexfunc_Ga (f:FuncId) (cp:Array Value) (p:Ga→Bool) (A:Option Addr) (xs:List Ga) (n c:Nat) (w:World) (hn:n=xs.length) (hm:n≤9223372036854775807)
 (eg:∀args w,(callFunc f args).run Tryz.prog w= .ok (.enter f args) w) (hx:Rd w w.heap.size Ga.cells A xs)
 (hf:∀s lo hi w',(⟨s,⟨lo,hi⟩⟩:Ga)∈xs→Below w.heap.size w w'→Calls Tryz.prog f (#[.agg #[.int .i64 s,.int .i64 lo,.int .i64 hi]] ++ cp) w' fun e w''=>e= .returned (.bool (p ⟨s,⟨lo,hi⟩⟩))∧Below w'.heap.size w' w'') :
 Calls Tryz.prog 153 #[.slice A n c,.func (.func f) #[] cp] w fun e w'=>∃r:Int,e= .returned (.int .i64 r)∧decide (0≤r)=xs.any p∧Below w.heap.size w w':=by
 have Hn:=hide hn;clear hn
 have Hx:=hide hx;clear hx
 have Hf:=hide hf;clear hf
 go_enter Tryz.func153,Tryz.ntmps153
 go_wp2_with fail
 go_loopw [4,8] (fun v i wr=>∃k:Nat,k≤n∧i= .int .i64 k∧Below w.heap.size w wr∧Hid (∀y∈xs.take k,p y=false)) (fun _ i _=>n-(intOf i).toNat)
 case atStart=>exact⟨0,by omega,rfl,Below.refl _ _,hide pre_nil⟩
 case round=>
  obtain⟨k,hk,rfl,hb,hpre⟩:=hrel
  by_cases hlt:k < n
  ·obtain⟨b,off,s,lo,hi,rfl,hB,hxk,hc0,hc1,hc2⟩:=(Hx.out.below hb).ga (i:=k) (by have:=Hn.out;omega)
   have H:=hide (Hf.out s lo hi wr (List.mem_of_getElem? hxk) hb)
   have Hxk:=hide hxk;clear hxk
   go_wp2_with (go_at_fn f;refine H.out.mono ?_;rintro e w' ⟨rfl,hb'⟩)
   ·go_ret
    have hp:p ⟨s,⟨lo,hi⟩⟩=true:=by assumption
    exact⟨k,rfl,by rw[any_hit Hxk.out hp];simp,hb.trans (hb'.mono hb.size)⟩
   ·have hp:p ⟨s,⟨lo,hi⟩⟩=false:=by assumption
    exact⟨⟨k+1,by omega,by go_num,hb.trans (hb'.mono hb.size),hide (pre_snoc Hxk.out hp hpre.out)⟩,by simp[intOf];omega⟩
  ·go_wp2
   go_ret
   exact⟨-1,rfl,by rw[any_miss (k:=k) (by have:=Hn.out;omega) hpre.out];simp,hb⟩
theorem containsfunc_Ga (f:FuncId) (cp:Array Value) (p:Ga→Bool) (A:Option Addr) (xs:List Ga) (n c:Nat) (w:World) (hn:n=xs.length) (hm:n≤9223372036854775807)
 (eg:∀args w,(callFunc f args).run Tryz.prog w= .ok (.enter f args) w) (hx:Rd w w.heap.size Ga.cells A xs)
 (hf:∀s lo hi w',(⟨s,⟨lo,hi⟩⟩:Ga)∈xs→Below w.heap.size w w'→Calls Tryz.prog f (#[.agg #[.int .i64 s,.int .i64 lo,.int .i64 hi]] ++ cp) w' fun e w''=>e= .returned (.bool (p ⟨s,⟨lo,hi⟩⟩))∧Below w'.heap.size w' w'') :
 Calls Tryz.prog 83 #[.slice A n c,.func (.func f) #[] cp] w fun e w'=>e= .returned (.bool (xs.any p))∧Below w.heap.size w w':=by
 have H:=hide (indexfunc_Ga f cp p A xs n c w hn hm eg hx hf);clear hx hf hn eg
 go_enter Tryz.func83,Tryz.ntmps83
 go_wp2_with (go_at_call 153;refine H.out.mono ?_;rintro e w' ⟨r,rfl,hr,hb⟩;have Hr:=hide hr;clear hr)
 go_ret
 exact⟨by rw[←Hr.out];rfl,hb⟩
end Go.Proofs.YtiioegopckoldaaGreatDoor
namespace Go.Proofs.YtiioegopckoldaaGreatDoor
open Go.RowKit Go.Shelf
def Sp.bad (hi:Int) (s:Sp):Bool:=decide (s.lo < 0) || decide (s.hi < s.lo) || decide (hi < s.hi)
set_option maxHeartbeats 400000 in
theorem from_any (lo hi n:Int) (w:World) :
 Calls Tryz.prog 82 #[.int .i64 lo,.int .i64 hi,.int .i64 n] w fun e w'=>e= .returned (.bool (inB lo hi n))∧w=w':=by
 by_cases h:lo≤n
 all_goals
  go_enter Tryz.func82,Tryz.ntmps82
  go_wp2
  go_ret
  exact⟨by first | (simp[inB,h];done) | (simp[inB,h];omega),rfl⟩
set_option maxHeartbeats 400000 in
theorem within_any (lo hi n:Int) (w:World) :
 Calls Tryz.prog 30 #[.int .i64 n,.int .i64 lo,.int .i64 hi] w fun e w'=>e= .returned (.bool (inB lo hi n))∧w=w':=by
 by_cases h:lo≤n
 all_goals
  go_enter Tryz.func30,Tryz.ntmps30
  go_wp2
  go_ret
  exact⟨by first | (simp[inB,h];done) | (simp[inB,h];omega),rfl⟩
set_option maxHeartbeats 400000 in
theorem proper1_any (lo hi m:Int) (p:Nat) (w:World) (hp:w.cell? ⟨p,0,none⟩=some (.int .i64 m)) (hs:p < w.heap.size) :
 Calls Tryz.prog 152 #[.agg #[.int .i64 lo,.int .i64 hi],.pointer (some ⟨p,0,none⟩)] w fun e w'=>e= .returned (.bool (Sp.bad m ⟨lo,hi⟩))∧Below w.heap.size w w':=by
 by_cases h:lo < 0
 ·go_enter Tryz.func152,Tryz.ntmps152
  go_wp2
  go_ret
  exact⟨by simp[Sp.bad,h],(Below.refl _ _).alloc (Nat.le_refl _) _⟩
 ·by_cases h2:hi < lo
  all_goals
   go_enter Tryz.func152,Tryz.ntmps152
   go_wp2
   go_ret
   exact⟨by first | (simp[Sp.bad,h2];done) | (simp[Sp.bad,h2];omega),(Below.refl _ _).alloc (Nat.le_refl _) _⟩
end Go.Proofs.YtiioegopckoldaaGreatDoor
namespace Go.Proofs.YtiioegopckoldaaGreatDoor
open Go.RowKit Go.Shelf
def anyBad (m:Int) (xs:List Sp):Bool:=xs.any (Sp.bad m)
theorem enters_proper1:∀args w,(callFunc 152 args).run Tryz.prog w= .ok (.enter 152 args) w:=enters_of Tryz.func152 (by kernel_rfl) rfl
set_option maxHeartbeats 400000 in
theorem proper_any (m:Int) (A:Option Addr) (xs:List Sp) (n c:Nat) (w:World) (hn:n=xs.length) (hm:n≤9223372036854775807) (hx:Rd w w.heap.size Sp.cells A xs) :
 Calls Tryz.prog 80 #[.int .i64 m,.slice A n c] w fun e w'=>e= .returned (.bool (!(anyBad m xs)))∧Below w.heap.size w w':=by
 have hb0:Below w.heap.size w (w.alloc (.cells #[.int .i64 m] 3)):=(Below.refl _ _).alloc (Nat.le_refl _) _
 have hc0:(w.alloc (.cells #[.int .i64 m] 3)).cell? ⟨w.heap.size,0,none⟩=some (.int .i64 m):=cell_new _ _ _ _ _ rfl
 have H:=hide (containsfunc_Sp 152 #[.pointer (some ⟨w.heap.size,0,none⟩)] (Sp.bad m) A xs n c (w.alloc (.cells #[.int .i64 m] 3)) hn hm enters_proper1 ((hx.below hb0).more (by simp))
  (fun lo hi w' _ hb=>proper1_any lo hi m w.heap.size w' ((hb.cell (p:=⟨w.heap.size,0,none⟩) (by simp)).trans hc0) (by have:=hb.size;simp at this;omega)))
 clear hx hn hc0
 go_enter Tryz.func80,Tryz.ntmps80
 go_wp2_with (go_at_call 151;refine H.out.mono ?_;rintro e w' ⟨rfl,hb⟩)
 go_ret
 exact⟨rfl,hb0.trans (hb.mono (by simp))⟩
def Rc.bad (r:Rc):Bool:=anyBad 1000000 [r.cap,r.leak,r.gain]
set_option maxHeartbeats 400000 in
theorem check1_any (c0 c1 l0 l1 g0 g1:Int) (w:World) :
 Calls Tryz.prog 148 #[.agg #[.int .i64 c0,.int .i64 c1,.int .i64 l0,.int .i64 l1,.int .i64 g0,.int .i64 g1]] w fun e w'=>e= .returned (.bool (!(Rc.bad ⟨⟨c0,c1⟩,⟨l0,l1⟩,⟨g0,g1⟩⟩)))∧Below w.heap.size w w':=by
 go_enter Tryz.func148,Tryz.ntmps148
 go_wp2_with fail
 have hr:=Rd.new (cells:=Sp.cells) (w.alloc (.cells #[.int .i64 c0,.int .i64 c1,.int .i64 l0,.int .i64 l1,.int .i64 g0,.int .i64 g1] 47)) #[.int .i64 c0,.int .i64 c1,.int .i64 l0,.int .i64 l1,.int .i64 g0,.int .i64 g1] 24 [⟨c0,c1⟩,⟨l0,l1⟩,⟨g0,g1⟩] rfl
 refine(proper_any 1000000 _ [⟨c0,c1⟩,⟨l0,l1⟩,⟨g0,g1⟩] 3 3 _ rfl (by omega) (by simpa using hr)).mono ?_
 rintro e w' ⟨rfl,hb⟩
 clear hr
 go_wp2
 go_ret
 exact⟨rfl,((below_new w _).alloc (by simp) _).trans (hb.mono (by simp;omega))⟩
set_option maxHeartbeats 400000 in
theorem check2_any (c0 c1 l0 l1 g0 g1:Int) (p:Nat) (w:World) (hp:w.cell? ⟨p,0,none⟩=some (.func (.func 148) #[] #[])) (hs:p < w.heap.size) :
 Calls Tryz.prog 150 #[.agg #[.int .i64 c0,.int .i64 c1,.int .i64 l0,.int .i64 l1,.int .i64 g0,.int .i64 g1],.pointer (some ⟨p,0,none⟩)] w fun e w'=>e= .returned (.bool (Rc.bad ⟨⟨c0,c1⟩,⟨l0,l1⟩,⟨g0,g1⟩⟩))∧Below w.heap.size w w':=by
 go_enter Tryz.func150,Tryz.ntmps150
 go_wp2_with (go_at_call 148;refine(check1_any _ _ _ _ _ _ _).mono ?_;rintro e w' ⟨rfl,hb⟩)
 go_ret
 exact⟨by simp,(below_new w _).trans (hb.mono (by simp))⟩
theorem enters_check2:∀args w,(callFunc 150 args).run Tryz.prog w= .ok (.enter 150 args) w:=enters_of Tryz.func150 (by kernel_rfl) rfl
def gOk (g:List Rc):Bool:=inB 1 12 g.length && !(g.any Rc.bad)
def gCheck (g:List Rc):Int:=if gOk g then 0 else 20
set_option maxHeartbeats 400000 in
theorem check_any (A:Option Addr) (g:List Rc) (n c:Nat) (w:World) (hn:n=g.length) (hm:n≤9223372036854775807) (hx:Rd w w.heap.size Rc.cells A g) :
 Calls Tryz.prog 79 #[.slice A n c] w fun e w'=>e= .returned (.int .i64 (gCheck g))∧Below w.heap.size w w':=by
 have hb0:Below w.heap.size w (w.alloc (.cells #[.func (.func 148) #[] #[]] 262)):=below_new _ _
 have hc0:(w.alloc (.cells #[.func (.func 148) #[] #[]] 262)).cell? ⟨w.heap.size,0,none⟩=some (.func (.func 148) #[] #[]):=cell_new _ _ _ _ _ rfl
 have H:=hide (containsfunc_Rc 150 #[.pointer (some ⟨w.heap.size,0,none⟩)] Rc.bad A g n c (w.alloc (.cells #[.func (.func 148) #[] #[]] 262)) hn hm enters_check2 ((hx.below hb0).more (by simp))
  (fun c0 c1 l0 l1 g0 g1 w' _ hb=>check2_any c0 c1 l0 l1 g0 g1 w.heap.size w' ((hb.cell (p:=⟨w.heap.size,0,none⟩) (by simp)).trans hc0) (by have:=hb.size;simp at this;omega)))
 clear hx hc0
 have Hn:=hide hn;clear hn
 cases h:inB 1 12 n
 all_goals
  have Hi:=hide h;clear h
  go_enter Tryz.func79,Tryz.ntmps79
  go_wp2_with (first | (go_at_call 82;refine(from_any _ _ _ _).mono ?_;rintro e w' ⟨rfl,rfl⟩;rw[Hi.out]) | (go_at_call 149;refine H.out.mono ?_;rintro e w' ⟨rfl,hb⟩))
  all_goals
   go_ret
   have h1:=Hi.out
   have h2:=Hn.out
   subst h2
   clear H Hi Hn
   exact⟨by simp[gCheck,gOk,h1, *],by first | exact hb0 | exact hb0.trans (hb.mono (by simp))⟩
end Go.Proofs.YtiioegopckoldaaGreatDoor
namespace Go.Proofs.YtiioegopckoldaaGreatDoor
open Go.RowKit Go.Shelf
attribute [local go_sem] ite_min ite_max
def Ga.bad (n:Int) (x:Ga):Bool:=!(inB 0 n x.shaft) || anyBad 13000000 [x.flow]
set_option maxHeartbeats 400000 in
theorem enter1_any (s lo hi:Int) (p:Nat) (A:Option Addr) (n c:Nat) (w:World) (hm:n≤9223372036854775807) (hp:w.cell? ⟨p,0,none⟩=some (.slice A n c)) (hs:p < w.heap.size) :
 Calls Tryz.prog 81 #[.agg #[.int .i64 s,.int .i64 lo,.int .i64 hi],.pointer (some ⟨p,0,none⟩)] w fun e w'=>e= .returned (.bool (Ga.bad n ⟨s,⟨lo,hi⟩⟩))∧Below w.heap.size w w':=by
 cases h:inB 0 n s
 ·have Hi:=hide h;clear h
  go_enter Tryz.func81,Tryz.ntmps81
  go_wp2_with (go_at_call 82;refine(from_any _ _ _ _).mono ?_;rintro e w' ⟨rfl,rfl⟩;rw[Hi.out])
  go_ret
  exact⟨by simp[Ga.bad,Hi.out],below_new _ _⟩
 ·have Hi:=hide h;clear h
  go_enter Tryz.func81,Tryz.ntmps81
  go_wp2_with (first | (go_at_call 82;refine(from_any _ _ _ _).mono ?_;rintro e w' ⟨rfl,rfl⟩;rw[Hi.out]) | fail)
  have hr:=Rd.new (cells:=Sp.cells) (w.alloc (.cells #[.int .i64 s,.int .i64 lo,.int .i64 hi] 185)) #[.int .i64 lo,.int .i64 hi] 24 [⟨lo,hi⟩] rfl
  refine(proper_any 13000000 _ [⟨lo,hi⟩] 1 1 _ rfl (by omega) (by simpa using hr)).mono ?_
  rintro e w' ⟨rfl,hb⟩
  clear hr
  go_wp2
  go_ret
  exact⟨by simp[Ga.bad,Hi.out],((below_new w _).alloc (by simp) _).trans (hb.mono (by simp;omega))⟩
theorem enters_enter1:∀args w,(callFunc 81 args).run Tryz.prog w= .ok (.enter 81 args) w:=enters_of Tryz.func81 (by kernel_rfl) rfl
def gasBad (g:List Rc) (l:List Ga):Bool:=decide (30 < l.length) || l.any (Ga.bad g.length)
def gEnter (g:List Rc) (s:Sp) (l:List Ga):Int:=if gOk g then(if anyBad 1000000 [s] then 21 else if gasBad g l then 23 else 0) else 20
set_option maxHeartbeats 1000000 in
theorem genter_any (A A':Option Addr) (g:List Rc) (lo hi:Int) (l:List Ga) (n c n' c':Nat) (w:World) (hn:n=g.length) (hm:n≤9223372036854775807) (hx:Rd w w.heap.size Rc.cells A g)
 (hn':n'=l.length) (hm':n'≤9223372036854775807) (hx':Rd w w.heap.size Ga.cells A' l) :
 Calls Tryz.prog 31 #[.slice A n c,.agg #[.int .i64 lo,.int .i64 hi],.slice A' n' c'] w fun e w'=>e= .returned (.int .i64 (gEnter g ⟨lo,hi⟩ l))∧Below w.heap.size w w':=by
 obtain⟨w1,hw1⟩:∃w1,w1=(w.alloc (.cells #[.slice A n c] 22)).alloc (.cells #[.int .i64 lo,.int .i64 hi] 24):=⟨_,rfl⟩
 have b1:Below w.heap.size w w1:=by rw[hw1];exact(below_new w _).alloc (by simp) _
 have s1:w1.heap.size=w.heap.size+2:=by rw[hw1];simp
 have p1:w1.cell? ⟨w.heap.size,0,none⟩=some (.slice A n c):=by rw[hw1];exact(World.cell?_alloc_lt _ _ _ (by simp)).trans (cell_new _ _ _ _ _ rfl)
 have q0:w1.cell? ⟨w.heap.size+1,0,none⟩=some (.int .i64 lo):=by rw[hw1];have:=cell_new (w.alloc (.cells #[.slice A n c] 22)) #[.int .i64 lo,.int .i64 hi] 24 0 _ rfl;rwa [World.size_alloc] at this
 have q1:w1.cell? ⟨w.heap.size+1,1,none⟩=some (.int .i64 hi):=by rw[hw1];have:=cell_new (w.alloc (.cells #[.slice A n c] 22)) #[.int .i64 lo,.int .i64 hi] 24 1 _ rfl;rwa [World.size_alloc] at this
 have HC:=hide (check_any A g n c w1 hn hm ((hx.below b1).more b1.size))
 have Hx':=hide (fun W (hb:Below w.heap.size w W)=>(hx'.below hb).more hb.size)
 have Hn:=hide hn;have Hn':=hide hn'
 clear hx hx' hn hn'
 have Hw1:=hide hw1.symm;clear hw1
 have hN:gEnter g ⟨lo,hi⟩ l=if gOk g then(if anyBad 1000000 [⟨lo,hi⟩] then 21 else if gasBad g l then 23 else 0) else 20:=rfl
 cases hg:gOk g
 ·have HC':=hide (show Calls Tryz.prog 79 #[.slice A n c] w1 fun e w'=>e= .returned (.int .i64 20)∧Below w1.heap.size w1 w' from by have:=HC.out;simpa[gCheck,hg] using this)
  have HN:=hide hN;have Hg:=hide hg;clear hN hg HC p1 q0 q1
  go_enter Tryz.func31,Tryz.ntmps31
  go_wp2_with fail
  rw[Hw1.out]
  go_wp2_with (go_at_call 79;refine HC'.out.mono ?_;rintro e w2 ⟨rfl,b2⟩)
  go_ret
  exact⟨by rw[HN.out,Hg.out];rfl,b1.trans (b2.mono b1.size)⟩
 ·have HC':=hide (show Calls Tryz.prog 79 #[.slice A n c] w1 fun e w'=>e= .returned (.int .i64 0)∧Below w1.heap.size w1 w' from by have:=HC.out;simpa[gCheck,hg] using this)
  have HN:=hide hN;have Hg:=hide hg;clear hN hg HC
  have Hp:=hide p1;have Hq0:=hide q0;have Hq1:=hide q1;clear p1 q0 q1
  go_enter Tryz.func31,Tryz.ntmps31
  go_wp2_with fail
  rw[Hw1.out]
  go_wp2_with fail
  refine HC'.out.mono ?_;rintro e w2 ⟨rfl,b2⟩
  have p2:w2.cell? ⟨w.heap.size,0,none⟩=some (.slice A n c):=(b2.cell (p:=⟨w.heap.size,0,none⟩) (by simp;omega)).trans Hp.out
  have q2:w2.cell? ⟨w.heap.size+1,0,none⟩=some (.int .i64 lo):=(b2.cell (p:=⟨w.heap.size+1,0,none⟩) (by simp;omega)).trans Hq0.out
  have q3:w2.cell? ⟨w.heap.size+1,1,none⟩=some (.int .i64 hi):=(b2.cell (p:=⟨w.heap.size+1,1,none⟩) (by simp;omega)).trans Hq1.out
  have Hr:=hide (Rd.new (cells:=Sp.cells) w2 #[.int .i64 lo,.int .i64 hi] 24 [⟨lo,hi⟩] rfl)
  have hPr:=fun h1 h2 h3=>proper_any 1000000 (some ⟨w2.heap.size,0,none⟩) [⟨lo,hi⟩] 1 1 (w2.alloc (.cells #[.int .i64 lo,.int .i64 hi] 24)) h1 h2 h3
  have bw2:Below w.heap.size w w2:=b1.trans (b2.mono b1.size)
  cases hs:anyBad 1000000 [⟨lo,hi⟩]
  ·rw[hs] at hPr
   have HPr:=hide hPr;have Hs:=hide hs;clear hPr hs
   go_wp2_with fail
   refine(HPr.out rfl (by omega) (by simpa using Hr.out)).mono ?_
   rintro e w3 ⟨rfl,b3⟩
   have b23:Below w2.heap.size w2 w3:=(below_new w2 _).trans (b3.mono (by simp))
   have bw3:Below w.heap.size w w3:=bw2.trans (b23.mono bw2.size)
   have p3:w3.cell? ⟨w.heap.size,0,none⟩=some (.slice A n c):=(b23.cell (p:=⟨w.heap.size,0,none⟩) (by have:=b2.size;simp;omega)).trans p2
   have s3:w.heap.size < w3.heap.size:=by have:=b2.size;have:=b23.size;omega
   have HF:=hide (containsfunc_Ga 81 #[.pointer (some ⟨w.heap.size,0,none⟩)] (Ga.bad n) A' l n' c' w3 Hn'.out hm' enters_enter1 (Hx'.out w3 bw3)
    (fun s lo hi W _ hb=>enter1_any s lo hi w.heap.size A n c W hm ((hb.cell (p:=⟨w.heap.size,0,none⟩) s3).trans p3) (by have:=hb.size;omega)))
   clear p2 q2 q3 p3 Hr b2 b3 HC' Hp Hq0 Hq1
   by_cases h30:n'≤30
   ·go_wp2_with (go_at_call 83;refine HF.out.mono ?_;rintro e w4 ⟨rfl,b4⟩)
    all_goals
     go_ret
     have h1:=HN.out
     rw[Hg.out,Hs.out] at h1
     have e1:=Hn.out
     have e2:=Hn'.out
     subst e1 e2
     clear HN Hg Hs HF Hx' Hn Hn' Hw1 HPr
     refine⟨?_,bw3.trans (b4.mono bw3.size)⟩
     have h2:gasBad g l=l.any (Ga.bad g.length):=by simp[gasBad];omega
     rw[h1,h2]
     clear h1 h2
     cases hq:l.any (Ga.bad g.length) <;> simp_all <;> omega
   ·go_wp2
    all_goals
     go_ret
     have h1:=HN.out
     rw[Hg.out,Hs.out] at h1
     have e2:=Hn'.out
     subst e2
     refine⟨?_,bw3⟩
     rw[h1]
     have:30 < l.length:=by omega
     simp[gasBad,this]
  ·rw[hs] at hPr
   have HPr:=hide hPr;have Hs:=hide hs;clear hPr hs
   go_wp2_with fail
   refine(HPr.out rfl (by omega) (by simpa using Hr.out)).mono ?_
   rintro e w3 ⟨rfl,b3⟩
   have bw3:Below w.heap.size w w3:=bw2.trans (((below_new w2 _).trans (b3.mono (by simp))).mono bw2.size)
   clear p2 q2 q3 Hr b2 b3 HC' Hp Hq0 Hq1
   go_wp2
   go_ret
   exact⟨by rw[HN.out,Hg.out,Hs.out];rfl,bw3⟩
end Go.Proofs.YtiioegopckoldaaGreatDoor
