/- lemmas for topRented_holds: DE3. No conditions. -/
import Derived.Test.YtiioegopckoldaaGreatDoorK05
import Derived.BigRegion
import Derived.BigQuiet
set_option linter.unusedVariables false
set_option linter.unusedSimpArgs false
namespace Go.Proofs.YtiioegopckoldaaGreatDoor
open Go.RowKit Go.Shelf
structure Dv where
 id:Int
 day:Int
 kind:Int
 fr:Int
 to:Int
 tf:Int
 tt:Int
 un:Int
 h:Sl
def Dv.cells (d:Dv):List Value:=[.int .i64 d.id,.int .i64 d.day,.int .u8 d.kind,.int .i64 d.fr,.int .i64 d.to,.int .i64 d.tf,.int .i64 d.tt,.int .i64 d.un,.slice d.h.a d.h.n d.h.c]
theorem Dv.len (d:Dv):d.cells.length=9:=rfl
theorem Dv.one (d:Dv):∀u∈d.cells,u.oneCell'=true:=by simp[Dv.cells,Value.oneCell']
def pairB (d:Dv):Bool:=inB 1 9999 d.to && (d.to != d.fr)
def deKind (days:Int) (d:Dv) (hs:List Sp):Bool:=
 if d.kind=1 then pairB d && (properB 0 (days*1440) d.tf d.tt && ((d.un == 0) && ((d.h.n:Int) == 0)))
 else if d.kind=2 then(d.to == 0) && (properB 0 (days*1440) d.tf d.tt && ((d.un == 0) && ((d.h.n:Int) == 0)))
 else if d.kind=3 then(d.to == 0) && (((d.tf == 0) && (d.tt == 0)) && ((d.un == 0) && inhB d.fr hs))
 else if d.kind=4 then pairB d && (properB 0 (days*1440) d.tf d.tt && (inB (d.day+1) 100001 d.un && ((d.h.n:Int) == 0)))
 else false
def deOk (days:Int) (d:Dv) (hs:List Sp):Bool:=inB 0 9999 d.id && (inB 0 100000 d.day && (inB 1 9999 d.fr && deKind days d hs))
theorem At.c9 {w:World} {p:Nat} {v0 v1 v2 v3 v4 v5 v6 v7 v8:Value} (h:At w p [v0,v1,v2,v3,v4,v5,v6,v7,v8]):w.cell? ⟨p,0,none⟩=some v0∧w.cell? ⟨p,1,none⟩=some v1∧w.cell? ⟨p,2,none⟩=some v2∧w.cell? ⟨p,3,none⟩=some v3∧w.cell? ⟨p,4,none⟩=some v4∧w.cell? ⟨p,5,none⟩=some v5∧w.cell? ⟨p,6,none⟩=some v6∧w.cell? ⟨p,7,none⟩=some v7∧w.cell? ⟨p,8,none⟩=some v8:=⟨h.2 0 _ rfl,h.2 1 _ rfl,h.2 2 _ rfl,h.2 3 _ rfl,h.2 4 _ rfl,h.2 5 _ rfl,h.2 6 _ rfl,h.2 7 _ rfl,h.2 8 _ rfl⟩
theorem eql_turn0 (x y:Int) (w:World):(Op.equalIn 10000 61 (.agg #[.int .i64 x,.int .i64 y]) (.agg #[.int .i64 0,.int .i64 0])).run Tryz.prog w= .ok ((x == 0) && (y == 0)) w:=by
 refine(run_equalIn_struct w 9999 _ _ _ (by kernel_rfl) (by kernel_rfl)).trans ?_
 simp[go_sem,Op.eqFields,Tryz.underlying61,Tryz.underlying3]
 by_cases h1:x=0 <;> by_cases h2:y=0 <;> simp[h1,h2]
set_option maxHeartbeats 4000000 in
set_option maxRecDepth 100000 in
theorem devalid4 (days:Int) (H:Option Addr) (nh ch:Nat) (id day fr to tf tt un:Int) (ha:Option Addr) (hn_ hc:Nat) (hs:List Sp) (w:World) (hd0:0≤days) (hd1:days≤16) (hn:hn_=hs.length) (hm:hn_≤9223372036854775807) (hx:Rd w w.heap.size Sp.cells ha hs) :
 Calls Tryz.prog 120 #[.agg #[.int .i64 days,.slice H nh ch],.agg #[.int .i64 id,.int .i64 day,.int .u8 4,.int .i64 fr,.int .i64 to,.int .i64 tf,.int .i64 tt,.int .i64 un,.slice ha hn_ hc]] w fun e w'=>e= .returned (.bool (deOk days ⟨id,day,4,fr,to,tf,tt,un,⟨ha,hn_,hc⟩⟩ hs))∧Below w.heap.size w w':=by
 obtain⟨b1,w1,e1,ew1,hx1,hb1,hz1⟩:=mk_bx w #[.int .i64 days,.slice H nh ch] 58
 obtain⟨b2,w2,e2,ew2,hx2,hb2,hz2⟩:=mk_bx w1 #[.int .i64 id,.int .i64 day,.int .u8 4,.int .i64 fr,.int .i64 to,.int .i64 tf,.int .i64 tt,.int .i64 un,.slice ha hn_ hc] 73
 have h12:b1+1=b2:=by rw[←e2.out,hz1]
 have HB2:=hide (hb1.trans (hb2.mono hb1.size))
 have HX1:=hide ((show At w1 b1 [.int .i64 days,.slice H nh ch] from hx1.at_).below hb2)
 have HX2:=hide (show At w2 b2 [.int .i64 id,.int .i64 day,.int .u8 4,.int .i64 fr,.int .i64 to,.int .i64 tf,.int .i64 tt,.int .i64 un,.slice ha hn_ hc] from hx2.at_)
 have Hz:Hid (∀w:World,(zeroValue 238).run Tryz.prog w= .ok (.agg #[.bool false,.bool false,.bool false,.bool false,.nilFunc]) w):=hide (fun w=>by kernel_rfl)
 have HS:=hide ((hx.bel hb1).bel hb2)
 have Hn:=hide hn
 clear hn hx hx1 hx2 hb1 hb2 hz1 hz2
 go_enter Tryz.func120,Tryz.ntmps120
 go_upto_region 1 with fail
 rw[ew1.out,e1.out,ew2.out,h12]
 clear ew1 e1 ew2 e2
 refine wp_region_held_drew (S:=(fun W=>Below w2.heap.size w2 W)) (by kernel_rfl) (by(try dsimp only);exact(Below.refl _ _).drew) (fun hHeld=>?_)
 generalize World.drew w2=Wd1 at hHeld ⊢
 have hbc:=Below.refl Wd1.heap.size Wd1
 refine tkH 1 ?_ rfl (Or.inl ⟨by rfl,?_⟩) hHeld ?_
 rotate_left
 ·(intro w _;go_simp;try(with_reducible rfl))
 try simp only[Act.put,tl1,tl2,tl3]
 refine tkH 2 ?_ rfl (Or.inl ⟨by rfl,?_⟩) hHeld ?_
 rotate_left
 ·(intro w hSw;(try dsimp only at hSw);have z2:=(HX2.out.bel hSw).2 2 _ rfl;go_simp;try(with_reducible rfl))
 try simp only[Act.put,tl1,tl2,tl3]
 refine cut3 (C:=fun (bm:Nat) (s:Nat) (b5:Nat) (Wc1_1:World)=>(MpU Tryz.prog 5 Wc1_1 bm 4 kindF s)∧(Bx Wc1_1 b5 [.bool false,.bool false,.bool false,.bool false,.nilFunc])∧(w2.heap.size≤b5)∧Below Wd1.heap.size Wd1 Wc1_1∧Below w2.heap.size w2 Wc1_1) (G:=?_) ?_ ?_
 rotate_left
 ·intro hCut
  replace hbc:=Below.refl Wd1.heap.size Wd1
  refine wpAnyH_ready (rs:=[0,7]) (by kernel_rfl) (by simp) ?_
  refine AllReadyH.cons (o:=⟨_,_,_,_,_,_⟩) rfl (fun K hK=>?_) ?_
  ·
   go_simp
   refine(dekinds_any _).mono ?_
   rintro e V12 ⟨bm,s,rfl,hM,hb⟩
   go_wp2_with fail
   have hHeldN:=hHeld.trans (hb.mono hHeld.size)
   have hbc:=hbc.trans (hb.mono hbc.size)
   refine hK.out _ _ ?_ (fun hHeld2=>?_)
   ·exact hHeldN
   clear hK K hHeldN hb;have hHeld:=hHeld2;clear hHeld2
   try simp only[Act.put,tl1,tl2,tl3]
   refine wpAnyH_ready (rs:=[3,7]) (by kernel_rfl) (by simp) ?_
   refine AllReadyH.cons (o:=⟨_,_,_,_,_,_⟩) rfl (fun K hK=>?_) ?_
   ·
    have hlk:=hM.look (T:=239) (E:=238) Tryz.underlying5 Tryz.underlying239 (Hz.out _) (k:=4) (by unfold okU;omega)
    rw[show kindF 4=some (.agg #[.bool true,.bool true,.bool true,.bool false,.func (.func 182) #[] #[]]) from rfl] at hlk
    simp only[Option.getD_some,Option.isSome_some,Option.getD_none,Option.isSome_none] at hlk
    go_simp
    clear hlk
    have hHeldN:=hHeld
    refine hK.out _ _ ?_ (fun hHeld2=>?_)
    ·exact hHeldN
    clear hK K hHeldN;have hHeld:=hHeld2;clear hHeld2
    try simp only[Act.put,tl1,tl2,tl3]
    iterate 3
     refine tkHl [4,5,6] ?_ rfl rfl (Or.inl ⟨by rfl,?_⟩) hHeld ?_
     rotate_left
     ·(intro w _;go_simp;try(with_reducible rfl))
     try simp only[Act.put,tl1,tl2,tl3]
    refine wpAnyH_ready (rs:=[7]) (by kernel_rfl) (by simp) ?_
    refine AllReadyH.cons (o:=⟨_,_,_,_,_,_⟩) rfl (fun K hK=>?_) AllReadyH.nil
    go_simp
    obtain⟨b5,V5,eb5,ev5,hx5,hb,hz5⟩:=mk_bx V12 #[.bool false,.bool false,.bool false,.bool false,.nilFunc] 238
    rw[ev5.out,eb5.out]
    have hge5:w2.heap.size≤b5:=by have:=eb5.out;have:=hHeld.size;omega
    clear ev5 eb5 hz5
    have hHeldN:=hHeld.trans (hb.mono hHeld.size)
    have hM:=hM.bel hb
    have hbc:=hbc.trans (hb.mono hbc.size)
    refine hK.out _ _ ?_ (fun hHeld2=>?_)
    ·exact hHeldN
    clear hK K hHeldN hb;have hHeld:=hHeld2;clear hHeld2
    try simp only[Act.put,tl1,tl2,tl3]
    exact hCut bm s b5 V5 ⟨hM,hx5,hge5,hbc,hHeld⟩
   refine AllReadyH.cons (o:=⟨_,_,_,_,_,_⟩) rfl (fun K hK=>?_) AllReadyH.nil
   go_simp
   obtain⟨b5,V5,eb5,ev5,hx5,hb,hz5⟩:=mk_bx V12 #[.bool false,.bool false,.bool false,.bool false,.nilFunc] 238
   rw[ev5.out,eb5.out]
   have hge5:w2.heap.size≤b5:=by have:=eb5.out;have:=hHeld.size;omega
   clear ev5 eb5 hz5
   have hHeldN:=hHeld.trans (hb.mono hHeld.size)
   have hM:=hM.bel hb
   have hbc:=hbc.trans (hb.mono hbc.size)
   refine hK.out _ _ ?_ (fun hHeld2=>?_)
   ·exact hHeldN
   clear hK K hHeldN hb;have hHeld:=hHeld2;clear hHeld2
   try simp only[Act.put,tl1,tl2,tl3]
   refine wpAnyH_ready (rs:=[3]) (by kernel_rfl) (by simp) ?_
   refine AllReadyH.cons (o:=⟨_,_,_,_,_,_⟩) rfl (fun K hK=>?_) AllReadyH.nil
   have hlk:=hM.look (T:=239) (E:=238) Tryz.underlying5 Tryz.underlying239 (Hz.out _) (k:=4) (by unfold okU;omega)
   rw[show kindF 4=some (.agg #[.bool true,.bool true,.bool true,.bool false,.func (.func 182) #[] #[]]) from rfl] at hlk
   simp only[Option.getD_some,Option.isSome_some,Option.getD_none,Option.isSome_none] at hlk
   go_simp
   clear hlk
   have hHeldN:=hHeld
   refine hK.out _ _ ?_ (fun hHeld2=>?_)
   ·exact hHeldN
   clear hK K hHeldN;have hHeld:=hHeld2;clear hHeld2
   try simp only[Act.put,tl1,tl2,tl3]
   iterate 3
    refine tkHl [4,5,6] ?_ rfl rfl (Or.inl ⟨by rfl,?_⟩) hHeld ?_
    rotate_left
    ·(intro w _;go_simp;try(with_reducible rfl))
    try simp only[Act.put,tl1,tl2,tl3]
   exact hCut bm s b5 V5 ⟨hM,hx5,hge5,hbc,hHeld⟩
  refine AllReadyH.cons (o:=⟨_,_,_,_,_,_⟩) rfl (fun K hK=>?_) AllReadyH.nil
  go_simp
  obtain⟨b5,V5,eb5,ev5,hx5,hb,hz5⟩:=mk_bx Wd1 #[.bool false,.bool false,.bool false,.bool false,.nilFunc] 238
  rw[ev5.out,eb5.out]
  have hge5:w2.heap.size≤b5:=by have:=eb5.out;have:=hHeld.size;omega
  clear ev5 eb5 hz5
  have hHeldN:=hHeld.trans (hb.mono hHeld.size)
  have hbc:=hbc.trans (hb.mono hbc.size)
  refine hK.out _ _ ?_ (fun hHeld2=>?_)
  ·exact hHeldN
  clear hK K hHeldN hb;have hHeld:=hHeld2;clear hHeld2
  try simp only[Act.put,tl1,tl2,tl3]
  refine wpAnyH_ready (rs:=[0]) (by kernel_rfl) (by simp) ?_
  refine AllReadyH.cons (o:=⟨_,_,_,_,_,_⟩) rfl (fun K hK=>?_) AllReadyH.nil
  go_simp
  refine(dekinds_any _).mono ?_
  rintro e V12 ⟨bm,s,rfl,hM,hb⟩
  go_wp2_with fail
  have hHeldN:=hHeld.trans (hb.mono hHeld.size)
  have hx5:=hx5.bel hb
  have hbc:=hbc.trans (hb.mono hbc.size)
  refine hK.out _ _ ?_ (fun hHeld2=>?_)
  ·exact hHeldN
  clear hK K hHeldN hb;have hHeld:=hHeld2;clear hHeld2
  try simp only[Act.put,tl1,tl2,tl3]
  refine wpAnyH_ready (rs:=[3]) (by kernel_rfl) (by simp) ?_
  refine AllReadyH.cons (o:=⟨_,_,_,_,_,_⟩) rfl (fun K hK=>?_) AllReadyH.nil
  have hlk:=hM.look (T:=239) (E:=238) Tryz.underlying5 Tryz.underlying239 (Hz.out _) (k:=4) (by unfold okU;omega)
  rw[show kindF 4=some (.agg #[.bool true,.bool true,.bool true,.bool false,.func (.func 182) #[] #[]]) from rfl] at hlk
  simp only[Option.getD_some,Option.isSome_some,Option.getD_none,Option.isSome_none] at hlk
  go_simp
  clear hlk
  have hHeldN:=hHeld
  refine hK.out _ _ ?_ (fun hHeld2=>?_)
  ·exact hHeldN
  clear hK K hHeldN;have hHeld:=hHeld2;clear hHeld2
  try simp only[Act.put,tl1,tl2,tl3]
  iterate 3
   refine tkHl [4,5,6] ?_ rfl rfl (Or.inl ⟨by rfl,?_⟩) hHeld ?_
   rotate_left
   ·(intro w _;go_simp;try(with_reducible rfl))
   try simp only[Act.put,tl1,tl2,tl3]
  exact hCut bm s b5 V12 ⟨hM,hx5,hge5,hbc,hHeld⟩
 intro bm s b5 Wc1_1 ⟨hM,hx5,hge5,hbN,hHeldN⟩
 have hbc:=hbc.trans (hbN.mono hbc.size);clear hHeld hbN;have hHeld:=hHeldN;clear hHeldN
 refine wpAnyH_ready (rs:=[8]) (by kernel_rfl) (by simp) ?_
 refine AllReadyH.cons (o:=⟨_,_,_,_,_,_⟩) rfl (fun K hK=>?_) AllReadyH.nil
 have X5:=hide hx5
 have y:=hx5.at_
 have fz:=hx5.fz
 have y0:=y.2 0 _ rfl
 have y1:=y.2 1 _ rfl
 have y2:=y.2 2 _ rfl
 have y3:=y.2 3 _ rfl
 have y4:=y.2 4 _ rfl
 have f0:=fz 0
 have f1:=fz 1
 have f2:=fz 2
 have f3:=fz 3
 have f4:=fz 4
 clear y fz hx5
 have hH:=hHeld
 go_simp
 clear y0 y1 y2 y3 y4 f0 f1 f2 f3 f4
 refine hK.out _ _ ?_ (fun hHeld2=>?_)
 ·(try dsimp only);exact(((((hH.setCell (p:=⟨b5,0,none⟩) hge5 (.bool true)).setCell (p:=⟨b5,1,none⟩) hge5 (.bool true)).setCell (p:=⟨b5,2,none⟩) hge5 (.bool true)).setCell (p:=⟨b5,3,none⟩) hge5 (.bool false)).setCell (p:=⟨b5,4,none⟩) hge5 (.func (.func 182) #[] #[]))
 clear hK K hHeld;have hHeld:=hHeld2;clear hHeld2
 try simp only[Act.put,tl1,tl2,tl3]
 refine tkH 9 ?_ rfl (Or.inl ⟨by rfl,?_⟩) hHeld ?_
 rotate_left
 ·(intro w _;go_simp;try(with_reducible rfl))
 try simp only[Act.put,tl1,tl2,tl3]
 refine wpAnyH_done (by kernel_rfl) ?_ _
 have XF:=(((((X5.out.set (.bool true) (j:=0) (by simp)).set (.bool true) (j:=1) (by simp)).set (.bool true) (j:=2) (by simp)).set (.bool false) (j:=3) (by simp)).set (.func (.func 182) #[] #[]) (j:=4) (by simp))
 generalize (((((Wc1_1.setCell ⟨b5,0,none⟩ (.bool true)).setCell ⟨b5,1,none⟩ (.bool true)).setCell ⟨b5,2,none⟩ (.bool true)).setCell ⟨b5,3,none⟩ (.bool false)).setCell ⟨b5,4,none⟩ (.func (.func 182) #[] #[]))=w5 at hHeld XF ⊢
 have X5:=hide (show Bx w5 b5 [.bool true,.bool true,.bool true,.bool false,.func (.func 182) #[] #[]] from XF)
 have H5:=hide (HB2.out.trans (hHeld.mono HB2.out.size))
 have HX1:=hide (HX1.out.below hHeld);have HX2:=hide (HX2.out.below hHeld);have HS:=hide (HS.out.bel hHeld)
 clear XF hHeld hbc hM Hz hge5
 obtain⟨x0,x1,x2,x3,x4,x5,x6,x7,x8⟩:=HX2.out.c9
 cases ci:inB 0 9999 id
 ·have he:=hide (show deOk days ⟨id,day,4,fr,to,tf,tt,un,⟨ha,hn_,hc⟩⟩ hs=false by simp[deOk,ci])
  have Ci:=hide ci
  clear ci
  go_wp2_with fail
  refine(dein_fn _ _ _ _).mono ?_
  rintro e w' ⟨rfl,rfl⟩
  rw[Ci.out]
  go_wp2_with fail
  go_ret
  exact⟨ret_bool he.out.symm,H5.out⟩
 cases cd:inB 0 100000 day
 ·have he:=hide (show deOk days ⟨id,day,4,fr,to,tf,tt,un,⟨ha,hn_,hc⟩⟩ hs=false by simp[deOk,cd])
  have Ci:=hide ci;have Cd:=hide cd
  clear ci cd
  go_wp2_with fail
  refine(dein_fn _ _ _ _).mono ?_
  rintro e w' ⟨rfl,rfl⟩
  rw[Ci.out]
  go_wp2_with fail
  refine(dein_fn _ _ _ _).mono ?_
  rintro e w' ⟨rfl,rfl⟩
  rw[Cd.out]
  go_wp2_with fail
  go_ret
  exact⟨ret_bool he.out.symm,H5.out⟩
 cases cf:inB 1 9999 fr
 ·have he:=hide (show deOk days ⟨id,day,4,fr,to,tf,tt,un,⟨ha,hn_,hc⟩⟩ hs=false by simp[deOk,cf])
  have Ci:=hide ci;have Cd:=hide cd;have Cf:=hide cf
  clear ci cd cf
  go_wp2_with fail
  refine(dein_fn _ _ _ _).mono ?_
  rintro e w' ⟨rfl,rfl⟩
  rw[Ci.out]
  go_wp2_with fail
  refine(dein_fn _ _ _ _).mono ?_
  rintro e w' ⟨rfl,rfl⟩
  rw[Cd.out]
  go_wp2_with fail
  refine(deperson_fn _ _).mono ?_
  rintro e w' ⟨rfl,rfl⟩
  rw[Cf.out]
  go_wp2_with fail
  go_ret
  exact⟨ret_bool he.out.symm,H5.out⟩
 have Hde:=hide (show deOk days ⟨id,day,4,fr,to,tf,tt,un,⟨ha,hn_,hc⟩⟩ hs=deKind days ⟨id,day,4,fr,to,tf,tt,un,⟨ha,hn_,hc⟩⟩ hs by simp[deOk,ci,cd,cf])
 have Ci:=hide ci;have Cd:=hide cd;have Cf:=hide cf
 have hday:0≤day∧day≤100000:=by simpa[inB] using cd
 clear ci cd cf
 go_wp2_with fail
 refine(dein_fn _ _ _ _).mono ?_
 rintro e w' ⟨rfl,rfl⟩
 rw[Ci.out]
 go_wp2_with fail
 refine(dein_fn _ _ _ _).mono ?_
 rintro e w' ⟨rfl,rfl⟩
 rw[Cd.out]
 go_wp2_with fail
 refine(deperson_fn _ _).mono ?_
 rintro e w' ⟨rfl,rfl⟩
 rw[Cf.out]
 have fd:IntKind.i64.wrap (day+1)=day+1:=wrapI (by omega)
 have hq:=eql_turn0 tf tt
 go_upto_region 4 with fail
 go_quiet (fail)
 obtain⟨w6,hw6⟩:∃w6,Hid (w5.drewN nq=w6):=⟨_,hide rfl⟩
 have hb6:Below w5.heap.size w5 w6:=by rw[←hw6.out];exact below_drewN (Below.refl _ _) nq
 rw[hw6.out]
 have H6:=hide (H5.out.trans (hb6.mono H5.out.size))
 have X6:=hide (X5.out.bel hb6);have HX1:=hide (HX1.out.below hb6);have HX2:=hide (HX2.out.below hb6);have HS:=hide (HS.out.bel hb6)
 have ya:=X6.out.at_
 have y0:=ya.2 0 _ rfl
 have y1:=ya.2 1 _ rfl
 have y2:=ya.2 2 _ rfl
 have y3:=ya.2 3 _ rfl
 clear x0 x1 x2 x3 x4 x5 x6 x7 x8 ya hb6 hw6 X5 H5
 obtain⟨x0,x1,x2,x3,x4,x5,x6,x7,x8⟩:=HX2.out.c9
 go_wp2_with fail
 refine(deperson_fn _ _).mono ?_
 rintro e w' ⟨rfl,rfl⟩
 cases cp:inB 1 9999 to
 ·go_upto_region 8 with fail
  refine wp_region_held_drew (S:=(fun W=>Below w6.heap.size w6 W)) (by kernel_rfl) (by(try dsimp only);exact(Below.refl _ _).drew) (fun hHeld=>?_)
  generalize World.drew w6=Wd8 at hHeld ⊢
  have hbc:=Below.refl Wd8.heap.size Wd8
  refine tkH 0 ?_ rfl (Or.inl ⟨by rfl,?_⟩) hHeld ?_
  rotate_left
  ·(intro w _;go_simp;try(with_reducible rfl))
  try simp only[Act.put,tl1,tl2,tl3]
  iterate 2
   refine tkHl [1,2] ?_ rfl rfl (Or.inl ⟨by rfl,?_⟩) hHeld ?_
   rotate_left
   ·(intro w hSw;(try dsimp only at hSw);obtain⟨z0,z1⟩:=(HX1.out.below hSw).c2;obtain⟨x0,x1,x2,x3,x4,x5,x6,x7,x8⟩:=(HX2.out.below hSw).c9;go_simp;try(with_reducible rfl))
   try simp only[Act.put,tl1,tl2,tl3]
  refine wpAnyH_ready (rs:=[3]) (by kernel_rfl) (by simp) ?_
  refine AllReadyH.cons (o:=⟨_,_,_,_,_,_⟩) rfl (fun K hK=>?_) AllReadyH.nil
  go_simp
  refine(deend_any _ _ _ _ _ hd0 hd1).mono ?_
  rintro e V69 ⟨rfl,hb⟩
  go_wp2_with fail
  have hHeldN:=hHeld.trans (hb.mono hHeld.size)
  have hbc:=hbc.trans (hb.mono hbc.size)
  refine hK.out _ _ ?_ (fun hHeld2=>?_)
  ·exact hHeldN
  clear hK K hHeld hHeldN hb;have hHeld:=hHeld2;clear hHeld2
  try simp only[Act.put,tl1,tl2,tl3]
  refine wpAnyH_ready (rs:=[4]) (by kernel_rfl) (by simp) ?_
  refine AllReadyH.cons (o:=⟨_,_,_,_,_,_⟩) rfl (fun K hK=>?_) AllReadyH.nil
  go_simp
  refine(deproper_any _ _ _ _ _).mono ?_
  rintro e V70 ⟨rfl,hb⟩
  go_wp2_with fail
  have hHeldN:=hHeld.trans (hb.mono hHeld.size)
  have hbc:=hbc.trans (hb.mono hbc.size)
  refine hK.out _ _ ?_ (fun hHeld2=>?_)
  ·exact hHeldN
  clear hK K hHeld hHeldN hb;have hHeld:=hHeld2;clear hHeld2
  try simp only[Act.put,tl1,tl2,tl3]
  refine tkH 5 ?_ rfl (Or.inl ⟨by rfl,?_⟩) hHeld ?_
  rotate_left
  ·(intro w _;go_simp;try(with_reducible rfl))
  try simp only[Act.put,tl1,tl2,tl3]
  refine wpAnyH_done (by kernel_rfl) ?_ _
  obtain⟨w7,ew7⟩:∃w7,w7=V70:=⟨_,rfl⟩
  rw[←ew7] at hHeld ⊢
  clear ew7 hbc
  clear x0 x1 x2 x3 x4 x5 x6 x7 x8 y0 y1 y2 y3
  have H6:=hide (H6.out.trans (hHeld.mono H6.out.size))
  have X6:=hide (X6.out.bel hHeld);have HX1:=hide (HX1.out.below hHeld);have HX2:=hide (HX2.out.below hHeld);have HS:=hide (HS.out.bel hHeld)
  have ya:=X6.out.at_
  have y0:=ya.2 0 _ rfl
  have y1:=ya.2 1 _ rfl
  have y2:=ya.2 2 _ rfl
  have y3:=ya.2 3 _ rfl
  obtain⟨x0,x1,x2,x3,x4,x5,x6,x7,x8⟩:=HX2.out.c9
  clear hHeld ya
  cases ct:properB 0 (days*1440) tf tt
  ·go_wp2_with fail
   refine(dein_fn _ _ _ _).mono ?_
   rintro e w' ⟨rfl,rfl⟩
   cases cv:inB (day+1) 100001 un
   ·go_wp2_with fail
    all_goals
     go_ret
     exact⟨ret_bool (by rw[Hde.out];simp[deKind,pairB,cp,ct,cv]),H6.out⟩
   ·go_wp2_with fail
    all_goals
     go_ret
     exact⟨ret_bool (by rw[Hde.out];simp[deKind,pairB,cp,ct,cv]),H6.out⟩
  ·go_wp2_with fail
   refine(dein_fn _ _ _ _).mono ?_
   rintro e w' ⟨rfl,rfl⟩
   cases cv:inB (day+1) 100001 un
   ·go_wp2_with fail
    all_goals
     go_ret
     exact⟨ret_bool (by rw[Hde.out];simp[deKind,pairB,cp,ct,cv]),H6.out⟩
   ·go_wp2_with fail
    all_goals
     go_ret
     exact⟨ret_bool (by rw[Hde.out];simp[deKind,pairB,cp,ct,cv]),H6.out⟩
 cases ct:(to != fr)
 ·go_upto_region 8 with fail
  refine wp_region_held_drew (S:=(fun W=>Below w6.heap.size w6 W)) (by kernel_rfl) (by(try dsimp only);exact(Below.refl _ _).drew) (fun hHeld=>?_)
  generalize World.drew w6=Wd8 at hHeld ⊢
  have hbc:=Below.refl Wd8.heap.size Wd8
  refine tkH 0 ?_ rfl (Or.inl ⟨by rfl,?_⟩) hHeld ?_
  rotate_left
  ·(intro w _;go_simp;try(with_reducible rfl))
  try simp only[Act.put,tl1,tl2,tl3]
  iterate 2
   refine tkHl [1,2] ?_ rfl rfl (Or.inl ⟨by rfl,?_⟩) hHeld ?_
   rotate_left
   ·(intro w hSw;(try dsimp only at hSw);obtain⟨z0,z1⟩:=(HX1.out.below hSw).c2;obtain⟨x0,x1,x2,x3,x4,x5,x6,x7,x8⟩:=(HX2.out.below hSw).c9;go_simp;try(with_reducible rfl))
   try simp only[Act.put,tl1,tl2,tl3]
  refine wpAnyH_ready (rs:=[3]) (by kernel_rfl) (by simp) ?_
  refine AllReadyH.cons (o:=⟨_,_,_,_,_,_⟩) rfl (fun K hK=>?_) AllReadyH.nil
  go_simp
  refine(deend_any _ _ _ _ _ hd0 hd1).mono ?_
  rintro e V69 ⟨rfl,hb⟩
  go_wp2_with fail
  have hHeldN:=hHeld.trans (hb.mono hHeld.size)
  have hbc:=hbc.trans (hb.mono hbc.size)
  refine hK.out _ _ ?_ (fun hHeld2=>?_)
  ·exact hHeldN
  clear hK K hHeld hHeldN hb;have hHeld:=hHeld2;clear hHeld2
  try simp only[Act.put,tl1,tl2,tl3]
  refine wpAnyH_ready (rs:=[4]) (by kernel_rfl) (by simp) ?_
  refine AllReadyH.cons (o:=⟨_,_,_,_,_,_⟩) rfl (fun K hK=>?_) AllReadyH.nil
  go_simp
  refine(deproper_any _ _ _ _ _).mono ?_
  rintro e V70 ⟨rfl,hb⟩
  go_wp2_with fail
  have hHeldN:=hHeld.trans (hb.mono hHeld.size)
  have hbc:=hbc.trans (hb.mono hbc.size)
  refine hK.out _ _ ?_ (fun hHeld2=>?_)
  ·exact hHeldN
  clear hK K hHeld hHeldN hb;have hHeld:=hHeld2;clear hHeld2
  try simp only[Act.put,tl1,tl2,tl3]
  refine tkH 5 ?_ rfl (Or.inl ⟨by rfl,?_⟩) hHeld ?_
  rotate_left
  ·(intro w _;go_simp;try(with_reducible rfl))
  try simp only[Act.put,tl1,tl2,tl3]
  refine wpAnyH_done (by kernel_rfl) ?_ _
  obtain⟨w7,ew7⟩:∃w7,w7=V70:=⟨_,rfl⟩
  rw[←ew7] at hHeld ⊢
  clear ew7 hbc
  clear x0 x1 x2 x3 x4 x5 x6 x7 x8 y0 y1 y2 y3
  have H6:=hide (H6.out.trans (hHeld.mono H6.out.size))
  have X6:=hide (X6.out.bel hHeld);have HX1:=hide (HX1.out.below hHeld);have HX2:=hide (HX2.out.below hHeld);have HS:=hide (HS.out.bel hHeld)
  have ya:=X6.out.at_
  have y0:=ya.2 0 _ rfl
  have y1:=ya.2 1 _ rfl
  have y2:=ya.2 2 _ rfl
  have y3:=ya.2 3 _ rfl
  obtain⟨x0,x1,x2,x3,x4,x5,x6,x7,x8⟩:=HX2.out.c9
  clear hHeld ya
  cases cu:properB 0 (days*1440) tf tt
  ·go_wp2_with fail
   refine(dein_fn _ _ _ _).mono ?_
   rintro e w' ⟨rfl,rfl⟩
   cases cv:inB (day+1) 100001 un
   ·go_wp2_with fail
    all_goals
     go_ret
     exact⟨ret_bool (by rw[Hde.out];simp[deKind,pairB,cp,ct,cu,cv]),H6.out⟩
   ·go_wp2_with fail
    all_goals
     go_ret
     exact⟨ret_bool (by rw[Hde.out];simp[deKind,pairB,cp,ct,cu,cv]),H6.out⟩
  ·go_wp2_with fail
   refine(dein_fn _ _ _ _).mono ?_
   rintro e w' ⟨rfl,rfl⟩
   cases cv:inB (day+1) 100001 un
   ·go_wp2_with fail
    all_goals
     go_ret
     exact⟨ret_bool (by rw[Hde.out];simp[deKind,pairB,cp,ct,cu,cv]),H6.out⟩
   ·go_wp2_with fail
    all_goals
     go_ret
     exact⟨ret_bool (by rw[Hde.out];simp[deKind,pairB,cp,ct,cu,cv]),H6.out⟩
 go_upto_region 8 with fail
 refine wp_region_held_drew (S:=(fun W=>Below w6.heap.size w6 W)) (by kernel_rfl) (by(try dsimp only);exact(Below.refl _ _).drew) (fun hHeld=>?_)
 generalize World.drew w6=Wd8 at hHeld ⊢
 have hbc:=Below.refl Wd8.heap.size Wd8
 refine tkH 0 ?_ rfl (Or.inl ⟨by rfl,?_⟩) hHeld ?_
 rotate_left
 ·(intro w _;go_simp;try(with_reducible rfl))
 try simp only[Act.put,tl1,tl2,tl3]
 iterate 2
  refine tkHl [1,2] ?_ rfl rfl (Or.inl ⟨by rfl,?_⟩) hHeld ?_
  rotate_left
  ·(intro w hSw;(try dsimp only at hSw);obtain⟨z0,z1⟩:=(HX1.out.below hSw).c2;obtain⟨x0,x1,x2,x3,x4,x5,x6,x7,x8⟩:=(HX2.out.below hSw).c9;go_simp;try(with_reducible rfl))
  try simp only[Act.put,tl1,tl2,tl3]
 refine wpAnyH_ready (rs:=[3]) (by kernel_rfl) (by simp) ?_
 refine AllReadyH.cons (o:=⟨_,_,_,_,_,_⟩) rfl (fun K hK=>?_) AllReadyH.nil
 go_simp
 refine(deend_any _ _ _ _ _ hd0 hd1).mono ?_
 rintro e V69 ⟨rfl,hb⟩
 go_wp2_with fail
 have hHeldN:=hHeld.trans (hb.mono hHeld.size)
 have hbc:=hbc.trans (hb.mono hbc.size)
 refine hK.out _ _ ?_ (fun hHeld2=>?_)
 ·exact hHeldN
 clear hK K hHeld hHeldN hb;have hHeld:=hHeld2;clear hHeld2
 try simp only[Act.put,tl1,tl2,tl3]
 refine wpAnyH_ready (rs:=[4]) (by kernel_rfl) (by simp) ?_
 refine AllReadyH.cons (o:=⟨_,_,_,_,_,_⟩) rfl (fun K hK=>?_) AllReadyH.nil
 go_simp
 refine(deproper_any _ _ _ _ _).mono ?_
 rintro e V70 ⟨rfl,hb⟩
 go_wp2_with fail
 have hHeldN:=hHeld.trans (hb.mono hHeld.size)
 have hbc:=hbc.trans (hb.mono hbc.size)
 refine hK.out _ _ ?_ (fun hHeld2=>?_)
 ·exact hHeldN
 clear hK K hHeld hHeldN hb;have hHeld:=hHeld2;clear hHeld2
 try simp only[Act.put,tl1,tl2,tl3]
 refine tkH 5 ?_ rfl (Or.inl ⟨by rfl,?_⟩) hHeld ?_
 rotate_left
 ·(intro w _;go_simp;try(with_reducible rfl))
 try simp only[Act.put,tl1,tl2,tl3]
 refine wpAnyH_done (by kernel_rfl) ?_ _
 obtain⟨w7,ew7⟩:∃w7,w7=V70:=⟨_,rfl⟩
 rw[←ew7] at hHeld ⊢
 clear ew7 hbc
 clear x0 x1 x2 x3 x4 x5 x6 x7 x8 y0 y1 y2 y3
 have H6:=hide (H6.out.trans (hHeld.mono H6.out.size))
 have X6:=hide (X6.out.bel hHeld);have HX1:=hide (HX1.out.below hHeld);have HX2:=hide (HX2.out.below hHeld);have HS:=hide (HS.out.bel hHeld)
 have ya:=X6.out.at_
 have y0:=ya.2 0 _ rfl
 have y1:=ya.2 1 _ rfl
 have y2:=ya.2 2 _ rfl
 have y3:=ya.2 3 _ rfl
 obtain⟨x0,x1,x2,x3,x4,x5,x6,x7,x8⟩:=HX2.out.c9
 clear hHeld ya
 cases cu:properB 0 (days*1440) tf tt
 ·go_wp2_with fail
  refine(dein_fn _ _ _ _).mono ?_
  rintro e w' ⟨rfl,rfl⟩
  cases cv:inB (day+1) 100001 un
  ·go_wp2_with fail
   all_goals
    go_ret
    exact⟨ret_bool (by rw[Hde.out];simp[deKind,pairB,cp,ct,cu,cv]),H6.out⟩
  ·go_wp2_with fail
   all_goals
    go_ret
    exact⟨ret_bool (by rw[Hde.out];simp[deKind,pairB,cp,ct,cu,cv]),H6.out⟩
 ·go_wp2_with fail
  refine(dein_fn _ _ _ _).mono ?_
  rintro e w' ⟨rfl,rfl⟩
  cases cv:inB (day+1) 100001 un
  ·go_wp2_with fail
   all_goals
    go_ret
    exact⟨ret_bool (by rw[Hde.out];simp[deKind,pairB,cp,ct,cu,cv]),H6.out⟩
  ·go_wp2_with fail
   all_goals
    go_ret
    exact⟨ret_bool (by rw[Hde.out];simp[deKind,pairB,cp,ct,cu,cv]),H6.out⟩
set_option maxHeartbeats 4000000 in
set_option maxRecDepth 100000 in
theorem devalid1 (days:Int) (H:Option Addr) (nh ch:Nat) (id day fr to tf tt un:Int) (ha:Option Addr) (hn_ hc:Nat) (hs:List Sp) (w:World) (hd0:0≤days) (hd1:days≤16) (hn:hn_=hs.length) (hm:hn_≤9223372036854775807) (hx:Rd w w.heap.size Sp.cells ha hs) :
 Calls Tryz.prog 120 #[.agg #[.int .i64 days,.slice H nh ch],.agg #[.int .i64 id,.int .i64 day,.int .u8 1,.int .i64 fr,.int .i64 to,.int .i64 tf,.int .i64 tt,.int .i64 un,.slice ha hn_ hc]] w fun e w'=>e= .returned (.bool (deOk days ⟨id,day,1,fr,to,tf,tt,un,⟨ha,hn_,hc⟩⟩ hs))∧Below w.heap.size w w':=by
 obtain⟨b1,w1,e1,ew1,hx1,hb1,hz1⟩:=mk_bx w #[.int .i64 days,.slice H nh ch] 58
 obtain⟨b2,w2,e2,ew2,hx2,hb2,hz2⟩:=mk_bx w1 #[.int .i64 id,.int .i64 day,.int .u8 1,.int .i64 fr,.int .i64 to,.int .i64 tf,.int .i64 tt,.int .i64 un,.slice ha hn_ hc] 73
 have h12:b1+1=b2:=by rw[←e2.out,hz1]
 have HB2:=hide (hb1.trans (hb2.mono hb1.size))
 have HX1:=hide ((show At w1 b1 [.int .i64 days,.slice H nh ch] from hx1.at_).below hb2)
 have HX2:=hide (show At w2 b2 [.int .i64 id,.int .i64 day,.int .u8 1,.int .i64 fr,.int .i64 to,.int .i64 tf,.int .i64 tt,.int .i64 un,.slice ha hn_ hc] from hx2.at_)
 have Hz:Hid (∀w:World,(zeroValue 238).run Tryz.prog w= .ok (.agg #[.bool false,.bool false,.bool false,.bool false,.nilFunc]) w):=hide (fun w=>by kernel_rfl)
 have HS:=hide ((hx.bel hb1).bel hb2)
 have Hn:=hide hn
 clear hn hx hx1 hx2 hb1 hb2 hz1 hz2
 go_enter Tryz.func120,Tryz.ntmps120
 go_upto_region 1 with fail
 rw[ew1.out,e1.out,ew2.out,h12]
 clear ew1 e1 ew2 e2
 refine wp_region_held_drew (S:=(fun W=>Below w2.heap.size w2 W)) (by kernel_rfl) (by(try dsimp only);exact(Below.refl _ _).drew) (fun hHeld=>?_)
 generalize World.drew w2=Wd1 at hHeld ⊢
 have hbc:=Below.refl Wd1.heap.size Wd1
 refine tkH 1 ?_ rfl (Or.inl ⟨by rfl,?_⟩) hHeld ?_
 rotate_left
 ·(intro w _;go_simp;try(with_reducible rfl))
 try simp only[Act.put,tl1,tl2,tl3]
 refine tkH 2 ?_ rfl (Or.inl ⟨by rfl,?_⟩) hHeld ?_
 rotate_left
 ·(intro w hSw;(try dsimp only at hSw);have z2:=(HX2.out.bel hSw).2 2 _ rfl;go_simp;try(with_reducible rfl))
 try simp only[Act.put,tl1,tl2,tl3]
 refine cut3 (C:=fun (bm:Nat) (s:Nat) (b5:Nat) (Wc1_1:World)=>(MpU Tryz.prog 5 Wc1_1 bm 4 kindF s)∧(Bx Wc1_1 b5 [.bool false,.bool false,.bool false,.bool false,.nilFunc])∧(w2.heap.size≤b5)∧Below Wd1.heap.size Wd1 Wc1_1∧Below w2.heap.size w2 Wc1_1) (G:=?_) ?_ ?_
 rotate_left
 ·intro hCut
  replace hbc:=Below.refl Wd1.heap.size Wd1
  refine wpAnyH_ready (rs:=[0,7]) (by kernel_rfl) (by simp) ?_
  refine AllReadyH.cons (o:=⟨_,_,_,_,_,_⟩) rfl (fun K hK=>?_) ?_
  ·
   go_simp
   refine(dekinds_any _).mono ?_
   rintro e V12 ⟨bm,s,rfl,hM,hb⟩
   go_wp2_with fail
   have hHeldN:=hHeld.trans (hb.mono hHeld.size)
   have hbc:=hbc.trans (hb.mono hbc.size)
   refine hK.out _ _ ?_ (fun hHeld2=>?_)
   ·exact hHeldN
   clear hK K hHeldN hb;have hHeld:=hHeld2;clear hHeld2
   try simp only[Act.put,tl1,tl2,tl3]
   refine wpAnyH_ready (rs:=[3,7]) (by kernel_rfl) (by simp) ?_
   refine AllReadyH.cons (o:=⟨_,_,_,_,_,_⟩) rfl (fun K hK=>?_) ?_
   ·
    have hlk:=hM.look (T:=239) (E:=238) Tryz.underlying5 Tryz.underlying239 (Hz.out _) (k:=1) (by unfold okU;omega)
    rw[show kindF 1=some (.agg #[.bool true,.bool true,.bool false,.bool false,.func (.func 179) #[] #[]]) from rfl] at hlk
    simp only[Option.getD_some,Option.isSome_some,Option.getD_none,Option.isSome_none] at hlk
    go_simp
    clear hlk
    have hHeldN:=hHeld
    refine hK.out _ _ ?_ (fun hHeld2=>?_)
    ·exact hHeldN
    clear hK K hHeldN;have hHeld:=hHeld2;clear hHeld2
    try simp only[Act.put,tl1,tl2,tl3]
    iterate 3
     refine tkHl [4,5,6] ?_ rfl rfl (Or.inl ⟨by rfl,?_⟩) hHeld ?_
     rotate_left
     ·(intro w _;go_simp;try(with_reducible rfl))
     try simp only[Act.put,tl1,tl2,tl3]
    refine wpAnyH_ready (rs:=[7]) (by kernel_rfl) (by simp) ?_
    refine AllReadyH.cons (o:=⟨_,_,_,_,_,_⟩) rfl (fun K hK=>?_) AllReadyH.nil
    go_simp
    obtain⟨b5,V5,eb5,ev5,hx5,hb,hz5⟩:=mk_bx V12 #[.bool false,.bool false,.bool false,.bool false,.nilFunc] 238
    rw[ev5.out,eb5.out]
    have hge5:w2.heap.size≤b5:=by have:=eb5.out;have:=hHeld.size;omega
    clear ev5 eb5 hz5
    have hHeldN:=hHeld.trans (hb.mono hHeld.size)
    have hM:=hM.bel hb
    have hbc:=hbc.trans (hb.mono hbc.size)
    refine hK.out _ _ ?_ (fun hHeld2=>?_)
    ·exact hHeldN
    clear hK K hHeldN hb;have hHeld:=hHeld2;clear hHeld2
    try simp only[Act.put,tl1,tl2,tl3]
    exact hCut bm s b5 V5 ⟨hM,hx5,hge5,hbc,hHeld⟩
   refine AllReadyH.cons (o:=⟨_,_,_,_,_,_⟩) rfl (fun K hK=>?_) AllReadyH.nil
   go_simp
   obtain⟨b5,V5,eb5,ev5,hx5,hb,hz5⟩:=mk_bx V12 #[.bool false,.bool false,.bool false,.bool false,.nilFunc] 238
   rw[ev5.out,eb5.out]
   have hge5:w2.heap.size≤b5:=by have:=eb5.out;have:=hHeld.size;omega
   clear ev5 eb5 hz5
   have hHeldN:=hHeld.trans (hb.mono hHeld.size)
   have hM:=hM.bel hb
   have hbc:=hbc.trans (hb.mono hbc.size)
   refine hK.out _ _ ?_ (fun hHeld2=>?_)
   ·exact hHeldN
   clear hK K hHeldN hb;have hHeld:=hHeld2;clear hHeld2
   try simp only[Act.put,tl1,tl2,tl3]
   refine wpAnyH_ready (rs:=[3]) (by kernel_rfl) (by simp) ?_
   refine AllReadyH.cons (o:=⟨_,_,_,_,_,_⟩) rfl (fun K hK=>?_) AllReadyH.nil
   have hlk:=hM.look (T:=239) (E:=238) Tryz.underlying5 Tryz.underlying239 (Hz.out _) (k:=1) (by unfold okU;omega)
   rw[show kindF 1=some (.agg #[.bool true,.bool true,.bool false,.bool false,.func (.func 179) #[] #[]]) from rfl] at hlk
   simp only[Option.getD_some,Option.isSome_some,Option.getD_none,Option.isSome_none] at hlk
   go_simp
   clear hlk
   have hHeldN:=hHeld
   refine hK.out _ _ ?_ (fun hHeld2=>?_)
   ·exact hHeldN
   clear hK K hHeldN;have hHeld:=hHeld2;clear hHeld2
   try simp only[Act.put,tl1,tl2,tl3]
   iterate 3
    refine tkHl [4,5,6] ?_ rfl rfl (Or.inl ⟨by rfl,?_⟩) hHeld ?_
    rotate_left
    ·(intro w _;go_simp;try(with_reducible rfl))
    try simp only[Act.put,tl1,tl2,tl3]
   exact hCut bm s b5 V5 ⟨hM,hx5,hge5,hbc,hHeld⟩
  refine AllReadyH.cons (o:=⟨_,_,_,_,_,_⟩) rfl (fun K hK=>?_) AllReadyH.nil
  go_simp
  obtain⟨b5,V5,eb5,ev5,hx5,hb,hz5⟩:=mk_bx Wd1 #[.bool false,.bool false,.bool false,.bool false,.nilFunc] 238
  rw[ev5.out,eb5.out]
  have hge5:w2.heap.size≤b5:=by have:=eb5.out;have:=hHeld.size;omega
  clear ev5 eb5 hz5
  have hHeldN:=hHeld.trans (hb.mono hHeld.size)
  have hbc:=hbc.trans (hb.mono hbc.size)
  refine hK.out _ _ ?_ (fun hHeld2=>?_)
  ·exact hHeldN
  clear hK K hHeldN hb;have hHeld:=hHeld2;clear hHeld2
  try simp only[Act.put,tl1,tl2,tl3]
  refine wpAnyH_ready (rs:=[0]) (by kernel_rfl) (by simp) ?_
  refine AllReadyH.cons (o:=⟨_,_,_,_,_,_⟩) rfl (fun K hK=>?_) AllReadyH.nil
  go_simp
  refine(dekinds_any _).mono ?_
  rintro e V12 ⟨bm,s,rfl,hM,hb⟩
  go_wp2_with fail
  have hHeldN:=hHeld.trans (hb.mono hHeld.size)
  have hx5:=hx5.bel hb
  have hbc:=hbc.trans (hb.mono hbc.size)
  refine hK.out _ _ ?_ (fun hHeld2=>?_)
  ·exact hHeldN
  clear hK K hHeldN hb;have hHeld:=hHeld2;clear hHeld2
  try simp only[Act.put,tl1,tl2,tl3]
  refine wpAnyH_ready (rs:=[3]) (by kernel_rfl) (by simp) ?_
  refine AllReadyH.cons (o:=⟨_,_,_,_,_,_⟩) rfl (fun K hK=>?_) AllReadyH.nil
  have hlk:=hM.look (T:=239) (E:=238) Tryz.underlying5 Tryz.underlying239 (Hz.out _) (k:=1) (by unfold okU;omega)
  rw[show kindF 1=some (.agg #[.bool true,.bool true,.bool false,.bool false,.func (.func 179) #[] #[]]) from rfl] at hlk
  simp only[Option.getD_some,Option.isSome_some,Option.getD_none,Option.isSome_none] at hlk
  go_simp
  clear hlk
  have hHeldN:=hHeld
  refine hK.out _ _ ?_ (fun hHeld2=>?_)
  ·exact hHeldN
  clear hK K hHeldN;have hHeld:=hHeld2;clear hHeld2
  try simp only[Act.put,tl1,tl2,tl3]
  iterate 3
   refine tkHl [4,5,6] ?_ rfl rfl (Or.inl ⟨by rfl,?_⟩) hHeld ?_
   rotate_left
   ·(intro w _;go_simp;try(with_reducible rfl))
   try simp only[Act.put,tl1,tl2,tl3]
  exact hCut bm s b5 V12 ⟨hM,hx5,hge5,hbc,hHeld⟩
 intro bm s b5 Wc1_1 ⟨hM,hx5,hge5,hbN,hHeldN⟩
 have hbc:=hbc.trans (hbN.mono hbc.size);clear hHeld hbN;have hHeld:=hHeldN;clear hHeldN
 refine wpAnyH_ready (rs:=[8]) (by kernel_rfl) (by simp) ?_
 refine AllReadyH.cons (o:=⟨_,_,_,_,_,_⟩) rfl (fun K hK=>?_) AllReadyH.nil
 have X5:=hide hx5
 have y:=hx5.at_
 have fz:=hx5.fz
 have y0:=y.2 0 _ rfl
 have y1:=y.2 1 _ rfl
 have y2:=y.2 2 _ rfl
 have y3:=y.2 3 _ rfl
 have y4:=y.2 4 _ rfl
 have f0:=fz 0
 have f1:=fz 1
 have f2:=fz 2
 have f3:=fz 3
 have f4:=fz 4
 clear y fz hx5
 have hH:=hHeld
 go_simp
 clear y0 y1 y2 y3 y4 f0 f1 f2 f3 f4
 refine hK.out _ _ ?_ (fun hHeld2=>?_)
 ·(try dsimp only);exact(((((hH.setCell (p:=⟨b5,0,none⟩) hge5 (.bool true)).setCell (p:=⟨b5,1,none⟩) hge5 (.bool true)).setCell (p:=⟨b5,2,none⟩) hge5 (.bool false)).setCell (p:=⟨b5,3,none⟩) hge5 (.bool false)).setCell (p:=⟨b5,4,none⟩) hge5 (.func (.func 179) #[] #[]))
 clear hK K hHeld;have hHeld:=hHeld2;clear hHeld2
 try simp only[Act.put,tl1,tl2,tl3]
 refine tkH 9 ?_ rfl (Or.inl ⟨by rfl,?_⟩) hHeld ?_
 rotate_left
 ·(intro w _;go_simp;try(with_reducible rfl))
 try simp only[Act.put,tl1,tl2,tl3]
 refine wpAnyH_done (by kernel_rfl) ?_ _
 have XF:=(((((X5.out.set (.bool true) (j:=0) (by simp)).set (.bool true) (j:=1) (by simp)).set (.bool false) (j:=2) (by simp)).set (.bool false) (j:=3) (by simp)).set (.func (.func 179) #[] #[]) (j:=4) (by simp))
 generalize (((((Wc1_1.setCell ⟨b5,0,none⟩ (.bool true)).setCell ⟨b5,1,none⟩ (.bool true)).setCell ⟨b5,2,none⟩ (.bool false)).setCell ⟨b5,3,none⟩ (.bool false)).setCell ⟨b5,4,none⟩ (.func (.func 179) #[] #[]))=w5 at hHeld XF ⊢
 have X5:=hide (show Bx w5 b5 [.bool true,.bool true,.bool false,.bool false,.func (.func 179) #[] #[]] from XF)
 have H5:=hide (HB2.out.trans (hHeld.mono HB2.out.size))
 have HX1:=hide (HX1.out.below hHeld);have HX2:=hide (HX2.out.below hHeld);have HS:=hide (HS.out.bel hHeld)
 clear XF hHeld hbc hM Hz hge5
 obtain⟨x0,x1,x2,x3,x4,x5,x6,x7,x8⟩:=HX2.out.c9
 cases ci:inB 0 9999 id
 ·have he:=hide (show deOk days ⟨id,day,1,fr,to,tf,tt,un,⟨ha,hn_,hc⟩⟩ hs=false by simp[deOk,ci])
  have Ci:=hide ci
  clear ci
  go_wp2_with fail
  refine(dein_fn _ _ _ _).mono ?_
  rintro e w' ⟨rfl,rfl⟩
  rw[Ci.out]
  go_wp2_with fail
  go_ret
  exact⟨ret_bool he.out.symm,H5.out⟩
 cases cd:inB 0 100000 day
 ·have he:=hide (show deOk days ⟨id,day,1,fr,to,tf,tt,un,⟨ha,hn_,hc⟩⟩ hs=false by simp[deOk,cd])
  have Ci:=hide ci;have Cd:=hide cd
  clear ci cd
  go_wp2_with fail
  refine(dein_fn _ _ _ _).mono ?_
  rintro e w' ⟨rfl,rfl⟩
  rw[Ci.out]
  go_wp2_with fail
  refine(dein_fn _ _ _ _).mono ?_
  rintro e w' ⟨rfl,rfl⟩
  rw[Cd.out]
  go_wp2_with fail
  go_ret
  exact⟨ret_bool he.out.symm,H5.out⟩
 cases cf:inB 1 9999 fr
 ·have he:=hide (show deOk days ⟨id,day,1,fr,to,tf,tt,un,⟨ha,hn_,hc⟩⟩ hs=false by simp[deOk,cf])
  have Ci:=hide ci;have Cd:=hide cd;have Cf:=hide cf
  clear ci cd cf
  go_wp2_with fail
  refine(dein_fn _ _ _ _).mono ?_
  rintro e w' ⟨rfl,rfl⟩
  rw[Ci.out]
  go_wp2_with fail
  refine(dein_fn _ _ _ _).mono ?_
  rintro e w' ⟨rfl,rfl⟩
  rw[Cd.out]
  go_wp2_with fail
  refine(deperson_fn _ _).mono ?_
  rintro e w' ⟨rfl,rfl⟩
  rw[Cf.out]
  go_wp2_with fail
  go_ret
  exact⟨ret_bool he.out.symm,H5.out⟩
 have Hde:=hide (show deOk days ⟨id,day,1,fr,to,tf,tt,un,⟨ha,hn_,hc⟩⟩ hs=deKind days ⟨id,day,1,fr,to,tf,tt,un,⟨ha,hn_,hc⟩⟩ hs by simp[deOk,ci,cd,cf])
 have Ci:=hide ci;have Cd:=hide cd;have Cf:=hide cf
 have hday:0≤day∧day≤100000:=by simpa[inB] using cd
 clear ci cd cf
 go_wp2_with fail
 refine(dein_fn _ _ _ _).mono ?_
 rintro e w' ⟨rfl,rfl⟩
 rw[Ci.out]
 go_wp2_with fail
 refine(dein_fn _ _ _ _).mono ?_
 rintro e w' ⟨rfl,rfl⟩
 rw[Cd.out]
 go_wp2_with fail
 refine(deperson_fn _ _).mono ?_
 rintro e w' ⟨rfl,rfl⟩
 rw[Cf.out]
 have fd:IntKind.i64.wrap (day+1)=day+1:=wrapI (by omega)
 have hq:=eql_turn0 tf tt
 go_upto_region 4 with fail
 go_quiet (fail)
 obtain⟨w6,hw6⟩:∃w6,Hid (w5.drewN nq=w6):=⟨_,hide rfl⟩
 have hb6:Below w5.heap.size w5 w6:=by rw[←hw6.out];exact below_drewN (Below.refl _ _) nq
 rw[hw6.out]
 have H6:=hide (H5.out.trans (hb6.mono H5.out.size))
 have X6:=hide (X5.out.bel hb6);have HX1:=hide (HX1.out.below hb6);have HX2:=hide (HX2.out.below hb6);have HS:=hide (HS.out.bel hb6)
 have ya:=X6.out.at_
 have y0:=ya.2 0 _ rfl
 have y1:=ya.2 1 _ rfl
 have y2:=ya.2 2 _ rfl
 have y3:=ya.2 3 _ rfl
 clear x0 x1 x2 x3 x4 x5 x6 x7 x8 ya hb6 hw6 X5 H5
 obtain⟨x0,x1,x2,x3,x4,x5,x6,x7,x8⟩:=HX2.out.c9
 go_wp2_with fail
 refine(deperson_fn _ _).mono ?_
 rintro e w' ⟨rfl,rfl⟩
 cases cp:inB 1 9999 to
 ·go_upto_region 8 with fail
  refine wp_region_held_drew (S:=(fun W=>Below w6.heap.size w6 W)) (by kernel_rfl) (by(try dsimp only);exact(Below.refl _ _).drew) (fun hHeld=>?_)
  generalize World.drew w6=Wd8 at hHeld ⊢
  have hbc:=Below.refl Wd8.heap.size Wd8
  refine tkH 0 ?_ rfl (Or.inl ⟨by rfl,?_⟩) hHeld ?_
  rotate_left
  ·(intro w _;go_simp;try(with_reducible rfl))
  try simp only[Act.put,tl1,tl2,tl3]
  iterate 2
   refine tkHl [1,2] ?_ rfl rfl (Or.inl ⟨by rfl,?_⟩) hHeld ?_
   rotate_left
   ·(intro w hSw;(try dsimp only at hSw);obtain⟨z0,z1⟩:=(HX1.out.below hSw).c2;obtain⟨x0,x1,x2,x3,x4,x5,x6,x7,x8⟩:=(HX2.out.below hSw).c9;go_simp;try(with_reducible rfl))
   try simp only[Act.put,tl1,tl2,tl3]
  refine wpAnyH_ready (rs:=[3]) (by kernel_rfl) (by simp) ?_
  refine AllReadyH.cons (o:=⟨_,_,_,_,_,_⟩) rfl (fun K hK=>?_) AllReadyH.nil
  go_simp
  refine(deend_any _ _ _ _ _ hd0 hd1).mono ?_
  rintro e V69 ⟨rfl,hb⟩
  go_wp2_with fail
  have hHeldN:=hHeld.trans (hb.mono hHeld.size)
  have hbc:=hbc.trans (hb.mono hbc.size)
  refine hK.out _ _ ?_ (fun hHeld2=>?_)
  ·exact hHeldN
  clear hK K hHeld hHeldN hb;have hHeld:=hHeld2;clear hHeld2
  try simp only[Act.put,tl1,tl2,tl3]
  refine wpAnyH_ready (rs:=[4]) (by kernel_rfl) (by simp) ?_
  refine AllReadyH.cons (o:=⟨_,_,_,_,_,_⟩) rfl (fun K hK=>?_) AllReadyH.nil
  go_simp
  refine(deproper_any _ _ _ _ _).mono ?_
  rintro e V70 ⟨rfl,hb⟩
  go_wp2_with fail
  have hHeldN:=hHeld.trans (hb.mono hHeld.size)
  have hbc:=hbc.trans (hb.mono hbc.size)
  refine hK.out _ _ ?_ (fun hHeld2=>?_)
  ·exact hHeldN
  clear hK K hHeld hHeldN hb;have hHeld:=hHeld2;clear hHeld2
  try simp only[Act.put,tl1,tl2,tl3]
  refine tkH 5 ?_ rfl (Or.inl ⟨by rfl,?_⟩) hHeld ?_
  rotate_left
  ·(intro w _;go_simp;try(with_reducible rfl))
  try simp only[Act.put,tl1,tl2,tl3]
  refine wpAnyH_done (by kernel_rfl) ?_ _
  obtain⟨w7,ew7⟩:∃w7,w7=V70:=⟨_,rfl⟩
  rw[←ew7] at hHeld ⊢
  clear ew7 hbc
  clear x0 x1 x2 x3 x4 x5 x6 x7 x8 y0 y1 y2 y3
  have H6:=hide (H6.out.trans (hHeld.mono H6.out.size))
  have X6:=hide (X6.out.bel hHeld);have HX1:=hide (HX1.out.below hHeld);have HX2:=hide (HX2.out.below hHeld);have HS:=hide (HS.out.bel hHeld)
  have ya:=X6.out.at_
  have y0:=ya.2 0 _ rfl
  have y1:=ya.2 1 _ rfl
  have y2:=ya.2 2 _ rfl
  have y3:=ya.2 3 _ rfl
  obtain⟨x0,x1,x2,x3,x4,x5,x6,x7,x8⟩:=HX2.out.c9
  clear hHeld ya
  cases ct:properB 0 (days*1440) tf tt
  ·cases cv:(un == 0)
   ·go_wp2_with fail
    all_goals
     go_ret
     exact⟨ret_bool (by rw[Hde.out];simp[deKind,pairB,cp,ct,cv]),H6.out⟩
   ·go_wp2_with fail
    all_goals
     go_ret
     exact⟨ret_bool (by rw[Hde.out];simp[deKind,pairB,cp,ct,cv]),H6.out⟩
  ·cases cv:(un == 0)
   ·go_wp2_with fail
    all_goals
     go_ret
     exact⟨ret_bool (by rw[Hde.out];simp[deKind,pairB,cp,ct,cv]),H6.out⟩
   ·go_wp2_with fail
    all_goals
     go_ret
     exact⟨ret_bool (by rw[Hde.out];simp[deKind,pairB,cp,ct,cv]),H6.out⟩
 cases ct:(to != fr)
 ·go_upto_region 8 with fail
  refine wp_region_held_drew (S:=(fun W=>Below w6.heap.size w6 W)) (by kernel_rfl) (by(try dsimp only);exact(Below.refl _ _).drew) (fun hHeld=>?_)
  generalize World.drew w6=Wd8 at hHeld ⊢
  have hbc:=Below.refl Wd8.heap.size Wd8
  refine tkH 0 ?_ rfl (Or.inl ⟨by rfl,?_⟩) hHeld ?_
  rotate_left
  ·(intro w _;go_simp;try(with_reducible rfl))
  try simp only[Act.put,tl1,tl2,tl3]
  iterate 2
   refine tkHl [1,2] ?_ rfl rfl (Or.inl ⟨by rfl,?_⟩) hHeld ?_
   rotate_left
   ·(intro w hSw;(try dsimp only at hSw);obtain⟨z0,z1⟩:=(HX1.out.below hSw).c2;obtain⟨x0,x1,x2,x3,x4,x5,x6,x7,x8⟩:=(HX2.out.below hSw).c9;go_simp;try(with_reducible rfl))
   try simp only[Act.put,tl1,tl2,tl3]
  refine wpAnyH_ready (rs:=[3]) (by kernel_rfl) (by simp) ?_
  refine AllReadyH.cons (o:=⟨_,_,_,_,_,_⟩) rfl (fun K hK=>?_) AllReadyH.nil
  go_simp
  refine(deend_any _ _ _ _ _ hd0 hd1).mono ?_
  rintro e V69 ⟨rfl,hb⟩
  go_wp2_with fail
  have hHeldN:=hHeld.trans (hb.mono hHeld.size)
  have hbc:=hbc.trans (hb.mono hbc.size)
  refine hK.out _ _ ?_ (fun hHeld2=>?_)
  ·exact hHeldN
  clear hK K hHeld hHeldN hb;have hHeld:=hHeld2;clear hHeld2
  try simp only[Act.put,tl1,tl2,tl3]
  refine wpAnyH_ready (rs:=[4]) (by kernel_rfl) (by simp) ?_
  refine AllReadyH.cons (o:=⟨_,_,_,_,_,_⟩) rfl (fun K hK=>?_) AllReadyH.nil
  go_simp
  refine(deproper_any _ _ _ _ _).mono ?_
  rintro e V70 ⟨rfl,hb⟩
  go_wp2_with fail
  have hHeldN:=hHeld.trans (hb.mono hHeld.size)
  have hbc:=hbc.trans (hb.mono hbc.size)
  refine hK.out _ _ ?_ (fun hHeld2=>?_)
  ·exact hHeldN
  clear hK K hHeld hHeldN hb;have hHeld:=hHeld2;clear hHeld2
  try simp only[Act.put,tl1,tl2,tl3]
  refine tkH 5 ?_ rfl (Or.inl ⟨by rfl,?_⟩) hHeld ?_
  rotate_left
  ·(intro w _;go_simp;try(with_reducible rfl))
  try simp only[Act.put,tl1,tl2,tl3]
  refine wpAnyH_done (by kernel_rfl) ?_ _
  obtain⟨w7,ew7⟩:∃w7,w7=V70:=⟨_,rfl⟩
  rw[←ew7] at hHeld ⊢
  clear ew7 hbc
  clear x0 x1 x2 x3 x4 x5 x6 x7 x8 y0 y1 y2 y3
  have H6:=hide (H6.out.trans (hHeld.mono H6.out.size))
  have X6:=hide (X6.out.bel hHeld);have HX1:=hide (HX1.out.below hHeld);have HX2:=hide (HX2.out.below hHeld);have HS:=hide (HS.out.bel hHeld)
  have ya:=X6.out.at_
  have y0:=ya.2 0 _ rfl
  have y1:=ya.2 1 _ rfl
  have y2:=ya.2 2 _ rfl
  have y3:=ya.2 3 _ rfl
  obtain⟨x0,x1,x2,x3,x4,x5,x6,x7,x8⟩:=HX2.out.c9
  clear hHeld ya
  cases cu:properB 0 (days*1440) tf tt
  ·cases cv:(un == 0)
   ·go_wp2_with fail
    all_goals
     go_ret
     exact⟨ret_bool (by rw[Hde.out];simp[deKind,pairB,cp,ct,cu,cv]),H6.out⟩
   ·go_wp2_with fail
    all_goals
     go_ret
     exact⟨ret_bool (by rw[Hde.out];simp[deKind,pairB,cp,ct,cu,cv]),H6.out⟩
  ·cases cv:(un == 0)
   ·go_wp2_with fail
    all_goals
     go_ret
     exact⟨ret_bool (by rw[Hde.out];simp[deKind,pairB,cp,ct,cu,cv]),H6.out⟩
   ·go_wp2_with fail
    all_goals
     go_ret
     exact⟨ret_bool (by rw[Hde.out];simp[deKind,pairB,cp,ct,cu,cv]),H6.out⟩
 go_upto_region 8 with fail
 refine wp_region_held_drew (S:=(fun W=>Below w6.heap.size w6 W)) (by kernel_rfl) (by(try dsimp only);exact(Below.refl _ _).drew) (fun hHeld=>?_)
 generalize World.drew w6=Wd8 at hHeld ⊢
 have hbc:=Below.refl Wd8.heap.size Wd8
 refine tkH 0 ?_ rfl (Or.inl ⟨by rfl,?_⟩) hHeld ?_
 rotate_left
 ·(intro w _;go_simp;try(with_reducible rfl))
 try simp only[Act.put,tl1,tl2,tl3]
 iterate 2
  refine tkHl [1,2] ?_ rfl rfl (Or.inl ⟨by rfl,?_⟩) hHeld ?_
  rotate_left
  ·(intro w hSw;(try dsimp only at hSw);obtain⟨z0,z1⟩:=(HX1.out.below hSw).c2;obtain⟨x0,x1,x2,x3,x4,x5,x6,x7,x8⟩:=(HX2.out.below hSw).c9;go_simp;try(with_reducible rfl))
  try simp only[Act.put,tl1,tl2,tl3]
 refine wpAnyH_ready (rs:=[3]) (by kernel_rfl) (by simp) ?_
 refine AllReadyH.cons (o:=⟨_,_,_,_,_,_⟩) rfl (fun K hK=>?_) AllReadyH.nil
 go_simp
 refine(deend_any _ _ _ _ _ hd0 hd1).mono ?_
 rintro e V69 ⟨rfl,hb⟩
 go_wp2_with fail
 have hHeldN:=hHeld.trans (hb.mono hHeld.size)
 have hbc:=hbc.trans (hb.mono hbc.size)
 refine hK.out _ _ ?_ (fun hHeld2=>?_)
 ·exact hHeldN
 clear hK K hHeld hHeldN hb;have hHeld:=hHeld2;clear hHeld2
 try simp only[Act.put,tl1,tl2,tl3]
 refine wpAnyH_ready (rs:=[4]) (by kernel_rfl) (by simp) ?_
 refine AllReadyH.cons (o:=⟨_,_,_,_,_,_⟩) rfl (fun K hK=>?_) AllReadyH.nil
 go_simp
 refine(deproper_any _ _ _ _ _).mono ?_
 rintro e V70 ⟨rfl,hb⟩
 go_wp2_with fail
 have hHeldN:=hHeld.trans (hb.mono hHeld.size)
 have hbc:=hbc.trans (hb.mono hbc.size)
 refine hK.out _ _ ?_ (fun hHeld2=>?_)
 ·exact hHeldN
 clear hK K hHeld hHeldN hb;have hHeld:=hHeld2;clear hHeld2
 try simp only[Act.put,tl1,tl2,tl3]
 refine tkH 5 ?_ rfl (Or.inl ⟨by rfl,?_⟩) hHeld ?_
 rotate_left
 ·(intro w _;go_simp;try(with_reducible rfl))
 try simp only[Act.put,tl1,tl2,tl3]
 refine wpAnyH_done (by kernel_rfl) ?_ _
 obtain⟨w7,ew7⟩:∃w7,w7=V70:=⟨_,rfl⟩
 rw[←ew7] at hHeld ⊢
 clear ew7 hbc
 clear x0 x1 x2 x3 x4 x5 x6 x7 x8 y0 y1 y2 y3
 have H6:=hide (H6.out.trans (hHeld.mono H6.out.size))
 have X6:=hide (X6.out.bel hHeld);have HX1:=hide (HX1.out.below hHeld);have HX2:=hide (HX2.out.below hHeld);have HS:=hide (HS.out.bel hHeld)
 have ya:=X6.out.at_
 have y0:=ya.2 0 _ rfl
 have y1:=ya.2 1 _ rfl
 have y2:=ya.2 2 _ rfl
 have y3:=ya.2 3 _ rfl
 obtain⟨x0,x1,x2,x3,x4,x5,x6,x7,x8⟩:=HX2.out.c9
 clear hHeld ya
 cases cu:properB 0 (days*1440) tf tt
 ·cases cv:(un == 0)
  ·go_wp2_with fail
   all_goals
    go_ret
    exact⟨ret_bool (by rw[Hde.out];simp[deKind,pairB,cp,ct,cu,cv]),H6.out⟩
  ·go_wp2_with fail
   all_goals
    go_ret
    exact⟨ret_bool (by rw[Hde.out];simp[deKind,pairB,cp,ct,cu,cv]),H6.out⟩
 ·cases cv:(un == 0)
  ·go_wp2_with fail
   all_goals
    go_ret
    exact⟨ret_bool (by rw[Hde.out];simp[deKind,pairB,cp,ct,cu,cv]),H6.out⟩
  ·go_wp2_with fail
   all_goals
    go_ret
    exact⟨ret_bool (by rw[Hde.out];simp[deKind,pairB,cp,ct,cu,cv]),H6.out⟩
set_option maxHeartbeats 4000000 in
set_option maxRecDepth 100000 in
theorem devalid2 (days:Int) (H:Option Addr) (nh ch:Nat) (id day fr to tf tt un:Int) (ha:Option Addr) (hn_ hc:Nat) (hs:List Sp) (w:World) (hd0:0≤days) (hd1:days≤16) (hn:hn_=hs.length) (hm:hn_≤9223372036854775807) (hx:Rd w w.heap.size Sp.cells ha hs) :
 Calls Tryz.prog 120 #[.agg #[.int .i64 days,.slice H nh ch],.agg #[.int .i64 id,.int .i64 day,.int .u8 2,.int .i64 fr,.int .i64 to,.int .i64 tf,.int .i64 tt,.int .i64 un,.slice ha hn_ hc]] w fun e w'=>e= .returned (.bool (deOk days ⟨id,day,2,fr,to,tf,tt,un,⟨ha,hn_,hc⟩⟩ hs))∧Below w.heap.size w w':=by
 obtain⟨b1,w1,e1,ew1,hx1,hb1,hz1⟩:=mk_bx w #[.int .i64 days,.slice H nh ch] 58
 obtain⟨b2,w2,e2,ew2,hx2,hb2,hz2⟩:=mk_bx w1 #[.int .i64 id,.int .i64 day,.int .u8 2,.int .i64 fr,.int .i64 to,.int .i64 tf,.int .i64 tt,.int .i64 un,.slice ha hn_ hc] 73
 have h12:b1+1=b2:=by rw[←e2.out,hz1]
 have HB2:=hide (hb1.trans (hb2.mono hb1.size))
 have HX1:=hide ((show At w1 b1 [.int .i64 days,.slice H nh ch] from hx1.at_).below hb2)
 have HX2:=hide (show At w2 b2 [.int .i64 id,.int .i64 day,.int .u8 2,.int .i64 fr,.int .i64 to,.int .i64 tf,.int .i64 tt,.int .i64 un,.slice ha hn_ hc] from hx2.at_)
 have Hz:Hid (∀w:World,(zeroValue 238).run Tryz.prog w= .ok (.agg #[.bool false,.bool false,.bool false,.bool false,.nilFunc]) w):=hide (fun w=>by kernel_rfl)
 have HS:=hide ((hx.bel hb1).bel hb2)
 have Hn:=hide hn
 clear hn hx hx1 hx2 hb1 hb2 hz1 hz2
 go_enter Tryz.func120,Tryz.ntmps120
 go_upto_region 1 with fail
 rw[ew1.out,e1.out,ew2.out,h12]
 clear ew1 e1 ew2 e2
 refine wp_region_held_drew (S:=(fun W=>Below w2.heap.size w2 W)) (by kernel_rfl) (by(try dsimp only);exact(Below.refl _ _).drew) (fun hHeld=>?_)
 generalize World.drew w2=Wd1 at hHeld ⊢
 have hbc:=Below.refl Wd1.heap.size Wd1
 refine tkH 1 ?_ rfl (Or.inl ⟨by rfl,?_⟩) hHeld ?_
 rotate_left
 ·(intro w _;go_simp;try(with_reducible rfl))
 try simp only[Act.put,tl1,tl2,tl3]
 refine tkH 2 ?_ rfl (Or.inl ⟨by rfl,?_⟩) hHeld ?_
 rotate_left
 ·(intro w hSw;(try dsimp only at hSw);have z2:=(HX2.out.bel hSw).2 2 _ rfl;go_simp;try(with_reducible rfl))
 try simp only[Act.put,tl1,tl2,tl3]
 refine cut3 (C:=fun (bm:Nat) (s:Nat) (b5:Nat) (Wc1_1:World)=>(MpU Tryz.prog 5 Wc1_1 bm 4 kindF s)∧(Bx Wc1_1 b5 [.bool false,.bool false,.bool false,.bool false,.nilFunc])∧(w2.heap.size≤b5)∧Below Wd1.heap.size Wd1 Wc1_1∧Below w2.heap.size w2 Wc1_1) (G:=?_) ?_ ?_
 rotate_left
 ·intro hCut
  replace hbc:=Below.refl Wd1.heap.size Wd1
  refine wpAnyH_ready (rs:=[0,7]) (by kernel_rfl) (by simp) ?_
  refine AllReadyH.cons (o:=⟨_,_,_,_,_,_⟩) rfl (fun K hK=>?_) ?_
  ·
   go_simp
   refine(dekinds_any _).mono ?_
   rintro e V12 ⟨bm,s,rfl,hM,hb⟩
   go_wp2_with fail
   have hHeldN:=hHeld.trans (hb.mono hHeld.size)
   have hbc:=hbc.trans (hb.mono hbc.size)
   refine hK.out _ _ ?_ (fun hHeld2=>?_)
   ·exact hHeldN
   clear hK K hHeldN hb;have hHeld:=hHeld2;clear hHeld2
   try simp only[Act.put,tl1,tl2,tl3]
   refine wpAnyH_ready (rs:=[3,7]) (by kernel_rfl) (by simp) ?_
   refine AllReadyH.cons (o:=⟨_,_,_,_,_,_⟩) rfl (fun K hK=>?_) ?_
   ·
    have hlk:=hM.look (T:=239) (E:=238) Tryz.underlying5 Tryz.underlying239 (Hz.out _) (k:=2) (by unfold okU;omega)
    rw[show kindF 2=some (.agg #[.bool false,.bool true,.bool false,.bool false,.func (.func 180) #[] #[]]) from rfl] at hlk
    simp only[Option.getD_some,Option.isSome_some,Option.getD_none,Option.isSome_none] at hlk
    go_simp
    clear hlk
    have hHeldN:=hHeld
    refine hK.out _ _ ?_ (fun hHeld2=>?_)
    ·exact hHeldN
    clear hK K hHeldN;have hHeld:=hHeld2;clear hHeld2
    try simp only[Act.put,tl1,tl2,tl3]
    iterate 3
     refine tkHl [4,5,6] ?_ rfl rfl (Or.inl ⟨by rfl,?_⟩) hHeld ?_
     rotate_left
     ·(intro w _;go_simp;try(with_reducible rfl))
     try simp only[Act.put,tl1,tl2,tl3]
    refine wpAnyH_ready (rs:=[7]) (by kernel_rfl) (by simp) ?_
    refine AllReadyH.cons (o:=⟨_,_,_,_,_,_⟩) rfl (fun K hK=>?_) AllReadyH.nil
    go_simp
    obtain⟨b5,V5,eb5,ev5,hx5,hb,hz5⟩:=mk_bx V12 #[.bool false,.bool false,.bool false,.bool false,.nilFunc] 238
    rw[ev5.out,eb5.out]
    have hge5:w2.heap.size≤b5:=by have:=eb5.out;have:=hHeld.size;omega
    clear ev5 eb5 hz5
    have hHeldN:=hHeld.trans (hb.mono hHeld.size)
    have hM:=hM.bel hb
    have hbc:=hbc.trans (hb.mono hbc.size)
    refine hK.out _ _ ?_ (fun hHeld2=>?_)
    ·exact hHeldN
    clear hK K hHeldN hb;have hHeld:=hHeld2;clear hHeld2
    try simp only[Act.put,tl1,tl2,tl3]
    exact hCut bm s b5 V5 ⟨hM,hx5,hge5,hbc,hHeld⟩
   refine AllReadyH.cons (o:=⟨_,_,_,_,_,_⟩) rfl (fun K hK=>?_) AllReadyH.nil
   go_simp
   obtain⟨b5,V5,eb5,ev5,hx5,hb,hz5⟩:=mk_bx V12 #[.bool false,.bool false,.bool false,.bool false,.nilFunc] 238
   rw[ev5.out,eb5.out]
   have hge5:w2.heap.size≤b5:=by have:=eb5.out;have:=hHeld.size;omega
   clear ev5 eb5 hz5
   have hHeldN:=hHeld.trans (hb.mono hHeld.size)
   have hM:=hM.bel hb
   have hbc:=hbc.trans (hb.mono hbc.size)
   refine hK.out _ _ ?_ (fun hHeld2=>?_)
   ·exact hHeldN
   clear hK K hHeldN hb;have hHeld:=hHeld2;clear hHeld2
   try simp only[Act.put,tl1,tl2,tl3]
   refine wpAnyH_ready (rs:=[3]) (by kernel_rfl) (by simp) ?_
   refine AllReadyH.cons (o:=⟨_,_,_,_,_,_⟩) rfl (fun K hK=>?_) AllReadyH.nil
   have hlk:=hM.look (T:=239) (E:=238) Tryz.underlying5 Tryz.underlying239 (Hz.out _) (k:=2) (by unfold okU;omega)
   rw[show kindF 2=some (.agg #[.bool false,.bool true,.bool false,.bool false,.func (.func 180) #[] #[]]) from rfl] at hlk
   simp only[Option.getD_some,Option.isSome_some,Option.getD_none,Option.isSome_none] at hlk
   go_simp
   clear hlk
   have hHeldN:=hHeld
   refine hK.out _ _ ?_ (fun hHeld2=>?_)
   ·exact hHeldN
   clear hK K hHeldN;have hHeld:=hHeld2;clear hHeld2
   try simp only[Act.put,tl1,tl2,tl3]
   iterate 3
    refine tkHl [4,5,6] ?_ rfl rfl (Or.inl ⟨by rfl,?_⟩) hHeld ?_
    rotate_left
    ·(intro w _;go_simp;try(with_reducible rfl))
    try simp only[Act.put,tl1,tl2,tl3]
   exact hCut bm s b5 V5 ⟨hM,hx5,hge5,hbc,hHeld⟩
  refine AllReadyH.cons (o:=⟨_,_,_,_,_,_⟩) rfl (fun K hK=>?_) AllReadyH.nil
  go_simp
  obtain⟨b5,V5,eb5,ev5,hx5,hb,hz5⟩:=mk_bx Wd1 #[.bool false,.bool false,.bool false,.bool false,.nilFunc] 238
  rw[ev5.out,eb5.out]
  have hge5:w2.heap.size≤b5:=by have:=eb5.out;have:=hHeld.size;omega
  clear ev5 eb5 hz5
  have hHeldN:=hHeld.trans (hb.mono hHeld.size)
  have hbc:=hbc.trans (hb.mono hbc.size)
  refine hK.out _ _ ?_ (fun hHeld2=>?_)
  ·exact hHeldN
  clear hK K hHeldN hb;have hHeld:=hHeld2;clear hHeld2
  try simp only[Act.put,tl1,tl2,tl3]
  refine wpAnyH_ready (rs:=[0]) (by kernel_rfl) (by simp) ?_
  refine AllReadyH.cons (o:=⟨_,_,_,_,_,_⟩) rfl (fun K hK=>?_) AllReadyH.nil
  go_simp
  refine(dekinds_any _).mono ?_
  rintro e V12 ⟨bm,s,rfl,hM,hb⟩
  go_wp2_with fail
  have hHeldN:=hHeld.trans (hb.mono hHeld.size)
  have hx5:=hx5.bel hb
  have hbc:=hbc.trans (hb.mono hbc.size)
  refine hK.out _ _ ?_ (fun hHeld2=>?_)
  ·exact hHeldN
  clear hK K hHeldN hb;have hHeld:=hHeld2;clear hHeld2
  try simp only[Act.put,tl1,tl2,tl3]
  refine wpAnyH_ready (rs:=[3]) (by kernel_rfl) (by simp) ?_
  refine AllReadyH.cons (o:=⟨_,_,_,_,_,_⟩) rfl (fun K hK=>?_) AllReadyH.nil
  have hlk:=hM.look (T:=239) (E:=238) Tryz.underlying5 Tryz.underlying239 (Hz.out _) (k:=2) (by unfold okU;omega)
  rw[show kindF 2=some (.agg #[.bool false,.bool true,.bool false,.bool false,.func (.func 180) #[] #[]]) from rfl] at hlk
  simp only[Option.getD_some,Option.isSome_some,Option.getD_none,Option.isSome_none] at hlk
  go_simp
  clear hlk
  have hHeldN:=hHeld
  refine hK.out _ _ ?_ (fun hHeld2=>?_)
  ·exact hHeldN
  clear hK K hHeldN;have hHeld:=hHeld2;clear hHeld2
  try simp only[Act.put,tl1,tl2,tl3]
  iterate 3
   refine tkHl [4,5,6] ?_ rfl rfl (Or.inl ⟨by rfl,?_⟩) hHeld ?_
   rotate_left
   ·(intro w _;go_simp;try(with_reducible rfl))
   try simp only[Act.put,tl1,tl2,tl3]
  exact hCut bm s b5 V12 ⟨hM,hx5,hge5,hbc,hHeld⟩
 intro bm s b5 Wc1_1 ⟨hM,hx5,hge5,hbN,hHeldN⟩
 have hbc:=hbc.trans (hbN.mono hbc.size);clear hHeld hbN;have hHeld:=hHeldN;clear hHeldN
 refine wpAnyH_ready (rs:=[8]) (by kernel_rfl) (by simp) ?_
 refine AllReadyH.cons (o:=⟨_,_,_,_,_,_⟩) rfl (fun K hK=>?_) AllReadyH.nil
 have X5:=hide hx5
 have y:=hx5.at_
 have fz:=hx5.fz
 have y0:=y.2 0 _ rfl
 have y1:=y.2 1 _ rfl
 have y2:=y.2 2 _ rfl
 have y3:=y.2 3 _ rfl
 have y4:=y.2 4 _ rfl
 have f0:=fz 0
 have f1:=fz 1
 have f2:=fz 2
 have f3:=fz 3
 have f4:=fz 4
 clear y fz hx5
 have hH:=hHeld
 go_simp
 clear y0 y1 y2 y3 y4 f0 f1 f2 f3 f4
 refine hK.out _ _ ?_ (fun hHeld2=>?_)
 ·(try dsimp only);exact(((((hH.setCell (p:=⟨b5,0,none⟩) hge5 (.bool false)).setCell (p:=⟨b5,1,none⟩) hge5 (.bool true)).setCell (p:=⟨b5,2,none⟩) hge5 (.bool false)).setCell (p:=⟨b5,3,none⟩) hge5 (.bool false)).setCell (p:=⟨b5,4,none⟩) hge5 (.func (.func 180) #[] #[]))
 clear hK K hHeld;have hHeld:=hHeld2;clear hHeld2
 try simp only[Act.put,tl1,tl2,tl3]
 refine tkH 9 ?_ rfl (Or.inl ⟨by rfl,?_⟩) hHeld ?_
 rotate_left
 ·(intro w _;go_simp;try(with_reducible rfl))
 try simp only[Act.put,tl1,tl2,tl3]
 refine wpAnyH_done (by kernel_rfl) ?_ _
 have XF:=(((((X5.out.set (.bool false) (j:=0) (by simp)).set (.bool true) (j:=1) (by simp)).set (.bool false) (j:=2) (by simp)).set (.bool false) (j:=3) (by simp)).set (.func (.func 180) #[] #[]) (j:=4) (by simp))
 generalize (((((Wc1_1.setCell ⟨b5,0,none⟩ (.bool false)).setCell ⟨b5,1,none⟩ (.bool true)).setCell ⟨b5,2,none⟩ (.bool false)).setCell ⟨b5,3,none⟩ (.bool false)).setCell ⟨b5,4,none⟩ (.func (.func 180) #[] #[]))=w5 at hHeld XF ⊢
 have X5:=hide (show Bx w5 b5 [.bool false,.bool true,.bool false,.bool false,.func (.func 180) #[] #[]] from XF)
 have H5:=hide (HB2.out.trans (hHeld.mono HB2.out.size))
 have HX1:=hide (HX1.out.below hHeld);have HX2:=hide (HX2.out.below hHeld);have HS:=hide (HS.out.bel hHeld)
 clear XF hHeld hbc hM Hz hge5
 obtain⟨x0,x1,x2,x3,x4,x5,x6,x7,x8⟩:=HX2.out.c9
 cases ci:inB 0 9999 id
 ·have he:=hide (show deOk days ⟨id,day,2,fr,to,tf,tt,un,⟨ha,hn_,hc⟩⟩ hs=false by simp[deOk,ci])
  have Ci:=hide ci
  clear ci
  go_wp2_with fail
  refine(dein_fn _ _ _ _).mono ?_
  rintro e w' ⟨rfl,rfl⟩
  rw[Ci.out]
  go_wp2_with fail
  go_ret
  exact⟨ret_bool he.out.symm,H5.out⟩
 cases cd:inB 0 100000 day
 ·have he:=hide (show deOk days ⟨id,day,2,fr,to,tf,tt,un,⟨ha,hn_,hc⟩⟩ hs=false by simp[deOk,cd])
  have Ci:=hide ci;have Cd:=hide cd
  clear ci cd
  go_wp2_with fail
  refine(dein_fn _ _ _ _).mono ?_
  rintro e w' ⟨rfl,rfl⟩
  rw[Ci.out]
  go_wp2_with fail
  refine(dein_fn _ _ _ _).mono ?_
  rintro e w' ⟨rfl,rfl⟩
  rw[Cd.out]
  go_wp2_with fail
  go_ret
  exact⟨ret_bool he.out.symm,H5.out⟩
 cases cf:inB 1 9999 fr
 ·have he:=hide (show deOk days ⟨id,day,2,fr,to,tf,tt,un,⟨ha,hn_,hc⟩⟩ hs=false by simp[deOk,cf])
  have Ci:=hide ci;have Cd:=hide cd;have Cf:=hide cf
  clear ci cd cf
  go_wp2_with fail
  refine(dein_fn _ _ _ _).mono ?_
  rintro e w' ⟨rfl,rfl⟩
  rw[Ci.out]
  go_wp2_with fail
  refine(dein_fn _ _ _ _).mono ?_
  rintro e w' ⟨rfl,rfl⟩
  rw[Cd.out]
  go_wp2_with fail
  refine(deperson_fn _ _).mono ?_
  rintro e w' ⟨rfl,rfl⟩
  rw[Cf.out]
  go_wp2_with fail
  go_ret
  exact⟨ret_bool he.out.symm,H5.out⟩
 have Hde:=hide (show deOk days ⟨id,day,2,fr,to,tf,tt,un,⟨ha,hn_,hc⟩⟩ hs=deKind days ⟨id,day,2,fr,to,tf,tt,un,⟨ha,hn_,hc⟩⟩ hs by simp[deOk,ci,cd,cf])
 have Ci:=hide ci;have Cd:=hide cd;have Cf:=hide cf
 have hday:0≤day∧day≤100000:=by simpa[inB] using cd
 clear ci cd cf
 go_wp2_with fail
 refine(dein_fn _ _ _ _).mono ?_
 rintro e w' ⟨rfl,rfl⟩
 rw[Ci.out]
 go_wp2_with fail
 refine(dein_fn _ _ _ _).mono ?_
 rintro e w' ⟨rfl,rfl⟩
 rw[Cd.out]
 go_wp2_with fail
 refine(deperson_fn _ _).mono ?_
 rintro e w' ⟨rfl,rfl⟩
 rw[Cf.out]
 have fd:IntKind.i64.wrap (day+1)=day+1:=wrapI (by omega)
 have hq:=eql_turn0 tf tt
 go_upto_region 4 with fail
 go_quiet (fail)
 obtain⟨w6,hw6⟩:∃w6,Hid (w5.drewN nq=w6):=⟨_,hide rfl⟩
 have hb6:Below w5.heap.size w5 w6:=by rw[←hw6.out];exact below_drewN (Below.refl _ _) nq
 rw[hw6.out]
 have H6:=hide (H5.out.trans (hb6.mono H5.out.size))
 have X6:=hide (X5.out.bel hb6);have HX1:=hide (HX1.out.below hb6);have HX2:=hide (HX2.out.below hb6);have HS:=hide (HS.out.bel hb6)
 have ya:=X6.out.at_
 have y0:=ya.2 0 _ rfl
 have y1:=ya.2 1 _ rfl
 have y2:=ya.2 2 _ rfl
 have y3:=ya.2 3 _ rfl
 clear x0 x1 x2 x3 x4 x5 x6 x7 x8 ya hb6 hw6 X5 H5
 obtain⟨x0,x1,x2,x3,x4,x5,x6,x7,x8⟩:=HX2.out.c9
 go_upto_region 8 with fail
 refine wp_region_held_drew (S:=(fun W=>Below w6.heap.size w6 W)) (by kernel_rfl) (by(try dsimp only);exact(Below.refl _ _).drew) (fun hHeld=>?_)
 generalize World.drew w6=Wd8 at hHeld ⊢
 have hbc:=Below.refl Wd8.heap.size Wd8
 refine tkH 0 ?_ rfl (Or.inl ⟨by rfl,?_⟩) hHeld ?_
 rotate_left
 ·(intro w _;go_simp;try(with_reducible rfl))
 try simp only[Act.put,tl1,tl2,tl3]
 iterate 2
  refine tkHl [1,2] ?_ rfl rfl (Or.inl ⟨by rfl,?_⟩) hHeld ?_
  rotate_left
  ·(intro w hSw;(try dsimp only at hSw);obtain⟨z0,z1⟩:=(HX1.out.below hSw).c2;obtain⟨x0,x1,x2,x3,x4,x5,x6,x7,x8⟩:=(HX2.out.below hSw).c9;go_simp;try(with_reducible rfl))
  try simp only[Act.put,tl1,tl2,tl3]
 refine wpAnyH_ready (rs:=[3]) (by kernel_rfl) (by simp) ?_
 refine AllReadyH.cons (o:=⟨_,_,_,_,_,_⟩) rfl (fun K hK=>?_) AllReadyH.nil
 go_simp
 refine(deend_any _ _ _ _ _ hd0 hd1).mono ?_
 rintro e V69 ⟨rfl,hb⟩
 go_wp2_with fail
 have hHeldN:=hHeld.trans (hb.mono hHeld.size)
 have hbc:=hbc.trans (hb.mono hbc.size)
 refine hK.out _ _ ?_ (fun hHeld2=>?_)
 ·exact hHeldN
 clear hK K hHeld hHeldN hb;have hHeld:=hHeld2;clear hHeld2
 try simp only[Act.put,tl1,tl2,tl3]
 refine wpAnyH_ready (rs:=[4]) (by kernel_rfl) (by simp) ?_
 refine AllReadyH.cons (o:=⟨_,_,_,_,_,_⟩) rfl (fun K hK=>?_) AllReadyH.nil
 go_simp
 refine(deproper_any _ _ _ _ _).mono ?_
 rintro e V70 ⟨rfl,hb⟩
 go_wp2_with fail
 have hHeldN:=hHeld.trans (hb.mono hHeld.size)
 have hbc:=hbc.trans (hb.mono hbc.size)
 refine hK.out _ _ ?_ (fun hHeld2=>?_)
 ·exact hHeldN
 clear hK K hHeld hHeldN hb;have hHeld:=hHeld2;clear hHeld2
 try simp only[Act.put,tl1,tl2,tl3]
 refine tkH 5 ?_ rfl (Or.inl ⟨by rfl,?_⟩) hHeld ?_
 rotate_left
 ·(intro w _;go_simp;try(with_reducible rfl))
 try simp only[Act.put,tl1,tl2,tl3]
 refine wpAnyH_done (by kernel_rfl) ?_ _
 obtain⟨w7,ew7⟩:∃w7,w7=V70:=⟨_,rfl⟩
 rw[←ew7] at hHeld ⊢
 clear ew7 hbc
 clear x0 x1 x2 x3 x4 x5 x6 x7 x8 y0 y1 y2 y3
 have H6:=hide (H6.out.trans (hHeld.mono H6.out.size))
 have X6:=hide (X6.out.bel hHeld);have HX1:=hide (HX1.out.below hHeld);have HX2:=hide (HX2.out.below hHeld);have HS:=hide (HS.out.bel hHeld)
 have ya:=X6.out.at_
 have y0:=ya.2 0 _ rfl
 have y1:=ya.2 1 _ rfl
 have y2:=ya.2 2 _ rfl
 have y3:=ya.2 3 _ rfl
 obtain⟨x0,x1,x2,x3,x4,x5,x6,x7,x8⟩:=HX2.out.c9
 clear hHeld ya
 cases cu:properB 0 (days*1440) tf tt
 ·cases ct:(to == 0)
  ·cases cv:(un == 0)
   ·go_wp2_with fail
    all_goals
     go_ret
     exact⟨ret_bool (by rw[Hde.out];simp[deKind,pairB,cu,ct,cv]),H6.out⟩
   ·go_wp2_with fail
    all_goals
     go_ret
     exact⟨ret_bool (by rw[Hde.out];simp[deKind,pairB,cu,ct,cv]),H6.out⟩
  ·cases cv:(un == 0)
   ·go_wp2_with fail
    all_goals
     go_ret
     exact⟨ret_bool (by rw[Hde.out];simp[deKind,pairB,cu,ct,cv]),H6.out⟩
   ·go_wp2_with fail
    all_goals
     go_ret
     exact⟨ret_bool (by rw[Hde.out];simp[deKind,pairB,cu,ct,cv]),H6.out⟩
 ·cases ct:(to == 0)
  ·cases cv:(un == 0)
   ·go_wp2_with fail
    all_goals
     go_ret
     exact⟨ret_bool (by rw[Hde.out];simp[deKind,pairB,cu,ct,cv]),H6.out⟩
   ·go_wp2_with fail
    all_goals
     go_ret
     exact⟨ret_bool (by rw[Hde.out];simp[deKind,pairB,cu,ct,cv]),H6.out⟩
  ·cases cv:(un == 0)
   ·go_wp2_with fail
    all_goals
     go_ret
     exact⟨ret_bool (by rw[Hde.out];simp[deKind,pairB,cu,ct,cv]),H6.out⟩
   ·go_wp2_with fail
    all_goals
     go_ret
     exact⟨ret_bool (by rw[Hde.out];simp[deKind,pairB,cu,ct,cv]),H6.out⟩
set_option maxHeartbeats 4000000 in
set_option maxRecDepth 100000 in
theorem devalid3 (days:Int) (H:Option Addr) (nh ch:Nat) (id day fr to tf tt un:Int) (ha:Option Addr) (hn_ hc:Nat) (hs:List Sp) (w:World) (hd0:0≤days) (hd1:days≤16) (hn:hn_=hs.length) (hm:hn_≤9223372036854775807) (hx:Rd w w.heap.size Sp.cells ha hs) :
 Calls Tryz.prog 120 #[.agg #[.int .i64 days,.slice H nh ch],.agg #[.int .i64 id,.int .i64 day,.int .u8 3,.int .i64 fr,.int .i64 to,.int .i64 tf,.int .i64 tt,.int .i64 un,.slice ha hn_ hc]] w fun e w'=>e= .returned (.bool (deOk days ⟨id,day,3,fr,to,tf,tt,un,⟨ha,hn_,hc⟩⟩ hs))∧Below w.heap.size w w':=by
 obtain⟨b1,w1,e1,ew1,hx1,hb1,hz1⟩:=mk_bx w #[.int .i64 days,.slice H nh ch] 58
 obtain⟨b2,w2,e2,ew2,hx2,hb2,hz2⟩:=mk_bx w1 #[.int .i64 id,.int .i64 day,.int .u8 3,.int .i64 fr,.int .i64 to,.int .i64 tf,.int .i64 tt,.int .i64 un,.slice ha hn_ hc] 73
 have h12:b1+1=b2:=by rw[←e2.out,hz1]
 have HB2:=hide (hb1.trans (hb2.mono hb1.size))
 have HX1:=hide ((show At w1 b1 [.int .i64 days,.slice H nh ch] from hx1.at_).below hb2)
 have HX2:=hide (show At w2 b2 [.int .i64 id,.int .i64 day,.int .u8 3,.int .i64 fr,.int .i64 to,.int .i64 tf,.int .i64 tt,.int .i64 un,.slice ha hn_ hc] from hx2.at_)
 have Hz:Hid (∀w:World,(zeroValue 238).run Tryz.prog w= .ok (.agg #[.bool false,.bool false,.bool false,.bool false,.nilFunc]) w):=hide (fun w=>by kernel_rfl)
 have HS:=hide ((hx.bel hb1).bel hb2)
 have Hn:=hide hn
 clear hn hx hx1 hx2 hb1 hb2 hz1 hz2
 go_enter Tryz.func120,Tryz.ntmps120
 go_upto_region 1 with fail
 rw[ew1.out,e1.out,ew2.out,h12]
 clear ew1 e1 ew2 e2
 refine wp_region_held_drew (S:=(fun W=>Below w2.heap.size w2 W)) (by kernel_rfl) (by(try dsimp only);exact(Below.refl _ _).drew) (fun hHeld=>?_)
 generalize World.drew w2=Wd1 at hHeld ⊢
 have hbc:=Below.refl Wd1.heap.size Wd1
 refine tkH 1 ?_ rfl (Or.inl ⟨by rfl,?_⟩) hHeld ?_
 rotate_left
 ·(intro w _;go_simp;try(with_reducible rfl))
 try simp only[Act.put,tl1,tl2,tl3]
 refine tkH 2 ?_ rfl (Or.inl ⟨by rfl,?_⟩) hHeld ?_
 rotate_left
 ·(intro w hSw;(try dsimp only at hSw);have z2:=(HX2.out.bel hSw).2 2 _ rfl;go_simp;try(with_reducible rfl))
 try simp only[Act.put,tl1,tl2,tl3]
 refine cut3 (C:=fun (bm:Nat) (s:Nat) (b5:Nat) (Wc1_1:World)=>(MpU Tryz.prog 5 Wc1_1 bm 4 kindF s)∧(Bx Wc1_1 b5 [.bool false,.bool false,.bool false,.bool false,.nilFunc])∧(w2.heap.size≤b5)∧Below Wd1.heap.size Wd1 Wc1_1∧Below w2.heap.size w2 Wc1_1) (G:=?_) ?_ ?_
 rotate_left
 ·intro hCut
  replace hbc:=Below.refl Wd1.heap.size Wd1
  refine wpAnyH_ready (rs:=[0,7]) (by kernel_rfl) (by simp) ?_
  refine AllReadyH.cons (o:=⟨_,_,_,_,_,_⟩) rfl (fun K hK=>?_) ?_
  ·
   go_simp
   refine(dekinds_any _).mono ?_
   rintro e V12 ⟨bm,s,rfl,hM,hb⟩
   go_wp2_with fail
   have hHeldN:=hHeld.trans (hb.mono hHeld.size)
   have hbc:=hbc.trans (hb.mono hbc.size)
   refine hK.out _ _ ?_ (fun hHeld2=>?_)
   ·exact hHeldN
   clear hK K hHeldN hb;have hHeld:=hHeld2;clear hHeld2
   try simp only[Act.put,tl1,tl2,tl3]
   refine wpAnyH_ready (rs:=[3,7]) (by kernel_rfl) (by simp) ?_
   refine AllReadyH.cons (o:=⟨_,_,_,_,_,_⟩) rfl (fun K hK=>?_) ?_
   ·
    have hlk:=hM.look (T:=239) (E:=238) Tryz.underlying5 Tryz.underlying239 (Hz.out _) (k:=3) (by unfold okU;omega)
    rw[show kindF 3=some (.agg #[.bool false,.bool false,.bool false,.bool true,.func (.func 181) #[] #[]]) from rfl] at hlk
    simp only[Option.getD_some,Option.isSome_some,Option.getD_none,Option.isSome_none] at hlk
    go_simp
    clear hlk
    have hHeldN:=hHeld
    refine hK.out _ _ ?_ (fun hHeld2=>?_)
    ·exact hHeldN
    clear hK K hHeldN;have hHeld:=hHeld2;clear hHeld2
    try simp only[Act.put,tl1,tl2,tl3]
    iterate 3
     refine tkHl [4,5,6] ?_ rfl rfl (Or.inl ⟨by rfl,?_⟩) hHeld ?_
     rotate_left
     ·(intro w _;go_simp;try(with_reducible rfl))
     try simp only[Act.put,tl1,tl2,tl3]
    refine wpAnyH_ready (rs:=[7]) (by kernel_rfl) (by simp) ?_
    refine AllReadyH.cons (o:=⟨_,_,_,_,_,_⟩) rfl (fun K hK=>?_) AllReadyH.nil
    go_simp
    obtain⟨b5,V5,eb5,ev5,hx5,hb,hz5⟩:=mk_bx V12 #[.bool false,.bool false,.bool false,.bool false,.nilFunc] 238
    rw[ev5.out,eb5.out]
    have hge5:w2.heap.size≤b5:=by have:=eb5.out;have:=hHeld.size;omega
    clear ev5 eb5 hz5
    have hHeldN:=hHeld.trans (hb.mono hHeld.size)
    have hM:=hM.bel hb
    have hbc:=hbc.trans (hb.mono hbc.size)
    refine hK.out _ _ ?_ (fun hHeld2=>?_)
    ·exact hHeldN
    clear hK K hHeldN hb;have hHeld:=hHeld2;clear hHeld2
    try simp only[Act.put,tl1,tl2,tl3]
    exact hCut bm s b5 V5 ⟨hM,hx5,hge5,hbc,hHeld⟩
   refine AllReadyH.cons (o:=⟨_,_,_,_,_,_⟩) rfl (fun K hK=>?_) AllReadyH.nil
   go_simp
   obtain⟨b5,V5,eb5,ev5,hx5,hb,hz5⟩:=mk_bx V12 #[.bool false,.bool false,.bool false,.bool false,.nilFunc] 238
   rw[ev5.out,eb5.out]
   have hge5:w2.heap.size≤b5:=by have:=eb5.out;have:=hHeld.size;omega
   clear ev5 eb5 hz5
   have hHeldN:=hHeld.trans (hb.mono hHeld.size)
   have hM:=hM.bel hb
   have hbc:=hbc.trans (hb.mono hbc.size)
   refine hK.out _ _ ?_ (fun hHeld2=>?_)
   ·exact hHeldN
   clear hK K hHeldN hb;have hHeld:=hHeld2;clear hHeld2
   try simp only[Act.put,tl1,tl2,tl3]
   refine wpAnyH_ready (rs:=[3]) (by kernel_rfl) (by simp) ?_
   refine AllReadyH.cons (o:=⟨_,_,_,_,_,_⟩) rfl (fun K hK=>?_) AllReadyH.nil
   have hlk:=hM.look (T:=239) (E:=238) Tryz.underlying5 Tryz.underlying239 (Hz.out _) (k:=3) (by unfold okU;omega)
   rw[show kindF 3=some (.agg #[.bool false,.bool false,.bool false,.bool true,.func (.func 181) #[] #[]]) from rfl] at hlk
   simp only[Option.getD_some,Option.isSome_some,Option.getD_none,Option.isSome_none] at hlk
   go_simp
   clear hlk
   have hHeldN:=hHeld
   refine hK.out _ _ ?_ (fun hHeld2=>?_)
   ·exact hHeldN
   clear hK K hHeldN;have hHeld:=hHeld2;clear hHeld2
   try simp only[Act.put,tl1,tl2,tl3]
   iterate 3
    refine tkHl [4,5,6] ?_ rfl rfl (Or.inl ⟨by rfl,?_⟩) hHeld ?_
    rotate_left
    ·(intro w _;go_simp;try(with_reducible rfl))
    try simp only[Act.put,tl1,tl2,tl3]
   exact hCut bm s b5 V5 ⟨hM,hx5,hge5,hbc,hHeld⟩
  refine AllReadyH.cons (o:=⟨_,_,_,_,_,_⟩) rfl (fun K hK=>?_) AllReadyH.nil
  go_simp
  obtain⟨b5,V5,eb5,ev5,hx5,hb,hz5⟩:=mk_bx Wd1 #[.bool false,.bool false,.bool false,.bool false,.nilFunc] 238
  rw[ev5.out,eb5.out]
  have hge5:w2.heap.size≤b5:=by have:=eb5.out;have:=hHeld.size;omega
  clear ev5 eb5 hz5
  have hHeldN:=hHeld.trans (hb.mono hHeld.size)
  have hbc:=hbc.trans (hb.mono hbc.size)
  refine hK.out _ _ ?_ (fun hHeld2=>?_)
  ·exact hHeldN
  clear hK K hHeldN hb;have hHeld:=hHeld2;clear hHeld2
  try simp only[Act.put,tl1,tl2,tl3]
  refine wpAnyH_ready (rs:=[0]) (by kernel_rfl) (by simp) ?_
  refine AllReadyH.cons (o:=⟨_,_,_,_,_,_⟩) rfl (fun K hK=>?_) AllReadyH.nil
  go_simp
  refine(dekinds_any _).mono ?_
  rintro e V12 ⟨bm,s,rfl,hM,hb⟩
  go_wp2_with fail
  have hHeldN:=hHeld.trans (hb.mono hHeld.size)
  have hx5:=hx5.bel hb
  have hbc:=hbc.trans (hb.mono hbc.size)
  refine hK.out _ _ ?_ (fun hHeld2=>?_)
  ·exact hHeldN
  clear hK K hHeldN hb;have hHeld:=hHeld2;clear hHeld2
  try simp only[Act.put,tl1,tl2,tl3]
  refine wpAnyH_ready (rs:=[3]) (by kernel_rfl) (by simp) ?_
  refine AllReadyH.cons (o:=⟨_,_,_,_,_,_⟩) rfl (fun K hK=>?_) AllReadyH.nil
  have hlk:=hM.look (T:=239) (E:=238) Tryz.underlying5 Tryz.underlying239 (Hz.out _) (k:=3) (by unfold okU;omega)
  rw[show kindF 3=some (.agg #[.bool false,.bool false,.bool false,.bool true,.func (.func 181) #[] #[]]) from rfl] at hlk
  simp only[Option.getD_some,Option.isSome_some,Option.getD_none,Option.isSome_none] at hlk
  go_simp
  clear hlk
  have hHeldN:=hHeld
  refine hK.out _ _ ?_ (fun hHeld2=>?_)
  ·exact hHeldN
  clear hK K hHeldN;have hHeld:=hHeld2;clear hHeld2
  try simp only[Act.put,tl1,tl2,tl3]
  iterate 3
   refine tkHl [4,5,6] ?_ rfl rfl (Or.inl ⟨by rfl,?_⟩) hHeld ?_
   rotate_left
   ·(intro w _;go_simp;try(with_reducible rfl))
   try simp only[Act.put,tl1,tl2,tl3]
  exact hCut bm s b5 V12 ⟨hM,hx5,hge5,hbc,hHeld⟩
 intro bm s b5 Wc1_1 ⟨hM,hx5,hge5,hbN,hHeldN⟩
 have hbc:=hbc.trans (hbN.mono hbc.size);clear hHeld hbN;have hHeld:=hHeldN;clear hHeldN
 refine wpAnyH_ready (rs:=[8]) (by kernel_rfl) (by simp) ?_
 refine AllReadyH.cons (o:=⟨_,_,_,_,_,_⟩) rfl (fun K hK=>?_) AllReadyH.nil
 have X5:=hide hx5
 have y:=hx5.at_
 have fz:=hx5.fz
 have y0:=y.2 0 _ rfl
 have y1:=y.2 1 _ rfl
 have y2:=y.2 2 _ rfl
 have y3:=y.2 3 _ rfl
 have y4:=y.2 4 _ rfl
 have f0:=fz 0
 have f1:=fz 1
 have f2:=fz 2
 have f3:=fz 3
 have f4:=fz 4
 clear y fz hx5
 have hH:=hHeld
 go_simp
 clear y0 y1 y2 y3 y4 f0 f1 f2 f3 f4
 refine hK.out _ _ ?_ (fun hHeld2=>?_)
 ·(try dsimp only);exact(((((hH.setCell (p:=⟨b5,0,none⟩) hge5 (.bool false)).setCell (p:=⟨b5,1,none⟩) hge5 (.bool false)).setCell (p:=⟨b5,2,none⟩) hge5 (.bool false)).setCell (p:=⟨b5,3,none⟩) hge5 (.bool true)).setCell (p:=⟨b5,4,none⟩) hge5 (.func (.func 181) #[] #[]))
 clear hK K hHeld;have hHeld:=hHeld2;clear hHeld2
 try simp only[Act.put,tl1,tl2,tl3]
 refine tkH 9 ?_ rfl (Or.inl ⟨by rfl,?_⟩) hHeld ?_
 rotate_left
 ·(intro w _;go_simp;try(with_reducible rfl))
 try simp only[Act.put,tl1,tl2,tl3]
 refine wpAnyH_done (by kernel_rfl) ?_ _
 have XF:=(((((X5.out.set (.bool false) (j:=0) (by simp)).set (.bool false) (j:=1) (by simp)).set (.bool false) (j:=2) (by simp)).set (.bool true) (j:=3) (by simp)).set (.func (.func 181) #[] #[]) (j:=4) (by simp))
 generalize (((((Wc1_1.setCell ⟨b5,0,none⟩ (.bool false)).setCell ⟨b5,1,none⟩ (.bool false)).setCell ⟨b5,2,none⟩ (.bool false)).setCell ⟨b5,3,none⟩ (.bool true)).setCell ⟨b5,4,none⟩ (.func (.func 181) #[] #[]))=w5 at hHeld XF ⊢
 have X5:=hide (show Bx w5 b5 [.bool false,.bool false,.bool false,.bool true,.func (.func 181) #[] #[]] from XF)
 have H5:=hide (HB2.out.trans (hHeld.mono HB2.out.size))
 have HX1:=hide (HX1.out.below hHeld);have HX2:=hide (HX2.out.below hHeld);have HS:=hide (HS.out.bel hHeld)
 clear XF hHeld hbc hM Hz hge5
 obtain⟨x0,x1,x2,x3,x4,x5,x6,x7,x8⟩:=HX2.out.c9
 cases ci:inB 0 9999 id
 ·have he:=hide (show deOk days ⟨id,day,3,fr,to,tf,tt,un,⟨ha,hn_,hc⟩⟩ hs=false by simp[deOk,ci])
  have Ci:=hide ci
  clear ci
  go_wp2_with fail
  refine(dein_fn _ _ _ _).mono ?_
  rintro e w' ⟨rfl,rfl⟩
  rw[Ci.out]
  go_wp2_with fail
  go_ret
  exact⟨ret_bool he.out.symm,H5.out⟩
 cases cd:inB 0 100000 day
 ·have he:=hide (show deOk days ⟨id,day,3,fr,to,tf,tt,un,⟨ha,hn_,hc⟩⟩ hs=false by simp[deOk,cd])
  have Ci:=hide ci;have Cd:=hide cd
  clear ci cd
  go_wp2_with fail
  refine(dein_fn _ _ _ _).mono ?_
  rintro e w' ⟨rfl,rfl⟩
  rw[Ci.out]
  go_wp2_with fail
  refine(dein_fn _ _ _ _).mono ?_
  rintro e w' ⟨rfl,rfl⟩
  rw[Cd.out]
  go_wp2_with fail
  go_ret
  exact⟨ret_bool he.out.symm,H5.out⟩
 cases cf:inB 1 9999 fr
 ·have he:=hide (show deOk days ⟨id,day,3,fr,to,tf,tt,un,⟨ha,hn_,hc⟩⟩ hs=false by simp[deOk,cf])
  have Ci:=hide ci;have Cd:=hide cd;have Cf:=hide cf
  clear ci cd cf
  go_wp2_with fail
  refine(dein_fn _ _ _ _).mono ?_
  rintro e w' ⟨rfl,rfl⟩
  rw[Ci.out]
  go_wp2_with fail
  refine(dein_fn _ _ _ _).mono ?_
  rintro e w' ⟨rfl,rfl⟩
  rw[Cd.out]
  go_wp2_with fail
  refine(deperson_fn _ _).mono ?_
  rintro e w' ⟨rfl,rfl⟩
  rw[Cf.out]
  go_wp2_with fail
  go_ret
  exact⟨ret_bool he.out.symm,H5.out⟩
 have Hde:=hide (show deOk days ⟨id,day,3,fr,to,tf,tt,un,⟨ha,hn_,hc⟩⟩ hs=deKind days ⟨id,day,3,fr,to,tf,tt,un,⟨ha,hn_,hc⟩⟩ hs by simp[deOk,ci,cd,cf])
 have Ci:=hide ci;have Cd:=hide cd;have Cf:=hide cf
 have hday:0≤day∧day≤100000:=by simpa[inB] using cd
 clear ci cd cf
 go_wp2_with fail
 refine(dein_fn _ _ _ _).mono ?_
 rintro e w' ⟨rfl,rfl⟩
 rw[Ci.out]
 go_wp2_with fail
 refine(dein_fn _ _ _ _).mono ?_
 rintro e w' ⟨rfl,rfl⟩
 rw[Cd.out]
 go_wp2_with fail
 refine(deperson_fn _ _).mono ?_
 rintro e w' ⟨rfl,rfl⟩
 rw[Cf.out]
 have fd:IntKind.i64.wrap (day+1)=day+1:=wrapI (by omega)
 have hq:=eql_turn0 tf tt
 go_upto_region 4 with fail
 go_quiet (fail)
 obtain⟨w6,hw6⟩:∃w6,Hid (w5.drewN nq=w6):=⟨_,hide rfl⟩
 have hb6:Below w5.heap.size w5 w6:=by rw[←hw6.out];exact below_drewN (Below.refl _ _) nq
 rw[hw6.out]
 have H6:=hide (H5.out.trans (hb6.mono H5.out.size))
 have X6:=hide (X5.out.bel hb6);have HX1:=hide (HX1.out.below hb6);have HX2:=hide (HX2.out.below hb6);have HS:=hide (HS.out.bel hb6)
 have ya:=X6.out.at_
 have y0:=ya.2 0 _ rfl
 have y1:=ya.2 1 _ rfl
 have y2:=ya.2 2 _ rfl
 have y3:=ya.2 3 _ rfl
 clear x0 x1 x2 x3 x4 x5 x6 x7 x8 ya hb6 hw6 X5 H5
 obtain⟨x0,x1,x2,x3,x4,x5,x6,x7,x8⟩:=HX2.out.c9
 go_wp2_with fail
 refine(deinherits_any fr ha hn_ hc hs w6 Hn.out hm HS.out).mono ?_
 rintro e w7 ⟨rfl,hb7⟩
 have H6:=hide (H6.out.trans (hb7.mono H6.out.size))
 clear x0 x1 x2 x3 x4 x5 x6 x7 x8 y0 y1 y2 y3 hb7
 cases ct:(to == 0)
 ·go_wp2_with fail
  all_goals
   go_ret
   exact⟨ret_bool (by rw[Hde.out];simp[deKind,pairB,ct]),H6.out⟩
 cases ca:(tf == 0)
 ·go_wp2_with fail
  all_goals
   go_ret
   exact⟨ret_bool (by rw[Hde.out];simp[deKind,pairB,ct,ca]),H6.out⟩
 cases cb:(tt == 0)
 ·go_wp2_with fail
  all_goals
   go_ret
   exact⟨ret_bool (by rw[Hde.out];simp[deKind,pairB,ct,ca,cb]),H6.out⟩
 cases cv:(un == 0)
 ·go_wp2_with fail
  all_goals
   go_ret
   exact⟨ret_bool (by rw[Hde.out];simp[deKind,pairB,ct,ca,cb,cv]),H6.out⟩
 cases ch:inhB fr hs
 ·go_wp2_with fail
  all_goals
   go_ret
   exact⟨ret_bool (by rw[Hde.out];simp[deKind,pairB,ct,ca,cb,cv,ch]),H6.out⟩
 go_wp2_with fail
 all_goals
  go_ret
  exact⟨ret_bool (by rw[Hde.out];simp[deKind,pairB,ct,ca,cb,cv,ch]),H6.out⟩
theorem kindF_none {k:Int} (h1:k≠1) (h2:k≠2) (h3:k≠3) (h4:k≠4):kindF k=none:=by
 simp[kindF,upd,h1,h2,h3,h4]
set_option maxHeartbeats 4000000 in
set_option maxRecDepth 100000 in
theorem devalid0 (days:Int) (H:Option Addr) (nh ch:Nat) (id day kind fr to tf tt un:Int) (ha:Option Addr) (hn_ hc:Nat) (hs:List Sp) (w:World) (h1:kind≠1) (h2:kind≠2) (h3:kind≠3) (h4:kind≠4) (h0:0≤kind) (h255:kind≤255) :
 Calls Tryz.prog 120 #[.agg #[.int .i64 days,.slice H nh ch],.agg #[.int .i64 id,.int .i64 day,.int .u8 kind,.int .i64 fr,.int .i64 to,.int .i64 tf,.int .i64 tt,.int .i64 un,.slice ha hn_ hc]] w fun e w'=>e= .returned (.bool (deOk days ⟨id,day,kind,fr,to,tf,tt,un,⟨ha,hn_,hc⟩⟩ hs))∧Below w.heap.size w w':=by
 obtain⟨b1,w1,e1,ew1,hx1,hb1,hz1⟩:=mk_bx w #[.int .i64 days,.slice H nh ch] 58
 obtain⟨b2,w2,e2,ew2,hx2,hb2,hz2⟩:=mk_bx w1 #[.int .i64 id,.int .i64 day,.int .u8 kind,.int .i64 fr,.int .i64 to,.int .i64 tf,.int .i64 tt,.int .i64 un,.slice ha hn_ hc] 73
 have h12:b1+1=b2:=by rw[←e2.out,hz1]
 have HB2:=hide (hb1.trans (hb2.mono hb1.size))
 have HX1:=hide ((show At w1 b1 [.int .i64 days,.slice H nh ch] from hx1.at_).below hb2)
 have HX2:=hide (show At w2 b2 [.int .i64 id,.int .i64 day,.int .u8 kind,.int .i64 fr,.int .i64 to,.int .i64 tf,.int .i64 tt,.int .i64 un,.slice ha hn_ hc] from hx2.at_)
 have Hz:Hid (∀w:World,(zeroValue 238).run Tryz.prog w= .ok (.agg #[.bool false,.bool false,.bool false,.bool false,.nilFunc]) w):=hide (fun w=>by kernel_rfl)
 have hkN:=kindF_none h1 h2 h3 h4
 have he:=hide (show deOk days ⟨id,day,kind,fr,to,tf,tt,un,⟨ha,hn_,hc⟩⟩ hs=false by simp[deOk,deKind,h1,h2,h3,h4])
 clear h1 h2 h3 h4 hx1 hx2 hb1 hb2 hz1 hz2
 go_enter Tryz.func120,Tryz.ntmps120
 go_upto_region 1 with fail
 rw[ew1.out,e1.out,ew2.out,h12]
 clear ew1 e1 ew2 e2
 refine wp_region_held_drew (S:=(fun W=>Below w2.heap.size w2 W)) (by kernel_rfl) (by(try dsimp only);exact(Below.refl _ _).drew) (fun hHeld=>?_)
 generalize World.drew w2=Wd1 at hHeld ⊢
 have hbc:=Below.refl Wd1.heap.size Wd1
 refine tkH 1 ?_ rfl (Or.inl ⟨by rfl,?_⟩) hHeld ?_
 rotate_left
 ·(intro w _;go_simp;try(with_reducible rfl))
 try simp only[Act.put,tl1,tl2,tl3]
 refine tkH 2 ?_ rfl (Or.inl ⟨by rfl,?_⟩) hHeld ?_
 rotate_left
 ·(intro w hSw;(try dsimp only at hSw);have z2:=(HX2.out.bel hSw).2 2 _ rfl;go_simp;try(with_reducible rfl))
 try simp only[Act.put,tl1,tl2,tl3]
 refine cut3 (C:=fun (bm:Nat) (s:Nat) (b5:Nat) (Wc1_1:World)=>(MpU Tryz.prog 5 Wc1_1 bm 4 kindF s)∧(Bx Wc1_1 b5 [.bool false,.bool false,.bool false,.bool false,.nilFunc])∧(w2.heap.size≤b5)∧Below Wd1.heap.size Wd1 Wc1_1∧Below w2.heap.size w2 Wc1_1) (G:=?_) ?_ ?_
 rotate_left
 ·intro hCut
  replace hbc:=Below.refl Wd1.heap.size Wd1
  refine wpAnyH_ready (rs:=[0,7]) (by kernel_rfl) (by simp) ?_
  refine AllReadyH.cons (o:=⟨_,_,_,_,_,_⟩) rfl (fun K hK=>?_) ?_
  ·
   go_simp
   refine(dekinds_any _).mono ?_
   rintro e V12 ⟨bm,s,rfl,hM,hb⟩
   go_wp2_with fail
   have hHeldN:=hHeld.trans (hb.mono hHeld.size)
   have hbc:=hbc.trans (hb.mono hbc.size)
   refine hK.out _ _ ?_ (fun hHeld2=>?_)
   ·exact hHeldN
   clear hK K hHeldN hb;have hHeld:=hHeld2;clear hHeld2
   try simp only[Act.put,tl1,tl2,tl3]
   refine wpAnyH_ready (rs:=[3,7]) (by kernel_rfl) (by simp) ?_
   refine AllReadyH.cons (o:=⟨_,_,_,_,_,_⟩) rfl (fun K hK=>?_) ?_
   ·
    have hlk:=hM.look (T:=239) (E:=238) Tryz.underlying5 Tryz.underlying239 (Hz.out _) (k:=kind) (by unfold okU;omega)
    rw[hkN] at hlk
    simp only[Option.getD_some,Option.isSome_some,Option.getD_none,Option.isSome_none] at hlk
    go_simp
    clear hlk
    have hHeldN:=hHeld
    refine hK.out _ _ ?_ (fun hHeld2=>?_)
    ·exact hHeldN
    clear hK K hHeldN;have hHeld:=hHeld2;clear hHeld2
    try simp only[Act.put,tl1,tl2,tl3]
    iterate 3
     refine tkHl [4,5,6] ?_ rfl rfl (Or.inl ⟨by rfl,?_⟩) hHeld ?_
     rotate_left
     ·(intro w _;go_simp;try(with_reducible rfl))
     try simp only[Act.put,tl1,tl2,tl3]
    refine wpAnyH_ready (rs:=[7]) (by kernel_rfl) (by simp) ?_
    refine AllReadyH.cons (o:=⟨_,_,_,_,_,_⟩) rfl (fun K hK=>?_) AllReadyH.nil
    go_simp
    obtain⟨b5,V5,eb5,ev5,hx5,hb,hz5⟩:=mk_bx V12 #[.bool false,.bool false,.bool false,.bool false,.nilFunc] 238
    rw[ev5.out,eb5.out]
    have hge5:w2.heap.size≤b5:=by have:=eb5.out;have:=hHeld.size;omega
    clear ev5 eb5 hz5
    have hHeldN:=hHeld.trans (hb.mono hHeld.size)
    have hM:=hM.bel hb
    have hbc:=hbc.trans (hb.mono hbc.size)
    refine hK.out _ _ ?_ (fun hHeld2=>?_)
    ·exact hHeldN
    clear hK K hHeldN hb;have hHeld:=hHeld2;clear hHeld2
    try simp only[Act.put,tl1,tl2,tl3]
    exact hCut bm s b5 V5 ⟨hM,hx5,hge5,hbc,hHeld⟩
   refine AllReadyH.cons (o:=⟨_,_,_,_,_,_⟩) rfl (fun K hK=>?_) AllReadyH.nil
   go_simp
   obtain⟨b5,V5,eb5,ev5,hx5,hb,hz5⟩:=mk_bx V12 #[.bool false,.bool false,.bool false,.bool false,.nilFunc] 238
   rw[ev5.out,eb5.out]
   have hge5:w2.heap.size≤b5:=by have:=eb5.out;have:=hHeld.size;omega
   clear ev5 eb5 hz5
   have hHeldN:=hHeld.trans (hb.mono hHeld.size)
   have hM:=hM.bel hb
   have hbc:=hbc.trans (hb.mono hbc.size)
   refine hK.out _ _ ?_ (fun hHeld2=>?_)
   ·exact hHeldN
   clear hK K hHeldN hb;have hHeld:=hHeld2;clear hHeld2
   try simp only[Act.put,tl1,tl2,tl3]
   refine wpAnyH_ready (rs:=[3]) (by kernel_rfl) (by simp) ?_
   refine AllReadyH.cons (o:=⟨_,_,_,_,_,_⟩) rfl (fun K hK=>?_) AllReadyH.nil
   have hlk:=hM.look (T:=239) (E:=238) Tryz.underlying5 Tryz.underlying239 (Hz.out _) (k:=kind) (by unfold okU;omega)
   rw[hkN] at hlk
   simp only[Option.getD_some,Option.isSome_some,Option.getD_none,Option.isSome_none] at hlk
   go_simp
   clear hlk
   have hHeldN:=hHeld
   refine hK.out _ _ ?_ (fun hHeld2=>?_)
   ·exact hHeldN
   clear hK K hHeldN;have hHeld:=hHeld2;clear hHeld2
   try simp only[Act.put,tl1,tl2,tl3]
   iterate 3
    refine tkHl [4,5,6] ?_ rfl rfl (Or.inl ⟨by rfl,?_⟩) hHeld ?_
    rotate_left
    ·(intro w _;go_simp;try(with_reducible rfl))
    try simp only[Act.put,tl1,tl2,tl3]
   exact hCut bm s b5 V5 ⟨hM,hx5,hge5,hbc,hHeld⟩
  refine AllReadyH.cons (o:=⟨_,_,_,_,_,_⟩) rfl (fun K hK=>?_) AllReadyH.nil
  go_simp
  obtain⟨b5,V5,eb5,ev5,hx5,hb,hz5⟩:=mk_bx Wd1 #[.bool false,.bool false,.bool false,.bool false,.nilFunc] 238
  rw[ev5.out,eb5.out]
  have hge5:w2.heap.size≤b5:=by have:=eb5.out;have:=hHeld.size;omega
  clear ev5 eb5 hz5
  have hHeldN:=hHeld.trans (hb.mono hHeld.size)
  have hbc:=hbc.trans (hb.mono hbc.size)
  refine hK.out _ _ ?_ (fun hHeld2=>?_)
  ·exact hHeldN
  clear hK K hHeldN hb;have hHeld:=hHeld2;clear hHeld2
  try simp only[Act.put,tl1,tl2,tl3]
  refine wpAnyH_ready (rs:=[0]) (by kernel_rfl) (by simp) ?_
  refine AllReadyH.cons (o:=⟨_,_,_,_,_,_⟩) rfl (fun K hK=>?_) AllReadyH.nil
  go_simp
  refine(dekinds_any _).mono ?_
  rintro e V12 ⟨bm,s,rfl,hM,hb⟩
  go_wp2_with fail
  have hHeldN:=hHeld.trans (hb.mono hHeld.size)
  have hx5:=hx5.bel hb
  have hbc:=hbc.trans (hb.mono hbc.size)
  refine hK.out _ _ ?_ (fun hHeld2=>?_)
  ·exact hHeldN
  clear hK K hHeldN hb;have hHeld:=hHeld2;clear hHeld2
  try simp only[Act.put,tl1,tl2,tl3]
  refine wpAnyH_ready (rs:=[3]) (by kernel_rfl) (by simp) ?_
  refine AllReadyH.cons (o:=⟨_,_,_,_,_,_⟩) rfl (fun K hK=>?_) AllReadyH.nil
  have hlk:=hM.look (T:=239) (E:=238) Tryz.underlying5 Tryz.underlying239 (Hz.out _) (k:=kind) (by unfold okU;omega)
  rw[hkN] at hlk
  simp only[Option.getD_some,Option.isSome_some,Option.getD_none,Option.isSome_none] at hlk
  go_simp
  clear hlk
  have hHeldN:=hHeld
  refine hK.out _ _ ?_ (fun hHeld2=>?_)
  ·exact hHeldN
  clear hK K hHeldN;have hHeld:=hHeld2;clear hHeld2
  try simp only[Act.put,tl1,tl2,tl3]
  iterate 3
   refine tkHl [4,5,6] ?_ rfl rfl (Or.inl ⟨by rfl,?_⟩) hHeld ?_
   rotate_left
   ·(intro w _;go_simp;try(with_reducible rfl))
   try simp only[Act.put,tl1,tl2,tl3]
  exact hCut bm s b5 V12 ⟨hM,hx5,hge5,hbc,hHeld⟩
 intro bm s b5 Wc1_1 ⟨hM,hx5,hge5,hbN,hHeldN⟩
 have hbc:=hbc.trans (hbN.mono hbc.size);clear hHeld hbN;have hHeld:=hHeldN;clear hHeldN
 refine wpAnyH_ready (rs:=[8]) (by kernel_rfl) (by simp) ?_
 refine AllReadyH.cons (o:=⟨_,_,_,_,_,_⟩) rfl (fun K hK=>?_) AllReadyH.nil
 have X5:=hide hx5
 have y:=hx5.at_
 have fz:=hx5.fz
 have y0:=y.2 0 _ rfl
 have y1:=y.2 1 _ rfl
 have y2:=y.2 2 _ rfl
 have y3:=y.2 3 _ rfl
 have y4:=y.2 4 _ rfl
 have f0:=fz 0
 have f1:=fz 1
 have f2:=fz 2
 have f3:=fz 3
 have f4:=fz 4
 clear y fz hx5
 have hH:=hHeld
 go_simp
 clear y0 y1 y2 y3 y4 f0 f1 f2 f3 f4
 refine hK.out _ _ ?_ (fun hHeld2=>?_)
 ·(try dsimp only);exact(((((hH.setCell (p:=⟨b5,0,none⟩) hge5 (.bool false)).setCell (p:=⟨b5,1,none⟩) hge5 (.bool false)).setCell (p:=⟨b5,2,none⟩) hge5 (.bool false)).setCell (p:=⟨b5,3,none⟩) hge5 (.bool false)).setCell (p:=⟨b5,4,none⟩) hge5 (.nilFunc))
 clear hK K hHeld;have hHeld:=hHeld2;clear hHeld2
 try simp only[Act.put,tl1,tl2,tl3]
 refine tkH 9 ?_ rfl (Or.inl ⟨by rfl,?_⟩) hHeld ?_
 rotate_left
 ·(intro w _;go_simp;try(with_reducible rfl))
 try simp only[Act.put,tl1,tl2,tl3]
 refine wpAnyH_done (by kernel_rfl) ?_ _
 have XF:=(((((X5.out.set (.bool false) (j:=0) (by simp)).set (.bool false) (j:=1) (by simp)).set (.bool false) (j:=2) (by simp)).set (.bool false) (j:=3) (by simp)).set (.nilFunc) (j:=4) (by simp))
 generalize (((((Wc1_1.setCell ⟨b5,0,none⟩ (.bool false)).setCell ⟨b5,1,none⟩ (.bool false)).setCell ⟨b5,2,none⟩ (.bool false)).setCell ⟨b5,3,none⟩ (.bool false)).setCell ⟨b5,4,none⟩ (.nilFunc))=w5 at hHeld XF ⊢
 have X5:=hide (show Bx w5 b5 [.bool false,.bool false,.bool false,.bool false,.nilFunc] from XF)
 have H5:=hide (HB2.out.trans (hHeld.mono HB2.out.size))
 have HX1:=hide (HX1.out.below hHeld);have HX2:=hide (HX2.out.below hHeld)
 clear XF hHeld hbc hM Hz hge5
 obtain⟨x0,x1,x2,x3,x4,x5,x6,x7,x8⟩:=HX2.out.c9
 go_wp2_with fail
 go_ret
 exact⟨ret_bool he.out.symm,H5.out⟩
theorem devalid_any (days:Int) (H:Option Addr) (nh ch:Nat) (d:Dv) (hs:List Sp) (w:World) (hd0:0≤days) (hd1:days≤16) (h0:0≤d.kind) (h255:d.kind≤255) (hn:d.h.n=hs.length) (hm:d.h.n≤9223372036854775807) (hx:Rd w w.heap.size Sp.cells d.h.a hs) :
 Calls Tryz.prog 120 #[.agg #[.int .i64 days,.slice H nh ch],.agg #[.int .i64 d.id,.int .i64 d.day,.int .u8 d.kind,.int .i64 d.fr,.int .i64 d.to,.int .i64 d.tf,.int .i64 d.tt,.int .i64 d.un,.slice d.h.a d.h.n d.h.c]] w fun e w'=>e= .returned (.bool (deOk days d hs))∧Below w.heap.size w w':=by
 obtain⟨id,day,kind,fr,to,tf,tt,un,⟨ha,hn_,hc⟩⟩:=d
 by_cases h1:kind=1
 ·subst h1;exact devalid1 days H nh ch id day fr to tf tt un ha hn_ hc hs w hd0 hd1 hn hm hx
 by_cases h2:kind=2
 ·subst h2;exact devalid2 days H nh ch id day fr to tf tt un ha hn_ hc hs w hd0 hd1 hn hm hx
 by_cases h3:kind=3
 ·subst h3;exact devalid3 days H nh ch id day fr to tf tt un ha hn_ hc hs w hd0 hd1 hn hm hx
 by_cases h4:kind=4
 ·subst h4;exact devalid4 days H nh ch id day fr to tf tt un ha hn_ hc hs w hd0 hd1 hn hm hx
 exact devalid0 days H nh ch id day kind fr to tf tt un ha hn_ hc hs w h1 h2 h3 h4 h0 h255
end Go.Proofs.YtiioegopckoldaaGreatDoor
