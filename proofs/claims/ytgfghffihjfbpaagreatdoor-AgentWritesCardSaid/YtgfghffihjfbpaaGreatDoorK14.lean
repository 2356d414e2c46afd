/- lemmas for agentWrites_holds: AG8. No conditions. -/
import Derived.Test.YtgfghffihjfbpaaGreatDoorK13
import Derived.Deep.Cut
import Derived.Deep.RegionHeld3
import Derived.Deep.DrawnRows
set_option linter.unusedVariables false
set_option linter.unusedSimpArgs false
namespace Go.Proofs.YtgfghffihjfbpaaGreatDoor
open Go.RowKit Go.Shelf
theorem At.d9 {w:World} {p:Nat} {v0 v1 v2 v3 v4 v5 v6 v7 v8:Value} (h:At w p [v0,v1,v2,v3,v4,v5,v6,v7,v8]):w.cell? ⟨p,0,none⟩=some v0∧w.cell? ⟨p,1,none⟩=some v1∧w.cell? ⟨p,2,none⟩=some v2∧w.cell? ⟨p,3,none⟩=some v3∧w.cell? ⟨p,4,none⟩=some v4∧w.cell? ⟨p,5,none⟩=some v5∧w.cell? ⟨p,6,none⟩=some v6∧w.cell? ⟨p,7,none⟩=some v7∧w.cell? ⟨p,8,none⟩=some v8:=⟨h.2 0 _ rfl,h.2 1 _ rfl,h.2 2 _ rfl,h.2 3 _ rfl,h.2 4 _ rfl,h.2 5 _ rfl,h.2 6 _ rfl,h.2 7 _ rfl,h.2 8 _ rfl⟩
structure Dx where
 id:Int
 day:Int
 kind:Int
 fr:Int
 to:Int
 tf:Int
 tt:Int
 un:Int
 A:Option Addr
 n:Nat
 c:Nat
 hs:List Sp
def Dx.cells (x:Dx):List Value:=[.int .i64 x.id,.int .i64 x.day,.int .u8 x.kind,.int .i64 x.fr,.int .i64 x.to,.int .i64 x.tf,.int .i64 x.tt,.int .i64 x.un,.slice x.A x.n x.c]
theorem Dx.len (x:Dx):x.cells.length=9:=rfl
def Dx.nums (x:Dx):List Int:=[x.id,x.day,x.kind,x.fr,x.to,x.tf,x.tt,x.un] ++ x.hs.flatMap fun h=>[h.lo,h.hi]
def Dx.ok (w:World) (x:Dx):Prop:=(x.n=x.hs.length∧x.n≤16)∧(0≤x.kind∧x.kind≤255)∧Rd w w.heap.size Sp.cells x.A x.hs
theorem Dx.ok.bel {w w':World} {x:Dx} (h:x.ok w) (hb:Below w.heap.size w w'):x.ok w':=⟨h.1,h.2.1,h.2.2.bel hb⟩
def headN (x:Dx) (k:Nat):List Int:=[x.id,x.day,x.kind,x.fr,x.to,x.tf,x.tt,x.un] ++ (x.hs.take k).flatMap fun h=>[h.lo,h.hi]
theorem headN_snoc {x:Dx} {k:Nat} {h:Sp} (hk:x.hs[k]?=some h):headN x (k+1)=headN x k ++ [h.lo,h.hi]:=by
 unfold headN
 rw[take_snoc hk,List.flatMap_append,List.append_assoc]
 rfl
theorem pairs_len (l:List Sp):(l.flatMap fun h=>[h.lo,h.hi]).length=2*l.length:=by
 induction l with
 | nil=>rfl
 | cons a l ih=>rw[List.flatMap_cons,List.length_append,ih];simp;omega
theorem headN_len (x:Dx) (k:Nat) (h:k≤x.hs.length):(headN x k).length=8+2*k:=by
 unfold headN
 rw[List.length_append,pairs_len,List.length_take,Nat.min_eq_left h]
 rfl
theorem headN_all (x:Dx):headN x x.hs.length=x.nums:=by unfold headN Dx.nums;rw[List.take_of_length_le (Nat.le_refl _)]
theorem Dx.nums_len (x:Dx):x.nums.length=8+2*x.hs.length:=by rw[←headN_all];exact headN_len x _ (Nat.le_refl _)
set_option maxHeartbeats 4000000 in
set_option maxRecDepth 100000 in
theorem dx_any (x:Dx) (w:World) (hx:x.ok w):Calls Tryz.prog 79 #[.agg #[.int .i64 x.id,.int .i64 x.day,.int .u8 x.kind,.int .i64 x.fr,.int .i64 x.to,.int .i64 x.tf,.int .i64 x.tt,.int .i64 x.un,.slice x.A x.n x.c]] w fun e w'=>∃k:Kid,e= .returned (.slice k.A k.n k.c)∧k.xs=x.nums∧KidOk w' (fun b=>w.heap.size≤b) k∧Below w.heap.size w w':=by
 obtain⟨id,day,kind,fr,to,tf,tt,un,A,n,c,hs⟩:=x
 obtain⟨⟨hn,hn1⟩,hk1,hr⟩:=hx
 simp only at hn hn1 hk1 hr ⊢
 obtain⟨L,hL⟩:∃L:Nat→List Int,L=headN ⟨id,day,kind,fr,to,tf,tt,un,A,n,c,hs⟩:=⟨_,rfl⟩
 have HL1:=hide (fun (k:Nat) (h:Sp) (hk:hs[k]?=some h)=>show L (k+1)=L k ++ [h.lo,h.hi] by rw[hL];exact headN_snoc hk)
 have HL2:=hide (fun (k:Nat) (hk:k≤n)=>show(L k).length=8+2*k by rw[hL];exact headN_len _ k (by rw[←hn];exact hk))
 have HL3:=hide (show L n=Dx.nums ⟨id,day,kind,fr,to,tf,tt,un,A,n,c,hs⟩ by rw[hL,hn];exact headN_all _)
 have HL0:=hide (show L 0=[id,day,kind,fr,to,tf,tt,un] by rw[hL];rfl)
 clear hL
 obtain⟨b1,w1,e1,ew1,hx1,hb1,hz1⟩:=mk_bx w #[.int .i64 id,.int .i64 day,.int .u8 kind,.int .i64 fr,.int .i64 to,.int .i64 tf,.int .i64 tt,.int .i64 un,.slice A n c] 54
 have HX1:=hide hx1
 have HB1:=hide hb1
 have Hr:=hide (hr.bel hb1)
 have Hn:=hide hn
 have f1:IntKind.i64.wrap kind=kind:=wrapI (by omega)
 have f2:wrap64 kind=kind:=Go.IntWalk.wrap64_in _ (by omega)
 obtain⟨q0,q1,q2,q3,q4,q5,q6,q7,q8⟩:=At.d9 hx1.at_
 have ho:Own (w1.alloc (.cells #[.int .i64 id,.int .i64 day,.int .i64 kind,.int .i64 fr,.int .i64 to,.int .i64 tf,.int .i64 tt,.int .i64 un] 3)) w1.heap.size 3 1 icell (.slice (some ⟨w1.heap.size,0,none⟩) 8 8) (L 0):=by
  rw[HL0.out]
  exact Own.lit (cells:=icell) w1 3 1 #[.int .i64 id,.int .i64 day,.int .i64 kind,.int .i64 fr,.int .i64 to,.int .i64 tf,.int .i64 tt,.int .i64 un] [id,day,kind,fr,to,tf,tt,un] icell_len (by simp[icell]) (by simp) w1.heap.size (Nat.le_refl _)
 have hbl:=below_new w1 (.cells #[.int .i64 id,.int .i64 day,.int .i64 kind,.int .i64 fr,.int .i64 to,.int .i64 tf,.int .i64 tt,.int .i64 un] 3)
 obtain⟨w2,ew2⟩:∃w2,Hid (w1.alloc (.cells #[.int .i64 id,.int .i64 day,.int .i64 kind,.int .i64 fr,.int .i64 to,.int .i64 tf,.int .i64 tt,.int .i64 un] 3)=w2):=⟨_,hide rfl⟩
 rw[ew2.out] at ho hbl
 have Ho:=hide ho
 have HBL:=hide hbl
 have HQ:=hide (fun (W:World) (h:Below w1.heap.size w1 W)=>hx1.bel h)
 have HR:=hide (fun (W:World) (h:Below w1.heap.size w1 W)=>(hr.bel hb1).below h)
 have Hz1:=hide hz1
 clear hx1 hb1 ho hbl hr hz1 hn
 go_enter Tryz.func79,Tryz.ntmps79
 go_upto_region 1 with fail
 rw[ew1.out,e1.out]
 go_upto_region 2 with fail
 rw[ew2.out]
 clear q0 q1 q2 q3 q4 q5 q6 q7 q8
 have q8:=(HQ.out w2 HBL.out).at_.2 8 _ rfl
 go_wp2_with fail
 clear q8
 go_loopw [3,29] (fun v i wr=>∃k:Nat,k≤n∧i= .int .i64 k∧Hid (Own wr w1.heap.size 3 1 icell v (L k))∧Hid (Below w1.heap.size w1 wr)) (fun _ i _=>n-(intOf i).toNat)
 case atStart=>exact⟨0,by omega,rfl,Ho,HBL⟩
 case round=>
  obtain⟨k,hk,rfl,ho,hb⟩:=hrel
  obtain⟨v,rfl⟩:∃v,v=u3:=⟨_,rfl⟩
  obtain⟨wo,rfl⟩:∃wo,wo=wr:=⟨_,rfl⟩
  by_cases hlt:k < n
  ·obtain⟨hbb,hoff,lo,hi,rfl,hbz,hxk,c0,c1⟩:=(HR.out wo hb.out).sp (i:=k) (by have:=Hn.out;omega)
   have ik:(k:Int) < (n:Int):=by omega
   have HS:=hide (HL1.out k ⟨lo,hi⟩ hxk)
   have hlen:(L k).length+2≤1000000:=by rw[HL2.out k hk];omega
   have hsz:=hb.out.size
   clear hxk
   obtain⟨b5,w5,e5,ew5,hx5,hb5,hz5⟩:=mk_bx wo #[.int .i64 lo,.int .i64 hi] 157
   have HB5:=hide (hb.out.trans (hb5.mono hsz))
   have HO5:=hide (ho.out.bel hb5)
   obtain⟨d0,d1⟩:=hx5.at_.c2
   have hr6:=Rd.new (cells:=icell) w5 #[.int .i64 lo,.int .i64 hi] 3 [lo,hi] rfl
   have hs5:w1.heap.size≤w5.heap.size:=HB5.out.size
   clear hx5 hb5 hz5
   go_upto_region 5 with fail
   rw[ew5.out,e5.out]
   go_wp2_with (at_builtin;refine wpList_app (v:=v) (xs:=L k) (ys:=[lo,hi]) (n:=2) el_int rfl (.tmp 33) (.tmp 38) rfl rfl (HO5.out.alloc _) rfl rfl hr6 hlen (by simp;omega) ?_;intro v' w' o' g' a';have O':=hide o';have B':=hide (below_own (HO5.out.alloc _) (HB5.out.alloc HB5.out.size _) g' (by simp;omega));clear o' g' a')
   exact⟨⟨k+1,by omega,by go_num,hide (by rw[HS.out];exact O'.out),B'⟩,by simp[intOf];omega⟩
  ·obtain rfl:n=k:=by omega
   skip
   go_wp2_with fail
   go_returns
   rw[HL3.out] at ho
   obtain⟨k,e1,e2,e3⟩:=KidOk.of_own ho.out (by simp[Dx.nums])
   exact⟨k,by rw[←e1];rfl,e2,e3.mono (fun b _ h=>Nat.le_trans HB1.out.size h),HB1.out.trans (hb.out.mono HB1.out.size)⟩
set_option maxHeartbeats 4000000 in
set_option maxRecDepth 100000 in
theorem rdx_any (x:Dx) (w:World) (hx:x.ok w):Calls Tryz.prog 56 #[.agg #[.int .i64 x.id,.int .i64 x.day,.int .u8 x.kind,.int .i64 x.fr,.int .i64 x.to,.int .i64 x.tf,.int .i64 x.tt,.int .i64 x.un,.slice x.A x.n x.c]] w fun e w'=>∃k:Kid,e= .returned (.slice k.A k.n k.c)∧k.xs=x.nums∧KidOk w' (fun b=>w.heap.size≤b) k∧Below w.heap.size w w':=by
 obtain⟨id,day,kind,fr,to,tf,tt,un,A,n,c,hs⟩:=x
 obtain⟨⟨hn,hn1⟩,hk1,hr⟩:=hx
 simp only at hn hn1 hk1 hr ⊢
 obtain⟨L,hL⟩:∃L:Nat→List Int,L=headN ⟨id,day,kind,fr,to,tf,tt,un,A,n,c,hs⟩:=⟨_,rfl⟩
 have HL1:=hide (fun (k:Nat) (h:Sp) (hk:hs[k]?=some h)=>show L (k+1)=L k ++ [h.lo,h.hi] by rw[hL];exact headN_snoc hk)
 have HL2:=hide (fun (k:Nat) (hk:k≤n)=>show(L k).length=8+2*k by rw[hL];exact headN_len _ k (by rw[←hn];exact hk))
 have HL3:=hide (show L n=Dx.nums ⟨id,day,kind,fr,to,tf,tt,un,A,n,c,hs⟩ by rw[hL,hn];exact headN_all _)
 have HL0:=hide (show L 0=[id,day,kind,fr,to,tf,tt,un] by rw[hL];rfl)
 clear hL
 obtain⟨b1,w1,e1,ew1,hx1,hb1,hz1⟩:=mk_bx w #[.int .i64 id,.int .i64 day,.int .u8 kind,.int .i64 fr,.int .i64 to,.int .i64 tf,.int .i64 tt,.int .i64 un,.slice A n c] 54
 have HX1:=hide hx1
 have HB1:=hide hb1
 have Hr:=hide (hr.bel hb1)
 have Hn:=hide hn
 have f1:IntKind.i64.wrap kind=kind:=wrapI (by omega)
 have f2:wrap64 kind=kind:=Go.IntWalk.wrap64_in _ (by omega)
 obtain⟨q0,q1,q2,q3,q4,q5,q6,q7,q8⟩:=At.d9 hx1.at_
 have ho:Own (w1.alloc (.cells #[.int .i64 id,.int .i64 day,.int .i64 kind,.int .i64 fr,.int .i64 to,.int .i64 tf,.int .i64 tt,.int .i64 un] 3)) w1.heap.size 3 1 icell (.slice (some ⟨w1.heap.size,0,none⟩) 8 8) (L 0):=by
  rw[HL0.out]
  exact Own.lit (cells:=icell) w1 3 1 #[.int .i64 id,.int .i64 day,.int .i64 kind,.int .i64 fr,.int .i64 to,.int .i64 tf,.int .i64 tt,.int .i64 un] [id,day,kind,fr,to,tf,tt,un] icell_len (by simp[icell]) (by simp) w1.heap.size (Nat.le_refl _)
 have hbl:=below_new w1 (.cells #[.int .i64 id,.int .i64 day,.int .i64 kind,.int .i64 fr,.int .i64 to,.int .i64 tf,.int .i64 tt,.int .i64 un] 3)
 obtain⟨w2,ew2⟩:∃w2,Hid (w1.alloc (.cells #[.int .i64 id,.int .i64 day,.int .i64 kind,.int .i64 fr,.int .i64 to,.int .i64 tf,.int .i64 tt,.int .i64 un] 3)=w2):=⟨_,hide rfl⟩
 rw[ew2.out] at ho hbl
 have Ho:=hide ho
 have HBL:=hide hbl
 have HQ:=hide (fun (W:World) (h:Below w1.heap.size w1 W)=>hx1.bel h)
 have HR:=hide (fun (W:World) (h:Below w1.heap.size w1 W)=>(hr.bel hb1).below h)
 have Hz1:=hide hz1
 clear hx1 hb1 ho hbl hr hz1 hn
 go_enter Tryz.func56,Tryz.ntmps56
 go_upto_region 1 with fail
 rw[ew1.out,e1.out]
 go_upto_region 2 with fail
 rw[ew2.out]
 clear q0 q1 q2 q3 q4 q5 q6 q7 q8
 have q8:=(HQ.out w2 HBL.out).at_.2 8 _ rfl
 go_wp2_with fail
 clear q8
 go_loopw [3,4] (fun v i wr=>∃k:Nat,k≤n∧i= .int .i64 k∧Hid (Own wr w1.heap.size 3 1 icell v (L k))∧Hid (Below w1.heap.size w1 wr)) (fun _ i _=>n-(intOf i).toNat)
 case atStart=>exact⟨0,by omega,rfl,Ho,HBL⟩
 case round=>
  obtain⟨k,hk,rfl,ho,hb⟩:=hrel
  obtain⟨v,rfl⟩:∃v,v=u3:=⟨_,rfl⟩
  obtain⟨wo,rfl⟩:∃wo,wo=wr:=⟨_,rfl⟩
  by_cases hlt:k < n
  ·obtain⟨hbb,hoff,lo,hi,rfl,hbz,hxk,c0,c1⟩:=(HR.out wo hb.out).sp (i:=k) (by have:=Hn.out;omega)
   have ik:(k:Int) < (n:Int):=by omega
   have HS:=hide (HL1.out k ⟨lo,hi⟩ hxk)
   have hlen:(L k).length+2≤1000000:=by rw[HL2.out k hk];omega
   have hsz:=hb.out.size
   clear hxk
   have q8:=(HQ.out wo hb.out).at_.2 8 _ rfl
   have HC:=hide (fun (W:World) (h:Below w1.heap.size w1 W)=>And.intro ((h.cell (p:=⟨hbb,hoff+k*2,none⟩) hbz).trans ((hb.out.cell (p:=⟨hbb,hoff+k*2,none⟩) hbz).symm.trans c0)) ((h.cell (p:=⟨hbb,hoff+k*2+1,none⟩) hbz).trans ((hb.out.cell (p:=⟨hbb,hoff+k*2+1,none⟩) hbz).symm.trans c1)))
   have hnv:=hide (fun c (hc:c < w1.heap.size) (e:v.ownBlock=some c)=>show False by have:=(ho.out.blockG e).1;omega)
   have HO:=ho.out
   clear c0 c1
   go_upto_region 5 with fail
   clear q8
   refine wp_region_held_drew (S:=(fun W=>Kept (fun c=>¬v.ownBlock=some c) wo W)) (by kernel_rfl) (by(try dsimp only);exact Kept.all _ (Below.refl _ _).drew) (fun hHeld=>?_)
   have hdr:Below wo.heap.size wo (World.drew wo):=(Below.refl _ _).drew
   generalize World.drew wo=Wd5 at hHeld hdr ⊢
   have HO:=HO.bel hdr
   have hbc:=Below.refl Wd5.heap.size Wd5
   iterate 5
    refine tkHl [0,1,3,7,9] ?_ rfl rfl (Or.inl ⟨by rfl,?_⟩) hHeld ?_
    rotate_left
    ·(intro w _;go_simp;try(with_reducible rfl))
    try simp only[Act.put,tl1,tl2,tl3]
   iterate 2
    refine tkHl [2,8] ?_ rfl rfl (Or.inl ⟨by rfl,?_⟩) hHeld ?_
    rotate_left
    ·(intro w hSw;(try dsimp only at hSw);have hq:=hb.out.trans (hSw.below hnv.out hsz);have q8:=(HQ.out _ hq).at_.2 8 _ rfl;obtain⟨c0,c1⟩:=HC.out _ hq;go_simp;try(with_reducible rfl))
    try simp only[Act.put,tl1,tl2,tl3]
   iterate 4
    refine tkHl [4,5,10,11] ?_ rfl rfl (Or.inl ⟨by rfl,?_⟩) hHeld ?_
    rotate_left
    ·(intro w _;go_simp;try(with_reducible rfl))
    try simp only[Act.put,tl1,tl2,tl3]
   iterate 2
    refine tkHl [6,12] ?_ rfl rfl (Or.inl ⟨by rfl,?_⟩) hHeld ?_
    rotate_left
    ·(intro w hSw;(try dsimp only at hSw);have hq:=hb.out.trans (hSw.below hnv.out hsz);have q8:=(HQ.out _ hq).at_.2 8 _ rfl;obtain⟨c0,c1⟩:=HC.out _ hq;go_simp;try(with_reducible rfl))
    try simp only[Act.put,tl1,tl2,tl3]
   refine wpAnyH_ready (rs:=[13]) (by kernel_rfl) (by simp) ?_
   refine AllReadyH.cons (o:=⟨_,_,_,_,_,_⟩) rfl (fun K hK=>?_) AllReadyH.nil
   go_simp
   obtain⟨b45,V45,eb45,ev45,r45,hb⟩:=mk_row (cells:=icell) Wd5 #[.int .i64 lo,.int .i64 hi] 3 [lo,hi] rfl
   rw[ev45.out,eb45.out]
   have hHeldN:=hHeld.trans (Kept.all _ hb)
   have HO:=HO.bel hb
   have hbc:=hbc.trans (hb.mono hbc.size)
   refine hK.out _ _ ?_ (fun hHeld2=>?_)
   ·exact hHeldN
   clear hK K hHeld hHeldN hb;have hHeld:=hHeld2;clear hHeld2
   try simp only[Act.put,tl1,tl2,tl3]
   refine wpAnyH_ready (rs:=[14]) (by kernel_rfl) (by simp) ?_
   refine AllReadyH.cons (o:=⟨_,_,_,_,_,_⟩) rfl (fun K hK=>?_) AllReadyH.nil
   refine op_app (v:=v) (xs:=L k) (ys:=[lo,hi]) (n:=2) el_int (.tmp 32) (.tmp 45) rfl rfl HO rfl rfl r45 hlen (Nat.le_trans hsz hHeld.size) ?_
   intro v46 V46 o46 hg hat
   have hHeldN:=hHeld.trans ((Kept.grown hg).mono fun c _ h e=>h e.symm)
   refine hK.out _ _ ?_ (fun hHeld2=>?_)
   ·exact hHeldN
   clear hK K hHeld hHeldN hbc;have hHeld:=hHeld2;clear hHeld2
   have hbc:=Below.refl V46.heap.size V46
   try simp only[Act.put,tl1,tl2,tl3]
   refine tkH 15 ?_ rfl (Or.inl ⟨by rfl,?_⟩) hHeld ?_
   rotate_left
   ·(intro w _;go_simp;try(with_reducible rfl))
   try simp only[Act.put,tl1,tl2,tl3]
   refine wpAnyH_done (by kernel_rfl) ?_ _
   go_wp2_with fail
   exact⟨⟨k+1,by omega,by go_num,hide (by rw[HS.out];exact o46),hide (hb.out.trans (hHeld.below hnv.out hsz))⟩,by simp[intOf];omega⟩
  ·obtain rfl:n=k:=by omega
   have q8:=(HQ.out wo hb.out).at_.2 8 _ rfl
   go_wp2_with fail
   go_returns
   rw[HL3.out] at ho
   obtain⟨k,e1,e2,e3⟩:=KidOk.of_own ho.out (by simp[Dx.nums])
   exact⟨k,by rw[←e1];rfl,e2,e3.mono (fun b _ h=>Nat.le_trans HB1.out.size h),HB1.out.trans (hb.out.mono HB1.out.size)⟩
end Go.Proofs.YtgfghffihjfbpaaGreatDoor
