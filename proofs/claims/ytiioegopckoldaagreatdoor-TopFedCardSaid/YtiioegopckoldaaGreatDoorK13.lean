/- lemmas for topFed_holds: FD. No conditions. -/
import Derived.Test.YtiioegopckoldaaGreatDoorK11
import Derived.Test.YtiioegopckoldaaGreatDoorK12
import Derived.Test.YtiioegopckoldaaGreatDoorK10
import Derived.Deep.RegionHeld3
import Derived.Deep.DrawnRows
import Derived.RecoverIn
import Derived.TacticsInMore
set_option linter.unusedVariables false
set_option linter.unusedSimpArgs false
namespace Go.Proofs.YtiioegopckoldaaGreatDoor
open Go.RowKit Go.Shelf
attribute [local go_sem] Oper.semAt_some
theorem At.c6 {w:World} {p:Nat} {v0 v1 v2 v3 v4 v5:Value} (h:At w p [v0,v1,v2,v3,v4,v5]):w.cell? ⟨p,0,none⟩=some v0∧w.cell? ⟨p,1,none⟩=some v1∧w.cell? ⟨p,2,none⟩=some v2∧w.cell? ⟨p,3,none⟩=some v3∧w.cell? ⟨p,4,none⟩=some v4∧w.cell? ⟨p,5,none⟩=some v5:=⟨h.2 0 _ rfl,h.2 1 _ rfl,h.2 2 _ rfl,h.2 3 _ rfl,h.2 4 _ rfl,h.2 5 _ rfl⟩
def TornAt (n N:Nat):Nat→List PanicEntry→Prop:=fun k chain=>N≤n∧k=N∧∃q,chain=[{v:=tornV q,recovered:=false }]
set_option maxHeartbeats 4000000 in
set_option maxRecDepth 100000 in
theorem down1_seq (n0:Nat) (hn0:6≤n0) (bi bc:Nat) (Aa Ar:Option Addr) (n ca cr:Nat) (g:List Rc) (rd:List Sp) (s:Sp) (B:Nat) (wa:World) (N:Nat) (fin:Prop) (hB:B≤wa.heap.size) (hbi:At wa bi [.int .i64 s.lo,.int .i64 s.hi]) (hbc:At wa bc [.slice Aa n ca,.slice Ar (n+1) cr])
 (hg:Rd wa B Rc.cells Aa g) (hr:Rd wa B Sp.cells Ar rd) (hn:n=g.length) (hn2:n≤20) (hrl:rd.length=n+1) (hfine:∀r∈g,r.fine) (hrd:∀x∈rd,0≤x.lo∧x.lo≤13000000∧0≤x.hi∧x.hi≤13000000) (hs:s.fine 1000000)
 (hok:∀k,k < N→okS (dnK g rd s k)) (hend:(N=n+1∧fin)∨(N≤n∧¬okS (dnK g rd s N))) :
 SeqXF n0 Tryz.prog 156 #[.pointer (some ⟨bi,0,none⟩),.pointer (some ⟨bc,0,none⟩)] (GivesS (dnK g rd s)) N fin (TornAt n N) (fun _=>False) (fun b=>b < B∨b=bi∨b=bc) wa:=by
 intro l J Jx Wi hW hJ hJx hY h0
 have HJ:=hide hJ;have HJx:=hide hJx;have HY:=hide hY;have H0:=hide h0
 have hbi:=hbi.kept hW (.inr (.inl rfl))
 have hbc0:=hbc.kept hW (.inr (.inr rfl))
 have Hg:=hide (hg.keptR hW (fun _ h=> .inl h) hB);have Hr:=hide (hr.keptR hW (fun _ h=> .inl h) hB)
 have hBW:B≤Wi.heap.size:=Nat.le_trans hB hW.size
 clear hJ hJx hY h0 hbc hg hr hW
 have Hn:=hide hn;have Hrl:=hide hrl;have Hf:=hide hfine;have Hrd:=hide hrd;have Hs:=hide hs;have Hok:=hide hok;have Hend:=hide hend
 have hbd:=dnK_bd hfine hrd hs
 have Hbd:=hide hbd
 clear hn hrl hfine hrd hs hok hend hbd
 obtain⟨br,offr,x0,x1,rfl,hbr,hx,hr0,hr1⟩:=Hr.out.sp (i:=0) (by have:=Hrl.out;omega)
 simp only[Nat.zero_mul,Nat.add_zero] at hr0 hr1
 have hbrW:br < Wi.heap.size:=by omega
 obtain⟨r0,hr0e⟩:∃r0:Sp,r0=⟨x0,x1⟩:=⟨_,rfl⟩
 have er0:rd.getD 0 allS=r0:=by rw[List.getD_eq_getElem?_getD,hx,hr0e];rfl
 have ed0:dnK g rd s 0=cutS s r0:=by unfold dnK inK;rw[er0]
 have Hed0:=hide ed0
 have Hx0:=hide hr0e
 have hN1:(0:Int) < (n:Int)+1:=by omega
 clear hx er0 ed0 hr0e
 refine callsIn_of_wp Tryz.func156 rfl trivial ?_ rfl
 simp only[Tryz.ntmps156,List.size_toArray,List.length_cons,List.length_nil,Nat.reduceAdd,Nat.reduceSub,Array.replicate_succ,Array.replicate_zero,List.push_toArray,List.append_toArray,List.nil_append,List.cons_append]
 gi_wp2_with fail
 by_cases hN:N=0
 ·have hd0:(cutS s ⟨x0,x1⟩).hi < (cutS s ⟨x0,x1⟩).lo:=by
   rcases Hend.out with⟨h1,_⟩ | ⟨_,h2⟩
   ·omega
   ·rw[hN,Hed0.out,Hx0.out] at h2
    unfold okS at h2
    omega
  have hNn:N≤n:=by omega
  have HN:=hide hN
  clear hN
  refine wpIn_region_S (S:=(fun W=>Below Wi.heap.size Wi W)) (z:=8) (by kernel_rfl) (by(try dsimp only);exact(Below.refl _ _).drew) (fun hHeld=>?_)
  generalize World.drew Wi=Wd0 at hHeld ⊢
  have hbc:=Below.refl Wd0.heap.size Wd0
  refine tkS 0 ?_ rfl (Or.inl ⟨by rfl,?_⟩) hHeld ?_
  rotate_left
  ·(intro w hSw;(try dsimp only at hSw);obtain⟨q0,q1⟩:=(hbi.below hSw).c2;obtain⟨v0,v1⟩:=(hbc0.below hSw).c2;have c0:=(hSw.cell (p:=⟨br,offr,none⟩) hbrW).trans hr0;have c1:=(hSw.cell (p:=⟨br,offr+1,none⟩) hbrW).trans hr1;go_simp;try(with_reducible rfl))
  try simp only[Act.put,tl1,tl2,tl3]
  refine tkS 1 ?_ rfl (Or.inl ⟨by rfl,?_⟩) hHeld ?_
  rotate_left
  ·(intro w _;go_simp;try(with_reducible rfl))
  try simp only[Act.put,tl1,tl2,tl3]
  refine tkS 2 ?_ rfl (Or.inl ⟨by rfl,?_⟩) hHeld ?_
  rotate_left
  ·(intro w hSw;(try dsimp only at hSw);obtain⟨q0,q1⟩:=(hbi.below hSw).c2;obtain⟨v0,v1⟩:=(hbc0.below hSw).c2;have c0:=(hSw.cell (p:=⟨br,offr,none⟩) hbrW).trans hr0;have c1:=(hSw.cell (p:=⟨br,offr+1,none⟩) hbrW).trans hr1;go_simp;try(with_reducible rfl))
  try simp only[Act.put,tl1,tl2,tl3]
  refine tkS 3 ?_ rfl (Or.inl ⟨by rfl,?_⟩) hHeld ?_
  rotate_left
  ·(intro w _;go_simp;try(with_reducible rfl))
  try simp only[Act.put,tl1,tl2,tl3]
  refine tkS 4 ?_ rfl (Or.inl ⟨by rfl,?_⟩) hHeld ?_
  rotate_left
  ·(intro w hSw;(try dsimp only at hSw);obtain⟨q0,q1⟩:=(hbi.below hSw).c2;obtain⟨v0,v1⟩:=(hbc0.below hSw).c2;have c0:=(hSw.cell (p:=⟨br,offr,none⟩) hbrW).trans hr0;have c1:=(hSw.cell (p:=⟨br,offr+1,none⟩) hbrW).trans hr1;go_simp;try(with_reducible rfl))
  try simp only[Act.put,tl1,tl2,tl3]
  refine wpAnyS_ready (rs:=[5,7]) (by kernel_rfl) (by simp) ?_
  refine AllS.cons (o:=⟨_,_,_,_,_,_⟩) rfl (fun _=>trivial) (fun K hK=>?_) ?_
  ·
   go_simp
   refine wide_call ((common_any _ _ _ _ _).mono ?_)
   rintro e V12 ⟨rfl,hb⟩
   gi_wp2_with fail
   have hHeldN:=hHeld.trans (hb.mono hHeld.size)
   have hbc:=hbc.trans (hb.mono hbc.size)
   refine hK.out _ _ ?_ (fun hHeld2=>?_)
   ·intro _;exact hHeldN
   clear hK K hHeldN hb;have hHeld:=hHeld2 (by decide);clear hHeld2
   try simp only[Act.put,tl1,tl2,tl3]
   refine wpAnyS_ready (rs:=[6,7]) (by kernel_rfl) (by simp) ?_
   refine AllS.cons (o:=⟨_,_,_,_,_,_⟩) rfl (fun _=>trivial) (fun K hK=>?_) ?_
   ·
    go_simp
    refine wide_call ((some_torn _ _ _ _ hd0).mono ?_)
    rintro e V13 ⟨rfl,hb⟩
    have hBx:=hHeld.trans (hb.mono hHeld.size)
    exact⟨rfl,.inr ⟨_,0,fun _=>False,rfl,⟨hNn,HN.out.symm,_,rfl⟩,HJ.out 0 _ _ _ _ H0.out (Kept.all _ hBx) (fun b hb=> .inl hb)⟩⟩
   refine AllS.cons (o:=⟨_,_,_,_,_,_⟩) rfl (fun _=>trivial) (fun K hK=>?_) AllS.nil
   go_simp
   obtain⟨b4,V4,eb4,ev4,hx4,hb,hz4⟩:=mk_bx V12 #[.int .i64 0,.int .i64 0] 24
   rw[ev4.out,eb4.out]
   have hge4:Wi.heap.size≤b4:=by have:=eb4.out;have:=hHeld.size;omega
   clear ev4 eb4 hz4
   have hHeldN:=hHeld.trans (hb.mono hHeld.size)
   have hbc:=hbc.trans (hb.mono hbc.size)
   refine hK.out _ _ ?_ (fun hHeld2=>?_)
   ·intro _;exact hHeldN
   clear hK K hHeldN hb;have hHeld:=hHeld2 (by decide);clear hHeld2
   try simp only[Act.put,tl1,tl2,tl3]
   refine wpAnyS_ready (rs:=[6]) (by kernel_rfl) (by simp) ?_
   refine AllS.cons (o:=⟨_,_,_,_,_,_⟩) rfl (fun _=>trivial) (fun K hK=>?_) AllS.nil
   go_simp
   refine wide_call ((some_torn _ _ _ _ hd0).mono ?_)
   rintro e V13 ⟨rfl,hb⟩
   have hBx:=hHeld.trans (hb.mono hHeld.size)
   exact⟨rfl,.inr ⟨_,0,fun _=>False,rfl,⟨hNn,HN.out.symm,_,rfl⟩,HJ.out 0 _ _ _ _ H0.out (Kept.all _ hBx) (fun b hb=> .inl hb)⟩⟩
  refine AllS.cons (o:=⟨_,_,_,_,_,_⟩) rfl (fun _=>trivial) (fun K hK=>?_) AllS.nil
  go_simp
  obtain⟨b4,V4,eb4,ev4,hx4,hb,hz4⟩:=mk_bx Wd0 #[.int .i64 0,.int .i64 0] 24
  rw[ev4.out,eb4.out]
  have hge4:Wi.heap.size≤b4:=by have:=eb4.out;have:=hHeld.size;omega
  clear ev4 eb4 hz4
  have hHeldN:=hHeld.trans (hb.mono hHeld.size)
  have hbc:=hbc.trans (hb.mono hbc.size)
  refine hK.out _ _ ?_ (fun hHeld2=>?_)
  ·intro _;exact hHeldN
  clear hK K hHeldN hb;have hHeld:=hHeld2 (by decide);clear hHeld2
  try simp only[Act.put,tl1,tl2,tl3]
  refine wpAnyS_ready (rs:=[5]) (by kernel_rfl) (by simp) ?_
  refine AllS.cons (o:=⟨_,_,_,_,_,_⟩) rfl (fun _=>trivial) (fun K hK=>?_) AllS.nil
  go_simp
  refine wide_call ((common_any _ _ _ _ _).mono ?_)
  rintro e V12 ⟨rfl,hb⟩
  gi_wp2_with fail
  have hHeldN:=hHeld.trans (hb.mono hHeld.size)
  have hx4:=hx4.bel hb
  have hbc:=hbc.trans (hb.mono hbc.size)
  refine hK.out _ _ ?_ (fun hHeld2=>?_)
  ·intro _;exact hHeldN
  clear hK K hHeldN hb;have hHeld:=hHeld2 (by decide);clear hHeld2
  try simp only[Act.put,tl1,tl2,tl3]
  refine wpAnyS_ready (rs:=[6]) (by kernel_rfl) (by simp) ?_
  refine AllS.cons (o:=⟨_,_,_,_,_,_⟩) rfl (fun _=>trivial) (fun K hK=>?_) AllS.nil
  go_simp
  refine wide_call ((some_torn _ _ _ _ hd0).mono ?_)
  rintro e V13 ⟨rfl,hb⟩
  have hBx:=hHeld.trans (hb.mono hHeld.size)
  exact⟨rfl,.inr ⟨_,0,fun _=>False,rfl,⟨hNn,HN.out.symm,_,rfl⟩,HJ.out 0 _ _ _ _ H0.out (Kept.all _ hBx) (fun b hb=> .inl hb)⟩⟩
 ·have hd0:(cutS s ⟨x0,x1⟩).lo≤(cutS s ⟨x0,x1⟩).hi:=by
   have:=Hok.out 0 (by omega)
   rw[Hed0.out,Hx0.out] at this
   exact this
  refine wpIn_region_S (S:=(fun W=>Below Wi.heap.size Wi W)) (z:=8) (by kernel_rfl) (by(try dsimp only);exact(Below.refl _ _).drew) (fun hHeld=>?_)
  generalize World.drew Wi=Wd0 at hHeld ⊢
  have hbc:=Below.refl Wd0.heap.size Wd0
  refine tkS 0 ?_ rfl (Or.inl ⟨by rfl,?_⟩) hHeld ?_
  rotate_left
  ·(intro w hSw;(try dsimp only at hSw);obtain⟨q0,q1⟩:=(hbi.below hSw).c2;obtain⟨v0,v1⟩:=(hbc0.below hSw).c2;have c0:=(hSw.cell (p:=⟨br,offr,none⟩) hbrW).trans hr0;have c1:=(hSw.cell (p:=⟨br,offr+1,none⟩) hbrW).trans hr1;go_simp;try(with_reducible rfl))
  try simp only[Act.put,tl1,tl2,tl3]
  refine tkS 1 ?_ rfl (Or.inl ⟨by rfl,?_⟩) hHeld ?_
  rotate_left
  ·(intro w _;go_simp;try(with_reducible rfl))
  try simp only[Act.put,tl1,tl2,tl3]
  refine tkS 2 ?_ rfl (Or.inl ⟨by rfl,?_⟩) hHeld ?_
  rotate_left
  ·(intro w hSw;(try dsimp only at hSw);obtain⟨q0,q1⟩:=(hbi.below hSw).c2;obtain⟨v0,v1⟩:=(hbc0.below hSw).c2;have c0:=(hSw.cell (p:=⟨br,offr,none⟩) hbrW).trans hr0;have c1:=(hSw.cell (p:=⟨br,offr+1,none⟩) hbrW).trans hr1;go_simp;try(with_reducible rfl))
  try simp only[Act.put,tl1,tl2,tl3]
  refine tkS 3 ?_ rfl (Or.inl ⟨by rfl,?_⟩) hHeld ?_
  rotate_left
  ·(intro w _;go_simp;try(with_reducible rfl))
  try simp only[Act.put,tl1,tl2,tl3]
  refine tkS 4 ?_ rfl (Or.inl ⟨by rfl,?_⟩) hHeld ?_
  rotate_left
  ·(intro w hSw;(try dsimp only at hSw);obtain⟨q0,q1⟩:=(hbi.below hSw).c2;obtain⟨v0,v1⟩:=(hbc0.below hSw).c2;have c0:=(hSw.cell (p:=⟨br,offr,none⟩) hbrW).trans hr0;have c1:=(hSw.cell (p:=⟨br,offr+1,none⟩) hbrW).trans hr1;go_simp;try(with_reducible rfl))
  try simp only[Act.put,tl1,tl2,tl3]
  refine cut1 (C:=fun (b4:Nat) (Wc0_1:World)=>(Bx Wc0_1 b4 [.int .i64 0,.int .i64 0])∧(Wi.heap.size≤b4)∧Below Wd0.heap.size Wd0 Wc0_1∧Below Wi.heap.size Wi Wc0_1) (G:=?_) ?_ ?_
  rotate_left
  ·intro hCut
   replace hbc:=Below.refl Wd0.heap.size Wd0
   refine wpAnyS_ready (rs:=[5,7]) (by kernel_rfl) (by simp) ?_
   refine AllS.cons (o:=⟨_,_,_,_,_,_⟩) rfl (fun _=>trivial) (fun K hK=>?_) ?_
   ·
    go_simp
    refine wide_call ((common_any _ _ _ _ _).mono ?_)
    rintro e V12 ⟨rfl,hb⟩
    gi_wp2_with fail
    have hHeldN:=hHeld.trans (hb.mono hHeld.size)
    have hbc:=hbc.trans (hb.mono hbc.size)
    refine hK.out _ _ ?_ (fun hHeld2=>?_)
    ·intro _;exact hHeldN
    clear hK K hHeldN hb;have hHeld:=hHeld2 (by decide);clear hHeld2
    try simp only[Act.put,tl1,tl2,tl3]
    refine wpAnyS_ready (rs:=[6,7]) (by kernel_rfl) (by simp) ?_
    refine AllS.cons (o:=⟨_,_,_,_,_,_⟩) rfl (fun _=>trivial) (fun K hK=>?_) ?_
    ·
     go_simp
     refine wide_call ((some_ok _ _ _ _ hd0).mono ?_)
     rintro e V13 ⟨rfl,hb⟩
     gi_wp2_with fail
     have hHeldN:=hHeld.trans (hb.mono hHeld.size)
     have hbc:=hbc.trans (hb.mono hbc.size)
     refine hK.out _ _ ?_ (fun hHeld2=>?_)
     ·intro _;exact hHeldN
     clear hK K hHeldN hb;have hHeld:=hHeld2 (by decide);clear hHeld2
     try simp only[Act.put,tl1,tl2,tl3]
     refine wpAnyS_ready (rs:=[7]) (by kernel_rfl) (by simp) ?_
     refine AllS.cons (o:=⟨_,_,_,_,_,_⟩) rfl (fun _=>trivial) (fun K hK=>?_) AllS.nil
     go_simp
     obtain⟨b4,V4,eb4,ev4,hx4,hb,hz4⟩:=mk_bx V13 #[.int .i64 0,.int .i64 0] 24
     rw[ev4.out,eb4.out]
     have hge4:Wi.heap.size≤b4:=by have:=eb4.out;have:=hHeld.size;omega
     clear ev4 eb4 hz4
     have hHeldN:=hHeld.trans (hb.mono hHeld.size)
     have hbc:=hbc.trans (hb.mono hbc.size)
     refine hK.out _ _ ?_ (fun hHeld2=>?_)
     ·intro _;exact hHeldN
     clear hK K hHeldN hb;have hHeld:=hHeld2 (by decide);clear hHeld2
     try simp only[Act.put,tl1,tl2,tl3]
     exact hCut b4 V4 ⟨hx4,hge4,hbc,hHeld⟩
    refine AllS.cons (o:=⟨_,_,_,_,_,_⟩) rfl (fun _=>trivial) (fun K hK=>?_) AllS.nil
    go_simp
    obtain⟨b4,V4,eb4,ev4,hx4,hb,hz4⟩:=mk_bx V12 #[.int .i64 0,.int .i64 0] 24
    rw[ev4.out,eb4.out]
    have hge4:Wi.heap.size≤b4:=by have:=eb4.out;have:=hHeld.size;omega
    clear ev4 eb4 hz4
    have hHeldN:=hHeld.trans (hb.mono hHeld.size)
    have hbc:=hbc.trans (hb.mono hbc.size)
    refine hK.out _ _ ?_ (fun hHeld2=>?_)
    ·intro _;exact hHeldN
    clear hK K hHeldN hb;have hHeld:=hHeld2 (by decide);clear hHeld2
    try simp only[Act.put,tl1,tl2,tl3]
    refine wpAnyS_ready (rs:=[6]) (by kernel_rfl) (by simp) ?_
    refine AllS.cons (o:=⟨_,_,_,_,_,_⟩) rfl (fun _=>trivial) (fun K hK=>?_) AllS.nil
    go_simp
    refine wide_call ((some_ok _ _ _ _ hd0).mono ?_)
    rintro e V13 ⟨rfl,hb⟩
    gi_wp2_with fail
    have hHeldN:=hHeld.trans (hb.mono hHeld.size)
    have hx4:=hx4.bel hb
    have hbc:=hbc.trans (hb.mono hbc.size)
    refine hK.out _ _ ?_ (fun hHeld2=>?_)
    ·intro _;exact hHeldN
    clear hK K hHeldN hb;have hHeld:=hHeld2 (by decide);clear hHeld2
    try simp only[Act.put,tl1,tl2,tl3]
    exact hCut b4 V13 ⟨hx4,hge4,hbc,hHeld⟩
   refine AllS.cons (o:=⟨_,_,_,_,_,_⟩) rfl (fun _=>trivial) (fun K hK=>?_) AllS.nil
   go_simp
   obtain⟨b4,V4,eb4,ev4,hx4,hb,hz4⟩:=mk_bx Wd0 #[.int .i64 0,.int .i64 0] 24
   rw[ev4.out,eb4.out]
   have hge4:Wi.heap.size≤b4:=by have:=eb4.out;have:=hHeld.size;omega
   clear ev4 eb4 hz4
   have hHeldN:=hHeld.trans (hb.mono hHeld.size)
   have hbc:=hbc.trans (hb.mono hbc.size)
   refine hK.out _ _ ?_ (fun hHeld2=>?_)
   ·intro _;exact hHeldN
   clear hK K hHeldN hb;have hHeld:=hHeld2 (by decide);clear hHeld2
   try simp only[Act.put,tl1,tl2,tl3]
   refine wpAnyS_ready (rs:=[5]) (by kernel_rfl) (by simp) ?_
   refine AllS.cons (o:=⟨_,_,_,_,_,_⟩) rfl (fun _=>trivial) (fun K hK=>?_) AllS.nil
   go_simp
   refine wide_call ((common_any _ _ _ _ _).mono ?_)
   rintro e V12 ⟨rfl,hb⟩
   gi_wp2_with fail
   have hHeldN:=hHeld.trans (hb.mono hHeld.size)
   have hx4:=hx4.bel hb
   have hbc:=hbc.trans (hb.mono hbc.size)
   refine hK.out _ _ ?_ (fun hHeld2=>?_)
   ·intro _;exact hHeldN
   clear hK K hHeldN hb;have hHeld:=hHeld2 (by decide);clear hHeld2
   try simp only[Act.put,tl1,tl2,tl3]
   refine wpAnyS_ready (rs:=[6]) (by kernel_rfl) (by simp) ?_
   refine AllS.cons (o:=⟨_,_,_,_,_,_⟩) rfl (fun _=>trivial) (fun K hK=>?_) AllS.nil
   go_simp
   refine wide_call ((some_ok _ _ _ _ hd0).mono ?_)
   rintro e V13 ⟨rfl,hb⟩
   gi_wp2_with fail
   have hHeldN:=hHeld.trans (hb.mono hHeld.size)
   have hx4:=hx4.bel hb
   have hbc:=hbc.trans (hb.mono hbc.size)
   refine hK.out _ _ ?_ (fun hHeld2=>?_)
   ·intro _;exact hHeldN
   clear hK K hHeldN hb;have hHeld:=hHeld2 (by decide);clear hHeld2
   try simp only[Act.put,tl1,tl2,tl3]
   exact hCut b4 V13 ⟨hx4,hge4,hbc,hHeld⟩
  intro b4 Wc0_1 ⟨hx4,hge4,hbN,hHeldN⟩
  have hbc:=hbc.trans (hbN.mono hbc.size);clear hHeld hbN;have hHeld:=hHeldN;clear hHeldN
  refine wpAnyS_ready (rs:=[8]) (by kernel_rfl) (by simp) ?_
  refine AllS.cons (o:=⟨_,_,_,_,_,_⟩) rfl (fun _=>trivial) (fun K hK=>?_) AllS.nil
  obtain⟨p0,p1,y0,y1⟩:=hx4.w2
  have hset:=hx4.set2 (.int .i64 (cutS s ⟨x0,x1⟩).lo) (.int .i64 (cutS s ⟨x0,x1⟩).hi)
  have hHeldF:=hHeld
  go_simp
  refine hK.out _ _ (fun h=>absurd rfl h) (fun _=>?_)
  clear hK K hHeld
  try simp only[Act.put,tl1,tl2,tl3]
  refine wpAnyS_done (by kernel_rfl) ?_ _
  obtain⟨wz,Hwz⟩:∃wz,Hid (((Wc0_1.setCell ⟨b4,0,none⟩ (.int .i64 (cutS s ⟨x0,x1⟩).lo)).setCell ⟨b4,1,none⟩ (.int .i64 (cutS s ⟨x0,x1⟩).hi))=wz):=⟨_,hide rfl⟩
  have hB0:=(hHeldF.setCell (p:=⟨b4,0,none⟩) hge4 (.int .i64 (cutS s ⟨x0,x1⟩).lo)).setCell (p:=⟨b4,1,none⟩) hge4 (.int .i64 (cutS s ⟨x0,x1⟩).hi)
  rw[Hwz.out] at hset hB0
  have hj0:J 0 (fun b=>b=b4) wz:=HJ.out 0 (fun _=>False) _ Wi wz H0.out (Kept.all _ hB0) (fun b hb=> .inr (by omega))
  have hset0:Bx wz b4 [.int .i64 (dnK g rd s 0).lo,.int .i64 (dnK g rd s 0).hi]:=by rw[Hed0.out,Hx0.out];exact hset
  rw[Hwz.out]
  have hkz:Kept (fun b=>b < B∨b=bi∨b=bc) Wi wz:=Kept.all _ hB0
  have hbcz:=hbc0.below hB0
  obtain⟨v0,v1⟩:=hbcz.c2
  clear hset p0 p1 y0 y1 hx4 hbc
  gi_wp2_with fail
  gi_loopw [17] (fun i wr=>∃(k:Nat) (X:Nat→Prop),i= .int .i64 k∧k≤n∧k < N∧Bx wr b4 [.int .i64 (dnK g rd s k).lo,.int .i64 (dnK g rd s k).hi]∧J k X wr∧X b4∧(∀b,X b→Wi.heap.size≤b∧b < wr.heap.size)∧Kept (fun b=>b < B∨b=bi∨b=bc) Wi wr) (fun i _=>n-(intOf i).toNat)
  case atStart=>exact⟨0,fun b=>b=b4,rfl,by omega,by omega,hset0,hj0,rfl,fun b hb=>by subst hb;exact⟨hge4,hset0.lt⟩,hkz⟩
  case round=>
   obtain⟨k,X,rfl,hk,hkN,hx4,hj,hX4,hXr,hkp⟩:=hrel
   obtain⟨u,hu⟩:∃u,u=dnK g rd s k:=⟨_,rfl⟩
   rw[←hu] at hx4
   have Hu:=hide hu
   have Hj:=hide hj;have HXr:=hide hXr;have Hkp:=hide hkp;have HX4:=hide hX4
   have hsz:=hkp.size
   obtain⟨p0,p1,y0,y1⟩:=hx4.w2
   have hub:=(Hbd.out k (by have:=Hn.out;omega) (fun j hj=>Hok.out j (by omega))).2
   rw[←hu] at hub
   have huo:u.lo≤u.hi:=by have:=Hok.out k hkN;rw[←hu] at this;exact this
   clear hj hXr hkp hX4 hu
   by_cases hlt:k < n
   ·obtain⟨bg,offg,a0,a1,a2,a3,a4,a5,rfl,hbg,hxk,e0,e1,e2,e3,e4,e5⟩:=(Hg.out.keptR Hkp.out (fun _ h=> .inl h) hBW).rc (i:=k) (by have:=Hn.out;omega)
    have hrf:=Hf.out _ (List.mem_of_getElem? hxk)
    obtain⟨rk,hrk⟩:∃rk:Rc,rk=⟨⟨a0,a1⟩,⟨a2,a3⟩,⟨a4,a5⟩⟩:=⟨_,rfl⟩
    rw[←hrk] at hrf
    have erk:g.getD k Rc.zero=rk:=by rw[List.getD_eq_getElem?_getD,hxk,hrk];rfl
    obtain⟨b6,w6,e6,ew6,hx6,hb6,hz6⟩:=mk_bx wr #[.int .i64 a0,.int .i64 a1,.int .i64 a2,.int .i64 a3,.int .i64 a4,.int .i64 a5] 114
    have hj6:J k (fun b=>(b=b4∨b=b6)∨False) w6:=HJ.out k X _ wr w6 Hj.out (Kept.all _ hb6) (fun b hb=>by
     rcases hb with(h | h) | h
     ·rw[h];exact .inl HX4.out
     ·rw[h];exact .inr (by have:=e6.out;omega)
     ·exact h.elim)
    have hl4:=hx4.lt
    have hl6:=hx6.lt
    have hge6:Wi.heap.size≤b6:=by have:=e6.out;omega
    have hyy:=HY.out k (fun b=>b=b4∨b=b6) (fun _=>False) #[.agg #[.int .i64 u.lo,.int .i64 u.hi]] w6 hj6 (fun b hb=>by have:=hb6.size;have:=hl4;have:=hl6;rcases hb with(h | h) | h;omega;omega;exact h.elim) (by unfold GivesS;rw[←Hu.out]) hkN
    obtain⟨fn,tmps,assign,body,hy,hR⟩:=hyy
    have HR:=hide hR
    have Hkp6:=hide (Hkp.out.trans (Kept.all (fun b=>b < B∨b=bi∨b=bc) hb6))
    have Herk:=hide erk;have Hrk:=hide hrk;have Hrf:=hide hrf
    have hx46:=hx4.bel hb6
    rw[←ew6.out] at hy
    clear hR hxk hj6 erk hrk hrf
    gi_wp2_with fail
    rw[ew6.out,e6.out]
    refine⟨fun h=>by simp[Fence.wide] at h,HR.out.mono ?_⟩
    rintro e wy (⟨rfl,hJ3,hk3⟩ | ⟨rfl,hJx3,hk3⟩)
    ·have hkpy:=Hkp6.out.trans (hk3.mono fun b _ hb=> .inl hb)
     have hb4y:=hx46.kept hk3 (.inr (.inl rfl))
     have hx6:=hx6.at_.kept hk3 (.inr (.inr rfl))
     have hbcy:=hbc0.kept hkpy (.inr (.inr rfl))
     obtain⟨_,_,x2,x3,hAe,_,hx2,hr2,hr3⟩:=(Hr.out.keptR hkpy (fun _ h=> .inl h) hBW).sp (i:=k+1) (by have:=Hrl.out;omega)
     injection hAe with hAe
     injection hAe with hAe1 hAe2
     subst hAe1 hAe2
     have hbqy:br < wy.heap.size:=by have:=hkpy.size;omega
     have ed:dnK g rd s (k+1)=cutS ⟨leastF ⟨⟨a0,a1⟩,⟨a2,a3⟩,⟨a4,a5⟩⟩ u.lo,mostF ⟨⟨a0,a1⟩,⟨a2,a3⟩,⟨a4,a5⟩⟩ u.hi⟩ ⟨x2,x3⟩:=by
      have e2:rd.getD (k+1) allS=⟨x2,x3⟩:=by rw[List.getD_eq_getElem?_getD,hx2];rfl
      unfold dnK
      rw[inK_succ,Herk.out,←Hu.out,e2,Hrk.out]
      rfl
     have Hed:=hide ed
     have hrf:=Hrf.out
     rw[Hrk.out] at hrf
     obtain⟨⟨f1,f2,f3⟩,⟨f4,f5,f6⟩,⟨f7,f8,f9⟩⟩:=hrf
     simp only at f1 f2 f3 f4 f5 f6 f7 f8 f9
     have lb1:0≤u.lo∧u.lo≤1000000000:=by omega
     have lb2:0≤a0∧a0≤1000000000:=by omega
     have lb3:0≤a3∧a3≤1000000000:=by omega
     have lb4:0≤a4∧a4≤1000000000:=by omega
     have mb1:0≤u.hi∧u.hi≤1000000000:=by omega
     have mb2:0≤a1∧a1≤1000000000:=by omega
     have mb3:0≤a2∧a2≤1000000000:=by omega
     have mb4:0≤a5∧a5≤1000000000:=by omega
     have ik3:0≤(k:Int)+1:=by omega
     have ik1:(k:Int)+1 < (n:Int)+1:=by omega
     have ik2:IntKind.i64.wrap ((k:Int)+1)=(k:Int)+1:=wrapI (by omega)
     clear ed hx2 hx46 f1 f2 f3 f4 f5 f6 f7 f8 f9 p0 p1 y0 y1 e0 e1 e2 e3 e4 e5 hub huo
     gi_wp2_with fail
     by_cases hlast:k+1 < N
     ·have hd1:(cutS ⟨leastF ⟨⟨a0,a1⟩,⟨a2,a3⟩,⟨a4,a5⟩⟩ u.lo,mostF ⟨⟨a0,a1⟩,⟨a2,a3⟩,⟨a4,a5⟩⟩ u.hi⟩ ⟨x2,x3⟩).lo≤(cutS ⟨leastF ⟨⟨a0,a1⟩,⟨a2,a3⟩,⟨a4,a5⟩⟩ u.lo,mostF ⟨⟨a0,a1⟩,⟨a2,a3⟩,⟨a4,a5⟩⟩ u.hi⟩ ⟨x2,x3⟩).hi:=by
       have:=Hok.out (k+1) hlast
       rw[Hed.out] at this
       exact this
      refine wpIn_region_S (S:=(fun W=>Below wy.heap.size wy W)) (z:=19) (by kernel_rfl) (by(try dsimp only);exact(Below.refl _ _).drew) (fun hHeld=>?_)
      generalize World.drew wy=Wd5 at hHeld ⊢
      have hbc:=Below.refl Wd5.heap.size Wd5
      iterate 7
       refine tkSl [0,1,3,7,11,13,14] ?_ rfl rfl (Or.inl ⟨by rfl,?_⟩) hHeld ?_
       rotate_left
       ·(intro w _;go_simp;try(with_reducible rfl))
       try simp only[Act.put,tl1,tl2,tl3]
      iterate 5
       refine tkSl [2,4,6,8,12] ?_ rfl rfl (Or.inl ⟨by rfl,?_⟩) hHeld ?_
       rotate_left
       ·(intro w hSw;(try dsimp only at hSw);obtain⟨q0,q1,_,_⟩:=(hb4y.bel hSw).w2;obtain⟨z0,z1,z2,z3,z4,z5⟩:=(hx6.below hSw).c6;obtain⟨v0,v1⟩:=(hbcy.below hSw).c2;have c0:=(hSw.cell (p:=⟨br,offr+(k+1)*2,none⟩) hbqy).trans hr2;have c1:=(hSw.cell (p:=⟨br,offr+(k+1)*2+1,none⟩) hbqy).trans hr3;go_simp;try(with_reducible rfl))
       try simp only[Act.put,tl1,tl2,tl3]
      refine tkS 15 ?_ rfl (Or.inl ⟨by rfl,?_⟩) hHeld ?_
      rotate_left
      ·(intro w _;go_simp;try(with_reducible rfl))
      try simp only[Act.put,tl1,tl2,tl3]
      refine tkS 16 ?_ rfl (Or.inl ⟨by rfl,?_⟩) hHeld ?_
      rotate_left
      ·(intro w hSw;(try dsimp only at hSw);obtain⟨q0,q1,_,_⟩:=(hb4y.bel hSw).w2;obtain⟨z0,z1,z2,z3,z4,z5⟩:=(hx6.below hSw).c6;obtain⟨v0,v1⟩:=(hbcy.below hSw).c2;have c0:=(hSw.cell (p:=⟨br,offr+(k+1)*2,none⟩) hbqy).trans hr2;have c1:=(hSw.cell (p:=⟨br,offr+(k+1)*2+1,none⟩) hbqy).trans hr3;go_simp;try(with_reducible rfl))
      try simp only[Act.put,tl1,tl2,tl3]
      refine wpAnyS_ready (rs:=[5]) (by kernel_rfl) (by simp) ?_
      refine AllS.cons (o:=⟨_,_,_,_,_,_⟩) rfl (fun _=>trivial) (fun K hK=>?_) AllS.nil
      go_simp
      refine wide_call ((least_any _ _ _ _ _ _ _ _ lb1 lb2 lb3 lb4).mono ?_)
      rintro e V31 ⟨rfl,hb⟩
      gi_wp2_with fail
      have hHeldN:=hHeld.trans (hb.mono hHeld.size)
      have hbc:=hbc.trans (hb.mono hbc.size)
      refine hK.out _ _ ?_ (fun hHeld2=>?_)
      ·intro _;exact hHeldN
      clear hK K hHeld hHeldN hb;have hHeld:=hHeld2 (by decide);clear hHeld2
      try simp only[Act.put,tl1,tl2,tl3]
      refine wpAnyS_ready (rs:=[9]) (by kernel_rfl) (by simp) ?_
      refine AllS.cons (o:=⟨_,_,_,_,_,_⟩) rfl (fun _=>trivial) (fun K hK=>?_) AllS.nil
      go_simp
      refine wide_call ((most_any _ _ _ _ _ _ _ _ mb1 mb2 mb3 mb4).mono ?_)
      rintro e V35 ⟨rfl,hb⟩
      gi_wp2_with fail
      have hHeldN:=hHeld.trans (hb.mono hHeld.size)
      have hbc:=hbc.trans (hb.mono hbc.size)
      refine hK.out _ _ ?_ (fun hHeld2=>?_)
      ·intro _;exact hHeldN
      clear hK K hHeld hHeldN hb;have hHeld:=hHeld2 (by decide);clear hHeld2
      try simp only[Act.put,tl1,tl2,tl3]
      refine tkS 10 ?_ rfl (Or.inl ⟨by rfl,?_⟩) hHeld ?_
      rotate_left
      ·(intro w _;go_simp;try(with_reducible rfl))
      try simp only[Act.put,tl1,tl2,tl3]
      refine wpAnyS_ready (rs:=[17]) (by kernel_rfl) (by simp) ?_
      refine AllS.cons (o:=⟨_,_,_,_,_,_⟩) rfl (fun _=>trivial) (fun K hK=>?_) AllS.nil
      go_simp
      refine wide_call ((common_any _ _ _ _ _).mono ?_)
      rintro e V43 ⟨rfl,hb⟩
      gi_wp2_with fail
      have hHeldN:=hHeld.trans (hb.mono hHeld.size)
      have hbc:=hbc.trans (hb.mono hbc.size)
      refine hK.out _ _ ?_ (fun hHeld2=>?_)
      ·intro _;exact hHeldN
      clear hK K hHeld hHeldN hb;have hHeld:=hHeld2 (by decide);clear hHeld2
      try simp only[Act.put,tl1,tl2,tl3]
      refine wpAnyS_ready (rs:=[18]) (by kernel_rfl) (by simp) ?_
      refine AllS.cons (o:=⟨_,_,_,_,_,_⟩) rfl (fun _=>trivial) (fun K hK=>?_) AllS.nil
      go_simp
      refine wide_call ((some_ok _ _ _ _ hd1).mono ?_)
      rintro e V44 ⟨rfl,hb⟩
      gi_wp2_with fail
      have hHeldN:=hHeld.trans (hb.mono hHeld.size)
      have hbc:=hbc.trans (hb.mono hbc.size)
      refine hK.out _ _ ?_ (fun hHeld2=>?_)
      ·intro _;exact hHeldN
      clear hK K hHeld hHeldN hb;have hHeld:=hHeld2 (by decide);clear hHeld2
      try simp only[Act.put,tl1,tl2,tl3]
      refine wpAnyS_ready (rs:=[19]) (by kernel_rfl) (by simp) ?_
      refine AllS.cons (o:=⟨_,_,_,_,_,_⟩) rfl (fun _=>trivial) (fun K hK=>?_) AllS.nil
      have hx4:=hb4y.bel hHeld
      obtain⟨p0,p1,y0,y1⟩:=hx4.w2
      have hset:=hx4.set2 (.int .i64 (cutS ⟨leastF ⟨⟨a0,a1⟩,⟨a2,a3⟩,⟨a4,a5⟩⟩ u.lo,mostF ⟨⟨a0,a1⟩,⟨a2,a3⟩,⟨a4,a5⟩⟩ u.hi⟩ ⟨x2,x3⟩).lo) (.int .i64 (cutS ⟨leastF ⟨⟨a0,a1⟩,⟨a2,a3⟩,⟨a4,a5⟩⟩ u.lo,mostF ⟨⟨a0,a1⟩,⟨a2,a3⟩,⟨a4,a5⟩⟩ u.hi⟩ ⟨x2,x3⟩).hi)
      have hHeldF:=hHeld
      go_simp
      refine hK.out _ _ (fun h=>absurd rfl h) (fun _=>?_)
      clear hK K hHeld
      try simp only[Act.put,tl1,tl2,tl3]
      refine wpAnyS_done (by kernel_rfl) ?_ _
      have hkS:=(Kept.setCell V44 ⟨b4,0,none⟩ (.int .i64 (cutS ⟨leastF ⟨⟨a0,a1⟩,⟨a2,a3⟩,⟨a4,a5⟩⟩ u.lo,mostF ⟨⟨a0,a1⟩,⟨a2,a3⟩,⟨a4,a5⟩⟩ u.hi⟩ ⟨x2,x3⟩).lo)).trans (Kept.setCell _ ⟨b4,1,none⟩ (.int .i64 (cutS ⟨leastF ⟨⟨a0,a1⟩,⟨a2,a3⟩,⟨a4,a5⟩⟩ u.lo,mostF ⟨⟨a0,a1⟩,⟨a2,a3⟩,⟨a4,a5⟩⟩ u.hi⟩ ⟨x2,x3⟩).hi))
      obtain⟨wz2,Hwz2⟩:∃wz2,Hid ((V44.setCell ⟨b4,0,none⟩ (.int .i64 (cutS ⟨leastF ⟨⟨a0,a1⟩,⟨a2,a3⟩,⟨a4,a5⟩⟩ u.lo,mostF ⟨⟨a0,a1⟩,⟨a2,a3⟩,⟨a4,a5⟩⟩ u.hi⟩ ⟨x2,x3⟩).lo)).setCell ⟨b4,1,none⟩ (.int .i64 (cutS ⟨leastF ⟨⟨a0,a1⟩,⟨a2,a3⟩,⟨a4,a5⟩⟩ u.lo,mostF ⟨⟨a0,a1⟩,⟨a2,a3⟩,⟨a4,a5⟩⟩ u.hi⟩ ⟨x2,x3⟩).hi)=wz2):=⟨_,hide rfl⟩
      rw[Hwz2.out] at hset hkS ⊢
      have hkS2:Kept (fun b=>b≠b4) wy wz2:=((Kept.all (fun _=>True) hHeldF).mono fun _ _ _=>trivial).trans hkS
      have hJ4:J (k+1) (fun b=>b=b4∨b=b6) wz2:=HJ.out (k+1) _ _ wy wz2 hJ3 (hkS2.mono fun b _ hb e=>hb (.inl e)) (fun b hb=> .inl hb)
      have hb1:=hbi.1
      have hc1:=hbc0.1
      have hkp5:Kept (fun b=>b < B∨b=bi∨b=bc) Wi wz2:=hkpy.trans (hkS2.mono fun b _ hb=>by omega)
      have hX5:∀b,(b=b4∨b=b6)→Wi.heap.size≤b∧b < wz2.heap.size:=fun b hb=>by
       have h1:=hkS2.size
       have h2:=hb4y.lt
       have h3:=hx6.1
       have h4:=(HXr.out b4 HX4.out).1
       rcases hb with h | h <;> rw[h] <;> omega
      have Hset:=hide hset;have HJ4:=hide hJ4;have Hkp5:=hide hkp5;have HX5:=hide hX5
      clear hset hkS hJ4 hkp5 hX5 p0 p1 y0 y1 hx4 hHeldF hJ3 hk3 hkS2
      gi_wp2_with fail
      exact⟨⟨k+1,_,by go_num,by omega,hlast,by rw[Hed.out];exact Hset.out,HJ4.out,.inl rfl,HX5.out,Hkp5.out⟩,by simp[intOf];omega⟩
     ·have heq:k+1=N:=by omega
      have hd1:(cutS ⟨leastF ⟨⟨a0,a1⟩,⟨a2,a3⟩,⟨a4,a5⟩⟩ u.lo,mostF ⟨⟨a0,a1⟩,⟨a2,a3⟩,⟨a4,a5⟩⟩ u.hi⟩ ⟨x2,x3⟩).hi < (cutS ⟨leastF ⟨⟨a0,a1⟩,⟨a2,a3⟩,⟨a4,a5⟩⟩ u.lo,mostF ⟨⟨a0,a1⟩,⟨a2,a3⟩,⟨a4,a5⟩⟩ u.hi⟩ ⟨x2,x3⟩).lo:=by
       rcases Hend.out with⟨h1,_⟩ | ⟨_,h2⟩
       ·omega
       ·rw[←heq,Hed.out] at h2
        unfold okS at h2
        omega
      have hNn:N≤n:=by omega
      have Heq:=hide heq
      clear heq
      refine wpIn_region_S (S:=(fun W=>Below wy.heap.size wy W)) (z:=19) (by kernel_rfl) (by(try dsimp only);exact(Below.refl _ _).drew) (fun hHeld=>?_)
      generalize World.drew wy=Wd5 at hHeld ⊢
      have hbc:=Below.refl Wd5.heap.size Wd5
      iterate 7
       refine tkSl [0,1,3,7,11,13,14] ?_ rfl rfl (Or.inl ⟨by rfl,?_⟩) hHeld ?_
       rotate_left
       ·(intro w _;go_simp;try(with_reducible rfl))
       try simp only[Act.put,tl1,tl2,tl3]
      iterate 5
       refine tkSl [2,4,6,8,12] ?_ rfl rfl (Or.inl ⟨by rfl,?_⟩) hHeld ?_
       rotate_left
       ·(intro w hSw;(try dsimp only at hSw);obtain⟨q0,q1,_,_⟩:=(hb4y.bel hSw).w2;obtain⟨z0,z1,z2,z3,z4,z5⟩:=(hx6.below hSw).c6;obtain⟨v0,v1⟩:=(hbcy.below hSw).c2;have c0:=(hSw.cell (p:=⟨br,offr+(k+1)*2,none⟩) hbqy).trans hr2;have c1:=(hSw.cell (p:=⟨br,offr+(k+1)*2+1,none⟩) hbqy).trans hr3;go_simp;try(with_reducible rfl))
       try simp only[Act.put,tl1,tl2,tl3]
      refine tkS 15 ?_ rfl (Or.inl ⟨by rfl,?_⟩) hHeld ?_
      rotate_left
      ·(intro w _;go_simp;try(with_reducible rfl))
      try simp only[Act.put,tl1,tl2,tl3]
      refine tkS 16 ?_ rfl (Or.inl ⟨by rfl,?_⟩) hHeld ?_
      rotate_left
      ·(intro w hSw;(try dsimp only at hSw);obtain⟨q0,q1,_,_⟩:=(hb4y.bel hSw).w2;obtain⟨z0,z1,z2,z3,z4,z5⟩:=(hx6.below hSw).c6;obtain⟨v0,v1⟩:=(hbcy.below hSw).c2;have c0:=(hSw.cell (p:=⟨br,offr+(k+1)*2,none⟩) hbqy).trans hr2;have c1:=(hSw.cell (p:=⟨br,offr+(k+1)*2+1,none⟩) hbqy).trans hr3;go_simp;try(with_reducible rfl))
      try simp only[Act.put,tl1,tl2,tl3]
      refine wpAnyS_ready (rs:=[5]) (by kernel_rfl) (by simp) ?_
      refine AllS.cons (o:=⟨_,_,_,_,_,_⟩) rfl (fun _=>trivial) (fun K hK=>?_) AllS.nil
      go_simp
      refine wide_call ((least_any _ _ _ _ _ _ _ _ lb1 lb2 lb3 lb4).mono ?_)
      rintro e V31 ⟨rfl,hb⟩
      gi_wp2_with fail
      have hHeldN:=hHeld.trans (hb.mono hHeld.size)
      have hbc:=hbc.trans (hb.mono hbc.size)
      refine hK.out _ _ ?_ (fun hHeld2=>?_)
      ·intro _;exact hHeldN
      clear hK K hHeld hHeldN hb;have hHeld:=hHeld2 (by decide);clear hHeld2
      try simp only[Act.put,tl1,tl2,tl3]
      refine wpAnyS_ready (rs:=[9]) (by kernel_rfl) (by simp) ?_
      refine AllS.cons (o:=⟨_,_,_,_,_,_⟩) rfl (fun _=>trivial) (fun K hK=>?_) AllS.nil
      go_simp
      refine wide_call ((most_any _ _ _ _ _ _ _ _ mb1 mb2 mb3 mb4).mono ?_)
      rintro e V35 ⟨rfl,hb⟩
      gi_wp2_with fail
      have hHeldN:=hHeld.trans (hb.mono hHeld.size)
      have hbc:=hbc.trans (hb.mono hbc.size)
      refine hK.out _ _ ?_ (fun hHeld2=>?_)
      ·intro _;exact hHeldN
      clear hK K hHeld hHeldN hb;have hHeld:=hHeld2 (by decide);clear hHeld2
      try simp only[Act.put,tl1,tl2,tl3]
      refine tkS 10 ?_ rfl (Or.inl ⟨by rfl,?_⟩) hHeld ?_
      rotate_left
      ·(intro w _;go_simp;try(with_reducible rfl))
      try simp only[Act.put,tl1,tl2,tl3]
      refine wpAnyS_ready (rs:=[17]) (by kernel_rfl) (by simp) ?_
      refine AllS.cons (o:=⟨_,_,_,_,_,_⟩) rfl (fun _=>trivial) (fun K hK=>?_) AllS.nil
      go_simp
      refine wide_call ((common_any _ _ _ _ _).mono ?_)
      rintro e V43 ⟨rfl,hb⟩
      gi_wp2_with fail
      have hHeldN:=hHeld.trans (hb.mono hHeld.size)
      have hbc:=hbc.trans (hb.mono hbc.size)
      refine hK.out _ _ ?_ (fun hHeld2=>?_)
      ·intro _;exact hHeldN
      clear hK K hHeld hHeldN hb;have hHeld:=hHeld2 (by decide);clear hHeld2
      try simp only[Act.put,tl1,tl2,tl3]
      refine wpAnyS_ready (rs:=[18]) (by kernel_rfl) (by simp) ?_
      refine AllS.cons (o:=⟨_,_,_,_,_,_⟩) rfl (fun _=>trivial) (fun K hK=>?_) AllS.nil
      go_simp
      refine wide_call ((some_torn _ _ _ _ hd1).mono ?_)
      rintro e V44 ⟨rfl,hb⟩
      have hBx:=hHeld.trans (hb.mono hHeld.size)
      exact⟨rfl,.inr ⟨_,k+1,fun b=>b=b4∨b=b6,rfl,⟨hNn,Heq.out,_,rfl⟩,HJ.out (k+1) _ _ _ _ hJ3 (Kept.all _ hBx) (fun b hb=> .inl hb)⟩⟩
    ·gi_wp2_with fail
     refine bodyPost_ret (results_none rfl _ _ _) rfl ?_
     exact .inl ⟨_,rfl,_,.inr ⟨k+1,by omega,hJx3⟩⟩
   ·have hNn:N=n+1∧fin:=by
     rcases Hend.out with h | ⟨h1,_⟩
     ·exact h
     ·omega
    have hjn:J k (fun b=>X b∨False) wr:=HJ.out k X _ wr wr Hj.out (Kept.refl _ _) (fun b hb=>by rcases hb with h | h;exact .inl h;exact h.elim)
    have hyy:=HY.out k X (fun _=>False) #[.agg #[.int .i64 u.lo,.int .i64 u.hi]] wr hjn (fun b hb=>by rcases hb with h | h;exact(HXr.out b h).2;exact h.elim) (by unfold GivesS;rw[←Hu.out]) hkN
    obtain⟨fn,tmps,assign,body,hy,hR⟩:=hyy
    have HR:=hide hR;have HNn:=hide hNn
    clear hR hjn hNn
    gi_wp2_with fail
    refine⟨fun h=>by simp[Fence.wide] at h,HR.out.mono ?_⟩
    rintro e wy (⟨rfl,hJ3,hk3⟩ | ⟨rfl,hJx3,hk3⟩)
    ·gi_wp2_with fail
     go_end0
     refine .inl ⟨_,rfl,X,.inl ⟨HNn.out.2,?_⟩⟩
     rw[HNn.out.1,show n+1=k+1 by omega]
     exact hJ3
    ·gi_wp2_with fail
     go_end0
     exact .inl ⟨_,rfl,X,.inr ⟨k+1,by omega,hJx3⟩⟩
end Go.Proofs.YtiioegopckoldaaGreatDoor
namespace Go.Proofs.YtiioegopckoldaaGreatDoor
open Go.RowKit Go.Shelf
attribute [local go_sem] Oper.semAt_some
theorem torn_assert (v:Value) (w:World):(Instr.typeAssert (.iface 191 v) 20 191 true).run Tryz.prog w= .ok (.tuple #[v,.bool true]) w:=by
 simp[Instr.typeAssert,run_underlying Tryz.underlying191]
set_option maxHeartbeats 4000000 in
set_option maxRecDepth 100000 in
theorem fit1_torn (n p4 p5:Nat) (q:Int) (v4 v5:Value) (w:World) (h4:Bx w p4 [v4]) (h5:Bx w p5 [v5]) (hne:p4≠p5) :
 CallsDIn Fence.wide n Tryz.prog 86 #[.pointer (some ⟨p4,0,none⟩),.pointer (some ⟨p5,0,none⟩)] (.panicking [{v:=tornV q,recovered:=false }]) w fun e u' w'=>
  e= .returned (.tuple #[])∧u'= .panicking [{v:=tornV q,recovered:=true }]∧Bx w' p4 [.slice none 0 0]∧Bx w' p5 [.bool false]∧Kept (fun b=>b≠p4∧b≠p5) w w':=by
 have hta:=torn_assert
 have l4:=h4.lt
 have l5:=h5.lt
 have hne':¬p5=p4:=fun e=>hne e.symm
 obtain⟨c4,z4⟩:=h4.w1
 obtain⟨c5,z5⟩:=h5.w1
 refine callsDIn_of_wpSIn Tryz.func86 rfl (by trivial) fun c₀ cs hu=>?_
 apply wpSIn_seq
 apply wpSIn_region
 simp[wpOpsSIn,go_sem,recoverD,hu,Tryz.ntmps86,Exit.thenS,tornV]
 simp only[Array.replicate_succ,Array.replicate_zero,List.push_toArray,List.setIfInBounds_toArray,List.set_cons_succ,List.set_cons_zero,List.append_toArray,List.nil_append,List.cons_append]
 refine wpSIn_of_wpIn rfl ?_
 gi_wp2_with fail
 have hA:=(((h4.set (j:=0) (.slice none 0 0) (by simp)).other (q:=⟨p5,0,none⟩) (.bool false) hne')).alloc (.cells #[.int .i64 q] 191)
 have hB:=(((h5.other (q:=⟨p4,0,none⟩) (.slice none 0 0) hne).set (j:=0) (.bool false) (by simp))).alloc (.cells #[.int .i64 q] 191)
 have hK:Kept (fun b=>¬b=p4∧¬b=p5) w (((w.setCell ⟨p4,0,none⟩ (.slice none 0 0)).setCell ⟨p5,0,none⟩ (.bool false)).alloc (.cells #[.int .i64 q] 191)):=
  (((Kept.setCell w ⟨p4,0,none⟩ (.slice none 0 0)).mono fun b _ hb=>hb.1).trans ((Kept.setCell _ ⟨p5,0,none⟩ (.bool false)).mono fun b _ hb=>hb.2)).trans (Kept.alloc _ _ _)
 simp only[List.set_cons_zero] at hA hB
 simp[bodyPostS,results,Tryz.results86]
 exact⟨hA,hB,hK⟩
set_option maxHeartbeats 4000000 in
set_option maxRecDepth 100000 in
theorem fit1_idle (n p4 p5:Nat) (w:World) :
 CallsDIn Fence.wide n Tryz.prog 86 #[.pointer (some ⟨p4,0,none⟩),.pointer (some ⟨p5,0,none⟩)] .returning w fun e u' w'=>e= .returned (.tuple #[])∧u'= .returning∧w'=w:=by
 refine callsDIn_of_wpSIn Tryz.func86 rfl (by trivial) fun c₀ cs hu=>?_
 apply wpSIn_seq
 apply wpSIn_region
 simp[wpOpsSIn,go_sem,recoverD,hu,Tryz.ntmps86,Exit.thenS]
 simp only[Array.replicate_succ,Array.replicate_zero,List.push_toArray,List.setIfInBounds_toArray,List.set_cons_succ,List.set_cons_zero,List.append_toArray,List.nil_append,List.cons_append]
 refine wpSIn_of_wpIn rfl ?_
 gi_wp2_with fail
 cases c₀
 simp_all [bodyPostS,results,Tryz.results86]
theorem fit2_any (n:Int) (p7 p8:Nat) (r:Rc) (t:Sp) (w:World) (h7:At w p7 [.int .i64 r.cap.lo,.int .i64 r.cap.hi,.int .i64 r.leak.lo,.int .i64 r.leak.hi,.int .i64 r.gain.lo,.int .i64 r.gain.hi]) (h8:At w p8 [.int .i64 t.lo,.int .i64 t.hi]) (hn:0≤n∧n≤13000000) (hr:r.fine) :
 Calls Tryz.prog 91 #[.int .i64 n,.pointer (some ⟨p7,0,none⟩),.pointer (some ⟨p8,0,none⟩)] w fun e w'=>e= .returned (.bool (decide (t.lo≤mostF r n)))∧Below w.heap.size w w':=by
 obtain⟨⟨f1,f2,f3⟩,⟨f4,f5,f6⟩,⟨f7,f8,f9⟩⟩:=hr
 have mb1:0≤n∧n≤1000000000:=by omega
 have mb2:0≤r.cap.hi∧r.cap.hi≤1000000000:=by omega
 have mb3:0≤r.leak.lo∧r.leak.lo≤1000000000:=by omega
 have mb4:0≤r.gain.hi∧r.gain.hi≤1000000000:=by omega
 clear f1 f2 f3 f4 f5 f6 f7 f8 f9 hn
 go_enter Tryz.func91,Tryz.ntmps91
 go_wp2_with fail
 refine wp_region_held_drew (S:=(fun W=>Below w.heap.size w W)) (by kernel_rfl) (by(try dsimp only);exact(Below.refl _ _).drew) (fun hHeld=>?_)
 generalize World.drew w=Wd1 at hHeld ⊢
 have hbc:=Below.refl Wd1.heap.size Wd1
 refine tkH 0 ?_ rfl (Or.inl ⟨by rfl,?_⟩) hHeld ?_
 rotate_left
 ·(intro w hSw;(try dsimp only at hSw);obtain⟨q0,q1⟩:=(h8.below hSw).c2;obtain⟨z0,z1,z2,z3,z4,z5⟩:=(h7.below hSw).c6;go_simp;try(with_reducible rfl))
 try simp only[Act.put,tl1,tl2,tl3]
 iterate 2
  refine tkHl [1,3] ?_ rfl rfl (Or.inl ⟨by rfl,?_⟩) hHeld ?_
  rotate_left
  ·(intro w _;go_simp;try(with_reducible rfl))
  try simp only[Act.put,tl1,tl2,tl3]
 refine tkH 4 ?_ rfl (Or.inl ⟨by rfl,?_⟩) hHeld ?_
 rotate_left
 ·(intro w hSw;(try dsimp only at hSw);obtain⟨q0,q1⟩:=(h8.below hSw).c2;obtain⟨z0,z1,z2,z3,z4,z5⟩:=(h7.below hSw).c6;go_simp;try(with_reducible rfl))
 try simp only[Act.put,tl1,tl2,tl3]
 refine wpAnyH_ready (rs:=[2]) (by kernel_rfl) (by simp) ?_
 refine AllReadyH.cons (o:=⟨_,_,_,_,_,_⟩) rfl (fun K hK=>?_) AllReadyH.nil
 go_simp
 refine(most_any _ _ _ _ _ _ _ _ mb1 mb2 mb3 mb4).mono ?_
 rintro e V7 ⟨rfl,hb⟩
 go_wp2_with fail
 have hHeldN:=hHeld.trans (hb.mono hHeld.size)
 have hbc:=hbc.trans (hb.mono hbc.size)
 refine hK.out _ _ ?_ (fun hHeld2=>?_)
 ·exact hHeldN
 clear hK K hHeld hHeldN hb;have hHeld:=hHeld2;clear hHeld2
 try simp only[Act.put,tl1,tl2,tl3]
 iterate 2
  refine tkHl [5,6] ?_ rfl rfl (Or.inl ⟨by rfl,?_⟩) hHeld ?_
  rotate_left
  ·(intro w _;go_simp;try(with_reducible rfl))
  try simp only[Act.put,tl1,tl2,tl3]
 refine wpAnyH_done (by kernel_rfl) ?_ _
 go_wp2_with fail
 go_ret
 exact⟨rfl,hHeld⟩
theorem fit3_any (n:Int) (p7 p8:Nat) (r:Rc) (t:Sp) (w:World) (h7:At w p7 [.int .i64 r.cap.lo,.int .i64 r.cap.hi,.int .i64 r.leak.lo,.int .i64 r.leak.hi,.int .i64 r.gain.lo,.int .i64 r.gain.hi]) (h8:At w p8 [.int .i64 t.lo,.int .i64 t.hi]) (hn:0≤n∧n≤13000000) (hr:r.fine) :
 Calls Tryz.prog 92 #[.int .i64 n,.pointer (some ⟨p7,0,none⟩),.pointer (some ⟨p8,0,none⟩)] w fun e w'=>e= .returned (.bool (decide (t.hi < leastF r n)))∧Below w.heap.size w w':=by
 obtain⟨⟨f1,f2,f3⟩,⟨f4,f5,f6⟩,⟨f7,f8,f9⟩⟩:=hr
 have mb1:0≤n∧n≤1000000000:=by omega
 have mb2:0≤r.cap.lo∧r.cap.lo≤1000000000:=by omega
 have mb3:0≤r.leak.hi∧r.leak.hi≤1000000000:=by omega
 have mb4:0≤r.gain.lo∧r.gain.lo≤1000000000:=by omega
 clear f1 f2 f3 f4 f5 f6 f7 f8 f9 hn
 go_enter Tryz.func92,Tryz.ntmps92
 go_wp2_with fail
 refine wp_region_held_drew (S:=(fun W=>Below w.heap.size w W)) (by kernel_rfl) (by(try dsimp only);exact(Below.refl _ _).drew) (fun hHeld=>?_)
 generalize World.drew w=Wd1 at hHeld ⊢
 have hbc:=Below.refl Wd1.heap.size Wd1
 refine tkH 0 ?_ rfl (Or.inl ⟨by rfl,?_⟩) hHeld ?_
 rotate_left
 ·(intro w hSw;(try dsimp only at hSw);obtain⟨q0,q1⟩:=(h8.below hSw).c2;obtain⟨z0,z1,z2,z3,z4,z5⟩:=(h7.below hSw).c6;go_simp;try(with_reducible rfl))
 try simp only[Act.put,tl1,tl2,tl3]
 iterate 2
  refine tkHl [1,3] ?_ rfl rfl (Or.inl ⟨by rfl,?_⟩) hHeld ?_
  rotate_left
  ·(intro w _;go_simp;try(with_reducible rfl))
  try simp only[Act.put,tl1,tl2,tl3]
 refine tkH 4 ?_ rfl (Or.inl ⟨by rfl,?_⟩) hHeld ?_
 rotate_left
 ·(intro w hSw;(try dsimp only at hSw);obtain⟨q0,q1⟩:=(h8.below hSw).c2;obtain⟨z0,z1,z2,z3,z4,z5⟩:=(h7.below hSw).c6;go_simp;try(with_reducible rfl))
 try simp only[Act.put,tl1,tl2,tl3]
 refine wpAnyH_ready (rs:=[2]) (by kernel_rfl) (by simp) ?_
 refine AllReadyH.cons (o:=⟨_,_,_,_,_,_⟩) rfl (fun K hK=>?_) AllReadyH.nil
 go_simp
 refine(least_any _ _ _ _ _ _ _ _ mb1 mb2 mb3 mb4).mono ?_
 rintro e V7 ⟨rfl,hb⟩
 go_wp2_with fail
 have hHeldN:=hHeld.trans (hb.mono hHeld.size)
 have hbc:=hbc.trans (hb.mono hbc.size)
 refine hK.out _ _ ?_ (fun hHeld2=>?_)
 ·exact hHeldN
 clear hK K hHeld hHeldN hb;have hHeld:=hHeld2;clear hHeld2
 try simp only[Act.put,tl1,tl2,tl3]
 iterate 2
  refine tkHl [5,6] ?_ rfl rfl (Or.inl ⟨by rfl,?_⟩) hHeld ?_
  rotate_left
  ·(intro w _;go_simp;try(with_reducible rfl))
  try simp only[Act.put,tl1,tl2,tl3]
 refine wpAnyH_done (by kernel_rfl) ?_ _
 go_wp2_with fail
 go_ret
 exact⟨rfl,hHeld⟩
theorem enters_fit2:∀args w,(callFunc 91 args).run Tryz.prog w= .ok (.enter 91 args) w:=enters_of Tryz.func91 (by kernel_rfl) rfl
theorem enters_fit3:∀args w,(callFunc 92 args).run Tryz.prog w= .ok (.enter 92 args) w:=enters_of Tryz.func92 (by kernel_rfl) rfl
theorem enters_down1:∀args w,(callFunc 156 args).run Tryz.prog w= .ok (.enter 156 args) w:=enters_of Tryz.func156 (by kernel_rfl) rfl
theorem down_fn (Aa Ar:Option Addr) (n m ca cr:Nat) (lo hi:Int) (w:World) :
 Calls Tryz.prog 88 #[.agg #[.slice Aa n ca,.slice Ar m cr],.agg #[.int .i64 lo,.int .i64 hi]] w fun e w'=>e= .returned (.func (.func 156) #[] #[.pointer (some ⟨w.heap.size+1,0,none⟩),.pointer (some ⟨w.heap.size,0,none⟩)])∧w'=(w.alloc (.cells #[.slice Aa n ca,.slice Ar m cr] 109)).alloc (.cells #[.int .i64 lo,.int .i64 hi] 24):=by
 go_enter Tryz.func88,Tryz.ntmps88
 go_wp2
 go_ret
 exact⟨rfl,rfl⟩
theorem back_fn (Aa:Option Addr) (n ca:Nat) (w:World) :
 Calls Tryz.prog 89 #[.slice Aa n ca] w fun e w'=>e= .returned (.func (.func 157) #[] #[.pointer (some ⟨w.heap.size,0,none⟩)])∧w'=w.alloc (.cells #[.slice Aa n ca] 107):=by
 go_enter Tryz.func89,Tryz.ntmps89
 go_wp2
 go_ret
 exact⟨rfl,rfl⟩
end Go.Proofs.YtiioegopckoldaaGreatDoor
namespace Go.Proofs.YtiioegopckoldaaGreatDoor
open Go.RowKit Go.Shelf
attribute [local go_sem] Oper.semAt_some
def rcAgg (r:Rc):Value:= .agg #[.int .i64 r.cap.lo,.int .i64 r.cap.hi,.int .i64 r.leak.lo,.int .i64 r.leak.hi,.int .i64 r.gain.lo,.int .i64 r.gain.hi]
set_option maxHeartbeats 4000000 in
set_option maxRecDepth 100000 in
theorem back1_seq (n0:Nat) (hn0:3≤n0) (bs:Nat) (Aa:Option Addr) (n ca:Nat) (g:List Rc) (B:Nat) (wa:World) (hB:B≤wa.heap.size) (hbs:At wa bs [.slice Aa n ca]) (hg:Rd wa B Rc.cells Aa g) (hn:n=g.length) (hn2:n≤20) :
 SeqK n0 Tryz.prog 157 #[.pointer (some ⟨bs,0,none⟩)] (fun k=>#[.int .i64 ((n-1-k:Nat):Int),rcAgg (g.getD (n-1-k) Rc.zero)]) n False (fun _ _=>False) (fun _=>False) (fun b=>b < B∨b=bs) wa:=by
 intro l J Jx Wi hW hJ hJx hY h0 hinf
 have HY:=hide hY;have H0:=hide h0
 have hbs:=hbs.kept hW (.inr rfl)
 have Hg:=hide (hg.keptR hW (fun _ h=> .inl h) hB)
 have hBW:B≤Wi.heap.size:=Nat.le_trans hB hW.size
 have Hn:=hide hn
 have q0:=hbs.c1
 clear hY h0 hJ hJx hinf hg hn hW
 have e1:IntKind.i64.wrap ((n:Int)-1)=(n:Int)-1:=wrapI (by omega)
 refine callsIn_of_wp Tryz.func157 rfl trivial ?_ rfl
 simp only[Tryz.ntmps157,List.size_toArray,List.length_cons,List.length_nil,Nat.reduceAdd,Nat.reduceSub,Array.replicate_succ,Array.replicate_zero,List.push_toArray,List.append_toArray,List.nil_append,List.cons_append]
 gi_wp2_with fail
 gi_loopw [3] (fun p wr=>∃(k m:Nat),p= .int .i64 ((m:Int)-1)∧k+m=n∧J k wr∧Kept (fun b=>b < B∨b=bs) Wi wr) (fun p _=>(intOf p+1).toNat)
 case atStart=>exact⟨0,n,rfl,by omega,H0.out,Kept.refl _ _⟩
 case round=>
  obtain⟨k,m,rfl,hm,hj,hk⟩:=hrel
  have Hm:=hide hm
  cases m with
  | zero =>
    clear hm
    gi_wp2_with fail
    go_end0
    exact .inl ⟨_,rfl,.inl (by rw[←Hm.out];exact hj)⟩
  | succ m =>
    obtain⟨b,off,r0,r1,r2,r3,r4,r5,rfl,hb,hx,c0,c1,c2,c3,c4,c5⟩:=(Hg.out.keptR hk (fun _ h=> .inl h) hBW).rc (i:=m) (by have:=Hn.out;omega)
    have q1:=(hbs.kept hk (.inr rfl)).c1
    have em:n-1-k=m:=by omega
    obtain⟨fn,tmps,assign,body,hy,hR⟩:=HY.out k wr hj (by omega)
    rw[em,show g.getD m Rc.zero=⟨⟨r0,r1⟩,⟨r2,r3⟩,⟨r4,r5⟩⟩ by rw[List.getD_eq_getElem?_getD,hx];rfl] at hy
    have HR:=hide hR
    have hmn:m < n:=by omega
    have e2:((m+1:Nat):Int)-1=(m:Int):=by omega
    rw[e2]
    have e3:IntKind.i64.wrap ((m:Int)-1)=(m:Int)-1:=wrapI (by omega)
    unfold rcAgg at hy
    clear hR hx hm em e2
    gi_wp2_with fail
    refine⟨fun h=>by simp[Fence.wide] at h,HR.out.mono ?_⟩
    rintro e W3 (⟨rfl,hJ3,hk3⟩ | ⟨rfl,hJx3⟩)
    ·have Hk:=hide (hk.trans hk3)
     gi_wp2_with fail
     exact⟨⟨k+1,m,rfl,by have:=Hm.out;omega,hJ3,Hk.out⟩,by simp[intOf]⟩
    ·gi_wp2_with fail
     refine bodyPost_ret (results_none rfl _ _ _) rfl ?_
     exact .inl ⟨_,rfl,.inr ⟨k+1,by have:=Hm.out;omega,hJx3⟩⟩
theorem enters_back1:∀args w,(callFunc 157 args).run Tryz.prog w= .ok (.enter 157 args) w:=enters_of Tryz.func157 (by kernel_rfl) rfl
end Go.Proofs.YtiioegopckoldaaGreatDoor
namespace Go.Proofs.YtiioegopckoldaaGreatDoor
open Go.RowKit Go.Shelf
attribute [local go_sem] Oper.semAt_some
def FitPost (g:List Rc) (rd:List Sp) (s:Sp) (w:World) (e:Ending) (w':World):Prop:=
 ∃v,e= .returned (.tuple #[v,.bool (flowsF g rd s).isSome])∧Own w' w.heap.size 24 2 Sp.cells v ((flowsF g rd s).getD [])∧Below w.heap.size w w'
theorem leavesM_cons {F:Fence} {n:Nat} {P:Program} {fn:Func} {tmps:Array Value} {R:Ending→World→Prop} {fv:Fn} {cap dargs:Array Value} {ds:List Deferred} {u:FrameMode}
 {w:World} {f:FuncId} {args:Array Value} (hu:u≠.run) (hn:F.depth.isSome=true→1≤n) (hi:(invoke (.fn fv cap) dargs).run P w= .ok (.enter f args) w)
 (hl:∀g,(Target.fn fv cap).leads P w dargs=some g→F.fn g)
 (h:CallsDIn F (n-1) P f args u w fun
  | .returned _,u',w'=>LeavesInM F n P fn tmps R ds (settle u') w'
  | .panicked chain,u',w'=>LeavesInM F n P fn tmps R ds (raised u' chain) w'
  | .outgrown,_,w'=>R .outgrown w') :
 LeavesInM F n P fn tmps R ({target:= .fn fv cap,args:=dargs } :: ds) u w:=
 ⟨hu,.inr ⟨hn,fv,cap,f,args,rfl,hi,hl,h⟩⟩
theorem first_bad {P:Nat→Prop} [DecidablePred P]:∀n,(∀k,k≤n→P k)∨∃j,j≤n∧¬P j∧∀k,k < j→P k
 | 0 => by
   by_cases h:P 0
   · exact .inl fun k hk => by obtain rfl : k = 0 := by omega
                               exact h
   ·exact .inr ⟨0,by omega,h,fun k hk=>by omega⟩
 | n + 1 => by
   rcases first_bad n (P:=P) with h | ⟨j,h1,h2,h3⟩
   ·by_cases hp:P (n+1)
    ·exact .inl fun k hk=>by
      by_cases hk2:k=n+1
      ·rw[hk2];exact hp
      ·exact h k (by omega)
    ·exact .inr ⟨n+1,by omega,hp,fun k hk=>h k (by omega)⟩
   ·exact .inr ⟨j,by omega,h2,h3⟩
set_option maxHeartbeats 4000000 in
set_option maxRecDepth 100000 in
theorem fit_torn (Aa Ar:Option Addr) (n ca cr:Nat) (g:List Rc) (rd:List Sp) (s:Sp) (w:World) (hg:Rd w w.heap.size Rc.cells Aa g) (hr:Rd w w.heap.size Sp.cells Ar rd) (hn:n=g.length) (hn2:n≤20) (hrl:rd.length=n+1) (hfine:∀r∈g,r.fine)
 (hrd:∀x∈rd,0≤x.lo∧x.lo≤13000000∧0≤x.hi∧x.hi≤13000000) (hs:s.fine 1000000) (j:Nat) (hj:j≤n) (hj1:¬okS (dnK g rd s j)) (hj2:∀k,k < j→okS (dnK g rd s k)) :
 Calls Tryz.prog 33 #[.agg #[.slice Aa n ca,.slice Ar (n+1) cr],.agg #[.int .i64 s.lo,.int .i64 s.hi]] w (FitPost g rd s w):=by
 have hnone:flowsF g rd s=none:=flowsF_torn j g rd s (by omega) hj1
 have Hnone:=hide hnone
 obtain⟨b2,w1,e2,ew1,hx2,hb1,hz1⟩:=mk_bx w #[.slice Aa n ca,.slice Ar (n+1) cr] 109
 obtain⟨b3,w2,e3,ew2,hx3,hb2,hz2⟩:=mk_bx w1 #[.int .i64 s.lo,.int .i64 s.hi] 24
 obtain⟨b4,w3,e4,ew3,hx4,hb3,hz3⟩:=mk_bx w2 #[.slice none 0 0] 35
 obtain⟨b5,w4,e5,ew4,hx5,hb4,hz4⟩:=mk_bx w3 #[.bool false] 4
 have i3:b3=b2+1:=by have:=e3.out;omega
 subst i3
 have i4:b4=b2+1+1:=by have:=e4.out;omega
 subst i4
 have i5:b5=b2+1+1+1:=by have:=e5.out;omega
 subst i5
 have i2:w.heap.size=b2:=e2.out
 have hB4:=((hb1.trans (hb2.mono hb1.size)).trans (hb3.mono (hb1.trans (hb2.mono hb1.size)).size)).trans (hb4.mono ((hb1.trans (hb2.mono hb1.size)).trans (hb3.mono (hb1.trans (hb2.mono hb1.size)).size)).size)
 obtain⟨bc,w5,ec,ew5,hxc,hb5,hz5⟩:=mk_bx w4 #[.slice Aa n ca,.slice Ar (n+1) cr] 109
 obtain⟨bi,w6,ei,ew6,hxi,hb6,hz6⟩:=mk_bx w5 #[.int .i64 s.lo,.int .i64 s.hi] 24
 have j1:bi=bc+1:=by have:=ei.out;omega
 subst j1
 have j2:w4.heap.size=bc:=ec.out
 have hb46:=hb5.trans (hb6.mono hb5.size)
 have hB6:=hB4.trans (hb46.mono hB4.size)
 have hs6:w.heap.size≤w6.heap.size:=hB6.size
 have HC:=hide (collect_sp 156 #[.pointer (some ⟨bc+1,0,none⟩),.pointer (some ⟨bc,0,none⟩)] (dnK g rd s) j False (TornAt n j) (fun b=>b < w.heap.size∨b=bc+1∨b=bc) w6 enters_down1
  (fun n0 hn0=>down1_seq n0 hn0 (bc+1) bc Aa Ar n ca cr g rd s w.heap.size w6 j False hs6 hxi.at_ (hxc.bel hb6).at_ (hg.below hB6) (hr.below hB6) hn hn2 hrl hfine hrd hs hj2 (.inr ⟨hj,hj1⟩)) (fun b hb=>by omega) (by omega))
 have hmf:∀(fn:Fn) (first cap:Array Value) (w:World),(Instr.makeFunc fn first cap).run Tryz.prog w= .ok (.func fn first cap) w:=fun _ _ _ _=>rfl
 have hx24:=((hx2.bel hb2).bel hb3).bel hb4
 have hx34:=(hx3.bel hb3).bel hb4
 have hx44:=hx4.bel hb4
 obtain⟨q0,q1,_,_⟩:=hx24.w2
 obtain⟨q2,q3,_,_⟩:=hx34.w2
 have Hn:=hide hn
 clear hnone hg hr hfine hrd hs hj1 hj2 hrl hx2 hx3 hx4 hz1 hz2 hz3 hz4 hz5 hz6 hn
 refine(callsIn_wide (n:=12)).1 ?_
 refine callsIn_of_wp_marks Tryz.func33 rfl trivial ?_ rfl
 simp only[Tryz.ntmps33,List.size_toArray,List.length_cons,List.length_nil,Nat.reduceAdd,Nat.reduceSub,Array.replicate_succ,Array.replicate_zero,List.push_toArray,List.append_toArray,List.nil_append,List.cons_append]
 gi_wp2_with fail
 rw[ew1.out,ew2.out,ew3.out,ew4.out]
 refine wcall ((down_fn Aa Ar n (n+1) ca cr s.lo s.hi w4).mono ?_)
 rintro e w' ⟨rfl,hw⟩
 rw[ew5.out,ew6.out] at hw
 subst hw
 rw[j2]
 gi_wp2_with fail
 refine wcall (HC.out.mono ?_)
 rintro e w7 (⟨hF,_⟩ | ⟨chain,k,rfl,⟨_,rfl,q,rfl⟩,hb7⟩)
 ·exact hF.elim
 have h44:=(hx44.bel hb46).bel hb7
 have h54:=(hx5.bel hb46).bel hb7
 have hB7:=hB6.trans (hb7.mono hB6.size)
 have hfit1:(invoke (.fn (.func 86) #[.pointer (some ⟨b2+1+1,0,none⟩),.pointer (some ⟨b2+1+1+1,0,none⟩)]) #[]).run Tryz.prog w7= .ok (.enter 86 #[.pointer (some ⟨b2+1+1,0,none⟩),.pointer (some ⟨b2+1+1+1,0,none⟩)]) w7:=by simp[go_sem]
 refine leavesM_cons (f:=86) (args:=#[.pointer (some ⟨b2+1+1,0,none⟩),.pointer (some ⟨b2+1+1+1,0,none⟩)]) (by simp) (fun h=>by simp[Fence.wide] at h) hfit1 (fun _ _=>trivial) ?_
 refine(fit1_torn _ _ _ q _ _ w7 h44 h54 (by omega)).mono ?_
 rintro e u' w8 ⟨rfl,rfl,h48,h58,hk8⟩
 obtain⟨c4,_⟩:=h48.w1
 obtain⟨c5,_⟩:=h58.w1
 refine⟨.tuple #[.slice none 0 0,.bool false],by simp[results,Tryz.results33,go_sem,c4,c5];try rfl,?_⟩
 refine⟨.slice none 0 0,by rw[Hnone.out];rfl,by rw[Hnone.out];exact Own.nil _ _ _ _ _,?_⟩
 exact hB7.trans (hk8.below (fun b hb=>by omega) hB7.size)
end Go.Proofs.YtiioegopckoldaaGreatDoor
