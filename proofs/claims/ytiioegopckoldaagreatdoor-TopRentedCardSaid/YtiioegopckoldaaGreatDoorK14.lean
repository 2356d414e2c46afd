/- lemmas for topRented_holds: OS3. No conditions. -/
import Derived.Test.YtiioegopckoldaaGreatDoorK13
set_option linter.unusedVariables false
set_option linter.unusedSimpArgs false
namespace Go.Proofs.YtiioegopckoldaaGreatDoor
open Go.RowKit Go.Shelf
theorem sym_add {s R c0 n:Nat} (h1:s≤c0) (h2:c0 < R) (h3:c0 < n) (hn:n≤60) (hR:R≤60):IntKind.i64.wrap ((s:Int)+(R:Int))=(s:Int)+(R:Int):=wrapI (by omega)
theorem sym_half {s R c0:Nat} (h:c0=(s+R) / 2):((s:Int)+(R:Int)) / 2=(c0:Int):=by omega
theorem sym_sub {P c0 pc:Nat} (h:pc=P-c0) (h1:c0≤P) (h2:P≤200):IntKind.i64.wrap ((P:Int)-(c0:Int))=(pc:Int):=by rw[wrapI (by omega)];omega
theorem sym_one {c0 n:Nat} (h:c0 < n) (hn:n≤60):IntKind.i64.wrap ((c0:Int)+1)=(c0:Int)+1:=wrapI (by omega)
theorem sym_dec {s c0 R:Nat} (h1:s≤c0) (h2:c0 < R):R-(c0+1) < R-s:=by omega
theorem sym_idx1 {a b m mid N P n:Nat} (ham:a < m) (hmb:m < b) (hbn:b≤n) (hn:n≤60) (hmid:mid=(a+b) / 2) (hmm:m≤mid) (hN:N=mid+m) (hP:P=N-1) :
 ∀s c0 pc:Nat,a≤s→s < m→c0=(s+m) / 2→pc=P-c0→s≤c0∧c0 < m∧c0≤pc∧pc < n∧c0 < n∧c0≤P∧P≤200:=fun s c0 pc h1 h2 h3 h4=>by
 have e1:s≤c0∧c0 < m:=by omega
 have e2:2*mid≤a+b:=by omega
 clear h3 hmid
 omega
theorem sym_idx2 {a b m mid N P S0 n:Nat} (ham:a < m) (hmb:m < b) (hbn:b≤n) (hn:n≤60) (hmid:mid < m) (hS:S0=N-b) (hN:N=mid+m) (hP:P=N-1) :
 ∀s c0 pc:Nat,S0≤s→s < mid→c0=(s+mid) / 2→pc=P-c0→s≤c0∧c0 < mid∧c0≤pc∧pc < n∧c0 < n∧c0≤P∧P≤200:=fun s c0 pc h1 h2 h3 h4=>by
 have e1:s≤c0∧c0 < mid:=by omega
 clear h3
 omega
def SymIH (g n c q bb:Nat) (ds:List Dv) (f:Nat):Prop:=∀(a m b:Nat),b-a≤f→a < m→m < b→b≤n→∀w:World,Ox g n q bb ds w→
 Calls Tryz.prog 240 #[.slice (some ⟨g,0,none⟩) n c,.int .i64 a,.int .i64 m,.int .i64 b,.func (.func 178) #[] #[.pointer (some ⟨q,0,none⟩)]] w fun e w'=>(∃v,e= .returned v)∧Below w.heap.size w w'
set_option maxHeartbeats 40000000 in
set_option maxRecDepth 100000 in
theorem desymA (g n c q bb:Nat) (ds:List Dv) (hl:OrdL ds) (hn:n≤60) (f a m b:Nat) (IH0:SymIH g n c q bb ds f) (hf:b-a≤f+1) (h1:a < m) (h2:m < b) (hb:b≤n) (w:World) (ho:Ox g n q bb ds w) (e1:m=a+1) :
 Calls Tryz.prog 240 #[.slice (some ⟨g,0,none⟩) n c,.int .i64 a,.int .i64 m,.int .i64 b,.func (.func 178) #[] #[.pointer (some ⟨q,0,none⟩)]] w fun e w'=>(∃v,e= .returned v)∧Below w.heap.size w w':=by
 have IH:=hide IH0
 clear IH0
 have HO:=hide ho;have Hl:=hide hl
 have Hf:=hide hf
 have Hbn:=hide hb
 have kma:IntKind.i64.wrap ((m:Int)-(a:Int))=(m:Int)-(a:Int):=wrapI (by omega)
 have km1:IntKind.i64.wrap ((m:Int)-1)=(m:Int)-1:=wrapI (by omega)
 have i0:(a:Int) < (n:Int):=by omega
 have i1:(m:Int) < (n:Int):=by omega
 have t1:((m:Int)-(a:Int) == 1)=true:=by simp;omega
 have d3:decide ((a:Int) < (m:Int)-1)=false:=decide_eq_false (by omega)
 have d3':¬((a:Int) < (m:Int)-1):=by omega
 have Hbn':=hb
 clear ho hl hf hb e1
 go_enter Tryz.func240,Tryz.ntmps240
 go_wp2_with fail
 go_loopw [10,11] (fun iv jv wr=>∃j:Nat,m≤j∧j≤b∧iv= .int .i64 m∧jv= .int .i64 j∧Below w.heap.size w wr) (fun _ jv _=>(intOf jv).toNat-m)
 case atStart=>exact⟨b,by omega,by omega,rfl,rfl,Below.refl _ _⟩
 case round=>
  obtain⟨j,hj1,hj2,rfl,rfl,hb⟩:=hrel
  by_cases hmj:m < j
  ·have ik:(m:Int) < (j:Int):=by omega
   obtain⟨h,hh⟩:∃h,h=(m+j) / 2:=⟨_,rfl⟩
   have kh:IntKind.i64.wrap ((m:Int)+(j:Int))=(m:Int)+(j:Int):=wrapI (by omega)
   have kq:((m:Int)+(j:Int)) / 2=(h:Int):=by omega
   have i2:(h:Int) < (n:Int):=by omega
   have Hb:=hide hb
   have OW:=hide (HO.out.bel hb)
   obtain⟨x,hx,xg,x0,x1,x2,x3,x4,x5,x6,x7,x8⟩:=(OW.out).at_ (i:=h) (by omega)
   have X:=hide (And.intro xg (And.intro x0 (And.intro x1 (And.intro x2 (And.intro x3 (And.intro x4 (And.intro x5 (And.intro x6 (And.intro x7 x8)))))))))
   clear xg x0 x1 x2 x3 x4 x5 x6 x7 x8
   obtain⟨y,hy,yg,y0,y1,y2,y3,y4,y5,y6,y7,y8⟩:=(OW.out).at_ (i:=a) (by omega)
   have Y:=hide (And.intro yg (And.intro y0 (And.intro y1 (And.intro y2 (And.intro y3 (And.intro y4 (And.intro y5 (And.intro y6 (And.intro y7 y8)))))))))
   clear yg y0 y1 y2 y3 y4 y5 y6 y7 y8
   have d2:decide (cmpD x y < 0)=false:=decide_eq_false (by have:=Hl.out a h y x (by omega) hy hx;omega)
   have Hh:=hide (show m≤h∧h < j by omega)
   obtain⟨wo,rfl⟩:∃wo,wo=wr:=⟨wr,rfl⟩
   clear hx hy hb hh
   go_upto_region 5 with fail
   refine wp_region_held_drew (S:=(fun W=>Below wo.heap.size wo W)) (by kernel_rfl) (by(try dsimp only);exact(Below.refl _ _).drew) (fun hHeld=>?_)
   generalize World.drew wo=Wd5 at hHeld ⊢
   have hbc:=Below.refl Wd5.heap.size Wd5
   iterate 7
    refine tkHl [0,1,2,3,5,6,7] ?_ rfl rfl (Or.inl ⟨by rfl,?_⟩) hHeld ?_
    rotate_left
    ·(intro w _;go_simp;try(with_reducible rfl))
    try simp only[Act.put,tl1,tl2,tl3]
   iterate 2
    refine tkHl [4,8] ?_ rfl rfl (Or.inl ⟨by rfl,?_⟩) hHeld ?_
    rotate_left
    ·(intro w hSw;(try dsimp only at hSw);have x0:=(hSw.cell (p:=⟨g,h*9,none⟩) X.out.1).trans X.out.2.1;have x1:=(hSw.cell (p:=⟨g,h*9+1,none⟩) X.out.1).trans X.out.2.2.1;have x2:=(hSw.cell (p:=⟨g,h*9+2,none⟩) X.out.1).trans X.out.2.2.2.1;have x3:=(hSw.cell (p:=⟨g,h*9+3,none⟩) X.out.1).trans X.out.2.2.2.2.1;have x4:=(hSw.cell (p:=⟨g,h*9+4,none⟩) X.out.1).trans X.out.2.2.2.2.2.1;have x5:=(hSw.cell (p:=⟨g,h*9+5,none⟩) X.out.1).trans X.out.2.2.2.2.2.2.1;have x6:=(hSw.cell (p:=⟨g,h*9+6,none⟩) X.out.1).trans X.out.2.2.2.2.2.2.2.1;have x7:=(hSw.cell (p:=⟨g,h*9+7,none⟩) X.out.1).trans X.out.2.2.2.2.2.2.2.2.1;have x8:=(hSw.cell (p:=⟨g,h*9+8,none⟩) X.out.1).trans X.out.2.2.2.2.2.2.2.2.2;have y0:=(hSw.cell (p:=⟨g,a*9,none⟩) Y.out.1).trans Y.out.2.1;have y1:=(hSw.cell (p:=⟨g,a*9+1,none⟩) Y.out.1).trans Y.out.2.2.1;have y2:=(hSw.cell (p:=⟨g,a*9+2,none⟩) Y.out.1).trans Y.out.2.2.2.1;have y3:=(hSw.cell (p:=⟨g,a*9+3,none⟩) Y.out.1).trans Y.out.2.2.2.2.1;have y4:=(hSw.cell (p:=⟨g,a*9+4,none⟩) Y.out.1).trans Y.out.2.2.2.2.2.1;have y5:=(hSw.cell (p:=⟨g,a*9+5,none⟩) Y.out.1).trans Y.out.2.2.2.2.2.2.1;have y6:=(hSw.cell (p:=⟨g,a*9+6,none⟩) Y.out.1).trans Y.out.2.2.2.2.2.2.2.1;have y7:=(hSw.cell (p:=⟨g,a*9+7,none⟩) Y.out.1).trans Y.out.2.2.2.2.2.2.2.2.1;have y8:=(hSw.cell (p:=⟨g,a*9+8,none⟩) Y.out.1).trans Y.out.2.2.2.2.2.2.2.2.2;go_simp;try(with_reducible rfl))
    try simp only[Act.put,tl1,tl2,tl3]
   refine wpAnyH_ready (rs:=[9]) (by kernel_rfl) (by simp) ?_
   refine AllReadyH.cons (o:=⟨_,_,_,_,_,_⟩) rfl (fun K hK=>?_) AllReadyH.nil
   go_simp
   refine(decmp_any x y q bb _ ((OW.out.bel hHeld).q) ((OW.out.bel hHeld).fn)).mono ?_
   rintro e V49 ⟨rfl,hb⟩
   go_wp2_with fail
   have hHeldN:=hHeld.trans (hb.mono hHeld.size)
   have hbc:=hbc.trans (hb.mono hbc.size)
   refine hK.out _ _ ?_ (fun hHeld2=>?_)
   ·exact hHeldN
   clear hK K hHeld hHeldN hb;have hHeld:=hHeld2;clear hHeld2
   try simp only[Act.put,tl1,tl2,tl3]
   refine tkH 10 ?_ rfl (Or.inl ⟨by rfl,?_⟩) hHeld ?_
   rotate_left
   ·(intro w _;go_simp;try(with_reducible rfl))
   try simp only[Act.put,tl1,tl2,tl3]
   refine wpAnyH_done (by kernel_rfl) ?_ _
   have HBB:=hide (Hb.out.trans (hHeld.mono Hb.out.size))
   clear hHeld hbc
   go_wp2_with fail
   have hh:=Hh.out
   exact⟨⟨h,by omega,by omega,rfl,rfl,HBB.out⟩,by simp[intOf];omega⟩
  ·obtain rfl:m=j:=by omega
   obtain⟨wo,rfl⟩:∃wo,wo=wr:=⟨wr,rfl⟩
   have Hb:=hide hb
   clear hb
   go_wp2_with fail
   go_loopw [13] (fun kv wr=>kv= .int .i64 a∧wo=wr) (fun _ _=>0)
   case atStart=>exact⟨rfl,rfl⟩
   case round=>
    obtain⟨rfl,rfl⟩:=hrel
    go_wp2_with fail
    go_returns
    exact⟨⟨_,rfl⟩,Hb.out⟩
set_option maxHeartbeats 40000000 in
set_option maxRecDepth 100000 in
theorem desymB (g n c q bb:Nat) (ds:List Dv) (hl:OrdL ds) (hn:n≤60) (f a m b:Nat) (IH0:SymIH g n c q bb ds f) (hf:b-a≤f+1) (h1:a < m) (h2:m < b) (hb:b≤n) (w:World) (ho:Ox g n q bb ds w) (e1:¬m=a+1) (e2:b=m+1) :
 Calls Tryz.prog 240 #[.slice (some ⟨g,0,none⟩) n c,.int .i64 a,.int .i64 m,.int .i64 b,.func (.func 178) #[] #[.pointer (some ⟨q,0,none⟩)]] w fun e w'=>(∃v,e= .returned v)∧Below w.heap.size w w':=by
 have IH:=hide IH0
 clear IH0
 have HO:=hide ho;have Hl:=hide hl
 have Hf:=hide hf
 have Hbn:=hide hb
 have kma:IntKind.i64.wrap ((m:Int)-(a:Int))=(m:Int)-(a:Int):=wrapI (by omega)
 have km1:IntKind.i64.wrap ((m:Int)-1)=(m:Int)-1:=wrapI (by omega)
 have i0:(a:Int) < (n:Int):=by omega
 have i1:(m:Int) < (n:Int):=by omega
 have t1:((m:Int)-(a:Int) == 1)=false:=by simp;omega
 have kbm:IntKind.i64.wrap ((b:Int)-(m:Int))=(b:Int)-(m:Int):=wrapI (by omega)
 have t2:((b:Int)-(m:Int) == 1)=true:=by simp;omega
 clear ho hl hf
 go_enter Tryz.func240,Tryz.ntmps240
 clear e1 e2
 go_wp2_with fail
 go_loopw [14,15] (fun iv jv wr=>∃i:Nat,a≤i∧i≤m∧iv= .int .i64 i∧jv= .int .i64 m∧Below w.heap.size w wr) (fun iv _ _=>m-(intOf iv).toNat)
 case atStart=>exact⟨a,by omega,by omega,rfl,rfl,Below.refl _ _⟩
 case round=>
  obtain⟨j,hj1,hj2,rfl,rfl,hb⟩:=hrel
  by_cases hmj:j < m
  ·have ik:(j:Int) < (m:Int):=by omega
   obtain⟨h,hh⟩:∃h,h=(j+m) / 2:=⟨_,rfl⟩
   have kh:IntKind.i64.wrap ((j:Int)+(m:Int))=(j:Int)+(m:Int):=wrapI (by omega)
   have kq:((j:Int)+(m:Int)) / 2=(h:Int):=by omega
   have kh1:IntKind.i64.wrap ((h:Int)+1)=(h:Int)+1:=wrapI (by omega)
   have i2:(h:Int) < (n:Int):=by omega
   have Hb:=hide hb
   have OW:=hide (HO.out.bel hb)
   obtain⟨x,hx,xg,x0,x1,x2,x3,x4,x5,x6,x7,x8⟩:=(OW.out).at_ (i:=m) (by omega)
   have X:=hide (And.intro xg (And.intro x0 (And.intro x1 (And.intro x2 (And.intro x3 (And.intro x4 (And.intro x5 (And.intro x6 (And.intro x7 x8)))))))))
   clear xg x0 x1 x2 x3 x4 x5 x6 x7 x8
   obtain⟨y,hy,yg,y0,y1,y2,y3,y4,y5,y6,y7,y8⟩:=(OW.out).at_ (i:=h) (by omega)
   have Y:=hide (And.intro yg (And.intro y0 (And.intro y1 (And.intro y2 (And.intro y3 (And.intro y4 (And.intro y5 (And.intro y6 (And.intro y7 y8)))))))))
   clear yg y0 y1 y2 y3 y4 y5 y6 y7 y8
   have d2:decide (cmpD x y < 0)=false:=decide_eq_false (by have:=Hl.out h m y x (by omega) hy hx;omega)
   have Hh:=hide (show j≤h∧h < m by omega)
   obtain⟨wo,rfl⟩:∃wo,wo=wr:=⟨wr,rfl⟩
   clear hx hy hb hh
   go_upto_region 17 with fail
   refine wp_region_held_drew (S:=(fun W=>Below wo.heap.size wo W)) (by kernel_rfl) (by(try dsimp only);exact(Below.refl _ _).drew) (fun hHeld=>?_)
   generalize World.drew wo=Wd17 at hHeld ⊢
   have hbc:=Below.refl Wd17.heap.size Wd17
   iterate 7
    refine tkHl [0,1,2,3,5,6,7] ?_ rfl rfl (Or.inl ⟨by rfl,?_⟩) hHeld ?_
    rotate_left
    ·(intro w _;go_simp;try(with_reducible rfl))
    try simp only[Act.put,tl1,tl2,tl3]
   iterate 2
    refine tkHl [4,8] ?_ rfl rfl (Or.inl ⟨by rfl,?_⟩) hHeld ?_
    rotate_left
    ·(intro w hSw;(try dsimp only at hSw);have x0:=(hSw.cell (p:=⟨g,m*9,none⟩) X.out.1).trans X.out.2.1;have x1:=(hSw.cell (p:=⟨g,m*9+1,none⟩) X.out.1).trans X.out.2.2.1;have x2:=(hSw.cell (p:=⟨g,m*9+2,none⟩) X.out.1).trans X.out.2.2.2.1;have x3:=(hSw.cell (p:=⟨g,m*9+3,none⟩) X.out.1).trans X.out.2.2.2.2.1;have x4:=(hSw.cell (p:=⟨g,m*9+4,none⟩) X.out.1).trans X.out.2.2.2.2.2.1;have x5:=(hSw.cell (p:=⟨g,m*9+5,none⟩) X.out.1).trans X.out.2.2.2.2.2.2.1;have x6:=(hSw.cell (p:=⟨g,m*9+6,none⟩) X.out.1).trans X.out.2.2.2.2.2.2.2.1;have x7:=(hSw.cell (p:=⟨g,m*9+7,none⟩) X.out.1).trans X.out.2.2.2.2.2.2.2.2.1;have x8:=(hSw.cell (p:=⟨g,m*9+8,none⟩) X.out.1).trans X.out.2.2.2.2.2.2.2.2.2;have y0:=(hSw.cell (p:=⟨g,h*9,none⟩) Y.out.1).trans Y.out.2.1;have y1:=(hSw.cell (p:=⟨g,h*9+1,none⟩) Y.out.1).trans Y.out.2.2.1;have y2:=(hSw.cell (p:=⟨g,h*9+2,none⟩) Y.out.1).trans Y.out.2.2.2.1;have y3:=(hSw.cell (p:=⟨g,h*9+3,none⟩) Y.out.1).trans Y.out.2.2.2.2.1;have y4:=(hSw.cell (p:=⟨g,h*9+4,none⟩) Y.out.1).trans Y.out.2.2.2.2.2.1;have y5:=(hSw.cell (p:=⟨g,h*9+5,none⟩) Y.out.1).trans Y.out.2.2.2.2.2.2.1;have y6:=(hSw.cell (p:=⟨g,h*9+6,none⟩) Y.out.1).trans Y.out.2.2.2.2.2.2.2.1;have y7:=(hSw.cell (p:=⟨g,h*9+7,none⟩) Y.out.1).trans Y.out.2.2.2.2.2.2.2.2.1;have y8:=(hSw.cell (p:=⟨g,h*9+8,none⟩) Y.out.1).trans Y.out.2.2.2.2.2.2.2.2.2;go_simp;try(with_reducible rfl))
    try simp only[Act.put,tl1,tl2,tl3]
   refine wpAnyH_ready (rs:=[9]) (by kernel_rfl) (by simp) ?_
   refine AllReadyH.cons (o:=⟨_,_,_,_,_,_⟩) rfl (fun K hK=>?_) AllReadyH.nil
   go_simp
   refine(decmp_any x y q bb _ ((OW.out.bel hHeld).q) ((OW.out.bel hHeld).fn)).mono ?_
   rintro e V101 ⟨rfl,hb⟩
   go_wp2_with fail
   have hHeldN:=hHeld.trans (hb.mono hHeld.size)
   have hbc:=hbc.trans (hb.mono hbc.size)
   refine hK.out _ _ ?_ (fun hHeld2=>?_)
   ·exact hHeldN
   clear hK K hHeld hHeldN hb;have hHeld:=hHeld2;clear hHeld2
   try simp only[Act.put,tl1,tl2,tl3]
   iterate 2
    refine tkHl [10,11] ?_ rfl rfl (Or.inl ⟨by rfl,?_⟩) hHeld ?_
    rotate_left
    ·(intro w _;go_simp;try(with_reducible rfl))
    try simp only[Act.put,tl1,tl2,tl3]
   refine wpAnyH_done (by kernel_rfl) ?_ _
   have HBB:=hide (Hb.out.trans (hHeld.mono Hb.out.size))
   clear hHeld hbc
   go_wp2_with fail
   have hh:=Hh.out
   exact⟨⟨h+1,by omega,by omega,by go_num,rfl,HBB.out⟩,by simp[intOf];omega⟩
  ·obtain rfl:m=j:=by omega
   obtain⟨wo,rfl⟩:∃wo,wo=wr:=⟨wr,rfl⟩
   have Hb:=hide hb
   clear hb
   go_wp2_with fail
   go_loopw [17] (fun kv wr=>kv= .int .i64 m∧wo=wr) (fun _ _=>0)
   case atStart=>exact⟨rfl,rfl⟩
   case round=>
    obtain⟨rfl,rfl⟩:=hrel
    go_wp2_with fail
    go_returns
    exact⟨⟨_,rfl⟩,Hb.out⟩
set_option maxHeartbeats 40000000 in
set_option maxRecDepth 100000 in
theorem desymC1 (g n c q bb:Nat) (ds:List Dv) (hl:OrdL ds) (hn:n≤60) (f a m b:Nat) (IH0:SymIH g n c q bb ds f) (hf:b-a≤f+1) (h1:a < m) (h2:m < b) (hb:b≤n) (w:World) (ho:Ox g n q bb ds w) (e1:¬m=a+1) (e2:¬b=m+1) (hmm:m≤(a+b) / 2) :
 Calls Tryz.prog 240 #[.slice (some ⟨g,0,none⟩) n c,.int .i64 a,.int .i64 m,.int .i64 b,.func (.func 178) #[] #[.pointer (some ⟨q,0,none⟩)]] w fun e w'=>(∃v,e= .returned v)∧Below w.heap.size w w':=by
 have IH:=hide IH0
 clear IH0
 have HO:=hide ho;have Hl:=hide hl
 have Hf:=hide hf
 have Hbn:=hide hb
 have kma:IntKind.i64.wrap ((m:Int)-(a:Int))=(m:Int)-(a:Int):=wrapI (by omega)
 have km1:IntKind.i64.wrap ((m:Int)-1)=(m:Int)-1:=wrapI (by omega)
 have i0:(a:Int) < (n:Int):=by omega
 have i1:(m:Int) < (n:Int):=by omega
 have t1:((m:Int)-(a:Int) == 1)=false:=by simp;omega
 have kbm:IntKind.i64.wrap ((b:Int)-(m:Int))=(b:Int)-(m:Int):=wrapI (by omega)
 have t2:((b:Int)-(m:Int) == 1)=false:=by simp;omega
 obtain⟨mid,hmid⟩:∃mid,mid=(a+b) / 2:=⟨_,rfl⟩
 rw[←hmid] at hmm
 have kab:IntKind.i64.wrap ((a:Int)+(b:Int))=(a:Int)+(b:Int):=wrapI (by omega)
 have kmid:((a:Int)+(b:Int)) / 2=(mid:Int):=by omega
 obtain⟨N,hN⟩:∃N,N=mid+m:=⟨_,rfl⟩
 have kN:IntKind.i64.wrap ((mid:Int)+(m:Int))=(N:Int):=by rw[wrapI (by omega)];omega
 obtain⟨P,hP⟩:∃P,P=N-1:=⟨_,rfl⟩
 have kP:IntKind.i64.wrap ((N:Int)-1)=(P:Int):=by rw[wrapI (by omega)];omega
 have Hmid:=hide (show a < mid∧mid < b∧mid≤n by omega)
 have HN:=hide hN;have HP:=hide hP
 have f0:decide ((mid:Int) < (m:Int))=false:=decide_eq_false (by omega);have f0':decide (mid < m)=false:=decide_eq_false (by omega)
 have hab:a≤m∧m≤60∧mid≤60:=by omega
 have HK:=hide (sym_idx1 h1 h2 hb hn hmid hmm hN hP)
 clear ho hl hf hmid hN hP e1 e2
 go_enter Tryz.func240,Tryz.ntmps240
 go_wp2_with fail
 clear kma km1 kbm kab kmid kN kP t1 t2 f0 f0'
 go_loopw [20,21] (fun sv rv wr=>∃s:Nat,a≤s∧s≤m∧sv= .int .i64 s∧rv= .int .i64 m∧Below w.heap.size w wr) (fun sv _ _=>m-(intOf sv).toNat)
 case atStart=>exact⟨a,by omega,by omega,rfl,rfl,Below.refl _ _⟩
 case round=>
  obtain⟨s,hs1,hs2,rfl,rfl,hb⟩:=hrel
  by_cases hsr:s < m
  ·have ik:(s:Int) < (m:Int):=by omega
   obtain⟨c0,hc0⟩:∃c0,c0=(s+m) / 2:=⟨_,rfl⟩
   obtain⟨pc,hpc⟩:∃pc,pc=P-c0:=⟨_,rfl⟩
   obtain⟨j1,j2,j3,j4,j5,j6,j7⟩:=HK.out s c0 pc hs1 hsr hc0 hpc
   have kh:IntKind.i64.wrap ((s:Int)+(m:Int))=(s:Int)+(m:Int):=sym_add j1 j2 j5 hn (hab.2.1)
   have kq:((s:Int)+(m:Int)) / 2=(c0:Int):=sym_half hc0
   have kpc:IntKind.i64.wrap ((P:Int)-(c0:Int))=(pc:Int):=sym_sub hpc j6 j7
   have kc1:IntKind.i64.wrap ((c0:Int)+1)=(c0:Int)+1:=sym_one j5 hn
   have i2:(c0:Int) < (n:Int):=Int.ofNat_lt.2 j5
   have i3:(pc:Int) < (n:Int):=Int.ofNat_lt.2 j4
   have Hb:=hide hb
   have OW:=hide (HO.out.bel hb)
   obtain⟨x,hx,xg,x0,x1,x2,x3,x4,x5,x6,x7,x8⟩:=(OW.out).at_ (i:=pc) (j4)
   have X:=hide (And.intro xg (And.intro x0 (And.intro x1 (And.intro x2 (And.intro x3 (And.intro x4 (And.intro x5 (And.intro x6 (And.intro x7 x8)))))))))
   clear xg x0 x1 x2 x3 x4 x5 x6 x7 x8
   obtain⟨y,hy,yg,y0,y1,y2,y3,y4,y5,y6,y7,y8⟩:=(OW.out).at_ (i:=c0) (j5)
   have Y:=hide (And.intro yg (And.intro y0 (And.intro y1 (And.intro y2 (And.intro y3 (And.intro y4 (And.intro y5 (And.intro y6 (And.intro y7 y8)))))))))
   clear yg y0 y1 y2 y3 y4 y5 y6 y7 y8
   have d2:decide (cmpD x y < 0)=false:=decide_eq_false (Int.not_lt.2 (Hl.out c0 pc y x j3 hy hx))
   have Hc:=hide (And.intro hs1 (And.intro j1 (And.intro j2 hs2)))
   obtain⟨wo,rfl⟩:∃wo,wo=wr:=⟨wr,rfl⟩
   clear hx hy hb hc0 hpc j1 j2 j3 j4 j5 j6 j7
   go_upto_region 35 with fail
   refine wp_region_held_drew (S:=(fun W=>Below wo.heap.size wo W)) (by kernel_rfl) (by(try dsimp only);exact(Below.refl _ _).drew) (fun hHeld=>?_)
   generalize World.drew wo=Wd35 at hHeld ⊢
   have hbc:=Below.refl Wd35.heap.size Wd35
   iterate 9
    refine tkHl [0,1,2,3,4,5,7,8,9] ?_ rfl rfl (Or.inl ⟨by rfl,?_⟩) hHeld ?_
    rotate_left
    ·(intro w _;go_simp;try(with_reducible rfl))
    try simp only[Act.put,tl1,tl2,tl3]
   iterate 2
    refine tkHl [6,10] ?_ rfl rfl (Or.inl ⟨by rfl,?_⟩) hHeld ?_
    rotate_left
    ·(intro w hSw;(try dsimp only at hSw);have x0:=(hSw.cell (p:=⟨g,pc*9,none⟩) X.out.1).trans X.out.2.1;have x1:=(hSw.cell (p:=⟨g,pc*9+1,none⟩) X.out.1).trans X.out.2.2.1;have x2:=(hSw.cell (p:=⟨g,pc*9+2,none⟩) X.out.1).trans X.out.2.2.2.1;have x3:=(hSw.cell (p:=⟨g,pc*9+3,none⟩) X.out.1).trans X.out.2.2.2.2.1;have x4:=(hSw.cell (p:=⟨g,pc*9+4,none⟩) X.out.1).trans X.out.2.2.2.2.2.1;have x5:=(hSw.cell (p:=⟨g,pc*9+5,none⟩) X.out.1).trans X.out.2.2.2.2.2.2.1;have x6:=(hSw.cell (p:=⟨g,pc*9+6,none⟩) X.out.1).trans X.out.2.2.2.2.2.2.2.1;have x7:=(hSw.cell (p:=⟨g,pc*9+7,none⟩) X.out.1).trans X.out.2.2.2.2.2.2.2.2.1;have x8:=(hSw.cell (p:=⟨g,pc*9+8,none⟩) X.out.1).trans X.out.2.2.2.2.2.2.2.2.2;have y0:=(hSw.cell (p:=⟨g,c0*9,none⟩) Y.out.1).trans Y.out.2.1;have y1:=(hSw.cell (p:=⟨g,c0*9+1,none⟩) Y.out.1).trans Y.out.2.2.1;have y2:=(hSw.cell (p:=⟨g,c0*9+2,none⟩) Y.out.1).trans Y.out.2.2.2.1;have y3:=(hSw.cell (p:=⟨g,c0*9+3,none⟩) Y.out.1).trans Y.out.2.2.2.2.1;have y4:=(hSw.cell (p:=⟨g,c0*9+4,none⟩) Y.out.1).trans Y.out.2.2.2.2.2.1;have y5:=(hSw.cell (p:=⟨g,c0*9+5,none⟩) Y.out.1).trans Y.out.2.2.2.2.2.2.1;have y6:=(hSw.cell (p:=⟨g,c0*9+6,none⟩) Y.out.1).trans Y.out.2.2.2.2.2.2.2.1;have y7:=(hSw.cell (p:=⟨g,c0*9+7,none⟩) Y.out.1).trans Y.out.2.2.2.2.2.2.2.2.1;have y8:=(hSw.cell (p:=⟨g,c0*9+8,none⟩) Y.out.1).trans Y.out.2.2.2.2.2.2.2.2.2;go_simp;try(with_reducible rfl))
    try simp only[Act.put,tl1,tl2,tl3]
   refine wpAnyH_ready (rs:=[11]) (by kernel_rfl) (by simp) ?_
   refine AllReadyH.cons (o:=⟨_,_,_,_,_,_⟩) rfl (fun K hK=>?_) AllReadyH.nil
   go_simp
   refine(decmp_any x y q bb _ ((OW.out.bel hHeld).q) ((OW.out.bel hHeld).fn)).mono ?_
   rintro e V169 ⟨rfl,hb⟩
   go_wp2_with fail
   have hHeldN:=hHeld.trans (hb.mono hHeld.size)
   have hbc:=hbc.trans (hb.mono hbc.size)
   refine hK.out _ _ ?_ (fun hHeld2=>?_)
   ·exact hHeldN
   clear hK K hHeld hHeldN hb;have hHeld:=hHeld2;clear hHeld2
   try simp only[Act.put,tl1,tl2,tl3]
   iterate 2
    refine tkHl [12,13] ?_ rfl rfl (Or.inl ⟨by rfl,?_⟩) hHeld ?_
    rotate_left
    ·(intro w _;go_simp;try(with_reducible rfl))
    try simp only[Act.put,tl1,tl2,tl3]
   refine wpAnyH_done (by kernel_rfl) ?_ _
   have HBB:=hide (Hb.out.trans (hHeld.mono Hb.out.size))
   clear hHeld hbc
   go_wp2_with fail
   obtain⟨g1,g2,g3,g4⟩:=Hc.out
   exact⟨⟨c0+1,Nat.le_trans g1 (Nat.le_trans g2 (Nat.le_succ _)),g3,by go_num,rfl,HBB.out⟩,by simp[intOf];exact sym_dec g2 g3⟩
  ·obtain rfl:m=s:=by omega
   obtain⟨wo,rfl⟩:∃wo,wo=wr:=⟨wr,rfl⟩
   have Hb:=hide hb
   have hN:=HN.out
   obtain⟨E,hE⟩:∃E,E=N-m:=⟨_,rfl⟩
   have hEe:E=mid:=by rw[hE,hN];omega
   have ke:IntKind.i64.wrap ((N:Int)-(m:Int))=(E:Int):=sym_sub hE (by rw[hN];omega) (by rw[hN];omega)
   have f1:decide ((a:Int) < (m:Int))=true:=decide_eq_true (by omega);have f1':decide (a < m)=true:=decide_eq_true (by omega)
   have f2:decide ((mid:Int) < (E:Int))=false:=decide_eq_false (by omega);have f2':decide (mid < E)=false:=decide_eq_false (by omega)
   have HE:=hide hE
   clear hb hN hE hEe
   by_cases hmm:m < mid
   ·have f3:decide ((m:Int) < (mid:Int))=true:=decide_eq_true (by omega);have f3':decide (m < mid)=true:=decide_eq_true (by omega)
    have ih:=hide (IH.out a m mid (by have:=Hf.out;have:=Hmid.out;omega) h1 hmm (by have:=Hmid.out;omega) wo (HO.out.bel Hb.out))
    go_wp2_with fail
    refine ih.out.mono ?_
    rintro e wv ⟨⟨vv,rfl⟩,hbv⟩
    have Hv:=hide (Hb.out.trans (hbv.mono Hb.out.size))
    clear hbv ih
    go_wp2_with fail
    go_returns
    exact⟨⟨_,rfl⟩,Hv.out⟩
   ·have f3:decide ((m:Int) < (mid:Int))=false:=decide_eq_false (by omega);have f3':decide (m < mid)=false:=decide_eq_false (by omega)
    go_wp2_with fail
    go_returns
    exact⟨⟨_,rfl⟩,Hb.out⟩
set_option maxHeartbeats 40000000 in
set_option maxRecDepth 100000 in
theorem desymC2 (g n c q bb:Nat) (ds:List Dv) (hl:OrdL ds) (hn:n≤60) (f a m b:Nat) (IH0:SymIH g n c q bb ds f) (hf:b-a≤f+1) (h1:a < m) (h2:m < b) (hb:b≤n) (w:World) (ho:Ox g n q bb ds w) (e1:¬m=a+1) (e2:¬b=m+1) (hmm:¬m≤(a+b) / 2) :
 Calls Tryz.prog 240 #[.slice (some ⟨g,0,none⟩) n c,.int .i64 a,.int .i64 m,.int .i64 b,.func (.func 178) #[] #[.pointer (some ⟨q,0,none⟩)]] w fun e w'=>(∃v,e= .returned v)∧Below w.heap.size w w':=by
 have IH:=hide IH0
 clear IH0
 have HO:=hide ho;have Hl:=hide hl
 have Hf:=hide hf
 have Hbn:=hide hb
 have kma:IntKind.i64.wrap ((m:Int)-(a:Int))=(m:Int)-(a:Int):=wrapI (by omega)
 have km1:IntKind.i64.wrap ((m:Int)-1)=(m:Int)-1:=wrapI (by omega)
 have i0:(a:Int) < (n:Int):=by omega
 have i1:(m:Int) < (n:Int):=by omega
 have t1:((m:Int)-(a:Int) == 1)=false:=by simp;omega
 have kbm:IntKind.i64.wrap ((b:Int)-(m:Int))=(b:Int)-(m:Int):=wrapI (by omega)
 have t2:((b:Int)-(m:Int) == 1)=false:=by simp;omega
 obtain⟨mid,hmid⟩:∃mid,mid=(a+b) / 2:=⟨_,rfl⟩
 rw[←hmid] at hmm
 have kab:IntKind.i64.wrap ((a:Int)+(b:Int))=(a:Int)+(b:Int):=wrapI (by omega)
 have kmid:((a:Int)+(b:Int)) / 2=(mid:Int):=by omega
 obtain⟨N,hN⟩:∃N,N=mid+m:=⟨_,rfl⟩
 have kN:IntKind.i64.wrap ((mid:Int)+(m:Int))=(N:Int):=by rw[wrapI (by omega)];omega
 obtain⟨P,hP⟩:∃P,P=N-1:=⟨_,rfl⟩
 have kP:IntKind.i64.wrap ((N:Int)-1)=(P:Int):=by rw[wrapI (by omega)];omega
 have Hmid:=hide (show a < mid∧mid < b∧mid≤n by omega)
 have HN:=hide hN;have HP:=hide hP
 have f0:decide ((mid:Int) < (m:Int))=true:=decide_eq_true (by omega);have f0':decide (mid < m)=true:=decide_eq_true (by omega)
 obtain⟨S0,hS0⟩:∃S0,S0=N-b:=⟨_,rfl⟩
 have kS:IntKind.i64.wrap ((N:Int)-(b:Int))=(S0:Int):=by rw[wrapI (by omega)];omega
 have hab:S0≤mid∧m≤60∧mid≤60∧mid < m:=by omega
 have HK:=hide (sym_idx2 h1 h2 hb hn hab.2.2.2 hS0 hN hP)
 clear ho hl hf hmid hN hP e1 e2 hS0
 go_enter Tryz.func240,Tryz.ntmps240
 go_wp2_with fail
 clear kma km1 kbm kab kmid kN kP t1 t2 f0 f0' kS
 go_loopw [20,21] (fun sv rv wr=>∃s:Nat,S0≤s∧s≤mid∧sv= .int .i64 s∧rv= .int .i64 mid∧Below w.heap.size w wr) (fun sv _ _=>mid-(intOf sv).toNat)
 case atStart=>exact⟨S0,by omega,by omega,rfl,rfl,Below.refl _ _⟩
 case round=>
  obtain⟨s,hs1,hs2,rfl,rfl,hb⟩:=hrel
  by_cases hsr:s < mid
  ·have ik:(s:Int) < (mid:Int):=by omega
   obtain⟨c0,hc0⟩:∃c0,c0=(s+mid) / 2:=⟨_,rfl⟩
   obtain⟨pc,hpc⟩:∃pc,pc=P-c0:=⟨_,rfl⟩
   obtain⟨j1,j2,j3,j4,j5,j6,j7⟩:=HK.out s c0 pc hs1 hsr hc0 hpc
   have kh:IntKind.i64.wrap ((s:Int)+(mid:Int))=(s:Int)+(mid:Int):=sym_add j1 j2 j5 hn (hab.2.2.1)
   have kq:((s:Int)+(mid:Int)) / 2=(c0:Int):=sym_half hc0
   have kpc:IntKind.i64.wrap ((P:Int)-(c0:Int))=(pc:Int):=sym_sub hpc j6 j7
   have kc1:IntKind.i64.wrap ((c0:Int)+1)=(c0:Int)+1:=sym_one j5 hn
   have i2:(c0:Int) < (n:Int):=Int.ofNat_lt.2 j5
   have i3:(pc:Int) < (n:Int):=Int.ofNat_lt.2 j4
   have Hb:=hide hb
   have OW:=hide (HO.out.bel hb)
   obtain⟨x,hx,xg,x0,x1,x2,x3,x4,x5,x6,x7,x8⟩:=(OW.out).at_ (i:=pc) (j4)
   have X:=hide (And.intro xg (And.intro x0 (And.intro x1 (And.intro x2 (And.intro x3 (And.intro x4 (And.intro x5 (And.intro x6 (And.intro x7 x8)))))))))
   clear xg x0 x1 x2 x3 x4 x5 x6 x7 x8
   obtain⟨y,hy,yg,y0,y1,y2,y3,y4,y5,y6,y7,y8⟩:=(OW.out).at_ (i:=c0) (j5)
   have Y:=hide (And.intro yg (And.intro y0 (And.intro y1 (And.intro y2 (And.intro y3 (And.intro y4 (And.intro y5 (And.intro y6 (And.intro y7 y8)))))))))
   clear yg y0 y1 y2 y3 y4 y5 y6 y7 y8
   have d2:decide (cmpD x y < 0)=false:=decide_eq_false (Int.not_lt.2 (Hl.out c0 pc y x j3 hy hx))
   have Hc:=hide (And.intro hs1 (And.intro j1 (And.intro j2 hs2)))
   obtain⟨wo,rfl⟩:∃wo,wo=wr:=⟨wr,rfl⟩
   clear hx hy hb hc0 hpc j1 j2 j3 j4 j5 j6 j7
   go_upto_region 35 with fail
   refine wp_region_held_drew (S:=(fun W=>Below wo.heap.size wo W)) (by kernel_rfl) (by(try dsimp only);exact(Below.refl _ _).drew) (fun hHeld=>?_)
   generalize World.drew wo=Wd35 at hHeld ⊢
   have hbc:=Below.refl Wd35.heap.size Wd35
   iterate 9
    refine tkHl [0,1,2,3,4,5,7,8,9] ?_ rfl rfl (Or.inl ⟨by rfl,?_⟩) hHeld ?_
    rotate_left
    ·(intro w _;go_simp;try(with_reducible rfl))
    try simp only[Act.put,tl1,tl2,tl3]
   iterate 2
    refine tkHl [6,10] ?_ rfl rfl (Or.inl ⟨by rfl,?_⟩) hHeld ?_
    rotate_left
    ·(intro w hSw;(try dsimp only at hSw);have x0:=(hSw.cell (p:=⟨g,pc*9,none⟩) X.out.1).trans X.out.2.1;have x1:=(hSw.cell (p:=⟨g,pc*9+1,none⟩) X.out.1).trans X.out.2.2.1;have x2:=(hSw.cell (p:=⟨g,pc*9+2,none⟩) X.out.1).trans X.out.2.2.2.1;have x3:=(hSw.cell (p:=⟨g,pc*9+3,none⟩) X.out.1).trans X.out.2.2.2.2.1;have x4:=(hSw.cell (p:=⟨g,pc*9+4,none⟩) X.out.1).trans X.out.2.2.2.2.2.1;have x5:=(hSw.cell (p:=⟨g,pc*9+5,none⟩) X.out.1).trans X.out.2.2.2.2.2.2.1;have x6:=(hSw.cell (p:=⟨g,pc*9+6,none⟩) X.out.1).trans X.out.2.2.2.2.2.2.2.1;have x7:=(hSw.cell (p:=⟨g,pc*9+7,none⟩) X.out.1).trans X.out.2.2.2.2.2.2.2.2.1;have x8:=(hSw.cell (p:=⟨g,pc*9+8,none⟩) X.out.1).trans X.out.2.2.2.2.2.2.2.2.2;have y0:=(hSw.cell (p:=⟨g,c0*9,none⟩) Y.out.1).trans Y.out.2.1;have y1:=(hSw.cell (p:=⟨g,c0*9+1,none⟩) Y.out.1).trans Y.out.2.2.1;have y2:=(hSw.cell (p:=⟨g,c0*9+2,none⟩) Y.out.1).trans Y.out.2.2.2.1;have y3:=(hSw.cell (p:=⟨g,c0*9+3,none⟩) Y.out.1).trans Y.out.2.2.2.2.1;have y4:=(hSw.cell (p:=⟨g,c0*9+4,none⟩) Y.out.1).trans Y.out.2.2.2.2.2.1;have y5:=(hSw.cell (p:=⟨g,c0*9+5,none⟩) Y.out.1).trans Y.out.2.2.2.2.2.2.1;have y6:=(hSw.cell (p:=⟨g,c0*9+6,none⟩) Y.out.1).trans Y.out.2.2.2.2.2.2.2.1;have y7:=(hSw.cell (p:=⟨g,c0*9+7,none⟩) Y.out.1).trans Y.out.2.2.2.2.2.2.2.2.1;have y8:=(hSw.cell (p:=⟨g,c0*9+8,none⟩) Y.out.1).trans Y.out.2.2.2.2.2.2.2.2.2;go_simp;try(with_reducible rfl))
    try simp only[Act.put,tl1,tl2,tl3]
   refine wpAnyH_ready (rs:=[11]) (by kernel_rfl) (by simp) ?_
   refine AllReadyH.cons (o:=⟨_,_,_,_,_,_⟩) rfl (fun K hK=>?_) AllReadyH.nil
   go_simp
   refine(decmp_any x y q bb _ ((OW.out.bel hHeld).q) ((OW.out.bel hHeld).fn)).mono ?_
   rintro e V169 ⟨rfl,hb⟩
   go_wp2_with fail
   have hHeldN:=hHeld.trans (hb.mono hHeld.size)
   have hbc:=hbc.trans (hb.mono hbc.size)
   refine hK.out _ _ ?_ (fun hHeld2=>?_)
   ·exact hHeldN
   clear hK K hHeld hHeldN hb;have hHeld:=hHeld2;clear hHeld2
   try simp only[Act.put,tl1,tl2,tl3]
   iterate 2
    refine tkHl [12,13] ?_ rfl rfl (Or.inl ⟨by rfl,?_⟩) hHeld ?_
    rotate_left
    ·(intro w _;go_simp;try(with_reducible rfl))
    try simp only[Act.put,tl1,tl2,tl3]
   refine wpAnyH_done (by kernel_rfl) ?_ _
   have HBB:=hide (Hb.out.trans (hHeld.mono Hb.out.size))
   clear hHeld hbc
   go_wp2_with fail
   obtain⟨g1,g2,g3,g4⟩:=Hc.out
   exact⟨⟨c0+1,Nat.le_trans g1 (Nat.le_trans g2 (Nat.le_succ _)),g3,by go_num,rfl,HBB.out⟩,by simp[intOf];exact sym_dec g2 g3⟩
  ·obtain rfl:mid=s:=by omega
   obtain⟨wo,rfl⟩:∃wo,wo=wr:=⟨wr,rfl⟩
   have Hb:=hide hb
   have hN:=HN.out
   obtain⟨E,hE⟩:∃E,E=N-mid:=⟨_,rfl⟩
   have hEe:E=m:=by rw[hE,hN];omega
   have ke:IntKind.i64.wrap ((N:Int)-(mid:Int))=(E:Int):=sym_sub hE (by rw[hN];omega) (by rw[hN];omega)
   have f1:decide ((mid:Int) < (m:Int))=true:=decide_eq_true (by omega);have f1':decide (mid < m)=true:=decide_eq_true (by omega)
   have f2:decide ((m:Int) < (E:Int))=false:=decide_eq_false (by omega);have f2':decide (m < E)=false:=decide_eq_false (by omega)
   have f3:decide ((a:Int) < (mid:Int))=true:=decide_eq_true (by have:=Hmid.out;omega);have f3':decide (a < mid)=true:=decide_eq_true (by have:=Hmid.out;omega)
   have f4:decide ((mid:Int) < (E:Int))=true:=decide_eq_true (by omega);have f4':decide (mid < E)=true:=decide_eq_true (by omega)
   have f5:decide ((E:Int) < (b:Int))=true:=decide_eq_true (by omega);have f5':decide (E < b)=true:=decide_eq_true (by omega)
   have ih:=hide (IH.out mid E b (by have:=Hf.out;have:=Hmid.out;omega) (by omega) (by omega) (by have:=Hbn.out;omega) wo (HO.out.bel Hb.out))
   clear hb hN hE hEe
   go_wp2_with fail
   refine ih.out.mono ?_
   rintro e wv ⟨⟨vv,rfl⟩,hbv⟩
   have Hv:=hide (Hb.out.trans (hbv.mono Hb.out.size))
   clear hbv ih
   go_wp2_with fail
   go_returns
   exact⟨⟨_,rfl⟩,Hv.out⟩
theorem desym_ord (g n c q bb:Nat) (ds:List Dv) (hl:OrdL ds) (hn:n≤60):∀(f:Nat),SymIH g n c q bb ds f
 | 0=>fun a m b hf h1 h2 _=>by omega
 | f + 1 => fun a m b hf h1 h2 hb w ho => by
   have ih:=desym_ord g n c q bb ds hl hn f
   by_cases e1:m=a+1
   ·exact desymA g n c q bb ds hl hn f a m b ih hf h1 h2 hb w ho e1
   by_cases e2:b=m+1
   ·exact desymB g n c q bb ds hl hn f a m b ih hf h1 h2 hb w ho e1 e2
   by_cases hmm:m≤(a+b) / 2
   ·exact desymC1 g n c q bb ds hl hn f a m b ih hf h1 h2 hb w ho e1 e2 hmm
   ·exact desymC2 g n c q bb ds hl hn f a m b ih hf h1 h2 hb w ho e1 e2 hmm
end Go.Proofs.YtiioegopckoldaaGreatDoor
