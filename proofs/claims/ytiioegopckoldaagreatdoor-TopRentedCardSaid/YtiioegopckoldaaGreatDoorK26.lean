/- lemmas for topRented_holds: SO1. No conditions. -/
import Derived.Test.YtiioegopckoldaaGreatDoorK13
import Derived.Test.YtiioegopckoldaaGreatDoorK17
set_option linter.unusedVariables false
set_option linter.unusedSimpArgs false
namespace Go.Proofs.YtiioegopckoldaaGreatDoor
open Go.RowKit Go.Shelf
theorem swap_permG {α:Type} {l:List α} {i j:Nat} {x y:α} (hx:l[i]?=some x) (hy:l[j]?=some y):List.Perm ((l.set i y).set j x) l:=by
 obtain⟨h1,rfl⟩:=List.getElem?_eq_some_iff.1 hx
 obtain⟨h2,rfl⟩:=List.getElem?_eq_some_iff.1 hy
 exact List.set_set_perm h1 h2
def UptoG {α:Type} (le:α→α→Prop) (i:Nat) (l:List α):Prop:=∀p q x y,p < q→q < i→l[p]?=some x→l[q]?=some y→le x y
structure ButG {α:Type} (le:α→α→Prop) (i j:Nat) (l:List α):Prop where
 ord:∀p q x y,p < q→q≤i→p≠j→q≠j→l[p]?=some x→l[q]?=some y→le x y
 beh:∀q x y,j < q→q≤i→l[j]?=some x→l[q]?=some y→le x y
section
variable {α:Type} {le:α→α→Prop} {i j:Nat} {l:List α} {x y:α}
theorem ButG.start (h:UptoG le i l):ButG le i i l:=
 ⟨fun p q x y hpq hq hp hq' h1 h2=>h p q x y hpq (by omega) h1 h2,fun q x y h1 h2=>by omega⟩
theorem ButG.done (tr:∀a b c,le a b→le b c→le a c) (h:ButG le i j l) (hj:j=0∨∃x y,l[j-1]?=some x∧l[j]?=some y∧le x y) (hji:j≤i):UptoG le (i+1) l:=by
 intro p q x y hpq hq h1 h2
 by_cases hqj:q=j
 ·subst hqj
  rcases hj with hj | ⟨a,b,ha,hb,hab⟩
  ·omega
  ·rw[hb] at h2;injection h2 with h2;subst h2
   by_cases hp:p=q-1
   ·subst hp;rw[ha] at h1;injection h1 with h1;subst h1;exact hab
   ·exact tr _ _ _ (h.ord p (q-1) x a (by omega) (by omega) (by omega) (by omega) h1 ha) hab
 ·by_cases hpj:p=j
  ·subst hpj;exact h.beh q x y hpq (by omega) h1 h2
  ·exact h.ord p q x y hpq (by omega) hpj hqj h1 h2
theorem ButG.swap (h:ButG le i (j+1) l) (hji:j+1≤i) (hx:l[j]?=some x) (hy:l[j+1]?=some y) (hyx:le y x):ButG le i j ((l.set (j+1) x).set j y):=by
 have hl1:j+1 < l.length:=(List.getElem?_eq_some_iff.1 hy).1
 have g:∀k,((l.set (j+1) x).set j y)[k]?=if k=j then some y else if k=j+1 then some x else l[k]?:=by
  intro k
  by_cases h1:k=j
  ·rw[if_pos h1,h1,List.getElem?_set_self (by rw[List.length_set];omega)]
  ·rw[if_neg h1,List.getElem?_set_ne (fun e=>h1 e.symm)]
   by_cases h2:k=j+1
   ·rw[if_pos h2,h2,List.getElem?_set_self hl1]
   ·rw[if_neg h2,List.getElem?_set_ne (fun e=>h2 e.symm)]
 refine⟨fun p q a b hpq hq hp hq' h1 h2=>?_,fun q a b hq1 hq2 h1 h2=>?_⟩
 ·rw[g] at h1 h2
  rw[if_neg hp] at h1
  rw[if_neg hq'] at h2
  by_cases hp1:p=j+1
  ·rw[if_pos hp1] at h1
   rw[if_neg (by omega)] at h2
   injection h1 with h1;subst h1
   exact h.ord j q x b (by omega) hq (by omega) (by omega) hx h2
  ·rw[if_neg hp1] at h1
   by_cases hq1:q=j+1
   ·rw[if_pos hq1] at h2
    injection h2 with h2;subst h2
    exact h.ord p j a x (by omega) (by omega) (by omega) (by omega) h1 hx
   ·rw[if_neg hq1] at h2
    exact h.ord p q a b hpq hq hp1 hq1 h1 h2
 ·rw[g] at h1 h2
  rw[if_pos rfl] at h1
  injection h1 with h1;subst h1
  rw[if_neg (by omega)] at h2
  by_cases hq3:q=j+1
  ·rw[if_pos hq3] at h2;injection h2 with h2;subst h2;exact hyx
  ·rw[if_neg hq3] at h2
   exact h.beh q y b (by omega) hq2 hy h2
end
theorem el_has:ElLaw Tryz.prog 79 99 2 16 Sp.cells:=elLaw_of Tryz.underlying79 (z:= .agg #[.int .i64 0,.int .i64 0]) (by kernel_rfl) rfl (by omega) Sp.len Sp.one (by omega)
theorem dewho_any (x:Sp) (w:World):Calls Tryz.prog 63 #[.agg #[.int .i64 x.lo,.int .i64 x.hi]] w fun e w'=>e= .returned (.int .i64 x.lo)∧Below w.heap.size w w':=by
 go_enter Tryz.func63,Tryz.ntmps63
 go_wp2
 go_ret
 exact⟨rfl,below_new w _⟩
set_option maxHeartbeats 8000000 in
set_option maxRecDepth 100000 in
theorem shcmp_any (x y:Sp) (q bb:Nat) (w:World) (hq:At w q [.slice (some ⟨bb,0,none⟩) 1 1]) (hat:At w bb [.func (.func 63) #[] #[]]) :
 Calls Tryz.prog 133 #[.agg #[.int .i64 x.lo,.int .i64 x.hi],.agg #[.int .i64 y.lo,.int .i64 y.hi],.pointer (some ⟨q,0,none⟩)] w fun e w'=>e= .returned (.int .i64 (cmpI3 x.lo y.lo))∧Below w.heap.size w w':=by
 obtain⟨b3,w1,e3,ew1,hx3,hb1,hz1⟩:=mk_bx w #[.int .i64 x.lo,.int .i64 x.hi] 99
 obtain⟨b4,w2,e4,ew2,hx4,hb2,hz2⟩:=mk_bx w1 #[.int .i64 y.lo,.int .i64 y.hi] 99
 have e34:b3+1=b4:=by have:=e4.out;omega
 have hB2:=hb1.trans (hb2.mono hb1.size)
 have X3:=hide (hx3.bel hb2);have X4:=hide hx4;have HB2:=hide hB2
 have Q2:=hide (hq.below hB2);have A2:=hide (hat.below hB2)
 have hq0:=Q2.out.c1
 clear hx3 hx4 hb1 hb2 hB2 hz1 hz2 hq hat
 go_enter Tryz.func133,Tryz.ntmps133
 go_upto_region 1 with fail
 rw[ew1.out,e3.out,e34,ew2.out]
 go_wp2_with fail
 clear hq0
 go_loopw [11] (fun iv wr=>∃k:Nat,k≤1∧iv= .int .i64 k∧Hid (1≤k→cmpI3 x.lo y.lo=0)∧Below w2.heap.size w2 wr) (fun iv _=>1-(intOf iv).toNat)
 case atStart=>exact⟨0,by omega,rfl,hide (fun h=>by omega),Below.refl _ _⟩
 case round=>
  obtain⟨k,hk,rfl,H1,hb⟩:=hrel
  obtain rfl | rfl:k=0∨k=1:=by omega
  ·have y0:=(A2.out.below hb).c1
   have Hb:=hide hb
   obtain⟨wo,rfl⟩:∃wo,wo=wr:=⟨wr,rfl⟩
   obtain⟨c,hc⟩:∃c,Hid (c=cmpI3 x.lo y.lo):=⟨_,hide rfl⟩
   clear hb
   go_upto_region 4 with fail
   clear y0
   refine wp_region_held_drew (S:=(fun W=>Below wo.heap.size wo W)) (by kernel_rfl) (by(try dsimp only);exact(Below.refl _ _).drew) (fun hHeld=>?_)
   generalize World.drew wo=Wd4 at hHeld ⊢
   have hbc:=Below.refl Wd4.heap.size Wd4
   iterate 2
    refine tkHl [0,3] ?_ rfl rfl (Or.inl ⟨by rfl,?_⟩) hHeld ?_
    rotate_left
    ·(intro w _;go_simp;try(with_reducible rfl))
    try simp only[Act.put,tl1,tl2,tl3]
   iterate 2
    refine tkHl [1,4] ?_ rfl rfl (Or.inl ⟨by rfl,?_⟩) hHeld ?_
    rotate_left
    ·(intro w hSw;(try dsimp only at hSw);obtain⟨q0,q1⟩:=(show At _ b3 [.int .i64 x.lo,.int .i64 x.hi] from((X3.out.bel Hb.out).bel hSw).at_).c2;obtain⟨p0,p1⟩:=(show At _ b4 [.int .i64 y.lo,.int .i64 y.hi] from((X4.out.bel Hb.out).bel hSw).at_).c2;go_simp;try(with_reducible rfl))
    try simp only[Act.put,tl1,tl2,tl3]
   refine wpAnyH_ready (rs:=[2]) (by kernel_rfl) (by simp) ?_
   refine AllReadyH.cons (o:=⟨_,_,_,_,_,_⟩) rfl (fun K hK=>?_) AllReadyH.nil
   go_simp
   refine(dewho_any x _).mono ?_
   rintro e V17 ⟨rfl,hb⟩
   go_wp2_with fail
   have hHeldN:=hHeld.trans (hb.mono hHeld.size)
   have hbc:=hbc.trans (hb.mono hbc.size)
   refine hK.out _ _ ?_ (fun hHeld2=>?_)
   ·exact hHeldN
   clear hK K hHeld hHeldN hb;have hHeld:=hHeld2;clear hHeld2
   try simp only[Act.put,tl1,tl2,tl3]
   refine wpAnyH_ready (rs:=[5]) (by kernel_rfl) (by simp) ?_
   refine AllReadyH.cons (o:=⟨_,_,_,_,_,_⟩) rfl (fun K hK=>?_) AllReadyH.nil
   go_simp
   refine(dewho_any y _).mono ?_
   rintro e V20 ⟨rfl,hb⟩
   go_wp2_with fail
   have hHeldN:=hHeld.trans (hb.mono hHeld.size)
   have hbc:=hbc.trans (hb.mono hbc.size)
   refine hK.out _ _ ?_ (fun hHeld2=>?_)
   ·exact hHeldN
   clear hK K hHeld hHeldN hb;have hHeld:=hHeld2;clear hHeld2
   try simp only[Act.put,tl1,tl2,tl3]
   refine wpAnyH_ready (rs:=[6]) (by kernel_rfl) (by simp) ?_
   refine AllReadyH.cons (o:=⟨_,_,_,_,_,_⟩) rfl (fun K hK=>?_) AllReadyH.nil
   go_simp
   refine(ccompare_b _ _ _).mono ?_
   rintro e V21 ⟨rfl,hb⟩
   rw[←hc.out]
   go_wp2_with fail
   have hHeldN:=hHeld.trans (hb.mono hHeld.size)
   have hbc:=hbc.trans (hb.mono hbc.size)
   refine hK.out _ _ ?_ (fun hHeld2=>?_)
   ·exact hHeldN
   clear hK K hHeld hHeldN hb;have hHeld:=hHeld2;clear hHeld2
   try simp only[Act.put,tl1,tl2,tl3]
   refine tkH 7 ?_ rfl (Or.inl ⟨by rfl,?_⟩) hHeld ?_
   rotate_left
   ·(intro w _;go_simp;try(with_reducible rfl))
   try simp only[Act.put,tl1,tl2,tl3]
   refine wpAnyH_done (by kernel_rfl) ?_ _
   have Hb2:=hide (Hb.out.trans (hHeld.mono Hb.out.size))
   clear hHeld hbc
   by_cases h0:c=0
   ·have h1:cmpI3 x.lo y.lo=0:=by rw[←hc.out];exact h0
    clear hc
    subst h0
    go_wp2_with fail
    exact⟨⟨1,by omega,rfl,hide (fun _=>h1),Hb2.out⟩,by simp[intOf]⟩
   ·have tn:(c != 0)=true:=by simpa using h0
    go_wp2_with fail
    go_returns
    refine⟨?_,HB2.out.trans (Hb2.out.mono HB2.out.size)⟩
    rw[←hc.out]
    rfl
  ·have Hb:=hide hb
   clear hb
   go_wp2_with fail
   go_returns
   refine⟨?_,HB2.out.trans (Hb.out.mono HB2.out.size)⟩
   rw[H1.out (by omega)]
   rfl
theorem own_sh {w:World} {base g n c i:Nat} {e:TypeId} {xs:List Sp} {x:Sp} (h:Own w base e 2 Sp.cells (.slice (some ⟨g,0,none⟩) n c) xs) (hn:n=xs.length) (hx:xs[i]?=some x):w.cell? ⟨g,i*2,none⟩=some (.int .i64 x.lo)∧w.cell? ⟨g,i*2+1,none⟩=some (.int .i64 x.hi):=by
 subst hn
 have hi:=(List.getElem?_eq_some_iff.1 hx).1
 exact⟨by rw[World.ownsRow.cellAt h _ (by omega)];exact flat_get Sp.len hx (j:=0) (by omega),by rw[World.ownsRow.cellAt h _ (by omega)];exact flat_get Sp.len hx (j:=1) (by omega)⟩
theorem own_frzS {w:World} {base g n c:Nat} {e:TypeId} {xs:List Sp} (h:Own w base e 2 Sp.cells (.slice (some ⟨g,0,none⟩) n c) xs) (hn:n=xs.length) (j:Nat):w.frozen? ⟨g,j,none⟩=false:=by
 subst hn;exact World.ownsRow.frozenAt h _
theorem own_putS {w:World} {base g n c i:Nat} {e:TypeId} {xs:List Sp} {x:Sp} (h:Own w base e 2 Sp.cells (.slice (some ⟨g,0,none⟩) n c) xs) (hn:n=xs.length) (hx:xs[i]?=some x) (y:Sp) :
 Own ((w.setCell ⟨g,i*2,none⟩ (.int .i64 y.lo)).setCell ⟨g,i*2+1,none⟩ (.int .i64 y.hi)) base e 2 Sp.cells (.slice (some ⟨g,0,none⟩) n c) (xs.set i y):=by
 have hi:=(List.getElem?_eq_some_iff.1 hx).1
 obtain⟨o1,_,_⟩:=h.put_ Sp.len (i:=i) (j:=0) (x':=⟨y.lo,x.hi⟩) (u:= .int .i64 y.lo) hx (by omega) (by simp[Sp.cells]) hn
 have hx2:(xs.set i (⟨y.lo,x.hi⟩:Sp))[i]?=some ⟨y.lo,x.hi⟩:=List.getElem?_set_self hi
 obtain⟨o2,_,_⟩:=o1.put_ Sp.len (i:=i) (j:=1) (x':=y) (u:= .int .i64 y.hi) hx2 (by omega) (by simp[Sp.cells]) (by rw[List.length_set];exact hn)
 simpa[List.set_set] using o2
def leS (a b:Sp):Prop:=a.lo≤b.lo
theorem leS_trans (a b c:Sp) (h:leS a b) (k:leS b c):leS a c:=Int.le_trans h k
theorem cmpI3_lt {x y:Int}:cmpI3 x y < 0↔x < y:=by
 unfold cmpI3
 split
 ·next h=>exact⟨fun _=>h,fun _=>by decide⟩
 ·next h=>exact⟨fun hc=>by split at hc <;> omega,fun hc=>absurd hc h⟩
set_option maxHeartbeats 4000000 in
set_option maxRecDepth 100000 in
theorem shisort_any (q g n c base:Nat) (xs:List Sp) (w:World) (hn:n=xs.length) (hn9:n≤9)
 (ho:Own w base 99 2 Sp.cells (.slice (some ⟨g,0,none⟩) n c) xs) (hf:∀(x y:Sp) (W:World),Kept (fun b=>b≠g) w W→Calls Tryz.prog 133 #[.agg #[.int .i64 x.lo,.int .i64 x.hi],.agg #[.int .i64 y.lo,.int .i64 y.hi],.pointer (some ⟨q,0,none⟩)] W fun e w''=>e= .returned (.int .i64 (cmpI3 x.lo y.lo))∧Below W.heap.size W w'') :
 Calls Tryz.prog 217 #[.slice (some ⟨g,0,none⟩) n c,.int .i64 0,.int .i64 n,.func (.func 133) #[] #[.pointer (some ⟨q,0,none⟩)]] w fun e w'=>(∃v,e= .returned v)∧∃ys,List.Perm ys xs∧UptoG leS n ys∧Own w' base 99 2 Sp.cells (.slice (some ⟨g,0,none⟩) n c) ys∧Kept (fun b=>b≠g) w w':=by
 have Hn:=hide hn;have Hf:=hide hf;have Ho:=hide ho
 clear hn hf ho
 go_enter Tryz.func217,Tryz.ntmps217
 go_wp2_with fail
 go_loopw [8] (fun iv wr=>∃(i:Nat) (zs:List Sp),1≤i∧iv= .int .i64 i∧Hid (List.Perm zs xs)∧Hid (UptoG leS i zs)∧Hid (Own wr base 99 2 Sp.cells (.slice (some ⟨g,0,none⟩) n c) zs)∧Kept (fun b=>b≠g) w wr) (fun iv _=>n-(intOf iv).toNat)
 case atStart=>exact⟨1,xs,by omega,rfl,hide (List.Perm.refl _),hide (fun p q x y h1 h2=>by omega),Ho,Kept.refl _ _⟩
 case round=>
  obtain⟨i,zs0,hi,rfl,hp0,hu0,ho0,hK0⟩:=hrel
  by_cases hlt:i < n
  ·obtain⟨wo,rfl⟩:∃wo,wo=wr:=⟨wr,rfl⟩
   go_wp2_with fail
   go_loopw [9] (fun jv wr=>∃(j:Nat) (zs:List Sp),j≤i∧jv= .int .i64 j∧Hid (List.Perm zs xs)∧Hid (ButG leS i j zs)∧Hid (Own wr base 99 2 Sp.cells (.slice (some ⟨g,0,none⟩) n c) zs)∧Kept (fun b=>b≠g) w wr) (fun jv _=>(intOf jv).toNat)
   case atStart=>exact⟨i,zs0,Nat.le_refl _,rfl,hp0,hide (ButG.start hu0.out),ho0,hK0⟩
   case round=>
    clear hp0 hu0 ho0 hK0
    obtain⟨j,zs,hj,rfl,hp,hbu,hoz,hKw⟩:=hrel
    have hlz:n=zs.length:=by rw[Hn.out];exact hp.out.length_eq.symm
    obtain⟨hgl,hgb⟩:g < wr.heap.size∧base≤g:=by
     have:=hoz.out.blockG (g:=g) rfl
     exact⟨this.2,this.1⟩
    have Hlz:=hide hlz
    by_cases hj0:j=0
    ·have jz:(j:Int)=0:=by omega
     have j0f:decide ((0:Int) < (j:Int))=false:=decide_eq_false (by omega)
     clear hlz
     go_wp2_with fail
     refine wp_region_held_drew (S:=(fun W=>Below wr.heap.size wr W)) (by kernel_rfl) (by(try dsimp only);exact(Below.refl _ _).drew) (fun hHeld=>?_)
     generalize World.drew wr=Wd4 at hHeld ⊢
     have hbc:=Below.refl Wd4.heap.size Wd4
     iterate 4
      refine tkHl [0,1,2,3] ?_ rfl rfl (Or.inl ⟨by rfl,?_⟩) hHeld ?_
      rotate_left
      ·(intro w _;go_simp;try(with_reducible rfl))
      try simp only[Act.put,tl1,tl2,tl3]
     iterate 12
      refine tkHl [4,5,6,7,8,9,10,11,12,13,14,15] _ rfl rfl (Or.inr ⟨by rfl,rfl⟩) hHeld ?_
      try simp only[Act.put,tl1,tl2,tl3]
     refine tkH 16 ?_ rfl (Or.inl ⟨by rfl,?_⟩) hHeld ?_
     rotate_left
     ·(intro w _;go_simp;try(with_reducible rfl))
     try simp only[Act.put,tl1,tl2,tl3]
     refine wpAnyH_done (by kernel_rfl) ?_ _
     have HKf:=hide (hKw.trans (Kept.all _ hHeld))
     have Hown:=hide (hoz.out.bel hHeld)
     have Hup:=hide (hbu.out.done leS_trans (.inl hj0) hj)
     go_wp2_with fail
     exact⟨⟨i+1,zs,by omega,by go_num,hp,Hup,Hown,HKf.out⟩,by simp[intOf];omega⟩
    ·obtain⟨k,hjk⟩:∃k,j=k+1:=⟨j-1,by omega⟩
     obtain⟨y1,hy1⟩:∃y,zs[j]?=some y:=⟨_,List.getElem?_eq_getElem (by omega)⟩
     obtain⟨y0,hy0⟩:∃y,zs[k]?=some y:=⟨_,List.getElem?_eq_getElem (by omega)⟩
     obtain⟨c1,c1b⟩:=own_sh hoz.out hlz hy1
     obtain⟨c0,c0b⟩:=own_sh hoz.out hlz hy0
     have hkn:j < n:=by rw[hlz];exact(List.getElem?_eq_some_iff.1 hy1).1
     have Hy1:=hide hy1;have Hy0:=hide hy0
     have jt:decide (0 < j)=true:=decide_eq_true (by omega)
     have jm:IntKind.i64.wrap ((j:Int)-1)=(k:Int):=by rw[wrapI (by omega)];omega
     have ik:(k:Int) < (n:Int):=by omega
     have ik1:(j:Int) < (n:Int):=by omega
     have Hjk:=hide hjk
     obtain⟨d,hd⟩:∃d,Hid (d=cmpI3 y1.lo y0.lo):=⟨_,hide rfl⟩
     have Hf1:=Hf.out y1 y0
     rw[←hd.out] at Hf1
     replace Hf1:=hide Hf1
     clear hlz hy1 hy0 hj0 hjk
     go_wp2_with fail
     refine wp_region_held_drew (S:=(fun W=>Below wr.heap.size wr W)) (by kernel_rfl) (by(try dsimp only);exact(Below.refl _ _).drew) (fun hHeld=>?_)
     generalize World.drew wr=Wd4 at hHeld ⊢
     have hbc:=Below.refl Wd4.heap.size Wd4
     iterate 12
      refine tkHl [0,1,2,3,4,5,6,7,9,10,11,12] ?_ rfl rfl (Or.inl ⟨by rfl,?_⟩) hHeld ?_
      rotate_left
      ·(intro w _;go_simp;try(with_reducible rfl))
      try simp only[Act.put,tl1,tl2,tl3]
     iterate 2
      refine tkHl [8,13] ?_ rfl rfl (Or.inl ⟨by rfl,?_⟩) hHeld ?_
      rotate_left
      ·(intro w hSw;(try dsimp only at hSw);have x1:=(hSw.cell (p:=⟨g,j*2,none⟩) hgl).trans c1;have x1b:=(hSw.cell (p:=⟨g,j*2+1,none⟩) hgl).trans c1b;have x0:=(hSw.cell (p:=⟨g,k*2,none⟩) hgl).trans c0;have x0b:=(hSw.cell (p:=⟨g,k*2+1,none⟩) hgl).trans c0b;go_simp;try(with_reducible rfl))
      try simp only[Act.put,tl1,tl2,tl3]
     refine wpAnyH_ready (rs:=[14]) (by kernel_rfl) (by simp) ?_
     refine AllReadyH.cons (o:=⟨_,_,_,_,_,_⟩) rfl (fun K hK=>?_) AllReadyH.nil
     go_simp
     refine(Hf1.out _ (hKw.trans (Kept.all _ hHeld))).mono ?_
     rintro e V32 ⟨rfl,hb⟩
     go_wp2_with fail
     have hHeldN:=hHeld.trans (hb.mono hHeld.size)
     have hbc:=hbc.trans (hb.mono hbc.size)
     refine hK.out _ _ ?_ (fun hHeld2=>?_)
     ·exact hHeldN
     clear hK K hHeld hHeldN hb;have hHeld:=hHeld2;clear hHeld2
     try simp only[Act.put,tl1,tl2,tl3]
     iterate 2
      refine tkHl [15,16] ?_ rfl rfl (Or.inl ⟨by rfl,?_⟩) hHeld ?_
      rotate_left
      ·(intro w _;go_simp;try(with_reducible rfl))
      try simp only[Act.put,tl1,tl2,tl3]
     refine wpAnyH_done (by kernel_rfl) ?_ _
     have hK4:=hKw.trans (Kept.all (fun b=>b≠g) hHeld)
     have o4:=hoz.out.bel hHeld
     obtain⟨w4,rfl⟩:∃w4,w4=V32:=⟨V32,rfl⟩
     by_cases hd0:d < 0
     ·have hle:leS y1 y0:=by
       have:=hd0
       rw[hd.out,cmpI3_lt] at this
       exact Int.le_of_lt this
      have Hbs:Hid (ButG leS i k ((zs.set j y0).set k y1)):=by have h:=ButG.swap (j:=k) (by have:=hbu.out;rwa [Hjk.out] at this) (by have:=Hjk.out;omega) Hy0.out (by have:=Hy1.out;rwa [Hjk.out] at this) hle;rw[←Hjk.out] at h;exact hide h
      have Hps:=hide ((swap_permG Hy1.out Hy0.out).trans hp.out)
      have o4d:=o4.below (Below.refl w4.heap.size w4).drew
      have hlz:=Hlz.out
      have hx2:(zs.set j y0)[k]?=some y0:=by rw[List.getElem?_set_ne (by have:=Hjk.out;omega)];exact Hy0.out
      have o5:=own_putS o4d hlz Hy1.out y0
      have o6:=own_putS o5 (by rw[List.length_set];exact hlz) hx2 y1
      obtain⟨r1,r1b⟩:=own_sh o4d hlz Hy1.out
      obtain⟨r0,r0b⟩:=own_sh o4d hlz Hy0.out
      obtain⟨s0,s0b⟩:=own_sh o5 (by rw[List.length_set];exact hlz) hx2
      have Hfin:=hide o6
      obtain⟨t1,t1b⟩:=own_sh o4 hlz Hy1.out
      obtain⟨t0,t0b⟩:=own_sh o4 hlz Hy0.out
      have fz:=fun q=>own_frzS o4 Hlz.out q
      have fzd:=fun q=>own_frzS o4d Hlz.out q
      have fz5:=fun q=>own_frzS o5 (by rw[List.length_set];exact Hlz.out) q
      have jne:¬j=k:=by have:=Hjk.out;omega
      have jne2:¬k=j:=by have:=Hjk.out;omega
      have jne3:¬j*2=k*2:=by have:=Hjk.out;omega
      have a1:(w4.setCell ⟨g,j*2,none⟩ (.int .i64 y0.lo)).cell? ⟨g,k*2,none⟩=some (.int .i64 y0.lo):=by rw[World.cell?_setCell_other _ _ _ _ (by intro h;injection h with _ h _;omega)];exact t0
      have a2:(w4.setCell ⟨g,j*2+1,none⟩ (.int .i64 y0.hi)).cell? ⟨g,k*2+1,none⟩=some (.int .i64 y0.hi):=by rw[World.cell?_setCell_other _ _ _ _ (by intro h;injection h with _ h _;omega)];exact t0b
      have a3:((w4.setCell ⟨g,j*2,none⟩ (.int .i64 y0.lo)).setCell ⟨g,j*2+1,none⟩ (.int .i64 y0.hi)).cell? ⟨g,k*2+1,none⟩=some (.int .i64 y0.hi):=by rw[World.cell?_setCell_other _ _ _ _ (by intro h;injection h with _ h _;omega),World.cell?_setCell_other _ _ _ _ (by intro h;injection h with _ h _;omega)];exact t0b
      have jg0:(0:Int)≤(j:Int):=by omega
      have kg0:(0:Int)≤(k:Int):=by omega
      have HK6:=hide ((((((hK4.trans (Kept.drew _ w4 1)).trans (Kept.setCell (w4.drewN 1) ⟨g,j*2,none⟩ (.int .i64 y0.lo))).trans (Kept.setCell _ ⟨g,j*2+1,none⟩ (.int .i64 y0.hi))).trans (Kept.setCell _ ⟨g,k*2,none⟩ (.int .i64 y1.lo))).trans (Kept.setCell _ ⟨g,k*2+1,none⟩ (.int .i64 y1.hi))))
      clear hx2 o4d o5 o6 hlz hle c1 c0 c1b c0b hK4 o4 hHeld hbc hgl
      go_wp2_with fail
      go_region
      go_wp2_with fail
      exact⟨⟨k,(zs.set j y0).set k y1,by have:=Hjk.out;omega,by go_num,Hps,Hbs,Hfin,HK6.out⟩,by simp[intOf];have:=Hjk.out;omega⟩
     ·have hle:leS y0 y1:=by
       have:=hd0
       rw[hd.out,cmpI3_lt] at this
       unfold leS
       omega
      have HKf:=hide hK4
      have Hown:=hide o4
      have Hup:=hide (hbu.out.done leS_trans (.inr ⟨y0,y1,by rw[Hjk.out];exact Hy0.out,Hy1.out,hle⟩) hj)
      go_wp2_with fail
      exact⟨⟨i+1,zs,by omega,by go_num,hp,Hup,Hown,HKf.out⟩,by simp[intOf];omega⟩
  ·go_wp2_with fail
   go_end0
   exact⟨⟨_,rfl⟩,zs0,hp0.out,fun p q x y h1 h2=>hu0.out p q x y h1 (by omega),ho0.out,hK0⟩
set_option maxHeartbeats 4000000 in
set_option maxRecDepth 100000 in
theorem shstable_any (v fn:Value) (n:Nat) (w:World) (R:World→Prop) (hn:n≤9) (h:Calls Tryz.prog 217 #[v,.int .i64 0,.int .i64 n,fn] w fun e w'=>(∃v,e= .returned v)∧R w') :
 Calls Tryz.prog 183 #[v,.int .i64 n,fn] w fun e w'=>(∃v,e= .returned v)∧R w':=by
 have H:=hide h
 clear h
 have h20:¬(20:Int)≤(n:Int):=by omega
 have h20b:¬(20:Int) < (n:Int):=by omega
 go_enter Tryz.func183,Tryz.ntmps183
 go_wp2_with fail
 go_loopw [7,8] (fun a b wr=>a= .int .i64 0∧b= .int .i64 20∧wr=w) (fun _ _ _=>0)
 case atStart=>exact⟨rfl,rfl,rfl⟩
 case round=>
  obtain⟨rfl,rfl,rfl⟩:=hrel
  go_wp2_with fail
  refine H.out.mono ?_
  rintro e w1 ⟨⟨u,rfl⟩,hR⟩
  have HR:=hide hR
  clear hR
  go_wp2_with fail
  go_loopw [6] (fun a wr=>a= .int .i64 20∧wr=w1) (fun _ _=>0)
  case atStart=>exact⟨rfl,rfl⟩
  case round=>
   obtain⟨rfl,rfl⟩:=hrel
   go_wp2_with fail
   go_end0
   exact⟨⟨_,rfl⟩,HR.out⟩
theorem shsort_any (A:Option Addr) (n c:Nat) (fn:Value) (w:World) (R:World→Prop) (hn:n≤9) (h:Calls Tryz.prog 217 #[.slice A n c,.int .i64 0,.int .i64 n,fn] w fun e w'=>(∃v,e= .returned v)∧R w') :
 Calls Tryz.prog 132 #[.slice A n c,fn] w fun e w'=>(∃v,e= .returned v)∧R w':=by
 have H:=hide (shstable_any (.slice A n c) fn n w R hn h)
 clear h
 go_enter Tryz.func132,Tryz.ntmps132
 go_wp2_with fail
 refine H.out.mono ?_
 rintro e w1 ⟨⟨u,rfl⟩,hR⟩
 go_wp2_with fail
 go_end0
 exact⟨⟨_,rfl⟩,hR⟩
set_option maxHeartbeats 4000000 in
set_option maxRecDepth 100000 in
theorem shordered_any (g n c base bb:Nat) (xs:List Sp) (w:World) (hn:n=xs.length) (hn9:n≤9) (ho:Own w base 99 2 Sp.cells (.slice (some ⟨g,0,none⟩) n c) xs) (hat:At w bb [.func (.func 63) #[] #[]]) (hne:bb≠g) (hb:base≤w.heap.size) :
 Calls Tryz.prog 62 #[.slice (some ⟨g,0,none⟩) n c,.slice (some ⟨bb,0,none⟩) 1 1] w fun e w'=>e= .returned (.slice (some ⟨g,0,none⟩) n c)∧∃ys,List.Perm ys xs∧UptoG leS n ys∧Own w' base 99 2 Sp.cells (.slice (some ⟨g,0,none⟩) n c) ys∧Kept (fun b=>b≠g) w w':=by
 obtain⟨b3,w1,e3,ew1,hx3,hb1,hz3⟩:=mk_bx w #[.slice (some ⟨bb,0,none⟩) 1 1] 242
 have hg:=ho.blockG (g:=g) rfl
 have hne3:b3≠g:=by have:=e3.out;omega
 have HX3:=hide (show Bx w1 b3 [.slice (some ⟨bb,0,none⟩) 1 1] from hx3)
 have HA:=hide (hat.below hb1)
 have HB:=hide hb1
 have H1:=hide (shsort_any (some ⟨g,0,none⟩) n c _ w1 _ hn9 (shisort_any b3 g n c base xs w1 hn hn9 (ho.bel hb1) fun x y W hk=>shcmp_any x y b3 bb W ((HX3.out.kept hk hne3).at_) (HA.out.kept hk hne)))
 have hmf:∀(fn:Fn) (first cap:Array Value) (w:World),(Instr.makeFunc fn first cap).run Tryz.prog w= .ok (.func fn first cap) w:=fun _ _ _ _=>rfl
 clear hx3 hb1 hz3 ho hat hn
 go_enter Tryz.func62,Tryz.ntmps62
 go_upto_region 1 with fail
 rw[ew1.out,e3.out]
 go_wp2_with fail
 refine H1.out.mono ?_
 rintro e w' ⟨⟨v1,rfl⟩,ys,p1,p2,p3,p4⟩
 have P3:=hide p3;have P4:=hide ((Kept.all (fun b=>b≠g) HB.out).trans p4)
 clear p3 p4 H1
 go_wp2_with fail
 go_returns
 exact⟨rfl,ys,p1,p2,P3.out,P4.out⟩
end Go.Proofs.YtiioegopckoldaaGreatDoor
