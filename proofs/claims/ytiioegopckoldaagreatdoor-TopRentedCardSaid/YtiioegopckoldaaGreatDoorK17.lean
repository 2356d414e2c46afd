/- lemmas for topRented_holds: PB3 PB5. No conditions. -/
import Derived.Test.YtiioegopckoldaaGreatDoorK16
import Derived.BigRegion
set_option linter.unusedVariables false
set_option linter.unusedSimpArgs false
namespace Go.Proofs.YtiioegopckoldaaGreatDoor
open Go.RowKit Go.Shelf
theorem swap_permI {l:List Int} {i j:Nat} {x y:Int} (hx:l[i]?=some x) (hy:l[j]?=some y):List.Perm ((l.set i y).set j x) l:=by
 obtain⟨h1,rfl⟩:=List.getElem?_eq_some_iff.1 hx
 obtain⟨h2,rfl⟩:=List.getElem?_eq_some_iff.1 hy
 exact List.set_set_perm h1 h2
def Upto (le:Int→Int→Prop) (i:Nat) (l:List Int):Prop:=∀p q x y,p < q→q < i→l[p]?=some x→l[q]?=some y→le x y
structure But1 (le:Int→Int→Prop) (i j:Nat) (l:List Int):Prop where
 ord:∀p q x y,p < q→q≤i→p≠j→q≠j→l[p]?=some x→l[q]?=some y→le x y
 beh:∀q x y,j < q→q≤i→l[j]?=some x→l[q]?=some y→le x y
theorem But1.start {le:Int→Int→Prop} {i:Nat} {l:List Int} (h:Upto le i l):But1 le i i l:=
 ⟨fun p q x y hpq hq hp hq' h1 h2=>h p q x y hpq (by omega) h1 h2,fun q x y h1 h2=>by omega⟩
theorem But1.done {le:Int→Int→Prop} (tr:∀a b c,le a b→le b c→le a c) {i j:Nat} {l:List Int} (h:But1 le i j l) (hj:j=0∨∃x y,l[j-1]?=some x∧l[j]?=some y∧le x y) (hji:j≤i):Upto le (i+1) l:=by
 intro p q x y hpq hq h1 h2
 by_cases hqj:q=j
 ·subst hqj
  rcases hj with hj | ⟨a,b,ha,hb,hab⟩
  ·omega
  ·rw[hb] at h2;injection h2 with h2;subst h2
   by_cases hp:p=q-1
   ·subst hp;rw[ha] at h1;injection h1 with h1;subst h1;exact hab
   ·exact tr _ _ _ (h.ord p (q-1) x a (by omega) (by omega) (by omega) (by omega) h1 ha) hab
 ·by_cases hpj:p=j
  ·subst hpj;exact h.beh q x y hpq (by omega) h1 h2
  ·exact h.ord p q x y hpq (by omega) hpj hqj h1 h2
theorem But1.swap {le:Int→Int→Prop} {i j:Nat} {l:List Int} {x y:Int} (h:But1 le i (j+1) l) (hji:j+1≤i) (hx:l[j]?=some x) (hy:l[j+1]?=some y) (hyx:le y x):But1 le i j ((l.set (j+1) x).set j y):=by
 have hl1:j+1 < l.length:=(List.getElem?_eq_some_iff.1 hy).1
 have g:∀k,((l.set (j+1) x).set j y)[k]?=if k=j then some y else if k=j+1 then some x else l[k]?:=by
  intro k
  by_cases h1:k=j
  ·rw[if_pos h1,h1,List.getElem?_set_self (by rw[List.length_set];omega)]
  ·rw[if_neg h1,List.getElem?_set_ne (fun e=>h1 e.symm)]
   by_cases h2:k=j+1
   ·rw[if_pos h2,h2,List.getElem?_set_self hl1]
   ·rw[if_neg h2,List.getElem?_set_ne (fun e=>h2 e.symm)]
 refine⟨fun p q a b hpq hq hp hq' h1 h2=>?_,fun q a b hq1 hq2 h1 h2=>?_⟩
 ·rw[g] at h1 h2
  rw[if_neg hp] at h1
  rw[if_neg hq'] at h2
  by_cases hp1:p=j+1
  ·rw[if_pos hp1] at h1
   rw[if_neg (by omega)] at h2
   injection h1 with h1;subst h1
   exact h.ord j q x b (by omega) hq (by omega) (by omega) hx h2
  ·rw[if_neg hp1] at h1
   by_cases hq1:q=j+1
   ·rw[if_pos hq1] at h2
    injection h2 with h2;subst h2
    exact h.ord p j a x (by omega) (by omega) (by omega) (by omega) h1 hx
   ·rw[if_neg hq1] at h2
    exact h.ord p q a b hpq hq hp1 hq1 h1 h2
 ·rw[g] at h1 h2
  rw[if_pos rfl] at h1
  injection h1 with h1;subst h1
  rw[if_neg (by omega)] at h2
  by_cases hq3:q=j+1
  ·rw[if_pos hq3] at h2;injection h2 with h2;subst h2;exact hyx
  ·rw[if_neg hq3] at h2
   exact h.beh q y b (by omega) hq2 hy h2
theorem own_int {w:World} {base g n c i:Nat} {e:TypeId} {xs:List Int} {x:Int} (h:Own w base e 1 icell (.slice (some ⟨g,0,none⟩) n c) xs) (hn:n=xs.length) (hx:xs[i]?=some x):w.cell? ⟨g,i,none⟩=some (.int .i64 x):=by
 subst hn
 have hi:=(List.getElem?_eq_some_iff.1 hx).1
 rw[World.ownsRow.cellAt h _ (by simpa using hi)]
 have:=flat_get icell_len hx (j:=0) (by omega)
 simpa[icell] using this
theorem own_frzI {w:World} {base g n c:Nat} {e:TypeId} {xs:List Int} (h:Own w base e 1 icell (.slice (some ⟨g,0,none⟩) n c) xs) (hn:n=xs.length) (j:Nat):w.frozen? ⟨g,j,none⟩=false:=by
 subst hn;exact World.ownsRow.frozenAt h _
set_option maxHeartbeats 4000000 in
set_option maxRecDepth 100000 in
theorem isort_any (f:FuncId) (cp:Array Value) (le:Int→Int→Prop) (g n c base:Nat) (xs:List Int) (w:World) (eg:∀args w,(callFunc f args).run Tryz.prog w= .ok (.enter f args) w) (tr:∀a b c,le a b→le b c→le a c) (hn:n=xs.length) (hn8:n≤8)
 (ho:Own w base 3 1 icell (.slice (some ⟨g,0,none⟩) n c) xs) (hf:∀x y W,x∈xs→y∈xs→Kept (fun b=>b≠g) w W→Calls Tryz.prog f (#[.int .i64 x,.int .i64 y] ++ cp) W fun e w''=>∃d:Int,e= .returned (.int .i64 d)∧(d < 0→le x y)∧(¬d < 0→le y x)∧Below W.heap.size W w'') :
 Calls Tryz.prog 237 #[.slice (some ⟨g,0,none⟩) n c,.int .i64 0,.int .i64 n,.func (.func f) #[] cp] w fun e w'=>(∃v,e= .returned v)∧∃ys,List.Perm ys xs∧Upto le n ys∧Own w' base 3 1 icell (.slice (some ⟨g,0,none⟩) n c) ys∧Kept (fun b=>b≠g) w w':=by
 have Hn:=hide hn;have Hf:=hide hf;have Ho:=hide ho
 clear hn hf ho
 go_enter Tryz.func237,Tryz.ntmps237
 go_wp2_with fail
 go_loopw [8] (fun iv wr=>∃(i:Nat) (zs:List Int),1≤i∧iv= .int .i64 i∧Hid (List.Perm zs xs)∧Hid (Upto le i zs)∧Hid (Own wr base 3 1 icell (.slice (some ⟨g,0,none⟩) n c) zs)∧Kept (fun b=>b≠g) w wr) (fun iv _=>n-(intOf iv).toNat)
 case atStart=>exact⟨1,xs,by omega,rfl,hide (List.Perm.refl _),hide (fun p q x y h1 h2=>by omega),Ho,Kept.refl _ _⟩
 case round=>
  obtain⟨i,zs0,hi,rfl,hp0,hu0,ho0,hK0⟩:=hrel
  by_cases hlt:i < n
  ·obtain⟨wo,rfl⟩:∃wo,wo=wr:=⟨wr,rfl⟩
   go_wp2_with fail
   go_loopw [9] (fun jv wr=>∃(j:Nat) (zs:List Int),j≤i∧jv= .int .i64 j∧Hid (List.Perm zs xs)∧Hid (But1 le i j zs)∧Hid (Own wr base 3 1 icell (.slice (some ⟨g,0,none⟩) n c) zs)∧Kept (fun b=>b≠g) w wr) (fun jv _=>(intOf jv).toNat)
   case atStart=>exact⟨i,zs0,Nat.le_refl _,rfl,hp0,hide (But1.start hu0.out),ho0,hK0⟩
   case round=>
    clear hp0 hu0 ho0 hK0
    obtain⟨j,zs,hj,rfl,hp,hbu,hoz,hKw⟩:=hrel
    have hlz:n=zs.length:=by rw[Hn.out];exact hp.out.length_eq.symm
    obtain⟨hgl,hgb⟩:g < wr.heap.size∧base≤g:=by
     have:=hoz.out.blockG (g:=g) rfl
     exact⟨this.2,this.1⟩
    have Hlz:=hide hlz
    by_cases hj0:j=0
    ·have jz:(j:Int)=0:=by omega
     have j0f:decide ((0:Int) < (j:Int))=false:=decide_eq_false (by omega)
     clear hlz
     go_wp2_with fail
     refine wp_region_held_drew (S:=(fun W=>Below wr.heap.size wr W)) (by kernel_rfl) (by(try dsimp only);exact(Below.refl _ _).drew) (fun hHeld=>?_)
     generalize World.drew wr=Wd4 at hHeld ⊢
     have hbc:=Below.refl Wd4.heap.size Wd4
     iterate 4
      refine tkHl [0,1,2,3] ?_ rfl rfl (Or.inl ⟨by rfl,?_⟩) hHeld ?_
      rotate_left
      ·(intro w _;go_simp;try(with_reducible rfl))
      try simp only[Act.put,tl1,tl2,tl3]
     iterate 12
      refine tkHl [4,5,6,7,8,9,10,11,12,13,14,15] _ rfl rfl (Or.inr ⟨by rfl,rfl⟩) hHeld ?_
      try simp only[Act.put,tl1,tl2,tl3]
     refine tkH 16 ?_ rfl (Or.inl ⟨by rfl,?_⟩) hHeld ?_
     rotate_left
     ·(intro w _;go_simp;try(with_reducible rfl))
     try simp only[Act.put,tl1,tl2,tl3]
     refine wpAnyH_done (by kernel_rfl) ?_ _
     have HKf:=hide (hKw.trans (Kept.all _ hHeld))
     have Hown:=hide (hoz.out.bel hHeld)
     have Hup:=hide (hbu.out.done tr (.inl hj0) hj)
     go_wp2_with fail
     exact⟨⟨i+1,zs,by omega,by go_num,hp,Hup,Hown,HKf.out⟩,by simp[intOf];omega⟩
    ·obtain⟨k,hjk⟩:∃k,j=k+1:=⟨j-1,by omega⟩
     obtain⟨y1,hy1⟩:∃y,zs[j]?=some y:=⟨_,List.getElem?_eq_getElem (by omega)⟩
     obtain⟨y0,hy0⟩:∃y,zs[k]?=some y:=⟨_,List.getElem?_eq_getElem (by omega)⟩
     have c1:=own_int hoz.out hlz hy1
     have c0:=own_int hoz.out hlz hy0
     have hm1:y1∈xs:=hp.out.mem_iff.1 (List.mem_of_getElem? hy1)
     have hm0:y0∈xs:=hp.out.mem_iff.1 (List.mem_of_getElem? hy0)
     have hkn:j < n:=by rw[hlz];exact(List.getElem?_eq_some_iff.1 hy1).1
     have Hy1:=hide hy1;have Hy0:=hide hy0
     have jt:decide (0 < j)=true:=decide_eq_true (by omega)
     have jm:IntKind.i64.wrap ((j:Int)-1)=(k:Int):=by rw[wrapI (by omega)];omega
     have ik:(k:Int) < (n:Int):=by omega
     have ik1:(j:Int) < (n:Int):=by omega
     have Hjk:=hide hjk
     clear hlz hy1 hy0 hj0 hjk
     go_wp2_with fail
     refine wp_region_held_drew (S:=(fun W=>Below wr.heap.size wr W)) (by kernel_rfl) (by(try dsimp only);exact(Below.refl _ _).drew) (fun hHeld=>?_)
     generalize World.drew wr=Wd4 at hHeld ⊢
     have hbc:=Below.refl Wd4.heap.size Wd4
     iterate 12
      refine tkHl [0,1,2,3,4,5,6,7,9,10,11,12] ?_ rfl rfl (Or.inl ⟨by rfl,?_⟩) hHeld ?_
      rotate_left
      ·(intro w _;go_simp;try(with_reducible rfl))
      try simp only[Act.put,tl1,tl2,tl3]
     iterate 2
      refine tkHl [8,13] ?_ rfl rfl (Or.inl ⟨by rfl,?_⟩) hHeld ?_
      rotate_left
      ·(intro w hSw;(try dsimp only at hSw);have x1:=(hSw.cell (p:=⟨g,j,none⟩) hgl).trans c1;have x0:=(hSw.cell (p:=⟨g,k,none⟩) hgl).trans c0;go_simp;try(with_reducible rfl))
      try simp only[Act.put,tl1,tl2,tl3]
     refine wpAnyH_ready (rs:=[14]) (by kernel_rfl) (by simp) ?_
     refine AllReadyH.cons (o:=⟨_,_,_,_,_,_⟩) rfl (fun K hK=>?_) AllReadyH.nil
     go_simp
     refine(Hf.out y1 y0 _ hm1 hm0 (hKw.trans (Kept.all _ hHeld))).mono ?_
     rintro e V32 ⟨d,rfl,hd1,hd2,hb⟩
     have hld:=hb
     go_wp2_with fail
     have hHeldN:=hHeld.trans (hb.mono hHeld.size)
     have hbc:=hbc.trans (hb.mono hbc.size)
     refine hK.out _ _ ?_ (fun hHeld2=>?_)
     ·exact hHeldN
     clear hK K hHeld hHeldN hb;have hHeld:=hHeld2;clear hHeld2
     try simp only[Act.put,tl1,tl2,tl3]
     iterate 2
      refine tkHl [15,16] ?_ rfl rfl (Or.inl ⟨by rfl,?_⟩) hHeld ?_
      rotate_left
      ·(intro w _;go_simp;try(with_reducible rfl))
      try simp only[Act.put,tl1,tl2,tl3]
     refine wpAnyH_done (by kernel_rfl) ?_ _
     have hK4:=hKw.trans (Kept.all (fun b=>b≠g) hHeld)
     have o4:=hoz.out.bel hHeld
     obtain⟨w4,rfl⟩:∃w4,w4=V32:=⟨V32,rfl⟩
     by_cases hd0:d < 0
     ·have hle:=hd1 hd0
      have Hbs:Hid (But1 le i k ((zs.set j y0).set k y1)):=by have h:=But1.swap (j:=k) (by have:=hbu.out;rwa [Hjk.out] at this) (by have:=Hjk.out;omega) Hy0.out (by have:=Hy1.out;rwa [Hjk.out] at this) hle;rw[←Hjk.out] at h;exact hide h
      have Hps:=hide ((swap_permI Hy1.out Hy0.out).trans hp.out)
      have o4d:=o4.below (Below.refl w4.heap.size w4).drew
      have hlz:=Hlz.out
      have hx2:(zs.set j y0)[k]?=some y0:=by rw[List.getElem?_set_ne (by have:=Hjk.out;omega)];exact Hy0.out
      obtain⟨o5,⟨u1,z1⟩,f1⟩:=o4d.put_ icell_len (i:=j) (j:=0) (x':=y0) (u:= .int .i64 y0) Hy1.out (by omega) (by simp[icell]) hlz
      obtain⟨o6,⟨u2,z2⟩,f2⟩:=o5.put_ icell_len (i:=k) (j:=0) (x':=y1) (u:= .int .i64 y1) hx2 (by omega) (by simp[icell]) (by rw[List.length_set];exact hlz)
      have r1:=own_int o4d hlz Hy1.out
      have r0:=own_int o4d hlz Hy0.out
      simp only[Nat.mul_one,Nat.add_zero,Nat.zero_add] at o5 o6 z1 z2 f1 f2
      have Hfin:=hide o6
      have z2a:(w4.setCell ⟨g,j,none⟩ (.int .i64 y0)).cell? ⟨g,k,none⟩=some u2:=z2
      have z2b:(w4.setCell ⟨g,j,none⟩ (.int .i64 y0)).drew.cell? ⟨g,k,none⟩=some u2:=z2
      have f2a:w4.frozen? ⟨g,k,none⟩=false:=own_frzI o4 Hlz.out _
      have f1a:w4.frozen? ⟨g,j,none⟩=false:=own_frzI o4 Hlz.out _
      have r1a:w4.cell? ⟨g,j,none⟩=some (.int .i64 y1):=r1
      have r0a:w4.cell? ⟨g,k,none⟩=some (.int .i64 y0):=r0
      have jg0:(0:Int)≤(j:Int):=by omega
      have kg0:(0:Int)≤(k:Int):=by omega
      have HK6:=hide (((hK4.trans (Kept.drew _ w4 1)).trans (Kept.setCell (w4.drewN 1) ⟨g,j,none⟩ (.int .i64 y0))).trans (Kept.setCell _ ⟨g,k,none⟩ (.int .i64 y1)))
      clear z1 hx2 o4d o5 o6 hlz hd1 hd2 hle c1 c0 hK4 o4 hHeld hbc hgl
      go_wp2_with fail
      go_region
      go_wp2_with fail
      exact⟨⟨k,(zs.set j y0).set k y1,by have:=Hjk.out;omega,by go_num,Hps,Hbs,Hfin,HK6.out⟩,by simp[intOf];have:=Hjk.out;omega⟩
     ·have hle:=hd2 (by omega)
      have HKf:=hide hK4
      have Hown:=hide o4
      have Hup:=hide (hbu.out.done tr (.inr ⟨y0,y1,by rw[Hjk.out];exact Hy0.out,Hy1.out,hle⟩) hj)
      clear hd1 hd2
      go_wp2_with fail
      exact⟨⟨i+1,zs,by omega,by go_num,hp,Hup,Hown,HKf.out⟩,by simp[intOf];omega⟩
  ·go_wp2_with fail
   go_end0
   exact⟨⟨_,rfl⟩,zs0,hp0.out,fun p q x y h1 h2=>hu0.out p q x y h1 (by omega),ho0.out,hK0⟩
end Go.Proofs.YtiioegopckoldaaGreatDoor
namespace Go.Proofs.YtiioegopckoldaaGreatDoor
open Go.RowKit Go.Shelf
theorem below_of_eqW {w W:World} (h:W=w):Below w.heap.size w W:=h ▸ Below.refl _ _
theorem isort0 (v fn:Value) (w:World):Calls Tryz.prog 237 #[v,.int .i64 0,.int .i64 0,fn] w fun e w'=>(∃v,e= .returned v)∧w'=w:=by
 go_enter Tryz.func237,Tryz.ntmps237
 go_wp2_with fail
 go_loopw [8] (fun iv wr=>iv= .int .i64 1∧wr=w) (fun _ _=>0)
 case atStart=>exact⟨rfl,rfl⟩
 case round=>
  obtain⟨rfl,rfl⟩:=hrel
  go_wp2_with fail
  go_end0
  exact⟨⟨_,rfl⟩,rfl⟩
set_option maxHeartbeats 4000000 in
set_option maxRecDepth 100000 in
theorem stable_any (v fn:Value) (n:Nat) (w:World) (R:World→Prop) (hn:n≤8) (h:Calls Tryz.prog 237 #[v,.int .i64 0,.int .i64 n,fn] w fun e w'=>(∃v,e= .returned v)∧R w') :
 Calls Tryz.prog 205 #[v,.int .i64 n,fn] w fun e w'=>(∃v,e= .returned v)∧R w':=by
 have H:=hide h
 clear h
 have h20:¬(20:Int)≤(n:Int):=by omega
 have h20b:¬(20:Int) < (n:Int):=by omega
 go_enter Tryz.func205,Tryz.ntmps205
 go_wp2_with fail
 go_loopw [7,8] (fun a b wr=>a= .int .i64 0∧b= .int .i64 20∧wr=w) (fun _ _ _=>0)
 case atStart=>exact⟨rfl,rfl,rfl⟩
 case round=>
  obtain⟨rfl,rfl,rfl⟩:=hrel
  go_wp2_with fail
  refine H.out.mono ?_
  rintro e w1 ⟨⟨u,rfl⟩,hR⟩
  have HR:=hide hR
  clear hR
  go_wp2_with fail
  go_loopw [6] (fun a wr=>a= .int .i64 20∧wr=w1) (fun _ _=>0)
  case atStart=>exact⟨rfl,rfl⟩
  case round=>
   obtain⟨rfl,rfl⟩:=hrel
   go_wp2_with fail
   go_end0
   exact⟨⟨_,rfl⟩,HR.out⟩
theorem sortStable_any (A:Option Addr) (n c:Nat) (fn:Value) (w:World) (R:World→Prop) (hn:n≤8) (h:Calls Tryz.prog 237 #[.slice A n c,.int .i64 0,.int .i64 n,fn] w fun e w'=>(∃v,e= .returned v)∧R w') :
 Calls Tryz.prog 169 #[.slice A n c,fn] w fun e w'=>(∃v,e= .returned v)∧R w':=by
 have H:=hide (stable_any (.slice A n c) fn n w R hn h)
 clear h
 go_enter Tryz.func169,Tryz.ntmps169
 go_wp2_with fail
 refine H.out.mono ?_
 rintro e w1 ⟨⟨u,rfl⟩,hR⟩
 go_wp2_with fail
 go_end0
 exact⟨⟨_,rfl⟩,hR⟩
theorem enters_cost1:∀args w,(callFunc 113 args).run Tryz.prog w= .ok (.enter 113 args) w:=enters_of Tryz.func113 (by kernel_rfl) rfl
theorem enters_cost2:∀args w,(callFunc 115 args).run Tryz.prog w= .ok (.enter 115 args) w:=enters_of Tryz.func115 (by kernel_rfl) rfl
theorem enters_ordered1:∀args w,(callFunc 170 args).run Tryz.prog w= .ok (.enter 170 args) w:=enters_of Tryz.func170 (by kernel_rfl) rfl
set_option maxHeartbeats 4000000 in
set_option maxRecDepth 100000 in
theorem cost1_any (B:Brs) (ns pr:List Int) (b x y:Nat) (w:World) (hB:BAt w B ns pr) (hX:At w b B.cells) (hx:x < B.r) (hy:y < B.r) :
 Calls Tryz.prog 113 #[.int .i64 (x:Nat),.int .i64 (y:Nat),.pointer (some ⟨b,0,none⟩)] w fun e w'=>e= .returned (.int .i64 (cmpI (pr.getD y 0) (pr.getD x 0)))∧Below w.heap.size w w':=by
 obtain⟨q,o,p0,hA,hql,hp0,c0⟩:=hB.rp.int (i:=x) (by rw[←hB.er];exact hx)
 obtain⟨q',o',p1,hA',_,hp1,c1⟩:=hB.rp.int (i:=y) (by rw[←hB.er];exact hy)
 rw[hA] at hA'
 injection hA' with hA'
 injection hA' with e1 e2
 subst e1 e2
 have g0:pr.getD x 0=p0:=by rw[List.getD_eq_getElem?_getD,hp0];rfl
 have g1:pr.getD y 0=p1:=by rw[List.getD_eq_getElem?_getD,hp1];rfl
 rw[g0,g1]
 obtain⟨r,hr⟩:∃r,r=B.r:=⟨_,rfl⟩
 have z:=fun (W:World) (hb:Below w.heap.size w W)=>hB.c17 (hX.bel hb)
 rw[←hr] at hx hy
 obtain⟨cp,hcp⟩:∃cp,cp=B.cp:=⟨_,rfl⟩
 rw[hA,←hr,←hcp] at z
 have Z:=hide z
 have ix:(x:Int) < (r:Int):=by omega
 have iy:(y:Int) < (r:Int):=by omega
 clear hB hX hp0 hp1 g0 g1 hr hcp z hA
 go_enter Tryz.func113,Tryz.ntmps113
 go_wp2_with fail
 refine wp_region_held_drew (S:=(fun W=>Below w.heap.size w W)) (by kernel_rfl) (by(try dsimp only);exact(Below.refl _ _).drew) (fun hHeld=>?_)
 generalize World.drew w=Wd1 at hHeld ⊢
 have hbc:=Below.refl Wd1.heap.size Wd1
 iterate 4
  refine tkHl [0,2,5,7] ?_ rfl rfl (Or.inl ⟨by rfl,?_⟩) hHeld ?_
  rotate_left
  ·(intro w _;go_simp;try(with_reducible rfl))
  try simp only[Act.put,tl1,tl2,tl3]
 iterate 2
  refine tkHl [1,6] ?_ rfl rfl (Or.inl ⟨by rfl,?_⟩) hHeld ?_
  rotate_left
  ·(intro w hSw;(try dsimp only at hSw);have z17:=Z.out _ hSw;have z1:=(hSw.cell (p:=⟨q,o+y,none⟩) hql).trans c1;have z0:=(hSw.cell (p:=⟨q,o+x,none⟩) hql).trans c0;go_simp;try(with_reducible rfl))
  try simp only[Act.put,tl1,tl2,tl3]
 iterate 2
  refine tkHl [3,8] ?_ rfl rfl (Or.inl ⟨by rfl,?_⟩) hHeld ?_
  rotate_left
  ·(intro w _;go_simp;try(with_reducible rfl))
  try simp only[Act.put,tl1,tl2,tl3]
 iterate 2
  refine tkHl [4,9] ?_ rfl rfl (Or.inl ⟨by rfl,?_⟩) hHeld ?_
  rotate_left
  ·(intro w hSw;(try dsimp only at hSw);have z17:=Z.out _ hSw;have z1:=(hSw.cell (p:=⟨q,o+y,none⟩) hql).trans c1;have z0:=(hSw.cell (p:=⟨q,o+x,none⟩) hql).trans c0;go_simp;try(with_reducible rfl))
  try simp only[Act.put,tl1,tl2,tl3]
 refine wpAnyH_ready (rs:=[10]) (by kernel_rfl) (by simp) ?_
 refine AllReadyH.cons (o:=⟨_,_,_,_,_,_⟩) rfl (fun K hK=>?_) AllReadyH.nil
 go_simp
 refine(cmp_any p1 p0 _).mono ?_
 rintro e V16 ⟨rfl,hb⟩
 replace hb:Below _ _ _:=below_of_eqW hb
 go_wp2_with fail
 have hHeldN:=hHeld.trans (hb.mono hHeld.size)
 have hbc:=hbc.trans (hb.mono hbc.size)
 refine hK.out _ _ ?_ (fun hHeld2=>?_)
 ·exact hHeldN
 clear hK K hHeld hHeldN hb;have hHeld:=hHeld2;clear hHeld2
 try simp only[Act.put,tl1,tl2,tl3]
 refine tkH 11 ?_ rfl (Or.inl ⟨by rfl,?_⟩) hHeld ?_
 rotate_left
 ·(intro w _;go_simp;try(with_reducible rfl))
 try simp only[Act.put,tl1,tl2,tl3]
 refine wpAnyH_done (by kernel_rfl) ?_ _
 go_wp2_with fail
 go_ret
 exact⟨rfl,hHeld⟩
theorem cost2_any (x y:Int) (w:World):Calls Tryz.prog 115 #[.int .i64 x,.int .i64 y] w fun e w'=>e= .returned (.int .i64 (cmpI y x))∧Below w.heap.size w w':=by
 have h:=cmp_any y x w
 go_enter Tryz.func115,Tryz.ntmps115
 go_wp2_with fail
 refine h.mono ?_
 rintro e w1 ⟨rfl,rfl⟩
 go_wp2_with fail
 go_ret
 exact⟨rfl,Below.refl _ _⟩
end Go.Proofs.YtiioegopckoldaaGreatDoor
namespace Go.Proofs.YtiioegopckoldaaGreatDoor
open Bo
def boOf (ns:List Int) (ss:List Nat) (pr:List Int):Bo:=⟨ns.length,pr.length,fun k=>ns.getD k 0,fun i=>ss.getD i 0,fun i=>pr.getD i 0⟩
def xOf (hs:List Int):Nat→Int:=fun i=>hs.getD i 0
variable {ns hs:List Int} {ss:List Nat} {pr:List Int}
theorem need_is (S:Nat):(boOf ns ss pr).need S=needS ns S:=rfl
theorem on_is (S i:Nat):(boOf ns ss pr).on S i=onS ss S i:=rfl
theorem but_is (S j:Nat):(boOf ns ss pr).but (xOf hs) S j=thereS hs ss pr.length S (j:Int):=by
 unfold Bo.but thereS
 refine sumTo_congr fun i _=>?_
 unfold thereF
 rw[on_is]
 by_cases h:i≠j∧onS ss S i=true
 ·rw[if_pos h,if_pos ⟨by have:=h.1;omega,h.2⟩];rfl
 ·rw[if_neg h,if_neg (fun h'=>h ⟨fun e=>h'.1 (by rw[e]),h'.2⟩)]
theorem there_is (S:Nat):(boOf ns ss pr).there (xOf hs) S=thereS hs ss pr.length S (-1):=by
 unfold Bo.there thereS
 refine sumTo_congr fun i _=>?_
 unfold thereF
 rw[on_is]
 by_cases h:onS ss S i=true
 ·rw[if_pos h,if_pos ⟨by omega,h⟩];rfl
 ·rw[if_neg h,if_neg (fun h'=>h h'.2)]
theorem lackTo_all {r:Nat} {b:Int}:∀{n S:Nat},S < n→lackC ss b S=true→needS ns S-thereS hs ss r S b≤lackTo ns hs ss r b n
 | 0,_,h,_=>by omega
 | n + 1, S, h, hc => by
   unfold lackTo
   by_cases hn:S=n
   ·subst hn;rw[hc,if_pos rfl];omega
   ·have:=lackTo_all (r:=r) (n:=n) (S:=S) (by omega) hc
    split <;> omega
theorem lackTo_hit {r:Nat} {b:Int}:∀(n:Nat),lackTo ns hs ss r b n=0∨∃S,S < n∧lackC ss b S=true∧lackTo ns hs ss r b n=needS ns S-thereS hs ss r S b
 | 0=> .inl rfl
 | n + 1 => by
   unfold lackTo
   cases hc:lackC ss b n
   ·rw[if_neg (by decide)]
    rcases lackTo_hit (r:=r) (b:=b) n with h | ⟨S,h1,h2,h3⟩
    ·exact .inl h
    ·exact .inr ⟨S,by omega,h2,h3⟩
   ·rw[if_pos rfl]
    by_cases hm:lackTo ns hs ss r b n≤needS ns n-thereS hs ss r n b
    ·exact .inr ⟨n,by omega,hc,by omega⟩
    ·rw[show max (lackTo ns hs ss r b n) (needS ns n-thereS hs ss r n b)=lackTo ns hs ss r b n by omega]
     rcases lackTo_hit (r:=r) (b:=b) n with h | ⟨S,h1,h2,h3⟩
     ·exact .inl h
     ·exact .inr ⟨S,by omega,h2,h3⟩
theorem lackTo_nonneg {r:Nat} {b:Int}:∀n,0≤lackTo ns hs ss r b n
 | 0=>Int.le_refl _
 | n+1=>by have:=lackTo_nonneg (r:=r) (b:=b) n;unfold lackTo;split <;> omega
theorem lackC_nat (S j:Nat):lackC ss (j:Int) S=onS ss S j:=by
 unfold lackC;rw[decide_eq_false (by omega)];rfl
theorem lack_spec (i:Nat):(boOf ns ss pr).Lacks (xOf hs) i (lackS ns hs ss pr.length (i:Int)):=by
 refine⟨lackTo_nonneg _,fun S hS ho=>?_,?_⟩
 ·rw[but_is,need_is]
  exact lackTo_all hS (by rw[lackC_nat];exact ho)
 ·rcases lackTo_hit (ns:=ns) (hs:=hs) (ss:=ss) (r:=pr.length) (b:=(i:Int)) (2 ^ ns.length) with h | ⟨S,h1,h2,h3⟩
  ·exact .inl h
  ·refine .inr ⟨S,h1,by rw[lackC_nat] at h2;exact h2,?_⟩
   rw[but_is,need_is]
   exact h3
theorem feas_iff:(boOf ns ss pr).Feas (xOf hs)↔¬0 < lackS ns hs ss pr.length (-1):=by
 constructor
 ·intro h hl
  rcases lackTo_hit (ns:=ns) (hs:=hs) (ss:=ss) (r:=pr.length) (b:= -1) (2 ^ ns.length) with h1 | ⟨S,h1,h2,h3⟩
  ·unfold lackS at hl;omega
  ·have:=h S h1
   rw[there_is,need_is] at this
   unfold lackS at hl;omega
 ·intro h S hS
  rw[there_is,need_is]
  have h1:=lackTo_all (ns:=ns) (hs:=hs) (ss:=ss) (r:=pr.length) (b:= -1) (n:=2 ^ ns.length) hS rfl
  unfold lackS at h
  omega
theorem xOf_set {i:Nat} {v:Int} (hi:i < hs.length):xOf (hs.set i v)=Bo.upd (xOf hs) i v:=by
 funext j
 unfold xOf Bo.upd
 rw[List.getD_eq_getElem?_getD]
 by_cases h:j=i
 ·rw[if_pos h,h,List.getElem?_set_self hi];rfl
 ·rw[if_neg h,List.getElem?_set_ne (fun e=>h e.symm)]
  exact(List.getD_eq_getElem?_getD ..).symm
structure CostIs (ns hs:List Int) (ss:List Nat) (pr:List Int) (c:Int) (b:Bool):Prop where
 no:¬(boOf ns ss pr).Feas (xOf hs)→c=0∧b=false
 yes:(boOf ns ss pr).Feas (xOf hs)→b=true∧(boOf ns ss pr).Min (xOf hs) c
theorem CostIs.one {c d:Int} {a b:Bool} (h:CostIs ns hs ss pr c a) (g:CostIs ns hs ss pr d b):c=d∧a=b:=by
 by_cases hf:(boOf ns ss pr).Feas (xOf hs)
 ·obtain⟨rfl,h2⟩:=h.yes hf
  obtain⟨rfl,g2⟩:=g.yes hf
  exact⟨h2.one _ g2,rfl⟩
 ·obtain⟨rfl,rfl⟩:=h.no hf
  obtain⟨rfl,rfl⟩:=g.no hf
  exact⟨rfl,rfl⟩
def paid (hs pr:List Int) (o:List Nat):Int:=sumL (fun i=>hs.getD i 0*pr.getD i 0) o
theorem paid_snoc (hs pr:List Int) (o:List Nat) (i:Nat):paid hs pr (o ++ [i])=paid hs pr o+hs.getD i 0*pr.getD i 0:=sumL_snoc _ _ _
theorem paid_set {hs pr:List Int} {o:List Nat} {i:Nat} {v:Int} (h:i∉o):paid (hs.set i v) pr o=paid hs pr o:=sumL_congr fun j hj=>by
 have hne:i≠j:=fun e=>h (e ▸ hj)
 rw[List.getD_eq_getElem?_getD,List.getElem?_set_ne hne,←List.getD_eq_getElem?_getD]
theorem cost_of_run {h0:List Int} {o:List Nat} (hp:∀i,i < pr.length→0≤pr.getD i 0) (hh:∀i,i < pr.length→0≤h0.getD i 0) (hf:(boOf ns ss pr).Feas (xOf h0)) (R:(boOf ns ss pr).Run (xOf h0) o (xOf hs)) (hperm:List.Perm o (List.range pr.length)) (hs2:o.Pairwise (fun i j=>pr.getD j 0≤pr.getD i 0)) :
 CostIs ns h0 ss pr (paid hs pr o) true:=by
 refine⟨fun h=>absurd hf h,fun _=>⟨rfl,?_⟩⟩
 have hall:∀i,i < (boOf ns ss pr).r→i∈o:=fun i hi=>hperm.mem_iff.2 (List.mem_range.2 hi)
 have h1:=R.min _ hf hh hp hs2 hall
 have h2:=R.nodup
 rw[show paid hs pr o=(boOf ns ss pr).cost (xOf hs) from sumL_all _ (h2.1) h2.2 hall]
 exact h1
def insI (pr:List Int) (i:Nat):List Nat→List Nat
 | []=>[i]
 | j :: l=>if pr.getD i 0≤pr.getD j 0 then j :: insI pr i l else i :: j :: l
theorem insI_perm (pr:List Int) (i:Nat):∀l,List.Perm (insI pr i l) (i :: l)
 | []=>List.Perm.refl _
 | j :: l => by
   unfold insI
   split
   ·exact((insI_perm pr i l).cons j).trans (List.Perm.swap i j l)
   ·exact List.Perm.refl _
theorem insI_ord (pr:List Int) (i:Nat):∀{l:List Nat},l.Pairwise (fun i j=>pr.getD j 0≤pr.getD i 0)→(insI pr i l).Pairwise (fun i j=>pr.getD j 0≤pr.getD i 0)
 | [],_=>by simp[insI]
 | j :: l, h => by
   rw[List.pairwise_cons] at h
   unfold insI
   split
   ·rename_i hij
    rw[List.pairwise_cons]
    refine⟨fun k hk=>?_,insI_ord pr i h.2⟩
    rcases List.mem_cons.1 ((insI_perm pr i l).mem_iff.1 hk) with rfl | hk
    ·exact hij
    ·exact h.1 k hk
   ·rename_i hij
    rw[List.pairwise_cons,List.pairwise_cons]
    refine⟨fun k hk=>?_,h⟩
    rcases List.mem_cons.1 hk with rfl | hk
    ·omega
    ·have:=h.1 k hk;omega
def sortI (pr:List Int):Nat→List Nat
 | 0=>[]
 | k+1=>insI pr k (sortI pr k)
theorem sortI_perm (pr:List Int):∀k,List.Perm (sortI pr k) (List.range k)
 | 0=>List.Perm.refl _
 | k + 1 => by
   rw[List.range_succ]
   exact(insI_perm pr k _).trans (((sortI_perm pr k).cons k).trans (List.perm_append_singleton k _).symm)
theorem sortI_ord (pr:List Int):∀k,(sortI pr k).Pairwise (fun i j=>pr.getD j 0≤pr.getD i 0)
 | 0=>List.Pairwise.nil
 | k+1=>insI_ord pr k (sortI_ord pr k)
def grdF (ns:List Int) (ss:List Nat) (r:Nat):List Nat→List Int→List Int
 | [],hs=>hs
 | i :: o,hs=>grdF ns ss r o (hs.set i (lackS ns hs ss r (i:Int)))
theorem goF_run {h0:List Int}:∀(o pre:List Nat) (hs:List Int),(boOf ns ss pr).Run (xOf h0) pre (xOf hs)→(pre ++ o).Nodup→(∀i∈o,i < pr.length)→pr.length≤hs.length→(boOf ns ss pr).Run (xOf h0) (pre ++ o) (xOf (grdF ns ss pr.length o hs))
 | [],pre,hs,R,_,_,_=>by rw[List.append_nil];exact R
 | i :: o, pre, hs, R, hd, hl, hlen => by
   have hi:=hl i (by simp)
   have R':=Run.snoc (B:=boOf ns ss pr) R hi (fun hm=>(List.nodup_append.1 hd).2.2 i hm i (by simp) rfl) (lack_spec i)
   rw[←xOf_set (by omega)] at R'
   have:=goF_run o (pre ++ [i]) _ R' (by rw[List.append_assoc];exact hd) (fun j hj=>hl j (by simp[hj])) (by rw[List.length_set];exact hlen)
   rw[List.append_assoc] at this
   exact this
def costF (ns hs:List Int) (ss:List Nat) (pr:List Int):Int×Bool:=
 if 0 < lackS ns hs ss pr.length (-1) then(0,false) else(paid (grdF ns ss pr.length (sortI pr pr.length) hs) pr (sortI pr pr.length),true)
theorem costF_is (hp:∀i,i < pr.length→0≤pr.getD i 0) (hh:∀i,i < pr.length→0≤hs.getD i 0) (hlen:pr.length≤hs.length):CostIs ns hs ss pr (costF ns hs ss pr).1 (costF ns hs ss pr).2:=by
 unfold costF
 split
 ·rename_i h
  exact⟨fun _=>⟨rfl,rfl⟩,fun hf=>absurd h (feas_iff.1 hf)⟩
 ·rename_i h
  have hperm:=sortI_perm pr pr.length
  have R:=goF_run (ns:=ns) (ss:=ss) (pr:=pr) (h0:=hs) (sortI pr pr.length) [] hs Run.nil (by rw[List.nil_append];exact hperm.nodup_iff.2 List.nodup_range) (fun i hi=>List.mem_range.1 (hperm.mem_iff.1 hi)) hlen
  rw[List.nil_append] at R
  exact cost_of_run hp hh (feas_iff.2 h) R hperm (sortI_ord pr pr.length)
end Go.Proofs.YtiioegopckoldaaGreatDoor
namespace Go.Proofs.YtiioegopckoldaaGreatDoor
open Bo
variable {ns hs:List Int} {ss:List Nat} {pr:List Int}
theorem getD_set {xs:List Int} {i j:Nat} {v:Int} (hi:i < xs.length):(xs.set i v).getD j 0=if j=i then v else xs.getD j 0:=by
 rw[List.getD_eq_getElem?_getD]
 by_cases h:j=i
 ·rw[if_pos h,h,List.getElem?_set_self hi];rfl
 ·rw[if_neg h,List.getElem?_set_ne (fun e=>h e.symm),List.getD_eq_getElem?_getD]
theorem needS_set {k:Nat} (hk:k < ns.length) (n:Int) (S:Nat):needS (ns.set k (ns.getD k 0-n)) S=needS ns S-(if S.testBit k then n else 0):=by
 unfold needS
 rw[List.length_set,sumTo_one (needF1 (ns.set k _) S) k hk,sumTo_one (needF1 ns S) k hk]
 have e:sumTo (fun j=>if j=k then 0 else needF1 (ns.set k (ns.getD k 0-n)) S j) ns.length=sumTo (fun j=>if j=k then 0 else needF1 ns S j) ns.length:=sumTo_congr fun j _=>by
  by_cases h:j=k
  ·rw[if_pos h,if_pos h]
  ·rw[if_neg h,if_neg h];unfold needF1;rw[getD_set hk,if_neg h]
 have e2:needF1 (ns.set k (ns.getD k 0-n)) S k=needF1 ns S k-(if S.testBit k then n else 0):=by
  unfold needF1
  rw[getD_set hk,if_pos rfl]
  split <;> omega
 rw[e,e2];omega
theorem there_more (B:Bo) {x:Nat→Int} {i:Nat} (hi:i < B.r) (n:Int) (S:Nat):B.there (Bo.upd x i (x i+n)) S=B.there x S+(if B.on S i=true then n else 0):=by
 unfold Bo.there
 rw[sumTo_one _ i hi,sumTo_one (fun j=>if B.on S j=true then x j else 0) i hi]
 have e:sumTo (fun j=>if j=i then 0 else if B.on S j=true then Bo.upd x i (x i+n) j else 0) B.r=sumTo (fun j=>if j=i then 0 else if B.on S j=true then x j else 0) B.r:=sumTo_congr fun j _=>by
  by_cases h:j=i
  ·rw[if_pos h,if_pos h]
  ·rw[if_neg h,if_neg h];unfold Bo.upd;rw[if_neg h]
 rw[e]
 have e2:Bo.upd x i (x i+n) i=x i+n:=by unfold Bo.upd;rw[if_pos rfl]
 rw[e2]
 split <;> omega
theorem cost_more (B:Bo) {x:Nat→Int} {i:Nat} (hi:i < B.r) (n:Int):B.cost (Bo.upd x i (x i+n))=B.cost x+n*B.pr i:=by
 unfold Bo.cost
 rw[sumTo_one _ i hi,sumTo_one (fun j=>x j*B.pr j) i hi]
 have e:sumTo (fun j=>if j=i then 0 else Bo.upd x i (x i+n) j*B.pr j) B.r=sumTo (fun j=>if j=i then 0 else x j*B.pr j) B.r:=sumTo_congr fun j _=>by
  by_cases h:j=i
  ·rw[if_pos h,if_pos h]
  ·rw[if_neg h,if_neg h];unfold Bo.upd;rw[if_neg h]
 have e2:Bo.upd x i (x i+n) i=x i+n:=by unfold Bo.upd;rw[if_pos rfl]
 rw[e,e2,Int.add_mul];omega
theorem shift_feas {k i:Nat} (hk:k < ns.length) (hi:i < pr.length) (hb:(ss.getD i 0).testBit k=true) {n:Int} (hn:0≤n) {x:Nat→Int} (hf:(boOf (ns.set k (ns.getD k 0-n)) ss pr).Feas x):(boOf ns ss pr).Feas (Bo.upd x i (x i+n)):=by
 intro S hS
 have h:=hf S (by show S < 2 ^ (ns.set k _).length;rw[List.length_set];exact hS)
 rw[need_is,needS_set hk] at h
 rw[need_is,there_more (boOf ns ss pr) hi]
 have e:(boOf (ns.set k (ns.getD k 0-n)) ss pr).there x S=(boOf ns ss pr).there x S:=rfl
 rw[e] at h
 by_cases hS2:S.testBit k=true
 ·rw[if_pos hS2] at h
  have ho:(boOf ns ss pr).on S i=true:=Bo.on_iff _ |>.2 ⟨k,hb,hS2⟩
  rw[if_pos ho]
  omega
 ·rw[if_neg hS2] at h
  split <;> omega
theorem shift_min {k i:Nat} (hk:k < ns.length) (hi:i < pr.length) (hih:i < hs.length) (hb:(ss.getD i 0).testBit k=true) {n c d:Int} (hn:0≤n)
 (hd:(boOf (ns.set k (ns.getD k 0-n)) ss pr).Min (xOf (hs.set i (hs.getD i 0-n))) d) (hc:(boOf ns ss pr).Min (xOf hs) c):c≤d+n*pr.getD i 0:=by
 obtain⟨x,h1,h2,h3,h4⟩:=hd.is
 have h5:=hc.le (Bo.upd x i (x i+n)) (shift_feas hk hi hb hn h1) (fun j hj=>?_) (fun j hj=>?_)
 ·rw[cost_more (boOf ns ss pr) hi] at h5
  have e:(boOf (ns.set k (ns.getD k 0-n)) ss pr).cost x=(boOf ns ss pr).cost x:=rfl
  rw[e] at h4
  rw[h4] at h5
  exact h5
 ·unfold Bo.upd
  split
  ·have:=h2 i hi;omega
  ·exact h2 j hj
 ·have h6:=h3 j hj
  unfold xOf at h6 ⊢
  rw[getD_set hih] at h6
  unfold Bo.upd
  by_cases h:j=i
  ·rw[if_pos h] at h6 ⊢;rw[h] at h6 ⊢;omega
  ·rw[if_neg h] at h6 ⊢;exact h6
theorem shift_is {k i:Nat} (hk:k < ns.length) (hi:i < pr.length) (hih:i < hs.length) (hb:(ss.getD i 0).testBit k=true) {n:Int} (hn:0≤n) (hf:(boOf (ns.set k (ns.getD k 0-n)) ss pr).Feas (xOf (hs.set i (hs.getD i 0-n)))):(boOf ns ss pr).Feas (xOf hs):=by
 have h:=shift_feas hk hi hb hn hf
 have e:Bo.upd (xOf (hs.set i (hs.getD i 0-n))) i (xOf (hs.set i (hs.getD i 0-n)) i+n)=xOf hs:=by
  funext j
  unfold Bo.upd xOf
  by_cases hj:j=i
  ·rw[if_pos hj,hj,getD_set hih,if_pos rfl];omega
  ·rw[if_neg hj,getD_set hih,if_neg hj]
 rwa [e] at h
theorem clear_feas {i:Nat} {t:Nat} (hi:i < ss.length) (ht:∀j,t.testBit j=true→(ss.getD i 0).testBit j=true) {x:Nat→Int} (h0:∀j,j < pr.length→0≤x j) (hf:(boOf ns (ss.set i t) pr).Feas x):(boOf ns ss pr).Feas x:=by
 intro S hS
 refine Int.le_trans (hf S hS) (sumTo_le fun j hj=>?_)
 have hx:=h0 j hj
 by_cases ho:(boOf ns (ss.set i t) pr).on S j=true
 ·rw[if_pos ho]
  have:(boOf ns ss pr).on S j=true:=by
   obtain⟨b,h1,h2⟩:=(Bo.on_iff _).1 ho
   refine(Bo.on_iff _).2 ⟨b,?_,h2⟩
   have h1':((ss.set i t).getD j 0).testBit b=true:=h1
   show(ss.getD j 0).testBit b=true
   by_cases hj2:j=i
   ·subst hj2
    rw[List.getD_eq_getElem?_getD,List.getElem?_set_self hi] at h1'
    exact ht b h1'
   ·rw[List.getD_eq_getElem?_getD,List.getElem?_set_ne (fun e=>hj2 e.symm),←List.getD_eq_getElem?_getD] at h1'
    exact h1'
  rw[if_pos this];exact Int.le_refl _
 ·rw[if_neg ho]
  split <;> omega
theorem clear_min {i:Nat} {t:Nat} (hi:i < ss.length) (ht:∀j,t.testBit j=true→(ss.getD i 0).testBit j=true) {c d:Int} (hd:(boOf ns (ss.set i t) pr).Min (xOf hs) d) (hc:(boOf ns ss pr).Min (xOf hs) c):c≤d:=by
 obtain⟨x,h1,h2,h3,h4⟩:=hd.is
 have:=hc.le x (clear_feas hi ht h2 h1) h2 h3
 have e:(boOf ns (ss.set i t) pr).cost x=(boOf ns ss pr).cost x:=rfl
 rw[e] at h4
 omega
def Inv (ns hs:List Int) (ss:List Nat) (pr:List Int) (left:Int):Prop:=∀c,(boOf ns ss pr).Min (xOf hs) c→left≤c
def goodF (ns hs:List Int) (ss:List Nat) (pr:List Int) (i k:Nat) (left n:Int):Bool:=
 (costF (ns.set k (ns.getD k 0-n)) (hs.set i (hs.getD i 0-n)) ss pr).2 && (costF (ns.set k (ns.getD k 0-n)) (hs.set i (hs.getD i 0-n)) ss pr).1+n*pr.getD i 0 == left
structure Fits (hs pr:List Int):Prop where
 p:∀i,i < pr.length→0≤pr.getD i 0
 h:∀i,i < pr.length→0≤hs.getD i 0
 l:pr.length≤hs.length
theorem Fits.set {i:Nat} {n:Int} (h:Fits hs pr) (hn:n≤hs.getD i 0) (hih:i < hs.length):Fits (hs.set i (hs.getD i 0-n)) pr:=⟨h.p,fun j hj=>by
 rw[getD_set hih]
 have:=h.h j hj
 split <;> omega,by rw[List.length_set];exact h.l⟩
theorem Fits.cost (h:Fits hs pr):CostIs ns hs ss pr (costF ns hs ss pr).1 (costF ns hs ss pr).2:=costF_is h.p h.h h.l
theorem cost_some {c:Int} {b:Bool} (h:CostIs ns hs ss pr c b):b=true↔(boOf ns ss pr).Feas (xOf hs):=by
 constructor
 ·intro hb
  by_cases hf:(boOf ns ss pr).Feas (xOf hs)
  ·exact hf
  ·have:=(h.no hf).2;rw[hb] at this;cases this
 ·exact fun hf=>(h.yes hf).1
theorem set_set_sub {xs:List Int} {k:Nat} {a b:Int} (hk:k < xs.length):(xs.set k (xs.getD k 0-a)).set k ((xs.set k (xs.getD k 0-a)).getD k 0-b)=xs.set k (xs.getD k 0-(a+b)):=by
 rw[getD_set hk,if_pos rfl,List.set_set];congr 1;omega
theorem good_down {k i:Nat} {left x y:Int} (hF:Fits hs pr) (hk:k < ns.length) (hi:i < pr.length) (hb:(ss.getD i 0).testBit k=true) (hI:Inv ns hs ss pr left) (h0:0≤x) (hxy:x≤y) (hyh:y≤hs.getD i 0) (hy:goodF ns hs ss pr i k left y=true):goodF ns hs ss pr i k left x=true:=by
 have hih:i < hs.length:=Nat.lt_of_lt_of_le hi hF.l
 unfold goodF at hy ⊢
 rw[Bool.and_eq_true,beq_iff_eq] at hy ⊢
 have Cy:=(hF.set (n:=y) hyh hih).cost (ns:=ns.set k (ns.getD k 0-y)) (ss:=ss)
 have Cx:=(hF.set (n:=x) (by omega) hih).cost (ns:=ns.set k (ns.getD k 0-x)) (ss:=ss)
 have fy:=(cost_some Cy).1 hy.1
 have my:=(Cy.yes fy).2
 have ex:ns.set k (ns.getD k 0-y)=(ns.set k (ns.getD k 0-x)).set k ((ns.set k (ns.getD k 0-x)).getD k 0-(y-x)):=by rw[set_set_sub hk];congr 2;omega
 have eh:hs.set i (hs.getD i 0-y)=(hs.set i (hs.getD i 0-x)).set i ((hs.set i (hs.getD i 0-x)).getD i 0-(y-x)):=by rw[set_set_sub hih];congr 2;omega
 have fx:(boOf (ns.set k (ns.getD k 0-x)) ss pr).Feas (xOf (hs.set i (hs.getD i 0-x))):=by
  rw[ex,eh] at fy
  exact shift_is (by rw[List.length_set];exact hk) hi (by rw[List.length_set];exact hih) hb (by omega) fy
 have mx:=(Cx.yes fx).2
 refine⟨(Cx.yes fx).1,?_⟩
 have f0:=shift_is hk hi hih hb h0 fx
 have m0:=((hF.cost (ns:=ns) (ss:=ss)).yes f0).2
 have l0:=hI _ m0
 have l1:=shift_min hk hi hih hb h0 mx m0
 have my':=my
 rw[ex,eh] at my'
 have l2:=shift_min (by rw[List.length_set];exact hk) hi (by rw[List.length_set];exact hih) hb (show 0≤y-x by omega) my' mx
 have e3:(costF (ns.set k (ns.getD k 0-y)) (hs.set i (hs.getD i 0-y)) ss pr).1=(costF ((ns.set k (ns.getD k 0-x)).set k ((ns.set k (ns.getD k 0-x)).getD k 0-(y-x))) ((hs.set i (hs.getD i 0-x)).set i ((hs.set i (hs.getD i 0-x)).getD i 0-(y-x))) ss pr).1:=by rw[←ex,←eh]
 rw[←e3] at l2
 have e4:(y-x)*pr.getD i 0=y*pr.getD i 0-x*pr.getD i 0:=Int.sub_mul _ _ _
 have h2:=hy.2
 generalize y*pr.getD i 0=Y at *
 generalize x*pr.getD i 0=X at *
 generalize (y-x)*pr.getD i 0=D at *
 omega
theorem inv_next {k i:Nat} {left n:Int} {t:Nat} (hF:Fits hs pr) (hk:k < ns.length) (hi:i < pr.length) (his:i < ss.length) (hb:(ss.getD i 0).testBit k=true) (ht:∀j,t.testBit j=true→(ss.getD i 0).testBit j=true) (hI:Inv ns hs ss pr left) (h0:0≤n) (hnh:n≤hs.getD i 0) :
 Inv (ns.set k (ns.getD k 0-n)) (hs.set i (hs.getD i 0-n)) (ss.set i t) pr (left-n*pr.getD i 0):=by
 intro c hc
 have hih:i < hs.length:=Nat.lt_of_lt_of_le hi hF.l
 have fit:=hF.set (n:=n) hnh hih
 obtain⟨x,h1,h2,h3,h4⟩:=hc.is
 have hfx:=clear_feas his ht h2 h1
 have hf:(boOf (ns.set k (ns.getD k 0-n)) ss pr).Feas (xOf (hs.set i (hs.getD i 0-n))):=fun S hS=>Int.le_trans (hfx S hS) ((boOf (ns.set k (ns.getD k 0-n)) ss pr).there_le (x:=x) (y:=xOf (hs.set i (hs.getD i 0-n))) h3 S)
 have m:=((fit.cost (ns:=ns.set k (ns.getD k 0-n)) (ss:=ss)).yes hf).2
 have l1:=clear_min his ht hc m
 have f0:=shift_is hk hi hih hb h0 hf
 have m0:=((hF.cost (ns:=ns) (ss:=ss)).yes f0).2
 have l2:=shift_min hk hi hih hb h0 m m0
 have l3:=hI _ m0
 omega
theorem min_bd {c:Int} (hh:∀x∈hs,0≤x∧x≤200000) (hp:∀x∈pr,0≤x∧x≤100000) (hl:pr.length≤8) (h:(boOf ns ss pr).Min (xOf hs) c):0≤c∧c≤160000000000:=by
 obtain⟨x,_,h2,h3,rfl⟩:=h.is
 have hb:=sumTo_bd (f:=fun i=>x i*pr.getD i 0) (M:=20000000000) (n:=pr.length) (fun i hi=>by
  have h4:=h2 i hi
  have h5:=h3 i hi
  have h6:=getD_mem (p:=fun x:Int=>0≤x∧x≤200000) (d:=0) hh (by decide) i
  have h7:=getD_mem (p:=fun x:Int=>0≤x∧x≤100000) (d:=0) hp (by decide) i
  unfold xOf at h5
  refine⟨Int.mul_nonneg h4 h7.1,?_⟩
  have h8:x i*pr.getD i 0≤200000*pr.getD i 0:=Int.mul_le_mul_of_nonneg_right (by omega) h7.1
  have h9:=h7.2
  show x i*pr.getD i 0≤20000000000
  generalize pr.getD i 0=q at *
  omega)
 have e:(boOf ns ss pr).cost x=sumTo (fun i=>x i*pr.getD i 0) pr.length:=rfl
 rw[e]
 omega
theorem costIs_bd {c:Int} {b:Bool} (hh:∀x∈hs,0≤x∧x≤200000) (hp:∀x∈pr,0≤x∧x≤100000) (hl:pr.length≤8) (h:CostIs ns hs ss pr c b):0≤c∧c≤160000000000:=by
 by_cases hf:(boOf ns ss pr).Feas (xOf hs)
 ·exact min_bd hh hp hl (h.yes hf).2
 ·rw[(h.no hf).1];omega
end Go.Proofs.YtiioegopckoldaaGreatDoor
