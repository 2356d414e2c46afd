/- lemmas for topRented_holds: PB6. No conditions. -/
import Derived.Test.YtiioegopckoldaaGreatDoorK17
import Derived.Deep.Cut
set_option linter.unusedVariables false
set_option linter.unusedSimpArgs false
namespace Go.Proofs.YtiioegopckoldaaGreatDoor
open Go.RowKit Go.Shelf
def byFs (b:Nat):List Value:=[.func (.func 113) #[] #[.pointer (some ⟨b,0,none⟩)],.func (.func 115) #[] #[]]
def ordC (pr:List Int) (x y:Nat):Int:=if cmpI (pr.getD y 0) (pr.getD x 0)=0 then cmpI (y:Int) (x:Int) else cmpI (pr.getD y 0) (pr.getD x 0)
set_option maxHeartbeats 4000000 in
set_option maxRecDepth 100000 in
theorem ordered1_any (B:Brs) (ns pr:List Int) (b b3 bl x y:Nat) (w:World) (hB:BAt w B ns pr) (hX:At w b B.cells) (h3:At w b3 [.slice (some ⟨bl,0,none⟩) 2 2]) (hL:At w bl (byFs b)) (hx:x < B.r) (hy:y < B.r) :
 Calls Tryz.prog 170 #[.int .i64 (x:Nat),.int .i64 (y:Nat),.pointer (some ⟨b3,0,none⟩)] w fun e w'=>e= .returned (.int .i64 (ordC pr x y))∧Below w.heap.size w w':=by
 have H1:=hide (fun W (hb:Below w.heap.size w W)=>cost1_any B ns pr b x y W (hB.bel hb) (hX.bel hb) hx hy)
 have H2:=hide (fun W=>cost2_any (x:Int) (y:Int) W)
 obtain⟨d1,hd1⟩:∃d,d=cmpI (pr.getD y 0) (pr.getD x 0):=⟨_,rfl⟩
 obtain⟨d2,hd2⟩:∃d,d=cmpI (y:Int) (x:Int):=⟨_,rfl⟩
 obtain⟨D,hD⟩:∃D,D=ordC pr x y:=⟨_,rfl⟩
 have Hd:Hid (D=if d1=0 then d2 else d1):=by rw[hD,hd1,hd2];exact hide rfl
 rw[←hD]
 clear hD
 rw[←hd1] at H1
 rw[←hd2] at H2
 have L0:∀W,Below w.heap.size w W→W.cell? ⟨bl,0,none⟩=some (.func (.func 113) #[] #[.pointer (some ⟨b,0,none⟩)]):=fun W hb=>(hL.bel hb).2 0 _ rfl
 have L1:∀W,Below w.heap.size w W→W.cell? ⟨bl,1,none⟩=some (.func (.func 115) #[] #[]):=fun W hb=>(hL.bel hb).2 1 _ rfl
 have HL0:=hide L0;have HL1:=hide L1
 have c3:=h3.c1
 have eg1:=enters_cost1;have eg2:=enters_cost2
 clear hB hX h3 hL hd1 hd2 L0 L1 hx hy
 go_enter Tryz.func170,Tryz.ntmps170
 go_wp2_with fail
 clear c3
 go_loopw [11] (fun iv wr=>∃i:Nat,i≤2∧iv= .int .i64 i∧(i=0∨i=1∧d1=0∨i=2∧d1=0∧d2=0)∧Below w.heap.size w wr) (fun iv _=>2-(intOf iv).toNat)
 case atStart=>exact⟨0,by omega,rfl,.inl rfl,Below.refl _ _⟩
 case round=>
  obtain⟨i,hi,rfl,hc,hb⟩:=hrel
  rcases hc with rfl | ⟨rfl,h1⟩ | ⟨rfl,h1,h2⟩
  ·have l0:=HL0.out wr hb
   have H1r:=hide (H1.out wr hb)
   go_wp2_with (go_at_fn 113;refine H1r.out.mono ?_;rintro e w' ⟨rfl,hb'⟩)
   ·have hne:d1≠0:=by rename_i h;simpa using h
    go_ret
    exact⟨ret_int (by rw[Hd.out,if_neg hne]),hb.trans (hb'.mono hb.size)⟩
   ·have h0:d1=0:=by rename_i h;simpa using h
    exact⟨⟨1,by omega,rfl,.inr (.inl ⟨rfl,h0⟩),hb.trans (hb'.mono hb.size)⟩,by simp[intOf]⟩
  ·have l1:=HL1.out wr hb
   have H2r:=hide (H2.out wr)
   have H1z:=hide h1
   clear h1
   go_wp2_with (go_at_fn 115;refine H2r.out.mono ?_;rintro e w' ⟨rfl,hb'⟩)
   ·go_ret
    exact⟨ret_int (by rw[Hd.out,if_pos H1z.out]),hb.trans (hb'.mono hb.size)⟩
   ·have h0:d2=0:=by rename_i h;simpa using h
    exact⟨⟨2,by omega,rfl,.inr (.inr ⟨rfl,H1z.out,h0⟩),hb.trans (hb'.mono hb.size)⟩,by simp[intOf]⟩
  ·have H1z:=hide h1;have H2z:=hide h2
   clear h1 h2
   go_wp2_with fail
   go_ret
   exact⟨ret_int (by rw[Hd.out,if_pos H1z.out];exact H2z.out.symm),hb⟩
theorem ordC_neg {pr:List Int} {x y:Nat} (h:ordC pr x y < 0):pr.getD y 0≤pr.getD x 0:=by
 unfold ordC at h
 generalize pr.getD y 0=a at *
 generalize pr.getD x 0=b at *
 by_cases h1:b < a
 ·have:cmpI a b=1:=by unfold cmpI;rw[if_neg (by omega),if_pos h1]
  rw[this,if_neg (by decide)] at h
  omega
 ·omega
theorem ordC_pos {pr:List Int} {x y:Nat} (h:¬ordC pr x y < 0):pr.getD x 0≤pr.getD y 0:=by
 unfold ordC at h
 generalize pr.getD y 0=a at *
 generalize pr.getD x 0=b at *
 by_cases h1:a < b
 ·have:cmpI a b= -1:=by unfold cmpI;rw[if_pos h1]
  rw[this,if_neg (by decide)] at h
  omega
 ·omega
theorem upto_pair {le:Int→Int→Prop} {ys:List Int} {n:Nat} (h:Upto le n ys) (hn:ys.length≤n):ys.Pairwise le:=by
 rw[List.pairwise_iff_getElem]
 intro i j hi hj hij
 exact h i j _ _ hij (by omega) (List.getElem?_eq_getElem hi) (List.getElem?_eq_getElem hj)
theorem perm_cast {ys:List Int} {r:Nat} (h:List.Perm ys ((List.range r).map Int.ofNat)):∃o:List Nat,ys=o.map Int.ofNat∧List.Perm o (List.range r):=by
 refine⟨ys.map Int.toNat,?_,?_⟩
 ·rw[List.map_map]
  refine(List.map_id ys).symm.trans (List.map_congr_left fun y hy=>?_)
  obtain⟨k,_,rfl⟩:=List.mem_map.1 (h.mem_iff.1 hy)
  rfl
 ·have:=h.map Int.toNat
  rw[List.map_map] at this
  refine this.trans (List.Perm.of_eq ?_)
  exact(List.map_congr_left fun _ _=>rfl).trans (List.map_id _)
set_option maxHeartbeats 4000000 in
set_option maxRecDepth 100000 in
theorem ordered_any (B:Brs) (ns pr:List Int) (b bl r:Nat) (w:World) (hB:BAt w B ns pr) (hX:At w b B.cells) (hL:At w bl (byFs b)) (hr:r=pr.length) (hr2:r=B.r) :
 Calls Tryz.prog 116 #[.int .i64 (r:Nat),.slice (some ⟨bl,0,none⟩) 2 2] w fun e w'=>∃v,∃o:List Nat,e= .returned v∧Own w' w.heap.size 3 1 icell v (o.map Int.ofNat)∧List.Perm o (List.range r)∧o.Pairwise (fun i j=>pr.getD j 0≤pr.getD i 0)∧Below w.heap.size w w':=by
 obtain⟨b3,w1,e3,ew1,hx3,hb1,hz1⟩:=mk_bx w #[.slice (some ⟨bl,0,none⟩) 2 2] 279
 have hr8:r≤8:=by rw[hr];exact hB.ok.pl
 have HB:=hide (hB.bel hb1);have HX:=hide (hX.bel hb1);have HL:=hide (hL.bel hb1)
 have Hr2:=hide hr2
 have hbw:=hX.1
 have hlw:=hL.1
 have h3w:=hx3.lt
 have h3g:w.heap.size≤b3:=by have:=e3.out;omega
 have X3:=hide hx3
 clear hB hX hL hr hx3 hr2
 go_enter Tryz.func116,Tryz.ntmps116
 go_wp2_with fail
 rw[ew1.out,e3.out]
 go_loopw [5,8] (fun v i wr=>∃k:Nat,k≤r∧i= .int .i64 k∧Hid (Own wr w1.heap.size 3 1 icell v ((List.range k).map Int.ofNat))∧Below w1.heap.size w1 wr) (fun _ i _=>r-(intOf i).toNat)
 case atStart=>exact⟨0,by omega,rfl,hide (Own.nil _ _ _ _ _),Below.refl _ _⟩
 case round=>
  obtain⟨k,hk,rfl,HO,hb⟩:=hrel
  by_cases hlt:k < r
  ·obtain⟨Ao,co,rfl,ro⟩:=HO.out.rdn k (by simp)
   have hsz:=hb.size
   have ik:(k:Int) < (r:Int):=by omega
   have Hb:=hide hb
   clear ro
   go_wp2_with (at_builtin;refine wpList_app1 (v:= .slice Ao k co) (xs:=(List.range k).map Int.ofNat) (base:=w1.heap.size) (k:=1) (bytes:=8) (E:=3) el_int rfl (.tmp 11) (.tmp 13) rfl rfl rfl HO.out (k:Int) rfl (by simp;omega) hsz ?_;intro v' w10 o10 k10;have O10:=hide o10;have K10:=hide k10;clear o10 k10)
   refine⟨⟨k+1,by omega,by go_num,hide (by have:=O10.out;rw[List.range_succ,List.map_append];exact this),below_keptB Hb.out K10.out (Nat.le_refl _) Hb.out.size⟩,by simp[intOf];omega⟩
  ·obtain rfl:r=k:=by omega
   obtain⟨w2,rfl⟩:∃w2,w2=wr:=⟨wr,rfl⟩
   have hB2:=hb1.trans (hb.mono hb1.size)
   have Hb:=hide hb
   obtain⟨A,c,rfl,_⟩:=HO.out.rdn r (by simp)
   have hcal:Calls Tryz.prog 237 #[.slice A r c,.int .i64 0,.int .i64 r,.func (.func 170) #[] #[.pointer (some ⟨b3,0,none⟩)]] w2 fun e w'=>(∃v,e= .returned v)∧∃o:List Nat,Own w' w1.heap.size 3 1 icell (.slice A r c) (o.map Int.ofNat)∧List.Perm o (List.range r)∧o.Pairwise (fun i j=>pr.getD j 0≤pr.getD i 0)∧Below w.heap.size w w':=by
    by_cases hr0:r=0
    ·subst hr0
     refine(isort0 _ _ w2).mono ?_
     rintro e w3 ⟨h1,rfl⟩
     exact⟨h1,[],HO.out,List.Perm.refl _,List.Pairwise.nil,hB2⟩
    ·rcases HO.out.2 with⟨h1,h2⟩ | ⟨g,cap,cur,h1,hg1,hg2,_⟩
     ·simp at h2;omega
     ·injection h1 with h1 h2 h3
      subst h1
      have hO:=HO.out
      refine(isort_any 170 #[.pointer (some ⟨b3,0,none⟩)] (fun a c=>pr.getD c.toNat 0≤pr.getD a.toNat 0) g r c w1.heap.size _ w2 enters_ordered1 (fun a b c h1 h2=>by omega) (by simp) hr8 hO ?_).mono ?_
      ·intro x y W hx hy hW
       obtain⟨x,hx1,rfl⟩:=List.mem_map.1 hx
       obtain⟨y,hy1,rfl⟩:=List.mem_map.1 hy
       rw[List.mem_range] at hx1 hy1
       have k1:Kept (fun b=>b≠g) w1 W:=(Kept.all _ hb).trans hW
       have hbg:b < w1.heap.size:=HX.out.1
       have hlg:bl < w1.heap.size:=HL.out.1
       have bat:BAt W B ns pr:=⟨HB.out.ok,HB.out.hl,HB.out.sl,HB.out.en,HB.out.er,(HB.out.rn.keptR k1 (fun b hb=>by omega) (Nat.le_refl _)).more k1.size,(HB.out.rp.keptR k1 (fun b hb=>by omega) (Nat.le_refl _)).more k1.size⟩
       refine(ordered1_any B ns pr b b3 bl x y W bat (HX.out.kept k1 (by omega)) ((X3.out.kept k1 (by omega)).at_) (HL.out.kept k1 (by omega)) (by rw[←Hr2.out];exact hx1) (by rw[←Hr2.out];exact hy1)).mono ?_
       rintro e w' ⟨rfl,hb'⟩
       exact⟨_,rfl,fun h=>ordC_neg h,fun h=>ordC_pos h,hb'⟩
      ·rintro e w' ⟨h1,ys,hp,hu,ho,hk⟩
       obtain⟨o,rfl,hpo⟩:=perm_cast hp
       refine⟨h1,o,ho,hpo,?_,hB2.trans ((hk.below (fun b hb=>by omega) hB2.size))⟩
       have:=upto_pair hu (by have:=hp.length_eq;simp at this;simp;omega)
       rw[List.pairwise_map] at this
       exact this
   have H:=hide (sortStable_any A r c (.func (.func 170) #[] #[.pointer (some ⟨b3,0,none⟩)]) w2 _ hr8 hcal)
   clear hcal hb hB2
   go_wp2_with fail
   refine H.out.mono ?_
   rintro e w3 ⟨⟨u,rfl⟩,o,ho,hpo,hpw,hb3⟩
   have Ho:=hide ho;have Hpo:=hide hpo;have Hpw:=hide hpw
   clear ho hpo hpw
   go_wp2_with fail
   go_ret
   exact⟨_,o,rfl,Ho.out.mono hb1.size,Hpo.out,Hpw.out,hb3⟩
end Go.Proofs.YtiioegopckoldaaGreatDoor
namespace Go.Proofs.YtiioegopckoldaaGreatDoor
open Go.RowKit Go.Shelf
def Brs.wh (B:Brs) (hs:List Int):Brs:={B with hs:=hs }
theorem Brs.set_h {B:Brs} {i:Nat} {x:Int} (h8:B.hs.length=8) (hi:i < 8):B.cells.set (1+i) (.int .i64 x)=(B.wh (B.hs.set i x)).cells:=by
 unfold Brs.cells Brs.wh ivs
 rw[Nat.add_comm,List.set_cons_succ,List.set_append_left _ _ (by simp[h8];omega),List.map_set]
theorem Brs.wh_len {w:World} {B:Brs} {ns pr:List Int} (h:BAt w B ns pr) (hs:List Int) (h8:hs.length=8):(B.wh hs).cells.length=18:=by
 simp[Brs.cells,Brs.wh,ivs,nvs,h8,h.sl]
theorem mul_bd2 {x p:Int} (h0:0≤x) (h1:x≤200000) (p0:0≤p) (p1:p≤100000):0≤x*p∧x*p≤20000000000:=by
 refine⟨Int.mul_nonneg h0 p0,?_⟩
 have h2:x*p≤200000*p:=Int.mul_le_mul_of_nonneg_right h1 p0
 omega
theorem BAt.of_kept {w W:World} {B:Brs} {ns pr:List Int} {b1 z:Nat} (h:BAt w B ns pr) (rn:Rd w z icell B.An ns) (rp:Rd w z icell B.Ap pr) (hk:Kept (fun b=>b≠b1) w W) (hz:z≤b1) (hzw:z≤w.heap.size) {hs:List Int} (h8:hs.length=8) (hb:∀x∈hs,0≤x∧x≤200000):BAt W (B.wh hs) ns pr:=
 ⟨⟨h.ok.nl,h.ok.n,hb,h.ok.s,h.ok.pl,h.ok.p⟩,h8,h.sl,h.en,h.er,(rn.keptR hk (fun b hb=>by omega) hzw).more (Nat.le_trans hzw hk.size),(rp.keptR hk (fun b hb=>by omega) hzw).more (Nat.le_trans hzw hk.size)⟩
theorem set_all {p:Int→Prop} {xs:List Int} (h:∀x∈xs,p x) {y:Int} (hy:p y) (i:Nat):∀x∈xs.set i y,p x:=fun x hx=>by
 rcases List.mem_or_eq_of_mem_set hx with h1 | rfl
 ·exact h x h1
 ·exact hy
set_option maxHeartbeats 4000000 in
set_option maxRecDepth 100000 in
theorem cost_any (B:Brs) (ns pr:List Int) (w:World) (hB:BAt w B ns pr) :
 Calls Tryz.prog 49 #[.agg B.cells.toArray] w fun e w'=>∃c b,e= .returned (.tuple #[.int .i64 c,.bool b])∧CostIs ns B.hs B.ss pr c b∧Below w.heap.size w w':=by
 obtain⟨b1,w1,e1,ew1,hx1,hb1,hz1⟩:=mk_bx w B.cells.toArray 139
 rw[List.toList_toArray] at hx1
 have HB1:=hide (hB.bel hb1)
 obtain⟨hm8,hr8⟩:=hB.m8
 have hb1g:w.heap.size≤b1:=by have:=e1.out;omega
 have RN:=hide (hB.rn.below hb1);have RP:=hide (hB.rp.below hb1)
 have X1:=hide hx1
 have HB0:=hide hB
 clear hB hx1
 go_enter Tryz.func49,Tryz.ntmps49
 go_wp2_with (rw[ew1.out,e1.out];refine wpList_load_mid rfl 139 _ rfl b1 0 rfl B.cells _ X1.out.at_.range Tryz.underlying139 rfl HB1.out.size ?_)
 refine(lack_any B ns pr (-1) w1 HB1.out (by omega) (by omega)).mono ?_
 rintro e w2 ⟨rfl,hb2⟩
 have hB2:=hb1.trans (hb2.mono hb1.size)
 obtain⟨L,hL⟩:∃L,L=lackS ns B.hs B.ss B.r (-1):=⟨_,rfl⟩
 have HL:=hide hL
 have er:=HB1.out.er
 rw[←hL]
 clear hL
 by_cases hl:0 < L
 ·have Hc:Hid (CostIs ns B.hs B.ss pr 0 false):=hide ⟨fun _=>⟨rfl,rfl⟩,fun hf=>absurd (by rw[←er,←HL.out];exact hl) (feas_iff.1 hf)⟩
  go_wp2_with fail
  go_ret2
  exact⟨_,_,rfl,Hc.out,hB2⟩
 ·have Hf:Hid ((boOf ns B.ss pr).Feas (xOf B.hs)):=hide (feas_iff.2 (by rw[←er,←HL.out];exact hl))
  have x1:=X1.out.bel hb2
  have c17:=(HB1.out.bel hb2).c17 x1.at_
  obtain⟨bl,w4,el,ew4,hx4,hb4,hz4⟩:=mk_bx w2 (byFs b1).toArray 219
  rw[List.toList_toArray] at hx4
  have H24:=hide (hb2.trans (hb4.mono hb2.size))
  have HB4:=hide (HB1.out.bel H24.out)
  have X4:=hide (x1.bel hb4)
  obtain⟨r,hr⟩:∃r,r=B.r:=⟨_,rfl⟩
  have Hr:=hide (show r=pr.length by rw[hr];exact er)
  have Hr2:=hide hr
  rw[←hr] at hr8 c17
  have hl2:¬L > 0:=hl
  clear hl x1 er hr
  go_wp2_with fail
  have ew4':w2.alloc (.cells #[.func (.func 113) #[] #[.pointer (some ⟨b1,0,none⟩)],.func (.func 115) #[] #[]] 219)=w4:=ew4.out
  rw[ew4',el.out]
  clear c17 ew4'
  refine(ordered_any B ns pr b1 bl r w4 HB4.out X4.out.at_ hx4.at_ Hr.out Hr2.out).mono ?_
  rintro e w5 ⟨v,o,rfl,ho,hpo,hpw,hb5⟩
  obtain⟨A19,c19,rfl,r19⟩:=ho.rdn r (by rw[List.length_map,hpo.length_eq,List.length_range])
  have H25:=hide (H24.out.trans (hb5.mono H24.out.size))
  have HB5:=hide (HB1.out.bel H25.out)
  have X5:=hide (X4.out.bel hb5)
  have RN5:=hide (RN.out.below (H25.out.mono hb1.size));have RP5:=hide (RP.out.below (H25.out.mono hb1.size))
  have R19:=hide r19;have Hpo:=hide hpo;have Hpw:=hide hpw
  have hg19:b1 < w4.heap.size:=by have:=X4.out.lt;exact this
  have ho5:=hide ho
  have Hb05:=hide (hb1.trans (H25.out.mono hb1.size))
  clear r19 hpo hpw ho hb4 hb5 hx4
  go_wp2_with fail
  have hzw:w.heap.size≤w5.heap.size:=Hb05.out.size
  go_loopw [6,21] (fun sv iv wr=>∃(k:Nat) (hs:List Int),k≤r∧sv= .int .i64 (paid hs pr (o.take k))∧iv= .int .i64 k∧Hid (hs.length=8)∧Hid (∀x∈hs,0≤x∧x≤200000)∧Hid (0≤paid hs pr (o.take k)∧paid hs pr (o.take k)≤k*20000000000)∧Hid ((boOf ns B.ss pr).Run (xOf B.hs) (o.take k) (xOf hs))∧Hid (Bx wr b1 (B.wh hs).cells)∧Kept (fun b=>b≠b1) w5 wr) (fun _ iv _=>r-(intOf iv).toNat)
  case atStart=>exact⟨0,B.hs,by omega,rfl,rfl,hide HB0.out.hl,hide HB0.out.ok.h,hide ⟨Int.le_refl _,by simp[paid,Bo.sumL]⟩,hide Bo.Run.nil,X5,Kept.refl _ _⟩
  case round=>
   obtain⟨k,hs,hk,rfl,rfl,H8,HH,Hbd,HR,HX,hKw⟩:=hrel
   obtain⟨z,hz⟩:∃z,z=paid hs pr (o.take k):=⟨_,rfl⟩
   rw[←hz] at Hbd ⊢
   have Hz:=hide hz
   clear hz
   have hBr:=HB5.out.of_kept RN5.out RP5.out hKw hb1g hzw H8.out HH.out
   by_cases hlt:k < r
   ·obtain⟨i,hi⟩:∃i,o[k]?=some i:=⟨_,List.getElem?_eq_getElem (by rw[Hpo.out.length_eq,List.length_range];exact hlt)⟩
    have hir:i < r:=List.mem_range.1 (Hpo.out.mem_iff.1 (List.mem_of_getElem? hi))
    have ro:Rd wr wr.heap.size icell A19 (o.map Int.ofNat):=by
     obtain⟨A',c',e1,r'⟩:=(ho5.out.keptR hKw (fun b hb=>by omega)).rdn r (by rw[List.length_map,Hpo.out.length_eq,List.length_range])
     injection e1 with e1 _ _
     rw[e1];exact r'
    obtain⟨q,off,x,hA,hql,hx,c0⟩:=ro.int (i:=k) (by rw[List.length_map,Hpo.out.length_eq,List.length_range];exact hlt)
    obtain rfl:(i:Int)=x:=by
     rw[List.getElem?_map,hi] at hx
     exact Option.some.inj hx
    have hni:i∉o.take k:=by
     intro hm
     have hd:=Hpo.out.nodup_iff.2 List.nodup_range
     obtain⟨j,hj,hji⟩:=List.getElem_of_mem hm
     rw[List.getElem_take] at hji
     rw[List.length_take] at hj
     obtain⟨hk1,hk2⟩:=List.getElem?_eq_some_iff.1 hi
     have:=(List.getElem_inj hd).1 (hji.trans hk2.symm)
     omega
    have hir8:i < 8:=by omega
    have Hi:=hide hi;have Hni:=hide hni
    have ik:(k:Int) < (r:Int):=by omega
    have ii:(i:Int) < (r:Int):=by omega
    have i8:(i:Int) < 8:=by omega
    have Hbr:=hide hBr
    rw[hA]
    clear hi hni hx hA ro hBr hql
    go_wp2_with (refine wpList_load_mid rfl 139 _ rfl b1 0 rfl (B.wh hs).cells _ HX.out.at_.range Tryz.underlying139 rfl Hbr.out.size ?_)
    refine(lack_any (B.wh hs) ns pr (i:Int) wr Hbr.out (by omega) (by omega)).mono ?_
    rintro e w7 ⟨rfl,hb7⟩
    obtain⟨y,hy⟩:∃y,y=lackS ns (B.wh hs).hs (B.wh hs).ss (B.wh hs).r (i:Int):=⟨_,rfl⟩
    have hyb:=lackTo_bd Hbr.out.ok.n Hbr.out.ok.nl Hbr.out.ok.h (B.wh hs).ss (show(B.wh hs).r≤8 by rw[Hbr.out.er];exact Hbr.out.ok.pl) (i:Int) (2 ^ ns.length)
    have hyb2:0≤y∧y≤184320:=by rw[hy];exact hyb
    rw[←hy]
    have hL:(boOf ns B.ss pr).Lacks (xOf hs) i y:=by
     have h:=lack_spec (ns:=ns) (hs:=hs) (ss:=B.ss) (pr:=pr) i
     rw[←Hr.out,Hr2.out] at h
     rw[hy];exact h
    have hR':=Bo.Run.snoc (B:=boOf ns B.ss pr) HR.out (show i < pr.length by rw[←Hr.out];exact hir) Hni.out hL
    rw[←xOf_set (by rw[H8.out];exact hir8),←take_snoc Hi.out] at hR'
    have HR':=hide hR'
    have X7:=HX.out.bel hb7
    have cH:=Hbr.out.ch X7.at_ hir8
    have fz:=X7.fz (1+i)
    have X8:Bx (w7.setCell ⟨b1,1+i,none⟩ (.int .i64 y)) b1 (B.wh (hs.set i y)).cells:=by
     have h:=X7.set (j:=1+i) (.int .i64 y) (by rw[Brs.wh_len HB5.out hs H8.out];omega)
     rw[Brs.set_h (B:=B.wh hs) H8.out hir8] at h
     exact h
    have k8:Kept (fun b=>b≠b1) w5 (w7.setCell ⟨b1,1+i,none⟩ (.int .i64 y)):=(hKw.trans (Kept.all _ hb7)).trans (Kept.setCell w7 ⟨b1,1+i,none⟩ _)
    clear hy hyb hL hR' c0
    go_upto_region 10 with fail
    obtain⟨w8,hw8⟩:∃w8,Hid (w7.setCell ⟨b1,1+i,none⟩ (.int .i64 y)=w8):=⟨_,hide rfl⟩
    rw[hw8.out] at X8 k8 ⊢
    clear cH fz X7
    have h8':(hs.set i y).length=8:=by rw[List.length_set];exact H8.out
    have hh':=set_all HH.out (y:=y) ⟨hyb2.1,by omega⟩ i
    have hB8:=HB5.out.of_kept RN5.out RP5.out k8 hb1g hzw h8' hh'
    obtain⟨q,off,p0,hA,hql,hp,c0⟩:=hB8.rp.int (i:=i) (by rw[←Hr.out];exact hir)
    have c17:=hB8.c17 X8.at_
    have c1:=hB8.ch X8.at_ hir8
    have e1:(B.wh (hs.set i y)).hs.getD i 0=y:=by
     show(hs.set i y).getD i 0=y
     rw[List.getD_eq_getElem?_getD,List.getElem?_set_self (by rw[H8.out];exact hir8)];rfl
    rw[e1] at c1
    have c17':w8.cell? ⟨b1,17,none⟩=some (.slice (some ⟨q,off,none⟩) r B.cp):=by rw[c17,show(B.wh (hs.set i y)).Ap=some ⟨q,off,none⟩ from hA,Hr2.out];rfl
    have hpb:=HB5.out.ok.p p0 (List.mem_of_getElem? hp)
    obtain⟨m0,m1⟩:=mul_bd2 hyb2.1 (show y≤200000 by omega) hpb.1 hpb.2
    have hbd:=Hbd.out
    have hkk:(k:Int)*20000000000≤160000000000:=by omega
    obtain⟨pq,hpq⟩:∃pq,pq=y*p0:=⟨_,rfl⟩
    rw[←hpq] at m0 m1
    have hm1:IntKind.i64.wrap (y*p0)=pq:=by rw[←hpq];exact wrapI (by omega)
    have hm1':wrap64 (y*p0)=pq:=by rw[←hpq];unfold wrap64;omega
    have hm2:IntKind.i64.wrap (z+pq)=z+pq:=wrapI (by omega)
    have hpd:pr.getD i 0=p0:=by rw[List.getD_eq_getElem?_getD,hp];rfl
    have Hpaid:Hid (paid (hs.set i y) pr (o.take (k+1))=z+pq):=hide (by rw[take_snoc Hi.out,paid_snoc,paid_set Hni.out,←Hz.out,hpd,hpq];congr 2)
    have HX8:=hide X8;have HK8:=hide k8;have Hh':=hide hh';have H8':=hide h8'
    have Hbd':Hid (0≤z+pq∧z+pq≤(k+1:Nat)*20000000000):=hide ⟨by omega,by omega⟩
    clear c17 X8 k8 hh' h8' hB8 hA hql hp hpd hpq e1 hpb hbd hkk
    go_wp2_with fail
    go_quiet (fail)
    go_wp2_with fail
    refine⟨⟨k+1,hs.set i y,by omega,by rw[Hpaid.out],by go_num,H8',Hh',by rw[Hpaid.out];exact Hbd',HR',hide (HX8.out.bel (below_drewN (Below.refl _ _) _)),HK8.out.trans (Kept.drew _ _ _)⟩,by simp[intOf];omega⟩
   ·obtain rfl:r=k:=by omega
    have ht:o.take r=o:=List.take_of_length_le (by rw[Hpo.out.length_eq,List.length_range];exact Nat.le_refl _)
    have Hc:Hid (CostIs ns B.hs B.ss pr z true):=by
     have hR:=HR.out
     rw[ht] at hR
     have h:=cost_of_run (ns:=ns) (ss:=B.ss) (pr:=pr) (hs:=hs) (h0:=B.hs) (o:=o) (fun i hi=>(getD_mem (p:=fun x:Int=>0≤x∧x≤100000) (d:=0) HB5.out.ok.p (by decide) i).1) (fun i hi=>(getD_mem (p:=fun x:Int=>0≤x∧x≤200000) (d:=0) HB5.out.ok.h (by decide) i).1) Hf.out hR (by rw[←Hr.out];exact Hpo.out) Hpw.out
     rw[←ht,←Hz.out] at h
     exact hide h
    have HKf:=hide (Hb05.out.trans (hKw.below (fun b hb=>by omega) hzw))
    go_wp2_with fail
    go_ret2
    exact⟨_,_,rfl,Hc.out,HKf.out⟩
end Go.Proofs.YtiioegopckoldaaGreatDoor
namespace Go.Proofs.YtiioegopckoldaaGreatDoor
open Go.RowKit Go.Shelf
theorem eql_ints_some (a:Addr) (l c:Nat) (w:World):(binOp .eql 26 (.slice (some a) l c) (.slice none 0 0)).run Tryz.prog w= .ok (.bool false) w:=by kernel_rfl
theorem eql_ints_none (l c:Nat) (w:World):(binOp .eql 26 (.slice none l c) (.slice none 0 0)).run Tryz.prog w= .ok (.bool true) w:=by kernel_rfl
theorem litI (w:World) (base q:Nat) (hq:q=w.heap.size) (hb:base≤w.heap.size):Own (w.alloc (.cells #[] 3)) base 3 1 icell (.slice (some ⟨q,0,none⟩) 0 0) []:=by
 subst hq
 exact Own.lit w 3 1 #[] [] (fun _=>rfl) rfl (by simp) base hb
set_option maxHeartbeats 4000000 in
set_option maxRecDepth 100000 in
theorem clone_any (A:Option Addr) (n c:Nat) (xs:List Int) (w:World) (hx:Rd w w.heap.size icell A xs) (hn:n=xs.length) (hn2:n≤1000) :
 Calls Tryz.prog 111 #[.slice A n c] w fun e w'=>∃v,e= .returned v∧Own w' w.heap.size 3 1 icell v xs∧Below w.heap.size w w':=by
 rcases A with _ | a
 ·have h0:n=0:=by
   rcases Nat.eq_zero_or_pos n with h | h
   ·exact h
   ·obtain⟨b,off,e,_⟩:=hx (by omega)
    cases e
  obtain rfl:xs=[]:=List.length_eq_zero_iff.1 (by omega)
  subst h0
  have h1:=eql_ints_none 0 c w
  clear hx hn hn2
  go_enter Tryz.func111,Tryz.ntmps111
  go_wp2_with fail
  go_ret
  exact⟨_,rfl,Own.nil _ _ _ _ _,Below.refl _ _⟩
 ·have h1:=eql_ints_some a n c w
  have L:=hide (litI w w.heap.size w.heap.size rfl (Nat.le_refl _))
  have hb1:=hide (below_new w (.cells #[] 3))
  have R:=hide ((hx.below hb1.out).more hb1.out.size)
  have Hn:=hide hn
  clear hx hn
  go_enter Tryz.func111,Tryz.ntmps111
  go_wp2_with (at_builtin;refine wpList_app (v:= .slice (some ⟨w.heap.size,0,none⟩) 0 0) (xs:=[]) (ys:=xs) (n:=n) (base:=w.heap.size) el_int rfl (.tmp 5) (.tmp 6) rfl rfl L.out Hn.out.symm rfl R.out (by simp;omega) (by simp) ?_;intro v8 w6 o8 g8 _;have O8:=hide o8;have G8:=hide g8;clear o8 g8)
  go_ret
  exact⟨_,rfl,by have:=O8.out;rwa [List.nil_append] at this,hb1.out.grown G8.out hb1.out.size (fun g hg=>by simp[Value.ownBlock] at hg;omega)⟩
theorem results_bo {fn:Func} {p:Tmp} (h:fn.results= #[.cell p 139]) (tmps:Array Value) (w W:World) (g:Nat) (B:Brs) (ns pr:List Int) (hp:tmps.getD p undef= .pointer (some ⟨g,0,none⟩)) (hB:BAt w B ns pr) (ha:At W g B.cells) :
 (results fn tmps).run Tryz.prog W= .ok (.agg B.cells.toArray) W:=by
 have hp':tmps[p]?.getD undef= .pointer (some ⟨g,0,none⟩):=by simpa using hp
 simp[results,h,hp',asAddr,run_loadVar_mid W g 0 _ _ _ ha.range Tryz.underlying139 rfl hB.size]
theorem Brs.set_n {B:Brs} (A:Option Addr) (m c:Nat):B.cells.set 0 (.slice A m c)=({B with An:=A,m:=m,cn:=c }:Brs).cells:=rfl
theorem own_kept {w W:World} {base b:Nat} {e:TypeId} {k:Nat} {v:Value} {xs:List Int} (h:Own w base e k icell v xs) (hk:Kept (fun x=>x≠b) w W) (hb:b < base):Own W base e k icell v xs:=h.keptR hk (fun x hx=>by omega)
theorem below_setCells {b:World} {B p:Nat} (hp:B≤p):∀(vs:List Value) (o:Nat) (w:World),Below B b w→Below B b (w.setCells p o vs)
 | [],_,_,h=>h
 | v :: r,o,w,h=>below_setCells hp r (o+1) _ (h.setCell (p:=⟨p,o,none⟩) hp v)
theorem kept_setCells {b:World} {p:Nat}:∀(vs:List Value) (o:Nat) (w:World),Kept (fun x=>x≠p) b w→Kept (fun x=>x≠p) b (w.setCells p o vs)
 | [],_,_,h=>h
 | v :: r,o,w,h=>kept_setCells r (o+1) _ (h.trans (Kept.setCell w ⟨p,o,none⟩ v))
theorem bx_range {w:World} {p:Nat} {cs vs:List Value} (h:Bx w p cs) (hl:vs.length=cs.length):w.there p 0 vs.length:=fun j hj=>by
 rw[Nat.zero_add]
 refine⟨?_,h.fz j⟩
 rw[h.at_.2 j _ (List.getElem?_eq_getElem (by rw[←hl];exact hj))];rfl
theorem at_setCells {w:World} {p:Nat} {cs vs:List Value} (h:Bx w p cs) (hl:vs.length=cs.length):At (w.setCells p 0 vs) p vs:=by
 have hr:=World.rangeAt_setCells_same w p 0 vs (bx_range h hl)
 refine⟨?_,fun j v hv=>by have:=hr j v hv;rwa [Nat.zero_add] at this⟩
 exact Nat.lt_of_lt_of_le h.lt (below_setCells (Nat.zero_le p) vs 0 w (Below.refl 0 w)).size
def Away (B:Brs) (p:Nat):Prop:=(0 < B.m→∀b o s,B.An=some ⟨b,o,s⟩→b≠p)∧(0 < B.r→∀b o s,B.Ap=some ⟨b,o,s⟩→b≠p)
theorem Rd.keptA {α:Type} {cells:α→List Value} {w W:World} {A:Option Addr} {xs:List α} {p:Nat} (h:Rd w w.heap.size cells A xs) (ha:0 < xs.length→∀b o s,A=some ⟨b,o,s⟩→b≠p) (hk:Kept (fun b=>b≠p) w W):Rd W W.heap.size cells A xs:=fun hn=>by
 obtain⟨b,off,e,hB,hc⟩:=h hn
 have hne:=ha hn b off none e
 exact⟨b,off,e,Nat.lt_of_lt_of_le hB hk.size,fun j v hv=>(hk.cell (p:=⟨b,off+j,none⟩) hne hB).trans (hc j v hv)⟩
theorem BAt.keptA {w W:World} {B:Brs} {ns pr:List Int} {p:Nat} (h:BAt w B ns pr) (ha:Away B p) (hk:Kept (fun b=>b≠p) w W):BAt W B ns pr:=⟨h.ok,h.hl,h.sl,h.en,h.er,h.rn.keptA (fun hn=>ha.1 (by rw[h.en];exact hn)) hk,h.rp.keptA (fun hn=>ha.2 (by rw[h.er];exact hn)) hk⟩
theorem BAt.away {w:World} {B:Brs} {ns pr:List Int} (h:BAt w B ns pr) {p:Nat} (hp:w.heap.size≤p):Away B p:=by
 refine⟨fun hm b o s e=>?_,fun hr b o s e=>?_⟩
 ·obtain⟨b',off,e',hb,_⟩:=h.rn (by rw[←h.en];exact hm)
  rw[e] at e';injection e' with e';injection e' with e1 _ _;omega
 ·obtain⟨b',off,e',hb,_⟩:=h.rp (by rw[←h.er];exact hr)
  rw[e] at e';injection e' with e';injection e' with e1 _ _;omega
theorem bx_setCells {w:World} {p:Nat} {cs vs:List Value} (h:Bx w p cs) (hl:vs.length=cs.length):Bx (w.setCells p 0 vs) p vs:=⟨at_setCells h hl,fun j=>by rw[World.frozen?_setCells];exact h.fz j⟩
set_option maxHeartbeats 4000000 in
set_option maxRecDepth 100000 in
theorem take_any (B:Brs) (ns pr:List Int) (i k:Nat) (x:Int) (w:World) (hB:BAt w B ns pr) (hi:i < 8) (hk:k < B.m) (hx0:0≤x) (hxn:x≤ns.getD k 0) (hxh:x≤B.hs.getD i 0) :
 Calls Tryz.prog 51 #[.agg B.cells.toArray,.int .i64 (i:Nat),.int .i64 (k:Nat),.int .i64 x] w fun e w'=>∃B':Brs,e= .returned (.agg B'.cells.toArray)∧BAt w' B' (ns.set k (ns.getD k 0-x)) pr∧B'.hs=B.hs.set i (B.hs.getD i 0-x)∧B'.ss=B.ss∧B'.m=B.m∧B'.r=B.r∧(∀p,p < w.heap.size→Away B p→Away B' p)∧Below w.heap.size w w':=by
 obtain⟨b4,w1,e4,ew1,hx4,hb1,hz1⟩:=mk_bx w B.cells.toArray 139
 rw[List.toList_toArray] at hx4
 have HB1:=hide (hB.bel hb1)
 obtain⟨hm8,hr8⟩:=hB.m8
 obtain⟨m,hm⟩:∃m,m=B.m:=⟨_,rfl⟩
 have Hm:=hide hm
 rw[←hm] at hk hm8
 have X4:=hide hx4
 have HB0:=hide hB
 have hb4g:w.heap.size≤b4:=by have:=e4.out;omega
 clear hB hx4 hm
 go_enter Tryz.func51,Tryz.ntmps51
 obtain⟨b8,w2,e8,ew2,hx8,hb2,hz2⟩:=mk_bx w1 #[.slice none 0 0,.int .i64 0,.int .i64 0,.int .i64 0,.int .i64 0,.int .i64 0,.int .i64 0,.int .i64 0,.int .i64 0,.int .i64 0,.int .i64 0,.int .i64 0,.int .i64 0,.int .i64 0,.int .i64 0,.int .i64 0,.int .i64 0,.slice none 0 0] 139
 have e48:b4+1=b8:=by have:=e8.out;omega
 go_upto_region 1 with fail
 rw[ew1.out,ew2.out,e4.out,e48]
 have hB2:=hb1.trans (hb2.mono hb1.size)
 have X42:=hide (X4.out.bel hb2);have X8:=hide hx8
 have HB2:=hide (HB1.out.bel hb2)
 have y0:w2.cell? ⟨b4,0,none⟩=some (.slice B.An m B.cn):=by rw[Hm.out];exact HB2.out.c0 X42.out.at_
 go_wp2_with fail
 refine(clone_any B.An m B.cn ns w2 HB2.out.rn (by rw[Hm.out];exact HB2.out.en) (by omega)).mono ?_
 rintro e w3 ⟨v,rfl,ho,hb3⟩
 have hmn:m=ns.length:=by rw[Hm.out];exact HB2.out.en
 obtain⟨g,c,rfl,hg0,hg1⟩:∃g c,v= .slice (some ⟨g,0,none⟩) m c∧w2.heap.size≤g∧g < w3.heap.size:=by
  rcases ho.2 with⟨h1,h2⟩ | ⟨g,cap,cur,h1,h2,h3,_⟩
  ·have h3:ns.length=0:=h2
   omega
  ·exact⟨g,cap,by rw[h1,←hmn],h2,(Array.getElem?_eq_some_iff.1 h3).1⟩
 have Hmn:=hide hmn
 clear hmn
 have hb4l:=X42.out.lt
 have hb8l:=X8.out.lt
 have HO:=hide ho
 have X43:=X42.out.bel hb3
 have c40:=X43.at_.2 0 _ rfl
 have f40:=X43.fz 0
 clear y0 ho hx8
 go_upto_region 2 with fail
 have X44:=X43.set (j:=0) (.slice (some ⟨g,0,none⟩) m c) (by rw[HB2.out.len];omega)
 rw[Brs.set_n] at X44
 have k34:Kept (fun x=>x≠b4) w3 (w3.setCell ⟨b4,0,none⟩ (.slice (some ⟨g,0,none⟩) m c)):=Kept.setCell w3 ⟨b4,0,none⟩ _
 have hB3:=hB2.trans (hb3.mono hB2.size)
 have hB4:=hB3.setCell (p:=⟨b4,0,none⟩) hb4g (.slice (some ⟨g,0,none⟩) m c)
 obtain⟨w4,hw4⟩:∃w4,Hid (w3.setCell ⟨b4,0,none⟩ (.slice (some ⟨g,0,none⟩) m c)=w4):=⟨_,hide rfl⟩
 rw[hw4.out] at X44 k34 hB4 ⊢
 clear c40 f40 X43 hB3
 have O4:=own_kept HO.out k34 (by omega)
 have X84:=(X8.out.bel hb3).kept k34 (by omega)
 obtain⟨nk,hnk⟩:∃nk,ns[k]?=some nk:=⟨_,List.getElem?_eq_getElem (by have:=Hmn.out;omega)⟩
 have hgd:ns.getD k 0=nk:=by rw[List.getD_eq_getElem?_getD,hnk];rfl
 rw[hgd] at hxn
 have hnb:=HB2.out.ok.n nk (List.mem_of_getElem? hnk)
 have ck:=own_int O4 Hmn.out hnk
 have fk:=own_frzI O4 Hmn.out k
 obtain⟨O5,_,_⟩:=O4.put_ icell_len (i:=k) (j:=0) (x':=nk-x) (u:= .int .i64 (nk-x)) hnk (by omega) (by simp[icell]) Hmn.out
 simp only[Nat.mul_one,Nat.add_zero] at O5
 have c44:=X44.at_.2 0 _ rfl
 have hw1:IntKind.i64.wrap (nk-x)=nk-x:=wrapI (by omega)
 have ik:(k:Int) < (m:Int):=by omega
 have Hnk:=hide hnk
 clear hnk
 go_upto_region 3 with fail
 have X45:=X44.other (q:=⟨g,k,none⟩) (.int .i64 (nk-x)) (by show g≠b4;omega)
 have X85:=X84.other (q:=⟨g,k,none⟩) (.int .i64 (nk-x)) (by show g≠b8;omega)
 have hB5:=hB4.setCell (p:=⟨g,k,none⟩) (show w.heap.size≤g by have:=hB2.size;omega) (.int .i64 (nk-x))
 obtain⟨w5,hw5⟩:∃w5,Hid (w4.setCell ⟨g,k,none⟩ (.int .i64 (nk-x))=w5):=⟨_,hide rfl⟩
 rw[hw5.out] at X45 X85 hB5 O5 ⊢
 clear ck fk c44 X44 X84 O4 hw1
 obtain⟨B5,hB5e⟩:∃B5:Brs,B5={B with An:=some ⟨g,0,none⟩,m:=m,cn:=c }:=⟨_,rfl⟩
 have e5h:B5.hs=B.hs:=by rw[hB5e]
 have e5l:B5.hs.length=8:=by rw[e5h];exact HB2.out.hl
 have rn5:Rd w5 w5.heap.size icell (some ⟨g,0,none⟩) (ns.set k (nk-x)):=by
  obtain⟨A',c',e1,r'⟩:=O5.rdn m (by rw[List.length_set];exact Hmn.out.symm)
  injection e1 with e1 _ _
  rw[e1];exact r'
 have rp5:Rd w5 w5.heap.size icell B.Ap pr:=(HB0.out.rp.below hB5).more hB5.size
 have ok5:∀hs:List Int,hs.length=8→(∀z∈hs,0≤z∧z≤200000)→BAt w5 (B5.wh hs) (ns.set k (nk-x)) pr:=fun hs h8 hh=>by
  rw[hB5e]
  exact⟨⟨by rw[List.length_set];exact HB0.out.ok.nl,set_all HB0.out.ok.n ⟨by omega,by omega⟩ k,hh,HB0.out.ok.s,HB0.out.ok.pl,HB0.out.ok.p⟩,h8,HB0.out.sl,by rw[List.length_set];exact Hmn.out,HB0.out.er,rn5,rp5⟩
 have hb55:BAt w5 B5 (ns.set k (nk-x)) pr:=by
  have h:=ok5 B5.hs e5l (by rw[e5h];exact HB0.out.ok.h)
  exact h
 rw[←hB5e] at X45
 have E5A:=hide (show B5.An=some ⟨g,0,none⟩ by rw[hB5e]);have E5P:=hide (show B5.Ap=B.Ap by rw[hB5e])
 have e5s:B5.ss=B.ss:=by rw[hB5e]
 have e5m:B5.m=m:=by rw[hB5e]
 have e5r:B5.r=B.r:=by rw[hB5e]
 clear hB5e rn5 rp5
 have ch:=hb55.ch X45.at_ hi
 have fh:=X45.fz (1+i)
 obtain⟨h0,hh0⟩:∃h0,h0=B5.hs.getD i 0:=⟨_,rfl⟩
 rw[←hh0] at ch
 rw[←e5h,←hh0] at hxh
 have hhb:0≤h0∧h0≤200000:=by rw[hh0,e5h];exact getD_mem (p:=fun x:Int=>0≤x∧x≤200000) (d:=0) HB0.out.ok.h (by decide) i
 have hw2:IntKind.i64.wrap (h0-x)=h0-x:=wrapI (by omega)
 have i8:(i:Int) < 8:=by omega
 have X46:=X45.set (j:=1+i) (.int .i64 (h0-x)) (by rw[hb55.len];omega)
 rw[Brs.set_h e5l hi] at X46
 have k56:Kept (fun y=>y≠b4) w5 (w5.setCell ⟨b4,1+i,none⟩ (.int .i64 (h0-x))):=Kept.setCell w5 ⟨b4,1+i,none⟩ _
 have hB6:=hB5.setCell (p:=⟨b4,1+i,none⟩) hb4g (.int .i64 (h0-x))
 have Ok5:=hide ok5;have Hh0:=hide hh0;have E5h:=hide e5h;have E5s:=hide e5s;have E5m:=hide e5m;have E5r:=hide e5r;have E5l:=hide e5l
 have HO5:=hide O5
 clear ok5 hh0 e5h e5s e5m e5r e5l O5 hb55
 go_upto_region 4 with fail
 obtain⟨w6,hw6⟩:∃w6,Hid (w5.setCell ⟨b4,1+i,none⟩ (.int .i64 (h0-x))=w6):=⟨_,hide rfl⟩
 rw[hw6.out] at X46 k56 hB6 ⊢
 have X86:=X85.kept k56 (by omega)
 obtain⟨B6,hB6e⟩:∃B6,B6=B5.wh (B5.hs.set i (h0-x)):=⟨_,rfl⟩
 have ok6:BAt w5 B6 (ns.set k (nk-x)) pr:=by
  rw[hB6e]
  exact Ok5.out (B5.hs.set i (h0-x)) (by rw[List.length_set];exact E5l.out) (set_all (by rw[E5h.out];exact HB0.out.ok.h) ⟨by omega,by omega⟩ i)
 rw[←hB6e] at X46
 have E6:=hide hB6e
 have Ok6:=hide ok6
 have th:=bx_range X86 (vs:=B6.cells) (by rw[ok6.len];rfl)
 have th2:w6.there b8 0 B6.cells.toArray.size:=by rw[List.size_toArray];exact th
 have hi2:(Tryz.prog.info? 139).map (·.size)=some B6.cells.toArray.size:=by rw[List.size_toArray];exact ok6.size
 have one2:=all_oneCell_toArray B6.one
 have a8:=at_setCells X86 (vs:=B6.cells) (by rw[ok6.len];rfl)
 have hB7:=below_setCells (show w.heap.size≤b8 by omega) B6.cells 0 w6 hB6
 have k67:=kept_setCells (p:=b8) B6.cells 0 w6 (Kept.refl _ w6)
 have Th2:=hide th2;have Hi2:=hide hi2;have One2:=hide one2;have A8:=hide a8;have HB7:=hide hB7;have K67:=hide k67;have K56:=hide k56
 clear hB6e ok6 th th2 hi2 one2 a8 hB7 k67 k56 ch fh hw2 X45 X85
 go_wp2_with (first | (refine wpList_load_mid rfl 139 _ rfl b4 0 rfl B6.cells _ X46.at_.range Tryz.underlying139 rfl Ok6.out.size ?_) | (refine wpList_store_mid rfl 139 _ _ rfl b8 0 B6.cells.toArray rfl rfl Th2.out Hi2.out One2.out ?_))
 obtain⟨w7,hw7⟩:∃w7,Hid (w6.setCells b8 0 B6.cells=w7):=⟨_,hide rfl⟩
 have a8:=A8.out;have hB7:=HB7.out;have k67:=K67.out
 rw[hw7.out] at a8 hB7 k67 ⊢
 have ok7:BAt w7 B6 (ns.set k (nk-x)) pr:=by
  have h:=Ok6.out
  refine⟨h.ok,h.hl,h.sl,h.en,h.er,?_,?_⟩
  ·obtain⟨A',c',e1,r'⟩:=(own_kept (own_kept HO5.out K56.out (by omega)) k67 (by omega)).rdn m (by rw[List.length_set];exact Hmn.out.symm)
   injection e1 with e1 _ _
   rw[show B6.An=some ⟨g,0,none⟩ by rw[E6.out];exact E5A.out,e1];exact r'
  ·rw[show B6.Ap=B.Ap by rw[E6.out];exact E5P.out]
   exact(HB0.out.rp.below hB7).more hB7.size
 refine bodyPost_ret (results_bo rfl _ w7 w7 b8 B6 _ _ rfl ok7 a8) rfl ?_
 refine⟨B6,rfl,by rw[hgd];exact ok7,?_,?_,?_,?_,fun p hp ha=>⟨fun _ b o s e=>?_,fun hr b o s e=>ha.2 (by rw[show B6.r=B.r by rw[E6.out];exact E5r.out] at hr;exact hr) b o s (by rw[←e,E6.out];exact E5P.out.symm)⟩,hB7⟩
 ·rw[E6.out]
  show B5.hs.set i (h0-x)=_
  rw[Hh0.out,E5h.out]
 ·rw[E6.out];exact E5s.out
 ·rw[E6.out];exact E5m.out.trans Hm.out
 ·rw[E6.out];exact E5r.out
 ·rw[show B6.An=some ⟨g,0,none⟩ by rw[E6.out];exact E5A.out] at e
  injection e with e
  injection e with e1 _ _
  have:=hB2.size
  omega
end Go.Proofs.YtiioegopckoldaaGreatDoor
