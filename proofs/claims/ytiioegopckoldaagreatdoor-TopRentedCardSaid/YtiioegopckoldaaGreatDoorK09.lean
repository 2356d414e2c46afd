/- lemmas for topRented_holds: DE5 DE6. No conditions. -/
import Derived.Test.YtiioegopckoldaaGreatDoorK08
set_option linter.unusedVariables false
set_option linter.unusedSimpArgs false
namespace Go.Proofs.YtiioegopckoldaaGreatDoor
open Go.RowKit Go.Shelf
structure Bk (w:World) (b bm base:Nat) (days:Int) (H:Option Addr) (nh ch:Nat) (vp:Value) (ps:List Pc) (dd:Int→Option Bool) (nd sd:Nat):Prop where
 bx:Bx w b [.int .i64 days,.slice H nh ch,vp,.map (some bm)]
 ow:Own w base 156 5 Pc.cells vp ps
 mp:Mp Tryz.prog 3 4 ldB w bm nd dd sd
 hb:base≤b
 hm:base≤bm
 ne:b≠bm
 nv:∀g,vp.ownBlock=some g→g≠b∧g≠bm
section
variable {w w':World} {b bm base:Nat} {days:Int} {H:Option Addr} {nh ch:Nat} {vp:Value} {ps:List Pc} {dd:Int→Option Bool} {nd sd:Nat}
theorem Bk.kept {R:Nat→Prop} (h:Bk w b bm base days H nh ch vp ps dd nd sd) (hk:Kept R w w') (h1:R b) (h2:R bm) (h3:∀g,vp.ownBlock=some g→R g):Bk w' b bm base days H nh ch vp ps dd nd sd:=
 ⟨h.bx.kept hk h1,h.ow.keptG hk h3,h.mp.keptR hk h2,h.hb,h.hm,h.ne,h.nv⟩
theorem Bk.bel (h:Bk w b bm base days H nh ch vp ps dd nd sd) (hb:Below w.heap.size w w'):Bk w' b bm base days H nh ch vp ps dd nd sd:=
 h.kept (Kept.all (fun _=>True) hb) trivial trivial (fun _ _=>trivial)
def Bk.own (b bm:Nat) (vp:Value) (c:Nat):Prop:=c≠b∧c≠bm∧¬vp.ownBlock=some c
theorem Bk.ltb (h:Bk w b bm base days H nh ch vp ps dd nd sd):b < w.heap.size:=h.bx.lt
theorem Bk.ltm (h:Bk w b bm base days H nh ch vp ps dd nd sd):bm < w.heap.size:=h.mp.lt
theorem Bk.ltv (h:Bk w b bm base days H nh ch vp ps dd nd sd) {g:Nat} (hg:vp.ownBlock=some g):base≤g∧g < w.heap.size:=h.ow.blockG hg
theorem Bk.off (h:Bk w b bm base days H nh ch vp ps dd nd sd) {q:Nat} (hq:w.heap.size≤q∨q < base):Bk.own b bm vp q:=by
 have:=h.ltb;have:=h.ltm;have:=h.hb;have:=h.hm
 refine⟨by omega,by omega,fun e=>?_⟩
 have:=h.ltv e
 omega
theorem Bk.below (h:Bk w b bm base days H nh ch vp ps dd nd sd) {w0:World} {B:Nat} (hB:Below B w0 w) (hk:Kept (Bk.own b bm vp) w w') (hle:B≤base) (hs:B≤w.heap.size):Below B w0 w':=
 hB.trans (hk.below (fun c hc=>h.off (.inr (by omega))) hs)
theorem Bk.row (h:Bk w b bm base days H nh ch vp ps dd nd sd) {vp':Value} {ps':List Pc} (hk:Kept (fun c=>¬vp.ownBlock=some c) w w') (ho:Own w' base 156 5 Pc.cells vp' ps') (hat:vp'.ownBlock=vp.ownBlock∨∃n,vp'.ownBlock=some n∧w.heap.size≤n) :
 Bk (w'.setCell ⟨b,2,none⟩ vp') b bm base days H nh ch vp' ps' dd nd sd:=by
 have nb:¬vp.ownBlock=some b:=fun e=>(h.nv b e).1 rfl
 have nm:¬vp.ownBlock=some bm:=fun e=>(h.nv bm e).2 rfl
 have nv':∀g,vp'.ownBlock=some g→g≠b∧g≠bm:=fun g e=>by
  rcases hat with e2 | ⟨n,e2,hn⟩
  ·exact h.nv g (by rw[←e2];exact e)
  ·rw[e] at e2;injection e2 with e2
   have:=h.ltb;have:=h.ltm
   omega
 refine⟨by simpa using(h.bx.kept hk nb).set (j:=2) vp' (by simp),ho.setCell (p:=⟨b,2,none⟩) (fun e=>(nv' b e).1 rfl) vp',(h.mp.keptR hk nm).keptR (Kept.setCell _ ⟨b,2,none⟩ vp') (fun e=>h.ne e.symm),h.hb,h.hm,h.ne,nv'⟩
end
def pcOf (h:Us):Pc:=⟨h.frm,h.to,h.field,0,0⟩
set_option maxHeartbeats 4000000 in
set_option maxRecDepth 100000 in
theorem deopen_any (days:Int) (H:Option Addr) (nh ch:Nat) (hs:List Us) (w:World) (hn:nh=hs.length) (hm:nh≤1000) (hx:Rd w w.heap.size Us.cells H hs) :
 Calls Tryz.prog 55 #[.agg #[.int .i64 days,.slice H nh ch]] w fun e w'=>∃b bm vp,e= .returned (.pointer (some ⟨b,0,none⟩))∧Bk w' b bm w.heap.size days H nh ch vp (hs.map pcOf) (fun _=>none) 0 0∧Below w.heap.size w w':=by
 obtain⟨b1,w1,e1,ew1,hx1,hb1,hz1⟩:=mk_bx w #[.int .i64 days,.slice H nh ch] 58
 have hx1:At w1 b1 [.int .i64 days,.slice H nh ch]:=hx1.at_
 have hm3:=Mp.made w1 Tryz.prog 3 4 ldB
 obtain⟨w2,ew2⟩:∃w2,Hid (w1.alloc (.map #[] 0)=w2):=⟨_,hide rfl⟩
 have hb2:Below w1.heap.size w1 (w1.alloc (.map #[] 0)):=below_new _ _
 obtain⟨bm,ebm⟩:∃bm,Hid (w1.heap.size=bm):=⟨_,hide rfl⟩
 rw[ew2.out,ebm.out] at hm3
 rw[ew2.out] at hb2
 obtain⟨b3,w3,e3,ew3,hx3,hb3,hz3⟩:=mk_bx w2 #[.int .i64 days,.slice H nh ch,.slice none 0 0,.map (some bm)] 161
 have hx3:Bx w3 b3 [.int .i64 days,.slice H nh ch,.slice none 0 0,.map (some bm)]:=hx3
 have hbm:w.heap.size≤bm:=by have:=hb1.size;have:=ebm.out;omega
 have h12:bm+1=b3:=by rw[←e3.out,←ew2.out,←ebm.out];simp
 have hb3e:bm < b3:=by have:=hm3.lt;have:=e3.out;omega
 have HB3:=hide ((hb1.trans (hb2.mono hb1.size)).trans (hb3.mono (hb1.trans (hb2.mono hb1.size)).size))
 have HBK:=hide (show Bk w3 b3 bm w.heap.size days H nh ch (.slice none 0 0) ((hs.take 0).map pcOf) (fun _=>none) 0 0 from⟨hx3,Own.nil _ _ _ _ _,hm3.keptR (Kept.all (fun _=>True) hb3) trivial,by omega,hbm,by omega,fun g e=>by cases e⟩)
 have HX1:=hide ((hx1.below hb2).below hb3)
 have hX1:=hx1
 have Hx:=hide hx;have Hn:=hide hn
 clear hn hx hb1 hb2 hb3 hz1 hz3 hm3 hx3 hx1
 go_enter Tryz.func55,Tryz.ntmps55
 have hmm:=@run_makeMap Tryz.prog
 obtain⟨q0,q1⟩:=hX1.c2
 go_upto_region 1 with fail
 rw[ew1.out,e1.out]
 go_upto_region 2 with fail
 rw[ew2.out,ebm.out,h12,ew3.out]
 clear q0 q1 hmm ew1 e1 ew2 ebm ew3 e3 hX1
 obtain⟨q0,q1⟩:=HX1.out.c2
 go_wp2_with fail
 go_loopw [13] (fun i wr=>∃(k:Nat) (vp:Value),k≤nh∧i= .int .i64 k∧Hid (Bk wr b3 bm w.heap.size days H nh ch vp ((hs.take k).map pcOf) (fun _=>none) 0 0)∧Hid (Below w.heap.size w wr)) (fun i _=>nh-(intOf i).toNat)
 case atStart=>exact⟨0,_,by omega,rfl,HBK,HB3⟩
 case round=>
  obtain⟨k,vp,hk,rfl,hbk,hB⟩:=hrel
  obtain⟨wo,rfl⟩:∃wo,wo=wr:=⟨wr,rfl⟩
  by_cases hlt:k < nh
  ·obtain⟨b,off,s0,s1,s2,rfl,hBb,hxk,d0,d1,d2⟩:=(Hx.out.below hB.out).us (i:=k) (by have:=Hn.out;omega)
   obtain⟨b5,w5,e5,ew5,hx5,hb5,hz5⟩:=mk_bx wo #[.int .i64 s0,.int .i64 s1,.int .i64 s2] 63
   have hx5:At w5 b5 [.int .i64 s0,.int .i64 s1,.int .i64 s2]:=hx5.at_
   have hsn:(hs.take (k+1)).map pcOf=(hs.take k).map pcOf ++ [⟨s1,s2,s0,0,0⟩]:=by rw[take_snoc hxk,List.map_append];rfl
   have Hsn:=hide hsn
   have hl1:=hide (show((hs.take k).map pcOf ++ [(⟨s1,s2,s0,0,0⟩:Pc)]).length=k+1 by rw[List.length_append,List.length_map,List.length_take,Nat.min_eq_left (by have:=Hn.out;omega)];rfl)
   have Hx5:=hide hx5
   have HB5:=hide (hB.out.trans (hb5.mono hB.out.size))
   have HK5:=hide (hbk.out.bel hb5)
   have hbk5:=hbk.out.off (q:=b5) (.inl (by have:=e5.out;omega))
   have hle:((hs.take k).map pcOf).length+1≤1000000:=by rw[List.length_map,List.length_take];omega
   clear hx5 hb5 hz5 hxk hsn hbk hB q0 q1
   go_upto_region 5 with fail
   rw[ew5.out,e5.out]
   clear d0 d1 d2 ew5 e5
   have hofx:Bk.own b3 bm vp b5:=hbk5
   have BK:=HK5.out
   have hwo:=HB5.out.size
   refine wp_region_held_drew (S:=(fun W=>Kept (fun c=>Bk.own b3 bm vp c) w5 W)) (by kernel_rfl) (by(try dsimp only);exact Kept.all _ (Below.refl _ _).drew) (fun hHeld=>?_)
   have hdr:Below w5.heap.size w5 (World.drew w5):=(Below.refl _ _).drew
   generalize World.drew w5=Wd5 at hHeld hdr ⊢
   have BK:=BK.bel hdr
   have hbc:=Below.refl Wd5.heap.size Wd5
   iterate 6
    refine tkHl [0,1,2,3,5,7] ?_ rfl rfl (Or.inl ⟨by rfl,?_⟩) hHeld ?_
    rotate_left
    ·(intro w _;go_simp;try(with_reducible rfl))
    try simp only[Act.put,tl1,tl2,tl3]
   iterate 2
    refine tkHl [6,8] ?_ rfl rfl (Or.inl ⟨by rfl,?_⟩) hHeld ?_
    rotate_left
    ·(intro w hSw;(try dsimp only at hSw);obtain⟨x0,x1,x2⟩:=(Hx5.out.kept hSw (hofx)).c3;go_simp;try(with_reducible rfl))
    try simp only[Act.put,tl1,tl2,tl3]
   refine tkH 9 ?_ rfl (Or.inl ⟨by rfl,?_⟩) hHeld ?_
   rotate_left
   ·(intro w _;go_simp;try(with_reducible rfl))
   try simp only[Act.put,tl1,tl2,tl3]
   refine cut1 (C:=fun (b27:Nat) (Wc5_1:World)=>(Rd Wc5_1 Wc5_1.heap.size Pc.cells (some ⟨b27,0,none⟩) [⟨s1,s2,s0,0,0⟩])∧Below Wd5.heap.size Wd5 Wc5_1∧Kept (fun c=>Bk.own b3 bm vp c) w5 Wc5_1) (G:=?_) ?_ ?_
   rotate_left
   ·intro hCut
    replace hbc:=Below.refl Wd5.heap.size Wd5
    refine wpAnyH_ready (rs:=[4,10]) (by kernel_rfl) (by simp) ?_
    refine AllReadyH.cons (o:=⟨_,_,_,_,_,_⟩) rfl (fun K hK=>?_) ?_
    ·
     have y2:=BK.bx.at_.2 2 _ rfl
     go_simp
     clear y2
     have hHeldN:=hHeld
     refine hK.out _ _ ?_ (fun hHeld2=>?_)
     ·exact hHeldN
     clear hK K hHeldN;have hHeld:=hHeld2;clear hHeld2
     try simp only[Act.put,tl1,tl2,tl3]
     refine wpAnyH_ready (rs:=[10]) (by kernel_rfl) (by simp) ?_
     refine AllReadyH.cons (o:=⟨_,_,_,_,_,_⟩) rfl (fun K hK=>?_) AllReadyH.nil
     go_simp
     obtain⟨b27,V27,eb27,ev27,r27,hb⟩:=mk_row (cells:=Pc.cells) Wd5 #[.int .i64 s1,.int .i64 s2,.int .i64 s0,.int .i64 0,.int .i64 0] 156 [⟨s1,s2,s0,0,0⟩] rfl
     rw[ev27.out,eb27.out]
     have hHeldN:=hHeld.trans (Kept.all _ hb)
     have BK:=BK.bel hb
     have hbc:=hbc.trans (hb.mono hbc.size)
     refine hK.out _ _ ?_ (fun hHeld2=>?_)
     ·exact hHeldN
     clear hK K hHeldN hb;have hHeld:=hHeld2;clear hHeld2
     try simp only[Act.put,tl1,tl2,tl3]
     exact hCut b27 V27 ⟨r27,hbc,hHeld⟩
    refine AllReadyH.cons (o:=⟨_,_,_,_,_,_⟩) rfl (fun K hK=>?_) AllReadyH.nil
    go_simp
    obtain⟨b27,V27,eb27,ev27,r27,hb⟩:=mk_row (cells:=Pc.cells) Wd5 #[.int .i64 s1,.int .i64 s2,.int .i64 s0,.int .i64 0,.int .i64 0] 156 [⟨s1,s2,s0,0,0⟩] rfl
    rw[ev27.out,eb27.out]
    have hHeldN:=hHeld.trans (Kept.all _ hb)
    have BK:=BK.bel hb
    have hbc:=hbc.trans (hb.mono hbc.size)
    refine hK.out _ _ ?_ (fun hHeld2=>?_)
    ·exact hHeldN
    clear hK K hHeldN hb;have hHeld:=hHeld2;clear hHeld2
    try simp only[Act.put,tl1,tl2,tl3]
    refine wpAnyH_ready (rs:=[4]) (by kernel_rfl) (by simp) ?_
    refine AllReadyH.cons (o:=⟨_,_,_,_,_,_⟩) rfl (fun K hK=>?_) AllReadyH.nil
    have y2:=BK.bx.at_.2 2 _ rfl
    go_simp
    clear y2
    have hHeldN:=hHeld
    refine hK.out _ _ ?_ (fun hHeld2=>?_)
    ·exact hHeldN
    clear hK K hHeldN;have hHeld:=hHeld2;clear hHeld2
    try simp only[Act.put,tl1,tl2,tl3]
    exact hCut b27 V27 ⟨r27,hbc,hHeld⟩
   intro b27 Wc5_1 ⟨r27,hbN,hHeldN⟩
   have BK:=BK.bel hbN
   have hbc:=hbc.trans (hbN.mono hbc.size);clear hHeld hbN;have hHeld:=hHeldN;clear hHeldN
   refine wpAnyH_ready (rs:=[11]) (by kernel_rfl) (by simp) ?_
   refine AllReadyH.cons (o:=⟨_,_,_,_,_,_⟩) rfl (fun K hK=>?_) AllReadyH.nil
   refine op_app (v:=vp) (xs:=(hs.take k).map pcOf) (ys:=[⟨s1,s2,s0,0,0⟩]) (n:=1) (base:=w.heap.size) el_pc (.tmp 21) (.tmp 27) rfl rfl BK.ow rfl rfl r27 hle (Nat.le_trans hwo hHeld.size) ?_
   intro v28 V28 o28 hg hat
   obtain⟨A28,c28,rfl,_⟩:=o28.rdn (k+1) hl1.out
   have HK28:=hide BK
   have HG28:=hide ((Kept.grown hg).mono (R':=fun c=>¬vp.ownBlock=some c) fun c _ h e=>h e.symm)
   have HO28:=hide o28
   have HA28:Hid ((Value.slice A28 (k+1) c28).ownBlock=vp.ownBlock∨∃n,(Value.slice A28 (k+1) c28).ownBlock=some n∧Wc5_1.heap.size≤n):=hide (hat.imp_right fun e=>⟨_,e,Nat.le_refl _⟩)
   have hHeldN:=hHeld.trans (HG28.out.mono fun c _ hc=>hc.2.2)
   refine hK.out _ _ ?_ (fun hHeld2=>?_)
   ·exact hHeldN
   clear hK K hHeld hHeldN hbc;have hHeld:=hHeld2;clear hHeld2
   have hbc:=Below.refl V28.heap.size V28
   try simp only[Act.put,tl1,tl2,tl3]
   iterate 2
    refine tkHl [12,13] ?_ rfl rfl (Or.inl ⟨by rfl,?_⟩) hHeld ?_
    rotate_left
    ·(intro w _;go_simp;try(with_reducible rfl))
    try simp only[Act.put,tl1,tl2,tl3]
   refine wpAnyH_ready (rs:=[14]) (by kernel_rfl) (by simp) ?_
   refine AllReadyH.cons (o:=⟨_,_,_,_,_,_⟩) rfl (fun K hK=>?_) AllReadyH.nil
   obtain⟨y2,z2⟩:V28.cell? ⟨b3,2,none⟩=some vp∧V28.frozen? ⟨b3,2,none⟩=false:=by
    have h:=HK28.out.bx.kept HG28.out (fun e=>(HK28.out.nv b3 e).1 rfl)
    exact⟨h.at_.2 2 _ rfl,h.fz 2⟩
   have hH:=hHeld
   go_simp
   refine hK.out _ _ ?_ (fun _=>?_)
   ·(try dsimp only);exact hH.trans ((Kept.setCell _ ⟨b3,2,none⟩ _).mono fun c _ hc=>hc.1)
   clear hK K hHeld
   try simp only[Act.put,tl1,tl2,tl3]
   refine wpAnyH_done (by kernel_rfl) ?_ _
   have HR:=hide (HK28.out.row HG28.out HO28.out HA28.out)
   have HBf:=fun u=>hide (HK5.out.below HB5.out (hH.trans ((Kept.setCell V28 ⟨b3,2,none⟩ u).mono fun c _ hc=>hc.1)) (Nat.le_refl _) HB5.out.size)
   go_wp2_with fail
   exact⟨⟨k+1,_,by omega,by go_num,by rw[Hsn.out];exact HR,HBf _⟩,by simp[intOf];omega⟩
  ·obtain rfl:nh=k:=by omega
   have hf:=hbk.out
   rw[List.take_of_length_le (by have:=Hn.out;omega)] at hf
   have HF:=hide hf
   clear hf
   go_wp2_with fail
   go_ret
   exact⟨b3,bm,vp,rfl,HF.out,hB.out⟩
end Go.Proofs.YtiioegopckoldaaGreatDoor
namespace Go.Proofs.YtiioegopckoldaaGreatDoor
open Go.RowKit Go.Shelf
structure ObjAt (w:World) (b:Nat) (o:Obj):Prop where
 at_:w.heap[b]?=some o
theorem ObjAt.bel {w w':World} {b:Nat} {o:Obj} (h:ObjAt w b o) (hb:Below w.heap.size w w'):ObjAt w' b o:=⟨by
 have hlt:b < w.heap.size:=(Array.getElem?_eq_some_iff.1 h.at_).1
 rw[hb.block b hlt];exact h.at_⟩
theorem ObjAt.lt {w:World} {b:Nat} {o:Obj} (h:ObjAt w b o):b < w.heap.size:=(Array.getElem?_eq_some_iff.1 h.at_).1
theorem mk_obj (W:World) (cs:Array Value) (t:TypeId) :
 ∃(b:Nat) (V:World),Hid (W.heap.size=b)∧Hid (W.alloc (.cells cs t)=V)∧ObjAt V b (.cells cs t (0,0))∧Below W.heap.size W V∧W.heap.size≤b:=
 ⟨_,_,hide rfl,hide rfl,⟨heap_alloc_new W _⟩,below_new _ _,Nat.le_refl _⟩
theorem Own.some_ {α:Type} {cells:α→List Value} {w:World} {base:Nat} {e:TypeId} {k:Nat} {v:Value} {xs:List α} (h:Own w base e k cells v xs) (n:Nat) (hn:xs.length=n) (h0:0 < n):∃g c,v= .slice (some ⟨g,0,none⟩) n c:=by
 subst hn
 rcases h.2 with⟨_,h2⟩ | ⟨g,cap,_,hv,_⟩
 ·omega
 ·exact⟨g,cap,hv⟩
theorem Own.rdS {α:Type} {cells:α→List Value} {w:World} {base:Nat} {e:TypeId} {k:Nat} {A:Option Addr} {n c:Nat} {xs:List α} (h:Own w base e k cells (.slice A n c) xs):Rd w w.heap.size cells A xs:=by
 obtain⟨_,_,hA,hr⟩:=h.rd
 injection hA with h1 _ _
 subst h1
 exact hr
def cutL (m:Int):List Pc→List Pc
 | []=>[]
 | p :: ps=>if p.fr < m∧m < p.to then⟨p.fr,m,p.ow,p.le,p.un⟩ :: ⟨m,p.to,p.ow,p.le,p.un⟩ :: ps else p :: cutL m ps
def cutP (m:Int) (p:Pc):Bool:=decide (p.fr < m) && decide (m < p.to)
theorem cutL_miss {m:Int}:∀{ps:List Pc},(∀y∈ps,cutP m y=false)→cutL m ps=ps
 | [],_=>rfl
 | p :: ps, h => by
   have h1:=h p (by simp)
   unfold cutL
   rw[if_neg (by simpa[cutP] using h1),cutL_miss fun y hy=>h y (by simp[hy])]
theorem cutL_hit {m:Int}:∀{ps:List Pc} {k:Nat} {p:Pc},ps[k]?=some p→cutP m p=true→(∀y∈ps.take k,cutP m y=false)→
 cutL m ps=(ps.set k ⟨p.fr,m,p.ow,p.le,p.un⟩).take (k+1) ++ [⟨m,p.to,p.ow,p.le,p.un⟩] ++ (ps.set k ⟨p.fr,m,p.ow,p.le,p.un⟩).drop (k+1)
 | [],k,p,h,_,_=>by simp at h
 | q :: ps, 0, p, h, hp, _ => by
   have:q=p:=by simpa using h
   subst this
   unfold cutL
   rw[if_pos (by simpa[cutP] using hp)]
   simp
 | q :: ps, k + 1, p, h, hp, ha => by
   have h1:=ha q (by simp)
   have h2:=cutL_hit (ps:=ps) (k:=k) (by simpa using h) hp (fun y hy=>ha y (by simp[hy]))
   unfold cutL
   rw[if_neg (by simpa[cutP] using h1),h2]
   simp
theorem cutL_len (m:Int):∀ps:List Pc,ps.length≤(cutL m ps).length∧(cutL m ps).length≤ps.length+1
 | []=>by simp[cutL]
 | p :: ps => by
   have:=cutL_len m ps
   unfold cutL
   split <;> simp <;> omega
theorem enters_cut1:∀args w,(callFunc 243 args).run Tryz.prog w= .ok (.enter 243 args) w:=enters_of Tryz.func243 (by kernel_rfl) rfl
theorem deinsert_at (g n c i vb vc base:Nat) (xs:List Pc) (y:Pc) (_z:Unit) (iv:Int) (w:World) (ho:Own w base 156 5 Pc.cells (.slice (some ⟨g,0,none⟩) n c) xs) (hn:n=xs.length) (hi:i≤n) (h0:0 < n) (hl:n+1≤1000000) (hb:base≤w.heap.size)
 (hvo:w.heap[vb]?=some (.cells #[.int .i64 y.fr,.int .i64 y.to,.int .i64 y.ow,.int .i64 y.le,.int .i64 y.un] 156 (0,0))) (hne:vb≠g) (hiv:iv=(i:Int)) :
 Calls Tryz.prog 244 #[.slice (some ⟨g,0,none⟩) n c,.int .i64 iv,.slice (some ⟨vb,0,none⟩) 1 vc] w fun e w'=>∃v',e= .returned v'∧Own w' base 156 5 Pc.cells v' (xs.take i ++ [y] ++ xs.drop i)∧Kept (fun b=>b≠g) w w'∧(v'.ownBlock=some g∨∃m,v'.ownBlock=some m∧w.heap.size≤m):=by
 subst hiv
 exact deinsert_any g n c i vb vc base xs y w ho hn hi h0 hl hb hvo hne
def Lie (w:World) (vp vp':Value):Prop:=vp'.ownBlock=vp.ownBlock∨∃n,vp'.ownBlock=some n∧w.heap.size≤n
theorem Lie.trans {w w':World} {v v' v'':Value} (h:Lie w v v') (k:Lie w' v' v'') (hs:w.heap.size≤w'.heap.size):Lie w v v'':=by
 rcases k with k | ⟨n,k,hn⟩
 ·rcases h with h | ⟨n,h,hn⟩
  ·exact .inl (k.trans h)
  ·exact .inr ⟨n,k.trans h,hn⟩
 ·exact .inr ⟨n,k,by omega⟩
theorem Bk.own_trans {b bm base:Nat} {days:Int} {H:Option Addr} {nh ch:Nat} {ps:List Pc} {dd:Int→Option Bool} {nd sd:Nat} {w w' w'':World} {v v':Value} (hb:Bk w b bm base days H nh ch v ps dd nd sd) (h:Kept (Bk.own b bm v) w w') (hl:Lie w v v') (k:Kept (Bk.own b bm v') w' w''):Kept (Bk.own b bm v) w w'':=by
 refine⟨k.os.trans h.os,k.tape.trans h.tape,k.output.trans h.output,Nat.le_trans h.size k.size,fun c hc hlt=>?_⟩
 rw[k.same c ?_ (Nat.lt_of_lt_of_le hlt h.size),h.same c hc hlt]
 refine⟨hc.1,hc.2.1,fun e=>?_⟩
 rcases hl with hl | ⟨n,hl,hn⟩
 ·exact hc.2.2 (by rw[←hl];exact e)
 ·rw[e] at hl;injection hl with hl;omega
set_option maxHeartbeats 8000000 in
set_option maxRecDepth 100000 in
theorem decut_any (b bm base:Nat) (days:Int) (H:Option Addr) (nh ch:Nat) (vp:Value) (ps:List Pc) (dd:Int→Option Bool) (nd sd:Nat) (m:Int) (w:World) (hbk:Bk w b bm base days H nh ch vp ps dd nd sd) (hl:ps.length≤100000) (h0:0 < ps.length) :
 Calls Tryz.prog 213 #[.pointer (some ⟨b,0,none⟩),.int .i64 m] w fun e w'=>(∃v,e= .returned v)∧∃vp',Bk w' b bm base days H nh ch vp' (cutL m ps) dd nd sd∧Kept (Bk.own b bm vp) w w'∧Lie w vp vp':=by
 obtain⟨n,hn⟩:∃n,ps.length=n:=⟨_,rfl⟩
 obtain⟨g,c0,rfl⟩:=hbk.ow.some_ n hn (by omega)
 have hn1:n≤100000∧0 < n:=by omega
 have Hn:=hide hn
 obtain⟨b3,w1,e3,ew1,hx3,hb1,hz3⟩:=mk_bx w #[.int .i64 m] 3
 have hx3:Bx w1 b3 [.int .i64 m]:=hx3
 have HX3:=hide hx3;have HB1:=hide hb1;have HK0:=hide hbk;have HK1:=hide (hbk.bel hb1)
 have hoff:=hbk.off (q:=b3) (.inl (by have:=e3.out;omega))
 obtain⟨A,c',hA,hr⟩:=HK1.out.ow.rdn n hn
 have hix:=deindex_pc 243 #[.pointer (some ⟨b3,0,none⟩)] (cutP m) (some ⟨g,0,none⟩) ps n c0 w1 hn.symm (by omega) enters_cut1
  (by injection hA with h1 _ _;rw[h1];exact hr) (fun x w' _ hb=>decut1_any x m b3 w' (hx3.at_.below hb))
 have Hix:=hide hix
 have y2:=HK1.out.bx.at_.2 2 _ rfl
 clear hn hl h0 hbk hx3 hb1 hz3 hr hix hA
 go_enter Tryz.func213,Tryz.ntmps213
 go_upto_region 1 with fail
 rw[ew1.out,e3.out]
 go_wp2_with fail
 refine Hix.out.mono ?_
 rintro e w2 ⟨rfl,hb2⟩
 have HB2:=hide (HB1.out.trans (hb2.mono HB1.out.size))
 have HK2:=hide (HK1.out.bel hb2)
 have HX2:=hide (HX3.out.bel hb2)
 clear y2 hb2 Hix HK1 HX3 ew1 e3
 rcases fidx_of (cutP m) ps with⟨hf,hall⟩ | ⟨k,p,hf,hpk,hp,hpre⟩
 ·rw[hf]
  have Hc:=hide (cutL_miss hall)
  clear hf hall
  go_wp2_with fail
  go_returns
  exact⟨⟨_,rfl⟩,_,by rw[Hc.out];exact HK2.out,Kept.all _ HB2.out,.inl rfl⟩
 rw[hf]
 have hkn:k < n:=by have:=(List.getElem?_eq_some_iff.1 hpk).1;have:=Hn.out;omega
 have Hc:=hide (cutL_hit hpk hp hpre)
 have Hpk:=hide hpk
 clear hf hp hpre hpk
 obtain⟨bb,off,p',hA,hBb,hxk,d0,d1,d2,d3,d4⟩:=(HK2.out.ow.rdS).pc (i:=k) (by have:=Hn.out;omega)
 injection hA with hA
 injection hA with hA1 hA2
 subst hA1 hA2
 rw[Hpk.out] at hxk
 injection hxk with hxk
 subst hxk
 simp only[Nat.zero_add] at d0 d1 d2 d3 d4
 obtain⟨b5,w5,e5,ew5,hx5,hb5,hz5⟩:=mk_bx w2 #[.int .i64 p.fr,.int .i64 p.to,.int .i64 p.ow,.int .i64 p.le,.int .i64 p.un] 156
 have hx5:Bx w5 b5 [.int .i64 p.fr,.int .i64 p.to,.int .i64 p.ow,.int .i64 p.le,.int .i64 p.un]:=hx5
 have X5:=hide hx5
 have HB5:=hide (HB2.out.trans (hb5.mono HB2.out.size))
 have H25:=hide hb5
 have HK5:=hide (HK2.out.bel hb5)
 have HX5:=hide (HX2.out.bel hb5)
 have hoff5:=HK2.out.off (q:=b5) (.inl (by have:=e5.out;omega))
 have y2:=HK2.out.bx.at_.2 2 _ rfl
 have hlt5:w2.heap.size≤b5:=by have:=e5.out;omega
 clear hx5 hb5 hz5
 go_upto_region 4 with fail
 rw[ew5.out,e5.out]
 clear d0 d1 d2 d3 d4 y2 ew5 e5
 have y3:=HX5.out.at_.c1
 obtain⟨z0,z1,z2,z3,z4⟩:=X5.out.at_.c5
 have zf:=X5.out.fz 0
 go_wp2_with fail
 have X6:=hide (show Bx (w5.setCell ⟨b5,0,none⟩ (.int .i64 m)) b5 [.int .i64 m,.int .i64 p.to,.int .i64 p.ow,.int .i64 p.le,.int .i64 p.un] by simpa using X5.out.set (j:=0) (.int .i64 m) (by simp))
 have HB6:=hide (HB2.out.trans ((H25.out.setCell (p:=⟨b5,0,none⟩) hlt5 (.int .i64 m)).mono HB2.out.size))
 have hK56:Kept (fun c=>c≠b5) w5 (w5.setCell ⟨b5,0,none⟩ (.int .i64 m)):=Kept.setCell w5 ⟨b5,0,none⟩ (.int .i64 m)
 have HK6:=hide (HK5.out.kept hK56 (fun e=>hoff5.1 e.symm) (fun e=>hoff5.2.1 e.symm) (fun q hq e=>hoff5.2.2 (by rw[←e];exact hq)))
 have HX6:=hide (HX5.out.kept hK56 (fun e=>by have:=HX2.out.lt;omega))
 generalize w5.setCell ⟨b5,0,none⟩ (.int .i64 m)=w6 at X6 HB6 HK6 HX6 ⊢
 have hno3:¬(Value.slice (some ⟨g,0,none⟩) n c0).ownBlock=some b3:=hoff.2.2
 have hno5:¬(Value.slice (some ⟨g,0,none⟩) n c0).ownBlock=some b5:=hoff5.2.2
 clear z0 z1 z2 z3 z4 zf y3 hK56 HB5 HK5 HX5 X5 HK2 HX2 H25
 have OW:=HK6.out.ow
 refine wp_region_held_drew (S:=(fun W=>Kept (fun c=>¬(Value.slice (some ⟨g,0,none⟩) n c0).ownBlock=some c) w6 W)) (by kernel_rfl) (by(try dsimp only);exact Kept.all _ (Below.refl _ _).drew) (fun hHeld=>?_)
 have hdr:Below w6.heap.size w6 (World.drew w6):=(Below.refl _ _).drew
 generalize World.drew w6=Wd5 at hHeld hdr ⊢
 have OW:=OW.bel hdr
 have hbc:=Below.refl Wd5.heap.size Wd5
 iterate 4
  refine tkHl [0,1,2,4] ?_ rfl rfl (Or.inl ⟨by rfl,?_⟩) hHeld ?_
  rotate_left
  ·(intro w _;go_simp;try(with_reducible rfl))
  try simp only[Act.put,tl1,tl2,tl3]
 iterate 2
  refine tkHl [3,5] ?_ rfl rfl (Or.inl ⟨by rfl,?_⟩) hHeld ?_
  rotate_left
  ·(intro w hSw;(try dsimp only at hSw);have y2:=(HK6.out.bx.kept hSw (fun e=>(HK6.out.nv b e).1 rfl)).at_.2 2 _ rfl;have y3:=(HX6.out.kept hSw hno3).at_.c1;go_simp;try(with_reducible rfl))
  try simp only[Act.put,tl1,tl2,tl3]
 iterate 3
  refine tkHl [6,7,8] ?_ rfl rfl (Or.inl ⟨by rfl,?_⟩) hHeld ?_
  rotate_left
  ·(intro w _;go_simp;try(with_reducible rfl))
  try simp only[Act.put,tl1,tl2,tl3]
 refine wpAnyH_ready (rs:=[9]) (by kernel_rfl) (by simp) ?_
 refine AllReadyH.cons (o:=⟨_,_,_,_,_,_⟩) rfl (fun K hK=>?_) AllReadyH.nil
 obtain⟨OF,⟨u1,z1⟩,f1⟩:=OW.put_ Pc.len (i:=k) (j:=1) (x':=⟨p.fr,m,p.ow,p.le,p.un⟩) (u:= .int .i64 m) Hpk.out (by omega) (by simp[Pc.cells]) Hn.out.symm
 have hH:=hHeld
 go_simp
 refine hK.out _ _ ?_ (fun _=>?_)
 ·(try dsimp only);exact hH.trans ((Kept.setCell _ ⟨g,k*5+1,none⟩ _).mono fun c _ hc e=>hc (by rw[e];rfl))
 clear hK K hHeld
 try simp only[Act.put,tl1,tl2,tl3]
 refine wpAnyH_done (by kernel_rfl) ?_ _
 have hK67:=hH.trans ((Kept.setCell Wd5 ⟨g,k*5+1,none⟩ (.int .i64 m)).mono (R':=fun c=>¬(Value.slice (some ⟨g,0,none⟩) n c0).ownBlock=some c) fun c _ hc e=>hc (by rw[e];rfl))
 have HK7:=hide (show Bk (Wd5.setCell ⟨g,k*5+1,none⟩ (.int .i64 m)) b bm base days H nh ch (.slice (some ⟨g,0,none⟩) n c0) (ps.set k ⟨p.fr,m,p.ow,p.le,p.un⟩) dd nd sd from⟨HK6.out.bx.kept hK67 (fun e=>(HK6.out.nv b e).1 rfl),OF,HK6.out.mp.keptR hK67 (fun e=>(HK6.out.nv bm e).2 rfl),HK6.out.hb,HK6.out.hm,HK6.out.ne,HK6.out.nv⟩)
 have X7:=hide (X6.out.kept hK67 hno5)
 have HK67:=hide hK67
 clear hK67 OF hH OW hdr f1 z1
 generalize Wd5.setCell ⟨g,k*5+1,none⟩ (.int .i64 m)=w7 at HK7 X7 HK67 ⊢
 have hl7:=hide (show n=(ps.set k ⟨p.fr,m,p.ow,p.le,p.un⟩).length by rw[List.length_set];exact Hn.out.symm)
 have hl42:=hide (show((ps.set k ⟨p.fr,m,p.ow,p.le,p.un⟩).take (k+1) ++ [(⟨m,p.to,p.ow,p.le,p.un⟩:Pc)] ++ (ps.set k ⟨p.fr,m,p.ow,p.le,p.un⟩).drop (k+1)).length=n+1 by simp;have:=Hn.out;omega)
 have hk1:k+1≤n:=by omega
 have h0n:0 < n:=by omega
 have hn6:n+1≤1000000:=by omega
 have hb7:base≤w7.heap.size:=by have:=HK7.out.ltb;have:=HK7.out.hb;omega
 have hg7:g < w7.heap.size:=(HK7.out.ltv rfl).2
 have fk:IntKind.i64.wrap ((k:Int)+1)=(k:Int)+1:=wrapI (by omega)
 have BK:=HK7.out
 go_upto_region 6 with fail
 refine wp_region_held_drew (S:=(fun W=>Kept (fun c=>Bk.own b bm (Value.slice (some ⟨g,0,none⟩) n c0) c) w7 W)) (by kernel_rfl) (by(try dsimp only);exact Kept.all _ (Below.refl _ _).drew) (fun hHeld=>?_)
 have hdr:Below w7.heap.size w7 (World.drew w7):=(Below.refl _ _).drew
 generalize World.drew w7=Wd6 at hHeld hdr ⊢
 have BK:=BK.bel hdr
 have hbc:=Below.refl Wd6.heap.size Wd6
 iterate 6
  refine tkHl [0,1,2,3,5,6] ?_ rfl rfl (Or.inl ⟨by rfl,?_⟩) hHeld ?_
  rotate_left
  ·(intro w _;go_simp;try(with_reducible rfl))
  try simp only[Act.put,tl1,tl2,tl3]
 refine tkH 7 ?_ rfl (Or.inl ⟨by rfl,?_⟩) hHeld ?_
 rotate_left
 ·(intro w hSw;(try dsimp only at hSw);obtain⟨x0,x1,x2,x3,x4⟩:=(X7.out.kept hSw hoff5).at_.c5;go_simp;try(with_reducible rfl))
 try simp only[Act.put,tl1,tl2,tl3]
 refine cut1 (C:=fun (b41:Nat) (Wc6_1:World)=>(ObjAt Wc6_1 b41 (.cells #[.int .i64 m,.int .i64 p.to,.int .i64 p.ow,.int .i64 p.le,.int .i64 p.un] 156 (0,0)))∧(w7.heap.size≤b41)∧Below Wd6.heap.size Wd6 Wc6_1∧Kept (fun c=>Bk.own b bm (Value.slice (some ⟨g,0,none⟩) n c0) c) w7 Wc6_1) (G:=?_) ?_ ?_
 rotate_left
 ·intro hCut
  replace hbc:=Below.refl Wd6.heap.size Wd6
  refine wpAnyH_ready (rs:=[4,8]) (by kernel_rfl) (by simp) ?_
  refine AllReadyH.cons (o:=⟨_,_,_,_,_,_⟩) rfl (fun K hK=>?_) ?_
  ·
   have y2:=BK.bx.at_.2 2 _ rfl
   go_simp
   clear y2
   have hHeldN:=hHeld
   refine hK.out _ _ ?_ (fun hHeld2=>?_)
   ·exact hHeldN
   clear hK K hHeldN;have hHeld:=hHeld2;clear hHeld2
   try simp only[Act.put,tl1,tl2,tl3]
   refine wpAnyH_ready (rs:=[8]) (by kernel_rfl) (by simp) ?_
   refine AllReadyH.cons (o:=⟨_,_,_,_,_,_⟩) rfl (fun K hK=>?_) AllReadyH.nil
   go_simp
   obtain⟨b41,V41,eb41,ev41,o41,hb,hge⟩:=mk_obj Wd6 #[.int .i64 m,.int .i64 p.to,.int .i64 p.ow,.int .i64 p.le,.int .i64 p.un] 156
   rw[ev41.out,eb41.out]
   have hge41:w7.heap.size≤b41:=Nat.le_trans hHeld.size hge
   have hHeldN:=hHeld.trans (Kept.all _ hb)
   have BK:=BK.bel hb
   have hbc:=hbc.trans (hb.mono hbc.size)
   refine hK.out _ _ ?_ (fun hHeld2=>?_)
   ·exact hHeldN
   clear hK K hHeldN hb;have hHeld:=hHeld2;clear hHeld2
   try simp only[Act.put,tl1,tl2,tl3]
   exact hCut b41 V41 ⟨o41,hge41,hbc,hHeld⟩
  refine AllReadyH.cons (o:=⟨_,_,_,_,_,_⟩) rfl (fun K hK=>?_) AllReadyH.nil
  go_simp
  obtain⟨b41,V41,eb41,ev41,o41,hb,hge⟩:=mk_obj Wd6 #[.int .i64 m,.int .i64 p.to,.int .i64 p.ow,.int .i64 p.le,.int .i64 p.un] 156
  rw[ev41.out,eb41.out]
  have hge41:w7.heap.size≤b41:=Nat.le_trans hHeld.size hge
  have hHeldN:=hHeld.trans (Kept.all _ hb)
  have BK:=BK.bel hb
  have hbc:=hbc.trans (hb.mono hbc.size)
  refine hK.out _ _ ?_ (fun hHeld2=>?_)
  ·exact hHeldN
  clear hK K hHeldN hb;have hHeld:=hHeld2;clear hHeld2
  try simp only[Act.put,tl1,tl2,tl3]
  refine wpAnyH_ready (rs:=[4]) (by kernel_rfl) (by simp) ?_
  refine AllReadyH.cons (o:=⟨_,_,_,_,_,_⟩) rfl (fun K hK=>?_) AllReadyH.nil
  have y2:=BK.bx.at_.2 2 _ rfl
  go_simp
  clear y2
  have hHeldN:=hHeld
  refine hK.out _ _ ?_ (fun hHeld2=>?_)
  ·exact hHeldN
  clear hK K hHeldN;have hHeld:=hHeld2;clear hHeld2
  try simp only[Act.put,tl1,tl2,tl3]
  exact hCut b41 V41 ⟨o41,hge41,hbc,hHeld⟩
 intro b41 Wc6_1 ⟨o41,hge41,hbN,hHeldN⟩
 have BK:=BK.bel hbN
 have hbc:=hbc.trans (hbN.mono hbc.size);clear hHeld hbN;have hHeld:=hHeldN;clear hHeldN
 refine wpAnyH_ready (rs:=[9]) (by kernel_rfl) (by simp) ?_
 refine AllReadyH.cons (o:=⟨_,_,_,_,_,_⟩) rfl (fun K hK=>?_) AllReadyH.nil
 go_simp
 refine(deinsert_at g n c0 (k+1) b41 1 base _ (⟨m,p.to,p.ow,p.le,p.un⟩:Pc) () ((k:Int)+1) Wc6_1 BK.ow hl7.out hk1 h0n hn6 (Nat.le_trans hb7 hHeld.size) o41.at_ (by omega) rfl).mono ?_
 rintro e V42 ⟨v42,rfl,o42,k42,hat42⟩
 obtain⟨A42,c42,rfl,_⟩:=o42.rdn (n+1) hl42.out
 have HK42:=hide BK;have HH42:=hide k42;have HO42:=hide o42;have HA42:=hide hat42;have HS42:=hide hHeld.size
 go_wp2_with fail
 have hHeldN:=hHeld.trans (HH42.out.mono fun c _ hc e=>hc.2.2 (by rw[e];rfl))
 refine hK.out _ _ ?_ (fun hHeld2=>?_)
 ·exact hHeldN
 clear hK K hHeld hHeldN hbc;have hHeld:=hHeld2;clear hHeld2
 have hbc:=Below.refl V42.heap.size V42
 try simp only[Act.put,tl1,tl2,tl3]
 iterate 2
  refine tkHl [10,11] ?_ rfl rfl (Or.inl ⟨by rfl,?_⟩) hHeld ?_
  rotate_left
  ·(intro w _;go_simp;try(with_reducible rfl))
  try simp only[Act.put,tl1,tl2,tl3]
 refine wpAnyH_ready (rs:=[12]) (by kernel_rfl) (by simp) ?_
 refine AllReadyH.cons (o:=⟨_,_,_,_,_,_⟩) rfl (fun K hK=>?_) AllReadyH.nil
 obtain⟨y2,z2⟩:V42.cell? ⟨b,2,none⟩=some (.slice (some ⟨g,0,none⟩) n c0)∧V42.frozen? ⟨b,2,none⟩=false:=by
  have h:=HK42.out.bx.kept HH42.out (fun e=>(HK42.out.nv g rfl).1 e.symm)
  exact⟨h.at_.2 2 _ rfl,h.fz 2⟩
 have hH6:=hHeld
 go_simp
 refine hK.out _ _ ?_ (fun _=>?_)
 ·(try dsimp only);exact hH6.trans ((Kept.setCell _ ⟨b,2,none⟩ _).mono fun c _ hc=>hc.1)
 clear hK K hHeld
 try simp only[Act.put,tl1,tl2,tl3]
 refine wpAnyH_done (by kernel_rfl) ?_ _
 have hk':=HH42.out.mono (R':=fun c=>¬(Value.slice (some ⟨g,0,none⟩) n c0).ownBlock=some c) fun c _ hc e=>hc (by rw[e];rfl)
 have hlie:Lie Wc6_1 (.slice (some ⟨g,0,none⟩) n c0) (.slice A42 (n+1) c42):=HA42.out
 have HF:=hide (HK42.out.row hk' HO42.out hlie)
 have HLie:Hid (Lie w (.slice (some ⟨g,0,none⟩) n c0) (.slice A42 (n+1) c42)):=hide (hlie.imp_right fun⟨q,e,hq⟩=>⟨q,e,by have:=HS42.out;have:=HK67.out.size;have:=HB6.out.size;omega⟩)
 have HKf:Hid (Kept (Bk.own b bm (.slice (some ⟨g,0,none⟩) n c0)) w (V42.setCell ⟨b,2,none⟩ (.slice A42 (n+1) c42))):=hide ((((Kept.all _ HB6.out).trans (HK67.out.mono fun c _ hc=>hc.2.2)).trans hH6).trans ((Kept.setCell V42 ⟨b,2,none⟩ _).mono fun c _ hc=>hc.1))
 go_wp2_with fail
 go_returns
 exact⟨⟨_,rfl⟩,_,by rw[Hc.out];exact HF.out,HKf.out,HLie.out⟩
end Go.Proofs.YtiioegopckoldaaGreatDoor
