/- lemmas for topRented_holds: Range C2 Map. No conditions. -/
import Derived.Test.YtiioegopckoldaaGreatDoorK01
import Derived.RangeFuncNested
import Derived.RangeFuncBound
import Derived.RangeFuncCalls
import Derived.RangeFuncLeaves
import Derived.Shelf.RegionOpen
import Derived.OwnWalkIn
import Derived.TacticsInMore
import Derived.LoopNIn
import Derived.LoopIn
import Derived.Test.YtiioegopckoldaaGreatDoorProg
import Derived.Handy
import Derived.Maps.OwnIn
import Derived.Maps.OwnOps
set_option linter.unusedVariables false
set_option linter.unusedSimpArgs false
namespace Go.Proofs.YtiioegopckoldaaGreatDoor
open Go.RowKit Go.Shelf
structure Kept (R:Nat→Prop) (w w':World):Prop where
 os:w'.os=w.os
 tape:w'.tape=w.tape
 output:w'.output=w.output
 size:w.heap.size≤w'.heap.size
 same:∀b,R b→b < w.heap.size→w'.heap[b]?=w.heap[b]?
section
variable {R R':Nat→Prop} {w w' w'':World}
theorem Kept.refl (R:Nat→Prop) (w:World):Kept R w w:=⟨rfl,rfl,rfl,Nat.le_refl _,fun _ _ _=>rfl⟩
theorem Kept.trans (h:Kept R w w') (k:Kept R w' w''):Kept R w w'':=
 ⟨k.os.trans h.os,k.tape.trans h.tape,k.output.trans h.output,Nat.le_trans h.size k.size,fun b hb hl=>(k.same b hb (Nat.lt_of_lt_of_le hl h.size)).trans (h.same b hb hl)⟩
theorem Kept.mono (h:Kept R w w') (hr:∀b,b < w.heap.size→R' b→R b):Kept R' w w':=⟨h.os,h.tape,h.output,h.size,fun b hb hl=>h.same b (hr b hl hb) hl⟩
theorem Kept.below {B:Nat} (h:Kept R w w') (hr:∀b,b < B→R b) (hB:B≤w.heap.size):Below B w w':=
 ⟨h.os,h.tape,h.output,h.size,fun b hb=>h.same b (hr b hb) (by omega)⟩
theorem Kept.of_below {B:Nat} (h:Below B w w') (hr:∀b,R b→b < B):Kept R w w':=⟨h.os,h.tape,h.output,h.size,fun b hb _=>h.block b (hr b hb)⟩
theorem Kept.all (R:Nat→Prop) (h:Below w.heap.size w w'):Kept R w w':=⟨h.os,h.tape,h.output,h.size,fun b _ hl=>h.block b hl⟩
theorem Kept.setCell (w:World) (p:Addr) (u:Value):Kept (fun b=>b≠p.block) w (w.setCell p u):=
 ⟨rfl,rfl,rfl,by simp[World.setCell],fun b hb _=>Below.heap_setCell w p u b hb⟩
theorem Kept.alloc (R:Nat→Prop) (w:World) (o:Obj):Kept R w (w.alloc o):=⟨rfl,rfl,rfl,by simp,fun b _ hl=>Below.heap_alloc w o b hl⟩
theorem Kept.drew (R:Nat→Prop) (w:World) (n:Nat):Kept R w (w.drewN n):=⟨rfl,rfl,rfl,Nat.le_refl _,fun _ _ _=>rfl⟩
theorem Kept.putObj (w:World) (l:Nat) (o:Obj):Kept (fun b=>b≠l) w (w.putObj l o):=
 ⟨rfl,rfl,rfl,by simp,fun b hb _=>World.putObj_heap_other hb⟩
theorem Kept.grown {row:Option Nat} (hg:w.grownBy w' row):Kept (fun b=>some b≠row) w w':=
 ⟨hg.os,hg.tape,hg.output,hg.size,fun b hb hl=>hg.block b hl hb⟩
theorem Kept.cell (h:Kept R w w') {p:Addr} (hp:R p.block) (hl:p.block < w.heap.size):w'.cell? p=w.cell? p:=World.cell?_of_block (w:=w) (h.same p.block hp hl)
theorem Kept.frozen (h:Kept R w w') {p:Addr} (hp:R p.block) (hl:p.block < w.heap.size):w'.frozen? p=w.frozen? p:=World.frozen?_of_block (w:=w) (h.same p.block hp hl)
end
end Go.Proofs.YtiioegopckoldaaGreatDoor
namespace Go.Proofs.YtiioegopckoldaaGreatDoor
open Go.RowKit Go.Shelf
theorem At.frozen_new (w:World) (cs:Array Value) (t:TypeId) (q:Nat) (hq:q=w.heap.size) (j:Nat):(w.alloc (.cells cs t)).frozen? ⟨q,j,none⟩=false:=by
 subst hq
 unfold World.frozen?
 rw[show(w.alloc (.cells cs t)).heap[(⟨w.heap.size,j,none⟩:Addr).block]?=some (.cells cs t (0,0)) from heap_alloc_new w _]
 simp
theorem At.set {w:World} {p:Nat} {cs:List Value} (h:At w p cs) {j:Nat} (u:Value) (hj:j < cs.length):At (w.setCell ⟨p,j,none⟩ u) p (cs.set j u):=by
 refine⟨by simpa[World.setCell] using h.1,fun i v hv=>?_⟩
 by_cases hij:i=j
 ·subst hij
  rw[List.getElem?_set_self hj] at hv
  injection hv with hv
  subst hv
  exact World.cell?_setCell_same' _ _ _ (by rw[h.2 i _ (List.getElem?_eq_getElem hj)];rfl)
 ·rw[List.getElem?_set_ne (Ne.symm hij)] at hv
  exact(World.cell?_setCell_other _ _ _ _ (by first | (simp;done) | (simp;omega))).trans (h.2 i v hv)
theorem At.kept {w w':World} {p:Nat} {cs:List Value} {R:Nat→Prop} (h:At w p cs) (hk:Kept R w w') (hp:R p):At w' p cs:=
 ⟨Nat.lt_of_lt_of_le h.1 hk.size,fun j v hv=>(hk.cell (p:=⟨p,j,none⟩) hp h.1).trans (h.2 j v hv)⟩
theorem Own.keptR {α:Type} {cells:α→List Value} {w w':World} {base:Nat} {e:TypeId} {k:Nat} {v:Value} {xs:List α} {R:Nat→Prop} (h:Own w base e k cells v xs) (hk:Kept R w w') (hr:∀b,base≤b→R b):Own w' base e k cells v xs:=by
 obtain⟨hl,hn | ⟨g,cap,cur,rfl,hb,hg,rest⟩⟩:=h
 ·exact⟨hl,.inl hn⟩
 ·exact⟨hl,.inr ⟨g,cap,cur,rfl,hb,(hk.same g (hr g hb) (Array.getElem?_eq_some_iff.1 hg).1).trans hg,rest⟩⟩
structure BoxInv {α:Type} (e:TypeId) (k:Nat) (cells:α→List Value) (w:World) (L base:Nat) (xs:List α) (W:World):Prop where
 own:∃v,Own W base e k cells v xs∧W.cell? ⟨L,0,none⟩=some v∧W.frozen? ⟨L,0,none⟩=false
 lt:L < W.heap.size
 bl:Below w.heap.size w W
 big:base≤W.heap.size
theorem BoxInv.kept {α:Type} {e:TypeId} {k:Nat} {cells:α→List Value} {w W W':World} {L base:Nat} {xs:List α} {R:Nat→Prop} (h:BoxInv e k cells w L base xs W) (hk:Kept R W W') (h1:∀b,base≤b→R b) (h2:R L) (h4:∀b,b < w.heap.size→R b):BoxInv e k cells w L base xs W':=by
 obtain⟨v,ho,hc,hf⟩:=h.own
 exact⟨⟨v,ho.keptR hk h1,(hk.cell (p:=⟨L,0,none⟩) h2 h.lt).trans hc,(hk.frozen (p:=⟨L,0,none⟩) h2 h.lt).trans hf⟩,Nat.lt_of_lt_of_le h.lt hk.size,h.bl.trans (hk.below h4 h.bl.size),Nat.le_trans h.big hk.size⟩
theorem BoxInv.step {α:Type} {e:TypeId} {k:Nat} {cells:α→List Value} {w W wv:World} {L base:Nat} {xs:List α} {x:α} {vv:Value} (h:BoxInv e k cells w L base xs W) (ho:Own wv base e k cells vv (xs ++ [x])) (hk:Kept (fun b=>b < base) W wv)
 (hL:L < base) (hw:w.heap.size≤L):BoxInv e k cells w L base (xs ++ [x]) (wv.setCell ⟨L,0,none⟩ vv)∧Kept (fun b=>b < base∧¬b=L) W (wv.setCell ⟨L,0,none⟩ vv):=by
 obtain⟨v,_,hc,hf⟩:=h.own
 have hk2:Kept (fun b=>b < base∧¬b=L) W (wv.setCell ⟨L,0,none⟩ vv):=(hk.mono fun b _ hb=>hb.1).trans ((Kept.setCell wv ⟨L,0,none⟩ vv).mono fun b _ hb=>hb.2)
 have hc1:wv.cell? ⟨L,0,none⟩=some v:=(hk.cell (p:=⟨L,0,none⟩) hL h.lt).trans hc
 have hf1:wv.frozen? ⟨L,0,none⟩=false:=(hk.frozen (p:=⟨L,0,none⟩) hL h.lt).trans hf
 refine⟨⟨⟨vv,ho.setCell ?_ _,World.cell?_setCell_same' _ _ _ (by rw[hc1];rfl),by rw[World.frozen?_setCell];exact hf1⟩,Nat.lt_of_lt_of_le h.lt hk2.size,h.bl.trans (hk2.below (fun b hb=>⟨by omega,by omega⟩) h.bl.size),Nat.le_trans h.big hk2.size⟩,hk2⟩
 intro e
 rcases ho.block_ with hb | ⟨g,hb,hb2,_⟩
 ·rw[hb] at e;cases e
 ·rw[hb] at e
  injection e with e
  simp only at e
  omega
end Go.Proofs.YtiioegopckoldaaGreatDoor
namespace Go.Proofs.YtiioegopckoldaaGreatDoor
open Go.RowKit Go.Shelf
def SeqX (n:Nat) (P:Program) (g:Nat) (lb:Array Value) (E:Nat→Nat→(Nat→Prop)→(Nat→Prop)→Array Value→World→Prop) (N:Nat) (inf:Prop) (Pn:Nat→List PanicEntry→Prop) (Oi R:Nat→Prop) (w:World):Prop:=
 ∀(l:Nat) (J Jx:Nat→(Nat→Prop)→World→Prop) (W:World),Kept R w W→
  (∀k X X' A B,J k X A→Kept (fun b=>¬X b) A B→(∀b,X' b→X b∨A.heap.size≤b)→J k X' B)→
  (∀k X X' A B,Jx k X A→Kept (fun b=>¬X b) A B→(∀b,X' b→X b∨A.heap.size≤b)→Jx k X' B)→
  (∀k X G args W1,J k (fun b=>X b∨G b) W1→(∀b,X b∨G b→b < W1.heap.size)→E W.heap.size k X G args W1→k < N→YieldAt Fence.wide (n-1) P l args W1 fun e W'=>
   (e= .returned (.bool true)∧J (k+1) X W'∧Kept (fun b=>R b∨X b) W1 W')∨(e= .returned (.bool false)∧Jx (k+1) X W'∧Kept (fun b=>R b∨X b) W1 W'))→
  J 0 Oi W→(inf→∀X W',¬J N X W')→
  CallsIn Fence.wide n P g (#[.func (.yield l) #[] #[]] ++ lb) W fun e W'=>
   (∃v,e= .returned v∧∃X,J N X W'∨∃k,k≤N∧Jx k X W')∨(∃chain k X,e= .panicked chain∧Pn k chain∧J k X W')
def postX (D:Nat) (Ob:Nat→Prop) (I:Nat→(Nat→Prop)→World→Prop) (Ix:Code→Nat→(Nat→Prop)→World→Prop) (k:Nat) (X:Nat→Prop) (W:World):Exit→Act→World→Prop
 | .normal,_,W'=>Kept (fun b=>(b < D+2∧¬Ob b)∨X b) W W'∧I (k+1) X W'
 | .ret,_,W'=>Kept (fun b=>(b < D+2∧¬Ob b)∨X b) W W'∧Ix .ret (k+1) X W'
 | .exit id,_,W'=>Kept (fun b=>(b < D+2∧¬Ob b)∨X b) W W'∧Ix (.exit id) (k+1) X W'
 | .goto t,_,W'=>Kept (fun b=>(b < D+2∧¬Ob b)∨X b) W W'∧Ix (.goto t) (k+1) X W'
 | .panic _,_,_=>False
 | .outgrown,_,_=>False
theorem wp_rangeX {n:Nat} {P:Program} {g:Operand} {ps:Array Tmp} {assign body:Code} {Q:Exit→Act→World→Prop} {a:Act} {w:World}
 {gf:Nat} {lb:Array Value} (hg:a.eval g= .func (.func gf) #[] lb) (eg:∀args w,(callFunc gf args).run P w= .ok (.enter gf args) w)
 {E:Nat→Nat→(Nat→Prop)→(Nat→Prop)→Array Value→World→Prop} {N:Nat} {inf:Prop} {Pn:Nat→List PanicEntry→Prop} {Oi R:Nat→Prop} {w0:World} (hseq:SeqX (n-1) P gf lb E N inf Pn Oi R w0)
 (hw0:Kept R w0 w) (hps:∀b k X G args W,E b k X G args W→args.size=ps.size) (Ob:Nat→Prop)
 (hOi:∀b,Oi b→b < w.heap.size) (hOb:∀b,Ob b→b < w.heap.size) (hR:∀b,R b→b < w.heap.size∧¬Ob b)
 (I:Nat→(Nat→Prop)→World→Prop) (Ix:Code→Nat→(Nat→Prop)→World→Prop) (Ax:Nat→(Nat→Prop)→(Nat→Prop)→Act→World→Prop)
 (hI:∀k X X' A B,I k X A→Kept (fun b=>¬X b∧b≠w.heap.size∧b≠w.heap.size+1) A B→(∀b,X' b→X b∨A.heap.size≤b)→I k X' B)
 (hIx:∀c k X X' A B,Ix c k X A→Kept (fun b=>¬X b∧b≠w.heap.size∧b≠w.heap.size+1) A B→(∀b,X' b→X b∨A.heap.size≤b)→Ix c k X' B)
 (hAx:∀k X G a' A B,Ax k X G a' A→Kept (fun b=>b≠w.heap.size+1) A B→Ax k X G a' B)
 (h0:∀W,Kept (fun _=>True) w W→W.heap.size=w.heap.size+2→I 0 Oi W) (hinf:inf→∀X W,¬I N X W)
 (hassign:∀l k X G args W,I k (fun b=>X b∨G b) W→w.heap.size+2≤W.heap.size→k < N→(∀b,X b∨G b→b < W.heap.size)→(∀b,X b∨G b→Oi b∨w.heap.size+2≤b)→E (w.heap.size+2) k X G args W→assign.wpIn (Fence.wide.inRound l) (n-1-1) P (Exit.then (fun a' W'=>Kept (fun b=>(b < w.heap.size+2∧¬Ob b)∨X b) W W'∧I k (fun b=>X b∨G b) W'∧Ax k X G a' W') (fun _ _ _=>False))
  {tmps:=(ps.zip args).foldl (fun t (p,v)=>t.setIfInBounds p v) a.tmps,defers:=[] } W)
 (hbody:∀l k X G a' W,I k (fun b=>X b∨G b) W→Ax k X G a' W→w.heap.size+2≤W.heap.size→k < N→(∀b,X b∨G b→b < W.heap.size)→(∀b,X b∨G b→Oi b∨w.heap.size+2≤b)→body.wpIn (Fence.wide.inRound l) (n-1-1) P (postX w.heap.size Ob I Ix k X W) a' W)
 (hdone:∀X W,I N X W→W.heap[w.heap.size]?=some (.deferred (some []))→Q .normal {a with defers:={target:= .collected w.heap.size,args:=#[] } :: a.defers } W)
 (hstop:∀c k X W,k≤N→Ix c k X W→W.heap[w.heap.size]?=some (.deferred (some []))→c.wpIn Fence.wide n P Q {a with defers:={target:= .collected w.heap.size,args:=#[] } :: a.defers } W)
 (hpanic:∀k chain X W,Pn k chain→I k X W→W.heap[w.heap.size]?=some (.deferred (some []))→Q (.panic chain) {a with defers:={target:= .collected w.heap.size,args:=#[] } :: a.defers } W) :
 (Code.rangeFunc g ps assign body).wpIn Fence.wide n P Q a w:=by
 refine wpIn_rangeFunc ?_
 intro fn hfn
 rw[show Fence.wide.round=none from rfl]
 obtain⟨rec,hrec⟩:∃rec:LoopState→Option Code→Loop,rec=fun st pe=>{state:=st,pending:=pe,fn,tmps:=a.tmps,params:=ps,assign,body,defers:=w.heap.size }:=⟨_,rfl⟩
 obtain⟨W1,hW1⟩:∃W1,(w.alloc (.deferred (some []))).alloc (.loop (rec .ready none))=W1:=⟨_,rfl⟩
 have hL1:W1.heap[w.heap.size+1]?=some (.loop (rec .ready none)):=by
  rw[←hW1];have:=World.alloc_heap_new (w.alloc (.deferred (some []))) (.loop (rec .ready none));rwa [World.size_alloc] at this
 have hK1:W1.heap[w.heap.size]?=some (.deferred (some [])):=by
  rw[←hW1];exact(Below.heap_alloc _ _ _ (by simp)).trans (World.alloc_heap_new w _)
 have hkw:∀R,Kept R w W1:=fun R=>by rw[←hW1];exact(Kept.alloc R w _).trans (Kept.alloc R _ _)
 have hW1z:W1.heap.size=w.heap.size+2:=by rw[←hW1];simp
 have hI1:I 0 Oi W1:=h0 W1 (hkw _) (by rw[←hW1];simp)
 refine⟨w.heap.size+1,[{target:= .collected w.heap.size,args:=#[] }],W1,{target:= .fn (.func gf) lb,args:=#[.func (.yield (w.heap.size+1)) #[] #[]] },W1,gf,
  #[.func (.yield (w.heap.size+1)) #[] #[]] ++ lb,W1,?_,?_,?_,?_,fun h=>by simp[Fence.wide] at h,?_⟩
 ·rw[←hW1,hrec];exact run_enterLoop_outer _ _ _ _ _
 ·simp only[resolve,hg]
  simp[go_sem]
 ·intro f' _;trivial
 ·simp[invoke,go_sem,eg]
 ·have st:∀(X:Nat→Prop) (A B:World) (b:Nat) (o:Obj),(¬X b)→A.heap[b]?=some o→Kept (fun b=>¬X b) A B→B.heap[b]?=some o:=fun X A B b o hb ho hk=>(hk.same b hb (Array.getElem?_eq_some_iff.1 ho).1).trans ho
  have n0:∀X:Nat→Prop,(∀b,X b→Oi b∨w.heap.size+2≤b)→¬X w.heap.size:=fun X hX h=>by rcases hX _ h with h | h;(have:=hOi _ h;omega);omega
  have n1:∀X:Nat→Prop,(∀b,X b→Oi b∨w.heap.size+2≤b)→¬X (w.heap.size+1):=fun X hX h=>by rcases hX _ h with h | h;(have:=hOi _ h;omega);omega
  have nX:∀(X X':Nat→Prop) (A:World) (o:Obj),(∀b,X b→Oi b∨w.heap.size+2≤b)→A.heap[w.heap.size+1]?=some o→(∀b,X' b→X b∨A.heap.size≤b)→∀b,X' b→Oi b∨w.heap.size+2≤b:=fun X X' A o hX hA hX' b hb=>by
   have:=(Array.getElem?_eq_some_iff.1 hA).1
   rcases hX' b hb with h | h
   ·exact hX b h
   ·exact .inr (by omega)
  refine(hseq (w.heap.size+1)
   (fun k X W=>I k X W∧W.heap[w.heap.size+1]?=some (.loop (rec .ready none))∧W.heap[w.heap.size]?=some (.deferred (some []))∧∀b,X b→Oi b∨w.heap.size+2≤b)
   (fun k X W=>∃c,Ix c k X W∧W.heap[w.heap.size+1]?=some (.loop (rec .done (some c)))∧W.heap[w.heap.size]?=some (.deferred (some []))∧∀b,X b→Oi b∨w.heap.size+2≤b)
   W1 (hw0.trans (hkw R))
   (fun k X X' A B hs hk hX'=>⟨hI k X X' A B hs.1 (hk.mono fun _ _ h=>h.1) hX',st X A B _ _ (n1 X hs.2.2.2) hs.2.1 hk,st X A B _ _ (n0 X hs.2.2.2) hs.2.2.1 hk,nX X X' A _ hs.2.2.2 hs.2.1 hX'⟩)
   (fun k X X' A B hs hk hX'=>by
    obtain⟨c,hc,hl,hd,hX⟩:=hs
    exact⟨c,hIx c k X X' A B hc (hk.mono fun _ _ h=>h.1) hX',st X A B _ _ (n1 X hX) hl hk,st X A B _ _ (n0 X hX) hd hk,nX X X' A _ hX hl hX'⟩)
   ?_ ⟨hI1,hL1,hK1,fun b hb=> .inl hb⟩ (fun h X W' hs=>hinf h X W' hs.1)).mono ?_
  ·
   rintro k X G args W ⟨hi,hl,hk,hXG⟩ hXW hE hlen
   have hX:∀b,X b→Oi b∨w.heap.size+2≤b:=fun b hb=>hXG b (.inl hb)
   have m0:=n0 X hX
   have m1:=n1 X hX
   have hlt:w.heap.size+1 < W.heap.size:=(Array.getElem?_eq_some_iff.1 hl).1
   have hy:=run_yield (P:=P) (args:=args) hl (by rw[hrec];exact hps _ k X G args W hE)
   rw[hrec] at hy
   refine⟨fn,_,assign,body,hy,roundIn_of_wpIn hfn (wpIn_mono (hassign _ k X G args W hi (by omega) hlen hXW hXG (by rwa [hW1z] at hE)) ?_)⟩
   rintro e1 a1 Wa hq1
   cases e1 with
   | normal =>
     obtain⟨hka,hia,hax⟩:=hq1
     have hla:=(hka.same _ (.inl ⟨by omega,fun h=>by have:=hOb _ h;omega⟩) hlt).trans hl
     have hda:=(hka.same _ (.inl ⟨by omega,fun h=>by have:=hOb _ h;omega⟩) (by omega)).trans hk
     have hlta:w.heap.size+1 < Wa.heap.size:=Nat.lt_of_lt_of_le hlt hka.size
     refine⟨_,run_beginRound hla (by rw[hrec]),?_⟩
     have hkb:Kept (fun b=>b≠w.heap.size+1) Wa (Wa.putObj (w.heap.size+1) (.loop {rec .ready none with state:= .busy })):=Kept.putObj _ _ _
     have hl2:(Wa.putObj (w.heap.size+1) (.loop {rec .ready none with state:= .busy })).heap[w.heap.size+1]?=some (.loop {rec .ready none with state:= .busy }):=World.putObj_heap_same hlta
     have hk2:(Wa.putObj (w.heap.size+1) (.loop {rec .ready none with state:= .busy })).heap[w.heap.size]?=some (.deferred (some [])):=(World.putObj_heap_other (by omega)).trans hda
     refine wpIn_mono (hbody _ k X G a1 _ (hI k _ _ _ _ hia (hkb.mono fun _ _ h=>h.2.2) (fun _ h=> .inl h)) (hAx k X G a1 _ _ hax hkb) (by rw[World.putObj_size];omega) hlen (fun b hb=>by rw[World.putObj_size];have:=hXW b hb;have:=hka.size;omega) hXG) ?_
     have r1:∀b,(R b∨X b)→(b < w.heap.size+2∧¬Ob b)∨X b:=fun b hb=>hb.imp (fun h=>⟨by have:=(hR b h).1;omega,(hR b h).2⟩) id
     have r2:∀b,(R b∨X b)→b≠w.heap.size+1:=fun b hb e=>by
      rcases hb with h | h
      ·have:=(hR b h).1;omega
      ·rw[e] at h;exact m1 h
     have hkR:Kept (fun b=>R b∨X b) W (Wa.putObj (w.heap.size+1) (.loop {rec .ready none with state:= .busy })):=
      (hka.mono fun b _ hb=>r1 b hb).trans (hkb.mono fun b _ hb=>r2 b hb)
     have fin:∀(jump:Option Code) (W3:World),Kept (fun b=>(b < w.heap.size+2∧¬Ob b)∨X b) (Wa.putObj (w.heap.size+1) (.loop {rec .ready none with state:= .busy })) W3→
      (Instr.endRound (w.heap.size+1) jump).run P W3= .ok (.bool jump.isNone) (W3.putObj (w.heap.size+1) (.loop (rec (if jump.isNone then .ready else .done) jump)))∧
      (W3.putObj (w.heap.size+1) (.loop (rec (if jump.isNone then .ready else .done) jump))).heap[w.heap.size+1]?=some (.loop (rec (if jump.isNone then .ready else .done) jump))∧
      (W3.putObj (w.heap.size+1) (.loop (rec (if jump.isNone then .ready else .done) jump))).heap[w.heap.size]?=some (.deferred (some [])):=fun jump W3 hk3=>by
      have hl3:=(hk3.same _ (.inl ⟨by omega,fun h=>by have:=hOb _ h;omega⟩) (by rw[World.putObj_size];exact hlta)).trans hl2
      have hd3:=(hk3.same _ (.inl ⟨by omega,fun h=>by have:=hOb _ h;omega⟩) (by rw[World.putObj_size];omega)).trans hk2
      have:=run_endRound (P:=P) jump hl3
      rw[hrec] at this ⊢
      exact⟨this,World.putObj_heap_same (Array.getElem?_eq_some_iff.1 hl3).1,(World.putObj_heap_other (by omega)).trans hd3⟩
     rintro e a3 W3 hp
     cases e with
     | normal =>
       obtain⟨hk3,hi3⟩:=hp
       obtain⟨hr,hl4,hk4⟩:=fin none W3 hk3
       refine⟨_,_,hr,.inl ⟨rfl,⟨hI _ X X _ _ hi3 ((Kept.putObj W3 _ _).mono fun b _ h=>h.2.2) (fun _ h=> .inl h),hl4,hk4,hX⟩,?_⟩⟩
       exact hkR.trans ((hk3.mono fun b _ hb=>r1 b hb).trans ((Kept.putObj W3 _ _).mono fun b _ hb=>r2 b hb))
     | ret =>
       obtain⟨hk3,hi3⟩:=hp
       obtain⟨hr,hl4,hk4⟩:=fin (some .ret) W3 hk3
       exact⟨_,_,hr,.inr ⟨rfl,⟨.ret,hIx _ _ X X _ _ hi3 ((Kept.putObj W3 _ _).mono fun b _ h=>h.2.2) (fun _ h=> .inl h),hl4,hk4,hX⟩,hkR.trans ((hk3.mono fun b _ hb=>r1 b hb).trans ((Kept.putObj W3 _ _).mono fun b _ hb=>r2 b hb))⟩⟩
     | exit id =>
       obtain⟨hk3,hi3⟩:=hp
       obtain⟨hr,hl4,hk4⟩:=fin (some (.exit id)) W3 hk3
       exact⟨_,_,hr,.inr ⟨rfl,⟨.exit id,hIx _ _ X X _ _ hi3 ((Kept.putObj W3 _ _).mono fun b _ h=>h.2.2) (fun _ h=> .inl h),hl4,hk4,hX⟩,hkR.trans ((hk3.mono fun b _ hb=>r1 b hb).trans ((Kept.putObj W3 _ _).mono fun b _ hb=>r2 b hb))⟩⟩
     | goto t =>
       obtain⟨hk3,hi3⟩:=hp
       obtain⟨hr,hl4,hk4⟩:=fin (some (.goto t)) W3 hk3
       exact⟨_,_,hr,.inr ⟨rfl,⟨.goto t,hIx _ _ X X _ _ hi3 ((Kept.putObj W3 _ _).mono fun b _ h=>h.2.2) (fun _ h=> .inl h),hl4,hk4,hX⟩,hkR.trans ((hk3.mono fun b _ hb=>r1 b hb).trans ((Kept.putObj W3 _ _).mono fun b _ hb=>r2 b hb))⟩⟩
     | panic ch=>exact hp.elim
     | outgrown=>exact hp.elim
   | ret=>exact hq1.elim
   | exit id=>exact hq1.elim
   | goto t=>exact hq1.elim
   | panic ch=>exact hq1.elim
   | outgrown=>exact hq1.elim
  ·
   rintro e W2 (⟨v,rfl,X,(⟨hi,hl,hk,hX⟩ | ⟨k,hkN,c,hi,hl,hk,hX⟩)⟩ | ⟨chain,k,X,rfl,hpn,hi,hl,hk,hX⟩)
   ·exact⟨none,_,by have:=run_endLoop (P:=P) hl (by rw[hrec];simp);rw[hrec] at this;exact this,hdone X _ (hI _ X X _ _ hi ((Kept.putObj W2 _ _).mono fun b _ h=>h.2.2) (fun _ h=> .inl h)) ((World.putObj_heap_other (by omega)).trans hk)⟩
   ·exact⟨some c,_,by have:=run_endLoop (P:=P) hl (by rw[hrec];simp);rw[hrec] at this;exact this,hstop c k X _ hkN (hIx c k X X _ _ hi ((Kept.putObj W2 _ _).mono fun b _ h=>h.2.2) (fun _ h=> .inl h)) ((World.putObj_heap_other (by omega)).trans hk)⟩
   ·exact hpanic k chain X W2 hpn hi hk
end Go.Proofs.YtiioegopckoldaaGreatDoor
namespace Go.Proofs.YtiioegopckoldaaGreatDoor
open Go.RowKit Go.Shelf
attribute [local go_sem] Oper.semAt_some
structure Ca where
 frm:Int
 seep:Sp
 fill:Sp
 deriving DecidableEq
def Ca.cells (c:Ca):List Value:=[.int .i64 c.frm,.int .i64 c.seep.lo,.int .i64 c.seep.hi,.int .i64 c.fill.lo,.int .i64 c.fill.hi]
theorem Ca.len (c:Ca):c.cells.length=5:=rfl
theorem Ca.one (c:Ca):∀u∈c.cells,u.oneCell'=true:=by simp[Ca.cells,Value.oneCell']
theorem Rd.ca {w:World} {B:Nat} {A:Option Addr} {xs:List Ca} (h:Rd w B Ca.cells A xs) {i:Nat} (hi:i < xs.length) :
 ∃b off f s0 s1 l0 l1,A=some ⟨b,off,none⟩∧b < B∧xs[i]?=some ⟨f,⟨s0,s1⟩,⟨l0,l1⟩⟩∧w.cell? ⟨b,off+i*5,none⟩=some (.int .i64 f)∧w.cell? ⟨b,off+i*5+1,none⟩=some (.int .i64 s0)∧w.cell? ⟨b,off+i*5+2,none⟩=some (.int .i64 s1)∧w.cell? ⟨b,off+i*5+3,none⟩=some (.int .i64 l0)∧w.cell? ⟨b,off+i*5+4,none⟩=some (.int .i64 l1):=by
 obtain⟨b,off,e,hB,hc⟩:=h (by omega)
 have hx:xs[i]?=some xs[i]:=List.getElem?_eq_getElem hi
 exact⟨b,off,_,_,_,_,_,e,hB,hx,hc _ _ (flat_get Ca.len hx (j:=0) (by omega)),hc _ _ (flat_get Ca.len hx (j:=1) (by omega)),hc _ _ (flat_get Ca.len hx (j:=2) (by omega)),hc _ _ (flat_get Ca.len hx (j:=3) (by omega)),hc _ _ (flat_get Ca.len hx (j:=4) (by omega))⟩
structure Ne where
 canals:List Ca
 fields:List Int
 dry:Int
 days:Int
 deriving DecidableEq
theorem Rd.kept {α:Type} {cells:α→List Value} {w w':World} {B:Nat} {A:Option Addr} {xs:List α} {R:Nat→Prop} (h:Rd w B cells A xs) (hk:Kept R w w') (hB:∀b,b < B→R b) (hl:B≤w.heap.size):Rd w' B cells A xs:=
 h.keep fun p hp=>hk.cell (p:=p) (hB _ hp) (by omega)
end Go.Proofs.YtiioegopckoldaaGreatDoor
namespace Go.Proofs.YtiioegopckoldaaGreatDoor
open Go.RowKit Go.Shelf
attribute [local go_sem] Oper.semAt_some
end Go.Proofs.YtiioegopckoldaaGreatDoor
namespace Go.Proofs.YtiioegopckoldaaGreatDoor
open Go.RowKit Go.Shelf
end Go.Proofs.YtiioegopckoldaaGreatDoor
namespace Go.Proofs.YtiioegopckoldaaGreatDoor
open Go.RowKit Go.Shelf
end Go.Proofs.YtiioegopckoldaaGreatDoor
namespace Go.Proofs.YtiioegopckoldaaGreatDoor
open Go.RowKit Go.Shelf Go.Maps Go.MapKept Go.ChangeMaps
structure MapLaw (P:Program) (T K E:TypeId) {β:Type} (el:β→Value) (ld:β→DataW Unit) (ok:β→Prop) (z0:β):Prop where
 key:Keyed P K
 ktype:P.underlying K=some (.int .i64)
 ty:P.underlying T=some (.map K E)
 zero:∀w,(zeroValue E).run P w= .ok (el z0) w
 put:∀x,ok x→plainElem (H:=Unit) P E (el x)=some (ld x,[])
 inv:∀v x ps,plainElem P E v=some (ld x,ps)→v=el x
 okz:ok z0
def ldB (x:Bool):DataW Unit:= .lit (.bool x)
def okI (x:Int):Prop:= -9223372036854775808≤x∧x≤9223372036854775807
theorem okI_wf {x:Int} (h:okI x):(Lit.int .i64 x).wf=true:=by
 have h1:IntKind.i64.min= -9223372036854775808:=by decide
 have h2:IntKind.i64.max=9223372036854775807:=by decide
 simp only[Lit.wf,h1,h2,decide_eq_true h.1,decide_eq_true h.2,Bool.and_self]
theorem mapLaw_bool {P:Program} {T K E:TypeId} (hk:P.underlying K=some (.int .i64)) (ht:P.underlying T=some (.map K E)) (he:P.underlying E=some .bool) (hz:∀w,(zeroValue E).run P w= .ok (.bool false) w) :
 MapLaw P T K E Value.bool ldB (fun _=>True) false:=
 ⟨int_keyed hk,hk,ht,hz,fun x _=>plainElem_bool he x,fun v x ps h=>by
  unfold plainElem at h
  rw[he] at h
  cases v <;> simp[ldB] at h
  rw[h.1],trivial⟩
def Mp {β:Type} (P:Program) (K E:TypeId) (ld:β→DataW Unit) (w:World) (b n:Nat) (f:Int→Option β) (s:Nat):Prop:=
 ∃D:DataW Unit,w.ownsMap P K (plainElem P E) b n D∧Tidy D∧(∀(k:Int) z,D.atKey (.int .i64 k) z=match f k with | some x=>ld x | none=>z)∧(∀k,has D (.int .i64 k)=(f k).isSome)∧size D=s
def upd {β:Type} (f:Int→Option β) (k:Int) (x:Option β) (j:Int):Option β:=if j=k then x else f j
section
variable {β:Type} {P:Program} {T K E:TypeId} {el:β→Value} {ld:β→DataW Unit} {ok:β→Prop} {z0:β} {w w':World} {b n s:Nat} {f:Int→Option β}
theorem Mp.made (w:World) (P:Program) (K E:TypeId) (ld:β→DataW Unit):Mp P K E ld (w.alloc (.map #[] 0)) w.heap.size 0 (fun _=>none) 0:=
 ⟨.map [],World.ownsMap_made w P K _,tidy_empty,fun _ _=>rfl,fun _=>rfl,rfl⟩
theorem Mp.lt (h:Mp P K E ld w b n f s):b < w.heap.size:=let⟨_,h,_⟩:=h;h.lt
theorem Mp.mono (h:Mp P K E ld w b n f s) {n':Nat} (hn:n≤n'):Mp P K E ld w b n' f s:=let⟨D,h,r⟩:=h;⟨D,h.mono hn,r⟩
theorem Mp.keptR {R:Nat→Prop} (h:Mp P K E ld w b n f s) (hk:Kept R w w') (hb:R b):Mp P K E ld w' b n f s:=by
 obtain⟨D,h,r⟩:=h
 have hlt:=h.lt
 obtain⟨es,clock,hb',F,hs,hD⟩:=h
 exact⟨D,⟨es,clock,(hk.same b hb hlt).trans hb',F,hs,hD⟩,r⟩
theorem Mp.below {B:Nat} (h:Mp P K E ld w b n f s) (hb:Below B w w') (hB:b < B):Mp P K E ld w' b n f s:=
 h.keptR (Kept.of_below hb (R:=fun b=>b < B) fun _ h=>h) hB
theorem Mp.alloc (h:Mp P K E ld w b n f s) (o:Obj):Mp P K E ld (w.alloc o) b n f s:=h.keptR (Kept.alloc (fun _=>True) w o) trivial
theorem Mp.congr {g:Int→Option β} (h:Mp P K E ld w b n f s) (hg:∀k,g k=f k):Mp P K E ld w b n g s:=by
 obtain rfl:g=f:=funext hg
 exact h
theorem Mp.read (h:Mp P K E ld w b n f s) (L:MapLaw P T K E el ld ok z0) {k:Int} (hk:okI k) :
 (Instr.lookup T (.map (some b)) (.int .i64 k) false).run P w= .ok (el ((f k).getD z0)) w:=by
 obtain⟨D,h,_,hat,_⟩:=h
 obtain⟨v,ps,hrun,hv⟩:=h.lookup L.key L.ty (L.zero w) (L.put z0 L.okz) (keyOf_int_mk L.ktype (okI_wf hk))
 rw[hat k] at hv
 rw[hrun]
 cases hf:f k with
 | none=>rw[hf] at hv;rw[L.inv _ _ _ hv];rfl
 | some x=>rw[hf] at hv;rw[L.inv _ _ _ hv];rfl
theorem Mp.write (h:Mp P K E ld w b n f s) (L:MapLaw P T K E el ld ok z0) (hn:n < 1000000) {k:Int} (hk:okI k) {x:β} (hx:ok x) :
 ∃w',(Instr.mapUpdate T (.map (some b)) (.int .i64 k) (el x)).run P w= .ok () w'∧Mp P K E ld w' b (n+1) (upd f k (some x)) (if(f k).isSome then s else s+1)∧w.grownBy w' (some b):=by
 obtain⟨D,h,ht,hat,hhas,hs⟩:=h
 obtain⟨w',hrun,h1,h2⟩:=h.update L.key L.ty (by simp only[maxLen];omega) (keyOf_int_mk L.ktype (okI_wf hk)) (L.put x hx)
 refine⟨w',hrun,⟨_,h1,ht.put (k:= .int .i64 k) trivial _,fun j z=>?_,fun j=>?_,?_⟩,h2⟩
 ·unfold upd
  by_cases e:j=k
  ·subst e;rw[if_pos rfl];exact atKey_put_same (k:= .int .i64 j) ht.isMap trivial _ _
  ·rw[if_neg e,atKey_put_other (by simpa using e)];exact hat j z
 ·unfold upd
  by_cases e:j=k
  ·subst e;rw[if_pos rfl];exact has_put_same (k:= .int .i64 j) ht.isMap trivial _
  ·rw[if_neg e,has_put_other (by simpa using e)];exact hhas j
 ·rw[size_put ht,hhas,hs]
theorem grown_of_turned (h:w.mapTurned w' b):w.grownBy w' (some b):=by
 obtain⟨es,clock,es',clock',hb,rfl⟩:=h
 exact⟨rfl,rfl,rfl,by simp[setBlock],fun i _ hi=>heap_setBlock_other hb _ (fun e=>hi (by rw[e]))⟩
theorem Mp.drop (h:Mp P K E ld w b n f s) (L:MapLaw P T K E el ld ok z0) {k:Int} (hk:okI k) (ty:TypeId) :
 ∃w',(Builtin.delete_ #[T,K] ty #[.map (some b),.int .i64 k]).run P w= .ok (.tuple #[]) w'∧Mp P K E ld w' b n (upd f k none) (if(f k).isSome then s-1 else s)∧w.grownBy w' (some b):=by
 obtain⟨D,h,ht,hat,hhas,hs⟩:=h
 obtain⟨w',hrun,h1,h2⟩:=h.drop L.key L.ty (keyOf_int_mk L.ktype (okI_wf hk)) ty
 refine⟨w',hrun,⟨_,h1,ht.del _,fun j z=>?_,fun j=>?_,?_⟩,grown_of_turned h2⟩
 ·unfold upd
  by_cases e:j=k
  ·subst e;rw[if_pos rfl];exact atKey_del_same _
  ·rw[if_neg e,atKey_del_other (by simpa using e)];exact hat j z
 ·unfold upd
  by_cases e:j=k
  ·subst e;rw[if_pos rfl];exact has_del_same
  ·rw[if_neg e,has_del_other (by simpa using e)];exact hhas j
 ·have:=size_del (k:= .int .i64 k) ht
  rw[hhas] at this
  cases hf:(f k).isSome <;> rw[hf] at this <;> simp at this ⊢ <;> omega
variable {F:Fence} {nF:Nat} {ops:Array Oper} {rest:List Oper} {o:Oper} {a:Act} {Q:Exit→Act→World→Prop}
end
end Go.Proofs.YtiioegopckoldaaGreatDoor
namespace Go.Proofs.YtiioegopckoldaaGreatDoor
open Go.RowKit Go.Shelf
structure MBox {β:Type} (P:Program) (K E:TypeId) (ld:β→DataW Unit) (w:World) (L b n:Nat) (f:Int→Option β) (W:World):Prop where
 box:At W L [.map (some b)]
 mp:∃s,Mp P K E ld W b n f s
 bl:Below w.heap.size w W
section
variable {β:Type} {P:Program} {K E:TypeId} {ld:β→DataW Unit} {w W W':World} {L b n n' s:Nat} {f f' g:Int→Option β}
theorem MBox.kept {R:Nat→Prop} (h:MBox P K E ld w L b n f W) (hk:Kept R W W') (h1:R L) (h2:R b) (h4:∀b,b < w.heap.size→R b):MBox P K E ld w L b n f W':=
 let⟨s,hs⟩:=h.mp
 ⟨h.box.kept hk h1,⟨s,hs.keptR hk h2⟩,h.bl.trans (hk.below h4 h.bl.size)⟩
theorem MBox.put (h:MBox P K E ld w L b n f W) (hmp:Mp P K E ld W' b n' g s) (hg:W.grownBy W' (some b)) (hne:¬L=b) (hw:w.heap.size≤b) (hf:∀k,f' k=g k) :
 MBox P K E ld w L b n' f' W'∧Kept (fun x=>¬x=b) W W':=by
 have hk:Kept (fun x=>¬x=b) W W':=(Kept.grown hg).mono fun x _ hx=>by simpa using hx
 exact⟨⟨h.box.kept hk hne,⟨s,hmp.congr hf⟩,h.bl.trans (hk.below (fun x hx=>by omega) h.bl.size)⟩,hk⟩
theorem MBox.congr (h:MBox P K E ld w L b n f W) (hn:n≤n') (hf:∀k,f' k=f k):MBox P K E ld w L b n' f' W:=
 let⟨s,hs⟩:=h.mp
 ⟨h.box,⟨s,(hs.mono hn).congr hf⟩,h.bl⟩
theorem MBox.ltb (h:MBox P K E ld w L b n f W):b < W.heap.size:=let⟨_,hs⟩:=h.mp;hs.lt
end
def coll (D:Nat):Deferred:={target:= .collected D,args:=#[] }
structure DefOk (B:Nat) (ds:List Nat) (W:World):Prop where
 nodup:ds.Nodup
 open_:∀D∈ds,B≤D∧W.heap[D]?=some (.deferred (some []))
theorem DefOk.nil (B:Nat) (W:World):DefOk B [] W:=⟨List.nodup_nil,by simp⟩
theorem DefOk.kept {B:Nat} {ds:List Nat} {W W':World} {R:Nat→Prop} (h:DefOk B ds W) (hk:Kept R W W') (hr:∀D∈ds,R D):DefOk B ds W':=
 ⟨h.nodup,fun D hD=>⟨(h.open_ D hD).1,(hk.same D (hr D hD) (Array.getElem?_eq_some_iff.1 (h.open_ D hD).2).1).trans (h.open_ D hD).2⟩⟩
theorem DefOk.lt {B:Nat} {ds:List Nat} {W:World} (h:DefOk B ds W) {D:Nat} (hD:D∈ds):D < W.heap.size:=(Array.getElem?_eq_some_iff.1 (h.open_ D hD).2).1
theorem DefOk.cons {B:Nat} {ds:List Nat} {W:World} {D:Nat} (h:DefOk B ds W) (hD:W.heap[D]?=some (.deferred (some []))) (hB:B≤D) (hn:D∉ds):DefOk B (D :: ds) W:=
 ⟨List.nodup_cons.2 ⟨hn,h.nodup⟩,fun D' hD'=>by
  rcases List.mem_cons.1 hD' with rfl | h'
  ·exact⟨hB,hD⟩
  ·exact h.open_ D' h'⟩
end Go.Proofs.YtiioegopckoldaaGreatDoor
