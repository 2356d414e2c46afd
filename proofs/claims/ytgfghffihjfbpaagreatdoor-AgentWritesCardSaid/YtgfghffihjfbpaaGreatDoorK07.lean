/- lemmas for agentWrites_holds: Range. No conditions. -/
import Derived.Test.YtgfghffihjfbpaaGreatDoorK01
import Derived.RangeFuncNested
import Derived.RangeFuncBound
import Derived.RangeFuncCalls
import Derived.RangeFuncLeaves
import Derived.Shelf.RegionOpen
import Derived.OwnWalkIn
import Derived.TacticsInMore
import Derived.LoopNIn
import Derived.LoopIn
set_option linter.unusedVariables false
set_option linter.unusedSimpArgs false
namespace Go.Proofs.YtgfghffihjfbpaaGreatDoor
open Go.RowKit Go.Shelf
structure Kept (R:Nat→Prop) (w w':World):Prop where
 os:w'.os=w.os
 tape:w'.tape=w.tape
 output:w'.output=w.output
 size:w.heap.size≤w'.heap.size
 same:∀b,R b→b < w.heap.size→w'.heap[b]?=w.heap[b]?
section
variable {R R':Nat→Prop} {w w' w'':World}
theorem Kept.refl (R:Nat→Prop) (w:World):Kept R w w:=⟨rfl,rfl,rfl,Nat.le_refl _,fun _ _ _=>rfl⟩
theorem Kept.trans (h:Kept R w w') (k:Kept R w' w''):Kept R w w'':=
 ⟨k.os.trans h.os,k.tape.trans h.tape,k.output.trans h.output,Nat.le_trans h.size k.size,fun b hb hl=>(k.same b hb (Nat.lt_of_lt_of_le hl h.size)).trans (h.same b hb hl)⟩
theorem Kept.mono (h:Kept R w w') (hr:∀b,b < w.heap.size→R' b→R b):Kept R' w w':=⟨h.os,h.tape,h.output,h.size,fun b hb hl=>h.same b (hr b hl hb) hl⟩
theorem Kept.below {B:Nat} (h:Kept R w w') (hr:∀b,b < B→R b) (hB:B≤w.heap.size):Below B w w':=
 ⟨h.os,h.tape,h.output,h.size,fun b hb=>h.same b (hr b hb) (by omega)⟩
theorem Kept.of_below {B:Nat} (h:Below B w w') (hr:∀b,R b→b < B):Kept R w w':=⟨h.os,h.tape,h.output,h.size,fun b hb _=>h.block b (hr b hb)⟩
theorem Kept.all (R:Nat→Prop) (h:Below w.heap.size w w'):Kept R w w':=⟨h.os,h.tape,h.output,h.size,fun b _ hl=>h.block b hl⟩
theorem Kept.setCell (w:World) (p:Addr) (u:Value):Kept (fun b=>b≠p.block) w (w.setCell p u):=
 ⟨rfl,rfl,rfl,by simp[World.setCell],fun b hb _=>Below.heap_setCell w p u b hb⟩
theorem Kept.alloc (R:Nat→Prop) (w:World) (o:Obj):Kept R w (w.alloc o):=⟨rfl,rfl,rfl,by simp,fun b _ hl=>Below.heap_alloc w o b hl⟩
theorem Kept.drew (R:Nat→Prop) (w:World) (n:Nat):Kept R w (w.drewN n):=⟨rfl,rfl,rfl,Nat.le_refl _,fun _ _ _=>rfl⟩
theorem Kept.putObj (w:World) (l:Nat) (o:Obj):Kept (fun b=>b≠l) w (w.putObj l o):=
 ⟨rfl,rfl,rfl,by simp,fun b hb _=>World.putObj_heap_other hb⟩
theorem Kept.grown {row:Option Nat} (hg:w.grownBy w' row):Kept (fun b=>some b≠row) w w':=
 ⟨hg.os,hg.tape,hg.output,hg.size,fun b hb hl=>hg.block b hl hb⟩
theorem Kept.cell (h:Kept R w w') {p:Addr} (hp:R p.block) (hl:p.block < w.heap.size):w'.cell? p=w.cell? p:=World.cell?_of_block (w:=w) (h.same p.block hp hl)
theorem Kept.frozen (h:Kept R w w') {p:Addr} (hp:R p.block) (hl:p.block < w.heap.size):w'.frozen? p=w.frozen? p:=World.frozen?_of_block (w:=w) (h.same p.block hp hl)
end
end Go.Proofs.YtgfghffihjfbpaaGreatDoor
namespace Go.Proofs.YtgfghffihjfbpaaGreatDoor
open Go.RowKit Go.Shelf
theorem At.frozen_new (w:World) (cs:Array Value) (t:TypeId) (q:Nat) (hq:q=w.heap.size) (j:Nat):(w.alloc (.cells cs t)).frozen? ⟨q,j,none⟩=false:=by
 subst hq
 unfold World.frozen?
 rw[show(w.alloc (.cells cs t)).heap[(⟨w.heap.size,j,none⟩:Addr).block]?=some (.cells cs t (0,0)) from heap_alloc_new w _]
 simp
theorem At.set {w:World} {p:Nat} {cs:List Value} (h:At w p cs) {j:Nat} (u:Value) (hj:j < cs.length):At (w.setCell ⟨p,j,none⟩ u) p (cs.set j u):=by
 refine⟨by simpa[World.setCell] using h.1,fun i v hv=>?_⟩
 by_cases hij:i=j
 ·subst hij
  rw[List.getElem?_set_self hj] at hv
  injection hv with hv
  subst hv
  exact World.cell?_setCell_same' _ _ _ (by rw[h.2 i _ (List.getElem?_eq_getElem hj)];rfl)
 ·rw[List.getElem?_set_ne (Ne.symm hij)] at hv
  exact(World.cell?_setCell_other _ _ _ _ (by first | (simp;done) | (simp;omega))).trans (h.2 i v hv)
theorem At.kept {w w':World} {p:Nat} {cs:List Value} {R:Nat→Prop} (h:At w p cs) (hk:Kept R w w') (hp:R p):At w' p cs:=
 ⟨Nat.lt_of_lt_of_le h.1 hk.size,fun j v hv=>(hk.cell (p:=⟨p,j,none⟩) hp h.1).trans (h.2 j v hv)⟩
theorem Own.keptR {α:Type} {cells:α→List Value} {w w':World} {base:Nat} {e:TypeId} {k:Nat} {v:Value} {xs:List α} {R:Nat→Prop} (h:Own w base e k cells v xs) (hk:Kept R w w') (hr:∀b,base≤b→R b):Own w' base e k cells v xs:=by
 obtain⟨hl,hn | ⟨g,cap,cur,rfl,hb,hg,rest⟩⟩:=h
 ·exact⟨hl,.inl hn⟩
 ·exact⟨hl,.inr ⟨g,cap,cur,rfl,hb,(hk.same g (hr g hb) (Array.getElem?_eq_some_iff.1 hg).1).trans hg,rest⟩⟩
structure BoxInv {α:Type} (e:TypeId) (k:Nat) (cells:α→List Value) (w:World) (L base:Nat) (xs:List α) (W:World):Prop where
 own:∃v,Own W base e k cells v xs∧W.cell? ⟨L,0,none⟩=some v∧W.frozen? ⟨L,0,none⟩=false
 lt:L < W.heap.size
 bl:Below w.heap.size w W
 big:base≤W.heap.size
theorem BoxInv.kept {α:Type} {e:TypeId} {k:Nat} {cells:α→List Value} {w W W':World} {L base:Nat} {xs:List α} {R:Nat→Prop} (h:BoxInv e k cells w L base xs W) (hk:Kept R W W') (h1:∀b,base≤b→R b) (h2:R L) (h4:∀b,b < w.heap.size→R b):BoxInv e k cells w L base xs W':=by
 obtain⟨v,ho,hc,hf⟩:=h.own
 exact⟨⟨v,ho.keptR hk h1,(hk.cell (p:=⟨L,0,none⟩) h2 h.lt).trans hc,(hk.frozen (p:=⟨L,0,none⟩) h2 h.lt).trans hf⟩,Nat.lt_of_lt_of_le h.lt hk.size,h.bl.trans (hk.below h4 h.bl.size),Nat.le_trans h.big hk.size⟩
theorem BoxInv.step {α:Type} {e:TypeId} {k:Nat} {cells:α→List Value} {w W wv:World} {L base:Nat} {xs:List α} {x:α} {vv:Value} (h:BoxInv e k cells w L base xs W) (ho:Own wv base e k cells vv (xs ++ [x])) (hk:Kept (fun b=>b < base) W wv)
 (hL:L < base) (hw:w.heap.size≤L):BoxInv e k cells w L base (xs ++ [x]) (wv.setCell ⟨L,0,none⟩ vv)∧Kept (fun b=>b < base∧¬b=L) W (wv.setCell ⟨L,0,none⟩ vv):=by
 obtain⟨v,_,hc,hf⟩:=h.own
 have hk2:Kept (fun b=>b < base∧¬b=L) W (wv.setCell ⟨L,0,none⟩ vv):=(hk.mono fun b _ hb=>hb.1).trans ((Kept.setCell wv ⟨L,0,none⟩ vv).mono fun b _ hb=>hb.2)
 have hc1:wv.cell? ⟨L,0,none⟩=some v:=(hk.cell (p:=⟨L,0,none⟩) hL h.lt).trans hc
 have hf1:wv.frozen? ⟨L,0,none⟩=false:=(hk.frozen (p:=⟨L,0,none⟩) hL h.lt).trans hf
 refine⟨⟨⟨vv,ho.setCell ?_ _,World.cell?_setCell_same' _ _ _ (by rw[hc1];rfl),by rw[World.frozen?_setCell];exact hf1⟩,Nat.lt_of_lt_of_le h.lt hk2.size,h.bl.trans (hk2.below (fun b hb=>⟨by omega,by omega⟩) h.bl.size),Nat.le_trans h.big hk2.size⟩,hk2⟩
 intro e
 rcases ho.block_ with hb | ⟨g,hb,hb2,_⟩
 ·rw[hb] at e;cases e
 ·rw[hb] at e
  injection e with e
  simp only at e
  omega
end Go.Proofs.YtgfghffihjfbpaaGreatDoor
namespace Go.Proofs.YtgfghffihjfbpaaGreatDoor
open Go.RowKit Go.Shelf
def SeqX (n:Nat) (P:Program) (g:Nat) (lb:Array Value) (E:Nat→Nat→(Nat→Prop)→(Nat→Prop)→Array Value→World→Prop) (N:Nat) (inf:Prop) (Pn:Nat→List PanicEntry→Prop) (Oi R:Nat→Prop) (w:World):Prop:=
 ∀(l:Nat) (J Jx:Nat→(Nat→Prop)→World→Prop) (W:World),Kept R w W→
  (∀k X X' A B,J k X A→Kept (fun b=>¬X b) A B→(∀b,X' b→X b∨A.heap.size≤b)→J k X' B)→
  (∀k X X' A B,Jx k X A→Kept (fun b=>¬X b) A B→(∀b,X' b→X b∨A.heap.size≤b)→Jx k X' B)→
  (∀k X G args W1,J k (fun b=>X b∨G b) W1→(∀b,X b∨G b→b < W1.heap.size)→E W.heap.size k X G args W1→k < N→YieldAt Fence.wide (n-1) P l args W1 fun e W'=>
   (e= .returned (.bool true)∧J (k+1) X W'∧Kept (fun b=>R b∨X b) W1 W')∨(e= .returned (.bool false)∧Jx (k+1) X W'∧Kept (fun b=>R b∨X b) W1 W'))→
  J 0 Oi W→(inf→∀X W',¬J N X W')→
  CallsIn Fence.wide n P g (#[.func (.yield l) #[] #[]] ++ lb) W fun e W'=>
   (∃v,e= .returned v∧∃X,J N X W'∨∃k,k≤N∧Jx k X W')∨(∃chain k X,e= .panicked chain∧Pn k chain∧J k X W')
def postX (D:Nat) (Ob:Nat→Prop) (I:Nat→(Nat→Prop)→World→Prop) (Ix:Code→Nat→(Nat→Prop)→World→Prop) (k:Nat) (X:Nat→Prop) (W:World):Exit→Act→World→Prop
 | .normal,_,W'=>Kept (fun b=>(b < D+2∧¬Ob b)∨X b) W W'∧I (k+1) X W'
 | .ret,_,W'=>Kept (fun b=>(b < D+2∧¬Ob b)∨X b) W W'∧Ix .ret (k+1) X W'
 | .exit id,_,W'=>Kept (fun b=>(b < D+2∧¬Ob b)∨X b) W W'∧Ix (.exit id) (k+1) X W'
 | .goto t,_,W'=>Kept (fun b=>(b < D+2∧¬Ob b)∨X b) W W'∧Ix (.goto t) (k+1) X W'
 | .panic _,_,_=>False
 | .outgrown,_,_=>False
theorem wp_rangeX {n:Nat} {P:Program} {g:Operand} {ps:Array Tmp} {assign body:Code} {Q:Exit→Act→World→Prop} {a:Act} {w:World}
 {gf:Nat} {lb:Array Value} (hg:a.eval g= .func (.func gf) #[] lb) (eg:∀args w,(callFunc gf args).run P w= .ok (.enter gf args) w)
 {E:Nat→Nat→(Nat→Prop)→(Nat→Prop)→Array Value→World→Prop} {N:Nat} {inf:Prop} {Pn:Nat→List PanicEntry→Prop} {Oi R:Nat→Prop} {w0:World} (hseq:SeqX (n-1) P gf lb E N inf Pn Oi R w0)
 (hw0:Kept R w0 w) (hps:∀b k X G args W,E b k X G args W→args.size=ps.size) (Ob:Nat→Prop)
 (hOi:∀b,Oi b→b < w.heap.size) (hOb:∀b,Ob b→b < w.heap.size) (hR:∀b,R b→b < w.heap.size∧¬Ob b)
 (I:Nat→(Nat→Prop)→World→Prop) (Ix:Code→Nat→(Nat→Prop)→World→Prop) (Ax:Nat→(Nat→Prop)→(Nat→Prop)→Act→World→Prop)
 (hI:∀k X X' A B,I k X A→Kept (fun b=>¬X b∧b≠w.heap.size∧b≠w.heap.size+1) A B→(∀b,X' b→X b∨A.heap.size≤b)→I k X' B)
 (hIx:∀c k X X' A B,Ix c k X A→Kept (fun b=>¬X b∧b≠w.heap.size∧b≠w.heap.size+1) A B→(∀b,X' b→X b∨A.heap.size≤b)→Ix c k X' B)
 (hAx:∀k X G a' A B,Ax k X G a' A→Kept (fun b=>b≠w.heap.size+1) A B→Ax k X G a' B)
 (h0:∀W,Kept (fun _=>True) w W→W.heap.size=w.heap.size+2→I 0 Oi W) (hinf:inf→∀X W,¬I N X W)
 (hassign:∀l k X G args W,I k (fun b=>X b∨G b) W→w.heap.size+2≤W.heap.size→k < N→(∀b,X b∨G b→b < W.heap.size)→(∀b,X b∨G b→Oi b∨w.heap.size+2≤b)→E (w.heap.size+2) k X G args W→assign.wpIn (Fence.wide.inRound l) (n-1-1) P (Exit.then (fun a' W'=>Kept (fun b=>(b < w.heap.size+2∧¬Ob b)∨X b) W W'∧I k (fun b=>X b∨G b) W'∧Ax k X G a' W') (fun _ _ _=>False))
  {tmps:=(ps.zip args).foldl (fun t (p,v)=>t.setIfInBounds p v) a.tmps,defers:=[] } W)
 (hbody:∀l k X G a' W,I k (fun b=>X b∨G b) W→Ax k X G a' W→w.heap.size+2≤W.heap.size→k < N→(∀b,X b∨G b→b < W.heap.size)→(∀b,X b∨G b→Oi b∨w.heap.size+2≤b)→body.wpIn (Fence.wide.inRound l) (n-1-1) P (postX w.heap.size Ob I Ix k X W) a' W)
 (hdone:∀X W,I N X W→W.heap[w.heap.size]?=some (.deferred (some []))→Q .normal {a with defers:={target:= .collected w.heap.size,args:=#[] } :: a.defers } W)
 (hstop:∀c k X W,k≤N→Ix c k X W→W.heap[w.heap.size]?=some (.deferred (some []))→c.wpIn Fence.wide n P Q {a with defers:={target:= .collected w.heap.size,args:=#[] } :: a.defers } W)
 (hpanic:∀k chain X W,Pn k chain→I k X W→W.heap[w.heap.size]?=some (.deferred (some []))→Q (.panic chain) {a with defers:={target:= .collected w.heap.size,args:=#[] } :: a.defers } W) :
 (Code.rangeFunc g ps assign body).wpIn Fence.wide n P Q a w:=by
 refine wpIn_rangeFunc ?_
 intro fn hfn
 rw[show Fence.wide.round=none from rfl]
 obtain⟨rec,hrec⟩:∃rec:LoopState→Option Code→Loop,rec=fun st pe=>{state:=st,pending:=pe,fn,tmps:=a.tmps,params:=ps,assign,body,defers:=w.heap.size }:=⟨_,rfl⟩
 obtain⟨W1,hW1⟩:∃W1,(w.alloc (.deferred (some []))).alloc (.loop (rec .ready none))=W1:=⟨_,rfl⟩
 have hL1:W1.heap[w.heap.size+1]?=some (.loop (rec .ready none)):=by
  rw[←hW1];have:=World.alloc_heap_new (w.alloc (.deferred (some []))) (.loop (rec .ready none));rwa [World.size_alloc] at this
 have hK1:W1.heap[w.heap.size]?=some (.deferred (some [])):=by
  rw[←hW1];exact(Below.heap_alloc _ _ _ (by simp)).trans (World.alloc_heap_new w _)
 have hkw:∀R,Kept R w W1:=fun R=>by rw[←hW1];exact(Kept.alloc R w _).trans (Kept.alloc R _ _)
 have hW1z:W1.heap.size=w.heap.size+2:=by rw[←hW1];simp
 have hI1:I 0 Oi W1:=h0 W1 (hkw _) (by rw[←hW1];simp)
 refine⟨w.heap.size+1,[{target:= .collected w.heap.size,args:=#[] }],W1,{target:= .fn (.func gf) lb,args:=#[.func (.yield (w.heap.size+1)) #[] #[]] },W1,gf,
  #[.func (.yield (w.heap.size+1)) #[] #[]] ++ lb,W1,?_,?_,?_,?_,fun h=>by simp[Fence.wide] at h,?_⟩
 ·rw[←hW1,hrec];exact run_enterLoop_outer _ _ _ _ _
 ·simp only[resolve,hg]
  simp[go_sem]
 ·intro f' _;trivial
 ·simp[invoke,go_sem,eg]
 ·have st:∀(X:Nat→Prop) (A B:World) (b:Nat) (o:Obj),(¬X b)→A.heap[b]?=some o→Kept (fun b=>¬X b) A B→B.heap[b]?=some o:=fun X A B b o hb ho hk=>(hk.same b hb (Array.getElem?_eq_some_iff.1 ho).1).trans ho
  have n0:∀X:Nat→Prop,(∀b,X b→Oi b∨w.heap.size+2≤b)→¬X w.heap.size:=fun X hX h=>by rcases hX _ h with h | h;(have:=hOi _ h;omega);omega
  have n1:∀X:Nat→Prop,(∀b,X b→Oi b∨w.heap.size+2≤b)→¬X (w.heap.size+1):=fun X hX h=>by rcases hX _ h with h | h;(have:=hOi _ h;omega);omega
  have nX:∀(X X':Nat→Prop) (A:World) (o:Obj),(∀b,X b→Oi b∨w.heap.size+2≤b)→A.heap[w.heap.size+1]?=some o→(∀b,X' b→X b∨A.heap.size≤b)→∀b,X' b→Oi b∨w.heap.size+2≤b:=fun X X' A o hX hA hX' b hb=>by
   have:=(Array.getElem?_eq_some_iff.1 hA).1
   rcases hX' b hb with h | h
   ·exact hX b h
   ·exact .inr (by omega)
  refine(hseq (w.heap.size+1)
   (fun k X W=>I k X W∧W.heap[w.heap.size+1]?=some (.loop (rec .ready none))∧W.heap[w.heap.size]?=some (.deferred (some []))∧∀b,X b→Oi b∨w.heap.size+2≤b)
   (fun k X W=>∃c,Ix c k X W∧W.heap[w.heap.size+1]?=some (.loop (rec .done (some c)))∧W.heap[w.heap.size]?=some (.deferred (some []))∧∀b,X b→Oi b∨w.heap.size+2≤b)
   W1 (hw0.trans (hkw R))
   (fun k X X' A B hs hk hX'=>⟨hI k X X' A B hs.1 (hk.mono fun _ _ h=>h.1) hX',st X A B _ _ (n1 X hs.2.2.2) hs.2.1 hk,st X A B _ _ (n0 X hs.2.2.2) hs.2.2.1 hk,nX X X' A _ hs.2.2.2 hs.2.1 hX'⟩)
   (fun k X X' A B hs hk hX'=>by
    obtain⟨c,hc,hl,hd,hX⟩:=hs
    exact⟨c,hIx c k X X' A B hc (hk.mono fun _ _ h=>h.1) hX',st X A B _ _ (n1 X hX) hl hk,st X A B _ _ (n0 X hX) hd hk,nX X X' A _ hX hl hX'⟩)
   ?_ ⟨hI1,hL1,hK1,fun b hb=> .inl hb⟩ (fun h X W' hs=>hinf h X W' hs.1)).mono ?_
  ·
   rintro k X G args W ⟨hi,hl,hk,hXG⟩ hXW hE hlen
   have hX:∀b,X b→Oi b∨w.heap.size+2≤b:=fun b hb=>hXG b (.inl hb)
   have m0:=n0 X hX
   have m1:=n1 X hX
   have hlt:w.heap.size+1 < W.heap.size:=(Array.getElem?_eq_some_iff.1 hl).1
   have hy:=run_yield (P:=P) (args:=args) hl (by rw[hrec];exact hps _ k X G args W hE)
   rw[hrec] at hy
   refine⟨fn,_,assign,body,hy,roundIn_of_wpIn hfn (wpIn_mono (hassign _ k X G args W hi (by omega) hlen hXW hXG (by rwa [hW1z] at hE)) ?_)⟩
   rintro e1 a1 Wa hq1
   cases e1 with
   | normal =>
     obtain⟨hka,hia,hax⟩:=hq1
     have hla:=(hka.same _ (.inl ⟨by omega,fun h=>by have:=hOb _ h;omega⟩) hlt).trans hl
     have hda:=(hka.same _ (.inl ⟨by omega,fun h=>by have:=hOb _ h;omega⟩) (by omega)).trans hk
     have hlta:w.heap.size+1 < Wa.heap.size:=Nat.lt_of_lt_of_le hlt hka.size
     refine⟨_,run_beginRound hla (by rw[hrec]),?_⟩
     have hkb:Kept (fun b=>b≠w.heap.size+1) Wa (Wa.putObj (w.heap.size+1) (.loop {rec .ready none with state:= .busy })):=Kept.putObj _ _ _
     have hl2:(Wa.putObj (w.heap.size+1) (.loop {rec .ready none with state:= .busy })).heap[w.heap.size+1]?=some (.loop {rec .ready none with state:= .busy }):=World.putObj_heap_same hlta
     have hk2:(Wa.putObj (w.heap.size+1) (.loop {rec .ready none with state:= .busy })).heap[w.heap.size]?=some (.deferred (some [])):=(World.putObj_heap_other (by omega)).trans hda
     refine wpIn_mono (hbody _ k X G a1 _ (hI k _ _ _ _ hia (hkb.mono fun _ _ h=>h.2.2) (fun _ h=> .inl h)) (hAx k X G a1 _ _ hax hkb) (by rw[World.putObj_size];omega) hlen (fun b hb=>by rw[World.putObj_size];have:=hXW b hb;have:=hka.size;omega) hXG) ?_
     have r1:∀b,(R b∨X b)→(b < w.heap.size+2∧¬Ob b)∨X b:=fun b hb=>hb.imp (fun h=>⟨by have:=(hR b h).1;omega,(hR b h).2⟩) id
     have r2:∀b,(R b∨X b)→b≠w.heap.size+1:=fun b hb e=>by
      rcases hb with h | h
      ·have:=(hR b h).1;omega
      ·rw[e] at h;exact m1 h
     have hkR:Kept (fun b=>R b∨X b) W (Wa.putObj (w.heap.size+1) (.loop {rec .ready none with state:= .busy })):=
      (hka.mono fun b _ hb=>r1 b hb).trans (hkb.mono fun b _ hb=>r2 b hb)
     have fin:∀(jump:Option Code) (W3:World),Kept (fun b=>(b < w.heap.size+2∧¬Ob b)∨X b) (Wa.putObj (w.heap.size+1) (.loop {rec .ready none with state:= .busy })) W3→
      (Instr.endRound (w.heap.size+1) jump).run P W3= .ok (.bool jump.isNone) (W3.putObj (w.heap.size+1) (.loop (rec (if jump.isNone then .ready else .done) jump)))∧
      (W3.putObj (w.heap.size+1) (.loop (rec (if jump.isNone then .ready else .done) jump))).heap[w.heap.size+1]?=some (.loop (rec (if jump.isNone then .ready else .done) jump))∧
      (W3.putObj (w.heap.size+1) (.loop (rec (if jump.isNone then .ready else .done) jump))).heap[w.heap.size]?=some (.deferred (some [])):=fun jump W3 hk3=>by
      have hl3:=(hk3.same _ (.inl ⟨by omega,fun h=>by have:=hOb _ h;omega⟩) (by rw[World.putObj_size];exact hlta)).trans hl2
      have hd3:=(hk3.same _ (.inl ⟨by omega,fun h=>by have:=hOb _ h;omega⟩) (by rw[World.putObj_size];omega)).trans hk2
      have:=run_endRound (P:=P) jump hl3
      rw[hrec] at this ⊢
      exact⟨this,World.putObj_heap_same (Array.getElem?_eq_some_iff.1 hl3).1,(World.putObj_heap_other (by omega)).trans hd3⟩
     rintro e a3 W3 hp
     cases e with
     | normal =>
       obtain⟨hk3,hi3⟩:=hp
       obtain⟨hr,hl4,hk4⟩:=fin none W3 hk3
       refine⟨_,_,hr,.inl ⟨rfl,⟨hI _ X X _ _ hi3 ((Kept.putObj W3 _ _).mono fun b _ h=>h.2.2) (fun _ h=> .inl h),hl4,hk4,hX⟩,?_⟩⟩
       exact hkR.trans ((hk3.mono fun b _ hb=>r1 b hb).trans ((Kept.putObj W3 _ _).mono fun b _ hb=>r2 b hb))
     | ret =>
       obtain⟨hk3,hi3⟩:=hp
       obtain⟨hr,hl4,hk4⟩:=fin (some .ret) W3 hk3
       exact⟨_,_,hr,.inr ⟨rfl,⟨.ret,hIx _ _ X X _ _ hi3 ((Kept.putObj W3 _ _).mono fun b _ h=>h.2.2) (fun _ h=> .inl h),hl4,hk4,hX⟩,hkR.trans ((hk3.mono fun b _ hb=>r1 b hb).trans ((Kept.putObj W3 _ _).mono fun b _ hb=>r2 b hb))⟩⟩
     | exit id =>
       obtain⟨hk3,hi3⟩:=hp
       obtain⟨hr,hl4,hk4⟩:=fin (some (.exit id)) W3 hk3
       exact⟨_,_,hr,.inr ⟨rfl,⟨.exit id,hIx _ _ X X _ _ hi3 ((Kept.putObj W3 _ _).mono fun b _ h=>h.2.2) (fun _ h=> .inl h),hl4,hk4,hX⟩,hkR.trans ((hk3.mono fun b _ hb=>r1 b hb).trans ((Kept.putObj W3 _ _).mono fun b _ hb=>r2 b hb))⟩⟩
     | goto t =>
       obtain⟨hk3,hi3⟩:=hp
       obtain⟨hr,hl4,hk4⟩:=fin (some (.goto t)) W3 hk3
       exact⟨_,_,hr,.inr ⟨rfl,⟨.goto t,hIx _ _ X X _ _ hi3 ((Kept.putObj W3 _ _).mono fun b _ h=>h.2.2) (fun _ h=> .inl h),hl4,hk4,hX⟩,hkR.trans ((hk3.mono fun b _ hb=>r1 b hb).trans ((Kept.putObj W3 _ _).mono fun b _ hb=>r2 b hb))⟩⟩
     | panic ch=>exact hp.elim
     | outgrown=>exact hp.elim
   | ret=>exact hq1.elim
   | exit id=>exact hq1.elim
   | goto t=>exact hq1.elim
   | panic ch=>exact hq1.elim
   | outgrown=>exact hq1.elim
  ·
   rintro e W2 (⟨v,rfl,X,(⟨hi,hl,hk,hX⟩ | ⟨k,hkN,c,hi,hl,hk,hX⟩)⟩ | ⟨chain,k,X,rfl,hpn,hi,hl,hk,hX⟩)
   ·exact⟨none,_,by have:=run_endLoop (P:=P) hl (by rw[hrec];simp);rw[hrec] at this;exact this,hdone X _ (hI _ X X _ _ hi ((Kept.putObj W2 _ _).mono fun b _ h=>h.2.2) (fun _ h=> .inl h)) ((World.putObj_heap_other (by omega)).trans hk)⟩
   ·exact⟨some c,_,by have:=run_endLoop (P:=P) hl (by rw[hrec];simp);rw[hrec] at this;exact this,hstop c k X _ hkN (hIx c k X X _ _ hi ((Kept.putObj W2 _ _).mono fun b _ h=>h.2.2) (fun _ h=> .inl h)) ((World.putObj_heap_other (by omega)).trans hk)⟩
   ·exact hpanic k chain X W2 hpn hi hk
end Go.Proofs.YtgfghffihjfbpaaGreatDoor
