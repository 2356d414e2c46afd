/- lemmas for agentWrites_holds: RangeG. No conditions. -/
import Derived.Test.YtgfghffihjfbpaaGreatDoorK09
import Derived.Test.YtgfghffihjfbpaaGreatDoorK10
set_option linter.unusedVariables false
set_option linter.unusedSimpArgs false
namespace Go.Proofs.YtgfghffihjfbpaaGreatDoor
open Go.RowKit Go.Shelf
structure BoxX {α:Type} (e:TypeId) (k:Nat) (cells:α→List Value) (w:World) (L Z:Nat) (xs:List α) (X:Nat→Prop) (W:World):Prop where
 own:∃v,W.cell? ⟨L,0,none⟩=some v∧W.frozen? ⟨L,0,none⟩=false∧Own W Z e k cells v xs∧∀g,v.ownBlock=some g→¬X g
 lt:L < W.heap.size
 bl:Below w.heap.size w W
 xge:∀b,X b→Z≤b
 zle:Z≤W.heap.size
section
variable {α:Type} {e:TypeId} {k:Nat} {cells:α→List Value} {w W W':World} {L Z:Nat} {xs:List α} {X X' R:Nat→Prop}
theorem BoxX.kept (h:BoxX e k cells w L Z xs X W) (hk:Kept R W W') (h1:∀b,Z≤b→¬X b→R b) (h2:R L) (h3:∀b,b < w.heap.size→R b) (hX:∀b,X' b→X b∨W.heap.size≤b):BoxX e k cells w L Z xs X' W':=by
 obtain⟨v,c,f,o,n⟩:=h.own
 refine⟨⟨v,(hk.cell (p:=⟨L,0,none⟩) h2 h.lt).trans c,(hk.frozen (p:=⟨L,0,none⟩) h2 h.lt).trans f,o.keptG hk (fun g hg=>h1 g (o.blockG hg).1 (n g hg)),fun g hg hx=>?_⟩,Nat.lt_of_lt_of_le h.lt hk.size,h.bl.trans (hk.below h3 h.bl.size),fun b hb=>?_,Nat.le_trans h.zle hk.size⟩
 ·rcases hX g hx with h' | h'
  ·exact n g hg h'
  ·have:=(o.blockG hg).2;omega
 ·rcases hX b hb with h' | h'
  ·exact h.xge b h'
  ·have:=h.zle;omega
theorem BoxX.step {W1 wv:World} {v vv:Value} {x:α} (h:BoxX e k cells w L Z xs X W) (hc:W.cell? ⟨L,0,none⟩=some v) (hf:W.frozen? ⟨L,0,none⟩=false) (ho:Own W Z e k cells v xs) (hn:∀g,v.ownBlock=some g→¬X g) (hX':∀b,X' b→X b) (hXlt:∀b,X b→b < W.heap.size)
 (hb:Below W.heap.size W W1) (hg:W1.grownBy wv v.ownBlock) (ho1:Own wv Z e k cells vv (xs ++ [x])) (hat:vv.ownBlock=v.ownBlock∨vv.ownBlock=some W1.heap.size) (hL:L < Z) (hw:w.heap.size≤L) :
 BoxX e k cells w L Z (xs ++ [x]) X' (wv.setCell ⟨L,0,none⟩ vv)∧Kept (fun b=>¬v.ownBlock=some b∧b≠L) W (wv.setCell ⟨L,0,none⟩ vv):=by
 have k1:Kept (fun b=>¬v.ownBlock=some b) W wv:=((Kept.all (fun _=>True) hb).mono fun _ _ _=>trivial).trans ((Kept.grown hg).mono fun b _ hb e=>hb e.symm)
 have hLv:¬v.ownBlock=some L:=fun e=>by have:=(ho.blockG e).1;omega
 have k2:Kept (fun b=>¬v.ownBlock=some b∧b≠L) W (wv.setCell ⟨L,0,none⟩ vv):=(k1.mono fun b _ h=>h.1).trans ((Kept.setCell wv ⟨L,0,none⟩ vv).mono fun b _ h=>h.2)
 have c1:wv.cell? ⟨L,0,none⟩=some v:=(k1.cell (p:=⟨L,0,none⟩) hLv h.lt).trans hc
 have f1:wv.frozen? ⟨L,0,none⟩=false:=(k1.frozen (p:=⟨L,0,none⟩) hLv h.lt).trans hf
 have hLvv:∀g,vv.ownBlock=some g→g≠L:=fun g hg=>by have:=(ho1.blockG hg).1;omega
 refine⟨⟨⟨vv,World.cell?_setCell_same' _ _ _ (by rw[c1];rfl),by rw[World.frozen?_setCell];exact f1,ho1.keptG (Kept.setCell wv ⟨L,0,none⟩ vv) hLvv,fun g hg hx=>?_⟩,Nat.lt_of_lt_of_le h.lt k2.size,h.bl.trans (k2.below (fun b hb=>⟨fun e=>by have:=(ho.blockG e).1;omega,by omega⟩) h.bl.size),fun b hb=>h.xge b (hX' b hb),Nat.le_trans h.zle k2.size⟩,k2⟩
 rcases hat with h' | h'
 ·exact hn g (h'.symm.trans hg) (hX' g hx)
 ·rw[h'] at hg
  injection hg with hg
  have:=hXlt g (hX' g hx)
  have:=hb.size
  omega
end
end Go.Proofs.YtgfghffihjfbpaaGreatDoor
