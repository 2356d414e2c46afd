/- lemmas for agentWrites_holds: AG6. No conditions. -/
import Derived.Test.YtgfghffihjfbpaaGreatDoorK10
import Derived.Test.YtgfghffihjfbpaaGreatDoorK11
set_option linter.unusedVariables false
set_option linter.unusedSimpArgs false
namespace Go.Proofs.YtgfghffihjfbpaaGreatDoor
open Go.RowKit Go.Shelf
structure Kid where
 A:Option Addr
 n:Nat
 c:Nat
 xs:List Int
def Kid.cells (k:Kid):List Value:=[.slice k.A k.n k.c]
theorem Kid.len (k:Kid):k.cells.length=1:=rfl
theorem Kid.one (k:Kid):∀u∈k.cells,u.oneCell'=true:=by simp[Kid.cells,Value.oneCell']
structure KidOk (w:World) (Z:Nat→Prop) (k:Kid):Prop where
 n:k.n=k.xs.length
 at_:∃b,k.A=some ⟨b,0,none⟩∧b < w.heap.size∧Z b
 rd:Rd w w.heap.size icell k.A k.xs
section
variable {w w':World} {Z Z' R:Nat→Prop} {k:Kid}
theorem KidOk.mono (h:KidOk w Z k) (hz:∀b,b < w.heap.size→Z b→Z' b):KidOk w Z' k:=by
 obtain⟨b,h1,h2,h3⟩:=h.at_
 exact⟨h.n,⟨b,h1,h2,hz b h2 h3⟩,h.rd⟩
theorem KidOk.kept (h:KidOk w Z k) (hk:Kept R w w') (hr:∀b,Z b→R b):KidOk w' Z k:=by
 obtain⟨b,h1,h2,h3⟩:=h.at_
 refine⟨h.n,⟨b,h1,Nat.lt_of_lt_of_le h2 hk.size,h3⟩,?_⟩
 intro hp
 obtain⟨b',off,e1,_,hc⟩:=h.rd hp
 rw[h1] at e1
 injection e1 with e1
 injection e1 with e1 e2 _
 subst e1 e2
 exact⟨b,0,h1,Nat.lt_of_lt_of_le h2 hk.size,fun j u hu=>(hk.cell (p:=⟨b,0+j,none⟩) (hr b h3) h2).trans (hc j u hu)⟩
theorem KidOk.bel (h:KidOk w Z k) (hb:Below w.heap.size w w'):KidOk w' Z k:=h.kept (Kept.all (fun _=>True) hb) (fun _ _=>trivial)
theorem KidOk.of_own {base:Nat} {e:TypeId} {v:Value} {xs:List Int} (h:Own w base e 1 icell v xs) (h0:xs≠[]):∃k:Kid,v= .slice k.A k.n k.c∧k.xs=xs∧KidOk w (fun b=>base≤b) k:=by
 obtain⟨A,c,rfl,hr⟩:=h.rdn xs.length rfl
 refine⟨⟨A,xs.length,c,xs⟩,rfl,rfl,rfl,?_,hr⟩
 obtain⟨b,off,e1,e2,_⟩:=hr (by cases xs with | nil=>exact absurd rfl h0 | cons _ _=>simp)
 have hbk:=h.blockG (g:=b) (by rw[e1];rfl)
 rcases h.2 with⟨h1,_⟩ | ⟨g,cap,cur,h1,_⟩
 ·rw[e1] at h1;cases h1
 ·injection h1 with h1 _ _
  rw[e1] at h1
  injection h1 with h1
  injection h1 with _ h2 _
  subst h2
  exact⟨b,e1,e2,hbk.1⟩
end
structure Hang {α:Type} (w:World) (base:Nat) (e:TypeId) (k:Nat) (cells:α→List Value) (kid:α→Kid) (v:Value) (rs:List α):Prop where
 own:Own w base e k cells v rs
 kids:∀r∈rs,KidOk w (fun b=>base≤b∧¬v.ownBlock=some b) (kid r)
section
variable {α:Type} {w w':World} {base:Nat} {e:TypeId} {k:Nat} {cells:α→List Value} {kid:α→Kid} {v:Value} {rs:List α}
theorem Hang.nil (w:World) (base:Nat) (e:TypeId) (k:Nat) (cells:α→List Value) (kid:α→Kid):Hang w base e k cells kid (.slice none 0 0) []:=⟨Own.nil _ _ _ _ _,by simp⟩
theorem Hang.bel (h:Hang w base e k cells kid v rs) (hb:Below w.heap.size w w'):Hang w' base e k cells kid v rs:=⟨h.own.bel hb,fun r hr=>(h.kids r hr).bel hb⟩
theorem Hang.mono {b':Nat} (h:Hang w base e k cells kid v rs) (hb:b'≤base):Hang w b' e k cells kid v rs:=⟨h.own.mono hb,fun r hr=>(h.kids r hr).mono fun _ _ hz=>⟨Nat.le_trans hb hz.1,hz.2⟩⟩
theorem Hang.snoc {wl wv:World} {q:α} {v':Value} (h:Hang w base e k cells kid v rs) (hb:Below w.heap.size w wl) (hbs:base≤w.heap.size) (hq:KidOk wl (fun b=>w.heap.size≤b) (kid q)) {o:Obj}
 (hg:(wl.alloc o).grownBy wv v.ownBlock) (ho:Own wv base e k cells v' (rs ++ [q])) (hv:v'.ownBlock=v.ownBlock∨v'.ownBlock=some (wl.alloc o).heap.size):Hang wv base e k cells kid v' (rs ++ [q])∧Below base w wv:=by
 have hbl:∀g,v.ownBlock=some g→base≤g∧g < w.heap.size:=fun g hg=>h.own.blockG hg
 have K:Kept (fun b=>¬v.ownBlock=some b) wl wv:=(Kept.alloc _ wl o).trans ((Kept.grown hg).mono fun b _ hb e=>hb e.symm)
 have hz:(wl.alloc o).heap.size=wl.heap.size+1:=by simp
 refine⟨⟨ho,fun r hr=>?_⟩,(hb.mono hbs).trans (K.below (fun b hb e=>by have:=(hbl b e).1;omega) (Nat.le_trans hbs hb.size))⟩
 have new:∀b,b < wl.heap.size→¬v.ownBlock=some b→¬v'.ownBlock=some b:=fun b hb1 hb2 e=>by
  rcases hv with h1 | h1
  ·rw[h1] at e;exact hb2 e
  ·rw[h1] at e;injection e with e;omega
 rcases List.mem_append.1 hr with hr | hr
 ·have h1:=(h.kids r hr).bel hb
  refine(h1.mono (Z':=fun b=>(base≤b∧¬v.ownBlock=some b)∧b < wl.heap.size) fun b hb1 hb2=>⟨hb2,hb1⟩).kept K (fun b hb=>hb.1.2) |>.mono fun b _ hb=>⟨hb.1.1,new b hb.2 hb.1.2⟩
 ·obtain rfl:=List.mem_singleton.1 hr
  have h2:∀b,w.heap.size≤b→¬v.ownBlock=some b:=fun b hb1 e=>by have:=(hbl b e).2;omega
  refine(hq.mono (Z':=fun b=>w.heap.size≤b∧b < wl.heap.size) fun b hb1 hb2=>⟨hb2,hb1⟩).kept K (fun b hb=>h2 b hb.1) |>.mono fun b _ hb=>⟨by omega,new b hb.2 (h2 b hb.1)⟩
end
end Go.Proofs.YtgfghffihjfbpaaGreatDoor
