/- lemmas for agentWrites_holds: Base. No conditions. -/
import Derived.WalkKit
import Derived.WalkSpells
import Derived.WalkLawsBesides
import Derived.Shelf.Abstract
import Derived.Deep.AppendLies
import Derived.Deep.Draws
import Derived.Deep.Onto
import Derived.Maps.AppendAt
import Derived.RegionTactic
import Derived.Laws.EntriesVeiled
import Derived.Laws.BitsAllLaws
import Derived.Laws.BitsLemmas
set_option linter.unusedVariables false
set_option linter.unusedSimpArgs false
namespace Go.Proofs.YtgfghffihjfbpaaGreatDoor
open Go.RowKit Go.Shelf
theorem hide {p:Prop} (h:p):Hid p:=h
structure Sp where
 lo:Int
 hi:Int
 deriving DecidableEq
def Sp.cells (s:Sp):List Value:=[.int .i64 s.lo,.int .i64 s.hi]
structure Rc where
 cap:Sp
 leak:Sp
 gain:Sp
 deriving DecidableEq
def Rc.cells (r:Rc):List Value:=[.int .i64 r.cap.lo,.int .i64 r.cap.hi,.int .i64 r.leak.lo,.int .i64 r.leak.hi,.int .i64 r.gain.lo,.int .i64 r.gain.hi]
structure Ga where
 shaft:Int
 flow:Sp
 deriving DecidableEq
def Ga.cells (g:Ga):List Value:=[.int .i64 g.shaft,.int .i64 g.flow.lo,.int .i64 g.flow.hi]
structure Yr where
 fell:Sp
 weight:Int
 deriving DecidableEq
def Yr.cells (y:Yr):List Value:=[.int .i64 y.fell.lo,.int .i64 y.fell.hi,.int .i64 y.weight]
def icell (n:Int):List Value:=[.int .i64 n]
theorem Sp.len (s:Sp):s.cells.length=2:=rfl
theorem Rc.len (r:Rc):r.cells.length=6:=rfl
theorem Ga.len (g:Ga):g.cells.length=3:=rfl
theorem Yr.len (y:Yr):y.cells.length=3:=rfl
theorem icell_len (n:Int):(icell n).length=1:=rfl
theorem Sp.one (s:Sp):∀u∈s.cells,u.oneCell'=true:=by simp[Sp.cells,Value.oneCell']
theorem Rc.one (s:Rc):∀u∈s.cells,u.oneCell'=true:=by simp[Rc.cells,Value.oneCell']
theorem Ga.one (s:Ga):∀u∈s.cells,u.oneCell'=true:=by simp[Ga.cells,Value.oneCell']
theorem Yr.one (s:Yr):∀u∈s.cells,u.oneCell'=true:=by simp[Yr.cells,Value.oneCell']
theorem icell_one (n:Int):∀u∈icell n,u.oneCell'=true:=by simp[icell,Value.oneCell']
section
variable {α:Type} {cells:α→List Value} {k:Nat}
theorem flat_len (hk:∀x,(cells x).length=k) (xs:List α):(xs.flatMap cells).length=xs.length*k:=by
 induction xs with
 | nil=>simp
 | cons x xs ih=>simp[hk,ih,Nat.add_mul,Nat.add_comm]
theorem flat_get (hk:∀x,(cells x).length=k) {xs:List α} {i:Nat} {x:α} (hx:xs[i]?=some x) {j:Nat} (hj:j < k):(xs.flatMap cells)[i*k+j]?=(cells x)[j]?:=by
 induction xs generalizing i with
 | nil=>simp at hx
 | cons y ys ih =>
   cases i with
   | zero =>
     simp at hx
     subst hx
     simp only[List.flatMap_cons,Nat.zero_mul,Nat.zero_add]
     rw[List.getElem?_append_left (by rw[hk];exact hj)]
   | succ i =>
     simp only[List.getElem?_cons_succ] at hx
     simp only[List.flatMap_cons]
     rw[List.getElem?_append_right (by rw[hk,Nat.add_mul];omega),hk,show(i+1)*k+j-k=i*k+j by rw[Nat.add_mul];omega]
     exact ih hx
theorem flat_one (h1:∀x,∀u∈cells x,u.oneCell'=true) (xs:List α):∀u∈xs.flatMap cells,u.oneCell'=true:=by
 intro u hu
 obtain⟨x,_,h⟩:=List.mem_flatMap.1 hu
 exact h1 x u h
end
def Rd {α:Type} (w:World) (B:Nat) (cells:α→List Value) (A:Option Addr) (xs:List α):Prop:=
 0 < xs.length→∃b off,A=some ⟨b,off,none⟩∧b < B∧∀(j:Nat) (v:Value),(xs.flatMap cells)[j]?=some v→w.cell? ⟨b,off+j,none⟩=some v
section
variable {α:Type} {cells:α→List Value} {w w':World} {B B':Nat} {A:Option Addr} {xs:List α}
theorem Rd.nil (w:World) (B:Nat) (cells:α→List Value) (A:Option Addr):Rd w B cells A []:=fun h=>absurd h (by simp)
theorem Rd.keep (h:Rd w B cells A xs) (hk:∀p:Addr,p.block < B→w'.cell? p=w.cell? p):Rd w' B cells A xs:=fun hn=>by
 obtain⟨b,off,e,hB,hc⟩:=h hn
 exact⟨b,off,e,hB,fun j v hv=>(hk ⟨b,off+j,none⟩ hB).trans (hc j v hv)⟩
theorem Rd.more (h:Rd w B cells A xs) (hB:B≤B'):Rd w B' cells A xs:=fun hn=>by
 obtain⟨b,off,e,hb,hc⟩:=h hn
 exact⟨b,off,e,by omega,hc⟩
theorem Rd.below (h:Rd w B cells A xs) (hb:Below B w w'):Rd w' B cells A xs:=h.keep fun _ hp=>hb.cell hp
theorem Rd.sp {A:Option Addr} {xs:List Sp} (h:Rd w B Sp.cells A xs) {i:Nat} (hi:i < xs.length) :
 ∃b off lo hi,A=some ⟨b,off,none⟩∧b < B∧xs[i]?=some ⟨lo,hi⟩∧w.cell? ⟨b,off+i*2,none⟩=some (.int .i64 lo)∧w.cell? ⟨b,off+i*2+1,none⟩=some (.int .i64 hi):=by
 obtain⟨b,off,e,hB,hc⟩:=h (by omega)
 have hx:xs[i]?=some xs[i]:=List.getElem?_eq_getElem hi
 exact⟨b,off,xs[i].lo,xs[i].hi,e,hB,hx,hc _ _ (flat_get Sp.len hx (j:=0) (by omega)),hc _ _ (flat_get Sp.len hx (j:=1) (by omega))⟩
theorem Rd.int {A:Option Addr} {xs:List Int} (h:Rd w B icell A xs) {i:Nat} (hi:i < xs.length) :
 ∃b off n,A=some ⟨b,off,none⟩∧b < B∧xs[i]?=some n∧w.cell? ⟨b,off+i,none⟩=some (.int .i64 n):=by
 obtain⟨b,off,e,hB,hc⟩:=h (by omega)
 have hx:xs[i]?=some xs[i]:=List.getElem?_eq_getElem hi
 refine⟨b,off,_,e,hB,hx,?_⟩
 have:=flat_get icell_len hx (j:=0) (by omega)
 simp only[Nat.mul_one,Nat.add_zero] at this
 exact hc _ _ this
end
def Own {α:Type} (w:World) (base:Nat) (e:TypeId) (k:Nat) (cells:α→List Value) (v:Value) (xs:List α):Prop:=w.ownsRow base e k v xs.length (xs.flatMap cells)
section
variable {α:Type} {cells:α→List Value} {w w':World} {base:Nat} {e:TypeId} {k:Nat} {v:Value} {xs ys:List α}
theorem Own.nil (w:World) (base:Nat) (e:TypeId) (k:Nat) (cells:α→List Value):Own w base e k cells (.slice none 0 0) []:=World.ownsRow_nil w base e k
theorem Own.rd (h:Own w base e k cells v xs):∃A c,v= .slice A xs.length c∧Rd w w.heap.size cells A xs:=by
 have h':=h
 obtain⟨hl,hn | ⟨g,cap,cur,rfl,hb,hg,hnc,hcm,hcs,ht⟩⟩:=h
 ·refine⟨none,0,?_,fun h0=>absurd h0 (by have:=hn.2;omega)⟩
  rw[hn.1,hn.2]
 ·refine⟨some ⟨g,0,none⟩,cap,rfl,fun _=>⟨g,0,rfl,(Array.getElem?_eq_some_iff.1 hg).1,fun j u hu=>?_⟩⟩
  have:=h'.cells (g:=g) rfl j u hu
  have hadd:(⟨g,0,none⟩:Addr).add j=⟨g,0+j,none⟩:=by unfold Addr.add;split <;> simp_all
  rwa [hadd] at this
theorem Own.block_ (h:Own w base e k cells v xs):v.ownBlock=none∨∃g,v.ownBlock=some g∧base≤g∧g < w.heap.size:=by
 cases hv:v.ownBlock with
 | none=>exact .inl rfl
 | some g=>exact .inr ⟨g,rfl,(World.ownsRow.lt h g hv).1,(World.ownsRow.lt h g hv).2⟩
theorem Own.alloc (h:Own w base e k cells v xs) (o:Obj):Own (w.alloc o) base e k cells v xs:=World.ownsRow.alloc h o
theorem Own.kept {row:Option Nat} (h:Own w base e k cells v xs) (hg:w.grownBy w' row) (hne:v.ownBlock=none∨v.ownBlock≠row):Own w' base e k cells v xs:=World.ownsRow.kept h hg hne
theorem Own.below (h:Own w base e k cells v xs) (hb:Below w.heap.size w w'):Own w' base e k cells v xs:=
 h.kept (row:=none) ⟨hb.os,hb.tape,hb.output,hb.size,fun i hi _=>hb.block i hi⟩ (by cases v.ownBlock <;> simp)
theorem Own.setCell (h:Own w base e k cells v xs) {p:Addr} (hp:v.ownBlock≠some p.block) (u:Value):Own (w.setCell p u) base e k cells v xs:=
 h.kept (row:=some p.block) ⟨rfl,rfl,rfl,by simp[World.setCell],fun i _ hne=>Below.heap_setCell w p u i (fun e=>hne (by rw[e]))⟩ (.inr hp)
theorem below_own (h:Own w base e k cells v xs) {a:World} (hb:Below base a w) (hg:w.grownBy w' v.ownBlock) (hs:base≤w.heap.size):Below base a w':=
 hb.grown hg hs (fun g hv=>(World.ownsRow.lt h g hv).1)
end
theorem cell_new (w:World) (cs:Array Value) (t:TypeId) (j:Nat) (v:Value) (h:cs[j]?=some v):(w.alloc (.cells cs t)).cell? ⟨w.heap.size,j,none⟩=some v:=by
 rw[cell_of_row _ w.heap.size j cs t (0,0) (heap_alloc_new w _)]
 exact h
theorem below_new (w:World) (o:Obj):Below w.heap.size w (w.alloc o):=(Below.refl _ _).alloc (Nat.le_refl _) _
theorem Rd.new {α:Type} {cells:α→List Value} (w:World) (cs:Array Value) (t:TypeId) (xs:List α) (h:cs.toList=xs.flatMap cells):Rd (w.alloc (.cells cs t)) (w.heap.size+1) cells (some ⟨w.heap.size,0,none⟩) xs:=
 fun _=>⟨w.heap.size,0,rfl,by omega,fun j v hv=>by
  rw[Nat.zero_add]
  exact cell_new w cs t j v (by rw[←h] at hv;simpa using hv)⟩
theorem ret_bool {a b:Bool} (h:a=b):Ending.returned (.bool a)= .returned (.bool b):=by rw[h]
theorem Rd.drewN {α:Type} {cells:α→List Value} {w:World} {B:Nat} {A:Option Addr} {xs:List α} (h:Rd w B cells A xs) (n:Nat):Rd (w.drewN n) B cells A xs:=h
theorem Own.mono {α:Type} {cells:α→List Value} {w:World} {base base':Nat} {e:TypeId} {k:Nat} {v:Value} {xs:List α} (h:Own w base e k cells v xs) (hb:base'≤base):Own w base' e k cells v xs:=World.ownsRow.mono h hb
def At (w:World) (p:Nat) (cs:List Value):Prop:=p < w.heap.size∧∀(j:Nat) (v:Value),cs[j]?=some v→w.cell? ⟨p,j,none⟩=some v
section
variable {w w':World} {p:Nat} {cs:List Value}
theorem At.below (h:At w p cs) (hb:Below w.heap.size w w'):At w' p cs:=⟨Nat.lt_of_lt_of_le h.1 hb.size,fun j v hv=>(hb.cell (p:=⟨p,j,none⟩) h.1).trans (h.2 j v hv)⟩
theorem At.alloc (h:At w p cs) (o:Obj):At (w.alloc o) p cs:=h.below (below_new w o)
theorem At.new (w:World) (cs:Array Value) (t:TypeId) (q:Nat) (hq:q=w.heap.size) (l:List Value) (hl:cs.toList=l):At (w.alloc (.cells cs t)) q l:=by
 subst hq hl
 exact⟨by simp,fun j v hv=>cell_new w cs t j v (by simpa using hv)⟩
theorem At.c1 {v0:Value} (h:At w p [v0]):w.cell? ⟨p,0,none⟩=some v0:=h.2 0 _ rfl
theorem At.c2 {v0 v1:Value} (h:At w p [v0,v1]):w.cell? ⟨p,0,none⟩=some v0∧w.cell? ⟨p,1,none⟩=some v1:=⟨h.2 0 _ rfl,h.2 1 _ rfl⟩
theorem At.c3 {v0 v1 v2:Value} (h:At w p [v0,v1,v2]):w.cell? ⟨p,0,none⟩=some v0∧w.cell? ⟨p,1,none⟩=some v1∧w.cell? ⟨p,2,none⟩=some v2:=⟨h.2 0 _ rfl,h.2 1 _ rfl,h.2 2 _ rfl⟩
theorem At.c4 {v0 v1 v2 v3:Value} (h:At w p [v0,v1,v2,v3]):w.cell? ⟨p,0,none⟩=some v0∧w.cell? ⟨p,1,none⟩=some v1∧w.cell? ⟨p,2,none⟩=some v2∧w.cell? ⟨p,3,none⟩=some v3:=⟨h.2 0 _ rfl,h.2 1 _ rfl,h.2 2 _ rfl,h.2 3 _ rfl⟩
end
section
variable {α:Type} {p:α→Bool} {xs:List α} {k:Nat} {x:α}
theorem any_hit (hx:xs[k]?=some x) (h:p x=true):xs.any p=true:=List.any_eq_true.2 ⟨x,List.mem_of_getElem? hx,h⟩
theorem pre_nil:∀y∈xs.take 0,p y=false:=by simp
theorem pre_snoc (hx:xs[k]?=some x) (h:p x=false) (hp:∀y∈xs.take k,p y=false):∀y∈xs.take (k+1),p y=false:=by
 intro y hy
 rw[List.take_add_one,hx] at hy
 simp at hy
 rcases hy with hy | rfl
 ·exact hp y hy
 ·exact h
theorem any_miss (hk:xs.length≤k) (hp:∀y∈xs.take k,p y=false):xs.any p=false:=by
 rw[List.take_of_length_le hk] at hp
 rw[Bool.eq_false_iff]
 intro h
 obtain⟨y,hy,hpy⟩:=List.any_eq_true.1 h
 rw[hp y hy] at hpy
 cases hpy
theorem take_snoc (hx:xs[k]?=some x):xs.take (k+1)=xs.take k ++ [x]:=by
 rw[List.take_add_one,hx];rfl
end
end Go.Proofs.YtgfghffihjfbpaaGreatDoor
