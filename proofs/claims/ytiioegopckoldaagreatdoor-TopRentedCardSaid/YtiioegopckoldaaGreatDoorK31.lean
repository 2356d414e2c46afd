/- lemmas for topRented_holds: QCW. No conditions. -/
import Derived.Test.YtiioegopckoldaaGreatDoorK30
import Derived.Laws.Sem
import Derived.AtR
import Derived.Below
set_option linter.unusedVariables false
set_option linter.unusedSimpArgs false
namespace Go.Proofs.YtiioegopckoldaaGreatDoor.CV
open Go Go.RowKit
theorem half_cases (j:Nat):(j % 2=0∧j=2*(j / 2))∨(j % 2=1∧j=2*(j / 2)+1):=by omega
section
variable {α:Type}
theorem Tr.get_nil (k:Nat):(Tr.nil:Tr α).get k=none:=rfl
theorem Tr.get_zero (l r:Tr α) (v:Option α):(Tr.node l v r).get 0=v:=rfl
theorem Tr.get_succ (l r:Tr α) (v:Option α) (j:Nat):(Tr.node l v r).get (j+1)=if j % 2=0 then l.get (j / 2) else r.get (j / 2):=by
 show(Nat.rec (motive:=fun _=>Option α) (l.get (j / 2)) (fun _ _=>r.get (j / 2)) (j % 2):Option α)=_
 rcases half_cases j with⟨h,_⟩ | ⟨h,_⟩ <;> rw[h] <;> rfl
theorem Tr.setK_nilS {β:Type} (d j:Nat) (v:α) (K:Tr α→β):Tr.setK (d+1) .nil (j+1) v K=if j % 2=0 then Tr.setK d .nil (j / 2) v fun l=>K (.node l none .nil) else Tr.setK d .nil (j / 2) v fun r=>K (.node .nil none r):=by
 show(Nat.rec (motive:=fun _=>β) (Tr.setK d .nil (j / 2) v fun l=>K (.node l none .nil)) (fun _ _=>Tr.setK d .nil (j / 2) v fun r=>K (.node .nil none r)) (j % 2):β)=_
 rcases half_cases j with⟨h,_⟩ | ⟨h,_⟩ <;> rw[h] <;> rfl
theorem Tr.setK_nodeS {β:Type} (d j:Nat) (l r:Tr α) (x:Option α) (v:α) (K:Tr α→β):Tr.setK (d+1) (.node l x r) (j+1) v K=if j % 2=0 then Tr.setK d l (j / 2) v fun l=>K (.node l x r) else Tr.setK d r (j / 2) v fun r=>K (.node l x r):=by
 show(Nat.rec (motive:=fun _=>β) (Tr.setK d l (j / 2) v fun l=>K (.node l x r)) (fun _ _=>Tr.setK d r (j / 2) v fun r=>K (.node l x r)) (j % 2):β)=_
 rcases half_cases j with⟨h,_⟩ | ⟨h,_⟩ <;> rw[h] <;> rfl
theorem setK_spec:∀(d:Nat) (t:Tr α) (k:Nat) (v:α),∃t':Tr α,(∀(β:Type) (K:Tr α→β),Tr.setK d t k v K=K t')∧
 ∀j x,t'.get j=some x→(j=k→x=v)∧(j≠k→t.get j=some x):=by
 intro d
 induction d with
 | zero=>exact fun t k v=>⟨.nil,fun _ _=>rfl,fun j x h=>by simp[Tr.get_nil,Tr.get_zero] at h⟩
 | succ d ih =>
   intro t k v
   cases t with
   | nil =>
     cases k with
     | zero=>exact⟨.node .nil (some v) .nil,fun _ _=>rfl,fun j x h=>by
      cases j with
      | zero=>simp[Tr.get_nil,Tr.get_zero] at h;exact⟨fun _=>h.symm,fun hn=>absurd rfl hn⟩
      | succ j=>rw[Tr.get_succ] at h;simp[Tr.get_nil,Tr.get_zero] at h⟩
     | succ k =>
       obtain⟨t',h1,h2⟩:=ih .nil (k / 2) v
       rcases half_cases k with⟨hk,hk'⟩ | ⟨hk,hk'⟩
       ·refine⟨.node t' none .nil,fun β K=>?_,fun j x h=>?_⟩
        ·simp only[Tr.setK_nilS,Tr.setK_nodeS,hk,if_true,Nat.one_ne_zero,if_false];exact h1 β _
        ·cases j with
         | zero=>simp[Tr.get_nil,Tr.get_zero] at h
         | succ j =>
           rw[Tr.get_succ] at h
           rcases half_cases j with⟨hj,hj'⟩ | ⟨hj,hj'⟩ <;> simp[hj,Tr.get_nil,Tr.get_zero] at h
           have:=h2 _ _ h
           refine⟨fun e=>this.1 (by omega),fun e=>?_⟩
           have:=this.2 (by omega);simp[Tr.get_nil,Tr.get_zero] at this
       ·refine⟨.node .nil none t',fun β K=>?_,fun j x h=>?_⟩
        ·simp only[Tr.setK_nilS,Tr.setK_nodeS,hk,if_true,Nat.one_ne_zero,if_false];exact h1 β _
        ·cases j with
         | zero=>simp[Tr.get_nil,Tr.get_zero] at h
         | succ j =>
           rw[Tr.get_succ] at h
           rcases half_cases j with⟨hj,hj'⟩ | ⟨hj,hj'⟩ <;> simp[hj,Tr.get_nil,Tr.get_zero] at h
           have:=h2 _ _ h
           refine⟨fun e=>this.1 (by omega),fun e=>?_⟩
           have:=this.2 (by omega);simp[Tr.get_nil,Tr.get_zero] at this
   | node l y r =>
     cases k with
     | zero=>exact⟨.node l (some v) r,fun _ _=>rfl,fun j x h=>by
      cases j with
      | zero=>simp[Tr.get_nil,Tr.get_zero] at h;exact⟨fun _=>h.symm,fun hn=>absurd rfl hn⟩
      | succ j=>rw[Tr.get_succ] at h;exact⟨fun e=>by omega,fun _=>by rw[Tr.get_succ];exact h⟩⟩
     | succ k =>
       rcases half_cases k with⟨hk,hk'⟩ | ⟨hk,hk'⟩
       ·obtain⟨t',h1,h2⟩:=ih l (k / 2) v
        refine⟨.node t' y r,fun β K=>?_,fun j x h=>?_⟩
        ·simp only[Tr.setK_nilS,Tr.setK_nodeS,hk,if_true,Nat.one_ne_zero,if_false];exact h1 β _
        ·cases j with
         | zero=>exact⟨fun e=>by omega,fun _=>by simpa[Tr.get_nil,Tr.get_zero] using h⟩
         | succ j =>
           rw[Tr.get_succ] at h ⊢
           rcases half_cases j with⟨hj,hj'⟩ | ⟨hj,hj'⟩ <;> simp only[hj,if_true] at h ⊢
           ·have:=h2 _ _ h
            exact⟨fun e=>this.1 (by omega),fun e=>this.2 (by omega)⟩
           ·exact⟨fun e=>by omega,fun _=>h⟩
       ·obtain⟨t',h1,h2⟩:=ih r (k / 2) v
        refine⟨.node l y t',fun β K=>?_,fun j x h=>?_⟩
        ·simp only[Tr.setK_nilS,Tr.setK_nodeS,hk,if_true,Nat.one_ne_zero,if_false];exact h1 β _
        ·cases j with
         | zero=>exact⟨fun e=>by omega,fun _=>by simpa[Tr.get_nil,Tr.get_zero] using h⟩
         | succ j =>
           rw[Tr.get_succ] at h ⊢
           rcases half_cases j with⟨hj,hj'⟩ | ⟨hj,hj'⟩ <;> simp only[hj,if_true] at h ⊢
           ·exact⟨fun e=>by omega,fun _=>h⟩
           ·have:=h2 _ _ h
            exact⟨fun e=>this.1 (by omega),fun e=>this.2 (by omega)⟩
theorem delK_spec:∀(t:Tr α) (k:Nat),∃t':Tr α,(∀(β:Type) (K:Tr α→β),t.delK k K=K t')∧
 ∀j x,t'.get j=some x→j≠k∧t.get j=some x:=by
 intro t
 induction t with
 | nil=>exact fun k=>⟨.nil,fun _ _=>rfl,fun j x h=>by simp[Tr.get_nil,Tr.get_zero] at h⟩
 | node l y r ihl ihr =>
   intro k
   cases k with
   | zero=>exact⟨.node l none r,fun _ _=>rfl,fun j x h=>by
    cases j with
    | zero=>simp[Tr.get_nil,Tr.get_zero] at h
    | succ j=>rw[Tr.get_succ] at h;exact⟨by omega,by rw[Tr.get_succ];exact h⟩⟩
   | succ k =>
     rcases half_cases k with⟨hk,hk'⟩ | ⟨hk,hk'⟩
     ·obtain⟨t',h1,h2⟩:=ihl (k / 2)
      refine⟨.node t' y r,fun β K=>?_,fun j x h=>?_⟩
      ·simp only[Tr.delK,hk];exact h1 β _
      ·cases j with
       | zero=>exact⟨by omega,by simpa[Tr.get_nil,Tr.get_zero] using h⟩
       | succ j =>
         rw[Tr.get_succ] at h ⊢
         rcases half_cases j with⟨hj,hj'⟩ | ⟨hj,hj'⟩ <;> simp only[hj,if_true] at h ⊢
         ·have:=h2 _ _ h
          exact⟨by omega,this.2⟩
         ·exact⟨by omega,h⟩
     ·obtain⟨t',h1,h2⟩:=ihr (k / 2)
      refine⟨.node l y t',fun β K=>?_,fun j x h=>?_⟩
      ·simp only[Tr.delK,hk];exact h1 β _
      ·cases j with
       | zero=>exact⟨by omega,by simpa[Tr.get_nil,Tr.get_zero] using h⟩
       | succ j =>
         rw[Tr.get_succ] at h ⊢
         rcases half_cases j with⟨hj,hj'⟩ | ⟨hj,hj'⟩ <;> simp only[hj,if_true] at h ⊢
         ·exact⟨by omega,h⟩
         ·have:=h2 _ _ h
          exact⟨by omega,this.2⟩
theorem evens_get:∀(l:List α) (i:Nat),(evens l)[i]?=l[2*i]?
 | [],i=>by simp[evens]
 | [x],i=>by cases i <;> simp[evens]
 | x :: y :: l, i => by
   cases i with
   | zero=>simp[evens]
   | succ i=>simp only[evens,List.getElem?_cons_succ,evens_get l i,show 2*(i+1)=2*i+1+1 by omega]
theorem ofList_get:∀(n:Nat) (l:List α) (i:Nat) (v:α),(Tr.ofList n l).get i=some v→l[i]?=some v:=by
 intro n
 induction n with
 | zero=>intro l i v h;simp[Tr.ofList,Tr.get_nil,Tr.get_zero] at h
 | succ n ih =>
   intro l i v h
   cases l with
   | nil=>simp[Tr.ofList,Tr.get_nil,Tr.get_zero] at h
   | cons x xs =>
     simp only[Tr.ofList] at h
     cases i with
     | zero=>simpa[Tr.get_nil,Tr.get_zero] using h
     | succ j =>
       rw[Tr.get_succ] at h
       rcases half_cases j with⟨hj,hj'⟩ | ⟨hj,hj'⟩ <;> simp only[hj,if_true] at h
       ·have:=ih _ _ _ h
        rw[evens_get] at this
        rw[List.getElem?_cons_succ,hj'];exact this
       ·have h:(Tr.ofList n (evens xs.tail)).get (j / 2)=some v:=by simpa using h
        have:=ih _ _ _ h
        rw[evens_get,List.getElem?_tail] at this
        rw[List.getElem?_cons_succ,hj'];exact this
end
theorem natK_id {β:Type} (n:Nat) (K:Nat→β):natK n K=K n:=by cases n <;> rfl
theorem intK_id {β:Type} (n:Int) (K:Int→β):intK n K=K n:=by cases n <;> simp[intK,natK_id]
mutual
theorem forceV_id {β:Type}:∀(v:Value) (K:Value→β),forceV v K=K v
 | .int k n,K=>by simp[forceV,intK_id]
 | .bool b,K=>by cases b <;> simp[forceV]
 | .slice a l c, K => by
   cases a with
   | none=>simp[forceV,natK_id]
   | some a=>obtain⟨b,o,s⟩:=a;simp[forceV,natK_id]
 | .pointer none,K=>by simp[forceV]
 | .pointer (some ⟨b,o,s⟩),K=>by simp[forceV,natK_id]
 | .agg ⟨l⟩,K=>by simp only[forceV];exact forceL_id l _
 | .tuple ⟨l⟩,K=>by simp only[forceV];exact forceL_id l _
 | .float _ _,K=>by simp[forceV]
 | .complex _ _ _,K=>by simp[forceV]
 | .string _,K=>by simp[forceV]
 | .map _,K=>by simp[forceV]
 | .chan _,K=>by simp[forceV]
 | .func _ _ _,K=>by simp[forceV]
 | .nilFunc,K=>by simp[forceV]
 | .iface _ _,K=>by simp[forceV]
 | .nilIface,K=>by simp[forceV]
theorem forceL_id {β:Type}:∀(l:List Value) (K:List Value→β),forceL l K=K l
 | [],K=>by simp[forceL]
 | v :: l,K=>by simp only[forceL];rw[forceV_id v];exact forceL_id l _
end
theorem forceQ_id {β:Type} (v:Value) (K:Value→β):forceQ v K=K v:=by
 unfold forceQ
 split
 ·exact intK_id _ _
 ·split <;> rfl
 ·simp only[natK_id]
 ·exact forceV_id _ _
structure Plc where
 r:Nat
 sz:Nat
 es:Nat
abbrev Ren:=Nat→Option Plc
def Ren.le (ρ ρ':Ren):Prop:=∀b p,ρ b=some p→ρ' b=some p
theorem Ren.le.refl (ρ:Ren):ρ.le ρ:=fun _ _ h=>h
theorem Ren.le.trans {a b c:Ren} (h:a.le b) (k:b.le c):a.le c:=fun x p hx=>k x p (h x p hx)
inductive AR (ρ:Ren):Option Addr→Option Addr→Prop
 | none:AR ρ none none
 | some {b p o} (h:ρ b=some p):AR ρ (some ⟨b,o,none⟩) (some ⟨p.r,o,none⟩)
inductive MR (ρ:Ren):Option Nat→Option Nat→Prop
 | none:MR ρ none none
 | some {b p} (h:ρ b=some p):MR ρ (some b) (some p.r)
inductive FnR (ρ:Ren):Fn→Fn→Prop
 | func (f):FnR ρ (.func f) (.func f)
 | yield {b p} (h:ρ b=some p):FnR ρ (.yield b) (.yield p.r)
inductive CapR (ρ:Ren) (a:Option Addr):Nat→Nat→Prop
 | eq {c} (h:c < CAP):CapR ρ a c c
 | low {c c' b o s p} (h:CAP≤c) (hl:c-CAP≤c') (ha:a=some ⟨b,o,s⟩) (hp:ρ b=some p) (hs:o+c'*p.es≤p.sz):CapR ρ a c c'
inductive VRel (ρ:Ren):Value→Value→Prop
 | bool (b):VRel ρ (.bool b) (.bool b)
 | int (k n):VRel ρ (.int k n) (.int k n)
 | cap {m n:Nat} (h:m≤n):VRel ρ (.complex .f32 m 0) (.int .i64 n)
 | string (s):VRel ρ (.string s) (.string s)
 | ptr {a a'} (h:AR ρ a a'):VRel ρ (.pointer a) (.pointer a')
 | sl {a a' l c c'} (h:AR ρ a a') (hc:CapR ρ a c c'):VRel ρ (.slice a l c) (.slice a' l c')
 | map {r r'} (h:MR ρ r r'):VRel ρ (.map r) (.map r')
 | func {f f'} {a a' b b':Array Value} (h:FnR ρ f f') (ha:a.size=a'.size) (hA:∀(i:Nat) x y,a[i]?=some x→a'[i]?=some y→VRel ρ x y)
  (hb:b.size=b'.size) (hB:∀(i:Nat) x y,b[i]?=some x→b'[i]?=some y→VRel ρ x y):VRel ρ (.func f a b) (.func f' a' b')
 | nilFunc:VRel ρ .nilFunc .nilFunc
 | nilIface:VRel ρ .nilIface .nilIface
 | iface (t) {v v'} (h:VRel ρ v v'):VRel ρ (.iface t v) (.iface t v')
 | agg {a a':Array Value} (ha:a.size=a'.size) (hA:∀(i:Nat) x y,a[i]?=some x→a'[i]?=some y→VRel ρ x y):VRel ρ (.agg a) (.agg a')
 | tuple {a a':Array Value} (ha:a.size=a'.size) (hA:∀(i:Nat) x y,a[i]?=some x→a'[i]?=some y→VRel ρ x y):VRel ρ (.tuple a) (.tuple a')
section mono
variable {ρ ρ':Ren} (hle:ρ.le ρ')
include hle
theorem AR.mono {a a'} (h:AR ρ a a'):AR ρ' a a':=by cases h with | none=>exact .none | some h=>exact .some (hle _ _ h)
theorem MR.mono {a a'} (h:MR ρ a a'):MR ρ' a a':=by cases h with | none=>exact .none | some h=>exact .some (hle _ _ h)
theorem FnR.mono {a a'} (h:FnR ρ a a'):FnR ρ' a a':=by cases h with | func f=>exact .func f | yield h=>exact .yield (hle _ _ h)
theorem CapR.mono {a c c'} (h:CapR ρ a c c'):CapR ρ' a c c':=by
 cases h with | eq h=>exact .eq h | low h hl ha hp hs=>exact .low h hl ha (hle _ _ hp) hs
theorem VRel.mono {v v'} (h:VRel ρ v v'):VRel ρ' v v':=by
 induction h with
 | bool b=>exact .bool b
 | int k n=>exact .int k n
 | cap h=>exact .cap h
 | string s=>exact .string s
 | ptr h=>exact .ptr (h.mono hle)
 | sl h hc=>exact .sl (h.mono hle) (hc.mono hle)
 | map h=>exact .map (h.mono hle)
 | func h ha _ hb _ iA iB=>exact .func (h.mono hle) ha iA hb iB
 | nilFunc=>exact .nilFunc
 | nilIface=>exact .nilIface
 | iface t _ ih=>exact .iface t ih
 | agg ha _ ih=>exact .agg ha ih
 | tuple ha _ ih=>exact .tuple ha ih
end mono
def LR (ρ:Ren) (l l':List Value):Prop:=l.length=l'.length∧∀(i:Nat) x y,l[i]?=some x→l'[i]?=some y→VRel ρ x y
theorem LR.mono {ρ ρ':Ren} (hle:ρ.le ρ') {l l'} (h:LR ρ l l'):LR ρ' l l':=⟨h.1,fun i x y hx hy=>(h.2 i x y hx hy).mono hle⟩
theorem LR.nil (ρ:Ren):LR ρ [] []:=⟨rfl,fun i x y h=>by simp at h⟩
theorem LR.cons {ρ:Ren} {v v' l l'} (h:VRel ρ v v') (k:LR ρ l l'):LR ρ (v :: l) (v' :: l'):=
 ⟨by simp[k.1],fun i x y hx hy=>by
  cases i with
  | zero=>simp at hx hy;subst hx hy;exact h
  | succ i=>exact k.2 i x y (by simpa using hx) (by simpa using hy)⟩
theorem LR.of_cons {ρ:Ren} {v l l'} (h:LR ρ (v :: l) l'):∃v' m,l'=v' :: m∧VRel ρ v v'∧LR ρ l m:=by
 cases l' with
 | nil=>exact absurd h.1 (by simp)
 | cons v' m=>exact⟨v',m,rfl,h.2 0 _ _ rfl rfl,by simpa using h.1,fun i x y hx hy=>h.2 (i+1) x y (by simpa using hx) (by simpa using hy)⟩
theorem LR.of_nil {ρ:Ren} {l'} (h:LR ρ [] l'):l'=[]:=by cases l' with | nil=>rfl | cons _ _=>exact absurd h.1 (by simp)
theorem LR.append {ρ:Ren} {l l' m m'} (h:LR ρ l l') (k:LR ρ m m'):LR ρ (l ++ m) (l' ++ m'):=
 ⟨by simp[h.1,k.1],fun i x y hx hy=>by
  by_cases hi:i < l.length
  ·rw[List.getElem?_append_left hi] at hx;rw[List.getElem?_append_left (h.1 ▸ hi)] at hy;exact h.2 i x y hx hy
  ·rw[List.getElem?_append_right (by omega)] at hx;rw[List.getElem?_append_right (h.1 ▸ by omega)] at hy
   exact k.2 _ x y hx (h.1 ▸ hy)⟩
theorem LR.get {ρ:Ren} {l l'} (h:LR ρ l l') {i:Nat} {x} (hx:l[i]?=Option.some x):∃y,l'[i]?=Option.some y∧VRel ρ x y:=by
 have hi:i < l.length:=(List.getElem?_eq_some_iff.1 hx).1
 have:i < l'.length:=h.1 ▸ hi
 exact⟨l'[i],List.getElem?_eq_getElem this,h.2 i x _ hx (List.getElem?_eq_getElem this)⟩
theorem LR.agg {ρ:Ren} {a a':Array Value} (h:LR ρ a.toList a'.toList):VRel ρ (.agg a) (.agg a'):=
 .agg (by simpa using h.1) fun i x y hx hy=>h.2 i x y (by simpa using hx) (by simpa using hy)
theorem LR.tuple {ρ:Ren} {a a':Array Value} (h:LR ρ a.toList a'.toList):VRel ρ (.tuple a) (.tuple a'):=
 .tuple (by simpa using h.1) fun i x y hx hy=>h.2 i x y (by simpa using hx) (by simpa using hy)
theorem LR.of_arr {ρ:Ren} {a a':Array Value} (ha:a.size=a'.size) (hA:∀(i:Nat) x y,a[i]?=some x→a'[i]?=some y→VRel ρ x y):LR ρ a.toList a'.toList:=
 ⟨by simpa using ha,fun i x y hx hy=>hA i x y (by simpa using hx) (by simpa using hy)⟩
theorem VRel.undef {ρ:Ren}:VRel ρ undef undef:= .tuple rfl fun i x y h=>by simp at h
theorem okV_refl {ρ:Ren}:∀(n:Nat) (v:Value),okV n v=true→VRel ρ v v:=by
 intro n
 induction n with
 | zero=>intro v h;simp[okV] at h
 | succ n ih =>
   intro v h
   have hall:∀cs:Array Value,cs.toList.all (okV n)=true→∀(i:Nat) x y,cs[i]?=some x→cs[i]?=some y→VRel ρ x y:=fun cs hc i x y hx hy=>by
    rw[hx] at hy;injection hy with hy;subst hy
    exact ih x (List.all_eq_true.1 hc x (by have:=Array.mem_of_getElem? hx;simpa using this))
   cases v with
   | bool b=>exact .bool b
   | int k m=>exact .int k m
   | string s=>exact .string s
   | pointer a=>cases a with | none=>exact .ptr .none | some a=>simp[okV] at h
   | slice a l c =>
     cases a with
     | some a=>simp[okV] at h
     | none =>
       cases l <;> cases c <;> simp[okV] at h
       exact .sl .none (.eq (by decide))
   | map r=>cases r with | none=>exact .map .none | some a=>simp[okV] at h
   | nilFunc=>exact .nilFunc
   | nilIface=>exact .nilIface
   | iface t x=>exact .iface t (ih x (by simpa[okV] using h))
   | agg cs=>exact .agg rfl (hall cs (by simpa[okV] using h))
   | tuple cs=>exact .tuple rfl (hall cs (by simpa[okV] using h))
   | _=>simp[okV] at h
theorem okV_eq {ρ:Ren}:∀(n:Nat) (v v':Value),okV n v=true→VRel ρ v v'→v'=v:=by
 intro n
 induction n with
 | zero=>intro v v' h;simp[okV] at h
 | succ n ih =>
   intro v v' h hr
   have hall:∀cs cs':Array Value,cs.toList.all (okV n)=true→cs.size=cs'.size→(∀(i:Nat) x y,cs[i]?=some x→cs'[i]?=some y→VRel ρ x y)→cs'=cs:=fun cs cs' hc hs hA=>by
    refine(Array.ext hs ?_).symm
    intro i h1 h2
    exact(ih cs[i] cs'[i] (List.all_eq_true.1 hc _ (by simp)) (hA i _ _ (Array.getElem?_eq_getElem h1) (Array.getElem?_eq_getElem h2))).symm
   cases hr with
   | bool b=>rfl
   | int k m=>rfl
   | cap h'=>simp[okV] at h
   | string s=>rfl
   | ptr h'=>cases h' with | none=>rfl | some _=>simp[okV] at h
   | sl h' hc =>
     cases h' with
     | some _=>simp[okV] at h
     | none=>cases hc with | eq _=>rfl | low _ _ ha=>cases ha
   | map h'=>cases h' with | none=>rfl | some _=>simp[okV] at h
   | func=>simp[okV] at h
   | nilFunc=>rfl
   | nilIface=>rfl
   | iface t h'=>rw[ih _ _ (by simpa[okV] using h) h']
   | agg hs hA=>rw[hall _ _ (by simpa[okV] using h) hs hA]
   | tuple hs hA=>rw[hall _ _ (by simpa[okV] using h) hs hA]
end Go.Proofs.YtiioegopckoldaaGreatDoor.CV
