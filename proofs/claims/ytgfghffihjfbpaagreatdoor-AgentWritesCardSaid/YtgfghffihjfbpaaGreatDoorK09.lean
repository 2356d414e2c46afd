/- lemmas for agentWrites_holds: RegIn. No conditions. -/
import Derived.Test.YtgfghffihjfbpaaGreatDoorK07
import Derived.OrdersIn
import Derived.OrdersHeld
import Derived.Handy
set_option linter.unusedVariables false
set_option linter.unusedSimpArgs false
namespace Go.Proofs.YtgfghffihjfbpaaGreatDoor
open Go.RowKit Go.Shelf
theorem wrapI {x:Int} (h: -9223372036854775808≤x∧x≤9223372036854775807):IntKind.i64.wrap x=x:=by rw[IntKind.wrap_i64];omega
def slot (a:Act) (i:Nat):Value:=a.tmps.getD i undef
theorem act_eq {a:Act} {n:Nat} {ds:List Deferred} (hs:a.tmps.size=n) (hd:a.defers=ds):a={tmps:=((List.range n).map (slot a)).toArray,defers:=ds }:=by
 obtain⟨⟨l⟩,d⟩:=a
 simp only at hd
 subst hd
 congr 1
 simp only[List.size_toArray] at hs
 congr 1
 apply List.ext_getElem?
 intro i
 by_cases hi:i < n
 ·simp[slot,hi,hs]
 ·rw[List.getElem?_eq_none (by omega),List.getElem?_eq_none (by simp;omega)]
theorem wide_call {n:Nat} {P:Program} {f:FuncId} {args:Array Value} {w:World} {R:Ending→World→Prop} (h:Calls P f args w R):Fence.wide.fn f∧(Fence.wide.depth.isSome=true→1≤n)∧CallsIn Fence.wide (n-1) P f args w R:=
 ⟨trivial,fun h=>by simp[Fence.wide] at h,callsIn_wide.2 h⟩
section
variable {F:Fence} {n:Nat} {P:Program} {ops:Array Oper} {Q:Exit→Act→World→Prop} {S:World→Prop}
def Gives (P:Program) (ops:Array Oper) (S:World→Prop) (o:Oper) (v:Value) (a:Act):Prop:=
 (Region.wanted o (yielded ops a.tmps)=true∧∀w,S w→(execOp a.eval o).run P w= .ok (.value v) w)∨(Region.wanted o (yielded ops a.tmps)=false∧v=undef)
theorem Gives.same {o:Oper} {v:Value} {a a':Act} (h:Gives P ops S o v a) (he:execOp a'.eval o=execOp a.eval o) (hw:Region.wanted o (yielded ops a'.tmps)=Region.wanted o (yielded ops a.tmps)):Gives P ops S o v a':=by
 rcases h with⟨h1,h2⟩ | ⟨h1,h2⟩
 ·exact .inl ⟨hw.trans h1,fun w hs=>by rw[he];exact h2 w hs⟩
 ·exact .inr ⟨hw.trans h1,h2⟩
def quietOps (ops:Array Oper):Bool:=ops.toList.all fun o=>match o.op with | .defer _=>false | .select _ _=>false | _=>true
theorem quiet_at {j:Nat} {o:Oper} (h:quietOps ops=true) (ho:ops[j]?=some o):(∀c,o.op≠.defer c)∧∀cs b,o.op≠.select cs b:=by
 have hm:o∈ops.toList:=by
  obtain⟨hl,he⟩:=Array.getElem?_eq_some_iff.1 ho
  rw[←he];exact Array.getElem_mem_toList ..
 have:=List.all_eq_true.1 h o hm
 constructor
 ·intro c e;rw[e] at this;cases this
 ·intro cs b e;rw[e] at this;cases this
theorem sem_at {j:Nat} {o:Oper} (h:quietOps ops=true) (ho:ops[j]?=some o) (r:Option Nat) (ρ:Operand→Value):o.semAt r ρ=execOp ρ o:=Oper.semAt_eq r ρ o (quiet_at h ho).1
theorem Gives.op {i:Nat} {o:Oper} {v:Value} {a:Act} (hF:∀f,F.fn f) (hq:quietOps ops=true) (hi:ops[i]?=some o) (hy:Gives P ops S o v a) {K:Act→World→Prop} {w:World} (hS:S w) (h:K (a.put o.dst v) w):wpOpIn F n P ops Q i K a w:=by
 unfold wpOpIn
 simp only[hi]
 rcases hy with⟨hw,hv⟩ | ⟨hw,rfl⟩
 ·simp only[hw,if_true,Oper.wpIn,sem_at hq hi,hv w hS,Oper.uponIn]
  exact⟨fun f _=>hF f,h⟩
 ·simp only[hw,Bool.false_eq_true,if_false]
  exact⟨fun f _=>hF f,h⟩
theorem Gives.beside {i j:Nat} {oi oj:Oper} {v:Value} (hF:∀f,F.fn f) (hq:quietOps ops=true) (hi:ops[i]?=some oi) (hj:ops[j]?=some oj) (hap:oi.apart ops oj=true)
 (hQ:∀c a w,Q (.panic c) (a.put oi.dst v) w→Q (.panic c) a w) {K:Act→World→Prop} {a:Act} {w:World} (hy:Gives P ops S oi v a) (h:wpOpIn F n P ops Q j K (a.put oi.dst v) w) :
 wpOpIn F n P ops Q j (fun a' w'=>Gives P ops S oi v a'∧K (a'.put oi.dst v) w') a w:=by
 obtain⟨h1,h2,h3⟩:=Oper.apart_spec hap
 have keep:∀u,Gives P ops S oi v (a.put oj.dst u):=fun u=>hy.same (execOp_put oi (quiet_at hq hi).2 a oj.dst u h3) (wanted_put oi a oj.dst u h3)
 have ndf:=(quiet_at hq hj).1
 have hj2:=hide hj
 unfold wpOpIn at h ⊢
 simp only[hj] at h ⊢
 rw[wanted_put oj a oi.dst v h1] at h
 split
 ·rename_i hw
  simp only[hw,if_true] at h
  unfold Oper.wpIn at h ⊢
  refine⟨fun f _=>hF f,?_⟩
  have h:=h.2
  rw[sem_at hq hj,execOp_put oj (quiet_at hq hj).2 a oi.dst v h1] at h
  rw[sem_at hq hj]
  have hnd:∀d w',(execOp a.eval oj).run P w≠.ok (.defer d) w'∨True:=fun _ _=> .inr trivial
  generalize hr:(execOp a.eval oj).run P w=r at h ⊢
  cases r with
  | ok x w' =>
    cases x with
    | value u=>exact⟨keep u,by rw[←Act.put_comm a v u h2];exact h⟩
    | skip=>exact⟨keep _,by rw[←Act.put_comm a v undef h2];exact h⟩
    | defer d =>
      refine⟨Gives.same (a:={a with defers:=d :: a.defers }) (hy.same rfl rfl) (execOp_put oi (quiet_at hq hi).2 _ oj.dst undef h3) (wanted_put oi _ oj.dst undef h3),?_⟩
      rw[←Act.put_comm _ v undef h2,←Act.put_defers]
      exact h
    | enter f args =>
      refine⟨h.1,CallsIn.mono h.2 fun e w'' he=>?_⟩
      cases e with
      | returned u=>exact⟨keep u,by rw[←Act.put_comm a v u h2];exact he⟩
      | panicked c=>exact hQ _ _ _ he
      | outgrown=>exact he
    | row row args=>exact⟨h.1,RowsIn.mono h.2 fun u w'' he=>⟨keep u,by rw[←Act.put_comm a v u h2];exact he⟩⟩
    | round l f tmps assign body =>
      refine⟨h.1,RoundIn.mono h.2 fun e w'' he=>?_⟩
      cases e with
      | returned u=>exact⟨keep u,by rw[←Act.put_comm a v u h2];exact he⟩
      | panicked c=>exact hQ _ _ _ he
      | outgrown=>exact he
    | _=>exact h
  | halt x w' =>
    cases x <;> simp only[Oper.uponIn] at h ⊢
    case panic u=>exact hQ _ _ _ h
 ·rename_i hw
  simp only[hw] at h
  exact⟨fun f _=>hF f,keep _,by rw[←Act.put_comm a v undef h2];exact h.2⟩
def waits (ops:Array Oper) (z i:Nat):Bool:=match ops[z]? with | some o=>o.after.toList.any (fun e=>Region.binds .any e && e.on == i) | none=>true
def wpAnyS (F:Fence) (n:Nat) (P:Program) (ops:Array Oper) (Q:Exit→Act→World→Prop) (S:World→Prop) (z:Nat):Nat→Array Bool→Act→World→Prop
 | 0,listed,a,w=>Region.ready .any ops listed=[]∧Q .normal a w
 | fuel+1,listed,a,w=>(Region.ready .any ops listed=[]→Q .normal a w)∧
  ∀i∈Region.ready .any ops listed,wpOpIn F n P ops Q i (fun a' w'=>(i≠z→S w')∧wpAnyS F n P ops Q S z fuel (listed.setIfInBounds i true) a' w') a w
theorem anyIn_of_S {z:Nat}:∀(fuel:Nat) (listed:Array Bool) (a:Act) (w:World),wpAnyS F n P ops Q S z fuel listed a w→wpAnyIn F n P .any ops Q fuel listed a w
 | 0,_,_,_,h=>h
 | fuel+1,_,_,_,h=>⟨h.1,fun i hi=>wpOpIn_mono (fun a' w' h'=>anyIn_of_S fuel _ a' w' h'.2) (h.2 i hi)⟩
theorem wpAnyS_first {i z:Nat} {oi:Oper} {v:Value} (hz:waits ops z i=true) (hF:∀f,F.fn f) (hq:quietOps ops=true) (hi:ops[i]?=some oi) (hQ:∀c a w,Q (.panic c) (a.put oi.dst v) w→Q (.panic c) a w) :
 ∀(fuel:Nat) (listed:Array Bool) (a:Act) (w:World),
  (∀j oj,ops[j]?=some oj→j≠i→listed.getD j true=false→(∀e∈oj.after,Region.binds .any e=true→e.on≠i)→oi.apart ops oj=true)→
  i∈Region.ready .any ops listed→Gives P ops S oi v a→S w→
  wpAnyS F n P ops Q S z fuel (listed.setIfInBounds i true) (a.put oi.dst v) w→wpAnyS F n P ops Q S z (fuel+1) listed a w
 | 0, listed, a, w, _, hr, hy, hS, H => by
   refine⟨fun h=>(by rw[h] at hr;cases hr),fun j hj=>?_⟩
   by_cases hji:j=i
   ·subst hji;exact hy.op hF hq hi hS ⟨fun _=>hS,H⟩
   ·have h1:=ready_mono hj hji
    rw[H.1] at h1
    cases h1
 | fuel + 1, listed, a, w, hfree, hr, hy, hS, H => by
   refine⟨fun h=>(by rw[h] at hr;cases hr),fun j hj=>?_⟩
   by_cases hji:j=i
   ·subst hji;exact hy.op hF hq hi hS ⟨fun _=>hS,H⟩
   ·have h1:=H.2 j (ready_mono hj hji)
    obtain⟨hjun,oj,hoj,hall⟩:=mem_ready.1 hj
    have hno:∀e∈oj.after,Region.binds .any e=true→e.on≠i:=fun e he hb heq=>by
     have h2:=hall e he hb
     have h0:=(mem_ready.1 hr).1
     rw[heq] at h2
     rcases Nat.lt_or_ge i listed.size with h' | h'
     ·simp[h'] at h0 h2;rw[h0] at h2;cases h2
     ·simp[Array.getElem?_eq_none h'] at h2
    have hjz:j≠z:=fun e=>by
     subst e
     unfold waits at hz
     rw[hoj] at hz
     simp only[List.any_eq_true,Bool.and_eq_true,beq_iff_eq] at hz
     obtain⟨e,he,hb,hon⟩:=hz
     exact hno e (Array.mem_toList_iff.1 he) hb hon
    have h2:=Gives.beside hF hq hi hoj (hfree j oj hoj hji hjun hno) hQ hy h1
    refine wpOpIn_mono (fun a' w' h3=>⟨h3.2.1,wpAnyS_first hz hF hq hi hQ fuel (listed.setIfInBounds j true) a' w' (fun k ok hk hki hun hno'=>?_) (ready_mono hr (Ne.symm hji)) h3.1 (h3.2.1 hjz) ?_⟩) h2
    ·refine hfree k ok hk hki ?_ hno'
     by_cases hjk:j=k
     ·subst hjk;exact hjun
     ·rw[getD_set_ne true hjk] at hun;exact hun
    ·rw[Array.setIfInBounds_comm _ _ hji]
     exact h3.2.2
theorem wpAnyS_take {i z:Nat} {oi:Oper} {v:Value} {fuel:Nat} {listed:Array Bool} {a:Act} {w:World} (hi:ops[i]?=some oi) (hF:∀f,F.fn f) (hz:waits ops z i=true) (hq:quietOps ops=true)
 (hf:Region.free .any ops listed i=true) (hr:(Region.ready .any ops listed).contains i=true) (hQ:∀c a w,Q (.panic c) (a.put oi.dst v) w→Q (.panic c) a w) (hy:Gives P ops S oi v a) (hS:S w)
 (h:wpAnyS F n P ops Q S z fuel (listed.setIfInBounds i true) (a.put oi.dst v) w):wpAnyS F n P ops Q S z (fuel+1) listed a w:=
 wpAnyS_first hz hF hq hi hQ fuel listed a w (Region.free_spec hi hf) (by simpa using hr) hy hS h
theorem tkH {P:Program} {md:Region.Mode} {ops:Array Oper} {Q:Exit→Act→World→Prop} {S:World→Prop} (i:Nat) (v:Value) {d op ty pos after guard} {fuel:Nat} {listed:Array Bool} {a:Act} {w:World} (hi:ops[i]?=some ⟨d,op,ty,pos,after,guard⟩) (hy:YieldsIf P ops S ⟨d,op,ty,pos,after,guard⟩ v a) (hS:S w)
 (h:wpAnyH P md ops Q S fuel (listed.setIfInBounds i true) (a.put d v) w) (hs:Region.noSelect ops=true:=by kernel_rfl) (hf:Region.free md ops listed i=true:=by kernel_rfl) (hr:(Region.ready md ops listed).contains i=true:=by kernel_rfl)
 (hQ:∀c a w,Q (.panic c) (a.put d v) w→Q (.panic c) a w:=by exact fun _ _ _ h=>h):wpAnyH P md ops Q S (fuel+1) listed a w:=wpAnyH_take hi hs hf hr hQ hy hS h
theorem tkS {z:Nat} (i:Nat) (v:Value) {d op ty pos after guard} {fuel:Nat} {listed:Array Bool} {a:Act} {w:World} (hi:ops[i]?=some ⟨d,op,ty,pos,after,guard⟩) (hy:Gives P ops S ⟨d,op,ty,pos,after,guard⟩ v a) (hS:S w)
 (h:wpAnyS F n P ops Q S z fuel (listed.setIfInBounds i true) (a.put d v) w) (hF:∀f,F.fn f:=by exact fun _=>trivial) (hz:waits ops z i=true:=by kernel_rfl) (hq:quietOps ops=true:=by kernel_rfl) (hf:Region.free .any ops listed i=true:=by kernel_rfl)
 (hr:(Region.ready .any ops listed).contains i=true:=by kernel_rfl) (hQ:∀c a w,Q (.panic c) (a.put d v) w→Q (.panic c) a w:=by exact fun _ _ _ h=>h):wpAnyS F n P ops Q S z (fuel+1) listed a w:=wpAnyS_take hi hF hz hq hf hr hQ hy hS h
def bat:List Bool→Nat→Bool
 | [],_=>true
 | b :: _,0=>b
 | _ :: l,n+1=>bat l n
def nxt:List Nat→List Bool→Option Nat
 | [],_=>none
 | i :: is,l=>cond (bat l i) (nxt is l) (some i)
theorem tkHl {P:Program} {md:Region.Mode} {ops:Array Oper} {Q:Exit→Act→World→Prop} {S:World→Prop} (is:List Nat) (v:Value) {i:Nat} {d op ty pos after guard} {fuel:Nat} {listed:Array Bool} {a:Act} {w:World} (hn:nxt is listed.toList=some i) (hi:ops[i]?=some ⟨d,op,ty,pos,after,guard⟩) (hy:YieldsIf P ops S ⟨d,op,ty,pos,after,guard⟩ v a) (hS:S w)
 (h:wpAnyH P md ops Q S fuel (listed.setIfInBounds i true) (a.put d v) w) (hs:Region.noSelect ops=true:=by kernel_rfl) (hf:Region.free md ops listed i=true:=by kernel_rfl) (hr:(Region.ready md ops listed).contains i=true:=by kernel_rfl)
 (hQ:∀c a w,Q (.panic c) (a.put d v) w→Q (.panic c) a w:=by exact fun _ _ _ h=>h):wpAnyH P md ops Q S (fuel+1) listed a w:=wpAnyH_take hi hs hf hr hQ hy hS h
theorem tkSl {z:Nat} (is:List Nat) (v:Value) {i:Nat} {d op ty pos after guard} {fuel:Nat} {listed:Array Bool} {a:Act} {w:World} (hn:nxt is listed.toList=some i) (hi:ops[i]?=some ⟨d,op,ty,pos,after,guard⟩) (hy:Gives P ops S ⟨d,op,ty,pos,after,guard⟩ v a) (hS:S w)
 (h:wpAnyS F n P ops Q S z fuel (listed.setIfInBounds i true) (a.put d v) w) (hF:∀f,F.fn f:=by exact fun _=>trivial) (hz:waits ops z i=true:=by kernel_rfl) (hq:quietOps ops=true:=by kernel_rfl) (hf:Region.free .any ops listed i=true:=by kernel_rfl)
 (hr:(Region.ready .any ops listed).contains i=true:=by kernel_rfl) (hQ:∀c a w,Q (.panic c) (a.put d v) w→Q (.panic c) a w:=by exact fun _ _ _ h=>h):wpAnyS F n P ops Q S z (fuel+1) listed a w:=wpAnyS_take hi hF hz hq hf hr hQ hy hS h
theorem tl1 {α:Type} (l:List α) (i:Nat) (a:α):l.toArray.setIfInBounds i a=(l.set i a).toArray:=List.setIfInBounds_toArray l i a
theorem tl2 {α:Type} (x y:α) (l:List α):(x :: l).set 0 y=y :: l:=rfl
theorem tl3 {α:Type} (x y:α) (l:List α) (i:Nat):(x :: l).set (i+1) y=x :: l.set i y:=rfl
def AllS (F:Fence) (n:Nat) (P:Program) (ops:Array Oper) (Q:Exit→Act→World→Prop) (S:World→Prop) (z fuel:Nat) (listed:Array Bool) (a:Act) (w:World) (rs:List Nat):Prop:=
 ∀i∈rs,wpOpIn F n P ops Q i (fun a' w'=>(i≠z→S w')∧wpAnyS F n P ops Q S z fuel (listed.setIfInBounds i true) a' w') a w
theorem AllS.nil {z fuel:Nat} {listed:Array Bool} {a:Act} {w:World}:AllS F n P ops Q S z fuel listed a w []:=fun _ h=>by cases h
theorem AllS.cons {z fuel:Nat} {listed:Array Bool} {a:Act} {w:World} {i:Nat} {o:Oper} {rs:List Nat} (ho:ops[i]?=some o) (hF:∀f,F.fn f)
 (h:∀K':Act→World→Prop,Hid (∀a w,(i≠z→S w)→((i≠z→S w)→wpAnyS F n P ops Q S z fuel (listed.setIfInBounds i true) a w)→K' a w)→if Region.wanted o (yielded ops a.tmps)=true then Oper.wpIn F n P o a w K' Q else K' (a.put o.dst undef) w)
 (hs:AllS F n P ops Q S z fuel listed a w rs):AllS F n P ops Q S z fuel listed a w (i :: rs):=fun j hj=>by
 rcases List.mem_cons.1 hj with rfl | hj
 ·unfold wpOpIn
  rw[ho]
  have h1:=h (fun a' w'=>(j≠z→S w')∧wpAnyS F n P ops Q S z fuel (listed.setIfInBounds j true) a' w') (hide fun a w hS hW=>⟨hS,hW hS⟩)
  simp only
  split
  ·rename_i hw;rw[if_pos hw] at h1;exact h1
  ·rename_i hw;rw[if_neg hw] at h1;exact⟨fun f _=>hF f,h1⟩
 ·exact hs j hj
theorem wpAnyS_ready {rs:List Nat} {z fuel:Nat} {listed:Array Bool} {a:Act} {w:World} (hr:Region.ready .any ops listed=rs) (hne:rs≠[]) (h:AllS F n P ops Q S z fuel listed a w rs):wpAnyS F n P ops Q S z (fuel+1) listed a w:=
 by
 subst hr
 unfold wpAnyS
 exact⟨fun h0=>absurd h0 hne,h⟩
theorem wpAnyS_done {z:Nat} {listed:Array Bool} {a:Act} {w:World} (hr:Region.ready .any ops listed=[]) (h:Q .normal a w):∀fuel,wpAnyS F n P ops Q S z fuel listed a w
 | 0=>⟨hr,h⟩
 | _+1=>⟨fun _=>h,by rw[hr];simp⟩
theorem wpIn_region_S {z id:Nat} {a:Act} {w:World} (hm:P.follows .mixedOrders=true) (hS:S w.drew) (h:S w.drew→wpAnyS F n P ops Q S z ops.size (Array.replicate ops.size false) a w.drew):(Code.region id ops true).wpIn F n P Q a w:=
 wpIn_region_any hm (anyIn_of_S _ _ _ _ (h hS))
end
end Go.Proofs.YtgfghffihjfbpaaGreatDoor
namespace Go.Proofs.YtgfghffihjfbpaaGreatDoor
open Go.RowKit Go.Shelf
structure Bx (w:World) (p:Nat) (cs:List Value):Prop where
 at_:At w p cs
 fz:∀j:Nat,w.frozen? ⟨p,j,none⟩=false
section
variable {w w':World} {p:Nat} {cs:List Value}
theorem Bx.lt (h:Bx w p cs):p < w.heap.size:=h.at_.1
theorem Bx.below (h:Bx w p cs) (hb:Below w.heap.size w w'):Bx w' p cs:=⟨h.at_.below hb,fun j=>(hb.frozen (p:=⟨p,j,none⟩) h.lt).trans (h.fz j)⟩
theorem Bx.bel (h:Bx w p cs) (hb:Below w.heap.size w w'):Bx w' p cs:=h.below hb
theorem Bx.kept {R:Nat→Prop} (h:Bx w p cs) (hk:Kept R w w') (hp:R p):Bx w' p cs:=⟨h.at_.kept hk hp,fun j=>(hk.frozen (p:=⟨p,j,none⟩) hp h.lt).trans (h.fz j)⟩
theorem Bx.set (h:Bx w p cs) {j:Nat} (u:Value) (hj:j < cs.length):Bx (w.setCell ⟨p,j,none⟩ u) p (cs.set j u):=⟨h.at_.set u hj,fun i=>by rw[World.frozen?_setCell];exact h.fz i⟩
theorem Bx.alloc (h:Bx w p cs) (o:Obj):Bx (w.alloc o) p cs:=h.below (below_new _ _)
theorem Bx.drew (h:Bx w p cs):Bx w.drew p cs:=h.below (Below.refl _ _).drew
theorem Bx.new (w:World) (cs:Array Value) (t:TypeId) (q:Nat) (hq:q=w.heap.size) (l:List Value) (hl:cs.toList=l):Bx (w.alloc (.cells cs t)) q l:=⟨At.new w cs t q hq l hl,fun j=>At.frozen_new w cs t q hq j⟩
theorem Bx.w1 {v:Value} (h:Bx w p [v]):w.cell? ⟨p,0,none⟩=some v∧w.frozen? ⟨p,0,none⟩=false:=⟨h.at_.c1,h.fz 0⟩
theorem Bx.w2 {v0 v1:Value} (h:Bx w p [v0,v1]):w.cell? ⟨p,0,none⟩=some v0∧w.cell? ⟨p,1,none⟩=some v1∧w.frozen? ⟨p,0,none⟩=false∧w.frozen? ⟨p,1,none⟩=false:=⟨h.at_.c2.1,h.at_.c2.2,h.fz 0,h.fz 1⟩
end
theorem mk_bx (W:World) (cs:Array Value) (t:TypeId) :
 ∃(b:Nat) (V:World),Hid (W.heap.size=b)∧Hid (W.alloc (.cells cs t)=V)∧Bx V b cs.toList∧Below W.heap.size W V∧V.heap.size=b+1:=
 ⟨_,_,hide rfl,hide rfl,Bx.new W cs t _ rfl _ rfl,below_new _ _,by simp⟩
theorem mk_row {α:Type} {cells:α→List Value} (W:World) (cs:Array Value) (t:TypeId) (xs:List α) (h:cs.toList=xs.flatMap cells) :
 ∃(b:Nat) (V:World),Hid (W.heap.size=b)∧Hid (W.alloc (.cells cs t)=V)∧Rd V V.heap.size cells (some ⟨b,0,none⟩) xs∧Below W.heap.size W V:=
 ⟨_,_,hide rfl,hide rfl,(Rd.new W cs t xs h).more (by simp),below_new _ _⟩
theorem Rd.bel {α:Type} {w w':World} {cells:α→List Value} {A:Option Addr} {xs:List α} (h:Rd w w.heap.size cells A xs) (hb:Below w.heap.size w w'):Rd w' w'.heap.size cells A xs:=(h.below hb).more hb.size
theorem At.bel {w w':World} {p:Nat} {cs:List Value} (h:At w p cs) (hb:Below w.heap.size w w'):At w' p cs:=h.below hb
theorem Own.bel {α:Type} {cells:α→List Value} {w w':World} {base:Nat} {e:TypeId} {k:Nat} {v:Value} {xs:List α} (h:Own w base e k cells v xs) (hb:Below w.heap.size w w'):Own w' base e k cells v xs:=h.below hb
theorem Below.bel {B:Nat} {w0 w w':World} (h:Below B w0 w) (hb:Below w.heap.size w w') (hB:B≤w.heap.size):Below B w0 w':=h.trans (hb.mono hB)
theorem Own.rdn {α:Type} {cells:α→List Value} {w:World} {base:Nat} {e:TypeId} {k:Nat} {v:Value} {xs:List α} (h:Own w base e k cells v xs) (n:Nat) (hn:xs.length=n):∃A c,v= .slice A n c∧Rd w w.heap.size cells A xs:=by
 subst hn;exact h.rd
theorem Own.keptG {α:Type} {cells:α→List Value} {w w':World} {base:Nat} {e:TypeId} {k:Nat} {v:Value} {xs:List α} {R:Nat→Prop} (h:Own w base e k cells v xs) (hk:Kept R w w') (hr:∀g,v.ownBlock=some g→R g):Own w' base e k cells v xs:=by
 obtain⟨hl,hn | ⟨g,cap,cur,rfl,hb,hg,rest⟩⟩:=h
 ·exact⟨hl,.inl hn⟩
 ·exact⟨hl,.inr ⟨g,cap,cur,rfl,hb,(hk.same g (hr g rfl) (Array.getElem?_eq_some_iff.1 hg).1).trans hg,rest⟩⟩
theorem Own.blockG {α:Type} {cells:α→List Value} {w:World} {base:Nat} {e:TypeId} {k:Nat} {v:Value} {xs:List α} (h:Own w base e k cells v xs) {g:Nat} (hg:v.ownBlock=some g):base≤g∧g < w.heap.size:=World.ownsRow.lt h g hg
theorem Rd.keptR {α:Type} {cells:α→List Value} {w w':World} {B:Nat} {A:Option Addr} {xs:List α} {R:Nat→Prop} (h:Rd w B cells A xs) (hk:Kept R w w') (hB:∀b,b < B→R b) (hl:B≤w.heap.size):Rd w' B cells A xs:=
 h.keep fun p hp=>hk.cell (p:=p) (hB _ hp) (by omega)
end Go.Proofs.YtgfghffihjfbpaaGreatDoor
