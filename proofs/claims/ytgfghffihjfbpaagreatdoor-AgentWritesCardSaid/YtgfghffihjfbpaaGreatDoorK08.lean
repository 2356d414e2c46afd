/- lemmas for agentWrites_holds: Map. No conditions. -/
import Derived.Test.YtgfghffihjfbpaaGreatDoorK07
import Derived.Maps.OwnIn
import Derived.Maps.OwnOps
set_option linter.unusedVariables false
set_option linter.unusedSimpArgs false
namespace Go.Proofs.YtgfghffihjfbpaaGreatDoor
open Go.RowKit Go.Shelf Go.Maps Go.MapKept Go.ChangeMaps
structure MapLaw (P:Program) (T K E:TypeId) {β:Type} (el:β→Value) (ld:β→DataW Unit) (ok:β→Prop) (z0:β):Prop where
 key:Keyed P K
 ktype:P.underlying K=some (.int .i64)
 ty:P.underlying T=some (.map K E)
 zero:∀w,(zeroValue E).run P w= .ok (el z0) w
 put:∀x,ok x→plainElem (H:=Unit) P E (el x)=some (ld x,[])
 inv:∀v x ps,plainElem P E v=some (ld x,ps)→v=el x
 okz:ok z0
def okI (x:Int):Prop:= -9223372036854775808≤x∧x≤9223372036854775807
theorem okI_wf {x:Int} (h:okI x):(Lit.int .i64 x).wf=true:=by
 have h1:IntKind.i64.min= -9223372036854775808:=by decide
 have h2:IntKind.i64.max=9223372036854775807:=by decide
 simp only[Lit.wf,h1,h2,decide_eq_true h.1,decide_eq_true h.2,Bool.and_self]
def Mp {β:Type} (P:Program) (K E:TypeId) (ld:β→DataW Unit) (w:World) (b n:Nat) (f:Int→Option β) (s:Nat):Prop:=
 ∃D:DataW Unit,w.ownsMap P K (plainElem P E) b n D∧Tidy D∧(∀(k:Int) z,D.atKey (.int .i64 k) z=match f k with | some x=>ld x | none=>z)∧(∀k,has D (.int .i64 k)=(f k).isSome)∧size D=s
def upd {β:Type} (f:Int→Option β) (k:Int) (x:Option β) (j:Int):Option β:=if j=k then x else f j
section
variable {β:Type} {P:Program} {T K E:TypeId} {el:β→Value} {ld:β→DataW Unit} {ok:β→Prop} {z0:β} {w w':World} {b n s:Nat} {f:Int→Option β}
theorem Mp.made (w:World) (P:Program) (K E:TypeId) (ld:β→DataW Unit):Mp P K E ld (w.alloc (.map #[] 0)) w.heap.size 0 (fun _=>none) 0:=
 ⟨.map [],World.ownsMap_made w P K _,tidy_empty,fun _ _=>rfl,fun _=>rfl,rfl⟩
theorem Mp.lt (h:Mp P K E ld w b n f s):b < w.heap.size:=let⟨_,h,_⟩:=h;h.lt
theorem Mp.mono (h:Mp P K E ld w b n f s) {n':Nat} (hn:n≤n'):Mp P K E ld w b n' f s:=let⟨D,h,r⟩:=h;⟨D,h.mono hn,r⟩
theorem Mp.keptR {R:Nat→Prop} (h:Mp P K E ld w b n f s) (hk:Kept R w w') (hb:R b):Mp P K E ld w' b n f s:=by
 obtain⟨D,h,r⟩:=h
 have hlt:=h.lt
 obtain⟨es,clock,hb',F,hs,hD⟩:=h
 exact⟨D,⟨es,clock,(hk.same b hb hlt).trans hb',F,hs,hD⟩,r⟩
theorem Mp.below {B:Nat} (h:Mp P K E ld w b n f s) (hb:Below B w w') (hB:b < B):Mp P K E ld w' b n f s:=
 h.keptR (Kept.of_below hb (R:=fun b=>b < B) fun _ h=>h) hB
theorem Mp.alloc (h:Mp P K E ld w b n f s) (o:Obj):Mp P K E ld (w.alloc o) b n f s:=h.keptR (Kept.alloc (fun _=>True) w o) trivial
theorem Mp.congr {g:Int→Option β} (h:Mp P K E ld w b n f s) (hg:∀k,g k=f k):Mp P K E ld w b n g s:=by
 obtain rfl:g=f:=funext hg
 exact h
theorem Mp.write (h:Mp P K E ld w b n f s) (L:MapLaw P T K E el ld ok z0) (hn:n < 1000000) {k:Int} (hk:okI k) {x:β} (hx:ok x) :
 ∃w',(Instr.mapUpdate T (.map (some b)) (.int .i64 k) (el x)).run P w= .ok () w'∧Mp P K E ld w' b (n+1) (upd f k (some x)) (if(f k).isSome then s else s+1)∧w.grownBy w' (some b):=by
 obtain⟨D,h,ht,hat,hhas,hs⟩:=h
 obtain⟨w',hrun,h1,h2⟩:=h.update L.key L.ty (by simp only[maxLen];omega) (keyOf_int_mk L.ktype (okI_wf hk)) (L.put x hx)
 refine⟨w',hrun,⟨_,h1,ht.put (k:= .int .i64 k) trivial _,fun j z=>?_,fun j=>?_,?_⟩,h2⟩
 ·unfold upd
  by_cases e:j=k
  ·subst e;rw[if_pos rfl];exact atKey_put_same (k:= .int .i64 j) ht.isMap trivial _ _
  ·rw[if_neg e,atKey_put_other (by simpa using e)];exact hat j z
 ·unfold upd
  by_cases e:j=k
  ·subst e;rw[if_pos rfl];exact has_put_same (k:= .int .i64 j) ht.isMap trivial _
  ·rw[if_neg e,has_put_other (by simpa using e)];exact hhas j
 ·rw[size_put ht,hhas,hs]
theorem grown_of_turned (h:w.mapTurned w' b):w.grownBy w' (some b):=by
 obtain⟨es,clock,es',clock',hb,rfl⟩:=h
 exact⟨rfl,rfl,rfl,by simp[setBlock],fun i _ hi=>heap_setBlock_other hb _ (fun e=>hi (by rw[e]))⟩
theorem Mp.drop (h:Mp P K E ld w b n f s) (L:MapLaw P T K E el ld ok z0) {k:Int} (hk:okI k) (ty:TypeId) :
 ∃w',(Builtin.delete_ #[T,K] ty #[.map (some b),.int .i64 k]).run P w= .ok (.tuple #[]) w'∧Mp P K E ld w' b n (upd f k none) (if(f k).isSome then s-1 else s)∧w.grownBy w' (some b):=by
 obtain⟨D,h,ht,hat,hhas,hs⟩:=h
 obtain⟨w',hrun,h1,h2⟩:=h.drop L.key L.ty (keyOf_int_mk L.ktype (okI_wf hk)) ty
 refine⟨w',hrun,⟨_,h1,ht.del _,fun j z=>?_,fun j=>?_,?_⟩,grown_of_turned h2⟩
 ·unfold upd
  by_cases e:j=k
  ·subst e;rw[if_pos rfl];exact atKey_del_same _
  ·rw[if_neg e,atKey_del_other (by simpa using e)];exact hat j z
 ·unfold upd
  by_cases e:j=k
  ·subst e;rw[if_pos rfl];exact has_del_same
  ·rw[if_neg e,has_del_other (by simpa using e)];exact hhas j
 ·have:=size_del (k:= .int .i64 k) ht
  rw[hhas] at this
  cases hf:(f k).isSome <;> rw[hf] at this <;> simp at this ⊢ <;> omega
variable {F:Fence} {nF:Nat} {ops:Array Oper} {rest:List Oper} {o:Oper} {a:Act} {Q:Exit→Act→World→Prop}
end
end Go.Proofs.YtgfghffihjfbpaaGreatDoor
namespace Go.Proofs.YtgfghffihjfbpaaGreatDoor
open Go.RowKit Go.Shelf
structure MBox {β:Type} (P:Program) (K E:TypeId) (ld:β→DataW Unit) (w:World) (L b n:Nat) (f:Int→Option β) (W:World):Prop where
 box:At W L [.map (some b)]
 mp:∃s,Mp P K E ld W b n f s
 bl:Below w.heap.size w W
section
variable {β:Type} {P:Program} {K E:TypeId} {ld:β→DataW Unit} {w W W':World} {L b n n' s:Nat} {f f' g:Int→Option β}
theorem MBox.kept {R:Nat→Prop} (h:MBox P K E ld w L b n f W) (hk:Kept R W W') (h1:R L) (h2:R b) (h4:∀b,b < w.heap.size→R b):MBox P K E ld w L b n f W':=
 let⟨s,hs⟩:=h.mp
 ⟨h.box.kept hk h1,⟨s,hs.keptR hk h2⟩,h.bl.trans (hk.below h4 h.bl.size)⟩
theorem MBox.put (h:MBox P K E ld w L b n f W) (hmp:Mp P K E ld W' b n' g s) (hg:W.grownBy W' (some b)) (hne:¬L=b) (hw:w.heap.size≤b) (hf:∀k,f' k=g k) :
 MBox P K E ld w L b n' f' W'∧Kept (fun x=>¬x=b) W W':=by
 have hk:Kept (fun x=>¬x=b) W W':=(Kept.grown hg).mono fun x _ hx=>by simpa using hx
 exact⟨⟨h.box.kept hk hne,⟨s,hmp.congr hf⟩,h.bl.trans (hk.below (fun x hx=>by omega) h.bl.size)⟩,hk⟩
theorem MBox.congr (h:MBox P K E ld w L b n f W) (hn:n≤n') (hf:∀k,f' k=f k):MBox P K E ld w L b n' f' W:=
 let⟨s,hs⟩:=h.mp
 ⟨h.box,⟨s,(hs.mono hn).congr hf⟩,h.bl⟩
theorem MBox.ltb (h:MBox P K E ld w L b n f W):b < W.heap.size:=let⟨_,hs⟩:=h.mp;hs.lt
end
structure DefOk (B:Nat) (ds:List Nat) (W:World):Prop where
 nodup:ds.Nodup
 open_:∀D∈ds,B≤D∧W.heap[D]?=some (.deferred (some []))
theorem DefOk.nil (B:Nat) (W:World):DefOk B [] W:=⟨List.nodup_nil,by simp⟩
theorem DefOk.kept {B:Nat} {ds:List Nat} {W W':World} {R:Nat→Prop} (h:DefOk B ds W) (hk:Kept R W W') (hr:∀D∈ds,R D):DefOk B ds W':=
 ⟨h.nodup,fun D hD=>⟨(h.open_ D hD).1,(hk.same D (hr D hD) (Array.getElem?_eq_some_iff.1 (h.open_ D hD).2).1).trans (h.open_ D hD).2⟩⟩
theorem DefOk.lt {B:Nat} {ds:List Nat} {W:World} (h:DefOk B ds W) {D:Nat} (hD:D∈ds):D < W.heap.size:=(Array.getElem?_eq_some_iff.1 (h.open_ D hD).2).1
theorem DefOk.cons {B:Nat} {ds:List Nat} {W:World} {D:Nat} (h:DefOk B ds W) (hD:W.heap[D]?=some (.deferred (some []))) (hB:B≤D) (hn:D∉ds):DefOk B (D :: ds) W:=
 ⟨List.nodup_cons.2 ⟨hn,h.nodup⟩,fun D' hD'=>by
  rcases List.mem_cons.1 hD' with rfl | h'
  ·exact⟨hB,hD⟩
  ·exact h.open_ D' h'⟩
end Go.Proofs.YtgfghffihjfbpaaGreatDoor
