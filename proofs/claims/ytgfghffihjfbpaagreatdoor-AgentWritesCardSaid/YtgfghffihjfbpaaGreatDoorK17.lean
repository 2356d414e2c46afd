/- lemmas for agentWrites_holds: MapV. No conditions. -/
import Derived.Test.YtgfghffihjfbpaaGreatDoorK08
import Derived.Maps.RangeWalk
set_option linter.unusedVariables false
set_option linter.unusedSimpArgs false
namespace Go.Proofs.YtgfghffihjfbpaaGreatDoor
open Go.RowKit Go.Shelf Go.Maps Go.MapKept Go.ChangeMaps
def RV:Value→Option (DataW Value×List MemPlace):=fun v=>some (.held v,[])
def MpV (P:Program) (K:TypeId) (w:World) (b n:Nat) (f:Int→Option Value) (s:Nat):Prop:=
 ∃D:DataW Value,w.ownsMap P K RV b n D∧Tidy D∧(∀(k:Int) z,D.atKey (.int .i64 k) z=match f k with | some x=> .held x | none=>z)∧(∀k,has D (.int .i64 k)=(f k).isSome)∧size D=s
def MpR (P:Program) (K:TypeId) (w:World) (b r n:Nat) (f:Int→Option Value) (left:Int→Bool) (cnt:Nat):Prop:=
 ∃(D:DataW Value) (L:Lit→Bool),w.ranges P K RV b r n D L cnt∧(∀(k:Int) z,D.atKey (.int .i64 k) z=match f k with | some x=> .held x | none=>z)∧∀k,L (.int .i64 k)=left k
section
variable {P:Program} {T K E:TypeId} {w w':World} {b r n s cnt:Nat} {f:Int→Option Value} {left:Int→Bool}
theorem MpV.made (w:World) (P:Program) (K:TypeId):MpV P K (w.alloc (.map #[] 0)) w.heap.size 0 (fun _=>none) 0:=
 ⟨.map [],World.ownsMap_made w P K _,tidy_empty,fun _ _=>rfl,fun _=>rfl,rfl⟩
theorem MpV.lt (h:MpV P K w b n f s):b < w.heap.size:=let⟨_,h,_⟩:=h;h.lt
theorem MpV.mono (h:MpV P K w b n f s) {n':Nat} (hn:n≤n'):MpV P K w b n' f s:=let⟨D,h,r⟩:=h;⟨D,h.mono hn,r⟩
theorem MpV.keptR {R:Nat→Prop} (h:MpV P K w b n f s) (hk:Kept R w w') (hb:R b):MpV P K w' b n f s:=by
 obtain⟨D,h,r⟩:=h
 have hlt:=h.lt
 obtain⟨es,clock,hb',F,hs,hD⟩:=h
 exact⟨D,⟨es,clock,(hk.same b hb hlt).trans hb',F,hs,hD⟩,r⟩
theorem MpV.bel (h:MpV P K w b n f s) (hb:Below w.heap.size w w'):MpV P K w' b n f s:=h.keptR (Kept.all (fun _=>True) hb) trivial
theorem MpV.congr {g:Int→Option Value} (h:MpV P K w b n f s) (hg:∀k,g k=f k):MpV P K w b n g s:=by
 obtain rfl:g=f:=funext hg
 exact h
theorem MpV.write (h:MpV P K w b n f s) (hk:P.underlying K=some (.int .i64)) (ht:P.underlying T=some (.map K E)) (hn:n < 1000000) {k:Int} (hkk:okI k) (x:Value) :
 ∃w',(Instr.mapUpdate T (.map (some b)) (.int .i64 k) x).run P w= .ok () w'∧MpV P K w' b (n+1) (upd f k (some x)) (if(f k).isSome then s else s+1)∧w.grownBy w' (some b):=by
 obtain⟨D,h,htd,hat,hhas,hs⟩:=h
 obtain⟨w',hrun,h1,h2⟩:=h.update (int_keyed hk) ht (by simp only[maxLen];omega) (keyOf_int_mk hk (okI_wf hkk)) (show RV x=some (.held x,[]) from rfl)
 refine⟨w',hrun,⟨_,h1,htd.put (k:= .int .i64 k) trivial _,fun j z=>?_,fun j=>?_,?_⟩,h2⟩
 ·unfold upd
  by_cases e:j=k
  ·subst e;rw[if_pos rfl];exact atKey_put_same (k:= .int .i64 j) htd.isMap trivial _ _
  ·rw[if_neg e,atKey_put_other (by simpa using e)];exact hat j z
 ·unfold upd
  by_cases e:j=k
  ·subst e;rw[if_pos rfl];exact has_put_same (k:= .int .i64 j) htd.isMap trivial _
  ·rw[if_neg e,has_put_other (by simpa using e)];exact hhas j
 ·rw[size_put htd,hhas,hs]
theorem MpV.look (h:MpV P K w b n f s) (hk:P.underlying K=some (.int .i64)) (ht:P.underlying T=some (.map K E)) {z:Value} (hz:(zeroValue E).run P w= .ok z w) {k:Int} (hkk:okI k) :
 (Instr.lookup T (.map (some b)) (.int .i64 k) true).run P w= .ok (.tuple #[(f k).getD z,.bool (f k).isSome]) w:=by
 obtain⟨D,h,_,hat,hhas,_⟩:=h
 obtain⟨v,ps,hrun,hv⟩:=h.look_ok (int_keyed hk) ht hz (show RV z=some (.held z,[]) from rfl) (keyOf_int_mk hk (okI_wf hkk))
 rw[hat k] at hv
 rw[hrun,hhas]
 cases hf:f k with
 | none=>rw[hf] at hv;simp[RV] at hv;rw[hv.1];rfl
 | some x=>rw[hf] at hv;simp[RV] at hv;rw[hv.1];rfl
theorem MpR.lt (h:MpR P K w b r n f left cnt):r < w.heap.size:=let⟨_,_,h,_⟩:=h;h.lt
theorem MpR.ltb (h:MpR P K w b r n f left cnt):b < w.heap.size:=let⟨_,_,h,_⟩:=h;h.owns.lt
theorem MpR.keptR {R:Nat→Prop} (h:MpR P K w b r n f left cnt) (hk:Kept R w w') (hb:R b) (hr:R r):MpR P K w' b r n f left cnt:=by
 have h1:=h.ltb
 have h2:=h.lt
 obtain⟨D,L,h,r1,r2⟩:=h
 obtain⟨es,clock,since,seen,c0,hb',F,hs,hD,hr',rest⟩:=h
 exact⟨D,L,⟨es,clock,since,seen,c0,(hk.same b hb h1).trans hb',F,hs,hD,(hk.same r hr h2).trans hr',rest⟩,r1,r2⟩
variable {ops:Array Oper} {rest:List Oper} {o:Oper} {a:Act} {Q:Exit→Act→World→Prop}
end
end Go.Proofs.YtgfghffihjfbpaaGreatDoor
