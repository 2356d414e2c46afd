/- lemmas for agentWrites_holds: MS. No conditions. -/
import Derived.Test.YtgfghffihjfbpaaGreatDoorK17
import Derived.StringKeys
set_option linter.unusedVariables false
set_option linter.unusedSimpArgs false
namespace Go.Proofs.YtgfghffihjfbpaaGreatDoor
open Go.RowKit Go.Shelf Go.Maps Go.MapKept Go.ChangeMaps
def updS {β:Type} (f:List UInt8→β) (k:List UInt8) (x:β):List UInt8→β:=fun j=>if j=k then x else f j
def MpS (P:Program) (K:TypeId) (w:World) (b n:Nat) (f:List UInt8→Option Value):Prop:=
 ∃D:DataW Value,w.ownsMap P K RV b n D∧Tidy D∧(∀(k:List UInt8) z,D.atKey (.string k) z=match f k with | some x=> .held x | none=>z)∧(∀k,has D (.string k)=(f k).isSome)
section
variable {P:Program} {T K E:TypeId} {w w':World} {b n:Nat} {f:List UInt8→Option Value}
theorem MpS.made (w:World) (P:Program) (K:TypeId):MpS P K (w.alloc (.map #[] 0)) w.heap.size 0 (fun _=>none):=
 ⟨.map [],World.ownsMap_made w P K _,tidy_empty,fun _ _=>rfl,fun _=>rfl⟩
theorem MpS.lt (h:MpS P K w b n f):b < w.heap.size:=let⟨_,h,_⟩:=h;h.lt
theorem MpS.keptR {R:Nat→Prop} (h:MpS P K w b n f) (hk:Kept R w w') (hb:R b):MpS P K w' b n f:=by
 obtain⟨D,h,r⟩:=h
 have hlt:=h.lt
 obtain⟨es,clock,hb',F,hs,hD⟩:=h
 exact⟨D,⟨es,clock,(hk.same b hb hlt).trans hb',F,hs,hD⟩,r⟩
theorem MpS.bel (h:MpS P K w b n f) (hb:Below w.heap.size w w'):MpS P K w' b n f:=h.keptR (Kept.all (fun _=>True) hb) trivial
theorem MpS.write (h:MpS P K w b n f) (hk:P.underlying K=some .string) (ht:P.underlying T=some (.map K E)) (hn:n < 1000000) {s:ByteArray} (hkk:s.size≤maxLen) (x:Value) :
 ∃w',(Instr.mapUpdate T (.map (some b)) (.string s) x).run P w= .ok () w'∧MpS P K w' b (n+1) (updS f s.data.toList (some x))∧w.grownBy w' (some b):=by
 obtain⟨D,h,htd,hat,hhas⟩:=h
 obtain⟨w',hrun,h1,h2⟩:=h.update (string_keyed hk) ht (by simp only[maxLen];omega) (Go.WideMaps.keyOf_string_mk hk hkk) (show RV x=some (.held x,[]) from rfl)
 refine⟨w',hrun,⟨_,h1,htd.put (k:= .string s.data.toList) trivial _,fun j z=>?_,fun j=>?_⟩,h2⟩
 ·unfold updS
  by_cases e:j=s.data.toList
  ·subst e;rw[if_pos rfl];exact atKey_put_same (k:= .string s.data.toList) htd.isMap trivial _ _
  ·rw[if_neg e,atKey_put_other (by simpa using e)];exact hat j z
 ·unfold updS
  by_cases e:j=s.data.toList
  ·subst e;rw[if_pos rfl];exact has_put_same (k:= .string s.data.toList) htd.isMap trivial _
  ·rw[if_neg e,has_put_other (by simpa using e)];exact hhas j
theorem MpS.look (h:MpS P K w b n f) (hk:P.underlying K=some .string) (ht:P.underlying T=some (.map K E)) {z:Value} (hz:(zeroValue E).run P w= .ok z w) {s:ByteArray} (hkk:s.size≤maxLen) :
 (Instr.lookup T (.map (some b)) (.string s) true).run P w= .ok (.tuple #[(f s.data.toList).getD z,.bool (f s.data.toList).isSome]) w:=by
 obtain⟨D,h,_,hat,hhas⟩:=h
 obtain⟨v,ps,hrun,hv⟩:=h.look_ok (string_keyed hk) ht hz (show RV z=some (.held z,[]) from rfl) (Go.WideMaps.keyOf_string_mk hk hkk)
 rw[hat s.data.toList] at hv
 rw[hrun,hhas]
 cases hf:f s.data.toList with
 | none=>rw[hf] at hv;simp[RV] at hv;rw[hv.1];rfl
 | some x=>rw[hf] at hv;simp[RV] at hv;rw[hv.1];rfl
variable {ops:Array Oper} {rest:List Oper} {o:Oper} {a:Act} {Q:Exit→Act→World→Prop}
theorem wpList_mapInsS (hg:o.guard=none) (m x v:Operand) (hop:o.op=Op.insert T m x v) (hk:P.underlying K=some .string) (ht:P.underlying T=some (.map K E)) (h:MpS P K w b n f) (hn:n < 1000000) (hm:a.eval m= .map (some b)) (s:ByteArray) (hx:a.eval x= .string s) (hkk:s.size≤maxLen) (y:Value) (hv:a.eval v=y)
 (hK:∀w',MpS P K w' b (n+1) (updS f s.data.toList (some y))→w.grownBy w' (some b)→wpList P ops Q rest (a.put o.dst undef) w'):wpList P ops Q (o :: rest) a w:=by
 refine wpList_plain hg fun K' hK'=>?_
 obtain⟨w',hrun,r1,r2⟩:=h.write hk ht hn hkk y
 unfold Oper.wp
 simp[execOp,hop,hm,hx,hv,hrun,Result.andThen]
 exact hK' _ _ (hK w' r1 r2)
theorem wpList_mapLookS (hg:o.guard=none) (m x:Operand) (hop:o.op=Op.lookup T m x true) (hk:P.underlying K=some .string) (ht:P.underlying T=some (.map K E)) {z:Value} (hz:(zeroValue E).run P w= .ok z w) (h:MpS P K w b n f) (hm:a.eval m= .map (some b)) (s:ByteArray) (hx:a.eval x= .string s) (hkk:s.size≤maxLen)
 (hK:wpList P ops Q rest (a.put o.dst (.tuple #[(f s.data.toList).getD z,.bool (f s.data.toList).isSome])) w):wpList P ops Q (o :: rest) a w:=by
 refine wpList_plain hg fun K' hK'=>?_
 unfold Oper.wp
 simp[execOp,hop,hm,hx,h.look hk ht hz hkk,Result.andThen]
 exact hK' _ _ hK
end
end Go.Proofs.YtgfghffihjfbpaaGreatDoor
