/- lemmas for topRented_holds: MapV MU DE2 App. No conditions. -/
import Derived.Test.YtiioegopckoldaaGreatDoorK02
import Derived.Maps.RangeWalk
import Derived.Test.YtiioegopckoldaaGreatDoorK04
import Derived.Test.YtiioegopckoldaaGreatDoorK03
import Derived.Test.YtiioegopckoldaaGreatDoorProg
import Derived.Laws.MakeOwn
set_option linter.unusedVariables false
set_option linter.unusedSimpArgs false
namespace Go.Proofs.YtiioegopckoldaaGreatDoor
open Go.RowKit Go.Shelf Go.Maps Go.MapKept Go.ChangeMaps
def RV:Value→Option (DataW Value×List MemPlace):=fun v=>some (.held v,[])
def MpV (P:Program) (K:TypeId) (w:World) (b n:Nat) (f:Int→Option Value) (s:Nat):Prop:=
 ∃D:DataW Value,w.ownsMap P K RV b n D∧Tidy D∧(∀(k:Int) z,D.atKey (.int .i64 k) z=match f k with | some x=> .held x | none=>z)∧(∀k,has D (.int .i64 k)=(f k).isSome)∧size D=s
def MpR (P:Program) (K:TypeId) (w:World) (b r n:Nat) (f:Int→Option Value) (left:Int→Bool) (cnt:Nat):Prop:=
 ∃(D:DataW Value) (L:Lit→Bool),w.ranges P K RV b r n D L cnt∧(∀(k:Int) z,D.atKey (.int .i64 k) z=match f k with | some x=> .held x | none=>z)∧∀k,L (.int .i64 k)=left k
section
variable {P:Program} {T K E:TypeId} {w w':World} {b r n s cnt:Nat} {f:Int→Option Value} {left:Int→Bool}
theorem MpV.made (w:World) (P:Program) (K:TypeId):MpV P K (w.alloc (.map #[] 0)) w.heap.size 0 (fun _=>none) 0:=
 ⟨.map [],World.ownsMap_made w P K _,tidy_empty,fun _ _=>rfl,fun _=>rfl,rfl⟩
theorem MpV.lt (h:MpV P K w b n f s):b < w.heap.size:=let⟨_,h,_⟩:=h;h.lt
theorem MpV.mono (h:MpV P K w b n f s) {n':Nat} (hn:n≤n'):MpV P K w b n' f s:=let⟨D,h,r⟩:=h;⟨D,h.mono hn,r⟩
theorem MpV.keptR {R:Nat→Prop} (h:MpV P K w b n f s) (hk:Kept R w w') (hb:R b):MpV P K w' b n f s:=by
 obtain⟨D,h,r⟩:=h
 have hlt:=h.lt
 obtain⟨es,clock,hb',F,hs,hD⟩:=h
 exact⟨D,⟨es,clock,(hk.same b hb hlt).trans hb',F,hs,hD⟩,r⟩
theorem MpV.bel (h:MpV P K w b n f s) (hb:Below w.heap.size w w'):MpV P K w' b n f s:=h.keptR (Kept.all (fun _=>True) hb) trivial
theorem MpV.congr {g:Int→Option Value} (h:MpV P K w b n f s) (hg:∀k,g k=f k):MpV P K w b n g s:=by
 obtain rfl:g=f:=funext hg
 exact h
theorem MpV.write (h:MpV P K w b n f s) (hk:P.underlying K=some (.int .i64)) (ht:P.underlying T=some (.map K E)) (hn:n < 1000000) {k:Int} (hkk:okI k) (x:Value) :
 ∃w',(Instr.mapUpdate T (.map (some b)) (.int .i64 k) x).run P w= .ok () w'∧MpV P K w' b (n+1) (upd f k (some x)) (if(f k).isSome then s else s+1)∧w.grownBy w' (some b):=by
 obtain⟨D,h,htd,hat,hhas,hs⟩:=h
 obtain⟨w',hrun,h1,h2⟩:=h.update (int_keyed hk) ht (by simp only[maxLen];omega) (keyOf_int_mk hk (okI_wf hkk)) (show RV x=some (.held x,[]) from rfl)
 refine⟨w',hrun,⟨_,h1,htd.put (k:= .int .i64 k) trivial _,fun j z=>?_,fun j=>?_,?_⟩,h2⟩
 ·unfold upd
  by_cases e:j=k
  ·subst e;rw[if_pos rfl];exact atKey_put_same (k:= .int .i64 j) htd.isMap trivial _ _
  ·rw[if_neg e,atKey_put_other (by simpa using e)];exact hat j z
 ·unfold upd
  by_cases e:j=k
  ·subst e;rw[if_pos rfl];exact has_put_same (k:= .int .i64 j) htd.isMap trivial _
  ·rw[if_neg e,has_put_other (by simpa using e)];exact hhas j
 ·rw[size_put htd,hhas,hs]
theorem MpV.look (h:MpV P K w b n f s) (hk:P.underlying K=some (.int .i64)) (ht:P.underlying T=some (.map K E)) {z:Value} (hz:(zeroValue E).run P w= .ok z w) {k:Int} (hkk:okI k) :
 (Instr.lookup T (.map (some b)) (.int .i64 k) true).run P w= .ok (.tuple #[(f k).getD z,.bool (f k).isSome]) w:=by
 obtain⟨D,h,_,hat,hhas,_⟩:=h
 obtain⟨v,ps,hrun,hv⟩:=h.look_ok (int_keyed hk) ht hz (show RV z=some (.held z,[]) from rfl) (keyOf_int_mk hk (okI_wf hkk))
 rw[hat k] at hv
 rw[hrun,hhas]
 cases hf:f k with
 | none=>rw[hf] at hv;simp[RV] at hv;rw[hv.1];rfl
 | some x=>rw[hf] at hv;simp[RV] at hv;rw[hv.1];rfl
theorem MpR.lt (h:MpR P K w b r n f left cnt):r < w.heap.size:=let⟨_,_,h,_⟩:=h;h.lt
theorem MpR.ltb (h:MpR P K w b r n f left cnt):b < w.heap.size:=let⟨_,_,h,_⟩:=h;h.owns.lt
theorem MpR.left_eq (h:MpR P K w b r n f left cnt):w.rangeLeft b r=cnt:=let⟨_,_,h,_⟩:=h;h.left_eq
theorem MpR.ne (h:MpR P K w b r n f left cnt):r≠b:=let⟨_,_,h,_⟩:=h;h.ne
theorem MpR.keptR {R:Nat→Prop} (h:MpR P K w b r n f left cnt) (hk:Kept R w w') (hb:R b) (hr:R r):MpR P K w' b r n f left cnt:=by
 have h1:=h.ltb
 have h2:=h.lt
 obtain⟨D,L,h,r1,r2⟩:=h
 obtain⟨es,clock,since,seen,c0,hb',F,hs,hD,hr',rest⟩:=h
 exact⟨D,L,⟨es,clock,since,seen,c0,(hk.same b hb h1).trans hb',F,hs,hD,(hk.same r hr h2).trans hr',rest⟩,r1,r2⟩
variable {ops:Array Oper} {rest:List Oper} {o:Oper} {a:Act} {Q:Exit→Act→World→Prop}
theorem wpList_mapWriteV (hg:o.guard=none) (m x v:Operand) (hop:o.op=Op.mapUpdate T m x v) (hk:P.underlying K=some (.int .i64)) (ht:P.underlying T=some (.map K E)) (h:MpV P K w b n f s) (hn:n < 1000000) (hm:a.eval m= .map (some b)) (k:Int) (hx:a.eval x= .int .i64 k) (hkk:okI k) (y:Value) (hv:a.eval v=y)
 (hK:∀w',MpV P K w' b (n+1) (upd f k (some y)) (if(f k).isSome then s else s+1)→w.grownBy w' (some b)→wpList P ops Q rest (a.put o.dst undef) w'):wpList P ops Q (o :: rest) a w:=by
 refine wpList_plain hg fun K' hK'=>?_
 obtain⟨w',hrun,r1,r2⟩:=h.write hk ht hn hkk y
 unfold Oper.wp
 simp[execOp,hop,hm,hx,hv,hrun,Result.andThen]
 exact hK' _ _ (hK w' r1 r2)
theorem wpList_mapLookV (hg:o.guard=none) (m x:Operand) (hop:o.op=Op.lookup T m x true) (hk:P.underlying K=some (.int .i64)) (ht:P.underlying T=some (.map K E)) {z:Value} (hz:(zeroValue E).run P w= .ok z w) (h:MpV P K w b n f s) (hm:a.eval m= .map (some b)) (k:Int) (hx:a.eval x= .int .i64 k) (hkk:okI k)
 (hK:wpList P ops Q rest (a.put o.dst (.tuple #[(f k).getD z,.bool (f k).isSome])) w):wpList P ops Q (o :: rest) a w:=by
 refine wpList_plain hg fun K' hK'=>?_
 unfold Oper.wp
 simp[execOp,hop,hm,hx,h.look hk ht hz hkk,Result.andThen]
 exact hK' _ _ hK
theorem wpList_mapRangeV (hg:o.guard=none) (m:Operand) (hop:o.op=Op.range T m) (hk:P.underlying K=some (.int .i64)) (ht:P.underlying T=some (.map K E)) (h:MpV P K w b n f s) (hm:a.eval m= .map (some b))
 (hK:∀w',MpR P K w' b w.heap.size n f (fun k=>(f k).isSome) s→Below w.heap.size w w'→w'.heap.size=w.heap.size+1→wpList P ops Q rest (a.put o.dst (.pointer (some ⟨w.heap.size,0,none⟩))) w'):wpList P ops Q (o :: rest) a w:=by
 obtain⟨D,h,_,hat,hhas,rfl⟩:=h
 refine wpList_range_own w hg m T hop K E (int_keyed hk) ht RV b n D hm h fun w' hr hg hs=>?_
 exact hK w' ⟨D,_,hr,hat,hhas⟩ ⟨hg.os,hg.tape,hg.output,by omega,fun i hi=>hg.block i hi (by simp)⟩ hs
theorem wpList_mapNextV (hg:o.guard=none) (it:Operand) (hop:o.op=Op.next it false) (hk:P.underlying K=some (.int .i64)) (hit:a.eval it= .pointer (some ⟨r,0,none⟩)) (h:MpR P K w b r n f left cnt)
 (hDone:cnt=0→(∀k,left k=false)→wpList P ops Q rest (a.put o.dst (.tuple #[.bool false])) w)
 (hMore:∀(x:Int) (c:Value) (w':World) (cnt':Nat),left x=true→f x=some c→MpR P K w' b r n f (fun z=>left z && !decide (z=x)) cnt'→cnt' < cnt→w.grownBy w' (some r)→w'.heap.size=w.heap.size→
  (Instr.entry (.pointer (some ⟨r,0,none⟩))).run P w'= .ok (.tuple #[.int .i64 x,c]) w'→wpList P ops Q rest (a.put o.dst (.tuple #[.bool true,.int .i64 x,c])) w')
 (hleft:∀k,left k=true→(f k).isSome=true):wpList P ops Q (o :: rest) a w:=by
 obtain⟨D,L,h,hat,hL⟩:=h
 refine wpList_next_ranges w hg it hop K (int_keyed hk) RV (Value.int .i64) id (fun key kl hkey=>by obtain⟨x,rfl,_⟩:=keyOf_int_inv hk hkey;exact⟨x,rfl⟩) (fun v y hv=>⟨v,rfl⟩) b r n D L cnt hit h
  (fun h0 hl=>hDone h0 fun k=>by rw[←hL];exact hl _) (fun x c kl y w' cnt' hkey hlk hv hat' hrg hlt hgr hsz hen=>?_)
 obtain⟨x',ex,rfl,hwx⟩:=keyOf_int_inv hk hkey
 cases ex
 have hlx:left x=true:=by rw[←hL];exact hlk
 obtain⟨c',hc'⟩:=Option.isSome_iff_exists.1 (hleft x hlx)
 have e1:=hat' .nil
 rw[hat x .nil,hc'] at e1
 simp[RV] at hv
 rw[←hv] at e1
 simp at e1
 subst e1
 refine hMore x _ w' cnt' hlx hc' ⟨D,_,hrg,hat,fun k=>?_⟩ hlt hgr hsz hen
 rw[hL]
 simp[Lit.sameKey]
end
end Go.Proofs.YtiioegopckoldaaGreatDoor
namespace Go.Proofs.YtiioegopckoldaaGreatDoor
open Go.RowKit Go.Shelf Go.Maps Go.MapKept Go.ChangeMaps
def okU (x:Int):Prop:=0≤x∧x≤255
theorem okU_wf {x:Int} (h:okU x):(Lit.int .u8 x).wf=true:=by
 have h1:IntKind.u8.min=0:=by decide
 have h2:IntKind.u8.max=255:=by decide
 simp only[Lit.wf,h1,h2,decide_eq_true h.1,decide_eq_true h.2,Bool.and_self]
def MpU (P:Program) (K:TypeId) (w:World) (b n:Nat) (f:Int→Option Value) (s:Nat):Prop:=
 ∃D:DataW Value,w.ownsMap P K RV b n D∧Tidy D∧(∀(k:Int) z,D.atKey (.int .u8 k) z=match f k with | some x=> .held x | none=>z)∧(∀k,has D (.int .u8 k)=(f k).isSome)∧size D=s
section
variable {P:Program} {T K E:TypeId} {w w':World} {b n s:Nat} {f:Int→Option Value}
theorem MpU.made (w:World) (P:Program) (K:TypeId):MpU P K (w.alloc (.map #[] 0)) w.heap.size 0 (fun _=>none) 0:=
 ⟨.map [],World.ownsMap_made w P K _,tidy_empty,fun _ _=>rfl,fun _=>rfl,rfl⟩
theorem MpU.lt (h:MpU P K w b n f s):b < w.heap.size:=let⟨_,h,_⟩:=h;h.lt
theorem MpU.mono (h:MpU P K w b n f s) {n':Nat} (hn:n≤n'):MpU P K w b n' f s:=let⟨D,h,r⟩:=h;⟨D,h.mono hn,r⟩
theorem MpU.keptR {R:Nat→Prop} (h:MpU P K w b n f s) (hk:Kept R w w') (hb:R b):MpU P K w' b n f s:=by
 obtain⟨D,h,r⟩:=h
 have hlt:=h.lt
 obtain⟨es,clock,hb',F,hs,hD⟩:=h
 exact⟨D,⟨es,clock,(hk.same b hb hlt).trans hb',F,hs,hD⟩,r⟩
theorem MpU.bel (h:MpU P K w b n f s) (hb:Below w.heap.size w w'):MpU P K w' b n f s:=h.keptR (Kept.all (fun _=>True) hb) trivial
theorem MpU.congr {g:Int→Option Value} (h:MpU P K w b n f s) (hg:∀k,g k=f k):MpU P K w b n g s:=by
 obtain rfl:g=f:=funext hg
 exact h
theorem MpU.write (h:MpU P K w b n f s) (hk:P.underlying K=some (.int .u8)) (ht:P.underlying T=some (.map K E)) (hn:n < 1000000) {k:Int} (hkk:okU k) (x:Value) :
 ∃w',(Instr.mapUpdate T (.map (some b)) (.int .u8 k) x).run P w= .ok () w'∧MpU P K w' b (n+1) (upd f k (some x)) (if(f k).isSome then s else s+1)∧w.grownBy w' (some b):=by
 obtain⟨D,h,htd,hat,hhas,hs⟩:=h
 obtain⟨w',hrun,h1,h2⟩:=h.update (int_keyed hk) ht (by simp only[maxLen];omega) (keyOf_int_mk hk (okU_wf hkk)) (show RV x=some (.held x,[]) from rfl)
 refine⟨w',hrun,⟨_,h1,htd.put (k:= .int .u8 k) trivial _,fun j z=>?_,fun j=>?_,?_⟩,h2⟩
 ·unfold upd
  by_cases e:j=k
  ·subst e;rw[if_pos rfl];exact atKey_put_same (k:= .int .u8 j) htd.isMap trivial _ _
  ·rw[if_neg e,atKey_put_other (by simpa using e)];exact hat j z
 ·unfold upd
  by_cases e:j=k
  ·subst e;rw[if_pos rfl];exact has_put_same (k:= .int .u8 j) htd.isMap trivial _
  ·rw[if_neg e,has_put_other (by simpa using e)];exact hhas j
 ·rw[size_put htd,hhas,hs]
theorem MpU.look (h:MpU P K w b n f s) (hk:P.underlying K=some (.int .u8)) (ht:P.underlying T=some (.map K E)) {z:Value} (hz:(zeroValue E).run P w= .ok z w) {k:Int} (hkk:okU k) :
 (Instr.lookup T (.map (some b)) (.int .u8 k) true).run P w= .ok (.tuple #[(f k).getD z,.bool (f k).isSome]) w:=by
 obtain⟨D,h,_,hat,hhas,_⟩:=h
 obtain⟨v,ps,hrun,hv⟩:=h.look_ok (int_keyed hk) ht hz (show RV z=some (.held z,[]) from rfl) (keyOf_int_mk hk (okU_wf hkk))
 rw[hat k] at hv
 rw[hrun,hhas]
 cases hf:f k with
 | none=>rw[hf] at hv;simp[RV] at hv;rw[hv.1];rfl
 | some x=>rw[hf] at hv;simp[RV] at hv;rw[hv.1];rfl
variable {ops:Array Oper} {rest:List Oper} {o:Oper} {a:Act} {Q:Exit→Act→World→Prop}
theorem wpList_mapInsU (hg:o.guard=none) (m x v:Operand) (hop:o.op=Op.insert T m x v) (hk:P.underlying K=some (.int .u8)) (ht:P.underlying T=some (.map K E)) (h:MpU P K w b n f s) (hn:n < 1000000) (hm:a.eval m= .map (some b)) (k:Int) (hx:a.eval x= .int .u8 k) (hkk:okU k) (y:Value) (hv:a.eval v=y)
 (hK:∀w',MpU P K w' b (n+1) (upd f k (some y)) (if(f k).isSome then s else s+1)→w.grownBy w' (some b)→wpList P ops Q rest (a.put o.dst undef) w'):wpList P ops Q (o :: rest) a w:=by
 refine wpList_plain hg fun K' hK'=>?_
 obtain⟨w',hrun,r1,r2⟩:=h.write hk ht hn hkk y
 unfold Oper.wp
 simp[execOp,hop,hm,hx,hv,hrun,Result.andThen]
 exact hK' _ _ (hK w' r1 r2)
end
end Go.Proofs.YtiioegopckoldaaGreatDoor
namespace Go.Proofs.YtiioegopckoldaaGreatDoor
open Go.RowKit Go.Shelf
def kdV (a b c d:Bool) (f:Nat):Value:= .agg #[.bool a,.bool b,.bool c,.bool d,.func (.func f) #[] #[]]
def kindF:Int→Option Value:=upd (upd (upd (upd (fun _=>none) 1 (some (kdV true true false false 179))) 2 (some (kdV false true false false 180))) 3 (some (kdV false false false true 181))) 4 (some (kdV true true true false 182))
set_option maxHeartbeats 4000000 in
set_option maxRecDepth 100000 in
theorem dekinds_any (w:World) :
 Calls Tryz.prog 128 #[] w fun e w'=>∃bm s,e= .returned (.map (some bm))∧MpU Tryz.prog 5 w' bm 4 kindF s∧Below w.heap.size w w':=by
 obtain⟨w3,ew3⟩:∃w3,Hid (w.alloc (.map #[] 0)=w3):=⟨_,hide rfl⟩
 have hm3:=MpU.made w Tryz.prog 5
 have hb3:Below w.heap.size w (w.alloc (.map #[] 0)):=below_new _ _
 obtain⟨bm,ebm⟩:∃bm,Hid (w.heap.size=bm):=⟨_,hide rfl⟩
 rw[ew3.out,ebm.out] at hm3
 rw[ew3.out] at hb3
 have HM3:=hide hm3;have HB3:=hide hb3
 clear hm3 hb3
 go_enter Tryz.func128,Tryz.ntmps128
 have hmm:=@run_makeMap Tryz.prog
 go_wp2_with (first | (rw[ew3.out,ebm.out];clear hmm) | (refine wpList_mapInsU rfl (.tmp 1) (.const (.int .u8 4)) (.tmp 5) rfl Tryz.underlying5 Tryz.underlying239 HM6.out (by omega) rfl 4 rfl (by unfold okU;omega) _ rfl ?_;intro w7 hM7 hg7;have HM7:=hide hM7;have HG7:=hide (Kept.grown hg7);clear hM7 hg7) | (refine wpList_mapInsU rfl (.tmp 1) (.const (.int .u8 3)) (.tmp 4) rfl Tryz.underlying5 Tryz.underlying239 HM5.out (by omega) rfl 3 rfl (by unfold okU;omega) _ rfl ?_;intro w6 hM6 hg6;have HM6:=hide hM6;have HG6:=hide (Kept.grown hg6);clear hM6 hg6) | (refine wpList_mapInsU rfl (.tmp 1) (.const (.int .u8 2)) (.tmp 3) rfl Tryz.underlying5 Tryz.underlying239 HM4.out (by omega) rfl 2 rfl (by unfold okU;omega) _ rfl ?_;intro w5 hM5 hg5;have HM5:=hide hM5;have HG5:=hide (Kept.grown hg5);clear hM5 hg5) | (refine wpList_mapInsU rfl (.tmp 1) (.const (.int .u8 1)) (.tmp 2) rfl Tryz.underlying5 Tryz.underlying239 HM3.out (by omega) rfl 1 rfl (by unfold okU;omega) _ rfl ?_;intro w4 hM4 hg4;have HM4:=hide hM4;have HG4:=hide (Kept.grown hg4);clear hM4 hg4))
 have K:=((HG4.out.trans HG5.out).trans HG6.out).trans HG7.out
 have HW:=hide (HB3.out.trans (K.below (B:=w.heap.size) (fun b hb e=>by injection e;have:=ebm.out;omega) HB3.out.size))
 clear K
 go_ret
 exact⟨bm,_,rfl,HM7.out,HW.out⟩
def hrOk (fr last:Int) (h:Sp):Bool:=inB (last+1) 9999 h.lo && (!(h.lo == fr) && inB 1 1000 h.hi)
def hrsOk (fr:Int):Int→List Sp→Bool
 | _,[]=>true
 | last,h :: t=>hrOk fr last h && hrsOk fr h.lo t
def inhB (fr:Int) (l:List Sp):Bool:=hrsOk fr 0 l && inB 1 8 (l.length:Int)
theorem hrsOk_drop {fr last:Int} {hs:List Sp} {k:Nat} {h:Sp} (hx:hs[k]?=some h):hrsOk fr last (hs.drop k)=(hrOk fr last h && hrsOk fr h.lo (hs.drop (k+1))):=by
 obtain⟨hlt,rfl⟩:=List.getElem?_eq_some_iff.1 hx
 rw[List.drop_eq_getElem_cons hlt]
 rfl
set_option maxHeartbeats 4000000 in
set_option maxRecDepth 100000 in
theorem deinherits_any (fr:Int) (A:Option Addr) (n c:Nat) (hs:List Sp) (w:World) (hn:n=hs.length) (hm:n≤9223372036854775807) (hx:Rd w w.heap.size Sp.cells A hs) :
 Calls Tryz.prog 175 #[.int .i64 fr,.slice A n c] w fun e w'=>e= .returned (.bool (inhB fr hs))∧Below w.heap.size w w':=by
 have HX:=hide hx
 have Hn:=hide hn
 clear hn hx
 go_enter Tryz.func175,Tryz.ntmps175
 go_wp2_with fail
 go_loopw [5,10] (fun nx i wr=>∃(k:Nat) (last:Int),k≤n∧i= .int .i64 k∧nx= .int .i64 last∧Below w.heap.size w wr∧(0≤last∧last≤9999)∧Hid (hrsOk fr 0 hs=hrsOk fr last (hs.drop k))) (fun _ i _=>n-(intOf i).toNat)
 case atStart=>exact⟨0,0,by omega,rfl,rfl,Below.refl _ _,by omega,hide rfl⟩
 case round=>
  obtain⟨k,last,hk,rfl,rfl,hb,⟨hx0,hx1⟩,hpre⟩:=hrel
  obtain⟨wo,rfl⟩:∃wo,wo=wr:=⟨wr,rfl⟩
  by_cases hlt:k < n
  ·obtain⟨b,off,s0,s1,rfl,hB,hxk,d0,d1⟩:=(HX.out.bel hb).sp (i:=k) (by have:=Hn.out;omega)
   have hstep:=hrsOk_drop (fr:=fr) (last:=last) hxk
   obtain⟨b5,w5,e5,ew5,hx5,hb5,hz5⟩:=mk_bx wo #[.int .i64 s0,.int .i64 s1] 230
   have hx5:At w5 b5 [.int .i64 s0,.int .i64 s1]:=hx5.at_
   obtain⟨x0,x1⟩:=hx5.c2
   have HB5:=hide (hb.trans (hb5.mono hb.size))
   have fl:IntKind.i64.wrap (last+1)=last+1:=wrapI (by omega)
   clear hx5 hb5 hz5 hb
   go_upto_region 5 with fail
   rw[ew5.out,e5.out]
   clear d0 d1 ew5 e5
   cases c1:inB (last+1) 9999 s0
   ·have he:=hide (show inhB fr hs=false by rw[inhB,hpre.out,hstep];simp[hrOk,c1])
    have C1:=hide c1
    clear c1 hstep
    go_wp2_with fail
    refine(dein_fn _ _ _ _).mono ?_
    rintro e w' ⟨rfl,rfl⟩
    rw[C1.out]
    go_wp2_with fail
    go_ret
    exact⟨ret_bool he.out.symm,HB5.out⟩
   have C1:=hide c1
   cases c2:(s0 == fr)
   rotate_left
   ·have he:=hide (show inhB fr hs=false by rw[inhB,hpre.out,hstep];simp[hrOk,c2])
    clear c1 hstep
    go_wp2_with fail
    refine(dein_fn _ _ _ _).mono ?_
    rintro e w' ⟨rfl,rfl⟩
    rw[C1.out]
    go_wp2_with fail
    go_ret
    exact⟨ret_bool he.out.symm,HB5.out⟩
   cases c3:inB 1 1000 s1
   ·have he:=hide (show inhB fr hs=false by rw[inhB,hpre.out,hstep];simp[hrOk,c3])
    have C3:=hide c3
    clear c1 c3 hstep
    go_wp2_with fail
    refine(dein_fn _ _ _ _).mono ?_
    rintro e w' ⟨rfl,rfl⟩
    rw[C1.out]
    go_wp2_with fail
    refine(dein_fn _ _ _ _).mono ?_
    rintro e w' ⟨rfl,rfl⟩
    rw[C3.out]
    go_wp2_with fail
    go_ret
    exact⟨ret_bool he.out.symm,HB5.out⟩
   have C3:=hide c3
   have hs2:0≤s0∧s0≤9999:=by simp only[inB,Bool.and_eq_true,decide_eq_true_eq] at c1;omega
   have Hst:=hide (show hrsOk fr 0 hs=hrsOk fr s0 (hs.drop (k+1)) by rw[hpre.out,hstep];simp[hrOk,c1,c2,c3])
   clear c1 c3 hstep
   go_wp2_with fail
   refine(dein_fn _ _ _ _).mono ?_
   rintro e w' ⟨rfl,rfl⟩
   rw[C1.out]
   go_wp2_with fail
   refine(dein_fn _ _ _ _).mono ?_
   rintro e w' ⟨rfl,rfl⟩
   rw[C3.out]
   go_wp2_with fail
   exact⟨⟨k+1,s0,by omega,by go_num,rfl,HB5.out,hs2,Hst⟩,by simp[intOf];omega⟩
  ·obtain rfl:n=k:=by omega
   have hpr:=hpre.out
   rw[List.drop_of_length_le (by have:=Hn.out;omega)] at hpr
   have he:=hide (show inhB fr hs=inB 1 8 (n:Int) by rw[inhB,hpr,Hn.out];rfl)
   have Hb:=hide hb
   clear hpr hb hpre
   go_wp2_with fail
   refine(dein_fn _ _ _ _).mono ?_
   rintro e w' ⟨rfl,rfl⟩
   go_wp2_with fail
   go_ret
   exact⟨ret_bool he.out.symm,Hb.out⟩
end Go.Proofs.YtiioegopckoldaaGreatDoor
namespace Go.Proofs.YtiioegopckoldaaGreatDoor
open Go.RowKit Go.Shelf
structure ElLaw (P:Program) (T E:TypeId) (k bytes:Nat) {α:Type} (cells:α→List Value):Prop where
 ty:P.underlying T=some (.slice E)
 info:∃i z,P.info? E=some i∧i.zero=some z∧i.size=k∧i.bytes=bytes∧z.cells.size=k
 pos:0 < k
 len:∀x,(cells x).length=k
 one:∀x,∀u∈cells x,u.oneCell'=true
 small:bytes≤1000
theorem elLaw_of {P:Program} {T E:TypeId} {k bytes:Nat} {α:Type} {cells:α→List Value} {z:Value} (ty:P.underlying T=some (.slice E)) (info:(P.info? E).map (fun i=>(i.zero,i.size,i.bytes))=some (some z,k,bytes)) (hz:z.cells.size=k) (pos:0 < k)
 (len:∀x,(cells x).length=k) (one:∀x,∀u∈cells x,u.oneCell'=true) (small:bytes≤1000):ElLaw P T E k bytes cells:=by
 obtain⟨i0,hi0,hz0,hz1,hz2⟩:=info_parts info
 exact⟨ty,⟨i0,z,hi0,hz0,hz1,hz2,hz⟩,pos,len,one,small⟩
section
variable {α:Type} {cells:α→List Value} {P:Program} {T E:TypeId} {k bytes:Nat} {w:World} {base:Nat} {v:Value} {xs:List α} {B:Nat} {A:Option Addr} {n c:Nat} {ys:List α}
theorem ElLaw.append (L:ElLaw P T E k bytes cells) (hown:Own w base E k cells v xs) (hr:Rd w B cells A ys) (hn:ys.length=n) (hlen:xs.length+n≤1000000) (hbase:base≤w.heap.size) (ty:TypeId) :
 ∃v' w',(Builtin.append_ #[T,T] ty #[v,.slice A n c]).run P w= .ok v' w'∧Own w' base E k cells v' (xs ++ ys)∧w.grownBy w' v.ownBlock∧(v'.ownBlock=v.ownBlock∨v'.ownBlock=some w.heap.size):=by
 subst hn
 obtain⟨i,z,hi,hz,hsize,hby,hzs⟩:=L.info
 have hb1:(xs.length+ys.length)*bytes≤140737488355328:=by
  have:(xs.length+ys.length)*bytes≤1000000*1000:=Nat.mul_le_mul hlen L.small
  omega
 rcases A with _ | ad
 ·obtain rfl:ys=[]:=by
   rcases ys with _ | ⟨y,ys⟩
   ·rfl
   ·obtain⟨b,off,e1,_⟩:=hr (by simp)
    cases e1
  refine⟨v,w,?_,by simpa using hown,World.grownBy.refl w _,.inl rfl⟩
  rcases hown.2 with⟨rfl,_⟩ | ⟨g,cap,cur,rfl,_,_,hnc,_⟩
  ·simp[Builtin.append_,run_underlying L.ty,sizeOf,typeInfo,hi,Builtin.lenOf,Builtin.firstCells]
  ·simp[Builtin.append_,run_underlying L.ty,sizeOf,typeInfo,hi,Builtin.lenOf,Builtin.firstCells,hnc,storeCells]
 ·have hcells:∀j u,(ys.flatMap cells)[j]?=some u→w.cell? (ad.add j)=some u:=by
   intro j u hu
   have h0:0 < ys.length:=by
    rcases ys with _ | ⟨y,ys⟩
    ·simp at hu
    ·simp
   obtain⟨b,off,e1,_,hc⟩:=hr h0
   injection e1 with e1
   subst e1
   have hadd:(⟨b,off,none⟩:Addr).add j=⟨b,off+j,none⟩:=by unfold Addr.add;split <;> simp_all
   rw[hadd]
   exact hc j u hu
  obtain⟨v',w',hrun,h2,h3,_,h5⟩:=run_append_own_at (P:=P) w base T ty E i z k bytes L.ty hi hz hsize hby hzs L.pos v xs.length (xs.flatMap cells) hown ad ys.length c (ys.flatMap cells) (flat_len L.len ys) hcells (flat_one L.one ys) (by simp only[maxLen];omega) hb1 hbase
  exact⟨v',w',hrun,by unfold Own;rw[List.length_append,List.flatMap_append];exact h2,h3,h5⟩
theorem op_app {o:Oper} {a:Act} {K:Act→World→Prop} {Q:Exit→Act→World→Prop} (L:ElLaw P T E k bytes cells) (s x:Operand) (ho:o.op= .call {callee:= .builtin .append,args:=#[s,x],argTypes:=#[T,T] })
 (hs:a.eval s=v) (hown:Own w base E k cells v xs) (hn:ys.length=n) (hx:a.eval x= .slice A n c) (hr:Rd w B cells A ys) (hlen:xs.length+n≤1000000) (hbase:base≤w.heap.size)
 (h:∀v' w',Own w' base E k cells v' (xs ++ ys)→w.grownBy w' v.ownBlock→(v'.ownBlock=v.ownBlock∨v'.ownBlock=some w.heap.size)→K (a.put o.dst v') w'):o.wp P a w K Q:=by
 obtain⟨v',w',hrun,h2,h3,h4⟩:=L.append (c:=c) hown hr hn hlen hbase o.type
 unfold Oper.wp execOp
 simp only[ho,resolve,invoke,builtin,Sem.run_bind,Sem.run_pure,Result.andThen_ok,List.map_toArray,List.map_cons,List.map_nil,hs,hx,hrun]
 exact h v' w' h2 h3 h4
theorem opIn_app {F:Fence} {nF:Nat} {o:Oper} {a:Act} {K:Act→World→Prop} {Q:Exit→Act→World→Prop} (L:ElLaw P T E k bytes cells) (s x:Operand) (ho:o.op= .call {callee:= .builtin .append,args:=#[s,x],argTypes:=#[T,T] })
 (hs:a.eval s=v) (hown:Own w base E k cells v xs) (hn:ys.length=n) (hx:a.eval x= .slice A n c) (hr:Rd w B cells A ys) (hlen:xs.length+n≤1000000) (hbase:base≤w.heap.size)
 (h:∀v' w',Own w' base E k cells v' (xs ++ ys)→w.grownBy w' v.ownBlock→(v'.ownBlock=v.ownBlock∨v'.ownBlock=some w.heap.size)→K (a.put o.dst v') w'):o.wpIn F nF P a w K Q:=by
 obtain⟨v',w',hrun,h2,h3,h4⟩:=L.append (c:=c) hown hr hn hlen hbase o.type
 unfold Oper.wpIn
 refine⟨by simp[Oper.about,ho,resolve,Target.leads,Sem.run_pure],?_⟩
 rw[Oper.semAt_plain F _ _ (by rw[ho];intro c hc';cases hc')]
 simp[execOp,ho,resolve,invoke,builtin,hs,hx,hrun,Result.andThen]
 exact h v' w' h2 h3 h4
theorem wpList_app {ops:Array Oper} {rest:List Oper} {o:Oper} {a:Act} {Q:Exit→Act→World→Prop} (L:ElLaw P T E k bytes cells) (hgd:o.guard=none) (s x:Operand) (ho:o.op= .call {callee:= .builtin .append,args:=#[s,x],argTypes:=#[T,T] })
 (hs:a.eval s=v) (hown:Own w base E k cells v xs) (hn:ys.length=n) (hx:a.eval x= .slice A n c) (hr:Rd w B cells A ys) (hlen:xs.length+n≤1000000) (hbase:base≤w.heap.size)
 (h:∀v' w',Own w' base E k cells v' (xs ++ ys)→w.grownBy w' v.ownBlock→(v'.ownBlock=v.ownBlock∨v'.ownBlock=some w.heap.size)→wpList P ops Q rest (a.put o.dst v') w'):wpList P ops Q (o :: rest) a w:=
 wpList_plain hgd fun _ hK=>op_app L s x ho hs hown hn hx hr hlen hbase fun v' w' h2 h3 h4=>hK _ _ (h v' w' h2 h3 h4)
theorem wpListIn_app {F:Fence} {nF:Nat} {ops:Array Oper} {rest:List Oper} {o:Oper} {a:Act} {Q:Exit→Act→World→Prop} (L:ElLaw P T E k bytes cells) (hgd:o.guard=none) (s x:Operand) (ho:o.op= .call {callee:= .builtin .append,args:=#[s,x],argTypes:=#[T,T] })
 (hs:a.eval s=v) (hown:Own w base E k cells v xs) (hn:ys.length=n) (hx:a.eval x= .slice A n c) (hr:Rd w B cells A ys) (hlen:xs.length+n≤1000000) (hbase:base≤w.heap.size)
 (h:∀v' w',Own w' base E k cells v' (xs ++ ys)→w.grownBy w' v.ownBlock→(v'.ownBlock=v.ownBlock∨v'.ownBlock=some w.heap.size)→wpListIn F nF P ops Q rest (a.put o.dst v') w'):wpListIn F nF P ops Q (o :: rest) a w:=
 wpListIn_plain hgd fun _ hK=>opIn_app L s x ho hs hown hn hx hr hlen hbase fun v' w' h2 h3 h4=>hK _ _ (h v' w' h2 h3 h4)
end
theorem Own.lit {α:Type} {cells:α→List Value} (w:World) (e:TypeId) (k:Nat) (cs:Array Value) (xs:List α) (hk:∀x,(cells x).length=k) (h:cs.toList=xs.flatMap cells) (hl:xs.length≤1000000) (base:Nat) (hb:base≤w.heap.size) :
 Own (w.alloc (.cells cs e)) base e k cells (.slice (some ⟨w.heap.size,0,none⟩) xs.length xs.length) xs:=by
 have h1:cs.toList.length=xs.length*k:=by rw[h];exact flat_len hk xs
 have h2:cs.size=xs.length*k:=by rw[←Array.length_toList];exact h1
 refine⟨flat_len hk xs,.inr ⟨w.heap.size,xs.length,cs,rfl,hb,heap_alloc_new w _,Nat.le_refl _,by simp only[maxLen];omega,h2,?_⟩⟩
 rw[h,List.take_of_length_le (by rw[flat_len hk xs];exact Nat.le_refl _)]
structure Sl where
 a:Option Addr
 n:Nat
 c:Nat
def Sl.val (s:Sl):Value:= .slice s.a s.n s.c
def Sl.cells (s:Sl):List Value:=[.slice s.a s.n s.c]
theorem Sl.len (s:Sl):s.cells.length=1:=rfl
theorem Sl.one (s:Sl):∀u∈s.cells,u.oneCell'=true:=by simp[Sl.cells,Value.oneCell']
theorem Rd.sl {w:World} {B:Nat} {A:Option Addr} {xs:List Sl} (h:Rd w B Sl.cells A xs) {i:Nat} (hi:i < xs.length) :
 ∃b off a n c,A=some ⟨b,off,none⟩∧b < B∧xs[i]?=some ⟨a,n,c⟩∧w.cell? ⟨b,off+i,none⟩=some (.slice a n c):=by
 obtain⟨b,off,e,hB,hc⟩:=h (by omega)
 have hx:xs[i]?=some xs[i]:=List.getElem?_eq_getElem hi
 refine⟨b,off,_,_,_,e,hB,hx,?_⟩
 have:=flat_get Sl.len hx (j:=0) (by omega)
 simp only[Nat.mul_one,Nat.add_zero] at this
 exact hc _ _ this
structure Rows {α:Type} (w:World) (B:Nat) (cells:α→List Value) (ss:List Sl) (xss:List (List α)):Prop where
 len:ss.length=xss.length
 row:∀(i:Nat) (s:Sl) (xs:List α),ss[i]?=some s→xss[i]?=some xs→s.n=xs.length∧Rd w B cells s.a xs
theorem Rows.keep {α:Type} {w w':World} {B:Nat} {cells:α→List Value} {ss:List Sl} {xss:List (List α)} (h:Rows w B cells ss xss) (hk:∀p:Addr,p.block < B→w'.cell? p=w.cell? p):Rows w' B cells ss xss:=
 ⟨h.len,fun i s xs h1 h2=>⟨(h.row i s xs h1 h2).1,(h.row i s xs h1 h2).2.keep hk⟩⟩
theorem Rows.below {α:Type} {w w':World} {B:Nat} {cells:α→List Value} {ss:List Sl} {xss:List (List α)} (h:Rows w B cells ss xss) (hb:Below B w w'):Rows w' B cells ss xss:=h.keep fun _ hp=>hb.cell hp
theorem Rows.more {α:Type} {w:World} {B B':Nat} {cells:α→List Value} {ss:List Sl} {xss:List (List α)} (h:Rows w B cells ss xss) (hB:B≤B'):Rows w B' cells ss xss:=
 ⟨h.len,fun i s xs h1 h2=>⟨(h.row i s xs h1 h2).1,(h.row i s xs h1 h2).2.more hB⟩⟩
end Go.Proofs.YtiioegopckoldaaGreatDoor
namespace Go.Proofs.YtiioegopckoldaaGreatDoor
open Go.RowKit Go.Shelf
section
variable {α:Type} {cells:α→List Value} {P:Program} {T E:TypeId} {k bytes:Nat} {wr:World} {base:Nat} {v:Value} {xs:List α}
theorem wpList_app1 {ops:Array Oper} {rest:List Oper} {o:Oper} {a:Act} {Q:Exit→Act→World→Prop} {cs:Array Value} {ty:TypeId} (L:ElLaw P T E k bytes cells) (hgd:o.guard=none) (s x:Operand)
 (ho:o.op= .call {callee:= .builtin .append,args:=#[s,x],argTypes:=#[T,T] }) (hs:a.eval s=v) (hx:a.eval x= .slice (some ⟨wr.heap.size,0,none⟩) 1 1) (hown:Own wr base E k cells v xs) (y:α) (hcs:cs.toList=cells y)
 (hlen:xs.length+1≤1000000) (hbase:base≤wr.heap.size)
 (h:∀v' w',Own w' base E k cells v' (xs ++ [y])→Kept (fun b=>b < base) wr w'→wpList P ops Q rest (a.put o.dst v') w'):wpList P ops Q (o :: rest) a (wr.alloc (.cells cs ty)):=by
 refine wpList_app (v:=v) (xs:=xs) (ys:=[y]) (n:=1) L hgd s x ho hs (hown.alloc _) rfl hx (Rd.new wr cs ty [y] (by simpa using hcs)) hlen (by simp;omega) ?_
 intro v' w' h1 h2 _
 refine h v' w' h1 ((Kept.alloc _ wr _).trans ((Kept.grown h2).mono fun b hb hlt e=>?_))
 rcases hown.block_ with h3 | ⟨g,h3,h4,_⟩
 ·rw[h3] at e;cases e
 ·rw[h3] at e;injection e with e;omega
end
theorem below_keptB {B base:Nat} {w0 w w':World} (h:Below B w0 w) (hk:Kept (fun b=>b < base) w w') (h1:B≤base) (h2:B≤w.heap.size):Below B w0 w':=h.trans (hk.below (fun b hb=>by omega) h2)
end Go.Proofs.YtiioegopckoldaaGreatDoor
namespace Go.Proofs.YtiioegopckoldaaGreatDoor
open Go.RowKit Go.Shelf
attribute [local go_sem] Oper.semAt_some
theorem el_int:ElLaw Tryz.prog 26 3 1 8 icell:=elLaw_of Tryz.underlying26 (z:= .int .i64 0) (by kernel_rfl) rfl (by omega) (fun _=>rfl) icell_one (by omega)
theorem el_rows:ElLaw Tryz.prog 39 26 1 24 Sl.cells:=elLaw_of Tryz.underlying39 (z:= .slice none 0 0) (by kernel_rfl) rfl (by omega) (fun _=>rfl) Sl.one (by omega)
end Go.Proofs.YtiioegopckoldaaGreatDoor
namespace Go.Proofs.YtiioegopckoldaaGreatDoor
open Go.RowKit Go.Shelf
theorem made_ints (n:Nat):(madeCells #[.int .i64 0] (n*1)).toList=(List.replicate n (0:Int)).flatMap icell:=by
 apply List.ext_getElem?
 intro j
 by_cases hj:j < n
 ·have hx:(List.replicate n (0:Int))[j]?=some 0:=by rw[List.getElem?_replicate,if_pos hj]
  have h:=flat_get icell_len hx (j:=0) (by omega)
  simp only[Nat.mul_one,Nat.add_zero] at h
  rw[h]
  simp[madeCells,hj,icell,Nat.mod_one]
 ·rw[List.getElem?_eq_none (by simp[madeCells];omega),List.getElem?_eq_none (by rw[flat_len icell_len];simp;omega)]
theorem make_ints (n:Nat) (hn:n≤1000) (w:World):(Instr.makeSlice 26 (.int .i64 (n:Int)) (.int .i64 (n:Int))).run Tryz.prog w= .ok (.slice (some ⟨w.heap.size,0,none⟩) n n) (w.alloc (.cells (madeCells #[.int .i64 0] (n*1)) 3)):=by
 obtain⟨i,hi,hz,hs,hbt⟩:∃i,Tryz.prog.info? 3=some i∧i.zero=some (.int .i64 0)∧i.size=1∧i.bytes=8:=by
  have h:(Tryz.prog.info? 3).map (fun i=>(i.zero,i.size,i.bytes))=some (some (.int .i64 0),1,8):=by kernel_rfl
  obtain⟨i,hi,hzz⟩:=Option.map_eq_some_iff.1 h
  simp only[Prod.mk.injEq] at hzz
  exact⟨i,hi,hzz.1,hzz.2.1,hzz.2.2⟩
 have hrun:=run_make (P:=Tryz.prog) w 26 3 i (.int .i64 0) Tryz.underlying26 hi hz .i64 .i64 n n (by omega) (Int.le_refl _) (by rw[hbt];omega) (by omega)
 simp only[Int.toNat_natCast,hs] at hrun
 exact hrun
theorem own_made (n:Nat) (hn:n≤1000) (w:World) (base:Nat) (hb:base≤w.heap.size):Own (w.alloc (.cells (madeCells #[.int .i64 0] (n*1)) 3)) base 3 1 icell (.slice (some ⟨w.heap.size,0,none⟩) n n) (List.replicate n 0):=by
 have h:=Own.lit (cells:=icell) w 3 1 (madeCells #[.int .i64 0] (n*1)) (List.replicate n 0) icell_len (made_ints n) (by simp;omega) base hb
 rw[List.length_replicate] at h
 exact h
end Go.Proofs.YtiioegopckoldaaGreatDoor
