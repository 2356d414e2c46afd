/- lemmas for topFed_holds: MapV MU HR10 HR11 HR12 HR13. No conditions. -/
import Derived.Test.YtiioegopckoldaaGreatDoorK04
import Derived.Maps.RangeWalk
import Derived.Test.YtiioegopckoldaaGreatDoorK16
import Derived.BigRegion
set_option linter.unusedVariables false
set_option linter.unusedSimpArgs false
namespace Go.Proofs.YtiioegopckoldaaGreatDoor
open Go.RowKit Go.Shelf Go.Maps Go.MapKept Go.ChangeMaps
def RV:Value→Option (DataW Value×List MemPlace):=fun v=>some (.held v,[])
def MpV (P:Program) (K:TypeId) (w:World) (b n:Nat) (f:Int→Option Value) (s:Nat):Prop:=
 ∃D:DataW Value,w.ownsMap P K RV b n D∧Tidy D∧(∀(k:Int) z,D.atKey (.int .i64 k) z=match f k with | some x=> .held x | none=>z)∧(∀k,has D (.int .i64 k)=(f k).isSome)∧size D=s
def MpR (P:Program) (K:TypeId) (w:World) (b r n:Nat) (f:Int→Option Value) (left:Int→Bool) (cnt:Nat):Prop:=
 ∃(D:DataW Value) (L:Lit→Bool),w.ranges P K RV b r n D L cnt∧(∀(k:Int) z,D.atKey (.int .i64 k) z=match f k with | some x=> .held x | none=>z)∧∀k,L (.int .i64 k)=left k
section
variable {P:Program} {T K E:TypeId} {w w':World} {b r n s cnt:Nat} {f:Int→Option Value} {left:Int→Bool}
theorem MpV.made (w:World) (P:Program) (K:TypeId):MpV P K (w.alloc (.map #[] 0)) w.heap.size 0 (fun _=>none) 0:=
 ⟨.map [],World.ownsMap_made w P K _,tidy_empty,fun _ _=>rfl,fun _=>rfl,rfl⟩
theorem MpV.lt (h:MpV P K w b n f s):b < w.heap.size:=let⟨_,h,_⟩:=h;h.lt
theorem MpV.mono (h:MpV P K w b n f s) {n':Nat} (hn:n≤n'):MpV P K w b n' f s:=let⟨D,h,r⟩:=h;⟨D,h.mono hn,r⟩
theorem MpV.keptR {R:Nat→Prop} (h:MpV P K w b n f s) (hk:Kept R w w') (hb:R b):MpV P K w' b n f s:=by
 obtain⟨D,h,r⟩:=h
 have hlt:=h.lt
 obtain⟨es,clock,hb',F,hs,hD⟩:=h
 exact⟨D,⟨es,clock,(hk.same b hb hlt).trans hb',F,hs,hD⟩,r⟩
theorem MpV.bel (h:MpV P K w b n f s) (hb:Below w.heap.size w w'):MpV P K w' b n f s:=h.keptR (Kept.all (fun _=>True) hb) trivial
theorem MpV.congr {g:Int→Option Value} (h:MpV P K w b n f s) (hg:∀k,g k=f k):MpV P K w b n g s:=by
 obtain rfl:g=f:=funext hg
 exact h
theorem MpV.write (h:MpV P K w b n f s) (hk:P.underlying K=some (.int .i64)) (ht:P.underlying T=some (.map K E)) (hn:n < 1000000) {k:Int} (hkk:okI k) (x:Value) :
 ∃w',(Instr.mapUpdate T (.map (some b)) (.int .i64 k) x).run P w= .ok () w'∧MpV P K w' b (n+1) (upd f k (some x)) (if(f k).isSome then s else s+1)∧w.grownBy w' (some b):=by
 obtain⟨D,h,htd,hat,hhas,hs⟩:=h
 obtain⟨w',hrun,h1,h2⟩:=h.update (int_keyed hk) ht (by simp only[maxLen];omega) (keyOf_int_mk hk (okI_wf hkk)) (show RV x=some (.held x,[]) from rfl)
 refine⟨w',hrun,⟨_,h1,htd.put (k:= .int .i64 k) trivial _,fun j z=>?_,fun j=>?_,?_⟩,h2⟩
 ·unfold upd
  by_cases e:j=k
  ·subst e;rw[if_pos rfl];exact atKey_put_same (k:= .int .i64 j) htd.isMap trivial _ _
  ·rw[if_neg e,atKey_put_other (by simpa using e)];exact hat j z
 ·unfold upd
  by_cases e:j=k
  ·subst e;rw[if_pos rfl];exact has_put_same (k:= .int .i64 j) htd.isMap trivial _
  ·rw[if_neg e,has_put_other (by simpa using e)];exact hhas j
 ·rw[size_put htd,hhas,hs]
theorem MpV.look (h:MpV P K w b n f s) (hk:P.underlying K=some (.int .i64)) (ht:P.underlying T=some (.map K E)) {z:Value} (hz:(zeroValue E).run P w= .ok z w) {k:Int} (hkk:okI k) :
 (Instr.lookup T (.map (some b)) (.int .i64 k) true).run P w= .ok (.tuple #[(f k).getD z,.bool (f k).isSome]) w:=by
 obtain⟨D,h,_,hat,hhas,_⟩:=h
 obtain⟨v,ps,hrun,hv⟩:=h.look_ok (int_keyed hk) ht hz (show RV z=some (.held z,[]) from rfl) (keyOf_int_mk hk (okI_wf hkk))
 rw[hat k] at hv
 rw[hrun,hhas]
 cases hf:f k with
 | none=>rw[hf] at hv;simp[RV] at hv;rw[hv.1];rfl
 | some x=>rw[hf] at hv;simp[RV] at hv;rw[hv.1];rfl
theorem MpR.lt (h:MpR P K w b r n f left cnt):r < w.heap.size:=let⟨_,_,h,_⟩:=h;h.lt
theorem MpR.ltb (h:MpR P K w b r n f left cnt):b < w.heap.size:=let⟨_,_,h,_⟩:=h;h.owns.lt
theorem MpR.ne (h:MpR P K w b r n f left cnt):r≠b:=let⟨_,_,h,_⟩:=h;h.ne
theorem MpR.keptR {R:Nat→Prop} (h:MpR P K w b r n f left cnt) (hk:Kept R w w') (hb:R b) (hr:R r):MpR P K w' b r n f left cnt:=by
 have h1:=h.ltb
 have h2:=h.lt
 obtain⟨D,L,h,r1,r2⟩:=h
 obtain⟨es,clock,since,seen,c0,hb',F,hs,hD,hr',rest⟩:=h
 exact⟨D,L,⟨es,clock,since,seen,c0,(hk.same b hb h1).trans hb',F,hs,hD,(hk.same r hr h2).trans hr',rest⟩,r1,r2⟩
variable {ops:Array Oper} {rest:List Oper} {o:Oper} {a:Act} {Q:Exit→Act→World→Prop}
theorem wpList_mapWriteV (hg:o.guard=none) (m x v:Operand) (hop:o.op=Op.mapUpdate T m x v) (hk:P.underlying K=some (.int .i64)) (ht:P.underlying T=some (.map K E)) (h:MpV P K w b n f s) (hn:n < 1000000) (hm:a.eval m= .map (some b)) (k:Int) (hx:a.eval x= .int .i64 k) (hkk:okI k) (y:Value) (hv:a.eval v=y)
 (hK:∀w',MpV P K w' b (n+1) (upd f k (some y)) (if(f k).isSome then s else s+1)→w.grownBy w' (some b)→wpList P ops Q rest (a.put o.dst undef) w'):wpList P ops Q (o :: rest) a w:=by
 refine wpList_plain hg fun K' hK'=>?_
 obtain⟨w',hrun,r1,r2⟩:=h.write hk ht hn hkk y
 unfold Oper.wp
 simp[execOp,hop,hm,hx,hv,hrun,Result.andThen]
 exact hK' _ _ (hK w' r1 r2)
theorem wpList_mapLookV (hg:o.guard=none) (m x:Operand) (hop:o.op=Op.lookup T m x true) (hk:P.underlying K=some (.int .i64)) (ht:P.underlying T=some (.map K E)) {z:Value} (hz:(zeroValue E).run P w= .ok z w) (h:MpV P K w b n f s) (hm:a.eval m= .map (some b)) (k:Int) (hx:a.eval x= .int .i64 k) (hkk:okI k)
 (hK:wpList P ops Q rest (a.put o.dst (.tuple #[(f k).getD z,.bool (f k).isSome])) w):wpList P ops Q (o :: rest) a w:=by
 refine wpList_plain hg fun K' hK'=>?_
 unfold Oper.wp
 simp[execOp,hop,hm,hx,h.look hk ht hz hkk,Result.andThen]
 exact hK' _ _ hK
end
end Go.Proofs.YtiioegopckoldaaGreatDoor
namespace Go.Proofs.YtiioegopckoldaaGreatDoor
open Go.RowKit Go.Shelf Go.Maps Go.MapKept Go.ChangeMaps
def okU (x:Int):Prop:=0≤x∧x≤255
theorem okU_wf {x:Int} (h:okU x):(Lit.int .u8 x).wf=true:=by
 have h1:IntKind.u8.min=0:=by decide
 have h2:IntKind.u8.max=255:=by decide
 simp only[Lit.wf,h1,h2,decide_eq_true h.1,decide_eq_true h.2,Bool.and_self]
def MpU (P:Program) (K:TypeId) (w:World) (b n:Nat) (f:Int→Option Value) (s:Nat):Prop:=
 ∃D:DataW Value,w.ownsMap P K RV b n D∧Tidy D∧(∀(k:Int) z,D.atKey (.int .u8 k) z=match f k with | some x=> .held x | none=>z)∧(∀k,has D (.int .u8 k)=(f k).isSome)∧size D=s
section
variable {P:Program} {T K E:TypeId} {w w':World} {b n s:Nat} {f:Int→Option Value}
theorem MpU.made (w:World) (P:Program) (K:TypeId):MpU P K (w.alloc (.map #[] 0)) w.heap.size 0 (fun _=>none) 0:=
 ⟨.map [],World.ownsMap_made w P K _,tidy_empty,fun _ _=>rfl,fun _=>rfl,rfl⟩
theorem MpU.lt (h:MpU P K w b n f s):b < w.heap.size:=let⟨_,h,_⟩:=h;h.lt
theorem MpU.mono (h:MpU P K w b n f s) {n':Nat} (hn:n≤n'):MpU P K w b n' f s:=let⟨D,h,r⟩:=h;⟨D,h.mono hn,r⟩
theorem MpU.keptR {R:Nat→Prop} (h:MpU P K w b n f s) (hk:Kept R w w') (hb:R b):MpU P K w' b n f s:=by
 obtain⟨D,h,r⟩:=h
 have hlt:=h.lt
 obtain⟨es,clock,hb',F,hs,hD⟩:=h
 exact⟨D,⟨es,clock,(hk.same b hb hlt).trans hb',F,hs,hD⟩,r⟩
theorem MpU.bel (h:MpU P K w b n f s) (hb:Below w.heap.size w w'):MpU P K w' b n f s:=h.keptR (Kept.all (fun _=>True) hb) trivial
theorem MpU.congr {g:Int→Option Value} (h:MpU P K w b n f s) (hg:∀k,g k=f k):MpU P K w b n g s:=by
 obtain rfl:g=f:=funext hg
 exact h
theorem MpU.write (h:MpU P K w b n f s) (hk:P.underlying K=some (.int .u8)) (ht:P.underlying T=some (.map K E)) (hn:n < 1000000) {k:Int} (hkk:okU k) (x:Value) :
 ∃w',(Instr.mapUpdate T (.map (some b)) (.int .u8 k) x).run P w= .ok () w'∧MpU P K w' b (n+1) (upd f k (some x)) (if(f k).isSome then s else s+1)∧w.grownBy w' (some b):=by
 obtain⟨D,h,htd,hat,hhas,hs⟩:=h
 obtain⟨w',hrun,h1,h2⟩:=h.update (int_keyed hk) ht (by simp only[maxLen];omega) (keyOf_int_mk hk (okU_wf hkk)) (show RV x=some (.held x,[]) from rfl)
 refine⟨w',hrun,⟨_,h1,htd.put (k:= .int .u8 k) trivial _,fun j z=>?_,fun j=>?_,?_⟩,h2⟩
 ·unfold upd
  by_cases e:j=k
  ·subst e;rw[if_pos rfl];exact atKey_put_same (k:= .int .u8 j) htd.isMap trivial _ _
  ·rw[if_neg e,atKey_put_other (by simpa using e)];exact hat j z
 ·unfold upd
  by_cases e:j=k
  ·subst e;rw[if_pos rfl];exact has_put_same (k:= .int .u8 j) htd.isMap trivial _
  ·rw[if_neg e,has_put_other (by simpa using e)];exact hhas j
 ·rw[size_put htd,hhas,hs]
theorem MpU.look (h:MpU P K w b n f s) (hk:P.underlying K=some (.int .u8)) (ht:P.underlying T=some (.map K E)) {z:Value} (hz:(zeroValue E).run P w= .ok z w) {k:Int} (hkk:okU k) :
 (Instr.lookup T (.map (some b)) (.int .u8 k) true).run P w= .ok (.tuple #[(f k).getD z,.bool (f k).isSome]) w:=by
 obtain⟨D,h,_,hat,hhas,_⟩:=h
 obtain⟨v,ps,hrun,hv⟩:=h.look_ok (int_keyed hk) ht hz (show RV z=some (.held z,[]) from rfl) (keyOf_int_mk hk (okU_wf hkk))
 rw[hat k] at hv
 rw[hrun,hhas]
 cases hf:f k with
 | none=>rw[hf] at hv;simp[RV] at hv;rw[hv.1];rfl
 | some x=>rw[hf] at hv;simp[RV] at hv;rw[hv.1];rfl
variable {ops:Array Oper} {rest:List Oper} {o:Oper} {a:Act} {Q:Exit→Act→World→Prop}
theorem wpList_mapInsU (hg:o.guard=none) (m x v:Operand) (hop:o.op=Op.insert T m x v) (hk:P.underlying K=some (.int .u8)) (ht:P.underlying T=some (.map K E)) (h:MpU P K w b n f s) (hn:n < 1000000) (hm:a.eval m= .map (some b)) (k:Int) (hx:a.eval x= .int .u8 k) (hkk:okU k) (y:Value) (hv:a.eval v=y)
 (hK:∀w',MpU P K w' b (n+1) (upd f k (some y)) (if(f k).isSome then s else s+1)→w.grownBy w' (some b)→wpList P ops Q rest (a.put o.dst undef) w'):wpList P ops Q (o :: rest) a w:=by
 refine wpList_plain hg fun K' hK'=>?_
 obtain⟨w',hrun,r1,r2⟩:=h.write hk ht hn hkk y
 unfold Oper.wp
 simp[execOp,hop,hm,hx,hv,hrun,Result.andThen]
 exact hK' _ _ (hK w' r1 r2)
end
end Go.Proofs.YtiioegopckoldaaGreatDoor
namespace Go.Proofs.YtiioegopckoldaaGreatDoor
open Go.RowKit Go.Shelf
set_option maxHeartbeats 4000000 in
set_option maxRecDepth 100000 in
theorem htells_one (A:Option Addr) (c:Nat) (h0 h1 s0 s1 day:Int) (w:World) :
 Calls Tryz.prog 270 #[.agg #[.slice A 1 c,.slice none 0 0,.int .i64 h0,.int .i64 h1,.int .i64 s0,.int .i64 s1,.int .i64 day]] w fun e w'=>∃bm q b s f,e= .returned (.map (some bm))∧MpU Tryz.prog 5 w' bm 4 f s∧f 1=some (.func (.func 282) #[] #[.pointer (some ⟨q,0,none⟩)])∧At w' q [.func (.func 281) #[] #[.pointer (some ⟨b,0,none⟩)]]∧At w' b (kpCells A c h0 h1 s0 s1 day)∧Below w.heap.size w w':=by
 obtain⟨b1,w1,e1,ew1,hx1,hb1,hz1⟩:=mk_bx w #[.slice A 1 c,.slice none 0 0,.int .i64 h0,.int .i64 h1,.int .i64 s0,.int .i64 s1,.int .i64 day] 360
 have hx1:Bx w1 b1 (kpCells A c h0 h1 s0 s1 day):=hx1
 obtain⟨b2,w2,e2,ew2,hx2,hb2,hz2⟩:=mk_bx w1 #[.func (.func 281) #[] #[.pointer (some ⟨b1,0,none⟩)]] 393
 have hx2:Bx w2 b2 [.func (.func 281) #[] #[.pointer (some ⟨b1,0,none⟩)]]:=hx2
 obtain⟨w3,ew3⟩:∃w3,Hid (w2.alloc (.map #[] 0)=w3):=⟨_,hide rfl⟩
 have hm3:=MpU.made w2 Tryz.prog 5
 have hb3:Below w2.heap.size w2 (w2.alloc (.map #[] 0)):=below_new _ _
 rw[ew3.out] at hm3 hb3
 obtain⟨bm,ebm⟩:∃bm,Hid (w2.heap.size=bm):=⟨_,hide rfl⟩
 rw[ebm.out] at hm3
 have hl:w.heap.size≤bm:=by have:=(hb1.trans (hb2.mono hb1.size)).size;have:=ebm.out;omega
 have hn1:b1≠bm:=by have:=hx1.lt;have:=hb2.size;have:=ebm.out;omega
 have hn2:b2≠bm:=by have:=hx2.lt;have:=ebm.out;omega
 have HX1:=hide ((hx1.at_.below hb2).below hb3);have HX2:=hide (hx2.at_.below hb3);have HB3:=hide ((hb1.trans (hb2.mono hb1.size)).trans (hb3.mono (hb1.trans (hb2.mono hb1.size)).size))
 have HM3:=hide hm3
 clear hx1 hx2 hb1 hb2 hb3 hz1 hz2 hm3
 go_enter Tryz.func270,Tryz.ntmps270
 go_upto_region 1 with fail
 rw[ew1.out,e1.out]
 go_upto_region 2 with fail
 rw[ew2.out,e2.out]
 have hmm:=@run_makeMap Tryz.prog
 go_wp2_with (first | (rw[ew3.out,ebm.out];clear hmm ew1 e1 ew2 e2 ew3 ebm) | (refine wpList_mapInsU rfl (.tmp 5) (.const (.int .u8 4)) (.func 286) rfl Tryz.underlying5 Tryz.underlying377 HM6.out (by omega) rfl 4 rfl (by unfold okU;omega) _ rfl ?_;intro w7 hM7 hg7;have HM7:=hide hM7;have HG7:=hide (Kept.grown hg7);clear hM7 hg7) | (refine wpList_mapInsU rfl (.tmp 5) (.const (.int .u8 3)) (.tmp 8) rfl Tryz.underlying5 Tryz.underlying377 HM5.out (by omega) rfl 3 rfl (by unfold okU;omega) _ rfl ?_;intro w6 hM6 hg6;have HM6:=hide hM6;have HG6:=hide (Kept.grown hg6);clear hM6 hg6) | (refine wpList_mapInsU rfl (.tmp 5) (.const (.int .u8 2)) (.tmp 7) rfl Tryz.underlying5 Tryz.underlying377 HM4.out (by omega) rfl 2 rfl (by unfold okU;omega) _ rfl ?_;intro w5 hM5 hg5;have HM5:=hide hM5;have HG5:=hide (Kept.grown hg5);clear hM5 hg5) | (refine wpList_mapInsU rfl (.tmp 5) (.const (.int .u8 1)) (.tmp 6) rfl Tryz.underlying5 Tryz.underlying377 HM3.out (by omega) rfl 1 rfl (by unfold okU;omega) _ rfl ?_;intro w4 hM4 hg4;have HM4:=hide hM4;have HG4:=hide (Kept.grown hg4);clear hM4 hg4))
 have K:=((HG4.out.trans HG5.out).trans HG6.out).trans HG7.out
 have HA:=hide (HX2.out.kept K (fun e=>hn2 (by injection e)))
 have HB:=hide (HX1.out.kept K (fun e=>hn1 (by injection e)))
 have HW:=hide (HB3.out.trans (K.below (B:=w.heap.size) (fun b hb e=>by injection e;omega) HB3.out.size))
 clear K
 go_ret
 exact⟨bm,rfl,b2,b1,_,_,HM7.out,by simp[upd];rfl,HA.out,HB.out,HW.out⟩
end Go.Proofs.YtiioegopckoldaaGreatDoor
namespace Go.Proofs.YtiioegopckoldaaGreatDoor
open Go.RowKit Go.Shelf
set_option maxHeartbeats 4000000 in
set_option maxRecDepth 100000 in
theorem htell_one (A:Option Addr) (c:Nat) (lo hi h0 h1 s0 s1 day x2 x3 x4:Int) (w:World) (hx:Rd w w.heap.size Sp.cells A [⟨lo,hi⟩]) (g1: -1000000000≤lo) (g2:lo≤1000000000) (g3: -1000000000≤hi) (g4:hi≤1000000000) :
 Calls Tryz.prog 252 #[.agg #[.slice A 1 c,.slice none 0 0,.int .i64 h0,.int .i64 h1,.int .i64 s0,.int .i64 s1,.int .i64 day],.agg #[.int .u8 1,.int .i64 0,.int .i64 x2,.int .i64 x3,.int .i64 x4]] w fun e w'=>e= .returned (.tuple #[.agg #[.int .i64 (1000*lo),.int .i64 (1000*hi)],.bool true])∧Below w.heap.size w w':=by
 obtain⟨b1,w1,e1,ew1,hx1,hb1,hz1⟩:=mk_bx w #[.slice A 1 c,.slice none 0 0,.int .i64 h0,.int .i64 h1,.int .i64 s0,.int .i64 s1,.int .i64 day] 360
 have hx1:At w1 b1 (kpCells A c h0 h1 s0 s1 day):=hx1.at_
 obtain⟨b2,w2,e2,ew2,hx2,hb2,hz2⟩:=mk_bx w1 #[.int .u8 1,.int .i64 0,.int .i64 x2,.int .i64 x3,.int .i64 x4] 257
 have hx2:At w2 b2 [.int .u8 1,.int .i64 0,.int .i64 x2,.int .i64 x3,.int .i64 x4]:=hx2.at_
 obtain⟨b3,w3,e3,ew3,hx3,hb3,hz3⟩:=mk_bx w2 #[.int .i64 0,.int .i64 0] 295
 have hx3:Bx w3 b3 [.int .i64 0,.int .i64 0]:=hx3
 have h12:b1+1=b2:=by rw[←e2.out,hz1]
 have h23:b2+1=b3:=by rw[←e3.out,hz2]
 have hB12:=hb1.trans (hb2.mono hb1.size)
 have hB:=hB12.trans (hb3.mono hB12.size)
 have hX1:=(hx1.below hb2).below hb3
 have hX2:=hx2.below hb3
 have HX1:=hide hX1;have HX2:=hide hX2;have HX3:=hide hx3;have HB:=hide hB
 have HX:=hide ((hx.below hB).more hB.size)
 have hl3:w.heap.size≤b3:=by have:=hB12.size;have:=e3.out;omega
 obtain⟨q0,q1,q2,q3,q4,q5,q6⟩:=At.c7l hX1
 have z0:=hX2.2 0 _ rfl
 obtain⟨zf,Hz⟩:∃z,Hid (∀w:World,(zeroValue 364).run Tryz.prog w= .ok z w):=⟨Tryz.t364.zero.getD undef,hide (fun w=>by kernel_rfl)⟩
 clear hx hx1 hx2 hx3 hb1 hb2 hb3 hz1 hz2 hz3 hB12 hB hX1 hX2
 go_enter Tryz.func252,Tryz.ntmps252
 go_upto_region 1 with fail
 rw[ew1.out,e1.out,ew2.out,h12,h23,ew3.out]
 go_region_with (first | (go_at_call 270;go_loud (refine(htells_one A c h0 h1 s0 s1 day _).mono ?_;rintro e w4 ⟨bm,q,b,s,f,rfl,hM,hf,hq,hb,hB⟩;have X4:=At.below (p:=b2) (cs:=[.int .u8 1,.int .i64 0,.int .i64 x2,.int .i64 x3,.int .i64 x4]) (by exact HX2.out) hB;have z4:=X4.2 0 _ rfl;have hlk:=hM.look (T:=377) (E:=364) (z:=zf) Tryz.underlying5 Tryz.underlying377 (Hz.out _) (k:=1) (by unfold okU;omega);rw[hf] at hlk;simp only[Option.getD_some,Option.isSome_some] at hlk;have X5:=Bx.below (p:=b3) (cs:=[.int .i64 0,.int .i64 0]) (by first | exact HX3.out | exact HX3.out.drew) hB;have HX5:=hide X5;have HT4:=hide X4;have HB5:=hide (show Below w.heap.size w w4 from Below.trans (by first | exact HB.out | exact HB.out.drew) (hB.mono (by first | exact HB.out.size | exact HB.out.drew.size)));have HR5:=hide ((Rd.below (cells:=Sp.cells) (A:=A) (xs:=[⟨lo,hi⟩]) (by first | exact HX.out | exact HX.out.drewN 1) hB).more hB.size);clear X4 X5;have HM:=hide hM;have Hf:=hide hf;have Hq:=hide hq;have Hb:=hide hb;have HB4:=hide hB;clear hM hf hq hb hB)))
 all_goals
  clear hlk z4 q0 q1 q2 q3 q4 q5 q6 z0
  have y0:=HT4.out.2 0 _ rfl
  have y1:=HT4.out.2 1 _ rfl
  have y2:=HT4.out.2 2 _ rfl
  have y3:=HT4.out.2 3 _ rfl
  have y4:=HT4.out.2 4 _ rfl
  go_wp2_with fail
  refine(hmark_one A c lo hi h0 h1 s0 s1 day x2 x3 x4 b q w4 Hb.out Hq.out HR5.out g1 g2 g3 g4).mono ?_
  rintro e w5 ⟨rfl,hb5⟩
  have HX6:=hide (HX5.out.below hb5)
  have HB6:=hide (HB5.out.trans (hb5.mono HB5.out.size))
  obtain⟨k0,k1,k2,k3⟩:=HX6.out.w2
  clear hb5 y0 y1 y2 y3 y4
  go_wp2_with fail
  have hF:=HX6.out.set2 (.int .i64 (1000*lo)) (.int .i64 (1000*hi))
  have HW:=hide ((HB6.out.setCell (p:=⟨b3,0,none⟩) hl3 (.int .i64 (1000*lo))).setCell (p:=⟨b3,1,none⟩) hl3 (.int .i64 (1000*hi)))
  clear k0 k1 k2 k3
  generalize (w5.setCell ⟨b3,0,none⟩ (.int .i64 (1000*lo))).setCell ⟨b3,1,none⟩ (.int .i64 (1000*hi))=W at hF HW ⊢
  obtain⟨k0,k1⟩:=hF.at_.c2
  refine bodyPost_ret (by simp[results,Tryz.results252,go_sem,k0,k1];try rfl) rfl ?_
  exact⟨rfl,HW.out⟩
end Go.Proofs.YtiioegopckoldaaGreatDoor
namespace Go.Proofs.YtiioegopckoldaaGreatDoor
open Go.RowKit Go.Shelf
theorem el_ends:ElLaw Tryz.prog 341 295 2 16 Sp.cells:=elLaw_of Tryz.underlying341 (z:= .agg #[.int .i64 0,.int .i64 0]) (by kernel_rfl) rfl (by omega) (fun _=>rfl) Sp.one (by omega)
def teCells:List Value:=[.int .u8 1,.int .i64 0,.int .i64 0,.int .i64 0,.int .i64 0]
set_option maxHeartbeats 4000000 in
set_option maxRecDepth 100000 in
theorem htold_one (A:Option Addr) (c ct bt:Nat) (lo hi h0 h1 s0 s1 day:Int) (w:World) (ht:At w bt teCells) (hx:Rd w w.heap.size Sp.cells A [⟨lo,hi⟩]) (g1: -1000000000≤lo) (g2:lo≤1000000000) (g3: -1000000000≤hi) (g4:hi≤1000000000) :
 Calls Tryz.prog 255 #[.agg #[.slice A 1 c,.slice none 0 0,.int .i64 h0,.int .i64 h1,.int .i64 s0,.int .i64 s1,.int .i64 day],.slice (some ⟨bt,0,none⟩) 1 ct] w fun e w'=>∃v,e= .returned (.tuple #[v,.bool true])∧Own w' w.heap.size 295 2 Sp.cells v [⟨1000*lo,1000*hi⟩]∧Below w.heap.size w w':=by
 obtain⟨b1,w1,e1,ew1,hx1,hb1,hz1⟩:=mk_bx w #[.slice A 1 c,.slice none 0 0,.int .i64 h0,.int .i64 h1,.int .i64 s0,.int .i64 s1,.int .i64 day] 360
 have hx1:At w1 b1 (kpCells A c h0 h1 s0 s1 day):=hx1.at_
 have HT:=hide (show At w1 bt [.int .u8 1,.int .i64 0,.int .i64 0,.int .i64 0,.int .i64 0] from ht.below hb1);have HX1:=hide hx1;have HB1:=hide hb1
 have HX:=hide ((hx.below hb1).more hb1.size)
 clear ht hx hx1 hb1 hz1
 go_enter Tryz.func255,Tryz.ntmps255
 go_wp2_with fail
 rw[ew1.out,e1.out]
 clear ew1 e1
 go_loopw [13,6] (fun i m wr=>(i= .int .i64 0∧m= .slice none 0 0∧w1=wr)∨(i= .int .i64 1∧Hid (Own wr w.heap.size 295 2 Sp.cells m [⟨1000*lo,1000*hi⟩])∧Hid (Below w.heap.size w wr))) (fun i _ _=>1-(intOf i).toNat)
 case atStart=>exact .inl ⟨rfl,rfl,rfl⟩
 case round=>
  rcases hrel with⟨rfl,rfl,rfl⟩ | ⟨rfl,ho,hk⟩
  ·obtain⟨b8,w8,e8,ew8,hx8,hb8,hz8⟩:=mk_bx w1 #[.int .u8 1,.int .i64 0,.int .i64 0,.int .i64 0,.int .i64 0] 257
   have hx8:At w8 b8 [.int .u8 1,.int .i64 0,.int .i64 0,.int .i64 0,.int .i64 0]:=hx8.at_
   have HB8:=hide (HB1.out.trans (hb8.mono HB1.out.size))
   have HRx:=hide ((HX.out.below hb8).more hb8.size)
   obtain⟨q0,q1,q2,q3,q4,q5,q6⟩:=At.c7l (HX1.out.below hb8)
   have z0:=HT.out.2 0 _ rfl
   have z1:=HT.out.2 1 _ rfl
   have z2:=HT.out.2 2 _ rfl
   have z3:=HT.out.2 3 _ rfl
   have z4:=HT.out.2 4 _ rfl
   have y0:=hx8.2 0 _ rfl
   have y1:=hx8.2 1 _ rfl
   have y2:=hx8.2 2 _ rfl
   have y3:=hx8.2 3 _ rfl
   have y4:=hx8.2 4 _ rfl
   clear hx8 hb8 hz8
   go_upto_region 5 with fail
   rw[ew8.out,e8.out]
   clear ew8 e8 z0 z1 z2 z3 z4
   go_wp2_with fail
   refine(htell_one A c lo hi h0 h1 s0 s1 day 0 0 0 w8 HRx.out g1 g2 g3 g4).mono ?_
   rintro e w9 ⟨rfl,hb9⟩
   have HB9:=hide (HB8.out.trans (hb9.mono HB8.out.size))
   obtain⟨b10,w10,e10,ew10,hx10,hb10,hz10⟩:=mk_bx w9 #[.int .i64 (1000*lo),.int .i64 (1000*hi)] 295
   have hx10:At w10 b10 [.int .i64 (1000*lo),.int .i64 (1000*hi)]:=hx10.at_
   obtain⟨k0,k1⟩:=hx10.c2
   have HB10:=hide (HB9.out.trans (hb10.mono HB9.out.size))
   have hnil:=hide (Own.nil (cells:=Sp.cells) w10 w.heap.size 295 2)
   clear q0 q1 q2 q3 q4 q5 q6 y0 y1 y2 y3 y4 hx10 hb10 hb9 hz10
   go_upto_region 8 with fail
   rw[ew10.out,e10.out]
   clear ew10 e10
   go_wp2_with (at_builtin;go_loud (refine wpList_app1h (v:= .slice none 0 0) (xs:=[]) (base:=w.heap.size) (k:=2) (bytes:=16) (E:=295) el_ends rfl (.tmp 25) (.tmp 27) rfl rfl rfl hnil.out (⟨1000*lo,1000*hi⟩:Sp) rfl (by simp) HB10.out.size ?_;intro v' w11 o11 k11 hat;have O11:=hide o11;have K11:=hide k11;clear o11 k11 hat))
   exact⟨.inr ⟨by go_num,hide (by simpa using O11.out),hide (HB10.out.trans (K11.out.below (fun b _ e=>by cases e) HB10.out.size))⟩,by simp[intOf]⟩
  ·go_wp2_with fail
   refine bodyPost_ret (by simp[results,Tryz.results255,go_sem];try rfl) rfl ?_
   exact⟨_,rfl,ho.out,hk.out⟩
end Go.Proofs.YtiioegopckoldaaGreatDoor
namespace Go.Proofs.YtiioegopckoldaaGreatDoor
open Go.RowKit Go.Shelf
set_option maxHeartbeats 4000000 in
set_option maxRecDepth 100000 in
theorem hheard_one (A:Option Addr) (c ct bt:Nat) (lo hi h0 h1 s0 s1 day:Int) (w:World) (ht:At w bt teCells) (hx:Rd w w.heap.size Sp.cells A [⟨lo,hi⟩]) (hm:Sp.ok (-100000) 100000 ⟨lo,hi⟩=true) (hh:Sp.ok 0 60000 ⟨h0,h1⟩=true) (hs:Sp.ok 1000 100000 ⟨s0,s1⟩=true) (hd:inB 0 100000 day=true) :
 Calls Tryz.prog 227 #[.agg #[.slice A 1 c,.slice none 0 0,.int .i64 h0,.int .i64 h1,.int .i64 s0,.int .i64 s1],.int .i64 day,.slice (some ⟨bt,0,none⟩) 1 ct] w fun e w'=>∃A' c',e= .returned (.tuple #[.slice A' 1 c',.int .i64 0])∧Rd w' w'.heap.size Sp.cells A' [⟨1000*lo,1000*hi⟩]∧Below w.heap.size w w':=by
 have hb:=hm
 simp only[Sp.ok,Bool.and_eq_true,decide_eq_true_eq] at hb
 obtain⟨b1,w1,e1,ew1,hx1,hb1,hz1⟩:=mk_bx w #[.slice A 1 c,.slice none 0 0,.int .i64 h0,.int .i64 h1,.int .i64 s0,.int .i64 s1] 86
 have hx1:At w1 b1 [.slice A 1 c,.slice none 0 0,.int .i64 h0,.int .i64 h1,.int .i64 s0,.int .i64 s1]:=hx1.at_
 have HO:=hide (hopen_one A c ⟨lo,hi⟩ h0 h1 s0 s1 day w1 ((hx.below hb1).more hb1.size) hm hh hs hd)
 have HT:=hide (ht.below hb1);have HB1:=hide hb1;have HX:=hide ((hx.below hb1).more hb1.size)
 obtain⟨q0,q1,q2,q3,q4,q5⟩:=hx1.c6l
 clear ht hx hb1 hz1 hx1 hm hh hs hd
 go_enter Tryz.func227,Tryz.ntmps227
 go_upto_region 1 with fail
 rw[ew1.out,e1.out]
 clear ew1 e1
 go_wp2_with fail
 refine HO.out.mono ?_
 rintro e w2 ⟨rfl,hb2⟩
 have HT2:=HT.out.below hb2
 have HX2:=(HX.out.below hb2).more hb2.size
 have HB2:=HB1.out.trans (hb2.mono HB1.out.size)
 obtain⟨b3,w3,e3,ew3,hx3,hb3,hz3⟩:=mk_bx w2 #[.slice A 1 c,.slice none 0 0,.int .i64 h0,.int .i64 h1,.int .i64 s0,.int .i64 s1,.int .i64 day] 360
 obtain⟨p0,p1,p2,p3,p4,p5,p6⟩:=At.c7l (show At w3 b3 [.slice A 1 c,.slice none 0 0,.int .i64 h0,.int .i64 h1,.int .i64 s0,.int .i64 s1,.int .i64 day] from hx3.at_)
 have HT3:=hide (HT2.below hb3)
 have HX3:=hide ((HX2.below hb3).more hb3.size)
 have HB3:=hide (HB2.trans (hb3.mono HB2.size))
 clear hx3 hb3 hz3 HB2 HX2 HT2 hb2 q0 q1 q2 q3 q4 q5
 go_upto_region 2 with fail
 rw[ew3.out,e3.out]
 clear ew3 e3
 go_wp2_with fail
 refine(htold_one A c ct bt lo hi h0 h1 s0 s1 day w3 HT3.out HX3.out (by omega) (by omega) (by omega) (by omega)).mono ?_
 rintro e w4 ⟨v,rfl,ho,hb4⟩
 obtain⟨A4,c4,rfl,r4⟩:=ho.rdn 1 rfl
 have HB4:=hide (HB3.out.trans (hb4.mono HB3.out.size));have R4:=hide r4
 clear ho r4 hb4 p0 p1 p2 p3 p4 p5 p6
 go_wp2_with fail
 refine bodyPost_ret (by simp[results,Tryz.results227,go_sem];try rfl) rfl ?_
 exact⟨A4,c4,rfl,R4.out,HB4.out⟩
def Nv (w:World):Prop:=At w 0 [.int .i64 1,.int .i64 0]
theorem Nv.below {w w':World} (h:Nv w) (hb:Below w.heap.size w w'):Nv w':=At.below h hb
theorem eql_endsA (w:World):(Op.equalIn 10000 295 (.agg #[.int .i64 700000,.int .i64 710000]) (.agg #[.int .i64 1,.int .i64 0])).run Tryz.prog w= .ok false w:=by kernel_rfl
attribute [local go_sem] eql_endsA
theorem comA:commonF ⟨700000,710000⟩ [⟨700000,710000⟩]=⟨700000,710000⟩:=by decide
set_option maxHeartbeats 4000000 in
set_option maxRecDepth 100000 in
theorem hmoment_A (A:Option Addr) (c ct bt:Nat) (w:World) (hv:Nv w) (ht:At w bt teCells) (hx:Rd w w.heap.size Sp.cells A [⟨700,710⟩]) :
 Calls Tryz.prog 187 #[.agg #[.slice A 1 c,.slice none 0 0,.int .i64 0,.int .i64 0,.int .i64 1000,.int .i64 1000],.int .i64 3,.slice (some ⟨bt,0,none⟩) 1 ct] w fun e w'=>e= .returned (.tuple #[.agg #[.int .i64 700000,.int .i64 710000],.int .i64 0])∧Below w.heap.size w w':=by
 obtain⟨b1,w1,e1,ew1,hx1,hb1,hz1⟩:=mk_bx w #[.slice A 1 c,.slice none 0 0,.int .i64 0,.int .i64 0,.int .i64 1000,.int .i64 1000] 86
 have hx1:At w1 b1 [.slice A 1 c,.slice none 0 0,.int .i64 0,.int .i64 0,.int .i64 1000,.int .i64 1000]:=hx1.at_
 obtain⟨b2,w2,e2,ew2,hx2,hb2,hz2⟩:=mk_bx w1 #[.int .i64 0,.int .i64 0] 295
 have hx2:Bx w2 b2 [.int .i64 0,.int .i64 0]:=hx2
 have h12:b1+1=b2:=by rw[←e2.out,hz1]
 have hB2:=hb1.trans (hb2.mono hb1.size)
 have hl2:w.heap.size≤b2:=by have:=hb1.size;have:=e2.out;omega
 have HO:=hide (hheard_one A c ct bt 700 710 0 0 1000 1000 3 w2 (ht.below hB2) ((hx.below hB2).more hB2.size) (by decide) (by decide) (by decide) (by decide))
 have HB2:=hide hB2;have HX2:=hide hx2;have HV:=hide (hv.below hB2)
 obtain⟨q0,q1,q2,q3,q4,q5⟩:=(hx1.below hb2).c6l
 clear ht hx hb1 hz1 hx1 hv hx2 hb2 hz2 hB2
 go_enter Tryz.func187,Tryz.ntmps187
 go_upto_region 1 with fail
 rw[ew1.out,e1.out,ew2.out,h12]
 clear ew1 e1 ew2 e2
 go_wp2_with fail
 refine HO.out.mono ?_
 rintro e w3 ⟨A3,c3,rfl,r3,hb3⟩
 obtain⟨b,o,x,y,rfl,hb,hxy,f0,f1⟩:=r3.sp (i:=0) (by simp)
 simp only[List.getElem?_cons_zero,Option.some.injEq,Sp.mk.injEq] at hxy
 obtain⟨rfl,rfl⟩:=hxy
 rw[show o+0*2=o by omega] at f0 f1
 have HB3:=hide (HB2.out.trans (hb3.mono HB2.out.size));have HX3:=hide (HX2.out.below hb3);have HV3:=hide (HV.out.below hb3);have R3:=hide r3
 clear q0 q1 q2 q3 q4 q5 r3 hb hb3
 go_wp2_with fail
 refine(hcommon_any 700000 710000 (some ⟨b,o,none⟩) [⟨700000,710000⟩] 1 c3 w3 R3.out rfl (by omega) (by rw[comA];decide)).mono ?_
 rintro e w4 ⟨rfl,hb4⟩
 rw[comA]
 have HB4:=HB3.out.trans (hb4.mono HB3.out.size)
 obtain⟨b5,w5,e5,ew5,hx5,hb5,hz5⟩:=mk_bx w4 #[.int .i64 700000,.int .i64 710000] 295
 have HX5:=hide ((HX3.out.below hb4).below hb5);have HB5:=hide (HB4.trans (hb5.mono HB4.size))
 obtain⟨v0,v1⟩:=((HV3.out.below hb4).below hb5).c2
 obtain⟨p0,p1⟩:=(show At w5 b5 [.int .i64 700000,.int .i64 710000] from hx5.at_).c2
 obtain⟨k0,k1,k2,k3⟩:=HX5.out.w2
 clear f0 f1 hx5 hb5 hz5 HB4 hb4
 go_upto_region 5 with fail
 rw[ew5.out,e5.out]
 clear ew5 e5
 go_wp2_with fail
 have hF:=HX5.out.set2 (.int .i64 700000) (.int .i64 710000)
 have HW:=hide ((HB5.out.setCell (p:=⟨b2,0,none⟩) hl2 (.int .i64 700000)).setCell (p:=⟨b2,1,none⟩) hl2 (.int .i64 710000))
 clear k0 k1 k2 k3 p0 p1 v0 v1
 generalize (w5.setCell ⟨b2,0,none⟩ (.int .i64 700000)).setCell ⟨b2,1,none⟩ (.int .i64 710000)=W at hF HW ⊢
 obtain⟨k0,k1⟩:=hF.at_.c2
 refine bodyPost_ret (by simp[results,Tryz.results187,go_sem,k0,k1];try rfl) rfl ?_
 exact⟨rfl,HW.out⟩
set_option maxHeartbeats 4000000 in
set_option maxRecDepth 100000 in
theorem hAll_A (A:Option Addr) (c ct bt:Nat) (w:World) (hv:Nv w) (ht:At w bt teCells) (hx:Rd w w.heap.size Sp.cells A [⟨700,710⟩]) :
 Calls Tryz.prog 144 #[.agg #[.slice A 1 c,.slice none 0 0,.int .i64 0,.int .i64 0,.int .i64 1000,.int .i64 1000],.int .i64 3,.slice (some ⟨bt,0,none⟩) 1 ct] w fun e w'=>e= .returned (.tuple #[.agg #[.int .i64 700,.int .i64 710],.int .i64 0])∧Below w.heap.size w w':=by
 obtain⟨b1,w1,e1,ew1,hx1,hb1,hz1⟩:=mk_bx w #[.slice A 1 c,.slice none 0 0,.int .i64 0,.int .i64 0,.int .i64 1000,.int .i64 1000] 86
 have hx1:At w1 b1 [.slice A 1 c,.slice none 0 0,.int .i64 0,.int .i64 0,.int .i64 1000,.int .i64 1000]:=hx1.at_
 obtain⟨b2,w2,e2,ew2,hx2,hb2,hz2⟩:=mk_bx w1 #[.int .i64 0,.int .i64 0] 24
 have hx2:Bx w2 b2 [.int .i64 0,.int .i64 0]:=hx2
 have h12:b1+1=b2:=by rw[←e2.out,hz1]
 have hB2:=hb1.trans (hb2.mono hb1.size)
 have hl2:w.heap.size≤b2:=by have:=hb1.size;have:=e2.out;omega
 have HO:=hide (hmoment_A A c ct bt w2 (hv.below hB2) (ht.below hB2) ((hx.below hB2).more hB2.size))
 have HB2:=hide hB2;have HX2:=hide hx2
 obtain⟨q0,q1,q2,q3,q4,q5⟩:=(hx1.below hb2).c6l
 clear ht hx hb1 hz1 hx1 hv hx2 hb2 hz2 hB2
 go_enter Tryz.func144,Tryz.ntmps144
 go_upto_region 1 with fail
 rw[ew1.out,e1.out,ew2.out,h12]
 clear ew1 e1 ew2 e2
 go_wp2_with fail
 refine HO.out.mono ?_
 rintro e w4 ⟨rfl,hb4⟩
 have HB4:=HB2.out.trans (hb4.mono HB2.out.size)
 obtain⟨b5,w5,e5,ew5,hx5,hb5,hz5⟩:=mk_bx w4 #[.int .i64 700000,.int .i64 710000] 295
 have HX5:=hide ((HX2.out.below hb4).below hb5);have HB5:=hide (HB4.trans (hb5.mono HB4.size))
 obtain⟨p0,p1⟩:=(show At w5 b5 [.int .i64 700000,.int .i64 710000] from hx5.at_).c2
 clear hx5 hb5 hz5 HB4 hb4 q0 q1 q2 q3 q4 q5
 go_upto_region 2 with fail
 rw[ew5.out,e5.out]
 clear ew5 e5
 go_wp2_with fail
 refine(hminutes_any 700000 710000 w5 (by omega) (by omega) (by omega) (by omega)).mono ?_
 rintro e w6 ⟨rfl,hb6⟩
 rw[show hdownF 700000=700 by decide,show -(hdownF (-710000))=710 by decide]
 have HX6:=hide (HX5.out.below hb6);have HB6:=hide (HB5.out.trans (hb6.mono HB5.out.size))
 obtain⟨k0,k1,k2,k3⟩:=HX6.out.w2
 clear p0 p1 hb6
 go_wp2_with fail
 have hF:=HX6.out.set2 (.int .i64 700) (.int .i64 710)
 have HW:=hide ((HB6.out.setCell (p:=⟨b2,0,none⟩) hl2 (.int .i64 700)).setCell (p:=⟨b2,1,none⟩) hl2 (.int .i64 710))
 clear k0 k1 k2 k3
 generalize (w6.setCell ⟨b2,0,none⟩ (.int .i64 700)).setCell ⟨b2,1,none⟩ (.int .i64 710)=W at hF HW ⊢
 obtain⟨k0,k1⟩:=hF.at_.c2
 refine bodyPost_ret (by simp[results,Tryz.results144,go_sem,k0,k1];try rfl) rfl ?_
 exact⟨rfl,HW.out⟩
end Go.Proofs.YtiioegopckoldaaGreatDoor
