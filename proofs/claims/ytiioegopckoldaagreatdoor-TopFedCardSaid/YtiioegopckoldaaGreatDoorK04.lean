/- lemmas for topFed_holds: Map RegIn. No conditions. -/
import Derived.Test.YtiioegopckoldaaGreatDoorK02
import Derived.Maps.OwnIn
import Derived.Maps.OwnOps
import Derived.OrdersIn
import Derived.OrdersHeld
import Derived.Handy
set_option linter.unusedVariables false
set_option linter.unusedSimpArgs false
namespace Go.Proofs.YtiioegopckoldaaGreatDoor
open Go.RowKit Go.Shelf Go.Maps Go.MapKept Go.ChangeMaps
structure MapLaw (P:Program) (T K E:TypeId) {β:Type} (el:β→Value) (ld:β→DataW Unit) (ok:β→Prop) (z0:β):Prop where
 key:Keyed P K
 ktype:P.underlying K=some (.int .i64)
 ty:P.underlying T=some (.map K E)
 zero:∀w,(zeroValue E).run P w= .ok (el z0) w
 put:∀x,ok x→plainElem (H:=Unit) P E (el x)=some (ld x,[])
 inv:∀v x ps,plainElem P E v=some (ld x,ps)→v=el x
 okz:ok z0
def ldB (x:Bool):DataW Unit:= .lit (.bool x)
def ldI (x:Int):DataW Unit:= .lit (.int .i64 x)
def okI (x:Int):Prop:= -9223372036854775808≤x∧x≤9223372036854775807
theorem okI_wf {x:Int} (h:okI x):(Lit.int .i64 x).wf=true:=by
 have h1:IntKind.i64.min= -9223372036854775808:=by decide
 have h2:IntKind.i64.max=9223372036854775807:=by decide
 simp only[Lit.wf,h1,h2,decide_eq_true h.1,decide_eq_true h.2,Bool.and_self]
theorem mapLaw_bool {P:Program} {T K E:TypeId} (hk:P.underlying K=some (.int .i64)) (ht:P.underlying T=some (.map K E)) (he:P.underlying E=some .bool) (hz:∀w,(zeroValue E).run P w= .ok (.bool false) w) :
 MapLaw P T K E Value.bool ldB (fun _=>True) false:=
 ⟨int_keyed hk,hk,ht,hz,fun x _=>plainElem_bool he x,fun v x ps h=>by
  unfold plainElem at h
  rw[he] at h
  cases v <;> simp[ldB] at h
  rw[h.1],trivial⟩
theorem mapLaw_int {P:Program} {T K E:TypeId} (hk:P.underlying K=some (.int .i64)) (ht:P.underlying T=some (.map K E)) (he:P.underlying E=some (.int .i64)) (hz:∀w,(zeroValue E).run P w= .ok (.int .i64 0) w) :
 MapLaw P T K E (Value.int .i64) ldI okI 0:=
 ⟨int_keyed hk,hk,ht,hz,fun x h=>plainElem_int he (okI_wf h),fun v x ps h=>by
  obtain⟨c,rfl,hc,_⟩:=plainElem_int_inv he h
  simp[ldI] at hc
  rw[hc.1],by constructor <;> decide⟩
def Mp {β:Type} (P:Program) (K E:TypeId) (ld:β→DataW Unit) (w:World) (b n:Nat) (f:Int→Option β) (s:Nat):Prop:=
 ∃D:DataW Unit,w.ownsMap P K (plainElem P E) b n D∧Tidy D∧(∀(k:Int) z,D.atKey (.int .i64 k) z=match f k with | some x=>ld x | none=>z)∧(∀k,has D (.int .i64 k)=(f k).isSome)∧size D=s
def upd {β:Type} (f:Int→Option β) (k:Int) (x:Option β) (j:Int):Option β:=if j=k then x else f j
section
variable {β:Type} {P:Program} {T K E:TypeId} {el:β→Value} {ld:β→DataW Unit} {ok:β→Prop} {z0:β} {w w':World} {b n s:Nat} {f:Int→Option β}
theorem Mp.made (w:World) (P:Program) (K E:TypeId) (ld:β→DataW Unit):Mp P K E ld (w.alloc (.map #[] 0)) w.heap.size 0 (fun _=>none) 0:=
 ⟨.map [],World.ownsMap_made w P K _,tidy_empty,fun _ _=>rfl,fun _=>rfl,rfl⟩
theorem Mp.lt (h:Mp P K E ld w b n f s):b < w.heap.size:=let⟨_,h,_⟩:=h;h.lt
theorem Mp.mono (h:Mp P K E ld w b n f s) {n':Nat} (hn:n≤n'):Mp P K E ld w b n' f s:=let⟨D,h,r⟩:=h;⟨D,h.mono hn,r⟩
theorem Mp.keptR {R:Nat→Prop} (h:Mp P K E ld w b n f s) (hk:Kept R w w') (hb:R b):Mp P K E ld w' b n f s:=by
 obtain⟨D,h,r⟩:=h
 have hlt:=h.lt
 obtain⟨es,clock,hb',F,hs,hD⟩:=h
 exact⟨D,⟨es,clock,(hk.same b hb hlt).trans hb',F,hs,hD⟩,r⟩
theorem Mp.below {B:Nat} (h:Mp P K E ld w b n f s) (hb:Below B w w') (hB:b < B):Mp P K E ld w' b n f s:=
 h.keptR (Kept.of_below hb (R:=fun b=>b < B) fun _ h=>h) hB
theorem Mp.alloc (h:Mp P K E ld w b n f s) (o:Obj):Mp P K E ld (w.alloc o) b n f s:=h.keptR (Kept.alloc (fun _=>True) w o) trivial
theorem Mp.congr {g:Int→Option β} (h:Mp P K E ld w b n f s) (hg:∀k,g k=f k):Mp P K E ld w b n g s:=by
 obtain rfl:g=f:=funext hg
 exact h
theorem Mp.read (h:Mp P K E ld w b n f s) (L:MapLaw P T K E el ld ok z0) {k:Int} (hk:okI k) :
 (Instr.lookup T (.map (some b)) (.int .i64 k) false).run P w= .ok (el ((f k).getD z0)) w:=by
 obtain⟨D,h,_,hat,_⟩:=h
 obtain⟨v,ps,hrun,hv⟩:=h.lookup L.key L.ty (L.zero w) (L.put z0 L.okz) (keyOf_int_mk L.ktype (okI_wf hk))
 rw[hat k] at hv
 rw[hrun]
 cases hf:f k with
 | none=>rw[hf] at hv;rw[L.inv _ _ _ hv];rfl
 | some x=>rw[hf] at hv;rw[L.inv _ _ _ hv];rfl
theorem Mp.write (h:Mp P K E ld w b n f s) (L:MapLaw P T K E el ld ok z0) (hn:n < 1000000) {k:Int} (hk:okI k) {x:β} (hx:ok x) :
 ∃w',(Instr.mapUpdate T (.map (some b)) (.int .i64 k) (el x)).run P w= .ok () w'∧Mp P K E ld w' b (n+1) (upd f k (some x)) (if(f k).isSome then s else s+1)∧w.grownBy w' (some b):=by
 obtain⟨D,h,ht,hat,hhas,hs⟩:=h
 obtain⟨w',hrun,h1,h2⟩:=h.update L.key L.ty (by simp only[maxLen];omega) (keyOf_int_mk L.ktype (okI_wf hk)) (L.put x hx)
 refine⟨w',hrun,⟨_,h1,ht.put (k:= .int .i64 k) trivial _,fun j z=>?_,fun j=>?_,?_⟩,h2⟩
 ·unfold upd
  by_cases e:j=k
  ·subst e;rw[if_pos rfl];exact atKey_put_same (k:= .int .i64 j) ht.isMap trivial _ _
  ·rw[if_neg e,atKey_put_other (by simpa using e)];exact hat j z
 ·unfold upd
  by_cases e:j=k
  ·subst e;rw[if_pos rfl];exact has_put_same (k:= .int .i64 j) ht.isMap trivial _
  ·rw[if_neg e,has_put_other (by simpa using e)];exact hhas j
 ·rw[size_put ht,hhas,hs]
theorem grown_of_turned (h:w.mapTurned w' b):w.grownBy w' (some b):=by
 obtain⟨es,clock,es',clock',hb,rfl⟩:=h
 exact⟨rfl,rfl,rfl,by simp[setBlock],fun i _ hi=>heap_setBlock_other hb _ (fun e=>hi (by rw[e]))⟩
theorem Mp.drop (h:Mp P K E ld w b n f s) (L:MapLaw P T K E el ld ok z0) {k:Int} (hk:okI k) (ty:TypeId) :
 ∃w',(Builtin.delete_ #[T,K] ty #[.map (some b),.int .i64 k]).run P w= .ok (.tuple #[]) w'∧Mp P K E ld w' b n (upd f k none) (if(f k).isSome then s-1 else s)∧w.grownBy w' (some b):=by
 obtain⟨D,h,ht,hat,hhas,hs⟩:=h
 obtain⟨w',hrun,h1,h2⟩:=h.drop L.key L.ty (keyOf_int_mk L.ktype (okI_wf hk)) ty
 refine⟨w',hrun,⟨_,h1,ht.del _,fun j z=>?_,fun j=>?_,?_⟩,grown_of_turned h2⟩
 ·unfold upd
  by_cases e:j=k
  ·subst e;rw[if_pos rfl];exact atKey_del_same _
  ·rw[if_neg e,atKey_del_other (by simpa using e)];exact hat j z
 ·unfold upd
  by_cases e:j=k
  ·subst e;rw[if_pos rfl];exact has_del_same
  ·rw[if_neg e,has_del_other (by simpa using e)];exact hhas j
 ·have:=size_del (k:= .int .i64 k) ht
  rw[hhas] at this
  cases hf:(f k).isSome <;> rw[hf] at this <;> simp at this ⊢ <;> omega
variable {F:Fence} {nF:Nat} {ops:Array Oper} {rest:List Oper} {o:Oper} {a:Act} {Q:Exit→Act→World→Prop}
theorem wpListIn_mapRead (hg:o.guard=none) (m x:Operand) (hop:o.op=Op.lookup T m x false) (L:MapLaw P T K E el ld ok z0) (h:Mp P K E ld w b n f s) (hm:a.eval m= .map (some b)) (k:Int) (hx:a.eval x= .int .i64 k) (hk:okI k)
 (hK:wpListIn F nF P ops Q rest (a.put o.dst (el ((f k).getD z0))) w):wpListIn F nF P ops Q (o :: rest) a w:=by
 refine wpListIn_plain hg fun K' hK'=>?_
 unfold Oper.wpIn
 refine⟨by simp[Oper.about,hop],?_⟩
 rw[Oper.semAt_plain F _ _ (by rw[hop];intro c hc';cases hc')]
 simp[execOp,hop,hm,hx,h.read L hk,Result.andThen]
 exact hK' _ _ hK
theorem wpList_mapWrite (hg:o.guard=none) (m x v:Operand) (hop:o.op=Op.mapUpdate T m x v) (L:MapLaw P T K E el ld ok z0) (h:Mp P K E ld w b n f s) (hn:n < 1000000) (hm:a.eval m= .map (some b)) (k:Int) (hx:a.eval x= .int .i64 k) (hk:okI k) (y:β) (hv:a.eval v=el y) (hy:ok y)
 (hK:∀w',Mp P K E ld w' b (n+1) (upd f k (some y)) (if(f k).isSome then s else s+1)→w.grownBy w' (some b)→wpList P ops Q rest (a.put o.dst undef) w'):wpList P ops Q (o :: rest) a w:=by
 refine wpList_plain hg fun K' hK'=>?_
 obtain⟨w',hrun,r1,r2⟩:=h.write L hn hk hy
 unfold Oper.wp
 simp[execOp,hop,hm,hx,hv,hrun,Result.andThen]
 exact hK' _ _ (hK w' r1 r2)
theorem wpListIn_mapWrite (hg:o.guard=none) (m x v:Operand) (hop:o.op=Op.mapUpdate T m x v) (L:MapLaw P T K E el ld ok z0) (h:Mp P K E ld w b n f s) (hn:n < 1000000) (hm:a.eval m= .map (some b)) (k:Int) (hx:a.eval x= .int .i64 k) (hk:okI k) (y:β) (hv:a.eval v=el y) (hy:ok y)
 (hK:∀w',Mp P K E ld w' b (n+1) (upd f k (some y)) (if(f k).isSome then s else s+1)→w.grownBy w' (some b)→wpListIn F nF P ops Q rest (a.put o.dst undef) w'):wpListIn F nF P ops Q (o :: rest) a w:=by
 refine wpListIn_plain hg fun K' hK'=>?_
 obtain⟨w',hrun,r1,r2⟩:=h.write L hn hk hy
 unfold Oper.wpIn
 refine⟨by simp[Oper.about,hop],?_⟩
 rw[Oper.semAt_plain F _ _ (by rw[hop];intro c hc';cases hc')]
 simp[execOp,hop,hm,hx,hv,hrun,Result.andThen]
 exact hK' _ _ (hK w' r1 r2)
theorem opIn_mapWrite {K':Act→World→Prop} (m x v:Operand) (hop:o.op=Op.mapUpdate T m x v) (L:MapLaw P T K E el ld ok z0) (h:Mp P K E ld w b n f s) (hn:n < 1000000) (hm:a.eval m= .map (some b)) (k:Int) (hx:a.eval x= .int .i64 k) (hk:okI k) (y:β) (hv:a.eval v=el y) (hy:ok y)
 (hK:∀w',Mp P K E ld w' b (n+1) (upd f k (some y)) (if(f k).isSome then s else s+1)→w.grownBy w' (some b)→K' (a.put o.dst undef) w'):o.wpIn F nF P a w K' Q:=by
 obtain⟨w',hrun,r1,r2⟩:=h.write L hn hk hy
 unfold Oper.wpIn
 refine⟨by simp[Oper.about,hop],?_⟩
 rw[Oper.semAt_plain F _ _ (by rw[hop];intro c hc';cases hc')]
 simp[execOp,hop,hm,hx,hv,hrun,Result.andThen]
 exact hK w' r1 r2
theorem wpList_mapLen (hg:o.guard=none) (m:Operand) (hop:o.op=Op.call {callee:=Callee.builtin Builtin.len,args:=#[m],argTypes:=#[T] }) (L:MapLaw P T K E el ld ok z0) (h:Mp P K E ld w b n f s) (hm:a.eval m= .map (some b))
 (hK:wpList P ops Q rest (a.put o.dst (.int .i64 s)) w):wpList P ops Q (o :: rest) a w:=by
 obtain⟨D,h,_,_,_,rfl⟩:=h
 refine wpList_plain hg fun K' hK'=>?_
 unfold Oper.wp
 simp[execOp,hop,resolve,invoke,builtin,hm,h.len L.ty o.type,Result.andThen]
 exact hK' _ _ hK
end
end Go.Proofs.YtiioegopckoldaaGreatDoor
namespace Go.Proofs.YtiioegopckoldaaGreatDoor
open Go.RowKit Go.Shelf
structure MBox {β:Type} (P:Program) (K E:TypeId) (ld:β→DataW Unit) (w:World) (L b n:Nat) (f:Int→Option β) (W:World):Prop where
 box:At W L [.map (some b)]
 mp:∃s,Mp P K E ld W b n f s
 bl:Below w.heap.size w W
section
variable {β:Type} {P:Program} {K E:TypeId} {ld:β→DataW Unit} {w W W':World} {L b n n' s:Nat} {f f' g:Int→Option β}
theorem MBox.kept {R:Nat→Prop} (h:MBox P K E ld w L b n f W) (hk:Kept R W W') (h1:R L) (h2:R b) (h4:∀b,b < w.heap.size→R b):MBox P K E ld w L b n f W':=
 let⟨s,hs⟩:=h.mp
 ⟨h.box.kept hk h1,⟨s,hs.keptR hk h2⟩,h.bl.trans (hk.below h4 h.bl.size)⟩
theorem MBox.put (h:MBox P K E ld w L b n f W) (hmp:Mp P K E ld W' b n' g s) (hg:W.grownBy W' (some b)) (hne:¬L=b) (hw:w.heap.size≤b) (hf:∀k,f' k=g k) :
 MBox P K E ld w L b n' f' W'∧Kept (fun x=>¬x=b) W W':=by
 have hk:Kept (fun x=>¬x=b) W W':=(Kept.grown hg).mono fun x _ hx=>by simpa using hx
 exact⟨⟨h.box.kept hk hne,⟨s,hmp.congr hf⟩,h.bl.trans (hk.below (fun x hx=>by omega) h.bl.size)⟩,hk⟩
theorem MBox.congr (h:MBox P K E ld w L b n f W) (hn:n≤n') (hf:∀k,f' k=f k):MBox P K E ld w L b n' f' W:=
 let⟨s,hs⟩:=h.mp
 ⟨h.box,⟨s,(hs.mono hn).congr hf⟩,h.bl⟩
theorem MBox.ltL (h:MBox P K E ld w L b n f W):L < W.heap.size:=h.box.1
theorem MBox.ltb (h:MBox P K E ld w L b n f W):b < W.heap.size:=let⟨_,hs⟩:=h.mp;hs.lt
end
def coll (D:Nat):Deferred:={target:= .collected D,args:=#[] }
structure DefOk (B:Nat) (ds:List Nat) (W:World):Prop where
 nodup:ds.Nodup
 open_:∀D∈ds,B≤D∧W.heap[D]?=some (.deferred (some []))
theorem DefOk.nil (B:Nat) (W:World):DefOk B [] W:=⟨List.nodup_nil,by simp⟩
theorem DefOk.kept {B:Nat} {ds:List Nat} {W W':World} {R:Nat→Prop} (h:DefOk B ds W) (hk:Kept R W W') (hr:∀D∈ds,R D):DefOk B ds W':=
 ⟨h.nodup,fun D hD=>⟨(h.open_ D hD).1,(hk.same D (hr D hD) (Array.getElem?_eq_some_iff.1 (h.open_ D hD).2).1).trans (h.open_ D hD).2⟩⟩
theorem DefOk.lt {B:Nat} {ds:List Nat} {W:World} (h:DefOk B ds W) {D:Nat} (hD:D∈ds):D < W.heap.size:=(Array.getElem?_eq_some_iff.1 (h.open_ D hD).2).1
theorem DefOk.cons {B:Nat} {ds:List Nat} {W:World} {D:Nat} (h:DefOk B ds W) (hD:W.heap[D]?=some (.deferred (some []))) (hB:B≤D) (hn:D∉ds):DefOk B (D :: ds) W:=
 ⟨List.nodup_cons.2 ⟨hn,h.nodup⟩,fun D' hD'=>by
  rcases List.mem_cons.1 hD' with rfl | h'
  ·exact⟨hB,hD⟩
  ·exact h.open_ D' h'⟩
theorem leaves_coll {F:Fence} {n:Nat} {P:Program} {fn:Func} {tmps:Array Value} {R:Ending→World→Prop} {u:FrameMode} (hu:u≠.run) {B:Nat}:∀(ds:List Nat) (W:World),DefOk B ds W→
 (∀W',Kept (fun b=>b∉ds) W W'→LeavesInM F n P fn tmps R [] u W')→LeavesInM F n P fn tmps R (ds.map coll) u W
 | [],W,_,h=>h W (Kept.refl _ _)
 | D :: ds, W, hd, h => by
   have h1:=hd.open_ D (by simp)
   have hn:=List.nodup_cons.1 hd.nodup
   refine⟨hu,.inl ⟨D,_,rfl,run_takeDeferred h1.2,?_⟩⟩
   have hk:Kept (fun b=>¬b=D) W (W.putObj D (.deferred none)):=Kept.putObj W D _
   refine leaves_coll hu ds _ ⟨hn.2,fun D' hD'=>⟨(hd.open_ D' (by simp[hD'])).1,(hk.same D' (fun e=>hn.1 (e ▸ hD')) (hd.lt (by simp[hD']))).trans (hd.open_ D' (by simp[hD'])).2⟩⟩ fun W' hk'=>?_
   exact h W' ((hk.mono fun b _ hb=>by simp at hb;exact hb.1).trans (hk'.mono fun b _ hb=>by simp at hb;exact hb.2))
end Go.Proofs.YtiioegopckoldaaGreatDoor
namespace Go.Proofs.YtiioegopckoldaaGreatDoor
open Go.RowKit Go.Shelf
theorem wrapI {x:Int} (h: -9223372036854775808≤x∧x≤9223372036854775807):IntKind.i64.wrap x=x:=by rw[IntKind.wrap_i64];omega
def slot (a:Act) (i:Nat):Value:=a.tmps.getD i undef
theorem act_eq {a:Act} {n:Nat} {ds:List Deferred} (hs:a.tmps.size=n) (hd:a.defers=ds):a={tmps:=((List.range n).map (slot a)).toArray,defers:=ds }:=by
 obtain⟨⟨l⟩,d⟩:=a
 simp only at hd
 subst hd
 congr 1
 simp only[List.size_toArray] at hs
 congr 1
 apply List.ext_getElem?
 intro i
 by_cases hi:i < n
 ·simp[slot,hi,hs]
 ·rw[List.getElem?_eq_none (by omega),List.getElem?_eq_none (by simp;omega)]
theorem round_call {l n:Nat} {P:Program} {f:FuncId} {args:Array Value} {w:World} {R:Ending→World→Prop} (h:Calls P f args w R):(Fence.wide.inRound l).fn f∧((Fence.wide.inRound l).depth.isSome=true→1≤n)∧CallsIn (Fence.wide.inRound l) (n-1) P f args w R:=
 ⟨trivial,fun h=>by simp[Fence.wide] at h,CallsIn.inRound l (callsIn_wide.2 h)⟩
theorem wide_call {n:Nat} {P:Program} {f:FuncId} {args:Array Value} {w:World} {R:Ending→World→Prop} (h:Calls P f args w R):Fence.wide.fn f∧(Fence.wide.depth.isSome=true→1≤n)∧CallsIn Fence.wide (n-1) P f args w R:=
 ⟨trivial,fun h=>by simp[Fence.wide] at h,callsIn_wide.2 h⟩
section
variable {F:Fence} {n:Nat} {P:Program} {ops:Array Oper} {Q:Exit→Act→World→Prop} {S:World→Prop}
def Gives (P:Program) (ops:Array Oper) (S:World→Prop) (o:Oper) (v:Value) (a:Act):Prop:=
 (Region.wanted o (yielded ops a.tmps)=true∧∀w,S w→(execOp a.eval o).run P w= .ok (.value v) w)∨(Region.wanted o (yielded ops a.tmps)=false∧v=undef)
theorem Gives.same {o:Oper} {v:Value} {a a':Act} (h:Gives P ops S o v a) (he:execOp a'.eval o=execOp a.eval o) (hw:Region.wanted o (yielded ops a'.tmps)=Region.wanted o (yielded ops a.tmps)):Gives P ops S o v a':=by
 rcases h with⟨h1,h2⟩ | ⟨h1,h2⟩
 ·exact .inl ⟨hw.trans h1,fun w hs=>by rw[he];exact h2 w hs⟩
 ·exact .inr ⟨hw.trans h1,h2⟩
def quietOps (ops:Array Oper):Bool:=ops.toList.all fun o=>match o.op with | .defer _=>false | .select _ _=>false | _=>true
theorem quiet_at {j:Nat} {o:Oper} (h:quietOps ops=true) (ho:ops[j]?=some o):(∀c,o.op≠.defer c)∧∀cs b,o.op≠.select cs b:=by
 have hm:o∈ops.toList:=by
  obtain⟨hl,he⟩:=Array.getElem?_eq_some_iff.1 ho
  rw[←he];exact Array.getElem_mem_toList ..
 have:=List.all_eq_true.1 h o hm
 constructor
 ·intro c e;rw[e] at this;cases this
 ·intro cs b e;rw[e] at this;cases this
theorem sem_at {j:Nat} {o:Oper} (h:quietOps ops=true) (ho:ops[j]?=some o) (r:Option Nat) (ρ:Operand→Value):o.semAt r ρ=execOp ρ o:=Oper.semAt_eq r ρ o (quiet_at h ho).1
theorem Gives.op {i:Nat} {o:Oper} {v:Value} {a:Act} (hF:∀f,F.fn f) (hq:quietOps ops=true) (hi:ops[i]?=some o) (hy:Gives P ops S o v a) {K:Act→World→Prop} {w:World} (hS:S w) (h:K (a.put o.dst v) w):wpOpIn F n P ops Q i K a w:=by
 unfold wpOpIn
 simp only[hi]
 rcases hy with⟨hw,hv⟩ | ⟨hw,rfl⟩
 ·simp only[hw,if_true,Oper.wpIn,sem_at hq hi,hv w hS,Oper.uponIn]
  exact⟨fun f _=>hF f,h⟩
 ·simp only[hw,Bool.false_eq_true,if_false]
  exact⟨fun f _=>hF f,h⟩
theorem Gives.beside {i j:Nat} {oi oj:Oper} {v:Value} (hF:∀f,F.fn f) (hq:quietOps ops=true) (hi:ops[i]?=some oi) (hj:ops[j]?=some oj) (hap:oi.apart ops oj=true)
 (hQ:∀c a w,Q (.panic c) (a.put oi.dst v) w→Q (.panic c) a w) {K:Act→World→Prop} {a:Act} {w:World} (hy:Gives P ops S oi v a) (h:wpOpIn F n P ops Q j K (a.put oi.dst v) w) :
 wpOpIn F n P ops Q j (fun a' w'=>Gives P ops S oi v a'∧K (a'.put oi.dst v) w') a w:=by
 obtain⟨h1,h2,h3⟩:=Oper.apart_spec hap
 have keep:∀u,Gives P ops S oi v (a.put oj.dst u):=fun u=>hy.same (execOp_put oi (quiet_at hq hi).2 a oj.dst u h3) (wanted_put oi a oj.dst u h3)
 have ndf:=(quiet_at hq hj).1
 have hj2:=hide hj
 unfold wpOpIn at h ⊢
 simp only[hj] at h ⊢
 rw[wanted_put oj a oi.dst v h1] at h
 split
 ·rename_i hw
  simp only[hw,if_true] at h
  unfold Oper.wpIn at h ⊢
  refine⟨fun f _=>hF f,?_⟩
  have h:=h.2
  rw[sem_at hq hj,execOp_put oj (quiet_at hq hj).2 a oi.dst v h1] at h
  rw[sem_at hq hj]
  have hnd:∀d w',(execOp a.eval oj).run P w≠.ok (.defer d) w'∨True:=fun _ _=> .inr trivial
  generalize hr:(execOp a.eval oj).run P w=r at h ⊢
  cases r with
  | ok x w' =>
    cases x with
    | value u=>exact⟨keep u,by rw[←Act.put_comm a v u h2];exact h⟩
    | skip=>exact⟨keep _,by rw[←Act.put_comm a v undef h2];exact h⟩
    | defer d =>
      refine⟨Gives.same (a:={a with defers:=d :: a.defers }) (hy.same rfl rfl) (execOp_put oi (quiet_at hq hi).2 _ oj.dst undef h3) (wanted_put oi _ oj.dst undef h3),?_⟩
      rw[←Act.put_comm _ v undef h2,←Act.put_defers]
      exact h
    | enter f args =>
      refine⟨h.1,CallsIn.mono h.2 fun e w'' he=>?_⟩
      cases e with
      | returned u=>exact⟨keep u,by rw[←Act.put_comm a v u h2];exact he⟩
      | panicked c=>exact hQ _ _ _ he
      | outgrown=>exact he
    | row row args=>exact⟨h.1,RowsIn.mono h.2 fun u w'' he=>⟨keep u,by rw[←Act.put_comm a v u h2];exact he⟩⟩
    | round l f tmps assign body =>
      refine⟨h.1,RoundIn.mono h.2 fun e w'' he=>?_⟩
      cases e with
      | returned u=>exact⟨keep u,by rw[←Act.put_comm a v u h2];exact he⟩
      | panicked c=>exact hQ _ _ _ he
      | outgrown=>exact he
    | _=>exact h
  | halt x w' =>
    cases x <;> simp only[Oper.uponIn] at h ⊢
    case panic u=>exact hQ _ _ _ h
 ·rename_i hw
  simp only[hw] at h
  exact⟨fun f _=>hF f,keep _,by rw[←Act.put_comm a v undef h2];exact h.2⟩
def waits (ops:Array Oper) (z i:Nat):Bool:=match ops[z]? with | some o=>o.after.toList.any (fun e=>Region.binds .any e && e.on == i) | none=>true
def wpAnyS (F:Fence) (n:Nat) (P:Program) (ops:Array Oper) (Q:Exit→Act→World→Prop) (S:World→Prop) (z:Nat):Nat→Array Bool→Act→World→Prop
 | 0,listed,a,w=>Region.ready .any ops listed=[]∧Q .normal a w
 | fuel+1,listed,a,w=>(Region.ready .any ops listed=[]→Q .normal a w)∧
  ∀i∈Region.ready .any ops listed,wpOpIn F n P ops Q i (fun a' w'=>(i≠z→S w')∧wpAnyS F n P ops Q S z fuel (listed.setIfInBounds i true) a' w') a w
theorem anyIn_of_S {z:Nat}:∀(fuel:Nat) (listed:Array Bool) (a:Act) (w:World),wpAnyS F n P ops Q S z fuel listed a w→wpAnyIn F n P .any ops Q fuel listed a w
 | 0,_,_,_,h=>h
 | fuel+1,_,_,_,h=>⟨h.1,fun i hi=>wpOpIn_mono (fun a' w' h'=>anyIn_of_S fuel _ a' w' h'.2) (h.2 i hi)⟩
theorem wpAnyS_first {i z:Nat} {oi:Oper} {v:Value} (hz:waits ops z i=true) (hF:∀f,F.fn f) (hq:quietOps ops=true) (hi:ops[i]?=some oi) (hQ:∀c a w,Q (.panic c) (a.put oi.dst v) w→Q (.panic c) a w) :
 ∀(fuel:Nat) (listed:Array Bool) (a:Act) (w:World),
  (∀j oj,ops[j]?=some oj→j≠i→listed.getD j true=false→(∀e∈oj.after,Region.binds .any e=true→e.on≠i)→oi.apart ops oj=true)→
  i∈Region.ready .any ops listed→Gives P ops S oi v a→S w→
  wpAnyS F n P ops Q S z fuel (listed.setIfInBounds i true) (a.put oi.dst v) w→wpAnyS F n P ops Q S z (fuel+1) listed a w
 | 0, listed, a, w, _, hr, hy, hS, H => by
   refine⟨fun h=>(by rw[h] at hr;cases hr),fun j hj=>?_⟩
   by_cases hji:j=i
   ·subst hji;exact hy.op hF hq hi hS ⟨fun _=>hS,H⟩
   ·have h1:=ready_mono hj hji
    rw[H.1] at h1
    cases h1
 | fuel + 1, listed, a, w, hfree, hr, hy, hS, H => by
   refine⟨fun h=>(by rw[h] at hr;cases hr),fun j hj=>?_⟩
   by_cases hji:j=i
   ·subst hji;exact hy.op hF hq hi hS ⟨fun _=>hS,H⟩
   ·have h1:=H.2 j (ready_mono hj hji)
    obtain⟨hjun,oj,hoj,hall⟩:=mem_ready.1 hj
    have hno:∀e∈oj.after,Region.binds .any e=true→e.on≠i:=fun e he hb heq=>by
     have h2:=hall e he hb
     have h0:=(mem_ready.1 hr).1
     rw[heq] at h2
     rcases Nat.lt_or_ge i listed.size with h' | h'
     ·simp[h'] at h0 h2;rw[h0] at h2;cases h2
     ·simp[Array.getElem?_eq_none h'] at h2
    have hjz:j≠z:=fun e=>by
     subst e
     unfold waits at hz
     rw[hoj] at hz
     simp only[List.any_eq_true,Bool.and_eq_true,beq_iff_eq] at hz
     obtain⟨e,he,hb,hon⟩:=hz
     exact hno e (Array.mem_toList_iff.1 he) hb hon
    have h2:=Gives.beside hF hq hi hoj (hfree j oj hoj hji hjun hno) hQ hy h1
    refine wpOpIn_mono (fun a' w' h3=>⟨h3.2.1,wpAnyS_first hz hF hq hi hQ fuel (listed.setIfInBounds j true) a' w' (fun k ok hk hki hun hno'=>?_) (ready_mono hr (Ne.symm hji)) h3.1 (h3.2.1 hjz) ?_⟩) h2
    ·refine hfree k ok hk hki ?_ hno'
     by_cases hjk:j=k
     ·subst hjk;exact hjun
     ·rw[getD_set_ne true hjk] at hun;exact hun
    ·rw[Array.setIfInBounds_comm _ _ hji]
     exact h3.2.2
theorem wpAnyS_take {i z:Nat} {oi:Oper} {v:Value} {fuel:Nat} {listed:Array Bool} {a:Act} {w:World} (hi:ops[i]?=some oi) (hF:∀f,F.fn f) (hz:waits ops z i=true) (hq:quietOps ops=true)
 (hf:Region.free .any ops listed i=true) (hr:(Region.ready .any ops listed).contains i=true) (hQ:∀c a w,Q (.panic c) (a.put oi.dst v) w→Q (.panic c) a w) (hy:Gives P ops S oi v a) (hS:S w)
 (h:wpAnyS F n P ops Q S z fuel (listed.setIfInBounds i true) (a.put oi.dst v) w):wpAnyS F n P ops Q S z (fuel+1) listed a w:=
 wpAnyS_first hz hF hq hi hQ fuel listed a w (Region.free_spec hi hf) (by simpa using hr) hy hS h
theorem tkH {P:Program} {md:Region.Mode} {ops:Array Oper} {Q:Exit→Act→World→Prop} {S:World→Prop} (i:Nat) (v:Value) {d op ty pos after guard} {fuel:Nat} {listed:Array Bool} {a:Act} {w:World} (hi:ops[i]?=some ⟨d,op,ty,pos,after,guard⟩) (hy:YieldsIf P ops S ⟨d,op,ty,pos,after,guard⟩ v a) (hS:S w)
 (h:wpAnyH P md ops Q S fuel (listed.setIfInBounds i true) (a.put d v) w) (hs:Region.noSelect ops=true:=by kernel_rfl) (hf:Region.free md ops listed i=true:=by kernel_rfl) (hr:(Region.ready md ops listed).contains i=true:=by kernel_rfl)
 (hQ:∀c a w,Q (.panic c) (a.put d v) w→Q (.panic c) a w:=by exact fun _ _ _ h=>h):wpAnyH P md ops Q S (fuel+1) listed a w:=wpAnyH_take hi hs hf hr hQ hy hS h
theorem tkS {z:Nat} (i:Nat) (v:Value) {d op ty pos after guard} {fuel:Nat} {listed:Array Bool} {a:Act} {w:World} (hi:ops[i]?=some ⟨d,op,ty,pos,after,guard⟩) (hy:Gives P ops S ⟨d,op,ty,pos,after,guard⟩ v a) (hS:S w)
 (h:wpAnyS F n P ops Q S z fuel (listed.setIfInBounds i true) (a.put d v) w) (hF:∀f,F.fn f:=by exact fun _=>trivial) (hz:waits ops z i=true:=by kernel_rfl) (hq:quietOps ops=true:=by kernel_rfl) (hf:Region.free .any ops listed i=true:=by kernel_rfl)
 (hr:(Region.ready .any ops listed).contains i=true:=by kernel_rfl) (hQ:∀c a w,Q (.panic c) (a.put d v) w→Q (.panic c) a w:=by exact fun _ _ _ h=>h):wpAnyS F n P ops Q S z (fuel+1) listed a w:=wpAnyS_take hi hF hz hq hf hr hQ hy hS h
def bat:List Bool→Nat→Bool
 | [],_=>true
 | b :: _,0=>b
 | _ :: l,n+1=>bat l n
def nxt:List Nat→List Bool→Option Nat
 | [],_=>none
 | i :: is,l=>cond (bat l i) (nxt is l) (some i)
theorem tkHl {P:Program} {md:Region.Mode} {ops:Array Oper} {Q:Exit→Act→World→Prop} {S:World→Prop} (is:List Nat) (v:Value) {i:Nat} {d op ty pos after guard} {fuel:Nat} {listed:Array Bool} {a:Act} {w:World} (hn:nxt is listed.toList=some i) (hi:ops[i]?=some ⟨d,op,ty,pos,after,guard⟩) (hy:YieldsIf P ops S ⟨d,op,ty,pos,after,guard⟩ v a) (hS:S w)
 (h:wpAnyH P md ops Q S fuel (listed.setIfInBounds i true) (a.put d v) w) (hs:Region.noSelect ops=true:=by kernel_rfl) (hf:Region.free md ops listed i=true:=by kernel_rfl) (hr:(Region.ready md ops listed).contains i=true:=by kernel_rfl)
 (hQ:∀c a w,Q (.panic c) (a.put d v) w→Q (.panic c) a w:=by exact fun _ _ _ h=>h):wpAnyH P md ops Q S (fuel+1) listed a w:=wpAnyH_take hi hs hf hr hQ hy hS h
theorem tkSl {z:Nat} (is:List Nat) (v:Value) {i:Nat} {d op ty pos after guard} {fuel:Nat} {listed:Array Bool} {a:Act} {w:World} (hn:nxt is listed.toList=some i) (hi:ops[i]?=some ⟨d,op,ty,pos,after,guard⟩) (hy:Gives P ops S ⟨d,op,ty,pos,after,guard⟩ v a) (hS:S w)
 (h:wpAnyS F n P ops Q S z fuel (listed.setIfInBounds i true) (a.put d v) w) (hF:∀f,F.fn f:=by exact fun _=>trivial) (hz:waits ops z i=true:=by kernel_rfl) (hq:quietOps ops=true:=by kernel_rfl) (hf:Region.free .any ops listed i=true:=by kernel_rfl)
 (hr:(Region.ready .any ops listed).contains i=true:=by kernel_rfl) (hQ:∀c a w,Q (.panic c) (a.put d v) w→Q (.panic c) a w:=by exact fun _ _ _ h=>h):wpAnyS F n P ops Q S z (fuel+1) listed a w:=wpAnyS_take hi hF hz hq hf hr hQ hy hS h
theorem tl1 {α:Type} (l:List α) (i:Nat) (a:α):l.toArray.setIfInBounds i a=(l.set i a).toArray:=List.setIfInBounds_toArray l i a
theorem tl2 {α:Type} (x y:α) (l:List α):(x :: l).set 0 y=y :: l:=rfl
theorem tl3 {α:Type} (x y:α) (l:List α) (i:Nat):(x :: l).set (i+1) y=x :: l.set i y:=rfl
def AllS (F:Fence) (n:Nat) (P:Program) (ops:Array Oper) (Q:Exit→Act→World→Prop) (S:World→Prop) (z fuel:Nat) (listed:Array Bool) (a:Act) (w:World) (rs:List Nat):Prop:=
 ∀i∈rs,wpOpIn F n P ops Q i (fun a' w'=>(i≠z→S w')∧wpAnyS F n P ops Q S z fuel (listed.setIfInBounds i true) a' w') a w
theorem AllS.nil {z fuel:Nat} {listed:Array Bool} {a:Act} {w:World}:AllS F n P ops Q S z fuel listed a w []:=fun _ h=>by cases h
theorem AllS.cons {z fuel:Nat} {listed:Array Bool} {a:Act} {w:World} {i:Nat} {o:Oper} {rs:List Nat} (ho:ops[i]?=some o) (hF:∀f,F.fn f)
 (h:∀K':Act→World→Prop,Hid (∀a w,(i≠z→S w)→((i≠z→S w)→wpAnyS F n P ops Q S z fuel (listed.setIfInBounds i true) a w)→K' a w)→if Region.wanted o (yielded ops a.tmps)=true then Oper.wpIn F n P o a w K' Q else K' (a.put o.dst undef) w)
 (hs:AllS F n P ops Q S z fuel listed a w rs):AllS F n P ops Q S z fuel listed a w (i :: rs):=fun j hj=>by
 rcases List.mem_cons.1 hj with rfl | hj
 ·unfold wpOpIn
  rw[ho]
  have h1:=h (fun a' w'=>(j≠z→S w')∧wpAnyS F n P ops Q S z fuel (listed.setIfInBounds j true) a' w') (hide fun a w hS hW=>⟨hS,hW hS⟩)
  simp only
  split
  ·rename_i hw;rw[if_pos hw] at h1;exact h1
  ·rename_i hw;rw[if_neg hw] at h1;exact⟨fun f _=>hF f,h1⟩
 ·exact hs j hj
theorem wpAnyS_ready {rs:List Nat} {z fuel:Nat} {listed:Array Bool} {a:Act} {w:World} (hr:Region.ready .any ops listed=rs) (hne:rs≠[]) (h:AllS F n P ops Q S z fuel listed a w rs):wpAnyS F n P ops Q S z (fuel+1) listed a w:=
 by
 subst hr
 unfold wpAnyS
 exact⟨fun h0=>absurd h0 hne,h⟩
theorem wpAnyS_done {z:Nat} {listed:Array Bool} {a:Act} {w:World} (hr:Region.ready .any ops listed=[]) (h:Q .normal a w):∀fuel,wpAnyS F n P ops Q S z fuel listed a w
 | 0=>⟨hr,h⟩
 | _+1=>⟨fun _=>h,by rw[hr];simp⟩
theorem wpIn_region_S {z id:Nat} {a:Act} {w:World} (hm:P.follows .mixedOrders=true) (hS:S w.drew) (h:S w.drew→wpAnyS F n P ops Q S z ops.size (Array.replicate ops.size false) a w.drew):(Code.region id ops true).wpIn F n P Q a w:=
 wpIn_region_any hm (anyIn_of_S _ _ _ _ (h hS))
end
end Go.Proofs.YtiioegopckoldaaGreatDoor
namespace Go.Proofs.YtiioegopckoldaaGreatDoor
open Go.RowKit Go.Shelf
theorem calls_gen {P:Program} {f:FuncId} {args:Array Value} {w:World} {R:Ending→World→Prop} (h:∀W,Hid (w=W)→Calls P f args W R):Calls P f args w R:=h w (hide rfl)
structure Bx (w:World) (p:Nat) (cs:List Value):Prop where
 at_:At w p cs
 fz:∀j:Nat,w.frozen? ⟨p,j,none⟩=false
section
variable {w w':World} {p:Nat} {cs:List Value}
theorem Bx.lt (h:Bx w p cs):p < w.heap.size:=h.at_.1
theorem Bx.below (h:Bx w p cs) (hb:Below w.heap.size w w'):Bx w' p cs:=⟨h.at_.below hb,fun j=>(hb.frozen (p:=⟨p,j,none⟩) h.lt).trans (h.fz j)⟩
theorem Bx.bel (h:Bx w p cs) (hb:Below w.heap.size w w'):Bx w' p cs:=h.below hb
theorem Bx.kept {R:Nat→Prop} (h:Bx w p cs) (hk:Kept R w w') (hp:R p):Bx w' p cs:=⟨h.at_.kept hk hp,fun j=>(hk.frozen (p:=⟨p,j,none⟩) hp h.lt).trans (h.fz j)⟩
theorem Bx.set (h:Bx w p cs) {j:Nat} (u:Value) (hj:j < cs.length):Bx (w.setCell ⟨p,j,none⟩ u) p (cs.set j u):=⟨h.at_.set u hj,fun i=>by rw[World.frozen?_setCell];exact h.fz i⟩
theorem Bx.other (h:Bx w p cs) {q:Addr} (u:Value) (hq:q.block≠p):Bx (w.setCell q u) p cs:=h.kept (Kept.setCell w q u) (fun e=>hq e.symm)
theorem Bx.alloc (h:Bx w p cs) (o:Obj):Bx (w.alloc o) p cs:=h.below (below_new _ _)
theorem Bx.drew (h:Bx w p cs):Bx w.drew p cs:=h.below (Below.refl _ _).drew
theorem Bx.new (w:World) (cs:Array Value) (t:TypeId) (q:Nat) (hq:q=w.heap.size) (l:List Value) (hl:cs.toList=l):Bx (w.alloc (.cells cs t)) q l:=⟨At.new w cs t q hq l hl,fun j=>At.frozen_new w cs t q hq j⟩
theorem Bx.w1 {v:Value} (h:Bx w p [v]):w.cell? ⟨p,0,none⟩=some v∧w.frozen? ⟨p,0,none⟩=false:=⟨h.at_.c1,h.fz 0⟩
theorem Bx.w2 {v0 v1:Value} (h:Bx w p [v0,v1]):w.cell? ⟨p,0,none⟩=some v0∧w.cell? ⟨p,1,none⟩=some v1∧w.frozen? ⟨p,0,none⟩=false∧w.frozen? ⟨p,1,none⟩=false:=⟨h.at_.c2.1,h.at_.c2.2,h.fz 0,h.fz 1⟩
theorem Bx.set2 {v0 v1:Value} (h:Bx w p [v0,v1]) (x y:Value):Bx ((w.setCell ⟨p,0,none⟩ x).setCell ⟨p,1,none⟩ y) p [x,y]:=by simpa using(h.set (j:=0) x (by simp)).set (j:=1) y (by simp)
end
theorem mk_bx (W:World) (cs:Array Value) (t:TypeId) :
 ∃(b:Nat) (V:World),Hid (W.heap.size=b)∧Hid (W.alloc (.cells cs t)=V)∧Bx V b cs.toList∧Below W.heap.size W V∧V.heap.size=b+1:=
 ⟨_,_,hide rfl,hide rfl,Bx.new W cs t _ rfl _ rfl,below_new _ _,by simp⟩
theorem mk_row {α:Type} {cells:α→List Value} (W:World) (cs:Array Value) (t:TypeId) (xs:List α) (h:cs.toList=xs.flatMap cells) :
 ∃(b:Nat) (V:World),Hid (W.heap.size=b)∧Hid (W.alloc (.cells cs t)=V)∧Rd V V.heap.size cells (some ⟨b,0,none⟩) xs∧Below W.heap.size W V:=
 ⟨_,_,hide rfl,hide rfl,(Rd.new W cs t xs h).more (by simp),below_new _ _⟩
theorem cut0 {C G:World→Prop} {Goal:Prop} (h1:(∀W:World,C W→G W)→Goal) (h2:∀W:World,C W→G W):Goal:=h1 h2
theorem cut1 {α0:Type} {C G:α0→World→Prop} {Goal:Prop} (h1:(∀(x0:α0) (W:World),C x0 W→G x0 W)→Goal) (h2:∀(x0:α0) (W:World),C x0 W→G x0 W):Goal:=h1 h2
theorem cut3 {α0:Type} {α1:Type} {α2:Type} {C G:α0→α1→α2→World→Prop} {Goal:Prop} (h1:(∀(x0:α0) (x1:α1) (x2:α2) (W:World),C x0 x1 x2 W→G x0 x1 x2 W)→Goal) (h2:∀(x0:α0) (x1:α1) (x2:α2) (W:World),C x0 x1 x2 W→G x0 x1 x2 W):Goal:=h1 h2
theorem Rd.bel {α:Type} {w w':World} {cells:α→List Value} {A:Option Addr} {xs:List α} (h:Rd w w.heap.size cells A xs) (hb:Below w.heap.size w w'):Rd w' w'.heap.size cells A xs:=(h.below hb).more hb.size
theorem At.bel {w w':World} {p:Nat} {cs:List Value} (h:At w p cs) (hb:Below w.heap.size w w'):At w' p cs:=h.below hb
theorem Own.bel {α:Type} {cells:α→List Value} {w w':World} {base:Nat} {e:TypeId} {k:Nat} {v:Value} {xs:List α} (h:Own w base e k cells v xs) (hb:Below w.heap.size w w'):Own w' base e k cells v xs:=h.below hb
theorem Below.bel {B:Nat} {w0 w w':World} (h:Below B w0 w) (hb:Below w.heap.size w w') (hB:B≤w.heap.size):Below B w0 w':=h.trans (hb.mono hB)
theorem Own.rdn {α:Type} {cells:α→List Value} {w:World} {base:Nat} {e:TypeId} {k:Nat} {v:Value} {xs:List α} (h:Own w base e k cells v xs) (n:Nat) (hn:xs.length=n):∃A c,v= .slice A n c∧Rd w w.heap.size cells A xs:=by
 subst hn;exact h.rd
theorem Own.keptG {α:Type} {cells:α→List Value} {w w':World} {base:Nat} {e:TypeId} {k:Nat} {v:Value} {xs:List α} {R:Nat→Prop} (h:Own w base e k cells v xs) (hk:Kept R w w') (hr:∀g,v.ownBlock=some g→R g):Own w' base e k cells v xs:=by
 obtain⟨hl,hn | ⟨g,cap,cur,rfl,hb,hg,rest⟩⟩:=h
 ·exact⟨hl,.inl hn⟩
 ·exact⟨hl,.inr ⟨g,cap,cur,rfl,hb,(hk.same g (hr g rfl) (Array.getElem?_eq_some_iff.1 hg).1).trans hg,rest⟩⟩
theorem Own.blockG {α:Type} {cells:α→List Value} {w:World} {base:Nat} {e:TypeId} {k:Nat} {v:Value} {xs:List α} (h:Own w base e k cells v xs) {g:Nat} (hg:v.ownBlock=some g):base≤g∧g < w.heap.size:=World.ownsRow.lt h g hg
theorem Rd.keptR {α:Type} {cells:α→List Value} {w w':World} {B:Nat} {A:Option Addr} {xs:List α} {R:Nat→Prop} (h:Rd w B cells A xs) (hk:Kept R w w') (hB:∀b,b < B→R b) (hl:B≤w.heap.size):Rd w' B cells A xs:=
 h.keep fun p hp=>hk.cell (p:=p) (hB _ hp) (by omega)
theorem bel2 {w w':World} {o:Obj} (g:Below (w.alloc o).heap.size (w.alloc o) w'):Below w.heap.size w w':=(below_new w o).trans (g.mono (by simp))
end Go.Proofs.YtiioegopckoldaaGreatDoor
