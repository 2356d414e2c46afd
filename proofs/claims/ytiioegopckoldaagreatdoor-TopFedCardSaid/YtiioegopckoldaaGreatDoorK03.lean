/- lemmas for topFed_holds: C2. No conditions. -/
import Derived.Test.YtiioegopckoldaaGreatDoorK01
import Derived.Test.YtiioegopckoldaaGreatDoorK02
import Derived.Test.YtiioegopckoldaaGreatDoorProg
import Derived.Handy
set_option linter.unusedVariables false
set_option linter.unusedSimpArgs false
namespace Go.Proofs.YtiioegopckoldaaGreatDoor
open Go.RowKit Go.Shelf
attribute [local go_sem] Oper.semAt_some
structure Ca where
 frm:Int
 seep:Sp
 fill:Sp
 deriving DecidableEq
def Ca.cells (c:Ca):List Value:=[.int .i64 c.frm,.int .i64 c.seep.lo,.int .i64 c.seep.hi,.int .i64 c.fill.lo,.int .i64 c.fill.hi]
theorem Ca.len (c:Ca):c.cells.length=5:=rfl
theorem Ca.one (c:Ca):∀u∈c.cells,u.oneCell'=true:=by simp[Ca.cells,Value.oneCell']
theorem Rd.ca {w:World} {B:Nat} {A:Option Addr} {xs:List Ca} (h:Rd w B Ca.cells A xs) {i:Nat} (hi:i < xs.length) :
 ∃b off f s0 s1 l0 l1,A=some ⟨b,off,none⟩∧b < B∧xs[i]?=some ⟨f,⟨s0,s1⟩,⟨l0,l1⟩⟩∧w.cell? ⟨b,off+i*5,none⟩=some (.int .i64 f)∧w.cell? ⟨b,off+i*5+1,none⟩=some (.int .i64 s0)∧w.cell? ⟨b,off+i*5+2,none⟩=some (.int .i64 s1)∧w.cell? ⟨b,off+i*5+3,none⟩=some (.int .i64 l0)∧w.cell? ⟨b,off+i*5+4,none⟩=some (.int .i64 l1):=by
 obtain⟨b,off,e,hB,hc⟩:=h (by omega)
 have hx:xs[i]?=some xs[i]:=List.getElem?_eq_getElem hi
 exact⟨b,off,_,_,_,_,_,e,hB,hx,hc _ _ (flat_get Ca.len hx (j:=0) (by omega)),hc _ _ (flat_get Ca.len hx (j:=1) (by omega)),hc _ _ (flat_get Ca.len hx (j:=2) (by omega)),hc _ _ (flat_get Ca.len hx (j:=3) (by omega)),hc _ _ (flat_get Ca.len hx (j:=4) (by omega))⟩
structure Ne where
 canals:List Ca
 fields:List Int
 dry:Int
 days:Int
 deriving DecidableEq
def caOk (i:Nat) (c:Ca):Bool:=inB 0 i c.frm && (Sp.ok 0 1000 c.seep && Sp.ok 0 10000000 c.fill)
def frmN (cs:List Ca) (k:Nat):Nat:=match cs[k]? with | some c=>c.frm.toNat | none=>0
def upF (cs:List Ca):Nat→Nat→List Int
 | 0,_=>[]
 | f+1,node=>if node=0 then [] else((node-1:Nat):Int) :: upF cs f (frmN cs (node-1))
def caFrm (cs:List Ca):Prop:=∀(k:Nat) (c:Ca),cs[k]?=some c→0≤c.frm∧c.frm≤k
theorem frmN_le {cs:List Ca} (h:caFrm cs) (k:Nat):frmN cs k≤k:=by
 unfold frmN
 split
 ·rename_i c hc
  have:=h k c hc
  omega
 ·omega
theorem upF_fuel {cs:List Ca} (h:caFrm cs):∀(f node:Nat),node≤f→upF cs f node=upF cs node node
 | 0, node, hn => by obtain rfl : node = 0 := by omega
                     rfl
 | f+1,0,_=>rfl
 | f + 1, node + 1, hn => by
   have h1:=frmN_le h node
   have e1:=upF_fuel h f (frmN cs node) (by omega)
   have e2:=upF_fuel h node (frmN cs node) h1
   simp only[upF,Nat.add_sub_cancel,Nat.add_eq_zero_iff,Nat.succ_ne_zero,and_false,if_false]
   rw[e1,e2]
termination_by f node=>(f,node)
theorem upF_succ {cs:List Ca} (h:caFrm cs) (m:Nat):upF cs (m+1) (m+1)=(m:Int) :: upF cs (frmN cs m) (frmN cs m):=by
 have e:=upF_fuel h m (frmN cs m) (frmN_le h m)
 simp only[upF,Nat.add_sub_cancel,Nat.add_eq_zero_iff,Nat.succ_ne_zero,and_false,if_false]
 rw[e]
theorem Rd.kept {α:Type} {cells:α→List Value} {w w':World} {B:Nat} {A:Option Addr} {xs:List α} {R:Nat→Prop} (h:Rd w B cells A xs) (hk:Kept R w w') (hB:∀b,b < B→R b) (hl:B≤w.heap.size):Rd w' B cells A xs:=
 h.keep fun p hp=>hk.cell (p:=p) (hB _ hp) (by omega)
set_option maxHeartbeats 4000000 in
set_option maxRecDepth 100000 in
theorem up1_seq (n:Nat) (hn:3≤n) (n₀ bn bf:Nat) (Ac Af:Option Addr) (nc cc nf cf:Nat) (dry days:Int) (cs:List Ca) (fs:List Int) (field nd:Nat) (wa:World) (hn0:n₀≤wa.heap.size) (hbn:bn < wa.heap.size) (hbf:bf < wa.heap.size)
 (hnet:At wa bn [.slice Ac nc cc,.slice Af nf cf,.int .i64 dry,.int .i64 days]) (hfd:At wa bf [.int .i64 field]) (hcs:Rd wa n₀ Ca.cells Ac cs) (hfs:Rd wa n₀ icell Af fs) (hnc:nc=cs.length) (hnf:nf=fs.length)
 (hnc2:nc≤1000) (hnf2:nf≤1000) (hval:caFrm cs) (hnode:fs[field]?=some (nd:Int)) (hnd:nd≤cs.length) :
 SeqK n Tryz.prog 202 #[.pointer (some ⟨bn,0,none⟩),.pointer (some ⟨bf,0,none⟩)] (fun k=>#[.int .i64 ((upF cs nd nd).getD k 0)]) (upF cs nd nd).length False (fun _ _=>False) (fun _=>False) (fun b=>b < n₀∨b=bn∨b=bf) wa:=by
 intro l J Jx W hW hJ hJx hY h0 hinf
 have HY:=hide hY;have H0:=hide h0
 have hnetW:=hnet.kept hW (.inr (.inl rfl))
 have hfdW:=hfd.kept hW (.inr (.inr rfl))
 have HnetW:=hide hnetW
 have hcsW:=hide (hcs.kept hW (fun _ h=> .inl h) hn0);have hfsW:=hide (hfs.kept hW (fun _ h=> .inl h) hn0)
 have hszW:n₀≤W.heap.size:=Nat.le_trans hn0 hW.size
 have Hval:=hide hval;have Hnode:=hide hnode;have Hnc:=hide hnc;have Hnf:=hide hnf
 have hfl:field < nf:=by rw[hnf];exact(List.getElem?_eq_some_iff.1 hnode).1
 obtain⟨b,off,x,hA,hB,hx,hc⟩:=hfsW.out.int (i:=field) (by omega)
 rw[hnode] at hx
 injection hx with hx
 subst hx hA
 obtain⟨q0,q1,q2,q3⟩:=At.c4 hnetW
 have z0:=hfdW.c1
 clear hY h0 hJ hJx hinf hnet hfd hcs hfs hval hnode hnc hnf hnetW hfdW hW
 refine callsIn_of_wp Tryz.func202 rfl trivial ?_ rfl
 simp only[Tryz.ntmps202,List.size_toArray,List.length_cons,List.length_nil,Nat.reduceAdd,Nat.reduceSub,Array.replicate_succ,Array.replicate_zero,List.push_toArray,List.append_toArray,List.nil_append,List.cons_append]
 gi_wp2
 gi_loopw [4] (fun p wr=>∃(k m:Nat),p= .int .i64 m∧m≤cs.length∧Hid ((upF cs nd nd).drop k=upF cs m m)∧k+(upF cs m m).length=(upF cs nd nd).length∧J k wr∧Kept (fun b=>b < n₀∨b=bn∨b=bf) W wr) (fun p _=>(intOf p).toNat)
 case atStart=>exact⟨0,nd,rfl,hnd,hide rfl,by omega,H0.out,Kept.refl _ _⟩
 case round=>
  obtain⟨k,m,rfl,hm,hdr,hlen,hj,hk⟩:=hrel
  cases m with
  | zero =>
    gi_wp2
    go_end0
    exact .inl ⟨_,rfl,.inl (by rw[show(upF cs nd nd).length=k from by rw[←hlen];rfl];exact hj)⟩
  | succ m =>
    have hs:=hdr.out
    rw[upF_succ Hval.out] at hs hlen
    have hlt:k < (upF cs nd nd).length:=by rw[←hlen];simp
    have hg:(upF cs nd nd).getD k 0=(m:Int):=by
     have h1:((upF cs nd nd).drop k)[0]?=some (m:Int):=by rw[hs];rfl
     rw[List.getElem?_drop] at h1
     rw[List.getD_eq_getElem?_getD,show k=k+0 from rfl,h1]
     rfl
    obtain⟨fn,tmps,assign,body,hy,hR⟩:=HY.out k wr hj hlt
    rw[hg] at hy
    have HR:=hide hR;have Hs:=hide hs;have Hlen:=hide hlen
    clear hR hs hg hlen hdr
    have hm2:m < 1000:=by have:=Hnc.out;omega
    gi_wp2
    refine⟨fun h=>by simp[Fence.wide] at h,HR.out.mono ?_⟩
    rintro e W3 (⟨rfl,hJ3,hk3⟩ | ⟨rfl,hJx3⟩)
    ·have hkk:=hk.trans hk3
     obtain⟨p0,p1,p2,p3⟩:=(HnetW.out.kept hkk (.inr (.inl rfl))).c4
     obtain⟨b2,off2,f2,s0,s1,l0,l1,rfl,hB2,hx2,g0,g1,g2,g3,g4⟩:=(hcsW.out.kept hkk (fun _ h=> .inl h) hszW).ca (i:=m) (by omega)
     have hfv:=Hval.out m _ hx2
     simp only at hfv
     have hfr:frmN cs m=f2.toNat:=by unfold frmN;rw[hx2]
     obtain⟨f3,rfl⟩:∃f3:Nat,f2=f3:=⟨f2.toNat,by omega⟩
     have hfr':frmN cs m=f3:=by rw[hfr];simp
     have hml:m < nc:=by have:=Hnc.out;omega
     have Hfr:=hide hfr'
     have Hkk:=hide hkk
     clear hfr hfr' hx2 g1 g2 g3 g4 hkk
     gi_wp2
     refine⟨⟨k+1,f3,rfl,by omega,hide ?_,?_,hJ3,Hkk.out⟩,by simp[intOf];omega⟩
     ·rw[←List.tail_drop,Hs.out,Hfr.out]
      rfl
     ·have h2:=Hlen.out
      rw[Hfr.out] at h2
      simp at h2
      omega
    ·gi_wp2
     refine bodyPost_ret (results_none rfl _ _ _) rfl ?_
     exact .inl ⟨_,rfl,.inr ⟨k+1,by omega,hJx3⟩⟩
end Go.Proofs.YtiioegopckoldaaGreatDoor
namespace Go.Proofs.YtiioegopckoldaaGreatDoor
open Go.RowKit Go.Shelf
attribute [local go_sem] Oper.semAt_some
theorem info_int:(Tryz.prog.info? 3).map (fun i=>(i.zero,i.size,i.bytes))=some (some (.int .i64 0),1,8):=by kernel_rfl
theorem appi_int {F:Fence} {nf:Nat} {ops:Array Oper} {rest:List Oper} {o:Oper} {a:Act} {Q:Exit→Act→World→Prop} (hgd:o.guard=none) (w:World) (s x:Operand)
 (ho:o.op= .call {callee:= .builtin .append,args:=#[s,x],argTypes:=#[26,26] }) (base:Nat)
 (v:Value) (xs:List Int) (hs:a.eval s=v) (hown:Own w base 3 1 icell v xs) (B:Nat) (A:Option Addr) (n c:Nat) (ys:List Int) (hn:ys.length=n) (hx:a.eval x= .slice A n c) (hr:Rd w B icell A ys)
 (hlen:xs.length+ys.length≤1000000) (hbase:base≤w.heap.size)
 (h:∀v' w',Own w' base 3 1 icell v' (xs ++ ys)→w.grownBy w' v.ownBlock→wpListIn F nf Tryz.prog ops Q rest (a.put o.dst v') w'):wpListIn F nf Tryz.prog ops Q (o :: rest) a w:=by
 obtain⟨i0,hi0,hz0,hz1,hz2⟩:=info_parts info_int
 exact wpListIn_append_rd hgd w s x 26 ho base 3 i0 _ 1 8 Tryz.underlying26 hi0 hz0 hz1 hz2 rfl (by omega) (fun _=>rfl) icell_one v xs hs hown B A n c ys hn hx hr (by simp only[maxLen];omega) (by omega) hbase h
set_option maxHeartbeats 4000000 in
set_option maxRecDepth 100000 in
theorem appendSeq_any (gf:Nat) (lb:Array Value) (L:List Int) (R:Nat→Prop) (w:World) (eg:∀args w,(callFunc gf args).run Tryz.prog w= .ok (.enter gf args) w)
 (hseq:∀n,3≤n→SeqK n Tryz.prog gf lb (fun k=>#[.int .i64 (L.getD k 0)]) L.length False (fun _ _=>False) (fun _=>False) R w) (hR:∀b,R b→b < w.heap.size) (hlen:L.length≤1000) :
 Calls Tryz.prog 203 #[.slice none 0 0,.func (.func gf) #[] lb] w fun e w'=>∃v,e= .returned v∧Own w' w.heap.size 3 1 icell v L∧Below w.heap.size w w':=by
 obtain⟨w1,Hw1⟩:∃w1,Hid (w.alloc (.cells #[.slice none 0 0] 26)=w1):=⟨_,hide rfl⟩
 have hb1:Below w.heap.size w w1:=by rw[←Hw1.out];exact below_new _ _
 have hz1:w1.heap.size=w.heap.size+1:=by rw[←Hw1.out];simp
 have hc1:w1.cell? ⟨w.heap.size,0,none⟩=some (.slice none 0 0):=by rw[←Hw1.out];exact cell_new _ _ _ _ _ rfl
 have hf1:w1.frozen? ⟨w.heap.size,0,none⟩=false:=by rw[←Hw1.out];exact At.frozen_new _ _ _ _ rfl 0
 refine(callsIn_wide (n:=9)).1 ?_
 refine callsIn_of_wp_marks Tryz.func203 rfl trivial ?_ rfl
 simp only[Tryz.ntmps203,List.size_toArray,List.length_cons,List.length_nil,Nat.reduceAdd,Nat.reduceSub,Array.replicate_succ,Array.replicate_zero,List.push_toArray,List.append_toArray,List.nil_append,List.cons_append]
 gi_wp2_with fail
 rw[Hw1.out]
 refine wp_range (gf:=gf) (lb:=lb) rfl eg (hseq _ (by omega)) (Kept.all _ (hb1)) (fun _=>rfl) (fun b=>b=w.heap.size)
  (fun b h=>h.elim) (by intro b hb;omega) (by intro b hb;have:=hR b hb;omega)
  (fun k W=>BoxInv 3 1 icell w w.heap.size (w1.heap.size+2) (L.take k) W)
  (fun c k W=>False)
  (fun k a' W=>a'={tmps:=#[.slice none 0 0,.func (.func gf) #[] lb,.pointer (some ⟨w.heap.size,0,none⟩),undef,.slice none 0 0,.int .i64 (L.getD k 0),.func (.func gf) #[] lb,.int .i64 (L.getD k 0),undef,undef,undef,undef,undef],defers:=[] })
  (fun k A B h hk=>h.kept hk (by intro b hb;exact⟨fun h=>h,by omega,by omega⟩) ⟨fun h=>h,by omega,by omega⟩ (by intro b hb;exact⟨fun h=>h,by omega,by omega⟩))
  (fun c k A B h hk=>h) (fun k a' A B h hk=>h)
  (fun W hk hs=>⟨⟨_,Own.nil _ _ _ _ _,(hk.cell (p:=⟨w.heap.size,0,none⟩) trivial (by simp;omega)).trans hc1,(hk.frozen (p:=⟨w.heap.size,0,none⟩) trivial (by simp;omega)).trans hf1⟩,by have:=hk.size;omega,hb1.trans (hk.below (fun _ _=>trivial) hb1.size),by omega⟩)
  (fun h=>h.elim) ?assign ?body ?done ?stop ?panic
 case panic=>intro k chain W h;exact h.elim
 case stop=>intro c k W hk h;exact h.elim
 case assign=>
  intro l k W hi hlen' hk
  gi_wp2
  exact⟨Kept.refl _ _,hi,by rw[show L.getD k 0=L[k] from by simp[List.getD_eq_getElem?_getD,hk]]⟩
 case body=>
  rintro l k a' W hinv rfl hlen' hkn
  obtain⟨v,hown,hcl,hfz⟩:=hinv.own
  have Hown:=hide hown;have Hinv:=hide hinv
  have hx:L[k]?=some (L.getD k 0):=by rw[List.getD_eq_getElem?_getD,List.getElem?_eq_getElem hkn];rfl
  obtain⟨x,hxe⟩:∃x,x=L.getD k 0:=⟨_,rfl⟩
  rw[←hxe] at hx ⊢
  have Hx:=hide hx
  clear hown hinv hx hxe
  have hr:=hide (Rd.new (cells:=icell) W #[.int .i64 x] 3 [x] rfl)
  gi_wp2_with (gi_at_builtin;refine appi_int rfl _ (.tmp 8) (.tmp 10) rfl (w1.heap.size+2) v (L.take k) rfl (Hown.out.alloc _) _ _ 1 1 [x] rfl rfl hr.out (by simp;omega) (by simp;omega) ?_;intro vv wv hown1 hg1;have kv:=kept_app Hown.out hg1;have Hst:=hide (Hinv.out.step hown1 kv (by omega) (by omega));have hcl1:=(kv.cell (p:=⟨w.heap.size,0,none⟩) (by show w.heap.size < _;omega) Hinv.out.lt).trans hcl;have hfz1:=(kv.frozen (p:=⟨w.heap.size,0,none⟩) (by show w.heap.size < _;omega) Hinv.out.lt).trans hfz;obtain⟨A1,c1,rfl,hrd1⟩:=hown1.rd;rw[show(L.take k ++ [x]).length=k+1 from by simp;omega] at Hst ⊢;clear kv hg1 hown1 hrd1)
  exact⟨Hst.out.2,by show BoxInv _ _ _ _ _ _ (L.take (k+1)) _;rw[take_snoc Hx.out];exact Hst.out.1⟩
 case done=>
  intro W hinv hD
  obtain⟨v,hown,hcl,hfz⟩:=hinv.own
  rw[List.take_length] at hown
  have Hown:=hide hown;have Hinv:=hide hinv
  clear hown hinv
  gi_wp2
  refine⟨by simp,.inl ⟨_,_,rfl,run_takeDeferred hD,?_⟩⟩
  refine⟨_,results_tmp rfl _ _ _,?_⟩
  exact⟨v,rfl,(Hown.out.keptR (Kept.putObj W _ _) (fun b hb=>by omega)).mono (by omega),Hinv.out.bl.trans ((Kept.putObj W _ _).below (fun b hb=>by omega) Hinv.out.bl.size)⟩
set_option maxHeartbeats 1000000 in
theorem collect_any (gf:Nat) (lb:Array Value) (L:List Int) (R:Nat→Prop) (w:World) (eg:∀args w,(callFunc gf args).run Tryz.prog w= .ok (.enter gf args) w)
 (hseq:∀n,3≤n→SeqK n Tryz.prog gf lb (fun k=>#[.int .i64 (L.getD k 0)]) L.length False (fun _ _=>False) (fun _=>False) R w) (hR:∀b,R b→b < w.heap.size) (hlen:L.length≤1000) :
 Calls Tryz.prog 160 #[.func (.func gf) #[] lb] w fun e w'=>∃v,e= .returned v∧Own w' w.heap.size 3 1 icell v L∧Below w.heap.size w w':=by
 have H:=hide (appendSeq_any gf lb L R w eg hseq hR hlen)
 clear hseq eg
 go_enter Tryz.func160,Tryz.ntmps160
 go_wp2_with fail
 refine H.out.mono ?_
 rintro e w' ⟨v,rfl,ho,hb⟩
 have Ho:=hide ho
 clear ho
 go_wp2
 go_ret
 exact⟨v,rfl,Ho.out,hb⟩
end Go.Proofs.YtiioegopckoldaaGreatDoor
namespace Go.Proofs.YtiioegopckoldaaGreatDoor
open Go.RowKit Go.Shelf
def revTo (xs ys:List Int) (k:Nat):Prop:=ys.length=xs.length∧∀i,i < xs.length→ys[i]?=if i < k∨xs.length-k≤i then xs[xs.length-1-i]? else xs[i]?
theorem revTo_zero (xs:List Int):revTo xs xs 0:=⟨rfl,fun i hi=>by rw[if_neg (by omega)]⟩
theorem revTo_end {xs ys:List Int} {k:Nat} (h:revTo xs ys k) (hk:xs.length≤2*k+1):ys=xs.reverse:=by
 apply List.ext_getElem?
 intro i
 by_cases hi:i < xs.length
 ·rw[h.2 i hi,List.getElem?_reverse hi]
  split
  ·rfl
  ·rename_i hn
   rw[show xs.length-1-i=i by omega]
 ·rw[List.getElem?_eq_none (by rw[h.1];omega),List.getElem?_eq_none (by simp;omega)]
theorem revTo_step {xs ys:List Int} {k:Nat} {x y:Int} (h:revTo xs ys k) (hk:2*k+1 < xs.length) (hx:ys[k]?=some x) (hy:ys[xs.length-1-k]?=some y):revTo xs ((ys.set k y).set (xs.length-1-k) x) (k+1):=by
 refine⟨by simp[h.1],fun i hi=>?_⟩
 have e1:=h.2 k (by omega)
 rw[if_neg (by omega),hx] at e1
 have e2:=h.2 (xs.length-1-k) (by omega)
 rw[if_neg (by omega),hy] at e2
 by_cases h1:i=xs.length-1-k
 ·subst h1
  rw[List.getElem?_set_self (by simp;rw[h.1];omega),if_pos (by omega),show xs.length-1-(xs.length-1-k)=k by omega,e1]
 ·rw[List.getElem?_set_ne (by omega)]
  by_cases h2:i=k
  ·subst h2
   rw[List.getElem?_set_self (by rw[h.1];omega),if_pos (by omega),e2]
  ·rw[List.getElem?_set_ne (by omega),h.2 i hi]
   by_cases h3:i < k∨xs.length-k≤i
   ·rw[if_pos h3,if_pos (by omega)]
   ·rw[if_neg h3,if_neg (by omega)]
set_option maxHeartbeats 4000000 in
set_option maxRecDepth 100000 in
theorem reverse_any (base:Nat) (v:Value) (xs:List Int) (w:World) (hown:Own w base 3 1 icell v xs) (hlen:xs.length≤1000) (hb:base≤w.heap.size) :
 Calls Tryz.prog 161 #[v] w fun e w'=>e= .returned (.tuple #[])∧Own w' base 3 1 icell v xs.reverse∧Below base w w':=by
 have ho:=hown
 obtain⟨hl,hnil | ⟨g,cap,cur,rfl,hbg,hg,hrest⟩⟩:=hown
 ·obtain⟨rfl,hx0⟩:=hnil
  have hxn:xs=[]:=by simpa using hx0
  subst hxn
  go_enter Tryz.func161,Tryz.ntmps161
  go_wp2_with fail
  go_loopw [2,3] (fun a b wr=>a= .int .i64 0∧b= .int .i64 (-1)∧wr=w) (fun _ _ _=>0)
  case atStart=>exact⟨rfl,rfl,rfl⟩
  case round=>
   obtain⟨rfl,rfl,rfl⟩:=hrel
   go_wp2_with fail
   go_end0
   exact⟨rfl,ho,Below.refl _ _⟩
 ·have Ho:=hide ho
  obtain⟨n,hn⟩:∃n,n=xs.length:=⟨_,rfl⟩
  rw[←hn] at Ho hlen ⊢
  have Hn:=hide hn
  clear ho hl hrest hg hn
  go_enter Tryz.func161,Tryz.ntmps161
  go_wp2_with fail
  go_loopw [2,3] (fun a b wr=>∃(k:Nat) (ys:List Int),a= .int .i64 k∧b= .int .i64 ((n:Int)-1-k)∧2*k≤n∧Hid (revTo xs ys k)∧Hid (Own wr base 3 1 icell (.slice (some ⟨g,0,none⟩) n cap) ys)∧Below base w wr∧base≤wr.heap.size) (fun a _ _=>n-(intOf a).toNat)
  case atStart=>exact⟨0,xs,rfl,by go_num,by omega,hide (revTo_zero xs),Ho,Below.refl _ _,hb⟩
  case round=>
   obtain⟨k,ys,rfl,rfl,hk,hrv,how,hB,hsz⟩:=hrel
   have hln:ys.length=n:=by rw[hrv.out.1,←Hn.out]
   by_cases hlt:2*k+1 < n
   ·obtain⟨m,hm⟩:∃m:Nat,m+k+1=n:=⟨n-1-k,by omega⟩
    have hkx:ys[k]?=some ys[k]:=List.getElem?_eq_getElem (by omega)
    have hmx:ys[m]?=some ys[m]:=List.getElem?_eq_getElem (by omega)
    obtain⟨x,hx⟩:∃x,ys[k]?=some x:=⟨_,hkx⟩
    obtain⟨y,hy⟩:∃y,ys[m]?=some y:=⟨_,hmx⟩
    clear hkx hmx
    have hjm:((n:Int)-1-k)=(m:Int):=by omega
    rw[hjm]
    have hu:wr.ownsRow base 3 1 (.slice (some ⟨g,0,none⟩) n cap) n (ys.flatMap icell):=by
     have h:=how.out
     unfold Own at h
     rw[hln] at h
     exact h
    have c0:wr.cell? ⟨g,k,none⟩=some (.int .i64 x):=by
     have h1:=hu.cellAt k (by omega)
     have h2:=flat_get icell_len hx (j:=0) (by omega)
     simp only[Nat.mul_one,Nat.add_zero] at h2
     rw[h1,h2];rfl
    have c1:wr.cell? ⟨g,m,none⟩=some (.int .i64 y):=by
     have h1:=hu.cellAt m (by omega)
     have h2:=flat_get icell_len hy (j:=0) (by omega)
     simp only[Nat.mul_one,Nat.add_zero] at h2
     rw[h1,h2];rfl
    have f0:∀j:Nat,wr.frozen? ⟨g,j,none⟩=false:=fun j=>hu.frozenAt _
    have f1:=f0 k
    have f2:=f0 m
    clear hu f0
    go_wp2_with fail
    go_region
    go_wp2_with fail
    have hxl:xs.length-1-k=m:=by rw[←Hn.out];omega
    have p1:=(how.out.put_ icell_len (x':=y) (u:= .int .i64 y) hx (j:=0) (by omega) rfl hln.symm).1
    have hy2:(ys.set k y)[m]?=some y:=by rw[List.getElem?_set_ne (by omega)];exact hy
    have p2:=(p1.put_ icell_len (x':=x) (u:= .int .i64 x) hy2 (j:=0) (by omega) rfl (by simp[hln])).1
    simp only[Nat.mul_one,Nat.add_zero] at p2
    refine⟨⟨k+1,(ys.set k y).set m x,by go_num,by rw[show(m:Int)-1=(n:Int)-1-((k+1:Nat):Int) by omega],by omega,hide ?_,hide (Own.kept p2 (row:=none) ⟨rfl,rfl,rfl,Nat.le_refl _,fun _ _ _=>rfl⟩ (by simp[Value.ownBlock])),((hB.setCell (by simp;omega) _).setCell (by simp;omega) _).drew,by simpa[World.setCell] using hsz⟩,by simp[intOf];omega⟩
    have h5:=revTo_step (x:=x) (y:=y) hrv.out (by rw[←Hn.out];exact hlt) hx (by rw[hxl];exact hy)
    rw[hxl] at h5
    exact h5
   ·go_wp2_with fail
    go_end0
    exact⟨rfl,by rw[←revTo_end hrv.out (by rw[←Hn.out];omega)];exact how.out,hB⟩
end Go.Proofs.YtiioegopckoldaaGreatDoor
namespace Go.Proofs.YtiioegopckoldaaGreatDoor
open Go.RowKit Go.Shelf
theorem upF_len (cs:List Ca):∀(f node:Nat),(upF cs f node).length≤f
 | 0,_=>by simp[upF]
 | f + 1, node => by
   unfold upF
   split
   ·simp
   ·have:=upF_len cs f (frmN cs (node-1))
    simp
    omega
def pathF (cs:List Ca) (nd:Nat):List Int:=(upF cs nd nd).reverse
theorem up_any (Ac Af:Option Addr) (nc cc nf cf:Nat) (dry days field:Int) (w:World) :
 Calls Tryz.prog 159 #[.agg #[.slice Ac nc cc,.slice Af nf cf,.int .i64 dry,.int .i64 days],.int .i64 field] w fun e w'=>e= .returned (.func (.func 202) #[] #[.pointer (some ⟨w.heap.size,0,none⟩),.pointer (some ⟨w.heap.size+1,0,none⟩)])∧w'=(w.alloc (.cells #[.slice Ac nc cc,.slice Af nf cf,.int .i64 dry,.int .i64 days] 122)).alloc (.cells #[.int .i64 field] 3):=by
 go_enter Tryz.func159,Tryz.ntmps159
 go_wp2
 go_ret
 exact⟨rfl,rfl⟩
theorem enters_up1:∀args w,(callFunc 202 args).run Tryz.prog w= .ok (.enter 202 args) w:=enters_of Tryz.func202 (by kernel_rfl) rfl
set_option maxHeartbeats 4000000 in
theorem path_any (Ac Af:Option Addr) (nc cc nf cf:Nat) (dry days:Int) (cs:List Ca) (fs:List Int) (field nd:Nat) (w:World) (hcs:Rd w w.heap.size Ca.cells Ac cs) (hfs:Rd w w.heap.size icell Af fs) (hnc:nc=cs.length) (hnf:nf=fs.length)
 (hnc2:nc≤1000) (hnf2:nf≤1000) (hval:caFrm cs) (hnode:fs[field]?=some (nd:Int)) (hnd:nd≤cs.length) :
 Calls Tryz.prog 98 #[.agg #[.slice Ac nc cc,.slice Af nf cf,.int .i64 dry,.int .i64 days],.int .i64 field] w fun e w'=>∃v,e= .returned v∧Own w' w.heap.size 3 1 icell v (pathF cs nd)∧Below w.heap.size w w':=by
 obtain⟨w1,Hw1⟩:∃w1,Hid (w.alloc (.cells #[.slice Ac nc cc,.slice Af nf cf,.int .i64 dry,.int .i64 days] 122)=w1):=⟨_,hide rfl⟩
 have hb1:Below w.heap.size w w1:=by rw[←Hw1.out];exact below_new _ _
 have hz1:w1.heap.size=w.heap.size+1:=by rw[←Hw1.out];simp
 obtain⟨w2,Hw2⟩:∃w2,Hid ((w1.alloc (.cells #[.slice Ac nc cc,.slice Af nf cf,.int .i64 dry,.int .i64 days] 122)).alloc (.cells #[.int .i64 field] 3)=w2):=⟨_,hide rfl⟩
 have hb2:Below w1.heap.size w1 w2:=by rw[←Hw2.out];exact(below_new _ _).alloc (by simp) _
 have hz2:w2.heap.size=w1.heap.size+2:=by rw[←Hw2.out];simp
 have hb02:Below w.heap.size w w2:=hb1.trans (hb2.mono hb1.size)
 have hnet:At w2 w1.heap.size [.slice Ac nc cc,.slice Af nf cf,.int .i64 dry,.int .i64 days]:=by rw[←Hw2.out];exact(At.new w1 #[.slice Ac nc cc,.slice Af nf cf,.int .i64 dry,.int .i64 days] _ _ rfl _ rfl).alloc _
 have hfd:At w2 (w1.heap.size+1) [.int .i64 field]:=by rw[←Hw2.out];exact At.new (w1.alloc _) #[.int .i64 field] _ _ (by simp) _ rfl
 have hseq:=fun n hn=>up1_seq n hn w.heap.size w1.heap.size (w1.heap.size+1) Ac Af nc cc nf cf dry days cs fs field nd w2 (by omega) (by omega) (by omega) hnet hfd (hcs.below hb02) (hfs.below hb02) hnc hnf hnc2 hnf2 hval hnode hnd
 have H:=hide (collect_any 202 _ (upF cs nd nd) _ w2 enters_up1 hseq (fun b h=>by omega) (by have:=upF_len cs nd nd;omega))
 have hul:(upF cs nd nd).length≤1000:=by have:=upF_len cs nd nd;omega
 clear hseq hcs hfs hnet hfd hval hnode hnc hnf hz1 hz2
 go_enter Tryz.func98,Tryz.ntmps98
 go_wp2_with fail
 rw[Hw1.out]
 refine(up_any Ac Af nc cc nf cf dry days field w1).mono ?_
 rintro e w3 ⟨rfl,hw3⟩
 rw[Hw2.out] at hw3
 subst hw3
 go_wp2_with fail
 refine H.out.mono ?_
 rintro e w4 ⟨v,rfl,ho4,hb4⟩
 have Ho4:=hide ho4
 clear ho4
 go_wp2_with fail
 refine(reverse_any w3.heap.size v _ w4 Ho4.out hul hb4.size).mono ?_
 rintro e w5 ⟨rfl,ho5,hb5⟩
 have Ho5:=hide ho5
 clear ho5
 go_wp2
 go_ret
 exact⟨v,rfl,Ho5.out.mono hb02.size,hb02.trans ((hb4.trans hb5).mono hb02.size)⟩
end Go.Proofs.YtiioegopckoldaaGreatDoor
