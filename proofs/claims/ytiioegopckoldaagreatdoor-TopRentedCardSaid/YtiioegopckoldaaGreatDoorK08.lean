/- lemmas for topRented_holds: DI1. No conditions. -/
import Derived.Test.YtiioegopckoldaaGreatDoorK07
import Derived.Lib.AppendZerosOnto
import Derived.Lib.Overlaps
import Derived.Laws.Externs
import Derived.Shelf.RegionOpenPlain
set_option linter.unusedVariables false
set_option linter.unusedSimpArgs false
namespace Go.Proofs.YtiioegopckoldaaGreatDoor
open Go.RowKit Go.Shelf
theorem addr_add (g o j:Nat):(⟨g,o,none⟩:Addr).add j=⟨g,o+j,none⟩:=by unfold Addr.add;split <;> simp_all
theorem cell_row {w:World} {g:Nat} {cur:Array Value} {t:TypeId} (h:w.heap[g]?=some (.cells cur t (0,0))) {j:Nat} {v:Value} (hj:cur.toList[j]?=some v):w.cell? ⟨g,j,none⟩=some v:=by
 simp[World.cell?,h]
 simpa using hj
theorem own_shift {α:Type} {P:Program} {cells:α→List Value} {w:World} {base:Nat} {e:TypeId} {k g n c i:Nat} {xs:List α} {y:α} {vb vc d1 d2 s1:Nat} {T ty:TypeId}
 (h:Own w base e k cells (.slice (some ⟨g,0,none⟩) n c) xs) (hk:∀x,(cells x).length=k) (h1:∀x,∀u∈cells x,u.oneCell'=true) (hu:P.underlying T=some (.slice e)) (hs:(P.info? e).map (·.size)=some k)
 (hn:n=xs.length) (hi:i < n) (hroom:n+1≤c) (hv:∀j v,(cells y)[j]?=some v→w.cell? ⟨vb,j,none⟩=some v) (hne:vb≠g) :
 ∃w1 w2,(Builtin.copy_ #[T,T] ty #[.slice (some ⟨g,(i+1)*k,none⟩) (n+1-(i+1)) d1,.slice (some ⟨g,i*k,none⟩) (n+1-i) s1]).run P w= .ok (goInt ((n-i:Nat):Int)) w1∧
  (Builtin.copy_ #[T,T] ty #[.slice (some ⟨g,i*k,none⟩) (n+1-i) d2,.slice (some ⟨vb,0,none⟩) 1 vc]).run P w1= .ok (goInt 1) w2∧
  Own w2 base e k cells (.slice (some ⟨g,0,none⟩) (n+1) c) (xs.take i ++ [y] ++ xs.drop i)∧Kept (fun b=>b≠g) w w2:=by
 subst hn
 obtain⟨hl,hn0 | ⟨g',cap',cur,hv',hb,hg,hnc,hcm,hcs,ht⟩⟩:=h
 ·exact absurd hn0.1 (by simp)
 injection hv' with e1 e2 e3
 injection e1 with e1
 injection e1 with e1 _
 subst e1 e3
 have hfx:=flat_len hk xs
 have l1:((xs.take i).flatMap cells).length=i*k:=by rw[flat_len hk,List.length_take,Nat.min_eq_left (by omega)]
 have l3:((xs.drop i).flatMap cells).length=(xs.length-i)*k:=by rw[flat_len hk,List.length_drop]
 have ex:xs.flatMap cells=(xs.take i).flatMap cells ++ (xs.drop i).flatMap cells:=by rw[←List.flatMap_append,List.take_append_drop]
 have ec:cur.toList=(xs.flatMap cells) ++ cur.toList.drop (xs.length*k):=by
  conv=>lhs;rw[←List.take_append_drop (xs.length*k) cur.toList,ht]
 have hm1:(i+1)*k=i*k+k:=by rw[Nat.add_mul,Nat.one_mul]
 have hm2:i*k+(xs.length-i)*k=xs.length*k:=by rw[←Nat.add_mul];congr 1;omega
 have hm3:(xs.length+1)*k≤c*k:=Nat.mul_le_mul_right _ hroom
 have hm4:(xs.length+1)*k=xs.length*k+k:=by rw[Nat.add_mul,Nat.one_mul]
 have hcl:cur.toList.length=c*k:=by simpa using hcs
 have t1:cur.toList.take (i*k)=(xs.take i).flatMap cells:=by
  rw[ec,ex,List.append_assoc,List.take_append_of_le_length (by omega),List.take_of_length_le (by omega)]
 have r1:=run_copy_k (P:=P) w T T ty e k g ((i+1)*k) (xs.length+1-(i+1)) d1 ⟨g,i*k,none⟩ (xs.length+1-i) s1 (xs.length-i) cur e ((xs.drop i).flatMap cells) hu hs (by simp only[Nat.min_def];split <;> omega) hg l3
  (fun j v hj=>by
   rw[addr_add]
   refine cell_row hg ?_
   rw[ec,ex,List.append_assoc,List.getElem?_append_right (by omega),l1,show i*k+j-i*k=j by omega,List.getElem?_append_left (List.getElem?_eq_some_iff.1 hj).1]
   exact hj)
  (by rw[l3,hm1,hcs];omega) (flat_one h1 _)
 obtain⟨cur1,hcur1⟩:∃c1,c1=(cur.toList.take ((i+1)*k) ++ (xs.drop i).flatMap cells ++ cur.toList.drop ((i+1)*k+((xs.drop i).flatMap cells).length)).toArray:=⟨_,rfl⟩
 rw[←hcur1] at r1
 have hg1:=setRow_heap w g cur cur1 e (0,0) hg
 have lt1:(cur.toList.take ((i+1)*k)).length=i*k+k:=by rw[List.length_take,hm1,hcl,Nat.min_eq_left (by omega)]
 have hc1:cur1.toList=(xs.take i).flatMap cells ++ (cur.toList.take ((i+1)*k)).drop (i*k) ++ (xs.drop i).flatMap cells ++ cur.toList.drop ((i+1)*k+((xs.drop i).flatMap cells).length):=by
  rw[hcur1]
  simp only[List.append_assoc]
  conv=>lhs;rw[←List.take_append_drop (i*k) (cur.toList.take ((i+1)*k))]
  rw[List.take_take,Nat.min_eq_left (by omega),t1]
  simp only[List.append_assoc]
 have lmid:((cur.toList.take ((i+1)*k)).drop (i*k)).length=k:=by rw[List.length_drop,lt1];omega
 have hc1l:cur1.toList.length=c*k:=by
  rw[hc1]
  simp only[List.length_append,l1,l3,lmid,List.length_drop,hcl]
  omega
 have r2:=run_copy_k (P:=P) (w.setRow g cur1) T T ty e k g (i*k) (xs.length+1-i) d2 ⟨vb,0,none⟩ 1 vc 1 cur1 e (cells y) hu hs (by simp only[Nat.min_def];split <;> omega) hg1 (by rw[hk];omega)
  (fun j v hj=>by
   rw[addr_add,Nat.zero_add]
   have h2:(w.setRow g cur1).heap[vb]?=w.heap[vb]?:=setRow_other w g vb cur1 hne
   have h3:=hv j v hj
   simp only[World.cell?] at h3 ⊢
   rw[h2]
   exact h3)
  (by rw[hk,←Array.length_toList,hc1l];omega) (h1 y)
 refine⟨_,_,r1,r2,?_,?_⟩
 ·have hlen:(xs.take i ++ [y] ++ xs.drop i).length=xs.length+1:=by simp;omega
  refine⟨flat_len hk _,.inr ⟨g,c,_,by rw[hlen],hb,setRow_heap _ g cur1 _ e (0,0) hg1,by rw[hlen];exact hroom,hcm,?_,?_⟩⟩
  ·simp only[List.size_toArray,List.length_append,List.length_take,List.length_drop,hc1l,hk]
   rw[Nat.min_eq_left (by omega)]
   omega
  ·rw[hlen,List.toList_toArray,hk]
   have u1:cur1.toList.take (i*k)=(xs.take i).flatMap cells:=by
    rw[hc1]
    simp only[List.append_assoc]
    rw[List.take_append_of_le_length (by omega),List.take_of_length_le (by omega)]
   have u2:cur1.toList.drop (i*k+k)=(xs.drop i).flatMap cells ++ cur.toList.drop ((i+1)*k+((xs.drop i).flatMap cells).length):=by
    rw[hc1]
    simp only[List.append_assoc]
    rw[List.drop_append,List.drop_of_length_le (by omega),l1,show i*k+k-i*k=k by omega,List.nil_append,List.drop_append,List.drop_of_length_le (by omega),lmid,Nat.sub_self,List.nil_append,List.drop_zero]
   rw[u1,u2]
   have e5:(xs.take i ++ [y] ++ xs.drop i).flatMap cells=(xs.take i).flatMap cells ++ cells y ++ (xs.drop i).flatMap cells:=by simp
   rw[e5]
   have l5:(xs.length+1)*k=((xs.take i).flatMap cells ++ cells y ++ (xs.drop i).flatMap cells).length:=by
    simp only[List.length_append,l1,l3,hk]
    omega
   rw[l5,←List.append_assoc,List.take_left]
 ·refine⟨rfl,rfl,rfl,by simp[World.setRow],fun b hb _=>?_⟩
  rw[setRow_other _ g b _ hb,setRow_other _ g b _ hb]
theorem wpList_copyR {P:Program} (w:World) {ops:Array Oper} {rest:List Oper} {o:Oper} {a:Act} {Q:Exit→Act→World→Prop} (hgd:o.guard=none) (d s:Operand) (t t':TypeId)
 (ho:o.op= .call {callee:= .builtin .copy,args:=#[d,s],argTypes:=#[t,t'] }) (v u:Value) (hd:a.eval d=v) (hs:a.eval s=u) {v':Value} {w':World}
 (hr:(Builtin.copy_ #[t,t'] o.type #[v,u]).run P w= .ok v' w') (h:wpList P ops Q rest (a.put o.dst v') w'):wpList P ops Q (o :: rest) a w:=
 wpList_plain hgd fun _ hK=>by
  unfold Oper.wp execOp
  simp only[ho,resolve,invoke,builtin,Sem.run_bind,Sem.run_pure,Result.andThen_ok,List.map_toArray,List.map_cons,List.map_nil,hd,hs,hr]
  exact hK _ _ h
theorem op_copyR {P:Program} (w:World) {o:Oper} {a:Act} {K:Act→World→Prop} {Q:Exit→Act→World→Prop} (d s:Operand) (t t':TypeId)
 (ho:o.op= .call {callee:= .builtin .copy,args:=#[d,s],argTypes:=#[t,t'] }) (v u:Value) (hd:a.eval d=v) (hs:a.eval s=u) {v':Value} {w':World}
 (hr:(Builtin.copy_ #[t,t'] o.type #[v,u]).run P w= .ok v' w') (h:K (a.put o.dst v') w'):o.wp P a w K Q:=by
 unfold Oper.wp execOp
 simp only[ho,resolve,invoke,builtin,Sem.run_bind,Sem.run_pure,Result.andThen_ok,List.map_toArray,List.map_cons,List.map_nil,hd,hs,hr]
 exact h
theorem wpList_appendR {P:Program} (w:World) {ops:Array Oper} {rest:List Oper} {o:Oper} {a:Act} {Q:Exit→Act→World→Prop} (hgd:o.guard=none) (d s:Operand) (t t':TypeId)
 (ho:o.op= .call {callee:= .builtin .append,args:=#[d,s],argTypes:=#[t,t'] }) (v u:Value) (hd:a.eval d=v) (hs:a.eval s=u) {v':Value} {w':World}
 (hr:(Builtin.append_ #[t,t'] o.type #[v,u]).run P w= .ok v' w') (h:wpList P ops Q rest (a.put o.dst v') w'):wpList P ops Q (o :: rest) a w:=
 wpList_plain hgd fun _ hK=>by
  unfold Oper.wp execOp
  simp only[ho,resolve,invoke,builtin,Sem.run_bind,Sem.run_pure,Result.andThen_ok,List.map_toArray,List.map_cons,List.map_nil,hd,hs,hr]
  exact hK _ _ h
theorem step_copyR {P:Program} {ops:Array Oper} {o:Oper} {a:Act} {w:World} {K:Act→World→Prop} {Q:Exit→Act→World→Prop} {E:Prop}
 (hg:o.guard=none) (d x:Operand) (dT sT:TypeId) (hop:o.op=Op.call {callee:=Callee.builtin Builtin.copy,args:=#[d,x],argTypes:=#[dT,sT] })
 (v u:Value) (hd:a.eval d=v) (hx:a.eval x=u) {v':Value} {w':World} (hr:(Builtin.copy_ #[dT,sT] o.type #[v,u]).run P w= .ok v' w') (hK:K (a.put o.dst v') w') :
 if Region.wanted o (yielded ops a.tmps)=true then Oper.wp P o a w K Q else E:=by
 have hw:Region.wanted o (yielded ops a.tmps)=true:=by simp[Region.wanted,hg]
 rw[if_pos hw]
 exact op_copyR w d x dT sT hop v u hd hx hr hK
def pc0:Pc:=⟨0,0,0,0,0⟩
theorem zero_pcs (n:Nat):(Builtin.zeroCells #[.int .i64 0,.int .i64 0,.int .i64 0,.int .i64 0,.int .i64 0] n).toList=(List.replicate n pc0).flatMap Pc.cells:=by
 apply List.ext_getElem?
 intro j
 by_cases hj:j < n*5
 ·have hx:(List.replicate n pc0)[j / 5]?=some pc0:=by rw[List.getElem?_replicate,if_pos (by omega)]
  have h:=flat_get Pc.len hx (j:=j % 5) (by omega)
  rw[show j / 5*5+j % 5=j by omega] at h
  rw[h]
  rcases(show j % 5=0∨j % 5=1∨j % 5=2∨j % 5=3∨j % 5=4 by omega) with h0 | h0 | h0 | h0 | h0 <;> simp[Builtin.zeroCells,hj,Pc.cells,pc0,h0]
 ·rw[List.getElem?_eq_none (by simp[Builtin.zeroCells];omega),List.getElem?_eq_none (by rw[flat_len Pc.len];simp;omega)]
theorem info_pc:(Tryz.prog.info? 156).map (fun i=>(i.zero,i.size,i.bytes))=some (some (.agg #[.int .i64 0,.int .i64 0,.int .i64 0,.int .i64 0,.int .i64 0]),5,40):=by kernel_rfl
theorem size_pc:(Tryz.prog.info? 156).map (·.size)=some 5:=by kernel_rfl
theorem own_src {w:World} {base g n c:Nat} {xs:List Pc} (h:Own w base 156 5 Pc.cells (.slice (some ⟨g,0,none⟩) n c) xs) (i:Nat) (hi:i≤xs.length) {j:Nat} {v:Value} (hj:((xs.drop i).flatMap Pc.cells)[j]?=some v):w.cell? ⟨g,i*5+j,none⟩=some v:=by
 have h2:=h.cells (g:=g) rfl (i*5+j) v (by
  have l1:((xs.take i).flatMap Pc.cells).length=i*5:=by rw[flat_len Pc.len,List.length_take,Nat.min_eq_left hi]
  have ex:xs.flatMap Pc.cells=(xs.take i).flatMap Pc.cells ++ (xs.drop i).flatMap Pc.cells:=by rw[←List.flatMap_append,List.take_append_drop]
  rw[ex,List.getElem?_append_right (by omega),l1,show i*5+j-i*5=j by omega]
  exact hj)
 rw[addr_add,Nat.zero_add] at h2
 exact h2
theorem own_head {w:World} {base g n c:Nat} {xs:List Pc} (h:Own w base 156 5 Pc.cells (.slice (some ⟨g,0,none⟩) n c) xs) (i:Nat) {j:Nat} {v:Value} (hj:((xs.take i).flatMap Pc.cells)[j]?=some v):w.cell? ⟨g,0+j,none⟩=some v:=by
 have h2:=h.cells (g:=g) rfl j v (by
  have ex:xs.flatMap Pc.cells=(xs.take i).flatMap Pc.cells ++ (xs.drop i).flatMap Pc.cells:=by rw[←List.flatMap_append,List.take_append_drop]
  rw[ex,List.getElem?_append_left (List.getElem?_eq_some_iff.1 hj).1]
  exact hj)
 rw[addr_add] at h2
 exact h2
theorem own_growz {w:World} {base g n c i:Nat} {xs:List Pc} (h:Own w base 156 5 Pc.cells (.slice (some ⟨g,0,none⟩) n c) xs) (hn:n=xs.length) (hi:i < n) (hc:c < n+1) (hl:n+1≤1000000) (ty:TypeId) :
 ∃G W1,(Builtin.append_ #[158,3] ty #[.slice (some ⟨g,0,none⟩) i c,.int .i64 ((n:Int)+1-(i:Int))]).run Tryz.prog w= .ok (.slice (some ⟨w.heap.size,0,none⟩) (n+1) G) W1∧
  Own W1 w.heap.size 156 5 Pc.cells (.slice (some ⟨w.heap.size,0,none⟩) (n+1) G) (xs.take i ++ List.replicate (n+1-i) pc0)∧Below w.heap.size w W1∧n+1≤G∧G≤9223372036854775807:=by
 obtain⟨i0,hi0,hz,hs,hb⟩:=info_parts info_pc
 have hkk:(n:Int)+1-(i:Int)=((n+1-i:Nat):Int):=by omega
 have hik:i+(n+1-i)=n+1:=by omega
 have hold:(Builtin.firstCells i0.size i (.slice (some ⟨g,0,none⟩) i c)).run Tryz.prog w.drew= .ok ((xs.take i).flatMap Pc.cells).toArray w.drew:=by
  rw[hs]
  refine run_firstCells_some w.drew 5 i ⟨g,0,none⟩ i c _ (by rw[flat_len Pc.len,List.length_take,Nat.min_eq_left (by omega)]) (fun j v hj=>?_)
  rw[addr_add]
  exact own_head h i hj
 have hr:=Lib.run_append_grow_zeros w 158 3 ty 156 i0 _ .i64 .i64 Tryz.underlying158 Tryz.underlying3 hi0 hz (some ⟨g,0,none⟩) i c ((xs.take i).flatMap Pc.cells) hold (n+1-i) (by omega) (by rw[hs];omega) (by omega) (by omega) (by rw[hb];omega) (by rw[hb,hik];exact growslice_fits hc (by omega))
 rw[hik] at hr
 have hg1:=grownCap_ge w (n+1) c 156
 have hg2:=grownCap_le_maxLen w (n+1) c 156 (by unfold maxLen;omega)
 rw[←hkk] at hr
 refine⟨_,_,hr,⟨by rw[flat_len Pc.len],.inr ⟨w.heap.size,_,_,by simp;omega,Nat.le_refl _,heap_alloc_new w.drew _,by simp;omega,hg2,?_,?_⟩⟩,(Below.refl _ w).drew.alloc (Nat.le_refl _) _,hg1,by unfold maxLen at hg2;omega⟩
 ·simp only[Array.size_append,List.size_toArray,size_zeroCells,flat_len Pc.len,List.length_take,Value.cells,List.length_cons,List.length_nil]
  rw[Nat.min_eq_left (by omega)]
  omega
 ·simp only[Array.toList_append,Value.cells,zero_pcs]
  rw[←List.flatMap_append,List.take_left' (by rw[flat_len Pc.len])]
set_option maxHeartbeats 4000000 in
set_option maxRecDepth 100000 in
theorem deinsert_any (g n c i vb vc base:Nat) (xs:List Pc) (y:Pc) (w:World) (ho:Own w base 156 5 Pc.cells (.slice (some ⟨g,0,none⟩) n c) xs) (hn:n=xs.length) (hi:i≤n) (h0:0 < n) (hl:n+1≤1000000) (hb:base≤w.heap.size)
 (hvo:w.heap[vb]?=some (.cells #[.int .i64 y.fr,.int .i64 y.to,.int .i64 y.ow,.int .i64 y.le,.int .i64 y.un] 156 (0,0))) (hne:vb≠g) :
 Calls Tryz.prog 244 #[.slice (some ⟨g,0,none⟩) n c,.int .i64 (i:Int),.slice (some ⟨vb,0,none⟩) 1 vc] w fun e w'=>∃v',e= .returned v'∧Own w' base 156 5 Pc.cells v' (xs.take i ++ [y] ++ xs.drop i)∧Kept (fun b=>b≠g) w w'∧(v'.ownBlock=some g∨∃m,v'.ownBlock=some m∧w.heap.size≤m):=by
 have hv:∀j v,(Pc.cells y)[j]?=some v→w.cell? ⟨vb,j,none⟩=some v:=fun j v hj=>cell_row hvo (by simpa[Pc.cells] using hj)
 have hvw:vb < w.heap.size:=by
  apply Classical.byContradiction
  intro h
  rw[Array.getElem?_eq_none (by omega)] at hvo
  cases hvo
 rcases Nat.lt_or_ge i n with hlt | hge
 rotate_left
 ·obtain rfl:n=i:=by omega
  have hr:Rd w w.heap.size Pc.cells (some ⟨vb,0,none⟩) [y]:=fun _=>⟨vb,0,rfl,hvw,fun j v hj=>by rw[Nat.zero_add];exact hv j v (by simpa using hj)⟩
  have Ho:=hide ho;have Hr:=hide hr;have Hl:=hide hl;have Hn:=hide hn
  clear hv hvo ho hr hi hge hn
  go_enter Tryz.func244,Tryz.ntmps244
  go_wp2_with (at_builtin;go_loud (refine wpList_app (v:= .slice (some ⟨g,0,none⟩) n c) (xs:=xs) (ys:=[y]) (n:=1) (base:=base) (k:=5) (bytes:=40) (E:=156) el_pc rfl (.tmp 23) (.tmp 24) rfl rfl Ho.out rfl rfl Hr.out (by have:=Hn.out;omega) hb ?_;intro v' w' h1 h2 h3;have H1:=hide h1;have H2:=hide h2;have H3:=hide h3;clear h1 h2 h3))
  all_goals
   go_ret
   exact⟨v',rfl,by rw[Hn.out];simpa using H1.out,(Kept.grown H2.out).mono fun b _ h e=>h (by injection e),H3.out.imp_right fun e=>⟨_,e,Nat.le_refl _⟩⟩
 rcases Nat.lt_or_ge c (n+1) with hc | hc
 ·obtain rfl:n=c:=by
   rcases ho.2 with h | ⟨_,_,_,h,_,_,h2,_⟩
   ·exact absurd h.1 (by simp)
   ·injection h with _ _ h3;subst h3;rw[←hn] at h2;omega
  obtain⟨G,W1,hrun,o1,b1,g1,g2⟩:=own_growz ho hn hlt hc hl 158
  have hv1:∀j v,(([y]:List Pc).flatMap Pc.cells)[j]?=some v→W1.cell? ⟨vb,0+j,none⟩=some v:=fun j v hj=>by
   rw[Nat.zero_add,b1.cell (p:=⟨vb,j,none⟩) hvw];exact hv j v (by simpa using hj)
  have hgw:=(ho.blockG rfl).2
  obtain⟨W2,hc1,o2,b2⟩:=Own.copied (P:=Tryz.prog) (T:=158) (ty:=3) (ys:=[y]) (o:=i) (s:=1) (c':=vc) (dCap:=G-i) (b:=vb) (off:=0) o1 Pc.len Pc.one Tryz.underlying158 size_pc (by simp;omega) (by omega) rfl (n+1-i) 1 (by simp only[Nat.min_def];split <;> omega) hv1
  have hbb:=b1.trans b2
  obtain⟨W3,hc2,o3,b3⟩:=Own.copied (P:=Tryz.prog) (T:=158) (ty:=3) (ys:=xs.drop i) (o:=i+1) (s:=n-i) (c':=n-i) (dCap:=G-(i+1)) (b:=g) (off:=i*5) (w:=W2.drew) o2 Pc.len Pc.one Tryz.underlying158 size_pc (by simp;omega) (by omega) (by simp;omega) (n+1-(i+1)) (n-i) (by simp only[Nat.min_def];split <;> omega)
   (fun j v hj=>by
    show W2.cell? _=_
    rw[hbb.cell (p:=⟨g,i*5+j,none⟩) hgw]
    exact own_src ho i (by omega) hj)
  have hfin:(((xs.take i ++ List.replicate (n+1-i) pc0).take i ++ [y] ++ (xs.take i ++ List.replicate (n+1-i) pc0).drop (i+1)).take (i+1) ++ xs.drop i ++ ((xs.take i ++ List.replicate (n+1-i) pc0).take i ++ [y] ++ (xs.take i ++ List.replicate (n+1-i) pc0).drop (i+1)).drop (i+1+(n-i)))=xs.take i ++ [y] ++ xs.drop i:=by
   have hA:(xs.take i).length=i:=by rw[List.length_take,Nat.min_eq_left (by omega)]
   have e3:((xs.take i ++ [y] ++ (xs.take i ++ List.replicate (n+1-i) pc0).drop (i+1)):List Pc).drop (i+1+(n-i))=[]:=List.drop_of_length_le (by rw[List.length_append,List.length_append,hA,List.length_drop,List.length_append,hA,List.length_replicate,List.length_singleton];omega)
   rw[List.take_left' hA,e3,List.append_nil,List.take_left' (by rw[List.length_append,hA];rfl)]
  rw[hfin] at o3
  have O3:=hide o3;have B3:=hide (hbb.drew.trans b3)
  have w1:IntKind.i64.wrap ((n:Int)+1)=(n:Int)+1:=wrapI (by omega)
  have mixed:Tryz.prog.follows Departure.mixedOrders=true:=by kernel_rfl
  have Hrun:=hide hrun;have Hc1:=hide hc1;have Hc2:=hide hc2
  have w2:IntKind.i64.wrap ((i:Int)+1)=(i:Int)+1:=wrapI (by omega)
  have w3:IntKind.i64.wrap ((n:Int)+1-(i:Int))=(n:Int)+1-(i:Int):=wrapI (by omega)
  have z2:¬((i:Int)=(n:Int)):=by omega
  have z3:(n:Int) < (n:Int)+1:=by omega
  have z4:(0:Int)≤(i:Int)+1:=by omega
  have z5:((i:Int)+1).toNat=i+1:=by omega
  have z6:¬(G=i):=by omega
  have z7:¬(G=i+1):=by omega
  have z8:¬(n=i):=by omega
  have z9:i≤n:=by omega
  have z10:(i:Int)≤(n:Int):=by omega
  have z11:(i:Int)+1≤(n:Int)+1:=by omega
  have Hn:=hide hn
  have hge:w.heap.size < W1.heap.size:=(o1.blockG rfl).2
  clear hv hv1 hvo ho o1 o2 o3 b1 b2 b3 hbb hfin hrun hc1 hc2 hn
  go_enter Tryz.func244,Tryz.ntmps244
  go_wp2_with (first | (at_builtin;refine wpList_appendR _ rfl (.tmp 34) (.tmp 39) 158 3 rfl _ _ rfl rfl Hrun.out ?_;clear Hrun) | (refine wpList_copyR _ rfl (.tmp 43) (.tmp 44) 158 158 rfl _ _ rfl rfl Hc1.out ?_;clear Hc1))
  go_region_law_o (refine step_copyR rfl _ _ 158 158 rfl _ _ (by simp[Act.eval,Act.put]) (by simp[Act.eval,Act.put]) Hc2.out ?_)
  go_wp2_with fail
  go_ret
  exact⟨_,rfl,by simpa using O3.out.mono hb,Kept.all _ B3.out,.inr ⟨w.heap.size,rfl,Nat.le_refl _⟩⟩
 ·have hov:∀(W:World) o lb cb,W.shape? vb=some (156,5)→W.shape? g=some (156,c*5)→W.frozen? ⟨vb,0,none⟩=false→W.frozen? ⟨vb,5,none⟩=false→(callFunc 262 #[.slice (some ⟨vb,0,none⟩) 1 vc,.slice (some ⟨g,o,none⟩) lb cb]).run Tryz.prog W= .ok (.value (.bool false)) W:=fun W o lb cb s1 s2 f1 f2=>by
   rw[run_callFunc_extern Tryz.func262 (by kernel_rfl) (by kernel_rfl) (by kernel_rfl) (e:=Extern.SlicesOverlaps.overlaps #[158,158] #[4]) (by kernel_rfl),
    Lib.run_overlaps_apart W 158 4 156 Tryz.underlying158 5 (fun w=>by kernel_rfl) ⟨vb,0,none⟩ ⟨g,o,none⟩ 1 vc lb cb hne 156 156 5 (c*5) s1 s2 (by omega) f1 f2]
   rfl
  have hsh:w.shape? g=some (156,c*5):=by
   rcases ho.2 with h | ⟨_,_,cur,h,_,h1,_,_,h2,_⟩
   ·exact absurd h.1 (by simp)
   ·injection h with h3 _ h5
    injection h3 with h3
    injection h3 with h3 _
    subst h3 h5
    simp[World.shape?,h1,h2]
  have hov2:=fun o lb cb=>hov w o lb cb (by simp[World.shape?,hvo]) hsh (by simp[World.frozen?,hvo]) (by simp[World.frozen?,hvo])
  have hc63:c≤9223372036854775807:=by
   rcases ho.2 with h | ⟨_,_,cur,h,_,h1,_,h4,_⟩
   ·exact absurd h.1 (by simp)
   ·injection h with h3 _ h5
    subst h5
    unfold maxLen at h4
    omega
  obtain⟨W1,W2,hc1,hc2,o2,k2⟩:=own_shift (P:=Tryz.prog) (T:=158) (ty:=3) (y:=y) (vb:=vb) (vc:=vc) (d1:=c-(i+1)) (d2:=c-i) (s1:=c-i) (w:=w.drew) ho Pc.len Pc.one Tryz.underlying158 size_pc hn hlt hc hv hne
  have mixed:Tryz.prog.follows Departure.mixedOrders=true:=by kernel_rfl
  have Hc1:=hide hc1;have Hc2:=hide hc2;have O2:=hide o2;have K2:=hide ((Kept.all (fun b=>b≠g) (Below.refl _ w).drew).trans k2)
  have w1:IntKind.i64.wrap ((n:Int)+1)=(n:Int)+1:=wrapI (by omega)
  have w2:IntKind.i64.wrap ((i:Int)+1)=(i:Int)+1:=wrapI (by omega)
  have z2:¬((i:Int)=(n:Int)):=by omega
  have z3:¬((c:Int) < (n:Int)+1):=by omega
  have z4:(0:Int)≤(i:Int)+1:=by omega
  have z5:((i:Int)+1).toNat=i+1:=by omega
  have z6:¬(c=i):=by omega
  have z7:¬(c=i+1):=by omega
  have z8:¬(n=i):=by omega
  have z9:i≤n:=by omega
  have z10:(i:Int)≤(n:Int):=by omega
  have z11:(i:Int)+1≤(n:Int)+1:=by omega
  have z12:(n:Int)+1≤(c:Int):=by omega
  have z13:(0:Int)≤(n:Int)+1:=by omega
  have z14:((n:Int)+1).toNat=n+1:=by omega
  have z15:(i:Int)≤(n:Int)+1:=by omega
  clear hov hv hvo ho hc1 hc2 o2 k2 hn hsh
  go_enter Tryz.func244,Tryz.ntmps244
  go_wp2_with (simp only[hov2])
  go_region_law_o (refine step_copyR rfl _ _ 158 158 rfl _ _ (by simp[Act.eval,Act.put]) (by simp[Act.eval,Act.put]) Hc1.out ?_)
  go_wp2_with (refine wpList_copyR _ rfl (.tmp 80) (.tmp 81) 158 158 rfl _ _ rfl rfl Hc2.out ?_;clear Hc2)
  go_ret
  exact⟨_,rfl,by simpa using O2.out,K2.out,.inl rfl⟩
end Go.Proofs.YtiioegopckoldaaGreatDoor
