/- lemmas for agentWrites_holds: App. No conditions. -/
import Derived.Test.YtgfghffihjfbpaaGreatDoorK08
import Derived.Test.YtgfghffihjfbpaaGreatDoorK09
import Derived.Test.YtgfghffihjfbpaaGreatDoorProg
import Derived.Laws.MakeOwn
set_option linter.unusedVariables false
set_option linter.unusedSimpArgs false
namespace Go.Proofs.YtgfghffihjfbpaaGreatDoor
open Go.RowKit Go.Shelf
structure ElLaw (P:Program) (T E:TypeId) (k bytes:Nat) {α:Type} (cells:α→List Value):Prop where
 ty:P.underlying T=some (.slice E)
 info:∃i z,P.info? E=some i∧i.zero=some z∧i.size=k∧i.bytes=bytes∧z.cells.size=k
 pos:0 < k
 len:∀x,(cells x).length=k
 one:∀x,∀u∈cells x,u.oneCell'=true
 small:bytes≤1000
theorem elLaw_of {P:Program} {T E:TypeId} {k bytes:Nat} {α:Type} {cells:α→List Value} {z:Value} (ty:P.underlying T=some (.slice E)) (info:(P.info? E).map (fun i=>(i.zero,i.size,i.bytes))=some (some z,k,bytes)) (hz:z.cells.size=k) (pos:0 < k)
 (len:∀x,(cells x).length=k) (one:∀x,∀u∈cells x,u.oneCell'=true) (small:bytes≤1000):ElLaw P T E k bytes cells:=by
 obtain⟨i0,hi0,hz0,hz1,hz2⟩:=info_parts info
 exact⟨ty,⟨i0,z,hi0,hz0,hz1,hz2,hz⟩,pos,len,one,small⟩
section
variable {α:Type} {cells:α→List Value} {P:Program} {T E:TypeId} {k bytes:Nat} {w:World} {base:Nat} {v:Value} {xs:List α} {B:Nat} {A:Option Addr} {n c:Nat} {ys:List α}
theorem ElLaw.append (L:ElLaw P T E k bytes cells) (hown:Own w base E k cells v xs) (hr:Rd w B cells A ys) (hn:ys.length=n) (hlen:xs.length+n≤1000000) (hbase:base≤w.heap.size) (ty:TypeId) :
 ∃v' w',(Builtin.append_ #[T,T] ty #[v,.slice A n c]).run P w= .ok v' w'∧Own w' base E k cells v' (xs ++ ys)∧w.grownBy w' v.ownBlock∧(v'.ownBlock=v.ownBlock∨v'.ownBlock=some w.heap.size):=by
 subst hn
 obtain⟨i,z,hi,hz,hsize,hby,hzs⟩:=L.info
 have hb1:(xs.length+ys.length)*bytes≤140737488355328:=by
  have:(xs.length+ys.length)*bytes≤1000000*1000:=Nat.mul_le_mul hlen L.small
  omega
 rcases A with _ | ad
 ·obtain rfl:ys=[]:=by
   rcases ys with _ | ⟨y,ys⟩
   ·rfl
   ·obtain⟨b,off,e1,_⟩:=hr (by simp)
    cases e1
  refine⟨v,w,?_,by simpa using hown,World.grownBy.refl w _,.inl rfl⟩
  rcases hown.2 with⟨rfl,_⟩ | ⟨g,cap,cur,rfl,_,_,hnc,_⟩
  ·simp[Builtin.append_,run_underlying L.ty,sizeOf,typeInfo,hi,Builtin.lenOf,Builtin.firstCells]
  ·simp[Builtin.append_,run_underlying L.ty,sizeOf,typeInfo,hi,Builtin.lenOf,Builtin.firstCells,hnc,storeCells]
 ·have hcells:∀j u,(ys.flatMap cells)[j]?=some u→w.cell? (ad.add j)=some u:=by
   intro j u hu
   have h0:0 < ys.length:=by
    rcases ys with _ | ⟨y,ys⟩
    ·simp at hu
    ·simp
   obtain⟨b,off,e1,_,hc⟩:=hr h0
   injection e1 with e1
   subst e1
   have hadd:(⟨b,off,none⟩:Addr).add j=⟨b,off+j,none⟩:=by unfold Addr.add;split <;> simp_all
   rw[hadd]
   exact hc j u hu
  obtain⟨v',w',hrun,h2,h3,_,h5⟩:=run_append_own_at (P:=P) w base T ty E i z k bytes L.ty hi hz hsize hby hzs L.pos v xs.length (xs.flatMap cells) hown ad ys.length c (ys.flatMap cells) (flat_len L.len ys) hcells (flat_one L.one ys) (by simp only[maxLen];omega) hb1 hbase
  exact⟨v',w',hrun,by unfold Own;rw[List.length_append,List.flatMap_append];exact h2,h3,h5⟩
theorem op_app {o:Oper} {a:Act} {K:Act→World→Prop} {Q:Exit→Act→World→Prop} (L:ElLaw P T E k bytes cells) (s x:Operand) (ho:o.op= .call {callee:= .builtin .append,args:=#[s,x],argTypes:=#[T,T] })
 (hs:a.eval s=v) (hown:Own w base E k cells v xs) (hn:ys.length=n) (hx:a.eval x= .slice A n c) (hr:Rd w B cells A ys) (hlen:xs.length+n≤1000000) (hbase:base≤w.heap.size)
 (h:∀v' w',Own w' base E k cells v' (xs ++ ys)→w.grownBy w' v.ownBlock→(v'.ownBlock=v.ownBlock∨v'.ownBlock=some w.heap.size)→K (a.put o.dst v') w'):o.wp P a w K Q:=by
 obtain⟨v',w',hrun,h2,h3,h4⟩:=L.append (c:=c) hown hr hn hlen hbase o.type
 unfold Oper.wp execOp
 simp only[ho,resolve,invoke,builtin,Sem.run_bind,Sem.run_pure,Result.andThen_ok,List.map_toArray,List.map_cons,List.map_nil,hs,hx,hrun]
 exact h v' w' h2 h3 h4
theorem opIn_app {F:Fence} {nF:Nat} {o:Oper} {a:Act} {K:Act→World→Prop} {Q:Exit→Act→World→Prop} (L:ElLaw P T E k bytes cells) (s x:Operand) (ho:o.op= .call {callee:= .builtin .append,args:=#[s,x],argTypes:=#[T,T] })
 (hs:a.eval s=v) (hown:Own w base E k cells v xs) (hn:ys.length=n) (hx:a.eval x= .slice A n c) (hr:Rd w B cells A ys) (hlen:xs.length+n≤1000000) (hbase:base≤w.heap.size)
 (h:∀v' w',Own w' base E k cells v' (xs ++ ys)→w.grownBy w' v.ownBlock→(v'.ownBlock=v.ownBlock∨v'.ownBlock=some w.heap.size)→K (a.put o.dst v') w'):o.wpIn F nF P a w K Q:=by
 obtain⟨v',w',hrun,h2,h3,h4⟩:=L.append (c:=c) hown hr hn hlen hbase o.type
 unfold Oper.wpIn
 refine⟨by simp[Oper.about,ho,resolve,Target.leads,Sem.run_pure],?_⟩
 rw[Oper.semAt_plain F _ _ (by rw[ho];intro c hc';cases hc')]
 simp[execOp,ho,resolve,invoke,builtin,hs,hx,hrun,Result.andThen]
 exact h v' w' h2 h3 h4
theorem wpList_app {ops:Array Oper} {rest:List Oper} {o:Oper} {a:Act} {Q:Exit→Act→World→Prop} (L:ElLaw P T E k bytes cells) (hgd:o.guard=none) (s x:Operand) (ho:o.op= .call {callee:= .builtin .append,args:=#[s,x],argTypes:=#[T,T] })
 (hs:a.eval s=v) (hown:Own w base E k cells v xs) (hn:ys.length=n) (hx:a.eval x= .slice A n c) (hr:Rd w B cells A ys) (hlen:xs.length+n≤1000000) (hbase:base≤w.heap.size)
 (h:∀v' w',Own w' base E k cells v' (xs ++ ys)→w.grownBy w' v.ownBlock→(v'.ownBlock=v.ownBlock∨v'.ownBlock=some w.heap.size)→wpList P ops Q rest (a.put o.dst v') w'):wpList P ops Q (o :: rest) a w:=
 wpList_plain hgd fun _ hK=>op_app L s x ho hs hown hn hx hr hlen hbase fun v' w' h2 h3 h4=>hK _ _ (h v' w' h2 h3 h4)
end
theorem Own.lit {α:Type} {cells:α→List Value} (w:World) (e:TypeId) (k:Nat) (cs:Array Value) (xs:List α) (hk:∀x,(cells x).length=k) (h:cs.toList=xs.flatMap cells) (hl:xs.length≤1000000) (base:Nat) (hb:base≤w.heap.size) :
 Own (w.alloc (.cells cs e)) base e k cells (.slice (some ⟨w.heap.size,0,none⟩) xs.length xs.length) xs:=by
 have h1:cs.toList.length=xs.length*k:=by rw[h];exact flat_len hk xs
 have h2:cs.size=xs.length*k:=by rw[←Array.length_toList];exact h1
 refine⟨flat_len hk xs,.inr ⟨w.heap.size,xs.length,cs,rfl,hb,heap_alloc_new w _,Nat.le_refl _,by simp only[maxLen];omega,h2,?_⟩⟩
 rw[h,List.take_of_length_le (by rw[flat_len hk xs];exact Nat.le_refl _)]
structure Sl where
 a:Option Addr
 n:Nat
 c:Nat
def Sl.cells (s:Sl):List Value:=[.slice s.a s.n s.c]
theorem Sl.len (s:Sl):s.cells.length=1:=rfl
theorem Sl.one (s:Sl):∀u∈s.cells,u.oneCell'=true:=by simp[Sl.cells,Value.oneCell']
structure Rows {α:Type} (w:World) (B:Nat) (cells:α→List Value) (ss:List Sl) (xss:List (List α)):Prop where
 len:ss.length=xss.length
 row:∀(i:Nat) (s:Sl) (xs:List α),ss[i]?=some s→xss[i]?=some xs→s.n=xs.length∧Rd w B cells s.a xs
theorem Rows.keep {α:Type} {w w':World} {B:Nat} {cells:α→List Value} {ss:List Sl} {xss:List (List α)} (h:Rows w B cells ss xss) (hk:∀p:Addr,p.block < B→w'.cell? p=w.cell? p):Rows w' B cells ss xss:=
 ⟨h.len,fun i s xs h1 h2=>⟨(h.row i s xs h1 h2).1,(h.row i s xs h1 h2).2.keep hk⟩⟩
theorem Rows.below {α:Type} {w w':World} {B:Nat} {cells:α→List Value} {ss:List Sl} {xss:List (List α)} (h:Rows w B cells ss xss) (hb:Below B w w'):Rows w' B cells ss xss:=h.keep fun _ hp=>hb.cell hp
theorem Rows.more {α:Type} {w:World} {B B':Nat} {cells:α→List Value} {ss:List Sl} {xss:List (List α)} (h:Rows w B cells ss xss) (hB:B≤B'):Rows w B' cells ss xss:=
 ⟨h.len,fun i s xs h1 h2=>⟨(h.row i s xs h1 h2).1,(h.row i s xs h1 h2).2.more hB⟩⟩
end Go.Proofs.YtgfghffihjfbpaaGreatDoor
namespace Go.Proofs.YtgfghffihjfbpaaGreatDoor
open Go.RowKit Go.Shelf
end Go.Proofs.YtgfghffihjfbpaaGreatDoor
namespace Go.Proofs.YtgfghffihjfbpaaGreatDoor
open Go.RowKit Go.Shelf
attribute [local go_sem] Oper.semAt_some
theorem el_int:ElLaw Tryz.prog 55 3 1 8 icell:=elLaw_of Tryz.underlying55 (z:= .int .i64 0) (by kernel_rfl) rfl (by omega) (fun _=>rfl) icell_one (by omega)
end Go.Proofs.YtgfghffihjfbpaaGreatDoor
namespace Go.Proofs.YtgfghffihjfbpaaGreatDoor
open Go.RowKit Go.Shelf
end Go.Proofs.YtgfghffihjfbpaaGreatDoor
