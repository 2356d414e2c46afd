/- lemmas for topFed_holds: V5 App. No conditions. -/
import Derived.Test.YtiioegopckoldaaGreatDoorK05
import Derived.Test.YtiioegopckoldaaGreatDoorK07
import Derived.Handy
import Derived.Test.YtiioegopckoldaaGreatDoorK04
import Derived.Test.YtiioegopckoldaaGreatDoorProg
import Derived.Laws.MakeOwn
set_option linter.unusedVariables false
set_option linter.unusedSimpArgs false
namespace Go.Proofs.YtiioegopckoldaaGreatDoor
open Go.RowKit Go.Shelf
theorem solveGo_bd {n:Nat}:∀(f j:Nat) (t:Nat→Nat→Int),j+f=n→FwOk n j t→∀i k,i < n→k < n→ -20000000*2 ^ n≤(solveGo n f j t).1 i k∧(solveGo n f j t).1 i k≤20000000
 | 0, j, t, hj, h, i, k, hi, hk => by
   obtain rfl:j=n:=by omega
   exact⟨h.lo i k hi hk,h.hi i k hi hk⟩
 | f + 1, j, t, hj, h, i, k, hi, hk => by
   unfold solveGo
   split
   ·rename_i hd
    exact solveGo_bd f (j+1) _ (by omega) (h.next (by omega) hd) i k hi hk
   ·have h1:=h.lo i k hi hk
    have h2:=h.lo i j hi (by omega)
    have h3:=h.lo j k (by omega) hk
    have h4:=h.hi i k hi hk
    have hpos:(0:Int) < 2 ^ j:=Int.pow_pos (by omega)
    have hp:(2:Int)*2 ^ j≤2 ^ n:=by
     have h5:(2:Nat) ^ (j+1)≤2 ^ n:=Nat.pow_le_pow_right (by omega) (by omega)
     have h6:((2 ^ (j+1):Nat):Int)≤((2 ^ n:Nat):Int):=Int.ofNat_le.2 h5
     rw[Nat.pow_succ] at h6
     simp at h6
     omega
    show _≤phaseT n t j i k∧phaseT n t j i k≤_
    unfold phaseT
    rw[if_pos ⟨hi,hk⟩]
    omega
theorem solveF_bd {p:Nat} {sh:List Q4} {mk:List Us} {th:List Q4} (hok:svOk p sh mk th=true) {i k:Nat} (hi:i≤p) (hk:k≤p) :
 -41943040000000≤(solveF p (fun _=>false) sh mk).1 i k∧(solveF p (fun _=>false) sh mk).1 i k≤20000000:=by
 have h:=solveGo_bd (n:=p+1) (p+1) 0 _ (by omega) (FwOk.fold (p:=p) _ tab0 (FwOk.start _) (bounds_fine (out:=fun _=>false) hok)) i k (by omega) (by omega)
 have hp:=pow_le_21 (show p+1≤21 by have:=(sv_parts hok).2.1;omega)
 unfold solveF
 omega
set_option maxHeartbeats 4000000 in
set_option maxRecDepth 100000 in
theorem fall_any (b:Nat) (T:Nat→Nat→Int) (x y:Nat) (w:World) (hT:Bx w b (tblC T)) (hx:x < 21) (hy:y < 21) (h1: -41943040000000≤T x y) (h2:T x y≤20000000) :
 Calls Tryz.prog 236 #[.pointer (some ⟨b,0,none⟩),.int .i64 (x:Int),.int .i64 (y:Int)] w fun e w'=>e= .returned (.agg #[.int .i64 (-(T x y)),.int .i64 (T y x)])∧Below w.heap.size w w':=by
 have c1:=hT.tg hx hy
 have c2:=hT.tg hy hx
 have hb:=hT.lt
 obtain⟨u,hu⟩:∃u,u=T x y:=⟨_,rfl⟩
 obtain⟨v,hv⟩:∃v,v=T y x:=⟨_,rfl⟩
 rw[←hu] at c1 h1 h2 ⊢
 rw[←hv] at c2 ⊢
 have fu:IntKind.i64.wrap (-u)= -u:=wrapI (by omega)
 have x0:(0:Int)≤(x:Int):=by omega
 have x1:(x:Int) < 21:=by omega
 have y0:(0:Int)≤(y:Int):=by omega
 have y1:(y:Int) < 21:=by omega
 obtain⟨b6,w1,e6,ew1,hx6,hb6,hz6⟩:=mk_bx w #[.int .i64 0,.int .i64 0] 24
 have HT:=hide (hT.bel hb6)
 have hne:b≠b6:=by have:=e6.out;omega
 have HX6:=hide hx6
 have Hu:=hide hu.symm;have Hv:=hide hv.symm
 clear hu hv hT h1 h2 c1 c2 hx6
 go_enter Tryz.func236,Tryz.ntmps236
 go_wp2_with fail
 rw[ew1.out,e6.out]
 refine wp_norm ?_
 have HX6:Hid (Bx w1 b6 [.int .i64 0,.int .i64 0]):=HX6
 refine wp_region_held_drew (S:=(fun W=>Kept (fun b=>b≠b6) w1 W∧∃s t:Value,Bx W b6 [s,t])) (by kernel_rfl) (by(try dsimp only);exact⟨Kept.all _ (Below.refl _ _).drew,_,_,HX6.out.drew⟩) (fun hHeld=>?_)
 generalize World.drew w1=Wd at hHeld ⊢
 iterate 12
  refine tkHl [0,1,2,3,4,5,8,9,10,11,12,13] ?_ rfl rfl (Or.inl ⟨by rfl,?_⟩) hHeld ?_
  rotate_left
  ·(intro w hSw;(try dsimp only at hSw);go_simp;try(with_reducible rfl))
  try simp only[Act.put,tl1,tl2,tl3]
 iterate 2
  refine tkHl [6,14] ?_ rfl rfl (Or.inl ⟨by rfl,?_⟩) hHeld ?_
  rotate_left
  ·(intro w hSw;(try dsimp only at hSw);have c1:=(HT.out.kept hSw.1 hne).tg hx hy;have c2:=(HT.out.kept hSw.1 hne).tg hy hx;rw[Hu.out] at c1;rw[Hv.out] at c2;go_simp;try(with_reducible rfl))
  try simp only[Act.put,tl1,tl2,tl3]
 iterate 2
  refine tkHl [7,15] ?_ rfl rfl (Or.inl ⟨by rfl,?_⟩) hHeld ?_
  rotate_left
  ·(intro w hSw;(try dsimp only at hSw);go_simp;try(with_reducible rfl))
  try simp only[Act.put,tl1,tl2,tl3]
 refine wpAnyH_ready (rs:=[16]) (by kernel_rfl) (by simp) ?_
 refine AllReadyH.cons (o:=⟨_,_,_,_,_,_⟩) rfl (fun K hK=>?_) AllReadyH.nil
 have hH:=hHeld
 obtain⟨hK1,s,t,hx⟩:=hH
 obtain⟨y0,y1,y2,y3⟩:=hx.w2
 go_simp
 refine hK.out _ _ ?_ (fun hHeld2=>?_)
 ·(try dsimp only)
  exact⟨(hHeld.1.trans (Kept.setCell _ ⟨b6,0,none⟩ _)).trans (Kept.setCell _ ⟨b6,1,none⟩ _),_,_,hx.set2 _ _⟩
 clear hK K hHeld;have hHeld:=hHeld2;clear hHeld2
 try simp only[Act.put,tl1,tl2,tl3]
 refine wpAnyH_done (by kernel_rfl) ?_ _
 have hx2:=hx.set2 (.int .i64 (-u)) (.int .i64 v)
 have hB:=hb6.trans (hHeld.1.below (B:=w.heap.size) (fun b hb=>by have:=e6.out;omega) hb6.size)
 obtain⟨k0,k1⟩:=hx2.at_.c2
 have HB:=hide hB
 clear y0 y1 y2 y3 hx hK1 hHeld hx2 hB
 unfold onNormV
 dsimp only
 go_wp2_with fail
 refine bodyPost_ret (by simp[results,Tryz.results236,go_sem,k0,k1];try rfl) rfl ?_
 exact⟨rfl,HB.out⟩
set_option maxHeartbeats 4000000 in
set_option maxRecDepth 100000 in
theorem levOpen_any (p:Int) (A1 A2 A3:Option Addr) (n1 c1 n2 c2 n3 c3:Nat) (sh:List Q4) (mk:List Us) (th:List Q4) (w:World) (hsv:SvAt w A1 A2 A3 n1 n2 n3 sh mk th) :
 Calls Tryz.prog 234 #[.agg #[.int .i64 p,.slice A1 n1 c1,.slice A2 n2 c2,.slice A3 n3 c3]] w fun e w'=>Below w.heap.size w w'∧((svOk p sh mk th=false∧e= .returned (.tuple #[.pointer none,.int .i64 10]))∨
  (svOk p sh mk th=true∧(solveF p.toNat (fun _=>false) sh mk).2=false∧e= .returned (.tuple #[.pointer none,.int .i64 11]))∨
  (svOk p sh mk th=true∧(solveF p.toNat (fun _=>false) sh mk).2=true∧∃b,e= .returned (.tuple #[.pointer (some ⟨b,0,none⟩),.int .i64 0])∧Bx w' b (tblC (solveF p.toNat (fun _=>false) sh mk).1)∧w.heap.size≤b)):=by
 have hat0:=At.new w #[.int .i64 p,.slice A1 n1 c1,.slice A2 n2 c2,.slice A3 n3 c3] 311 w.heap.size rfl _ rfl
 have hB0:=below_new w (.cells #[.int .i64 p,.slice A1 n1 c1,.slice A2 n2 c2,.slice A3 n3 c3] 311)
 have Hsv:=hide hsv
 have hsv1:=hsv.bel hB0
 clear hsv
 go_enter Tryz.func234,Tryz.ntmps234
 go_wp2_with fail
 refine(levCheck_any p A1 A2 A3 n1 c1 n2 c2 n3 c3 sh mk th _ hsv1).mono ?_
 rintro e w2 ⟨rfl,hb2⟩
 have hat2:=hat0.below hb2
 have hB2:=hB0.trans (hb2.mono hB0.size)
 have hsv2:=hsv1.bel hb2
 obtain⟨q0,q1,q2,q3⟩:=hat2.c4
 have HB2:=hide hB2;have Hsv2:=hide hsv2
 clear hat0 hb2 hB0 hsv1 hB2 hsv2 hat2
 cases hok:svOk p sh mk th
 ·have h10:svErr p sh mk th=10:=by simp[svErr,hok]
  rw[h10]
  have Hok:=hide hok
  clear h10 hok
  go_wp2
  go_ret2
  exact⟨HB2.out,.inl ⟨Hok.out,rfl⟩⟩
 ·have h10:svErr p sh mk th=0:=by simp[svErr,hok]
  rw[h10]
  have Hok:=hide hok
  obtain⟨pn,hpn⟩:∃pn:Nat,p=pn:=⟨p.toNat,by have:1≤p:=by {simp only[svOk,inB,Bool.and_eq_true,decide_eq_true_eq] at hok;omega };omega⟩
  subst hpn
  clear h10 hok
  go_wp2_with fail
  refine(solve_nil pn A1 A2 A3 n1 c1 n2 c2 n3 c3 sh mk th w2 Hsv2.out Hok.out).mono ?_
  rintro e w3 ⟨b,rfl,hT,hbl,hb3⟩
  have HB3:=hide (HB2.out.trans (hb3.mono HB2.out.size))
  have HT:=hide hT;have hb0:=hide (Nat.le_trans HB2.out.size hbl)
  clear hT hb3 hbl
  cases hf:(solveF pn (fun _=>false) sh mk).2
  ·have Hf:=hide hf
   clear hf
   go_wp2
   go_ret2
   exact⟨HB3.out,.inr (.inl ⟨Hok.out,by first | exact Hf.out | (rw[Int.toNat_natCast];exact Hf.out),rfl⟩)⟩
  ·have Hf:=hide hf
   clear hf
   go_wp2
   go_ret2
   exact⟨HB3.out,.inr (.inr ⟨Hok.out,by first | exact Hf.out | (rw[Int.toNat_natCast];exact Hf.out),b,rfl,by first | exact HT.out | (rw[Int.toNat_natCast];exact HT.out),hb0.out⟩)⟩
end Go.Proofs.YtiioegopckoldaaGreatDoor
namespace Go.Proofs.YtiioegopckoldaaGreatDoor
open Go.RowKit Go.Shelf
theorem wcall {n:Nat} {P:Program} {f:FuncId} {args:Array Value} {w:World} {R:Ending→World→Prop} (h:Calls P f args w R):Fence.wide.fn f∧CallsIn Fence.wide n P f args w R:=⟨trivial,callsIn_wide.2 h⟩
structure ElLaw (P:Program) (T E:TypeId) (k bytes:Nat) {α:Type} (cells:α→List Value):Prop where
 ty:P.underlying T=some (.slice E)
 info:∃i z,P.info? E=some i∧i.zero=some z∧i.size=k∧i.bytes=bytes∧z.cells.size=k
 pos:0 < k
 len:∀x,(cells x).length=k
 one:∀x,∀u∈cells x,u.oneCell'=true
 small:bytes≤1000
theorem elLaw_of {P:Program} {T E:TypeId} {k bytes:Nat} {α:Type} {cells:α→List Value} {z:Value} (ty:P.underlying T=some (.slice E)) (info:(P.info? E).map (fun i=>(i.zero,i.size,i.bytes))=some (some z,k,bytes)) (hz:z.cells.size=k) (pos:0 < k)
 (len:∀x,(cells x).length=k) (one:∀x,∀u∈cells x,u.oneCell'=true) (small:bytes≤1000):ElLaw P T E k bytes cells:=by
 obtain⟨i0,hi0,hz0,hz1,hz2⟩:=info_parts info
 exact⟨ty,⟨i0,z,hi0,hz0,hz1,hz2,hz⟩,pos,len,one,small⟩
section
variable {α:Type} {cells:α→List Value} {P:Program} {T E:TypeId} {k bytes:Nat} {w:World} {base:Nat} {v:Value} {xs:List α} {B:Nat} {A:Option Addr} {n c:Nat} {ys:List α}
theorem ElLaw.append (L:ElLaw P T E k bytes cells) (hown:Own w base E k cells v xs) (hr:Rd w B cells A ys) (hn:ys.length=n) (hlen:xs.length+n≤1000000) (hbase:base≤w.heap.size) (ty:TypeId) :
 ∃v' w',(Builtin.append_ #[T,T] ty #[v,.slice A n c]).run P w= .ok v' w'∧Own w' base E k cells v' (xs ++ ys)∧w.grownBy w' v.ownBlock∧(v'.ownBlock=v.ownBlock∨v'.ownBlock=some w.heap.size):=by
 subst hn
 obtain⟨i,z,hi,hz,hsize,hby,hzs⟩:=L.info
 have hb1:(xs.length+ys.length)*bytes≤140737488355328:=by
  have:(xs.length+ys.length)*bytes≤1000000*1000:=Nat.mul_le_mul hlen L.small
  omega
 rcases A with _ | ad
 ·obtain rfl:ys=[]:=by
   rcases ys with _ | ⟨y,ys⟩
   ·rfl
   ·obtain⟨b,off,e1,_⟩:=hr (by simp)
    cases e1
  refine⟨v,w,?_,by simpa using hown,World.grownBy.refl w _,.inl rfl⟩
  rcases hown.2 with⟨rfl,_⟩ | ⟨g,cap,cur,rfl,_,_,hnc,_⟩
  ·simp[Builtin.append_,run_underlying L.ty,sizeOf,typeInfo,hi,Builtin.lenOf,Builtin.firstCells]
  ·simp[Builtin.append_,run_underlying L.ty,sizeOf,typeInfo,hi,Builtin.lenOf,Builtin.firstCells,hnc,storeCells]
 ·have hcells:∀j u,(ys.flatMap cells)[j]?=some u→w.cell? (ad.add j)=some u:=by
   intro j u hu
   have h0:0 < ys.length:=by
    rcases ys with _ | ⟨y,ys⟩
    ·simp at hu
    ·simp
   obtain⟨b,off,e1,_,hc⟩:=hr h0
   injection e1 with e1
   subst e1
   have hadd:(⟨b,off,none⟩:Addr).add j=⟨b,off+j,none⟩:=by unfold Addr.add;split <;> simp_all
   rw[hadd]
   exact hc j u hu
  obtain⟨v',w',hrun,h2,h3,_,h5⟩:=run_append_own_at (P:=P) w base T ty E i z k bytes L.ty hi hz hsize hby hzs L.pos v xs.length (xs.flatMap cells) hown ad ys.length c (ys.flatMap cells) (flat_len L.len ys) hcells (flat_one L.one ys) (by simp only[maxLen];omega) hb1 hbase
  exact⟨v',w',hrun,by unfold Own;rw[List.length_append,List.flatMap_append];exact h2,h3,h5⟩
theorem op_app {o:Oper} {a:Act} {K:Act→World→Prop} {Q:Exit→Act→World→Prop} (L:ElLaw P T E k bytes cells) (s x:Operand) (ho:o.op= .call {callee:= .builtin .append,args:=#[s,x],argTypes:=#[T,T] })
 (hs:a.eval s=v) (hown:Own w base E k cells v xs) (hn:ys.length=n) (hx:a.eval x= .slice A n c) (hr:Rd w B cells A ys) (hlen:xs.length+n≤1000000) (hbase:base≤w.heap.size)
 (h:∀v' w',Own w' base E k cells v' (xs ++ ys)→w.grownBy w' v.ownBlock→(v'.ownBlock=v.ownBlock∨v'.ownBlock=some w.heap.size)→K (a.put o.dst v') w'):o.wp P a w K Q:=by
 obtain⟨v',w',hrun,h2,h3,h4⟩:=L.append (c:=c) hown hr hn hlen hbase o.type
 unfold Oper.wp execOp
 simp only[ho,resolve,invoke,builtin,Sem.run_bind,Sem.run_pure,Result.andThen_ok,List.map_toArray,List.map_cons,List.map_nil,hs,hx,hrun]
 exact h v' w' h2 h3 h4
theorem opIn_app {F:Fence} {nF:Nat} {o:Oper} {a:Act} {K:Act→World→Prop} {Q:Exit→Act→World→Prop} (L:ElLaw P T E k bytes cells) (s x:Operand) (ho:o.op= .call {callee:= .builtin .append,args:=#[s,x],argTypes:=#[T,T] })
 (hs:a.eval s=v) (hown:Own w base E k cells v xs) (hn:ys.length=n) (hx:a.eval x= .slice A n c) (hr:Rd w B cells A ys) (hlen:xs.length+n≤1000000) (hbase:base≤w.heap.size)
 (h:∀v' w',Own w' base E k cells v' (xs ++ ys)→w.grownBy w' v.ownBlock→(v'.ownBlock=v.ownBlock∨v'.ownBlock=some w.heap.size)→K (a.put o.dst v') w'):o.wpIn F nF P a w K Q:=by
 obtain⟨v',w',hrun,h2,h3,h4⟩:=L.append (c:=c) hown hr hn hlen hbase o.type
 unfold Oper.wpIn
 refine⟨by simp[Oper.about,ho,resolve,Target.leads,Sem.run_pure],?_⟩
 rw[Oper.semAt_plain F _ _ (by rw[ho];intro c hc';cases hc')]
 simp[execOp,ho,resolve,invoke,builtin,hs,hx,hrun,Result.andThen]
 exact h v' w' h2 h3 h4
theorem wpList_app {ops:Array Oper} {rest:List Oper} {o:Oper} {a:Act} {Q:Exit→Act→World→Prop} (L:ElLaw P T E k bytes cells) (hgd:o.guard=none) (s x:Operand) (ho:o.op= .call {callee:= .builtin .append,args:=#[s,x],argTypes:=#[T,T] })
 (hs:a.eval s=v) (hown:Own w base E k cells v xs) (hn:ys.length=n) (hx:a.eval x= .slice A n c) (hr:Rd w B cells A ys) (hlen:xs.length+n≤1000000) (hbase:base≤w.heap.size)
 (h:∀v' w',Own w' base E k cells v' (xs ++ ys)→w.grownBy w' v.ownBlock→(v'.ownBlock=v.ownBlock∨v'.ownBlock=some w.heap.size)→wpList P ops Q rest (a.put o.dst v') w'):wpList P ops Q (o :: rest) a w:=
 wpList_plain hgd fun _ hK=>op_app L s x ho hs hown hn hx hr hlen hbase fun v' w' h2 h3 h4=>hK _ _ (h v' w' h2 h3 h4)
theorem wpListIn_app {F:Fence} {nF:Nat} {ops:Array Oper} {rest:List Oper} {o:Oper} {a:Act} {Q:Exit→Act→World→Prop} (L:ElLaw P T E k bytes cells) (hgd:o.guard=none) (s x:Operand) (ho:o.op= .call {callee:= .builtin .append,args:=#[s,x],argTypes:=#[T,T] })
 (hs:a.eval s=v) (hown:Own w base E k cells v xs) (hn:ys.length=n) (hx:a.eval x= .slice A n c) (hr:Rd w B cells A ys) (hlen:xs.length+n≤1000000) (hbase:base≤w.heap.size)
 (h:∀v' w',Own w' base E k cells v' (xs ++ ys)→w.grownBy w' v.ownBlock→(v'.ownBlock=v.ownBlock∨v'.ownBlock=some w.heap.size)→wpListIn F nF P ops Q rest (a.put o.dst v') w'):wpListIn F nF P ops Q (o :: rest) a w:=
 wpListIn_plain hgd fun _ hK=>opIn_app L s x ho hs hown hn hx hr hlen hbase fun v' w' h2 h3 h4=>hK _ _ (h v' w' h2 h3 h4)
end
theorem kept_app2 {α:Type} {W W1 wv:World} {base:Nat} {e:TypeId} {k:Nat} {cells:α→List Value} {v:Value} {xs:List α} (ho:Own W base e k cells v xs) (hb:Below W.heap.size W W1) (hg:W1.grownBy wv v.ownBlock):Kept (fun b=>¬v.ownBlock=some b) W wv:=
 ((Kept.all (fun _=>True) hb).mono fun _ _ _=>trivial).trans ((Kept.grown hg).mono fun b _ hb e=>hb e.symm)
theorem Own.lit {α:Type} {cells:α→List Value} (w:World) (e:TypeId) (k:Nat) (cs:Array Value) (xs:List α) (hk:∀x,(cells x).length=k) (h:cs.toList=xs.flatMap cells) (hl:xs.length≤1000000) (base:Nat) (hb:base≤w.heap.size) :
 Own (w.alloc (.cells cs e)) base e k cells (.slice (some ⟨w.heap.size,0,none⟩) xs.length xs.length) xs:=by
 have h1:cs.toList.length=xs.length*k:=by rw[h];exact flat_len hk xs
 have h2:cs.size=xs.length*k:=by rw[←Array.length_toList];exact h1
 refine⟨flat_len hk xs,.inr ⟨w.heap.size,xs.length,cs,rfl,hb,heap_alloc_new w _,Nat.le_refl _,by simp only[maxLen];omega,h2,?_⟩⟩
 rw[h,List.take_of_length_le (by rw[flat_len hk xs];exact Nat.le_refl _)]
structure Sl where
 a:Option Addr
 n:Nat
 c:Nat
def Sl.cells (s:Sl):List Value:=[.slice s.a s.n s.c]
theorem Sl.len (s:Sl):s.cells.length=1:=rfl
theorem Sl.one (s:Sl):∀u∈s.cells,u.oneCell'=true:=by simp[Sl.cells,Value.oneCell']
theorem Rd.sl {w:World} {B:Nat} {A:Option Addr} {xs:List Sl} (h:Rd w B Sl.cells A xs) {i:Nat} (hi:i < xs.length) :
 ∃b off a n c,A=some ⟨b,off,none⟩∧b < B∧xs[i]?=some ⟨a,n,c⟩∧w.cell? ⟨b,off+i,none⟩=some (.slice a n c):=by
 obtain⟨b,off,e,hB,hc⟩:=h (by omega)
 have hx:xs[i]?=some xs[i]:=List.getElem?_eq_getElem hi
 refine⟨b,off,_,_,_,e,hB,hx,?_⟩
 have:=flat_get Sl.len hx (j:=0) (by omega)
 simp only[Nat.mul_one,Nat.add_zero] at this
 exact hc _ _ this
structure Rows {α:Type} (w:World) (B:Nat) (cells:α→List Value) (ss:List Sl) (xss:List (List α)):Prop where
 len:ss.length=xss.length
 row:∀(i:Nat) (s:Sl) (xs:List α),ss[i]?=some s→xss[i]?=some xs→s.n=xs.length∧Rd w B cells s.a xs
theorem Rows.keep {α:Type} {w w':World} {B:Nat} {cells:α→List Value} {ss:List Sl} {xss:List (List α)} (h:Rows w B cells ss xss) (hk:∀p:Addr,p.block < B→w'.cell? p=w.cell? p):Rows w' B cells ss xss:=
 ⟨h.len,fun i s xs h1 h2=>⟨(h.row i s xs h1 h2).1,(h.row i s xs h1 h2).2.keep hk⟩⟩
theorem Rows.below {α:Type} {w w':World} {B:Nat} {cells:α→List Value} {ss:List Sl} {xss:List (List α)} (h:Rows w B cells ss xss) (hb:Below B w w'):Rows w' B cells ss xss:=h.keep fun _ hp=>hb.cell hp
theorem Rows.more {α:Type} {w:World} {B B':Nat} {cells:α→List Value} {ss:List Sl} {xss:List (List α)} (h:Rows w B cells ss xss) (hB:B≤B'):Rows w B' cells ss xss:=
 ⟨h.len,fun i s xs h1 h2=>⟨(h.row i s xs h1 h2).1,(h.row i s xs h1 h2).2.more hB⟩⟩
end Go.Proofs.YtiioegopckoldaaGreatDoor
namespace Go.Proofs.YtiioegopckoldaaGreatDoor
open Go.RowKit Go.Shelf
section
variable {α:Type} {cells:α→List Value} {P:Program} {T E:TypeId} {k bytes:Nat} {wr:World} {base:Nat} {v:Value} {xs:List α}
theorem wpList_app1 {ops:Array Oper} {rest:List Oper} {o:Oper} {a:Act} {Q:Exit→Act→World→Prop} {cs:Array Value} {ty:TypeId} (L:ElLaw P T E k bytes cells) (hgd:o.guard=none) (s x:Operand)
 (ho:o.op= .call {callee:= .builtin .append,args:=#[s,x],argTypes:=#[T,T] }) (hs:a.eval s=v) (hx:a.eval x= .slice (some ⟨wr.heap.size,0,none⟩) 1 1) (hown:Own wr base E k cells v xs) (y:α) (hcs:cs.toList=cells y)
 (hlen:xs.length+1≤1000000) (hbase:base≤wr.heap.size)
 (h:∀v' w',Own w' base E k cells v' (xs ++ [y])→Kept (fun b=>b < base) wr w'→wpList P ops Q rest (a.put o.dst v') w'):wpList P ops Q (o :: rest) a (wr.alloc (.cells cs ty)):=by
 refine wpList_app (v:=v) (xs:=xs) (ys:=[y]) (n:=1) L hgd s x ho hs (hown.alloc _) rfl hx (Rd.new wr cs ty [y] (by simpa using hcs)) hlen (by simp;omega) ?_
 intro v' w' h1 h2 _
 refine h v' w' h1 ((Kept.alloc _ wr _).trans ((Kept.grown h2).mono fun b hb hlt e=>?_))
 rcases hown.block_ with h3 | ⟨g,h3,h4,_⟩
 ·rw[h3] at e;cases e
 ·rw[h3] at e;injection e with e;omega
end
theorem below_keptB {B base:Nat} {w0 w w':World} (h:Below B w0 w) (hk:Kept (fun b=>b < base) w w') (h1:B≤base) (h2:B≤w.heap.size):Below B w0 w':=h.trans (hk.below (fun b hb=>by omega) h2)
theorem Rd.keptB {α:Type} {cells:α→List Value} {B base:Nat} {w w':World} {A:Option Addr} {xs:List α} (h:Rd w B cells A xs) (hk:Kept (fun b=>b < base) w w') (h1:B≤base) (h2:B≤w.heap.size):Rd w' B cells A xs:=h.keptR hk (fun b hb=>by omega) h2
theorem At.keptB {p base:Nat} {w w':World} {cs:List Value} (h:At w p cs) (hk:Kept (fun b=>b < base) w w') (hp:p < base):At w' p cs:=h.kept hk hp
theorem Bx.keptB {p base:Nat} {w w':World} {cs:List Value} (h:Bx w p cs) (hk:Kept (fun b=>b < base) w w') (hp:p < base):Bx w' p cs:=h.kept hk hp
end Go.Proofs.YtiioegopckoldaaGreatDoor
namespace Go.Proofs.YtiioegopckoldaaGreatDoor
open Go.RowKit Go.Shelf
attribute [local go_sem] Oper.semAt_some
theorem el_int:ElLaw Tryz.prog 26 3 1 8 icell:=elLaw_of Tryz.underlying26 (z:= .int .i64 0) (by kernel_rfl) rfl (by omega) (fun _=>rfl) icell_one (by omega)
theorem el_rows:ElLaw Tryz.prog 39 26 1 24 Sl.cells:=elLaw_of Tryz.underlying39 (z:= .slice none 0 0) (by kernel_rfl) rfl (by omega) (fun _=>rfl) Sl.one (by omega)
theorem own_block {α:Type} {W:World} {base:Nat} {e:TypeId} {kk:Nat} {cl:α→List Value} {v:Value} {xs:List α} (ho:Own W base e kk cl v xs) {g:Nat} (hg:v.ownBlock=some g):base≤g∧g < W.heap.size:=by
 rcases ho.block_ with h | ⟨g',h,h1,h2⟩
 ·rw[h] at hg;cases hg
 ·rw[h] at hg;injection hg with hg;subst hg;exact⟨h1,h2⟩
theorem Own.rdv {w:World} {base:Nat} {e:TypeId} {a:Option Addr} {n c:Nat} {xs:List Int} (h:Own w base e 1 icell (.slice a n c) xs):n=xs.length∧Rd w w.heap.size icell a xs:=by
 obtain⟨A,c',hv,hr⟩:=h.rd
 injection hv with h1 h2 h3
 subst h1
 exact⟨h2,hr⟩
theorem Own.keptB {α:Type} {cells:α→List Value} {w w':World} {base:Nat} {e:TypeId} {k:Nat} {v:Value} {xs:List α} {R:Nat→Prop} (h:Own w base e k cells v xs) (hk:Kept R w w') (hr:∀g,v.ownBlock=some g→R g):Own w' base e k cells v xs:=by
 obtain⟨hl,hn | ⟨g,cap,cur,rfl,hb,hg,rest⟩⟩:=h
 ·exact⟨hl,.inl hn⟩
 ·exact⟨hl,.inr ⟨g,cap,cur,rfl,hb,(hk.same g (hr g rfl) (Array.getElem?_eq_some_iff.1 hg).1).trans hg,rest⟩⟩
end Go.Proofs.YtiioegopckoldaaGreatDoor
namespace Go.Proofs.YtiioegopckoldaaGreatDoor
open Go.RowKit Go.Shelf
theorem made_ints (n:Nat):(madeCells #[.int .i64 0] (n*1)).toList=(List.replicate n (0:Int)).flatMap icell:=by
 apply List.ext_getElem?
 intro j
 by_cases hj:j < n
 ·have hx:(List.replicate n (0:Int))[j]?=some 0:=by rw[List.getElem?_replicate,if_pos hj]
  have h:=flat_get icell_len hx (j:=0) (by omega)
  simp only[Nat.mul_one,Nat.add_zero] at h
  rw[h]
  simp[madeCells,hj,icell,Nat.mod_one]
 ·rw[List.getElem?_eq_none (by simp[madeCells];omega),List.getElem?_eq_none (by rw[flat_len icell_len];simp;omega)]
theorem make_ints (n:Nat) (hn:n≤1000) (w:World):(Instr.makeSlice 26 (.int .i64 (n:Int)) (.int .i64 (n:Int))).run Tryz.prog w= .ok (.slice (some ⟨w.heap.size,0,none⟩) n n) (w.alloc (.cells (madeCells #[.int .i64 0] (n*1)) 3)):=by
 obtain⟨i,hi,hz,hs,hbt⟩:∃i,Tryz.prog.info? 3=some i∧i.zero=some (.int .i64 0)∧i.size=1∧i.bytes=8:=by
  have h:(Tryz.prog.info? 3).map (fun i=>(i.zero,i.size,i.bytes))=some (some (.int .i64 0),1,8):=by kernel_rfl
  obtain⟨i,hi,hzz⟩:=Option.map_eq_some_iff.1 h
  simp only[Prod.mk.injEq] at hzz
  exact⟨i,hi,hzz.1,hzz.2.1,hzz.2.2⟩
 have hrun:=run_make (P:=Tryz.prog) w 26 3 i (.int .i64 0) Tryz.underlying26 hi hz .i64 .i64 n n (by omega) (Int.le_refl _) (by rw[hbt];omega) (by omega)
 simp only[Int.toNat_natCast,hs] at hrun
 exact hrun
theorem own_made (n:Nat) (hn:n≤1000) (w:World) (base:Nat) (hb:base≤w.heap.size):Own (w.alloc (.cells (madeCells #[.int .i64 0] (n*1)) 3)) base 3 1 icell (.slice (some ⟨w.heap.size,0,none⟩) n n) (List.replicate n 0):=by
 have h:=Own.lit (cells:=icell) w 3 1 (madeCells #[.int .i64 0] (n*1)) (List.replicate n 0) icell_len (made_ints n) (by simp;omega) base hb
 rw[List.length_replicate] at h
 exact h
end Go.Proofs.YtiioegopckoldaaGreatDoor
