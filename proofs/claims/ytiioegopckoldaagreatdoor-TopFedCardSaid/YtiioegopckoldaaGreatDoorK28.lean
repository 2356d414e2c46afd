/- lemmas for topFed_holds: W6. No conditions. -/
import Derived.Test.YtiioegopckoldaaGreatDoorK26
import Derived.Test.YtiioegopckoldaaGreatDoorK27
set_option linter.unusedVariables false
set_option linter.unusedSimpArgs false
namespace Go.Proofs.YtiioegopckoldaaGreatDoor
open Go.RowKit Go.Shelf
attribute [local go_sem] Oper.semAt_some
theorem made_spans (n:Nat):(madeCells #[.int .i64 0,.int .i64 0] (n*2)).toList=(List.replicate n (⟨0,0⟩:Sp)).flatMap Sp.cells:=by
 apply List.ext_getElem?
 intro j
 by_cases hj:j < n*2
 ·have hx:(List.replicate n (⟨0,0⟩:Sp))[j / 2]?=some ⟨0,0⟩:=by rw[List.getElem?_replicate,if_pos (by omega)]
  have h:=flat_get Sp.len hx (j:=j % 2) (by omega)
  rw[show j / 2*2+j % 2=j by omega] at h
  rw[h]
  have h2:j % 2=0∨j % 2=1:=by omega
  rcases h2 with h2 | h2 <;> simp[madeCells,hj,h2,Sp.cells]
 ·rw[List.getElem?_eq_none (by simp[madeCells];omega),List.getElem?_eq_none (by rw[flat_len Sp.len];simp;omega)]
theorem op_make {o:Oper} {a:Act} {w:World} {K:Act→World→Prop} {Q:Exit→Act→World→Prop} {l c:Operand} {n base:Nat} (hop:o.op=Op.makeSlice 35 l c) (hbase:base≤w.heap.size)
 (hl:a.eval l= .int .i64 (n:Int)) (hc:a.eval c= .int .i64 (n:Int)) (hn:n≤1000)
 (hK:∀w',Own w' base 24 2 Sp.cells (.slice (some ⟨w.heap.size,0,none⟩) n n) (List.replicate n ⟨0,0⟩)→Below w.heap.size w w'→w.heap.size < w'.heap.size→K (a.put o.dst (.slice (some ⟨w.heap.size,0,none⟩) n n)) w') :
 o.wp Tryz.prog a w K Q:=by
 obtain⟨i,hi,hz,hs,hbt⟩:∃i,Tryz.prog.info? 24=some i∧i.zero=some (.agg #[.int .i64 0,.int .i64 0])∧i.size=2∧i.bytes=16:=by
  have h:(Tryz.prog.info? 24).map (fun i=>(i.zero,i.size,i.bytes))=some (some (.agg #[.int .i64 0,.int .i64 0]),2,16):=by kernel_rfl
  obtain⟨i,hi,hzz⟩:=Option.map_eq_some_iff.1 h
  simp only[Prod.mk.injEq] at hzz
  exact⟨i,hi,hzz.1,hzz.2.1,hzz.2.2⟩
 have hrun:=run_make (P:=Tryz.prog) w 35 24 i (.agg #[.int .i64 0,.int .i64 0]) Tryz.underlying35 hi hz .i64 .i64 n n (by omega) (Int.le_refl _) (by rw[hbt];omega) (by omega)
 simp only[Int.toNat_natCast,hs] at hrun
 unfold Oper.wp
 simp[execOp,hop,hl,hc,hrun,Result.andThen]
 refine hK _ ?_ (below_new w _) (by simp)
 have h:=Own.lit (cells:=Sp.cells) w 24 2 (madeCells #[.int .i64 0,.int .i64 0] (n*2)) (List.replicate n ⟨0,0⟩) Sp.len (made_spans n) (by simp;omega) base hbase
 rw[List.length_replicate] at h
 exact h
theorem at_rd_sp {W:World} {b:Nat} {x y:Int} (h:At W b [.int .i64 x,.int .i64 y]):Rd W W.heap.size Sp.cells (some ⟨b,0,none⟩) [⟨x,y⟩]:=
 fun _=>⟨b,0,rfl,h.1,fun j v hv=>by rw[Nat.zero_add];exact h.2 j v (by simpa[Sp.cells] using hv)⟩
theorem own_len {W:World} {base g n c:Nat} {e:TypeId} {xs:List Sp} (h:Own W base e 2 Sp.cells (.slice (some ⟨g,0,none⟩) n c) xs):n=xs.length:=by
 obtain⟨A,c',hv,hr⟩:=h.rd
 injection hv
theorem own_frz {W:World} {base g n c:Nat} {e:TypeId} {xs:List Sp} (h:Own W base e 2 Sp.cells (.slice (some ⟨g,0,none⟩) n c) xs) (j:Nat):W.frozen? ⟨g,j,none⟩=false:=by
 have hn:=own_len h
 subst hn
 exact World.ownsRow.frozenAt h j
theorem own_sp {W:World} {base g n c i:Nat} {e:TypeId} {xs:List Sp} {x:Sp} (h:Own W base e 2 Sp.cells (.slice (some ⟨g,0,none⟩) n c) xs) (hx:xs[i]?=some x):W.cell? ⟨g,i*2,none⟩=some (.int .i64 x.lo)∧W.cell? ⟨g,i*2+1,none⟩=some (.int .i64 x.hi):=by
 have hi:i < xs.length:=(List.getElem?_eq_some_iff.1 hx).1
 obtain⟨A,c',hv,hr⟩:=h.rd
 injection hv with h1 h2 h3
 subst h1
 obtain⟨b,off,lo,hi2,hA,hb,hx2,c0,c1⟩:=hr.sp hi
 injection hA with hA
 injection hA with e1 e2
 subst e1 e2
 rw[hx] at hx2
 injection hx2 with hx2
 subst hx2
 rw[Nat.zero_add] at c0 c1
 exact⟨c0,c1⟩
structure W1S (w:World) (net:List Value) (a b:Int) (W:World):Prop where
 net:At W w.heap.size net
 flw:At W (w.heap.size+1) [.int .i64 a,.int .i64 b]
 r6:∃u:Value,At W (w.heap.size+1+1) [u]
 r7:∃u:Value,At W (w.heap.size+1+1+1) [u]
 f6:W.frozen? ⟨w.heap.size+1+1,0,none⟩=false
 f7:W.frozen? ⟨w.heap.size+1+1+1,0,none⟩=false
 bl:Below w.heap.size w W
section
variable {w W W':World} {net:List Value} {a b:Int}
theorem W1S.keep (h:W1S w net a b W) (hb:Below W.heap.size W W'):W1S w net a b W':=by
 obtain⟨u6,h6⟩:=h.r6
 obtain⟨u7,h7⟩:=h.r7
 exact⟨h.net.below hb,h.flw.below hb,⟨u6,h6.below hb⟩,⟨u7,h7.below hb⟩,(hb.frozen (p:=⟨_,0,none⟩) h6.1).trans h.f6,(hb.frozen (p:=⟨_,0,none⟩) h7.1).trans h.f7,h.bl.trans (hb.mono h.bl.size)⟩
theorem W1S.hs (h:W1S w net a b W):w.heap.size+4≤W.heap.size:=by
 obtain⟨u7,h7⟩:=h.r7
 exact h7.1
theorem W1S.drew (h:W1S w net a b W):W1S w net a b W.drew:=⟨h.net,h.flw,h.r6,h.r7,h.f6,h.f7,h.bl.drew⟩
theorem W1S.set6 (h:W1S w net a b W) (x:Value):W1S w net a b (W.setCell ⟨w.heap.size+1+1,0,none⟩ x):=by
 obtain⟨u6,h6⟩:=h.r6
 obtain⟨u7,h7⟩:=h.r7
 exact⟨h.net.other _ _ (by omega),h.flw.other _ _ (by omega),⟨x,by simpa using h6.set (j:=0) x (by simp)⟩,⟨u7,h7.other _ _ (by omega)⟩,by rw[World.frozen?_setCell];exact h.f6,by rw[World.frozen?_setCell];exact h.f7,h.bl.setCell (by simp;omega) _⟩
theorem W1S.set7 (h:W1S w net a b W) (x:Value):W1S w net a b (W.setCell ⟨w.heap.size+1+1+1,0,none⟩ x):=by
 obtain⟨u6,h6⟩:=h.r6
 obtain⟨u7,h7⟩:=h.r7
 exact⟨h.net.other _ _ (by omega),h.flw.other _ _ (by omega),⟨u6,h6.other _ _ (by omega)⟩,⟨x,by simpa using h7.set (j:=0) x (by simp)⟩,by rw[World.frozen?_setCell];exact h.f6,by rw[World.frozen?_setCell];exact h.f7,h.bl.setCell (by simp;omega) _⟩
end
structure WC (w:World) (net:List Value) (a b:Int) (nf nc gf gl:Nat) (fl ll:List Sp) (W:World):Prop where
 net:At W w.heap.size net
 flw:At W (w.heap.size+1) [.int .i64 a,.int .i64 b]
 r6:At W (w.heap.size+1+1) [.slice (some ⟨gf,0,none⟩) nf nf]
 r7:At W (w.heap.size+1+1+1) [.slice (some ⟨gl,0,none⟩) nc nc]
 f6:W.frozen? ⟨w.heap.size+1+1,0,none⟩=false
 f7:W.frozen? ⟨w.heap.size+1+1+1,0,none⟩=false
 of:Own W (w.heap.size+4) 24 2 Sp.cells (.slice (some ⟨gf,0,none⟩) nf nf) fl
 ol:Own W (w.heap.size+4) 24 2 Sp.cells (.slice (some ⟨gl,0,none⟩) nc nc) ll
 ne:gf≠gl
 lf:w.heap.size+4≤gf
 ll:w.heap.size+4≤gl
 bl:Below w.heap.size w W
theorem WC.kept {w W W':World} {net:List Value} {a b:Int} {nf nc gf gl:Nat} {fl ll:List Sp} {R:Nat→Prop} (h:WC w net a b nf nc gf gl fl ll W) (hk:Kept R W W') (h0:∀x,x < w.heap.size+4→R x) (hf:R gf) (hl:R gl):WC w net a b nf nc gf gl fl ll W':=
 ⟨h.net.kept hk (h0 _ (by omega)),h.flw.kept hk (h0 _ (by omega)),h.r6.kept hk (h0 _ (by omega)),h.r7.kept hk (h0 _ (by omega)),(hk.frozen (p:=⟨_,0,none⟩) (h0 _ (by show w.heap.size+1+1 < _;omega)) h.r6.1).trans h.f6,(hk.frozen (p:=⟨_,0,none⟩) (h0 _ (by show w.heap.size+1+1+1 < _;omega)) h.r7.1).trans h.f7,
  h.of.keptB hk (fun g hg=>by simp[Value.ownBlock] at hg;subst hg;exact hf),h.ol.keptB hk (fun g hg=>by simp[Value.ownBlock] at hg;subst hg;exact hl),h.ne,h.lf,h.ll,h.bl.trans (hk.below (fun b hb=>h0 b (by omega)) h.bl.size)⟩
theorem WC.below {w W W':World} {net:List Value} {a b:Int} {nf nc gf gl:Nat} {fl ll:List Sp} (h:WC w net a b nf nc gf gl fl ll W) (hb:Below W.heap.size W W'):WC w net a b nf nc gf gl fl ll W':=
 h.kept (Kept.all (fun _=>True) hb) (fun _ _=>trivial) trivial trivial
theorem WC.set6 {w W:World} {net:List Value} {a b:Int} {nf nc gf gl:Nat} {fl ll:List Sp} (h:WC w net a b nf nc gf gl fl ll W):WC w net a b nf nc gf gl fl ll (W.setCell ⟨w.heap.size+1+1,0,none⟩ (.slice (some ⟨gf,0,none⟩) nf nf)):=by
 have h1:=h.lf
 have h2:=h.ll
 exact⟨h.net.other _ _ (by omega),h.flw.other _ _ (by omega),by simpa using h.r6.set (j:=0) (.slice (some ⟨gf,0,none⟩) nf nf) (by simp),h.r7.other _ _ (by omega),by rw[World.frozen?_setCell];exact h.f6,by rw[World.frozen?_setCell];exact h.f7,
  h.of.setCell (by simp[Value.ownBlock];omega) _,h.ol.setCell (by simp[Value.ownBlock];omega) _,h.ne,h.lf,h.ll,h.bl.setCell (by simp;omega) _⟩
theorem WC.set7 {w W:World} {net:List Value} {a b:Int} {nf nc gf gl:Nat} {fl ll:List Sp} (h:WC w net a b nf nc gf gl fl ll W):WC w net a b nf nc gf gl fl ll (W.setCell ⟨w.heap.size+1+1+1,0,none⟩ (.slice (some ⟨gl,0,none⟩) nc nc)):=by
 have h1:=h.lf
 have h2:=h.ll
 exact⟨h.net.other _ _ (by omega),h.flw.other _ _ (by omega),h.r6.other _ _ (by omega),by simpa using h.r7.set (j:=0) (.slice (some ⟨gl,0,none⟩) nc nc) (by simp),by rw[World.frozen?_setCell];exact h.f6,by rw[World.frozen?_setCell];exact h.f7,
  h.of.setCell (by simp[Value.ownBlock];omega) _,h.ol.setCell (by simp[Value.ownBlock];omega) _,h.ne,h.lf,h.ll,h.bl.setCell (by simp;omega) _⟩
theorem WC.drew {w W:World} {net:List Value} {a b:Int} {nf nc gf gl:Nat} {fl ll:List Sp} (h:WC w net a b nf nc gf gl fl ll W):WC w net a b nf nc gf gl fl ll W.drew:=⟨h.net,h.flw,h.r6,h.r7,h.f6,h.f7,h.of,h.ol,h.ne,h.lf,h.ll,h.bl.drew⟩
theorem WC.put {w W:World} {net:List Value} {a b:Int} {nf nc gf gl:Nat} {fl ll:List Sp} (h:WC w net a b nf nc gf gl fl ll W) {i:Nat} {x:Sp} (hx:ll[i]?=some x) (p q:Int) :
 WC w net a b nf nc gf gl fl (ll.set i ⟨p,q⟩) ((W.setCell ⟨gl,i*2,none⟩ (.int .i64 p)).setCell ⟨gl,i*2+1,none⟩ (.int .i64 q)):=by
 have h1:=h.lf
 have h2:=h.ll
 have h3:=h.ne
 have hn:=own_len h.ol
 obtain⟨x0,x1⟩:=x
 have o1:=(h.ol.put_ Sp.len hx (j:=0) (x':=⟨p,x1⟩) (u:= .int .i64 p) (by omega) rfl hn).1
 have hx2:(ll.set i ⟨p,x1⟩)[i]?=some ⟨p,x1⟩:=by rw[List.getElem?_set_self (List.getElem?_eq_some_iff.1 hx).1]
 have o2:=(o1.put_ Sp.len hx2 (j:=1) (x':=⟨p,q⟩) (u:= .int .i64 q) (by omega) rfl (by rw[List.length_set];exact hn)).1
 rw[List.set_set,Nat.add_zero] at o2
 refine⟨(h.net.other _ _ (by omega)).other _ _ (by omega),(h.flw.other _ _ (by omega)).other _ _ (by omega),(h.r6.other _ _ (by omega)).other _ _ (by omega),(h.r7.other _ _ (by omega)).other _ _ (by omega),by rw[World.frozen?_setCell,World.frozen?_setCell];exact h.f6,by rw[World.frozen?_setCell,World.frozen?_setCell];exact h.f7,
  (h.of.setCell (by simp[Value.ownBlock];omega) _).setCell (by simp[Value.ownBlock];omega) _,o2,h.ne,h.lf,h.ll,(h.bl.setCell (by simp;omega) _).setCell (by simp;omega) _⟩
theorem WC.putF {w W:World} {net:List Value} {a b:Int} {nf nc gf gl:Nat} {fl ll:List Sp} (h:WC w net a b nf nc gf gl fl ll W) {i:Nat} {x:Sp} (hx:fl[i]?=some x) (p q:Int) :
 WC w net a b nf nc gf gl (fl.set i ⟨p,q⟩) ll ((W.setCell ⟨gf,i*2,none⟩ (.int .i64 p)).setCell ⟨gf,i*2+1,none⟩ (.int .i64 q)):=by
 have h1:=h.lf
 have h2:=h.ll
 have h3:=h.ne
 have hn:=own_len h.of
 obtain⟨x0,x1⟩:=x
 have o1:=(h.of.put_ Sp.len hx (j:=0) (x':=⟨p,x1⟩) (u:= .int .i64 p) (by omega) rfl hn).1
 have hx2:(fl.set i ⟨p,x1⟩)[i]?=some ⟨p,x1⟩:=by rw[List.getElem?_set_self (List.getElem?_eq_some_iff.1 hx).1]
 have o2:=(o1.put_ Sp.len hx2 (j:=1) (x':=⟨p,q⟩) (u:= .int .i64 q) (by omega) rfl (by rw[List.length_set];exact hn)).1
 rw[List.set_set,Nat.add_zero] at o2
 refine⟨(h.net.other _ _ (by omega)).other _ _ (by omega),(h.flw.other _ _ (by omega)).other _ _ (by omega),(h.r6.other _ _ (by omega)).other _ _ (by omega),(h.r7.other _ _ (by omega)).other _ _ (by omega),by rw[World.frozen?_setCell,World.frozen?_setCell];exact h.f6,by rw[World.frozen?_setCell,World.frozen?_setCell];exact h.f7,
  o2,(h.ol.setCell (by simp[Value.ownBlock];omega) _).setCell (by simp[Value.ownBlock];omega) _,h.ne,h.lf,h.ll,(h.bl.setCell (by simp;omega) _).setCell (by simp;omega) _⟩
structure AxW (w:World) (net a0:Value) (Au:Option Addr) (nu cu:Nat) (D:Nat) (us:List Us) (dl:Nat→List Int) (k:Nat) (a:Act) (W:World):Prop where
 ex:∃(Ad:Option Addr) (nd cd b8:Nat) (uf u0 ut:Int),(a.tmps.size=98∧a.defers=[]∧slot a 0=net∧slot a 1=a0∧slot a 2= .slice Au nu cu∧slot a 3= .pointer (some ⟨w.heap.size,0,none⟩)∧slot a 4= .pointer (some ⟨w.heap.size+1,0,none⟩)∧slot a 6= .pointer (some ⟨w.heap.size+1+1,0,none⟩)∧slot a 7= .pointer (some ⟨w.heap.size+1+1+1,0,none⟩)∧slot a 8= .pointer (some ⟨b8,0,none⟩)∧slot a 9= .slice Ad nd cd)∧us[k]?=some ⟨uf,u0,ut⟩∧At W b8 [.int .i64 uf,.int .i64 u0,.int .i64 ut]∧D+2≤b8∧Own W (D+2) 3 1 icell (.slice Ad nd cd) (dl k)
set_option maxHeartbeats 4000000 in
set_option maxRecDepth 100000 in
theorem waters_any (Ac Af Au:Option Addr) (nc cc nf cf nu cu:Nat) (dry days a b:Int) (cs:List Ca) (fs:List Int) (us:List Us) (w:World) (hnet:NetAt w Ac Af nc nf cs fs) (hus:Rd w w.heap.size Us.cells Au us) (hnu:nu=us.length) (hok:netOk cs fs dry days=true) (huo:usesOk nf days us=true) (hsp:Sp.ok 0 13000000 ⟨a,b⟩=true) :
 Calls Tryz.prog 40 #[.agg #[.slice Ac nc cc,.slice Af nf cf,.int .i64 dry,.int .i64 days],.agg #[.int .i64 a,.int .i64 b],.slice Au nu cu] w fun e w'=>∃gf gl,e= .returned (.tuple #[.slice (some ⟨gf,0,none⟩) nf nf,.slice (some ⟨gl,0,none⟩) nc nc])∧
  Own w' w.heap.size 24 2 Sp.cells (.slice (some ⟨gf,0,none⟩) nf nf) (watersK cs fs dry (days*1440) a b us us.length).1∧Own w' w.heap.size 24 2 Sp.cells (.slice (some ⟨gl,0,none⟩) nc nc) (watersK cs fs dry (days*1440) a b us us.length).2∧Below w.heap.size w w':=by
 have hdy:=(netOk_parts hok).2.2.2.1
 have Hok:=hide hok;have Hnu:=hide hnu;have Hus:=hide hus;have Huo:=hide huo;have Hsp:=hide hsp
 have hnf2:=hnet.nf2
 have hnc2:=hnet.nc2
 clear hok hnu hus huo hsp
 refine(callsIn_wide (n:=9)).1 ?_
 refine callsIn_of_wp_marks Tryz.func40 rfl trivial ?_ rfl
 simp only[Tryz.ntmps40,List.size_toArray,List.length_cons,List.length_nil,Nat.reduceAdd,Nat.reduceSub,Array.replicate_succ,Array.replicate_zero,List.push_toArray,List.append_toArray,List.nil_append,List.cons_append]
 gi_wp2_with fail
 obtain⟨W0,HW0⟩:∃W0,Hid ((((w.alloc (.cells #[.slice Ac nc cc,.slice Af nf cf,.int .i64 dry,.int .i64 days] 122)).alloc (.cells #[.int .i64 a,.int .i64 b] 24)).alloc (.cells #[.slice none 0 0] 35)).alloc (.cells #[.slice none 0 0] 35)=W0):=⟨_,hide rfl⟩
 rw[HW0.out]
 have HS:Hid (W1S w [.slice Ac nc cc,.slice Af nf cf,.int .i64 dry,.int .i64 days] a b W0):=by
  rw[←HW0.out]
  refine hide ⟨(((At.new w #[.slice Ac nc cc,.slice Af nf cf,.int .i64 dry,.int .i64 days] _ _ rfl _ rfl).alloc _).alloc _).alloc _,((At.new _ #[.int .i64 a,.int .i64 b] _ _ (by simp) _ rfl).alloc _).alloc _,⟨_,(At.new _ #[.slice none 0 0] _ _ (by simp) _ rfl).alloc _⟩,⟨_,At.new _ #[.slice none 0 0] _ _ (by simp) _ rfl⟩,?_,At.frozen_new _ _ _ _ (by simp) 0,(((below_new w _).alloc (by simp) _).alloc (by simp;omega) _).alloc (by simp;omega) _⟩
  exact((below_new _ _).frozen (p:=⟨w.heap.size+1+1,0,none⟩) (by simp)).trans (At.frozen_new _ _ _ _ (by simp) 0)
 have hs0:w.heap.size+4≤W0.heap.size:=by rw[←HW0.out];simp
 clear HW0
 have Hnet:=hide hnet
 clear hnet
 refine wpIn_mono (Q:=onNormal (fun a' W=>∃(gf gl:Nat),(a'.tmps.size=98∧a'.defers=[]∧slot a' 0= .agg #[.slice Ac nc cc,.slice Af nf cf,.int .i64 dry,.int .i64 days]∧slot a' 1= .agg #[.int .i64 a,.int .i64 b]∧slot a' 2= .slice Au nu cu∧slot a' 3= .pointer (some ⟨w.heap.size,0,none⟩)∧slot a' 4= .pointer (some ⟨w.heap.size+1,0,none⟩)∧slot a' 6= .pointer (some ⟨w.heap.size+1+1,0,none⟩)∧slot a' 7= .pointer (some ⟨w.heap.size+1+1+1,0,none⟩))∧WC w [.slice Ac nc cc,.slice Af nf cf,.int .i64 dry,.int .i64 days] a b nf nc gf gl (List.replicate nf ⟨0,0⟩) (List.replicate nc ⟨0,0⟩) W)) (wpIn_wide.2 ?_) ?_
 ·refine wp_region_held_drew (S:=(fun W=>W1S w [.slice Ac nc cc,.slice Af nf cf,.int .i64 dry,.int .i64 days] a b W)) (by kernel_rfl) (by(try dsimp only);exact HS.out.drew) (fun hHeld=>?_)
  iterate 4
   refine tkHl [0,1,5,6] ?_ rfl rfl (Or.inl ⟨by rfl,?_⟩) hHeld ?_
   rotate_left
   ·(intro w hSw;(try dsimp only at hSw);go_simp;try(with_reducible rfl))
   try simp only[Act.put,tl1,tl2,tl3]
  iterate 2
   refine tkHl [2,7] ?_ rfl rfl (Or.inl ⟨by rfl,?_⟩) hHeld ?_
   rotate_left
   ·(intro w hSw;(try dsimp only at hSw);obtain⟨q0,q1,q2,q3⟩:=hSw.net.c4;go_simp;try(with_reducible rfl))
   try simp only[Act.put,tl1,tl2,tl3]
  iterate 2
   refine tkHl [3,8] ?_ rfl rfl (Or.inl ⟨by rfl,?_⟩) hHeld ?_
   rotate_left
   ·(intro w hSw;(try dsimp only at hSw);go_simp;try(with_reducible rfl))
   try simp only[Act.put,tl1,tl2,tl3]
  refine wpAnyH_ready (rs:=[4,9]) (by kernel_rfl) (by simp) ?_
  refine AllReadyH.cons (o:=⟨_,_,_,_,_,_⟩) rfl (fun K hK=>?_) ?_
  ·
   rw[if_pos (by rfl)]
   refine op_make (n:=nf) rfl hHeld.hs (by first | rfl | simp[Act.eval]) (by first | rfl | simp[Act.eval]) hnf2 ?_
   intro wf Howf hb hltf
   have hbkf:=hb
   refine hK.out _ _ ?_ (fun hHeld2=>?_)
   ·(try dsimp only)
    (first | exact HS.out.drew | exact hHeld.keep hb | exact hHeld.set6 _ | exact hHeld.set7 _)
   clear hK K hHeld;have hHeld:=hHeld2;clear hHeld2
   try simp only[Act.put,tl1,tl2,tl3]
   refine wpAnyH_ready (rs:=[9,10]) (by kernel_rfl) (by simp) ?_
   refine AllReadyH.cons (o:=⟨_,_,_,_,_,_⟩) rfl (fun K hK=>?_) ?_
   ·
    rw[if_pos (by rfl)]
    refine op_make (n:=nc) rfl hHeld.hs (by first | rfl | simp[Act.eval]) (by first | rfl | simp[Act.eval]) hnc2 ?_
    intro wc Howc hb hltc
    have hbkc:=hb
    refine hK.out _ _ ?_ (fun hHeld2=>?_)
    ·(try dsimp only)
     (first | exact HS.out.drew | exact hHeld.keep hb | exact hHeld.set6 _ | exact hHeld.set7 _)
    clear hK K hHeld;have hHeld:=hHeld2;clear hHeld2
    try simp only[Act.put,tl1,tl2,tl3]
    refine wpAnyH_ready (rs:=[10]) (by kernel_rfl) (by simp) ?_
    refine AllReadyH.cons (o:=⟨_,_,_,_,_,_⟩) rfl (fun K hK=>?_) AllReadyH.nil
    obtain⟨u6,hr6⟩:=hHeld.r6
    have z6:=hr6.c1
    have y6:=hHeld.f6
    go_simp
    refine hK.out _ _ ?_ (fun hHeld2=>?_)
    ·(try dsimp only)
     (first | exact HS.out.drew | exact hHeld.keep hb | exact hHeld.set6 _ | exact hHeld.set7 _)
    clear hK K hHeld;have hHeld:=hHeld2;clear hHeld2
    try simp only[Act.put,tl1,tl2,tl3]
    refine wpAnyH_ready (rs:=[11]) (by kernel_rfl) (by simp) ?_
    refine AllReadyH.cons (o:=⟨_,_,_,_,_,_⟩) rfl (fun K hK=>?_) AllReadyH.nil
    obtain⟨u7,hr7⟩:=hHeld.r7
    have z7:=hr7.c1
    have y7:=hHeld.f7
    go_simp
    refine hK.out _ _ ?_ (fun hHeld2=>?_)
    ·(try dsimp only)
     (first | exact HS.out.drew | exact hHeld.keep hb | exact hHeld.set6 _ | exact hHeld.set7 _)
    clear hK K hHeld;have hHeld:=hHeld2;clear hHeld2
    try simp only[Act.put,tl1,tl2,tl3]
    refine wpAnyH_done (by kernel_rfl) ?_ _
    first
     | (refine ⟨W0.heap.size, wf.heap.size, (by and_intros <;> first | rfl | trivial), hHeld.net, hHeld.flw, ?_, ?_, hHeld.f6, hHeld.f7, ?_, ?_, ?_, ?_, ?_, hHeld.bl⟩
        ·simpa using(hr6.set (j:=0) (.slice (some ⟨W0.heap.size,0,none⟩) nf nf) (by simp)).other 0 (.slice (some ⟨wf.heap.size,0,none⟩) nc nc) (r:=w.heap.size+1+1+1) (by omega)
        ·simpa using hr7.set (j:=0) (.slice (some ⟨wf.heap.size,0,none⟩) nc nc) (by simp)
        ·exact((Howf.below hbkc).setCell (by have h4:w.heap.size+4≤W0.heap.size:=hs0;have h5:W0.heap.size≤wf.heap.size:=hbkf.size;simp[Value.ownBlock];omega) _).setCell (by have h4:w.heap.size+4≤W0.heap.size:=hs0;have h5:W0.heap.size≤wf.heap.size:=hbkf.size;simp[Value.ownBlock];omega) _
        ·exact(Howc.setCell (by have h4:w.heap.size+4≤W0.heap.size:=hs0;have h5:W0.heap.size≤wf.heap.size:=hbkf.size;simp[Value.ownBlock];omega) _).setCell (by have h4:w.heap.size+4≤W0.heap.size:=hs0;have h5:W0.heap.size≤wf.heap.size:=hbkf.size;simp[Value.ownBlock];omega) _
        ·have h5:W0.heap.size < wf.heap.size:=hltf;omega
        ·have h5:W0.heap.size < wf.heap.size:=hltf;omega
        ·have h5:W0.heap.size < wf.heap.size:=hltf;omega)
     | (refine ⟨W0.heap.size, wf.heap.size, (by and_intros <;> first | rfl | trivial), hHeld.net, hHeld.flw, ?_, ?_, hHeld.f6, hHeld.f7, ?_, ?_, ?_, ?_, ?_, hHeld.bl⟩
        ·simpa using((hr6.set (j:=0) (.slice (some ⟨W0.heap.size,0,none⟩) nf nf) (by simp)).below hbkc).other 0 (.slice (some ⟨wf.heap.size,0,none⟩) nc nc) (r:=w.heap.size+1+1+1) (by omega)
        ·simpa using hr7.set (j:=0) (.slice (some ⟨wf.heap.size,0,none⟩) nc nc) (by simp)
        ·exact((Howf.setCell (p:=⟨w.heap.size+1+1,0,none⟩) (by have h4:w.heap.size+4≤W0.heap.size:=hs0;have h5:W0.heap.size≤wf.heap.size:=hbkf.size;simp[Value.ownBlock];omega) (.slice (some ⟨W0.heap.size,0,none⟩) nf nf)).below hbkc).setCell (by have h4:w.heap.size+4≤W0.heap.size:=hs0;have h5:W0.heap.size≤wf.heap.size:=hbkf.size;simp[Value.ownBlock];omega) _
        ·have h2:wf.heap.size=(wf.setCell ⟨w.heap.size+1+1,0,none⟩ (.slice (some ⟨W0.heap.size,0,none⟩) nf nf)).heap.size:=by simp[World.setCell]
         rw[←h2] at Howc
         exact Howc.setCell (by have h4:w.heap.size+4≤W0.heap.size:=hs0;have h5:W0.heap.size≤wf.heap.size:=hbkf.size;simp[Value.ownBlock];omega) _
        ·have h5:W0.heap.size < wf.heap.size:=hltf;omega
        ·have h5:W0.heap.size < wf.heap.size:=hltf;omega
        ·have h5:W0.heap.size < wf.heap.size:=hltf;omega)
     | (refine ⟨wc.heap.size, W0.heap.size, (by and_intros <;> first | rfl | trivial), hHeld.net, hHeld.flw, ?_, ?_, hHeld.f6, hHeld.f7, ?_, ?_, ?_, ?_, ?_, hHeld.bl⟩
        ·simpa using(hr6.set (j:=0) (.slice (some ⟨wc.heap.size,0,none⟩) nf nf) (by simp)).other 0 (.slice (some ⟨W0.heap.size,0,none⟩) nc nc) (r:=w.heap.size+1+1+1) (by omega)
        ·simpa using hr7.set (j:=0) (.slice (some ⟨W0.heap.size,0,none⟩) nc nc) (by simp)
        ·exact(Howf.setCell (by have h4:w.heap.size+4≤W0.heap.size:=hs0;have h5:W0.heap.size≤wc.heap.size:=hbkc.size;simp[Value.ownBlock];omega) _).setCell (by have h4:w.heap.size+4≤W0.heap.size:=hs0;have h5:W0.heap.size≤wc.heap.size:=hbkc.size;simp[Value.ownBlock];omega) _
        ·exact((Howc.below hbkf).setCell (by have h4:w.heap.size+4≤W0.heap.size:=hs0;have h5:W0.heap.size≤wc.heap.size:=hbkc.size;simp[Value.ownBlock];omega) _).setCell (by have h4:w.heap.size+4≤W0.heap.size:=hs0;have h5:W0.heap.size≤wc.heap.size:=hbkc.size;simp[Value.ownBlock];omega) _
        ·have h5:W0.heap.size < wc.heap.size:=hltc;omega
        ·have h5:W0.heap.size < wc.heap.size:=hltc;omega
        ·have h5:W0.heap.size < wc.heap.size:=hltc;omega)
   refine AllReadyH.cons (o:=⟨_,_,_,_,_,_⟩) rfl (fun K hK=>?_) AllReadyH.nil
   obtain⟨u6,hr6⟩:=hHeld.r6
   have z6:=hr6.c1
   have y6:=hHeld.f6
   go_simp
   refine hK.out _ _ ?_ (fun hHeld2=>?_)
   ·(try dsimp only)
    (first | exact HS.out.drew | exact hHeld.keep hb | exact hHeld.set6 _ | exact hHeld.set7 _)
   clear hK K hHeld;have hHeld:=hHeld2;clear hHeld2
   try simp only[Act.put,tl1,tl2,tl3]
   refine wpAnyH_ready (rs:=[9]) (by kernel_rfl) (by simp) ?_
   refine AllReadyH.cons (o:=⟨_,_,_,_,_,_⟩) rfl (fun K hK=>?_) AllReadyH.nil
   rw[if_pos (by rfl)]
   refine op_make (n:=nc) rfl hHeld.hs (by first | rfl | simp[Act.eval]) (by first | rfl | simp[Act.eval]) hnc2 ?_
   intro wc Howc hb hltc
   have hbkc:=hb
   refine hK.out _ _ ?_ (fun hHeld2=>?_)
   ·(try dsimp only)
    (first | exact HS.out.drew | exact hHeld.keep hb | exact hHeld.set6 _ | exact hHeld.set7 _)
   clear hK K hHeld;have hHeld:=hHeld2;clear hHeld2
   try simp only[Act.put,tl1,tl2,tl3]
   refine wpAnyH_ready (rs:=[11]) (by kernel_rfl) (by simp) ?_
   refine AllReadyH.cons (o:=⟨_,_,_,_,_,_⟩) rfl (fun K hK=>?_) AllReadyH.nil
   obtain⟨u7,hr7⟩:=hHeld.r7
   have z7:=hr7.c1
   have y7:=hHeld.f7
   go_simp
   refine hK.out _ _ ?_ (fun hHeld2=>?_)
   ·(try dsimp only)
    (first | exact HS.out.drew | exact hHeld.keep hb | exact hHeld.set6 _ | exact hHeld.set7 _)
   clear hK K hHeld;have hHeld:=hHeld2;clear hHeld2
   try simp only[Act.put,tl1,tl2,tl3]
   refine wpAnyH_done (by kernel_rfl) ?_ _
   first
    | (refine ⟨W0.heap.size, wf.heap.size, (by and_intros <;> first | rfl | trivial), hHeld.net, hHeld.flw, ?_, ?_, hHeld.f6, hHeld.f7, ?_, ?_, ?_, ?_, ?_, hHeld.bl⟩
       ·simpa using(hr6.set (j:=0) (.slice (some ⟨W0.heap.size,0,none⟩) nf nf) (by simp)).other 0 (.slice (some ⟨wf.heap.size,0,none⟩) nc nc) (r:=w.heap.size+1+1+1) (by omega)
       ·simpa using hr7.set (j:=0) (.slice (some ⟨wf.heap.size,0,none⟩) nc nc) (by simp)
       ·exact((Howf.below hbkc).setCell (by have h4:w.heap.size+4≤W0.heap.size:=hs0;have h5:W0.heap.size≤wf.heap.size:=hbkf.size;simp[Value.ownBlock];omega) _).setCell (by have h4:w.heap.size+4≤W0.heap.size:=hs0;have h5:W0.heap.size≤wf.heap.size:=hbkf.size;simp[Value.ownBlock];omega) _
       ·exact(Howc.setCell (by have h4:w.heap.size+4≤W0.heap.size:=hs0;have h5:W0.heap.size≤wf.heap.size:=hbkf.size;simp[Value.ownBlock];omega) _).setCell (by have h4:w.heap.size+4≤W0.heap.size:=hs0;have h5:W0.heap.size≤wf.heap.size:=hbkf.size;simp[Value.ownBlock];omega) _
       ·have h5:W0.heap.size < wf.heap.size:=hltf;omega
       ·have h5:W0.heap.size < wf.heap.size:=hltf;omega
       ·have h5:W0.heap.size < wf.heap.size:=hltf;omega)
    | (refine ⟨W0.heap.size, wf.heap.size, (by and_intros <;> first | rfl | trivial), hHeld.net, hHeld.flw, ?_, ?_, hHeld.f6, hHeld.f7, ?_, ?_, ?_, ?_, ?_, hHeld.bl⟩
       ·simpa using((hr6.set (j:=0) (.slice (some ⟨W0.heap.size,0,none⟩) nf nf) (by simp)).below hbkc).other 0 (.slice (some ⟨wf.heap.size,0,none⟩) nc nc) (r:=w.heap.size+1+1+1) (by omega)
       ·simpa using hr7.set (j:=0) (.slice (some ⟨wf.heap.size,0,none⟩) nc nc) (by simp)
       ·exact((Howf.setCell (p:=⟨w.heap.size+1+1,0,none⟩) (by have h4:w.heap.size+4≤W0.heap.size:=hs0;have h5:W0.heap.size≤wf.heap.size:=hbkf.size;simp[Value.ownBlock];omega) (.slice (some ⟨W0.heap.size,0,none⟩) nf nf)).below hbkc).setCell (by have h4:w.heap.size+4≤W0.heap.size:=hs0;have h5:W0.heap.size≤wf.heap.size:=hbkf.size;simp[Value.ownBlock];omega) _
       ·have h2:wf.heap.size=(wf.setCell ⟨w.heap.size+1+1,0,none⟩ (.slice (some ⟨W0.heap.size,0,none⟩) nf nf)).heap.size:=by simp[World.setCell]
        rw[←h2] at Howc
        exact Howc.setCell (by have h4:w.heap.size+4≤W0.heap.size:=hs0;have h5:W0.heap.size≤wf.heap.size:=hbkf.size;simp[Value.ownBlock];omega) _
       ·have h5:W0.heap.size < wf.heap.size:=hltf;omega
       ·have h5:W0.heap.size < wf.heap.size:=hltf;omega
       ·have h5:W0.heap.size < wf.heap.size:=hltf;omega)
    | (refine ⟨wc.heap.size, W0.heap.size, (by and_intros <;> first | rfl | trivial), hHeld.net, hHeld.flw, ?_, ?_, hHeld.f6, hHeld.f7, ?_, ?_, ?_, ?_, ?_, hHeld.bl⟩
       ·simpa using(hr6.set (j:=0) (.slice (some ⟨wc.heap.size,0,none⟩) nf nf) (by simp)).other 0 (.slice (some ⟨W0.heap.size,0,none⟩) nc nc) (r:=w.heap.size+1+1+1) (by omega)
       ·simpa using hr7.set (j:=0) (.slice (some ⟨W0.heap.size,0,none⟩) nc nc) (by simp)
       ·exact(Howf.setCell (by have h4:w.heap.size+4≤W0.heap.size:=hs0;have h5:W0.heap.size≤wc.heap.size:=hbkc.size;simp[Value.ownBlock];omega) _).setCell (by have h4:w.heap.size+4≤W0.heap.size:=hs0;have h5:W0.heap.size≤wc.heap.size:=hbkc.size;simp[Value.ownBlock];omega) _
       ·exact((Howc.below hbkf).setCell (by have h4:w.heap.size+4≤W0.heap.size:=hs0;have h5:W0.heap.size≤wc.heap.size:=hbkc.size;simp[Value.ownBlock];omega) _).setCell (by have h4:w.heap.size+4≤W0.heap.size:=hs0;have h5:W0.heap.size≤wc.heap.size:=hbkc.size;simp[Value.ownBlock];omega) _
       ·have h5:W0.heap.size < wc.heap.size:=hltc;omega
       ·have h5:W0.heap.size < wc.heap.size:=hltc;omega
       ·have h5:W0.heap.size < wc.heap.size:=hltc;omega)
  refine AllReadyH.cons (o:=⟨_,_,_,_,_,_⟩) rfl (fun K hK=>?_) AllReadyH.nil
  rw[if_pos (by rfl)]
  refine op_make (n:=nc) rfl hHeld.hs (by first | rfl | simp[Act.eval]) (by first | rfl | simp[Act.eval]) hnc2 ?_
  intro wc Howc hb hltc
  have hbkc:=hb
  refine hK.out _ _ ?_ (fun hHeld2=>?_)
  ·(try dsimp only)
   (first | exact HS.out.drew | exact hHeld.keep hb | exact hHeld.set6 _ | exact hHeld.set7 _)
  clear hK K hHeld;have hHeld:=hHeld2;clear hHeld2
  try simp only[Act.put,tl1,tl2,tl3]
  refine wpAnyH_ready (rs:=[4]) (by kernel_rfl) (by simp) ?_
  refine AllReadyH.cons (o:=⟨_,_,_,_,_,_⟩) rfl (fun K hK=>?_) AllReadyH.nil
  rw[if_pos (by rfl)]
  refine op_make (n:=nf) rfl hHeld.hs (by first | rfl | simp[Act.eval]) (by first | rfl | simp[Act.eval]) hnf2 ?_
  intro wf Howf hb hltf
  have hbkf:=hb
  refine hK.out _ _ ?_ (fun hHeld2=>?_)
  ·(try dsimp only)
   (first | exact HS.out.drew | exact hHeld.keep hb | exact hHeld.set6 _ | exact hHeld.set7 _)
  clear hK K hHeld;have hHeld:=hHeld2;clear hHeld2
  try simp only[Act.put,tl1,tl2,tl3]
  refine wpAnyH_ready (rs:=[10]) (by kernel_rfl) (by simp) ?_
  refine AllReadyH.cons (o:=⟨_,_,_,_,_,_⟩) rfl (fun K hK=>?_) AllReadyH.nil
  obtain⟨u6,hr6⟩:=hHeld.r6
  have z6:=hr6.c1
  have y6:=hHeld.f6
  go_simp
  refine hK.out _ _ ?_ (fun hHeld2=>?_)
  ·(try dsimp only)
   (first | exact HS.out.drew | exact hHeld.keep hb | exact hHeld.set6 _ | exact hHeld.set7 _)
  clear hK K hHeld;have hHeld:=hHeld2;clear hHeld2
  try simp only[Act.put,tl1,tl2,tl3]
  refine wpAnyH_ready (rs:=[11]) (by kernel_rfl) (by simp) ?_
  refine AllReadyH.cons (o:=⟨_,_,_,_,_,_⟩) rfl (fun K hK=>?_) AllReadyH.nil
  obtain⟨u7,hr7⟩:=hHeld.r7
  have z7:=hr7.c1
  have y7:=hHeld.f7
  go_simp
  refine hK.out _ _ ?_ (fun hHeld2=>?_)
  ·(try dsimp only)
   (first | exact HS.out.drew | exact hHeld.keep hb | exact hHeld.set6 _ | exact hHeld.set7 _)
  clear hK K hHeld;have hHeld:=hHeld2;clear hHeld2
  try simp only[Act.put,tl1,tl2,tl3]
  refine wpAnyH_done (by kernel_rfl) ?_ _
  first
   | (refine ⟨W0.heap.size, wf.heap.size, (by and_intros <;> first | rfl | trivial), hHeld.net, hHeld.flw, ?_, ?_, hHeld.f6, hHeld.f7, ?_, ?_, ?_, ?_, ?_, hHeld.bl⟩
      ·simpa using(hr6.set (j:=0) (.slice (some ⟨W0.heap.size,0,none⟩) nf nf) (by simp)).other 0 (.slice (some ⟨wf.heap.size,0,none⟩) nc nc) (r:=w.heap.size+1+1+1) (by omega)
      ·simpa using hr7.set (j:=0) (.slice (some ⟨wf.heap.size,0,none⟩) nc nc) (by simp)
      ·exact((Howf.below hbkc).setCell (by have h4:w.heap.size+4≤W0.heap.size:=hs0;have h5:W0.heap.size≤wf.heap.size:=hbkf.size;simp[Value.ownBlock];omega) _).setCell (by have h4:w.heap.size+4≤W0.heap.size:=hs0;have h5:W0.heap.size≤wf.heap.size:=hbkf.size;simp[Value.ownBlock];omega) _
      ·exact(Howc.setCell (by have h4:w.heap.size+4≤W0.heap.size:=hs0;have h5:W0.heap.size≤wf.heap.size:=hbkf.size;simp[Value.ownBlock];omega) _).setCell (by have h4:w.heap.size+4≤W0.heap.size:=hs0;have h5:W0.heap.size≤wf.heap.size:=hbkf.size;simp[Value.ownBlock];omega) _
      ·have h5:W0.heap.size < wf.heap.size:=hltf;omega
      ·have h5:W0.heap.size < wf.heap.size:=hltf;omega
      ·have h5:W0.heap.size < wf.heap.size:=hltf;omega)
   | (refine ⟨W0.heap.size, wf.heap.size, (by and_intros <;> first | rfl | trivial), hHeld.net, hHeld.flw, ?_, ?_, hHeld.f6, hHeld.f7, ?_, ?_, ?_, ?_, ?_, hHeld.bl⟩
      ·simpa using((hr6.set (j:=0) (.slice (some ⟨W0.heap.size,0,none⟩) nf nf) (by simp)).below hbkc).other 0 (.slice (some ⟨wf.heap.size,0,none⟩) nc nc) (r:=w.heap.size+1+1+1) (by omega)
      ·simpa using hr7.set (j:=0) (.slice (some ⟨wf.heap.size,0,none⟩) nc nc) (by simp)
      ·exact((Howf.setCell (p:=⟨w.heap.size+1+1,0,none⟩) (by have h4:w.heap.size+4≤W0.heap.size:=hs0;have h5:W0.heap.size≤wf.heap.size:=hbkf.size;simp[Value.ownBlock];omega) (.slice (some ⟨W0.heap.size,0,none⟩) nf nf)).below hbkc).setCell (by have h4:w.heap.size+4≤W0.heap.size:=hs0;have h5:W0.heap.size≤wf.heap.size:=hbkf.size;simp[Value.ownBlock];omega) _
      ·have h2:wf.heap.size=(wf.setCell ⟨w.heap.size+1+1,0,none⟩ (.slice (some ⟨W0.heap.size,0,none⟩) nf nf)).heap.size:=by simp[World.setCell]
       rw[←h2] at Howc
       exact Howc.setCell (by have h4:w.heap.size+4≤W0.heap.size:=hs0;have h5:W0.heap.size≤wf.heap.size:=hbkf.size;simp[Value.ownBlock];omega) _
      ·have h5:W0.heap.size < wf.heap.size:=hltf;omega
      ·have h5:W0.heap.size < wf.heap.size:=hltf;omega
      ·have h5:W0.heap.size < wf.heap.size:=hltf;omega)
   | (refine ⟨wc.heap.size, W0.heap.size, (by and_intros <;> first | rfl | trivial), hHeld.net, hHeld.flw, ?_, ?_, hHeld.f6, hHeld.f7, ?_, ?_, ?_, ?_, ?_, hHeld.bl⟩
      ·simpa using(hr6.set (j:=0) (.slice (some ⟨wc.heap.size,0,none⟩) nf nf) (by simp)).other 0 (.slice (some ⟨W0.heap.size,0,none⟩) nc nc) (r:=w.heap.size+1+1+1) (by omega)
      ·simpa using hr7.set (j:=0) (.slice (some ⟨W0.heap.size,0,none⟩) nc nc) (by simp)
      ·exact(Howf.setCell (by have h4:w.heap.size+4≤W0.heap.size:=hs0;have h5:W0.heap.size≤wc.heap.size:=hbkc.size;simp[Value.ownBlock];omega) _).setCell (by have h4:w.heap.size+4≤W0.heap.size:=hs0;have h5:W0.heap.size≤wc.heap.size:=hbkc.size;simp[Value.ownBlock];omega) _
      ·exact((Howc.below hbkf).setCell (by have h4:w.heap.size+4≤W0.heap.size:=hs0;have h5:W0.heap.size≤wc.heap.size:=hbkc.size;simp[Value.ownBlock];omega) _).setCell (by have h4:w.heap.size+4≤W0.heap.size:=hs0;have h5:W0.heap.size≤wc.heap.size:=hbkc.size;simp[Value.ownBlock];omega) _
      ·have h5:W0.heap.size < wc.heap.size:=hltc;omega
      ·have h5:W0.heap.size < wc.heap.size:=hltc;omega
      ·have h5:W0.heap.size < wc.heap.size:=hltc;omega)
 rintro e a' W hq
 cases e with
 | normal =>
   obtain⟨gf,gl,⟨hs,hd,s0,s1,s2,s3,s4,s6,s7⟩,hC⟩:=hq
   rw[act_eq hs hd]
   obtain⟨u,hu⟩:∃u,u=slot a':=⟨_,rfl⟩
   rw[←hu] at s0 s1 s2 s3 s4 s6 s7 ⊢
   have he:({tmps:=((List.range 98).map u).toArray,defers:=[] }:Act)={tmps:=#[(u 0),(u 1),(u 2),(u 3),(u 4),(u 5),(u 6),(u 7),(u 8),(u 9),(u 10),(u 11),(u 12),(u 13),(u 14),(u 15),(u 16),(u 17),(u 18),(u 19),(u 20),(u 21),(u 22),(u 23),(u 24),(u 25),(u 26),(u 27),(u 28),(u 29),(u 30),(u 31),(u 32),(u 33),(u 34),(u 35),(u 36),(u 37),(u 38),(u 39),(u 40),(u 41),(u 42),(u 43),(u 44),(u 45),(u 46),(u 47),(u 48),(u 49),(u 50),(u 51),(u 52),(u 53),(u 54),(u 55),(u 56),(u 57),(u 58),(u 59),(u 60),(u 61),(u 62),(u 63),(u 64),(u 65),(u 66),(u 67),(u 68),(u 69),(u 70),(u 71),(u 72),(u 73),(u 74),(u 75),(u 76),(u 77),(u 78),(u 79),(u 80),(u 81),(u 82),(u 83),(u 84),(u 85),(u 86),(u 87),(u 88),(u 89),(u 90),(u 91),(u 92),(u 93),(u 94),(u 95),(u 96),(u 97)],defers:=[] }:=rfl
   rw[he,s0,s1,s2,s3,s4,s6,s7]
   clear he hs hd hu s0 s1 s2 s3 s4 s6 s7
   have hbl:=hC.bl
   have hgf:gf < W.heap.size:=(own_block hC.of (g:=gf) rfl).2
   have hgl:gl < W.heap.size:=(own_block hC.ol (g:=gl) rfl).2
   have hgf4:=hC.lf
   have hgl4:=hC.ll
   obtain⟨q0,q1,q2,q3⟩:=hC.net.c4
   gi_wp2_with fail
   refine wcall ((dries_any Ac Af Au nc cc nf cf nu cu dry days W).mono ?_)
   rintro e w7 ⟨rfl,hw7⟩
   have hb7:Below W.heap.size W w7:=by rw[hw7];exact(below_new _ _).alloc (by simp) _
   have hn7:At w7 W.heap.size [.slice Ac nc cc,.slice Af nf cf,.int .i64 dry,.int .i64 days]:=by rw[hw7];exact(At.new W #[.slice Ac nc cc,.slice Af nf cf,.int .i64 dry,.int .i64 days] _ _ rfl _ rfl).alloc _
   have hu7:At w7 (W.heap.size+1) [.slice Au nu cu]:=by rw[hw7];exact At.new (W.alloc _) #[.slice Au nu cu] _ _ (by simp) _ rfl
   have hs7:W.heap.size+1 < w7.heap.size:=by rw[hw7];simp
   clear hw7 q0 q1 q2 q3
   have hB7:=hbl.trans (hb7.mono hbl.size)
   have hC7:=hC.below hb7
   clear hC
   have hseq:=fun n hn=>dries1_seq n hn (W.heap.size+1) W.heap.size Ac Af Au nc cc nf cf nu cu dry days cs fs us w.heap.size w7 hB7.size (by omega) (by omega) hn7 hu7 (Hnet.out.rc.below hB7) (Hnet.out.rf.below hB7) (Hus.out.below hB7) Hnet.out.ec Hnet.out.ef Hnu.out Hok.out Huo.out
   gi_wp2_with fail
   have E1:=hide enters_dries1
   have hwW:=hbl.size
   obtain⟨D,hD⟩:∃D,D=w7.heap.size:=⟨_,rfl⟩
   refine wp_rangeX (gf:=158) rfl E1.out (hseq _ (by omega)) (Kept.all _ (Below.refl _ _)) (fun b k X G args W h=>by obtain⟨_,_,_,_,_,rfl,_⟩:=h;rfl) (fun b=>b=gf∨b=gl)
    (fun b h=>h.elim) (by intro b hb;omega) (by intro b hb;omega)
    (fun k X W'=>WC w [.slice Ac nc cc,.slice Af nf cf,.int .i64 dry,.int .i64 days] a b nf nc gf gl (watersK cs fs dry (days*1440) a b us k).1 (watersK cs fs dry (days*1440) a b us k).2 W'∧(∀x,X x→w7.heap.size+2≤x)∧w7.heap.size+2≤W'.heap.size)
    (fun c k X W'=>False)
    (fun k X G a' W'=>AxW w (.agg #[.slice Ac nc cc,.slice Af nf cf,.int .i64 dry,.int .i64 days]) (.agg #[.int .i64 a,.int .i64 b]) Au nu cu w7.heap.size us (dryL cs fs dry (days*1440) us) k a' W')
    (fun k X X' A B h hk hX=>⟨h.1.kept hk (fun x hx=>⟨fun h'=>by have:=h.2.1 _ h';omega,by omega,by omega⟩) ⟨fun h'=>by have:=h.2.1 _ h';omega,by omega,by omega⟩ ⟨fun h'=>by have:=h.2.1 _ h';omega,by omega,by omega⟩,
     fun x hx=>by(rcases hX x hx with h' | h');exact h.2.1 x h';have:=h.2.2;omega,Nat.le_trans h.2.2 hk.size⟩)
    (fun c k X X' A B h hk hX=>h.elim)
    (fun k X G a' A B h hk=>by
     obtain⟨Ad,nd,cd,b8,uf,u0,ut,⟨hs,hd,s0,s1,s2,s3,s4,s6,s7,s8,s9⟩,hx,h8,hb8,ho⟩:=h.ex
     exact⟨Ad,nd,cd,b8,uf,u0,ut,⟨hs,hd,s0,s1,s2,s3,s4,s6,s7,s8,s9⟩,hx,h8.kept hk (by omega),hb8,ho.keptB hk (fun g hg=>by have:=(own_block ho hg).1;omega)⟩)
    (fun W' hk hs=>⟨?start,fun x h=>h.elim,by omega⟩)
    (fun h=>h.elim) ?assign ?body ?done ?stop ?panic
   case panic=>intro k chain X W h;exact h.elim
   case stop=>intro c k X W hk h;exact h.elim
   case start=>
    have h:=hC7.kept hk (fun _ _=>trivial) trivial trivial
    rw[Hnet.out.ef,Hnet.out.ec] at h ⊢
    exact h
   case assign=>
    rintro l k X G args W' ⟨hi,hXD,hWD⟩ hz hk hXlt hXge ⟨uf,uf0,ut,v,hx,rfl,hown,hv⟩
    obtain⟨Av,cv,rfl,hrd⟩:=hown.rd
    have Hi:=hide hi;have Hown:=hide hown;have Hv:=hide hv;have HXD:=hide hXD
    clear hi hown hv hrd hXD
    gi_wp2_with fail
    refine⟨Kept.alloc _ _ _,⟨Hi.out.below (below_new _ _),HXD.out,by first | exact hWD | omega⟩,⟨Av,_,cv,W'.heap.size,uf,uf0,ut,(by and_intros <;> first | rfl | trivial),hx,At.new _ _ _ _ rfl _ rfl,by omega,Hown.out.alloc _⟩⟩
   case done=>
    intro X W' ⟨hC,hXD,hWD⟩ hDf
    have HS:=hide hC
    have HD:=hide hDf
    have hc0:=hC.bl
    clear hC hseq hC7 hDf
    gi_wp2_with fail
    refine wpIn_mono (Q:=onNormal (fun a9 W2=>(a9.tmps.size=98∧a9.defers=[{target:= .collected w7.heap.size,args:=#[] }]∧slot a9 6= .pointer (some ⟨w.heap.size+1+1,0,none⟩)∧slot a9 7= .pointer (some ⟨w.heap.size+1+1+1,0,none⟩))∧WC w [.slice Ac nc cc,.slice Af nf cf,.int .i64 dry,.int .i64 days] a b nf nc gf gl (watersK cs fs dry (days*1440) a b us us.length).1 (watersK cs fs dry (days*1440) a b us us.length).2 W2∧W2.heap[w7.heap.size]?=some (.deferred (some [])))) (wpIn_wide.2 ?_) ?_
    ·refine wp_region_held_drew (S:=(fun W=>WC w [.slice Ac nc cc,.slice Af nf cf,.int .i64 dry,.int .i64 days] a b nf nc gf gl (watersK cs fs dry (days*1440) a b us us.length).1 (watersK cs fs dry (days*1440) a b us us.length).2 W∧W.heap[w7.heap.size]?=some (.deferred (some [])))) (by kernel_rfl) (by(try dsimp only);exact⟨HS.out.drew,HD.out⟩) (fun hHeld=>?_)
     refine tkH 0 ?_ rfl (Or.inl ⟨by rfl,?_⟩) hHeld ?_
     rotate_left
     ·(intro w hSw;(try dsimp only at hSw);have q:=hSw.1.r6.c1;go_simp;try(with_reducible rfl))
     try simp only[Act.put,tl1,tl2,tl3]
     refine tkH 1 ?_ rfl (Or.inl ⟨by rfl,?_⟩) hHeld ?_
     rotate_left
     ·(intro w hSw;(try dsimp only at hSw);have q:=hSw.1.r7.c1;go_simp;try(with_reducible rfl))
     try simp only[Act.put,tl1,tl2,tl3]
     refine wpAnyH_ready (rs:=[2]) (by kernel_rfl) (by simp) ?_
     refine AllReadyH.cons (o:=⟨_,_,_,_,_,_⟩) rfl (fun K hK=>?_) AllReadyH.nil
     have z6:=hHeld.1.r6.c1
     have y6:=hHeld.1.f6
     go_simp
     refine hK.out _ _ ?_ (fun hHeld2=>?_)
     ·(try dsimp only)
      (first | exact⟨HS.out.drew,HD.out⟩ | exact⟨hHeld.1.set6,(Below.heap_setCell _ _ _ _ (by simp;omega)).trans hHeld.2⟩ | exact⟨hHeld.1.set7,(Below.heap_setCell _ _ _ _ (by simp;omega)).trans hHeld.2⟩)
     clear hK K hHeld;have hHeld:=hHeld2;clear hHeld2
     try simp only[Act.put,tl1,tl2,tl3]
     refine wpAnyH_ready (rs:=[3]) (by kernel_rfl) (by simp) ?_
     refine AllReadyH.cons (o:=⟨_,_,_,_,_,_⟩) rfl (fun K hK=>?_) AllReadyH.nil
     have z7:=hHeld.1.r7.c1
     have y7:=hHeld.1.f7
     go_simp
     refine hK.out _ _ ?_ (fun hHeld2=>?_)
     ·(try dsimp only)
      (first | exact⟨HS.out.drew,HD.out⟩ | exact⟨hHeld.1.set6,(Below.heap_setCell _ _ _ _ (by simp;omega)).trans hHeld.2⟩ | exact⟨hHeld.1.set7,(Below.heap_setCell _ _ _ _ (by simp;omega)).trans hHeld.2⟩)
     clear hK K hHeld;have hHeld:=hHeld2;clear hHeld2
     try simp only[Act.put,tl1,tl2,tl3]
     refine wpAnyH_done (by kernel_rfl) ?_ _
     exact⟨(by and_intros <;> first | rfl | trivial),hHeld.1,hHeld.2⟩
    rintro e a2 W2 hq
    cases e with
    | normal =>
      obtain⟨⟨hs,hd,s6,s7⟩,hC,hDf⟩:=hq
      have HDf:=hide hDf
      have HC:=hide hC
      obtain⟨t,d⟩:=a2
      simp only at hs hd
      subst hd
      clear hDf
      gi_wp2_with fail
      refine⟨by simp,.inl ⟨_,_,rfl,run_takeDeferred HDf.out,?_⟩⟩
      have hk:=Kept.putObj W2 w7.heap.size (.deferred none)
      have hC3:=HC.out.kept hk (fun x hx=>by omega) (by omega) (by omega)
      have k6:=hC3.r6.c1
      have k7:=hC3.r7.c1
      have t6:t[6]?.getD undef= .pointer (some ⟨w.heap.size+1+1,0,none⟩):=by simpa[slot] using s6
      have t7:t[7]?.getD undef= .pointer (some ⟨w.heap.size+1+1+1,0,none⟩):=by simpa[slot] using s7
      refine⟨.tuple #[.slice (some ⟨gf,0,none⟩) nf nf,.slice (some ⟨gl,0,none⟩) nc nc],?_,gf,gl,rfl,hC3.of.mono (by omega),hC3.ol.mono (by omega),hC3.bl⟩
      simp only[results,Tryz.results40]
      simp[go_sem,t6,t7,k6,k7]
    | ret=>exact hq.elim
    | exit id=>exact hq.elim
    | goto t=>exact hq.elim
    | panic ch=>exact hq.elim
    | outgrown=>exact hq.elim
   case body=>
    rintro l k X G a' W' ⟨hC,hXD,hWD⟩ ⟨Ad,nd,cd,b8,uf,u0,ut,⟨hs,hd,s0,s1,s2,s3,s4,s6,s7,s8,s9⟩,hx,h8,hb8,ho⟩ hz hk hXlt hXge
    rw[act_eq hs hd]
    obtain⟨u,hu⟩:∃u,u=slot a':=⟨_,rfl⟩
    rw[←hu] at s0 s1 s2 s3 s4 s6 s7 s8 s9 ⊢
    have he:({tmps:=((List.range 98).map u).toArray,defers:=[] }:Act)={tmps:=#[(u 0),(u 1),(u 2),(u 3),(u 4),(u 5),(u 6),(u 7),(u 8),(u 9),(u 10),(u 11),(u 12),(u 13),(u 14),(u 15),(u 16),(u 17),(u 18),(u 19),(u 20),(u 21),(u 22),(u 23),(u 24),(u 25),(u 26),(u 27),(u 28),(u 29),(u 30),(u 31),(u 32),(u 33),(u 34),(u 35),(u 36),(u 37),(u 38),(u 39),(u 40),(u 41),(u 42),(u 43),(u 44),(u 45),(u 46),(u 47),(u 48),(u 49),(u 50),(u 51),(u 52),(u 53),(u 54),(u 55),(u 56),(u 57),(u 58),(u 59),(u 60),(u 61),(u 62),(u 63),(u 64),(u 65),(u 66),(u 67),(u 68),(u 69),(u 70),(u 71),(u 72),(u 73),(u 74),(u 75),(u 76),(u 77),(u 78),(u 79),(u 80),(u 81),(u 82),(u 83),(u 84),(u 85),(u 86),(u 87),(u 88),(u 89),(u 90),(u 91),(u 92),(u 93),(u 94),(u 95),(u 96),(u 97)],defers:=[] }:=rfl
    rw[he,s0,s1,s2,s3,s4,s6,s7,s8,s9]
    clear he hs hd hu s0 s1 s2 s3 s4 s6 s7 s8 s9
    have hum:=usesOk_mem Huo.out (List.mem_of_getElem? hx)
    obtain⟨⟨f0,f1⟩,t0,t1,t2⟩:=hum
    simp only at f0 f1 t0 t1 t2
    obtain⟨w2,Hw2⟩:∃w2,Hid (W'.alloc (.cells #[.int .i64 (wrap64 (a*(ut-u0))),.int .i64 (wrap64 (b*(ut-u0)))] 24)=w2):=⟨_,hide rfl⟩
    have hb2:Below W'.heap.size W' w2:=by rw[←Hw2.out];exact below_new _ _
    have hv:=flow_amts (m:=ut-u0) Hsp.out hdy (by omega) (by omega)
    have h11:At w2 W'.heap.size [.int .i64 (a*(ut-u0)),.int .i64 (b*(ut-u0))]:=by
     rw[←Hw2.out,w64 (x:=a*(ut-u0)) (by have:=hv.1.1;have:=hv.1.2;simp only at *;omega),w64 (x:=b*(ut-u0)) (by have:=hv.2.1;have:=hv.2.2;simp only at *;omega)]
     exact At.new W' #[.int .i64 (a*(ut-u0)),.int .i64 (b*(ut-u0))] _ _ rfl _ rfl
    have hw2s:W'.heap.size < w2.heap.size:=by rw[←Hw2.out];simp
    have f11:∀j:Nat,w2.frozen? ⟨W'.heap.size,j,none⟩=false:=fun j=>by rw[←Hw2.out];exact At.frozen_new _ _ _ _ rfl j
    have hC2:=hC.below hb2
    have h82:=h8.below hb2
    have hna2:=Hnet.out.below hC2.bl
    obtain⟨z0,z1,z2⟩:=h8.c3
    obtain⟨y0,y1,y2⟩:=h82.c3
    obtain⟨q0,q1,q2,q3⟩:=hC2.net.c4
    obtain⟨p0,p1⟩:=hC.flw.c2
    rw[←Hw2.out] at q0 q1 q2 q3 y0 y1 y2
    have Hpath:=hide (path_net Ac Af nc cc nf cf dry days cs fs uf w2 hna2 Hok.out f0 f1)
    have Hpl:=hide (pathK_len cs fs Hok.out (k:=uf) f0 (by rw[←Hnet.out.ef];exact f1))
    have Hpr:=hide (fun (x:Int) (hx:x∈pathK cs fs uf)=>show 0≤x∧x < cs.length from by
     have h:x∈upK cs fs uf:=by simpa[pathK,pathF,upK] using hx
     exact upK_okI Hok.out (k:=uf) f0 (by rw[←Hnet.out.ef];exact f1) h)
    have HC2:=hide hC2;have HX:=hide hx;have HXD:=hide hXD;have Ho:=hide ho;have HXlt:=hide hXlt;have HXge:=hide hXge;have H82:=hide h82;have H11:=hide h11;have F11:=hide f11;have Hb2:=hide hb2;have Hv:=hide hv
    clear hC hx hXD ho hXlt hXge hseq hC7 hC2 h82 h11 f11 hb2 hna2 hv
    gi_wp2_with fail
    rw[Hw2.out]
    refine⟨trivial,CallsIn.inRound _ (callsIn_wide.2 (Hpath.out.mono ?_))⟩
    rintro e w3 ⟨vp,rfl,hp,hb3⟩
    obtain⟨Ap,cp,rfl,hrp⟩:=hp.rd
    obtain⟨m,hm⟩:∃m,m=(pathK cs fs uf).length:=⟨_,rfl⟩
    rw[←hm]
    have Hm:=hide hm
    have Hrp:=hide hrp;have Hp:=hide hp
    have hm16:m≤16:=by have:=Hpl.out;omega
    have HC3:=hide (HC2.out.below hb3)
    have H83:=hide (H82.out.below hb3)
    have H113:=hide (H11.out.below hb3)
    have F113:=hide (fun j=>(hb3.frozen (p:=⟨_,j,none⟩) H11.out.1).trans (F11.out j))
    have Hb3:=hide (Hb2.out.trans (hb3.mono Hb2.out.size))
    clear hp hrp hm z0 z1 z2 y0 y1 y2 q0 q1 q2 q3 p0 p1 HC2 H82 H11 F11 hb3
    gi_wp2_with fail
    have hgl8:gl < W'.heap.size:=by omega
    have hb8s:=H83.out.1
    have hob8:b8 < W'.heap.size:=h8.1
    have hs3:W'.heap.size < w3.heap.size:=H113.out.1
    refine wpIn_loop_rounds (m+1) (rounds_of (fun r a1 wq=>∃j:Nat,j+r=m+1∧j≤m∧(a1.tmps.size=98∧a1.defers=[]∧slot a1 0= .agg #[.slice Ac nc cc,.slice Af nf cf,.int .i64 dry,.int .i64 days]∧slot a1 1= .agg #[.int .i64 a,.int .i64 b]∧slot a1 2= .slice Au nu cu∧slot a1 3= .pointer (some ⟨w.heap.size,0,none⟩)∧slot a1 4= .pointer (some ⟨w.heap.size+1,0,none⟩)∧slot a1 6= .pointer (some ⟨w.heap.size+1+1,0,none⟩)∧slot a1 7= .pointer (some ⟨w.heap.size+1+1+1,0,none⟩)∧slot a1 8= .pointer (some ⟨b8,0,none⟩)∧slot a1 9= .slice Ad nd cd∧slot a1 11= .pointer (some ⟨W'.heap.size,0,none⟩)∧slot a1 50= .slice Ap m cp∧slot a1 51= .int .i64 m∧slot a1 52= .int .i64 j)∧WC w [.slice Ac nc cc,.slice Af nf cf,.int .i64 dry,.int .i64 days] a b nf nc gf gl (watersK cs fs dry (days*1440) a b us k).1 (pathW cs (dryL cs fs dry (days*1440) us k) ((pathK cs fs uf).take j) (watersK cs fs dry (days*1440) a b us k).2 ⟨a*(ut-u0),b*(ut-u0)⟩).1 wq∧
     At wq W'.heap.size [.int .i64 (pathW cs (dryL cs fs dry (days*1440) us k) ((pathK cs fs uf).take j) (watersK cs fs dry (days*1440) a b us k).2 ⟨a*(ut-u0),b*(ut-u0)⟩).2.lo,.int .i64 (pathW cs (dryL cs fs dry (days*1440) us k) ((pathK cs fs uf).take j) (watersK cs fs dry (days*1440) a b us k).2 ⟨a*(ut-u0),b*(ut-u0)⟩).2.hi]∧(∀j:Nat,wq.frozen? ⟨W'.heap.size,j,none⟩=false)∧Kept (fun x=>x < w3.heap.size∧¬x=gl∧¬x=W'.heap.size) w3 wq) ?_ ?_ (m+1) _ _ ⟨0,by omega,by omega,(by and_intros <;> first | rfl | trivial),HC3.out,H113.out,F113.out,Kept.refl _ _⟩)
    ·rintro a wr ⟨j,hj,hj2,_⟩
     omega
    ·clear HC3 H113 F113
     rintro r a1 wq ⟨j,hjr,hj,⟨hs,hd,s0,s1,s2,s3,s4,s6,s7,s8,s9,s11,s50,s51,s52⟩,hCq,h11,f11,hKq⟩
     rw[act_eq hs hd]
     obtain⟨u,hu⟩:∃u,u=slot a1:=⟨_,rfl⟩
     rw[←hu] at s0 s1 s2 s3 s4 s6 s7 s8 s9 s11 s50 s51 s52 ⊢
     have he:({tmps:=((List.range 98).map u).toArray,defers:=[] }:Act)={tmps:=#[(u 0),(u 1),(u 2),(u 3),(u 4),(u 5),(u 6),(u 7),(u 8),(u 9),(u 10),(u 11),(u 12),(u 13),(u 14),(u 15),(u 16),(u 17),(u 18),(u 19),(u 20),(u 21),(u 22),(u 23),(u 24),(u 25),(u 26),(u 27),(u 28),(u 29),(u 30),(u 31),(u 32),(u 33),(u 34),(u 35),(u 36),(u 37),(u 38),(u 39),(u 40),(u 41),(u 42),(u 43),(u 44),(u 45),(u 46),(u 47),(u 48),(u 49),(u 50),(u 51),(u 52),(u 53),(u 54),(u 55),(u 56),(u 57),(u 58),(u 59),(u 60),(u 61),(u 62),(u 63),(u 64),(u 65),(u 66),(u 67),(u 68),(u 69),(u 70),(u 71),(u 72),(u 73),(u 74),(u 75),(u 76),(u 77),(u 78),(u 79),(u 80),(u 81),(u 82),(u 83),(u 84),(u 85),(u 86),(u 87),(u 88),(u 89),(u 90),(u 91),(u 92),(u 93),(u 94),(u 95),(u 96),(u 97)],defers:=[] }:=rfl
     rw[he,s0,s1,s2,s3,s4,s6,s7,s8,s9,s11,s50,s51,s52]
     clear he hs hd hu s0 s1 s2 s3 s4 s6 s7 s8 s9 s11 s50 s51 s52
     have HCq:=hide hCq;have H11:=hide h11;have F11:=hide f11;have HKq:=hide hKq
     clear hCq h11 f11 hKq
     by_cases hlt:j < m
     ·have hpq:=Hp.out.keptB HKq.out (fun g hg=>by have:=(own_block Hp.out hg).1;have:=(own_block Hp.out hg).2;have:=Hb2.out.size;have:W'.heap.size < w2.heap.size:=hw2s;omega)
      have hdq:=((Ho.out.below Hb3.out)).keptB HKq.out (fun g hg=>by have h1:=(own_block Ho.out hg).1;have h2:=(own_block Ho.out hg).2;omega)
      obtain⟨hpn,hpr⟩:=hpq.rdv
      obtain⟨hdn,hdr⟩:=hdq.rdv
      obtain⟨bp,offp,c,rfl,hbp,hxc,c0⟩:=hpr.int (i:=j) (by rw[←Hm.out];exact hlt)
      obtain⟨cp0,cp1⟩:=Hpr.out c (List.mem_of_getElem? hxc)
      obtain⟨cn,rfl⟩:∃cn:Nat,c=cn:=⟨c.toNat,by omega⟩
      have hcn:cn < cs.length:=by omega
      obtain⟨bc,offc,cf0,s0,s1,l0,l1,rfl,hbc,hca,e0,e1,e2,e3,e4⟩:=(Hnet.out.below HCq.out.bl).rc.ca (i:=cn) hcn
      have hcb:=(caAll_iff 0 cs).1 (netOk_parts Hok.out).2.2.2.2.2.1 _ _ hca
      simp only[caOk,inB,Sp.ok,Bool.and_eq_true,decide_eq_true_eq] at hcb
      obtain⟨_,⟨⟨B0,B1⟩,B2⟩,⟨B3,B4⟩,B5⟩:=hcb
      have hwk:wkAt cs (dryL cs fs dry (days*1440) us k) cn=wkF ⟨s0,s1⟩ ⟨l0,l1⟩ (decide ((cn:Int)∈dryL cs fs dry (days*1440) us k)):=by
       unfold wkAt
       rw[Int.toNat_natCast,hca]
      have hn1:=Hnet.out.ec
      have i0:(0:Int)≤(j:Int):=by omega
      have i1:(j:Int) < (m:Int):=by omega
      have i2:(cn:Int) < (nc:Int):=by omega
      have Hdl:=hide (show(dryL cs fs dry (days*1440) us k).length≤16 by unfold dryL;rw[HX.out];exact Nat.le_trans (drySt_len _ _ _ _) Hpl.out);have Hdry:=hide hdr;have Hdn:=hide hdn;have Hxc:=hide hxc;have Hwk:=hide hwk;have Hca:=hide hca;have Hn1:=hide hn1
      clear hpq hdq hpn hpr hdn hdr hxc hwk hca hn1
      gi_wp2_with fail
      refine wpIn_mono (Q:=onNormal (fun a1 W1=>∃b14:Nat,(a1.tmps.size=98∧a1.defers=[]∧slot a1 0= .agg #[.slice (some ⟨bc,offc,none⟩) nc cc,.slice Af nf cf,.int .i64 dry,.int .i64 days]∧slot a1 1= .agg #[.int .i64 a,.int .i64 b]∧slot a1 2= .slice Au nu cu∧slot a1 3= .pointer (some ⟨w.heap.size,0,none⟩)∧slot a1 4= .pointer (some ⟨w.heap.size+1,0,none⟩)∧slot a1 6= .pointer (some ⟨w.heap.size+1+1,0,none⟩)∧slot a1 7= .pointer (some ⟨w.heap.size+1+1+1,0,none⟩)∧slot a1 8= .pointer (some ⟨b8,0,none⟩)∧slot a1 9= .slice Ad nd cd∧slot a1 11= .pointer (some ⟨W'.heap.size,0,none⟩)∧slot a1 13= .int .i64 cn∧slot a1 14= .pointer (some ⟨b14,0,none⟩)∧slot a1 50= .slice (some ⟨bp,offp,none⟩) m cp∧slot a1 51= .int .i64 m∧slot a1 52= .int .i64 j)∧At W1 b14 [.int .i64 (wkF ⟨s0,s1⟩ ⟨l0,l1⟩ (decide ((cn:Int)∈dryL cs fs dry (days*1440) us k))).fill.lo,.int .i64 (wkF ⟨s0,s1⟩ ⟨l0,l1⟩ (decide ((cn:Int)∈dryL cs fs dry (days*1440) us k))).fill.hi,.int .i64 (1000-s1),.int .i64 (1000-s0)]∧wq.heap.size≤b14∧Below wq.heap.size wq W1)) ?_ ?_
      ·refine wpIn_region_S (S:=(fun W1=>Below wq.heap.size wq W1)) (z:=11) (by kernel_rfl) (by(try dsimp only);exact(Below.refl _ _).drew) (fun hHeld=>?_)
       iterate 5
        refine tkSl [0,1,3,6,7] ?_ rfl rfl (Or.inl ⟨by rfl,?_⟩) hHeld ?_
        rotate_left
        ·(intro w hSw;(try dsimp only at hSw);go_simp;try(with_reducible rfl))
        try simp only[Act.put,tl1,tl2,tl3]
       refine tkS 2 ?_ rfl (Or.inl ⟨by rfl,?_⟩) hHeld ?_
       rotate_left
       ·(intro w hSw;(try dsimp only at hSw);obtain⟨q0,q1,q2,q3⟩:=(HCq.out.net.below hSw).c4;have e0:=(hSw.cell (p:=⟨bc,offc+cn*5,none⟩) hbc).trans e0;have e1:=(hSw.cell (p:=⟨bc,offc+cn*5+1,none⟩) hbc).trans e1;have e2:=(hSw.cell (p:=⟨bc,offc+cn*5+2,none⟩) hbc).trans e2;have e3:=(hSw.cell (p:=⟨bc,offc+cn*5+3,none⟩) hbc).trans e3;have e4:=(hSw.cell (p:=⟨bc,offc+cn*5+4,none⟩) hbc).trans e4;go_simp;try(with_reducible rfl))
       try simp only[Act.put,tl1,tl2,tl3]
       refine tkS 4 ?_ rfl (Or.inl ⟨by rfl,?_⟩) hHeld ?_
       rotate_left
       ·(intro w hSw;(try dsimp only at hSw);go_simp;try(with_reducible rfl))
       try simp only[Act.put,tl1,tl2,tl3]
       refine tkS 5 ?_ rfl (Or.inl ⟨by rfl,?_⟩) hHeld ?_
       rotate_left
       ·(intro w hSw;(try dsimp only at hSw);obtain⟨q0,q1,q2,q3⟩:=(HCq.out.net.below hSw).c4;have e0:=(hSw.cell (p:=⟨bc,offc+cn*5,none⟩) hbc).trans e0;have e1:=(hSw.cell (p:=⟨bc,offc+cn*5+1,none⟩) hbc).trans e1;have e2:=(hSw.cell (p:=⟨bc,offc+cn*5+2,none⟩) hbc).trans e2;have e3:=(hSw.cell (p:=⟨bc,offc+cn*5+3,none⟩) hbc).trans e3;have e4:=(hSw.cell (p:=⟨bc,offc+cn*5+4,none⟩) hbc).trans e4;go_simp;try(with_reducible rfl))
       try simp only[Act.put,tl1,tl2,tl3]
       refine wpAnyS_ready (rs:=[8,10]) (by kernel_rfl) (by simp) ?_
       refine AllS.cons (o:=⟨_,_,_,_,_,_⟩) rfl (fun _=>trivial) (fun K hK=>?_) ?_
       ·
        go_simp
        refine⟨trivial,CallsIn.inRound _ (callsIn_wide.2 ((contains_int _ _ _ _ (cn:Int) _ Hdn.out (by have:=Hdn.out;have:=Hdl.out;omega) ((Hdry.out.below hHeld).more hHeld.size)).mono ?_))⟩
        rintro e w' ⟨rfl,hw⟩
        have hb:=below_of_eq hw
        clear hw
        try(have h14:=h14.below hb)
        try(have g14:=frz_below g14 h14b hb)
        try(have h14b:=Nat.lt_of_lt_of_le h14b hb.size)
        gi_wp2_with fail
        refine hK.out _ _ ?_ (fun hHeld2=>?_)
        ·intro _;(try dsimp only)
         (first | exact hHeld | exact hHeld.trans (hb.mono hHeld.size) | exact hHeld.trans ((below_new _ _).mono hHeld.size) | exact hHeld.drew)
        clear hK K hHeld;have hHeld:=hHeld2 (by decide);clear hHeld2
        try simp only[Act.put,tl1,tl2,tl3]
        refine wpAnyS_ready (rs:=[9,10]) (by kernel_rfl) (by simp) ?_
        refine AllS.cons (o:=⟨_,_,_,_,_,_⟩) rfl (fun _=>trivial) (fun K hK=>?_) ?_
        ·
         go_simp
         refine⟨trivial,CallsIn.inRound _ (callsIn_wide.2 ((work_any _ _ _ _ _ _ _ ⟨B0,by omega⟩ ⟨by omega,B2⟩).mono ?_))⟩
         rintro e w' ⟨rfl,hb⟩
         try(have h14:=h14.below hb)
         try(have g14:=frz_below g14 h14b hb)
         try(have h14b:=Nat.lt_of_lt_of_le h14b hb.size)
         gi_wp2_with fail
         refine hK.out _ _ ?_ (fun hHeld2=>?_)
         ·intro _;(try dsimp only)
          (first | exact hHeld | exact hHeld.trans (hb.mono hHeld.size) | exact hHeld.trans ((below_new _ _).mono hHeld.size) | exact hHeld.drew)
         clear hK K hHeld;have hHeld:=hHeld2 (by decide);clear hHeld2
         try simp only[Act.put,tl1,tl2,tl3]
         refine wpAnyS_ready (rs:=[10]) (by kernel_rfl) (by simp) ?_
         refine AllS.cons (o:=⟨_,_,_,_,_,_⟩) rfl (fun _=>trivial) (fun K hK=>?_) AllS.nil
         go_simp
         first | refine gen_new ?_ | refine gen_newD ?_
         intro wA h14 g14 hb h14b
         have hge:=hHeld.size
         refine hK.out _ _ ?_ (fun hHeld2=>?_)
         ·intro _;(try dsimp only)
          (first | exact hHeld | exact hHeld.trans (hb.mono hHeld.size) | exact hHeld.trans ((below_new _ _).mono hHeld.size) | exact hHeld.drew)
         clear hK K hHeld;have hHeld:=hHeld2 (by decide);clear hHeld2
         try simp only[Act.put,tl1,tl2,tl3]
         refine wpAnyS_ready (rs:=[11]) (by kernel_rfl) (by simp) ?_
         refine AllS.cons (o:=⟨_,_,_,_,_,_⟩) rfl (fun _=>trivial) (fun K hK=>?_) AllS.nil
         obtain⟨z0,z1,z2,z3⟩:=h14.c4
         have y0:=g14 0
         have y1:=g14 1
         have y2:=g14 2
         have y3:=g14 3
         have hH:=hHeld
         go_simp
         refine hK.out _ _ (fun h=>absurd rfl h) (fun _=>?_)
         clear hK K hHeld
         try simp only[Act.put,tl1,tl2,tl3]
         refine wpAnyS_done (by kernel_rfl) ?_ _
         refine⟨_,(by and_intros <;> first | rfl | trivial),?_,hge,(((hH.setCell hge _).setCell hge _).setCell hge _).setCell hge _⟩
         simpa using(((h14.set (j:=0) (.int .i64 (wkF ⟨s0,s1⟩ ⟨l0,l1⟩ (decide ((cn:Int)∈dryL cs fs dry (days*1440) us k))).fill.lo) (by simp)).set (j:=1) (.int .i64 (wkF ⟨s0,s1⟩ ⟨l0,l1⟩ (decide ((cn:Int)∈dryL cs fs dry (days*1440) us k))).fill.hi) (by simp)).set (j:=2) (.int .i64 (1000-s1)) (by simp)).set (j:=3) (.int .i64 (1000-s0)) (by simp)
        refine AllS.cons (o:=⟨_,_,_,_,_,_⟩) rfl (fun _=>trivial) (fun K hK=>?_) AllS.nil
        go_simp
        first | refine gen_new ?_ | refine gen_newD ?_
        intro wA h14 g14 hb h14b
        have hge:=hHeld.size
        refine hK.out _ _ ?_ (fun hHeld2=>?_)
        ·intro _;(try dsimp only)
         (first | exact hHeld | exact hHeld.trans (hb.mono hHeld.size) | exact hHeld.trans ((below_new _ _).mono hHeld.size) | exact hHeld.drew)
        clear hK K hHeld;have hHeld:=hHeld2 (by decide);clear hHeld2
        try simp only[Act.put,tl1,tl2,tl3]
        refine wpAnyS_ready (rs:=[9]) (by kernel_rfl) (by simp) ?_
        refine AllS.cons (o:=⟨_,_,_,_,_,_⟩) rfl (fun _=>trivial) (fun K hK=>?_) AllS.nil
        go_simp
        refine⟨trivial,CallsIn.inRound _ (callsIn_wide.2 ((work_any _ _ _ _ _ _ _ ⟨B0,by omega⟩ ⟨by omega,B2⟩).mono ?_))⟩
        rintro e w' ⟨rfl,hb⟩
        try(have h14:=h14.below hb)
        try(have g14:=frz_below g14 h14b hb)
        try(have h14b:=Nat.lt_of_lt_of_le h14b hb.size)
        gi_wp2_with fail
        refine hK.out _ _ ?_ (fun hHeld2=>?_)
        ·intro _;(try dsimp only)
         (first | exact hHeld | exact hHeld.trans (hb.mono hHeld.size) | exact hHeld.trans ((below_new _ _).mono hHeld.size) | exact hHeld.drew)
        clear hK K hHeld;have hHeld:=hHeld2 (by decide);clear hHeld2
        try simp only[Act.put,tl1,tl2,tl3]
        refine wpAnyS_ready (rs:=[11]) (by kernel_rfl) (by simp) ?_
        refine AllS.cons (o:=⟨_,_,_,_,_,_⟩) rfl (fun _=>trivial) (fun K hK=>?_) AllS.nil
        obtain⟨z0,z1,z2,z3⟩:=h14.c4
        have y0:=g14 0
        have y1:=g14 1
        have y2:=g14 2
        have y3:=g14 3
        have hH:=hHeld
        go_simp
        refine hK.out _ _ (fun h=>absurd rfl h) (fun _=>?_)
        clear hK K hHeld
        try simp only[Act.put,tl1,tl2,tl3]
        refine wpAnyS_done (by kernel_rfl) ?_ _
        refine⟨_,(by and_intros <;> first | rfl | trivial),?_,hge,(((hH.setCell hge _).setCell hge _).setCell hge _).setCell hge _⟩
        simpa using(((h14.set (j:=0) (.int .i64 (wkF ⟨s0,s1⟩ ⟨l0,l1⟩ (decide ((cn:Int)∈dryL cs fs dry (days*1440) us k))).fill.lo) (by simp)).set (j:=1) (.int .i64 (wkF ⟨s0,s1⟩ ⟨l0,l1⟩ (decide ((cn:Int)∈dryL cs fs dry (days*1440) us k))).fill.hi) (by simp)).set (j:=2) (.int .i64 (1000-s1)) (by simp)).set (j:=3) (.int .i64 (1000-s0)) (by simp)
       refine AllS.cons (o:=⟨_,_,_,_,_,_⟩) rfl (fun _=>trivial) (fun K hK=>?_) AllS.nil
       go_simp
       first | refine gen_new ?_ | refine gen_newD ?_
       intro wA h14 g14 hb h14b
       have hge:=hHeld.size
       refine hK.out _ _ ?_ (fun hHeld2=>?_)
       ·intro _;(try dsimp only)
        (first | exact hHeld | exact hHeld.trans (hb.mono hHeld.size) | exact hHeld.trans ((below_new _ _).mono hHeld.size) | exact hHeld.drew)
       clear hK K hHeld;have hHeld:=hHeld2 (by decide);clear hHeld2
       try simp only[Act.put,tl1,tl2,tl3]
       refine wpAnyS_ready (rs:=[8]) (by kernel_rfl) (by simp) ?_
       refine AllS.cons (o:=⟨_,_,_,_,_,_⟩) rfl (fun _=>trivial) (fun K hK=>?_) AllS.nil
       go_simp
       refine⟨trivial,CallsIn.inRound _ (callsIn_wide.2 ((contains_int _ _ _ _ (cn:Int) _ Hdn.out (by have:=Hdn.out;have:=Hdl.out;omega) ((Hdry.out.below hHeld).more hHeld.size)).mono ?_))⟩
       rintro e w' ⟨rfl,hw⟩
       have hb:=below_of_eq hw
       clear hw
       try(have h14:=h14.below hb)
       try(have g14:=frz_below g14 h14b hb)
       try(have h14b:=Nat.lt_of_lt_of_le h14b hb.size)
       gi_wp2_with fail
       refine hK.out _ _ ?_ (fun hHeld2=>?_)
       ·intro _;(try dsimp only)
        (first | exact hHeld | exact hHeld.trans (hb.mono hHeld.size) | exact hHeld.trans ((below_new _ _).mono hHeld.size) | exact hHeld.drew)
       clear hK K hHeld;have hHeld:=hHeld2 (by decide);clear hHeld2
       try simp only[Act.put,tl1,tl2,tl3]
       refine wpAnyS_ready (rs:=[9]) (by kernel_rfl) (by simp) ?_
       refine AllS.cons (o:=⟨_,_,_,_,_,_⟩) rfl (fun _=>trivial) (fun K hK=>?_) AllS.nil
       go_simp
       refine⟨trivial,CallsIn.inRound _ (callsIn_wide.2 ((work_any _ _ _ _ _ _ _ ⟨B0,by omega⟩ ⟨by omega,B2⟩).mono ?_))⟩
       rintro e w' ⟨rfl,hb⟩
       try(have h14:=h14.below hb)
       try(have g14:=frz_below g14 h14b hb)
       try(have h14b:=Nat.lt_of_lt_of_le h14b hb.size)
       gi_wp2_with fail
       refine hK.out _ _ ?_ (fun hHeld2=>?_)
       ·intro _;(try dsimp only)
        (first | exact hHeld | exact hHeld.trans (hb.mono hHeld.size) | exact hHeld.trans ((below_new _ _).mono hHeld.size) | exact hHeld.drew)
       clear hK K hHeld;have hHeld:=hHeld2 (by decide);clear hHeld2
       try simp only[Act.put,tl1,tl2,tl3]
       refine wpAnyS_ready (rs:=[11]) (by kernel_rfl) (by simp) ?_
       refine AllS.cons (o:=⟨_,_,_,_,_,_⟩) rfl (fun _=>trivial) (fun K hK=>?_) AllS.nil
       obtain⟨z0,z1,z2,z3⟩:=h14.c4
       have y0:=g14 0
       have y1:=g14 1
       have y2:=g14 2
       have y3:=g14 3
       have hH:=hHeld
       go_simp
       refine hK.out _ _ (fun h=>absurd rfl h) (fun _=>?_)
       clear hK K hHeld
       try simp only[Act.put,tl1,tl2,tl3]
       refine wpAnyS_done (by kernel_rfl) ?_ _
       refine⟨_,(by and_intros <;> first | rfl | trivial),?_,hge,(((hH.setCell hge _).setCell hge _).setCell hge _).setCell hge _⟩
       simpa using(((h14.set (j:=0) (.int .i64 (wkF ⟨s0,s1⟩ ⟨l0,l1⟩ (decide ((cn:Int)∈dryL cs fs dry (days*1440) us k))).fill.lo) (by simp)).set (j:=1) (.int .i64 (wkF ⟨s0,s1⟩ ⟨l0,l1⟩ (decide ((cn:Int)∈dryL cs fs dry (days*1440) us k))).fill.hi) (by simp)).set (j:=2) (.int .i64 (1000-s1)) (by simp)).set (j:=3) (.int .i64 (1000-s0)) (by simp)
      rintro e a1 W1 hq
      cases e with
      | normal =>
        obtain⟨b14,⟨hs,hd,s0,s1,s2,s3,s4,s6,s7,s8,s9,s11,s13,s14,s50,s51,s52⟩,h14,hge,hB1⟩:=hq
        rw[act_eq hs hd]
        obtain⟨u,hu⟩:∃u,u=slot a1:=⟨_,rfl⟩
        rw[←hu] at s0 s1 s2 s3 s4 s6 s7 s8 s9 s11 s13 s14 s50 s51 s52 ⊢
        have he:({tmps:=((List.range 98).map u).toArray,defers:=[] }:Act)={tmps:=#[(u 0),(u 1),(u 2),(u 3),(u 4),(u 5),(u 6),(u 7),(u 8),(u 9),(u 10),(u 11),(u 12),(u 13),(u 14),(u 15),(u 16),(u 17),(u 18),(u 19),(u 20),(u 21),(u 22),(u 23),(u 24),(u 25),(u 26),(u 27),(u 28),(u 29),(u 30),(u 31),(u 32),(u 33),(u 34),(u 35),(u 36),(u 37),(u 38),(u 39),(u 40),(u 41),(u 42),(u 43),(u 44),(u 45),(u 46),(u 47),(u 48),(u 49),(u 50),(u 51),(u 52),(u 53),(u 54),(u 55),(u 56),(u 57),(u 58),(u 59),(u 60),(u 61),(u 62),(u 63),(u 64),(u 65),(u 66),(u 67),(u 68),(u 69),(u 70),(u 71),(u 72),(u 73),(u 74),(u 75),(u 76),(u 77),(u 78),(u 79),(u 80),(u 81),(u 82),(u 83),(u 84),(u 85),(u 86),(u 87),(u 88),(u 89),(u 90),(u 91),(u 92),(u 93),(u 94),(u 95),(u 96),(u 97)],defers:=[] }:=rfl
        rw[he,s0,s1,s2,s3,s4,s6,s7,s8,s9,s11,s13,s14,s50,s51,s52]
        clear he hs hd hu s0 s1 s2 s3 s4 s6 s7 s8 s9 s11 s13 s14 s50 s51 s52
        obtain⟨X1,hX1⟩:∃X1,X1=(wkF ⟨s0,s1⟩ ⟨l0,l1⟩ (decide ((cn:Int)∈dryL cs fs dry (days*1440) us k))):=⟨_,rfl⟩
        have hX2:1000-s1=X1.thr.lo:=by rw[hX1];rfl
        have hX3:1000-s0=X1.thr.hi:=by rw[hX1];rfl
        have hXw:Wk.wf X1:=by rw[hX1,←Hwk.out];exact wkAt_wf Hok.out _ _
        rw[←hX1] at Hwk h14
        rw[hX2,hX3] at h14
        clear hX1 hX2 hX3
        obtain⟨⟨x0,x1⟩,⟨x2,x3⟩⟩:=X1
        dsimp only at h14
        obtain⟨V,hV⟩:∃V,V=(pathW cs (dryL cs fs dry (days*1440) us k) ((pathK cs fs uf).take j) (watersK cs fs dry (days*1440) a b us k).2 ⟨a*(ut-u0),b*(ut-u0)⟩).2:=⟨_,rfl⟩
        obtain⟨LL,hLL⟩:∃LL,LL=(pathW cs (dryL cs fs dry (days*1440) us k) ((pathK cs fs uf).take j) (watersK cs fs dry (days*1440) a b us k).2 ⟨a*(ut-u0),b*(ut-u0)⟩).1:=⟨_,rfl⟩
        have hwb:=watersK_bd (a:=a) (b:=b) Hok.out (by rw[←Hnet.out.ef];exact Huo.out) Hsp.out k (by omega)
        have hbd:=pathW_amts Hok.out (dryL cs fs dry (days*1440) us k) (pathK cs fs uf) (watersK cs fs dry (days*1440) a b us k).2 Hv.out (M:=k*16000000000000) (by omega) hwb.2.1 j (by have:=Hm.out;omega)
        rw[←hV,←hLL,hwb.2.2.2] at hbd
        rw[←hV] at H11
        rw[←hLL] at HCq
        obtain⟨v0,v1⟩:=V
        dsimp only at H11
        have HC1:=hide (HCq.out.below hB1)
        have H111:=hide (H11.out.below hB1)
        have F111:=hide (frz_below F11.out H11.out.1 hB1)
        have H14:=hide h14
        have HV:=hide hV;have HLL:=hide hLL
        have hgl1:gl < W1.heap.size:=(own_block HC1.out.ol (g:=gl) rfl).2
        obtain⟨y,hy⟩:∃y,LL[cn]?=some y:=⟨_,List.getElem?_eq_getElem (by rw[hbd.2.2];exact hcn)⟩
        have Hy:=hide hy
        have Hcl:=hide (own_sp HC1.out.ol hy)
        have hk60:k < 60:=by have:=usesOk_len Huo.out;omega
        have HBL:=hide (show(0≤y.lo∧y.lo≤1000000000000000)∧(0≤y.hi∧y.hi≤1000000000000000) from by
         have:=hbd.2.1 y (List.mem_of_getElem? hy)
         omega)
        have HVa:=hide hbd.1
        have Hwf:=hide hXw
        have HSE:=hide (show ∀x∈[seF ⟨⟨x0,x1⟩,⟨x2,x3⟩⟩ ⟨v0,v1⟩],amts x from by
         intro x hx
         simp only[List.mem_singleton] at hx
         subst hx
         exact seF_amt Hwf.out HVa.out)
        obtain⟨ylo,yhi⟩:=y
        dsimp only at HBL Hcl
        clear hV hLL hwb hbd hy h14 hXw
        gi_wp2_with fail
        refine wpIn_region_S (S:=(fun W2=>Below W1.heap.size W1 W2)) (z:=12) (by kernel_rfl) (by(try dsimp only);exact(Below.refl _ _).drew) (fun hHeld=>?_)
        iterate 4
         refine tkSl [0,2,6,7] ?_ rfl rfl (Or.inl ⟨by rfl,?_⟩) hHeld ?_
         rotate_left
         ·(intro w hSw;(try dsimp only at hSw);have hCs:=HC1.out.below hSw;have r7:=hCs.r7.c1;have g0:=(hSw.cell (p:=⟨gl,cn*2,none⟩) hgl1).trans Hcl.out.1;have g1:=(hSw.cell (p:=⟨gl,cn*2+1,none⟩) hgl1).trans Hcl.out.2;obtain⟨d0,d1,d2,d3⟩:=(H14.out.below hSw).c4;obtain⟨o0,o1⟩:=(H111.out.below hSw).c2;go_simp;try(with_reducible rfl))
         try simp only[Act.put,tl1,tl2,tl3]
        iterate 3
         refine tkSl [1,3,4] ?_ rfl rfl (Or.inl ⟨by rfl,?_⟩) hHeld ?_
         rotate_left
         ·(intro w hSw;(try dsimp only at hSw);go_simp;try(with_reducible rfl))
         try simp only[Act.put,tl1,tl2,tl3]
        refine tkS 5 ?_ rfl (Or.inl ⟨by rfl,?_⟩) hHeld ?_
        rotate_left
        ·(intro w hSw;(try dsimp only at hSw);have hCs:=HC1.out.below hSw;have r7:=hCs.r7.c1;have g0:=(hSw.cell (p:=⟨gl,cn*2,none⟩) hgl1).trans Hcl.out.1;have g1:=(hSw.cell (p:=⟨gl,cn*2+1,none⟩) hgl1).trans Hcl.out.2;obtain⟨d0,d1,d2,d3⟩:=(H14.out.below hSw).c4;obtain⟨o0,o1⟩:=(H111.out.below hSw).c2;go_simp;try(with_reducible rfl))
        try simp only[Act.put,tl1,tl2,tl3]
        refine wpAnyS_ready (rs:=[8]) (by kernel_rfl) (by simp) ?_
        refine AllS.cons (o:=⟨_,_,_,_,_,_⟩) rfl (fun _=>trivial) (fun K hK=>?_) AllS.nil
        go_simp
        refine⟨trivial,CallsIn.inRound _ (callsIn_wide.2 ((seeps_any _ _ _ _ _ _ _ Hwf.out HVa.out).mono ?_))⟩
        rintro e w' ⟨rfl,hb⟩
        gi_wp2_with fail
        refine hK.out _ _ ?_ (fun hHeld2=>?_)
        ·intro _;(try dsimp only)
         (first | exact hHeld | exact hHeld.trans (hb.mono hHeld.size) | exact hHeld.trans ((below_new _ _).mono hHeld.size) | exact hHeld.drew)
        clear hK K hHeld;have hHeld:=hHeld2 (by decide);clear hHeld2
        try simp only[Act.put,tl1,tl2,tl3]
        refine wpAnyS_ready (rs:=[9]) (by kernel_rfl) (by simp) ?_
        refine AllS.cons (o:=⟨_,_,_,_,_,_⟩) rfl (fun _=>trivial) (fun K hK=>?_) AllS.nil
        go_simp
        first | refine gen_new ?_ | refine gen_newD ?_
        intro wA hrow _ hb _
        refine hK.out _ _ ?_ (fun hHeld2=>?_)
        ·intro _;(try dsimp only)
         (first | exact hHeld | exact hHeld.trans (hb.mono hHeld.size) | exact hHeld.trans ((below_new _ _).mono hHeld.size) | exact hHeld.drew)
        clear hK K hHeld;have hHeld:=hHeld2 (by decide);clear hHeld2
        try simp only[Act.put,tl1,tl2,tl3]
        refine wpAnyS_ready (rs:=[10]) (by kernel_rfl) (by simp) ?_
        refine AllS.cons (o:=⟨_,_,_,_,_,_⟩) rfl (fun _=>trivial) (fun K hK=>?_) AllS.nil
        go_simp
        refine⟨trivial,CallsIn.inRound _ (callsIn_wide.2 ((sum_any _ _ _ 1 1 _ _ (at_rd_sp hrow) rfl (by omega) HBL.out.1 HBL.out.2 HSE.out).mono ?_))⟩
        rintro e w' ⟨rfl,hb⟩
        gi_wp2_with fail
        refine hK.out _ _ ?_ (fun hHeld2=>?_)
        ·intro _;(try dsimp only)
         (first | exact hHeld | exact hHeld.trans (hb.mono hHeld.size) | exact hHeld.trans ((below_new _ _).mono hHeld.size) | exact hHeld.drew)
        clear hK K hHeld;have hHeld:=hHeld2 (by decide);clear hHeld2
        try simp only[Act.put,tl1,tl2,tl3]
        refine tkS 11 ?_ rfl (Or.inl ⟨by rfl,?_⟩) hHeld ?_
        rotate_left
        ·(intro w hSw;(try dsimp only at hSw);go_simp;try(with_reducible rfl))
        try simp only[Act.put,tl1,tl2,tl3]
        refine wpAnyS_ready (rs:=[12]) (by kernel_rfl) (by simp) ?_
        refine AllS.cons (o:=⟨_,_,_,_,_,_⟩) rfl (fun _=>trivial) (fun K hK=>?_) AllS.nil
        have z0:=(hHeld.cell (p:=⟨gl,cn*2,none⟩) hgl1).trans Hcl.out.1
        have z1:=(hHeld.cell (p:=⟨gl,cn*2+1,none⟩) hgl1).trans Hcl.out.2
        have y0:=own_frz (HC1.out.below hHeld).ol (cn*2)
        have y1:=own_frz (HC1.out.below hHeld).ol (cn*2+1)
        have hH:=hHeld
        go_simp
        refine hK.out _ _ (fun h=>absurd rfl h) (fun _=>?_)
        clear hK K hHeld
        try simp only[Act.put,tl1,tl2,tl3]
        refine wpAnyS_done (by kernel_rfl) ?_ _
        have hgq:gl < wq.heap.size:=by have:=HKq.out.size;omega
        have hC12:=(HC1.out.below hH).put Hy.out (sumS ⟨ylo,yhi⟩ [⟨(seF ⟨⟨x0,x1⟩,⟨x2,x3⟩⟩ ⟨v0,v1⟩).lo,(seF ⟨⟨x0,x1⟩,⟨x2,x3⟩⟩ ⟨v0,v1⟩).hi⟩]).lo (sumS ⟨ylo,yhi⟩ [⟨(seF ⟨⟨x0,x1⟩,⟨x2,x3⟩⟩ ⟨v0,v1⟩).lo,(seF ⟨⟨x0,x1⟩,⟨x2,x3⟩⟩ ⟨v0,v1⟩).hi⟩]).hi
        have h1112:=((H111.out.below hH).other (r:=gl) (cn*2) (.int .i64 (sumS ⟨ylo,yhi⟩ [⟨(seF ⟨⟨x0,x1⟩,⟨x2,x3⟩⟩ ⟨v0,v1⟩).lo,(seF ⟨⟨x0,x1⟩,⟨x2,x3⟩⟩ ⟨v0,v1⟩).hi⟩]).lo) (by omega)).other (r:=gl) (cn*2+1) (.int .i64 (sumS ⟨ylo,yhi⟩ [⟨(seF ⟨⟨x0,x1⟩,⟨x2,x3⟩⟩ ⟨v0,v1⟩).lo,(seF ⟨⟨x0,x1⟩,⟨x2,x3⟩⟩ ⟨v0,v1⟩).hi⟩]).hi) (by omega)
        have h1412:=((H14.out.below hH).other (r:=gl) (cn*2) (.int .i64 (sumS ⟨ylo,yhi⟩ [⟨(seF ⟨⟨x0,x1⟩,⟨x2,x3⟩⟩ ⟨v0,v1⟩).lo,(seF ⟨⟨x0,x1⟩,⟨x2,x3⟩⟩ ⟨v0,v1⟩).hi⟩]).lo) (by omega)).other (r:=gl) (cn*2+1) (.int .i64 (sumS ⟨ylo,yhi⟩ [⟨(seF ⟨⟨x0,x1⟩,⟨x2,x3⟩⟩ ⟨v0,v1⟩).lo,(seF ⟨⟨x0,x1⟩,⟨x2,x3⟩⟩ ⟨v0,v1⟩).hi⟩]).hi) (by omega)
        have f1112:∀j:Nat,((w'.setCell ⟨gl,cn*2,none⟩ (.int .i64 (sumS ⟨ylo,yhi⟩ [⟨(seF ⟨⟨x0,x1⟩,⟨x2,x3⟩⟩ ⟨v0,v1⟩).lo,(seF ⟨⟨x0,x1⟩,⟨x2,x3⟩⟩ ⟨v0,v1⟩).hi⟩]).lo)).setCell ⟨gl,cn*2+1,none⟩ (.int .i64 (sumS ⟨ylo,yhi⟩ [⟨(seF ⟨⟨x0,x1⟩,⟨x2,x3⟩⟩ ⟨v0,v1⟩).lo,(seF ⟨⟨x0,x1⟩,⟨x2,x3⟩⟩ ⟨v0,v1⟩).hi⟩]).hi)).frozen? ⟨W'.heap.size,j,none⟩=false:=fun j=>by
         rw[World.frozen?_setCell,World.frozen?_setCell]
         exact frz_below F111.out H111.out.1 hH j
        have hK12:Kept (fun x=>x < w3.heap.size∧¬x=gl∧¬x=W'.heap.size) w3 ((w'.setCell ⟨gl,cn*2,none⟩ (.int .i64 (sumS ⟨ylo,yhi⟩ [⟨(seF ⟨⟨x0,x1⟩,⟨x2,x3⟩⟩ ⟨v0,v1⟩).lo,(seF ⟨⟨x0,x1⟩,⟨x2,x3⟩⟩ ⟨v0,v1⟩).hi⟩]).lo)).setCell ⟨gl,cn*2+1,none⟩ (.int .i64 (sumS ⟨ylo,yhi⟩ [⟨(seF ⟨⟨x0,x1⟩,⟨x2,x3⟩⟩ ⟨v0,v1⟩).lo,(seF ⟨⟨x0,x1⟩,⟨x2,x3⟩⟩ ⟨v0,v1⟩).hi⟩]).hi)):=
         HKq.out.trans ((Kept.all _ hB1).trans ((Kept.all _ hH).trans (((Kept.setCell _ _ _).mono fun x _ hx=>hx.2.1).trans ((Kept.setCell _ _ _).mono fun x _ hx=>hx.2.1))))
        obtain⟨w12,Hw12⟩:∃w12,Hid (((w'.setCell ⟨gl,cn*2,none⟩ (.int .i64 (sumS ⟨ylo,yhi⟩ [⟨(seF ⟨⟨x0,x1⟩,⟨x2,x3⟩⟩ ⟨v0,v1⟩).lo,(seF ⟨⟨x0,x1⟩,⟨x2,x3⟩⟩ ⟨v0,v1⟩).hi⟩]).lo)).setCell ⟨gl,cn*2+1,none⟩ (.int .i64 (sumS ⟨ylo,yhi⟩ [⟨(seF ⟨⟨x0,x1⟩,⟨x2,x3⟩⟩ ⟨v0,v1⟩).lo,(seF ⟨⟨x0,x1⟩,⟨x2,x3⟩⟩ ⟨v0,v1⟩).hi⟩]).hi))=w12):=⟨_,hide rfl⟩
        rw[Hw12.out] at hC12 h1112 h1412 f1112 hK12 ⊢
        obtain⟨d0,d1,d2,d3⟩:=h1412.c4
        obtain⟨o0,o1⟩:=h1112.c2
        have HC12:=hide hC12;have HK12:=hide hK12;have H1112:=hide h1112;have F1112:=hide f1112
        clear hC12 hK12 h1112 h1412 f1112 hH z0 z1 y0 y1 hB1 hrow
        gi_wp2_with fail
        refine⟨trivial,CallsIn.inRound _ (callsIn_wide.2 ((goes_any x0 x1 x2 x3 v0 v1 _ Hwf.out HVa.out).mono ?_))⟩
        rintro e w13 ⟨rfl,hb13⟩
        have h1113:=H1112.out.below hb13
        obtain⟨z0,z1⟩:=h1113.c2
        have y0:=frz_below F1112.out H1112.out.1 hb13 0
        have y1:=frz_below F1112.out H1112.out.1 hb13 1
        clear d0 d1 d2 d3 o0 o1
        gi_wp2_with fail
        have hst:pathW cs (dryL cs fs dry (days*1440) us k) ((pathK cs fs uf).take (j+1)) (watersK cs fs dry (days*1440) a b us k).2 ⟨a*(ut-u0),b*(ut-u0)⟩=(LL.set cn ⟨(sumS ⟨ylo,yhi⟩ [⟨(seF ⟨⟨x0,x1⟩,⟨x2,x3⟩⟩ ⟨v0,v1⟩).lo,(seF ⟨⟨x0,x1⟩,⟨x2,x3⟩⟩ ⟨v0,v1⟩).hi⟩]).lo,(sumS ⟨ylo,yhi⟩ [⟨(seF ⟨⟨x0,x1⟩,⟨x2,x3⟩⟩ ⟨v0,v1⟩).lo,(seF ⟨⟨x0,x1⟩,⟨x2,x3⟩⟩ ⟨v0,v1⟩).hi⟩]).hi⟩,(goF ⟨⟨x0,x1⟩,⟨x2,x3⟩⟩ ⟨v0,v1⟩)):=by
         rw[pathW_snoc Hxc.out]
         unfold canalW
         rw[←HV.out,←HLL.out,Hwk.out]
         simp only[Int.toNat_natCast]
         unfold putS atS
         rw[Hy.out]
         rfl
        have hkk:Kept (fun x=>x≠W'.heap.size) w13 ((w13.setCell ⟨W'.heap.size,0,none⟩ (.int .i64 (goF ⟨⟨x0,x1⟩,⟨x2,x3⟩⟩ ⟨v0,v1⟩).lo)).setCell ⟨W'.heap.size,1,none⟩ (.int .i64 (goF ⟨⟨x0,x1⟩,⟨x2,x3⟩⟩ ⟨v0,v1⟩).hi)):=(Kept.setCell w13 ⟨W'.heap.size,0,none⟩ _).trans (Kept.setCell _ ⟨W'.heap.size,1,none⟩ _)
        refine⟨j+1,by omega,by omega,(by and_intros <;> first | rfl | trivial),?_,?_,?_,?_⟩
        ·rw[hst]
         exact(HC12.out.below hb13).kept hkk (fun x hx=>by omega) (by omega) (by omega)
        ·rw[hst]
         simpa using(h1113.set (j:=0) (.int .i64 (goF ⟨⟨x0,x1⟩,⟨x2,x3⟩⟩ ⟨v0,v1⟩).lo) (by simp)).set (j:=1) (.int .i64 (goF ⟨⟨x0,x1⟩,⟨x2,x3⟩⟩ ⟨v0,v1⟩).hi) (by simp)
        ·intro j2
         rw[World.frozen?_setCell,World.frozen?_setCell]
         exact frz_below F1112.out H1112.out.1 hb13 j2
        ·exact HK12.out.trans ((Kept.all _ hb13).trans (hkk.mono fun x _ hx=>hx.2.2))
      | ret=>exact hq.elim
      | exit id=>exact hq.elim
      | goto t=>exact hq.elim
      | panic ch=>exact hq.elim
      | outgrown=>exact hq.elim
     ·obtain rfl:j=m:=by omega
      obtain⟨V,hV⟩:∃V,V=(pathW cs (dryL cs fs dry (days*1440) us k) ((pathK cs fs uf).take j) (watersK cs fs dry (days*1440) a b us k).2 ⟨a*(ut-u0),b*(ut-u0)⟩).2:=⟨_,rfl⟩
      obtain⟨LL,hLL⟩:∃LL,LL=(pathW cs (dryL cs fs dry (days*1440) us k) ((pathK cs fs uf).take j) (watersK cs fs dry (days*1440) a b us k).2 ⟨a*(ut-u0),b*(ut-u0)⟩).1:=⟨_,rfl⟩
      have hwb:=watersK_bd (a:=a) (b:=b) Hok.out (by rw[←Hnet.out.ef];exact Huo.out) Hsp.out k (by omega)
      have hbd:=pathW_amts Hok.out (dryL cs fs dry (days*1440) us k) (pathK cs fs uf) (watersK cs fs dry (days*1440) a b us k).2 Hv.out (M:=k*16000000000000) (by omega) hwb.2.1 j (by have:=Hm.out;omega)
      rw[←hV] at hbd
      rw[←hV] at H11
      rw[←hLL] at HCq
      obtain⟨v0,v1⟩:=V
      dsimp only at H11
      obtain⟨ufn,rfl⟩:∃ufn:Nat,uf=ufn:=⟨uf.toNat,by omega⟩
      have hufn:ufn < fs.length:=by rw[←Hnet.out.ef];omega
      have HC1:=HCq
      have H111:=H11
      have hgf1:gf < wq.heap.size:=(own_block HC1.out.of (g:=gf) rfl).2
      have H81:=hide (H83.out.kept HKq.out ⟨hb8s,by omega,by omega⟩)
      obtain⟨FF,hFF⟩:∃FF,FF=(watersK cs fs dry (days*1440) a b us k).1:=⟨_,rfl⟩
      rw[←hFF] at HC1 HCq hwb
      obtain⟨y,hy⟩:∃y,FF[ufn]?=some y:=⟨_,List.getElem?_eq_getElem (by rw[hwb.2.2.1];exact hufn)⟩
      have Hy:=hide hy
      have Hcl:=hide (own_sp HC1.out.of hy)
      have hk60:k < 60:=by have:=usesOk_len Huo.out;omega
      have HBL:=hide (show(0≤y.lo∧y.lo≤1000000000000000)∧(0≤y.hi∧y.hi≤1000000000000000) from by
       have:=hwb.1 y (List.mem_of_getElem? hy)
       omega)
      have HSE:=hide (show ∀x∈[(⟨v0,v1⟩:Sp)],amts x from by
       intro x hx
       simp only[List.mem_singleton] at hx
       subst hx
       exact hbd.1)
      obtain⟨ylo,yhi⟩:=y
      dsimp only at HBL Hcl
      have HV:=hide hV;have HLL:=hide hLL;have HFF:=hide hFF
      clear hV hLL hwb hbd hy hFF
      gi_wp2_with fail
      refine wpIn_region_S (S:=(fun W2=>Below wq.heap.size wq W2)) (z:=12) (by kernel_rfl) (by(try dsimp only);exact(Below.refl _ _).drew) (fun hHeld=>?_)
      iterate 3
       refine tkSl [0,3,8] ?_ rfl rfl (Or.inl ⟨by rfl,?_⟩) hHeld ?_
       rotate_left
       ·(intro w hSw;(try dsimp only at hSw);have hCs:=HC1.out.below hSw;have r6:=hCs.r6.c1;obtain⟨x0,x1,x2⟩:=(H81.out.below hSw).c3;obtain⟨o0,o1⟩:=(H111.out.below hSw).c2;have g0:=(hSw.cell (p:=⟨gf,ufn*2,none⟩) hgf1).trans Hcl.out.1;have g1:=(hSw.cell (p:=⟨gf,ufn*2+1,none⟩) hgf1).trans Hcl.out.2;go_simp;try(with_reducible rfl))
       try simp only[Act.put,tl1,tl2,tl3]
      iterate 2
       refine tkSl [1,4] ?_ rfl rfl (Or.inl ⟨by rfl,?_⟩) hHeld ?_
       rotate_left
       ·(intro w hSw;(try dsimp only at hSw);go_simp;try(with_reducible rfl))
       try simp only[Act.put,tl1,tl2,tl3]
      iterate 2
       refine tkSl [2,5] ?_ rfl rfl (Or.inl ⟨by rfl,?_⟩) hHeld ?_
       rotate_left
       ·(intro w hSw;(try dsimp only at hSw);have hCs:=HC1.out.below hSw;have r6:=hCs.r6.c1;obtain⟨x0,x1,x2⟩:=(H81.out.below hSw).c3;obtain⟨o0,o1⟩:=(H111.out.below hSw).c2;have g0:=(hSw.cell (p:=⟨gf,ufn*2,none⟩) hgf1).trans Hcl.out.1;have g1:=(hSw.cell (p:=⟨gf,ufn*2+1,none⟩) hgf1).trans Hcl.out.2;go_simp;try(with_reducible rfl))
       try simp only[Act.put,tl1,tl2,tl3]
      refine tkS 6 ?_ rfl (Or.inl ⟨by rfl,?_⟩) hHeld ?_
      rotate_left
      ·(intro w hSw;(try dsimp only at hSw);go_simp;try(with_reducible rfl))
      try simp only[Act.put,tl1,tl2,tl3]
      refine tkS 7 ?_ rfl (Or.inl ⟨by rfl,?_⟩) hHeld ?_
      rotate_left
      ·(intro w hSw;(try dsimp only at hSw);have hCs:=HC1.out.below hSw;have r6:=hCs.r6.c1;obtain⟨x0,x1,x2⟩:=(H81.out.below hSw).c3;obtain⟨o0,o1⟩:=(H111.out.below hSw).c2;have g0:=(hSw.cell (p:=⟨gf,ufn*2,none⟩) hgf1).trans Hcl.out.1;have g1:=(hSw.cell (p:=⟨gf,ufn*2+1,none⟩) hgf1).trans Hcl.out.2;go_simp;try(with_reducible rfl))
      try simp only[Act.put,tl1,tl2,tl3]
      refine wpAnyS_ready (rs:=[9]) (by kernel_rfl) (by simp) ?_
      refine AllS.cons (o:=⟨_,_,_,_,_,_⟩) rfl (fun _=>trivial) (fun K hK=>?_) AllS.nil
      go_simp
      first | refine gen_new ?_ | refine gen_newD ?_
      intro wA hrow _ hb _
      refine hK.out _ _ ?_ (fun hHeld2=>?_)
      ·intro _;(try dsimp only)
       (first | exact hHeld | exact hHeld.trans (hb.mono hHeld.size) | exact hHeld.trans ((below_new _ _).mono hHeld.size) | exact hHeld.drew)
      clear hK K hHeld;have hHeld:=hHeld2 (by decide);clear hHeld2
      try simp only[Act.put,tl1,tl2,tl3]
      refine wpAnyS_ready (rs:=[10]) (by kernel_rfl) (by simp) ?_
      refine AllS.cons (o:=⟨_,_,_,_,_,_⟩) rfl (fun _=>trivial) (fun K hK=>?_) AllS.nil
      go_simp
      refine⟨trivial,CallsIn.inRound _ (callsIn_wide.2 ((sum_any _ _ _ 1 1 _ _ (at_rd_sp hrow) rfl (by omega) HBL.out.1 HBL.out.2 HSE.out).mono ?_))⟩
      rintro e w' ⟨rfl,hb⟩
      gi_wp2_with fail
      refine hK.out _ _ ?_ (fun hHeld2=>?_)
      ·intro _;(try dsimp only)
       (first | exact hHeld | exact hHeld.trans (hb.mono hHeld.size) | exact hHeld.trans ((below_new _ _).mono hHeld.size) | exact hHeld.drew)
      clear hK K hHeld;have hHeld:=hHeld2 (by decide);clear hHeld2
      try simp only[Act.put,tl1,tl2,tl3]
      refine tkS 11 ?_ rfl (Or.inl ⟨by rfl,?_⟩) hHeld ?_
      rotate_left
      ·(intro w hSw;(try dsimp only at hSw);go_simp;try(with_reducible rfl))
      try simp only[Act.put,tl1,tl2,tl3]
      refine wpAnyS_ready (rs:=[12]) (by kernel_rfl) (by simp) ?_
      refine AllS.cons (o:=⟨_,_,_,_,_,_⟩) rfl (fun _=>trivial) (fun K hK=>?_) AllS.nil
      have z0:=(hHeld.cell (p:=⟨gf,ufn*2,none⟩) hgf1).trans Hcl.out.1
      have z1:=(hHeld.cell (p:=⟨gf,ufn*2+1,none⟩) hgf1).trans Hcl.out.2
      have y0:=own_frz (HC1.out.below hHeld).of (ufn*2)
      have y1:=own_frz (HC1.out.below hHeld).of (ufn*2+1)
      have hH:=hHeld
      go_simp
      refine hK.out _ _ (fun h=>absurd rfl h) (fun _=>?_)
      clear hK K hHeld
      try simp only[Act.put,tl1,tl2,tl3]
      refine wpAnyS_done (by kernel_rfl) ?_ _
      have hst:watersK cs fs dry (days*1440) a b us (k+1)=(FF.set ufn ⟨(sumS ⟨ylo,yhi⟩ [⟨v0,v1⟩]).lo,(sumS ⟨ylo,yhi⟩ [⟨v0,v1⟩]).hi⟩,LL):=by
       have e1:=HV.out
       have e2:=HLL.out
       rw[List.take_of_length_le (by have:=Hm.out;omega)] at e1 e2
       rw[watersK_succ]
       unfold useW
       rw[HX.out]
       simp only
       rw[←e1,←e2,←HFF.out,Int.toNat_natCast]
       unfold putS atS
       rw[Hy.out]
       rfl
      have hkk:Kept (fun x=>x≠gf) w' ((w'.setCell ⟨gf,ufn*2,none⟩ (.int .i64 (sumS ⟨ylo,yhi⟩ [⟨v0,v1⟩]).lo)).setCell ⟨gf,ufn*2+1,none⟩ (.int .i64 (sumS ⟨ylo,yhi⟩ [⟨v0,v1⟩]).hi)):=(Kept.setCell w' ⟨gf,ufn*2,none⟩ _).trans (Kept.setCell _ ⟨gf,ufn*2+1,none⟩ _)
      have hfin:=(HC1.out.below hH).putF Hy.out (sumS ⟨ylo,yhi⟩ [⟨v0,v1⟩]).lo (sumS ⟨ylo,yhi⟩ [⟨v0,v1⟩]).hi
      have hkw:=(Kept.all (fun x=>(x < w7.heap.size+2∧¬(x=gf∨x=gl))∨X x) Hb3.out).trans ((HKq.out.mono (fun x hx hr=>⟨hx,by
       rcases hr with⟨h1,h2⟩ | h1
       ·exact fun e=>h2 (.inr e)
       ·have:=HXD.out x (.inl h1);omega,by
       rcases hr with⟨h1,h2⟩ | h1
       ·omega
       ·have:=HXlt.out x (.inl h1);omega⟩)).trans ((Kept.all _ hH).trans (hkk.mono (fun x hx hr=>by
       rcases hr with⟨h1,h2⟩ | h1
       ·exact fun e=>h2 (.inl e)
       ·have:=HXD.out x (.inl h1);omega))))
      refine(show _∧_ from⟨hkw,?_,fun x hx=>HXD.out x (.inl hx),Nat.le_trans hWD hkw.size⟩)
      rw[hst]
      exact hfin
 | ret=>exact hq.elim
 | exit id=>exact hq.elim
 | goto t=>exact hq.elim
 | panic ch=>exact hq.elim
 | outgrown=>exact hq.elim
end Go.Proofs.YtiioegopckoldaaGreatDoor
