/- lemmas for topFed_holds: FC RangeG. No conditions. -/
import Derived.Test.YtiioegopckoldaaGreatDoorK10
import Derived.Lib.Mul64
import Derived.Laws.Bits64b
import Derived.Laws.MakeOwn
import Derived.Deep.Slices
import Derived.Deep.RegionHeld3
import Derived.Deep.DrawnRows
import Derived.Test.YtiioegopckoldaaGreatDoorK04
import Derived.Test.YtiioegopckoldaaGreatDoorK08
set_option linter.unusedVariables false
set_option linter.unusedSimpArgs false
namespace Go.Proofs.YtiioegopckoldaaGreatDoor
open Go.RowKit Go.Shelf
theorem run_copy_k {P:Program} (w:World) (dT sT ty elem:TypeId) (k g o dLen dCap:Nat) (a:Addr) (sLen sCap m:Nat) (cur:Array Value) (t:TypeId) (cs:List Value)
 (hu:P.underlying dT=some (.slice elem)) (hs:(P.info? elem).map (·.size)=some k) (hm:Nat.min sLen dLen=m)
 (hg:w.heap[g]?=some (.cells cur t (0,0))) (hn:cs.length=m*k)
 (hsrc:∀j v,cs[j]?=some v→w.cell? (a.add j)=some v) (hfit:o+cs.length≤cur.size) (h1:∀v∈cs,v.oneCell'=true) :
 (Builtin.copy_ #[dT,sT] ty #[.slice (some ⟨g,o,none⟩) dLen dCap,.slice (some a) sLen sCap]).run P w =
  .ok (goInt m) (w.setRow g (cur.toList.take o ++ cs ++ cur.toList.drop (o+cs.length)).toArray):=by
 have hl:=run_loadCells_list (P:=P) w a cs hsrc
 have hst:=run_storeCells_at P g o t cs 0 cur w hg (by simpa using hfit) h1
 cases hq:P.info? elem with
 | none=>simp[hq] at hs
 | some i =>
   have hi:i.size=k:=by simpa[hq] using hs
   simp only[Nat.add_zero] at hst
   simp[Builtin.copy_,run_underlying hu,Builtin.lenOf,Builtin.firstCells,sizeOf,typeInfo,hq,hi,hm,←hn,hl,hst]
theorem Own.copied {α:Type} {P:Program} {cells:α→List Value} {w:World} {base:Nat} {e:TypeId} {k g cap:Nat} {xs ys:List α} {n o s c' dCap:Nat} {b off:Nat} {T ty:TypeId} (h:Own w base e k cells (.slice (some ⟨g,0,none⟩) n cap) xs)
 (hk:∀x,(cells x).length=k) (h1:∀x,∀u∈cells x,u.oneCell'=true) (hu:P.underlying T=some (.slice e)) (hs:(P.info? e).map (·.size)=some k)
 (hn:n=xs.length) (hfit:o+s≤n) (hys:ys.length=s) (dLen sLen:Nat) (hmin:Nat.min sLen dLen=s) (hsrc:∀j v,(ys.flatMap cells)[j]?=some v→w.cell? ⟨b,off+j,none⟩=some v) :
 ∃w',(Builtin.copy_ #[T,T] ty #[.slice (some ⟨g,o*k,none⟩) dLen dCap,.slice (some ⟨b,off,none⟩) sLen c']).run P w= .ok (goInt s) w'∧
  Own w' base e k cells (.slice (some ⟨g,0,none⟩) n cap) (xs.take o ++ ys ++ xs.drop (o+s))∧Below base w w':=by
 subst hn
 obtain⟨hl,hn0 | ⟨g',cap',cur,hv,hb,hg,hnc,hcm,hcs,ht⟩⟩:=h
 ·exact absurd hn0.1 (by simp)
 ·injection hv with e1 e2 e3
  injection e1 with e1
  injection e1 with e1 _
  subst e1 e3
  have hfl:=flat_len hk ys
  have hfx:=flat_len hk xs
  have hcl:(ys.flatMap cells).length=s*k:=by rw[hfl,hys]
  have hle:o*k+s*k≤xs.length*k:=by rw[←Nat.add_mul];exact Nat.mul_le_mul_right _ hfit
  have hle2:xs.length*k≤cap*k:=Nat.mul_le_mul_right _ hnc
  have hrun:=run_copy_k (P:=P) w T T ty e k g (o*k) dLen dCap ⟨b,off,none⟩ sLen c' s cur e (ys.flatMap cells) hu hs hmin hg hcl (fun j v hj=>by
   have hadd:(⟨b,off,none⟩:Addr).add j=⟨b,off+j,none⟩:=by unfold Addr.add;split <;> simp_all
   rw[hadd];exact hsrc j v hj) (by rw[hcl];omega) (flat_one h1 ys)
  refine⟨_,hrun,?_,?_⟩
  ·have hlen:(xs.take o ++ ys ++ xs.drop (o+s)).length=xs.length:=by simp[hys];omega
   refine⟨?_,.inr ⟨g,cap,_,?_,hb,setRow_heap w g cur _ e (0,0) hg,?_,hcm,?_,?_⟩⟩
   ·exact flat_len hk _
   ·rw[hlen]
   ·rw[hlen];exact hnc
   ·simp[hcl];omega
   ·rw[hlen,List.toList_toArray]
    have ec:cur.toList=(xs.flatMap cells) ++ cur.toList.drop (xs.length*k):=by
     conv=>lhs;rw[←List.take_append_drop (xs.length*k) cur.toList,ht]
    have ex:xs.flatMap cells=(xs.take o).flatMap cells ++ ((xs.drop o).take s).flatMap cells ++ (xs.drop (o+s)).flatMap cells:=by
     rw[←List.flatMap_append,←List.flatMap_append]
     congr 1
     rw[List.append_assoc]
     conv=>lhs;rw[←List.take_append_drop o xs]
     congr 1
     conv=>lhs;rw[←List.take_append_drop s (xs.drop o)]
     rw[List.drop_drop]
    have l1:((xs.take o).flatMap cells).length=o*k:=by rw[flat_len hk,List.length_take,Nat.min_eq_left (by omega)]
    have l2:(((xs.drop o).take s).flatMap cells).length=s*k:=by rw[flat_len hk,List.length_take,List.length_drop,Nat.min_eq_left (by omega)]
    have l3:((xs.drop (o+s)).flatMap cells).length=(xs.length-(o+s))*k:=by rw[flat_len hk,List.length_drop]
    have t1:cur.toList.take (o*k)=(xs.take o).flatMap cells:=by
     rw[ec,ex,List.append_assoc,List.append_assoc,List.take_append_of_le_length (by omega),List.take_of_length_le (by omega)]
    have t2:cur.toList.drop (o*k+s*k)=(xs.drop (o+s)).flatMap cells ++ cur.toList.drop (xs.length*k):=by
     conv=>lhs;rw[ec,ex,List.append_assoc]
     rw[List.drop_append_of_le_length (by simp only[List.length_append];omega),List.drop_of_length_le (by simp only[List.length_append];omega)]
     simp
    rw[hcl,t1,t2]
    have hs3:xs.length*k=((xs.take o).flatMap cells ++ ys.flatMap cells ++ (xs.drop (o+s)).flatMap cells).length:=by
     simp only[List.length_append,l1,hcl,l3]
     have:o*k+s*k+(xs.length-(o+s))*k=(o+s+(xs.length-(o+s)))*k:=by rw[Nat.add_mul,Nat.add_mul]
     rw[this];congr 1;omega
    rw[←List.append_assoc,hs3,List.take_left]
    simp
  ·exact(Below.refl _ _).trans ⟨rfl,rfl,rfl,by simp[World.setRow],fun j hj=>setRow_other w g j _ (by omega)⟩
theorem m64mask (a:Nat) (ha:a < 4294967296):bits .and .u64 (a:Int) 4294967295=(a:Int):=by
 have h:=bits_and_u64_nat a 4294967295 (by omega) (by omega)
 have e:a &&& 4294967295=a % 4294967296:=Nat.and_two_pow_sub_one_eq_mod a 32
 rw[e,Nat.mod_eq_of_lt ha] at h
 exact h
set_option maxHeartbeats 1000000 in
theorem mul64_small (y:Nat) (hy:y < 4294967296) (w:World) :
 Calls Tryz.prog 201 #[.int .u64 1,.int .u64 (y:Int)] w fun e w'=>e= .returned (.tuple #[.int .u64 0,.int .u64 (y:Int)])∧w=w':=by
 have m1:bits .and .u64 1 4294967295=1:=m64mask 1 (by omega)
 have m2:=m64mask y hy
 have m3:(1:Int) / 4294967296=0:=by omega
 have m4:(y:Int) / 4294967296=0:=by omega
 have m5:IntKind.u64.wrap (y:Int)=(y:Int):=by rw[IntKind.wrap_u64];omega
 have m6:bits .and .u64 0 4294967295=0:=m64mask 0 (by omega)
 go_enter Tryz.func201,Tryz.ntmps201
 go_wp2
 go_ret2
 exact⟨rfl,rfl⟩
theorem mul_small (y:Nat) (hy:y < 4294967296) (w:World) :
 Calls Tryz.prog 154 #[.int .u64 1,.int .u64 (y:Int)] w fun e w'=>e= .returned (.tuple #[.int .u64 0,.int .u64 (y:Int)])∧w=w':=by
 have m1:IntKind.u64.wrap (y:Int)=(y:Int):=by rw[IntKind.wrap_u64];omega
 go_enter Tryz.func154,Tryz.ntmps154
 go_wp2_with fail
 refine(mul64_small y hy w).mono ?_
 rintro e w1 ⟨rfl,rfl⟩
 go_wp2
 go_ret2
 exact⟨rfl,rfl⟩
theorem gmade_spans (n:Nat):(madeCells #[.int .i64 0,.int .i64 0] (n*2)).toList=(List.replicate n (⟨0,0⟩:Sp)).flatMap Sp.cells:=by
 apply List.ext_getElem?
 intro j
 by_cases hj:j < n*2
 ·have hx:(List.replicate n (⟨0,0⟩:Sp))[j / 2]?=some ⟨0,0⟩:=by rw[List.getElem?_replicate,if_pos (by omega)]
  have h:=flat_get Sp.len hx (j:=j % 2) (by omega)
  rw[show j / 2*2+j % 2=j by omega] at h
  rw[h]
  rcases(show j % 2=0∨j % 2=1 by omega) with h0 | h0 <;> simp[madeCells,hj,Sp.cells,h0]
 ·rw[List.getElem?_eq_none (by simp[madeCells];omega),List.getElem?_eq_none (by rw[flat_len Sp.len];simp;omega)]
theorem make_spans (n:Nat) (hn:n≤1000) (w:World):(Instr.makeSlice 35 (.int .i64 (n:Int)) (.int .i64 (n:Int))).run Tryz.prog w= .ok (.slice (some ⟨w.heap.size,0,none⟩) n n) (w.alloc (.cells (madeCells #[.int .i64 0,.int .i64 0] (n*2)) 24)):=by
 obtain⟨i,hi,hz,hs,hbt⟩:=info_parts info_Sp
 have hrun:=run_make (P:=Tryz.prog) w 35 24 i (.agg #[.int .i64 0,.int .i64 0]) Tryz.underlying35 hi hz .i64 .i64 n n (by omega) (Int.le_refl _) (by rw[hbt];omega) (by omega)
 simp only[Int.toNat_natCast,hs] at hrun
 exact hrun
theorem own_spans (n:Nat) (hn:n≤1000) (w:World) (base:Nat) (hb:base≤w.heap.size):Own (w.alloc (.cells (madeCells #[.int .i64 0,.int .i64 0] (n*2)) 24)) base 24 2 Sp.cells (.slice (some ⟨w.heap.size,0,none⟩) n n) (List.replicate n ⟨0,0⟩):=by
 refine⟨by rw[flat_len Sp.len],.inr ⟨w.heap.size,n,_,by rw[List.length_replicate],hb,heap_alloc_new w _,by simp,by simp only[maxLen];omega,by simp[madeCells],?_⟩⟩
 rw[gmade_spans,List.take_of_length_le (by rw[flat_len Sp.len];exact Nat.le_refl _)]
theorem size_Sp:(Tryz.prog.info? 24).map (·.size)=some 2:=by kernel_rfl
set_option maxHeartbeats 4000000 in
set_option maxRecDepth 100000 in
theorem repeat_any (b off c N:Nat) (x:Sp) (w:World) (hb:b < w.heap.size) (c0:w.cell? ⟨b,off,none⟩=some (.int .i64 x.lo)) (c1:w.cell? ⟨b,off+1,none⟩=some (.int .i64 x.hi)) (hN1:1≤N) (hN2:N≤1000) :
 Calls Tryz.prog 84 #[.slice (some ⟨b,off,none⟩) 1 c,.int .i64 (N:Int)] w fun e w'=>∃v,e= .returned v∧Own w' w.heap.size 24 2 Sp.cells v (List.replicate N x)∧Below w.heap.size w w':=by
 have m1:IntKind.u64.wrap (N:Int)=(N:Int):=by rw[IntKind.wrap_u64];omega
 have m2:IntKind.u64.wrap 1=1:=by rw[IntKind.wrap_u64];omega
 have m3:IntKind.i64.wrap (N:Int)=(N:Int):=by rw[IntKind.wrap_i64];omega
 have hmk:=make_spans N hN2 w
 obtain⟨w1,Hw1⟩:∃w1,Hid (w.alloc (.cells (madeCells #[.int .i64 0,.int .i64 0] (N*2)) 24)=w1):=⟨_,hide rfl⟩
 have ho:=own_spans N hN2 w w.heap.size (Nat.le_refl _)
 have hb1:=below_new w (.cells (madeCells #[.int .i64 0,.int .i64 0] (N*2)) 24)
 rw[Hw1.out] at hmk ho hb1
 have hsrc:∀j v,(([x]:List Sp).flatMap Sp.cells)[j]?=some v→w1.cell? ⟨b,off+j,none⟩=some v:=fun j v hv=>by
  rw[hb1.cell (p:=⟨b,off+j,none⟩) hb]
  match j with
  | 0=>simp[Sp.cells] at hv;rw[←hv];exact c0
  | 1=>simp[Sp.cells] at hv;rw[←hv];exact c1
  | j+2=>simp[Sp.cells] at hv
 obtain⟨w2,hcp,ho2,hb2⟩:=Own.copied (P:=Tryz.prog) (T:=35) (ty:=3) (ys:=[x]) (o:=0) (s:=1) (c':=c) (dCap:=N) (b:=b) (off:=off) ho Sp.len Sp.one Tryz.underlying35 size_Sp (by simp) (by omega) rfl N 1 (Nat.min_eq_left hN1) hsrc
 simp only[Nat.zero_mul] at hcp
 have e2:(List.replicate N (⟨0,0⟩:Sp)).take 0 ++ [x] ++ (List.replicate N (⟨0,0⟩:Sp)).drop (0+1)=List.replicate 1 x ++ List.replicate (N-1) ⟨0,0⟩:=by simp
 rw[e2] at ho2
 have Ho2:=hide ho2
 have hB2:Below w.heap.size w w2:=hb1.trans hb2
 clear ho ho2 hsrc hb2 e2 c0 c1
 go_enter Tryz.func84,Tryz.ntmps84
 go_wp2_with fail
 refine(mul_small N (by omega) _).mono ?_
 rintro e w3 ⟨rfl,rfl⟩
 go_wp2_with fail
 go_loopw [8] (fun a wr=>∃k:Nat,a= .int .i64 k∧1≤k∧k≤N∧Own wr w.heap.size 24 2 Sp.cells (.slice (some ⟨w.heap.size,0,none⟩) N N) (List.replicate k x ++ List.replicate (N-k) ⟨0,0⟩)∧Below w.heap.size w wr) (fun a _=>N-(intOf a).toNat)
 case atStart=>exact⟨1,rfl,by omega,by omega,Ho2.out,hB2⟩
 case round=>
  obtain⟨k,rfl,hk1,hk,ho,hb⟩:=hrel
  by_cases hlt:k < N
  ·obtain⟨s,hs⟩:∃s,s=Nat.min k (N-k):=⟨_,rfl⟩
   have hs1:1≤s∧s≤k∧k+s≤N:=by have hs':s=min k (N-k):=hs;omega
   have hcp:=fun (W:World) (hW:Own W w.heap.size 24 2 Sp.cells (.slice (some ⟨w.heap.size,0,none⟩) N N) (List.replicate k x ++ List.replicate (N-k) ⟨0,0⟩))=>
    Own.copied (P:=Tryz.prog) (T:=35) (ty:=3) (ys:=List.replicate s x) (o:=k) (s:=s) (c':=N) (dCap:=N-k) (b:=w.heap.size) (off:=0) hW Sp.len Sp.one Tryz.underlying35 size_Sp (by simp;omega) (by omega) (by simp) (N-k) k hs.symm
     (fun j v hv=>by
      have hh:=hW.cells (g:=w.heap.size) rfl j v (by
       have hj:j < s*2:=by
        have:=(List.getElem?_eq_some_iff.1 hv).1
        rw[flat_len Sp.len] at this;simpa using this
       have e1:(List.replicate k x ++ List.replicate (N-k) (⟨0,0⟩:Sp))[j / 2]?=some x:=by
        rw[List.getElem?_append_left (by simp;omega),List.getElem?_replicate,if_pos (by omega)]
       have e2:(List.replicate s x)[j / 2]?=some x:=by rw[List.getElem?_replicate,if_pos (by omega)]
       have h1:=flat_get Sp.len e1 (j:=j % 2) (by omega)
       have h2:=flat_get Sp.len e2 (j:=j % 2) (by omega)
       rw[show j / 2*2+j % 2=j by omega] at h1 h2
       rw[h1,←h2,hv])
      have hadd:(⟨w.heap.size,0,none⟩:Addr).add j=⟨w.heap.size,0+j,none⟩:=by unfold Addr.add;split <;> simp_all
      rwa [hadd] at hh)
   have er:List.take k (List.replicate k x ++ List.replicate (N-k) ⟨0,0⟩) ++ List.replicate s x ++ List.drop (k+s) (List.replicate k x ++ List.replicate (N-k) ⟨0,0⟩)=List.replicate (k+s) x ++ List.replicate (N-(k+s)) ⟨0,0⟩:=by
    rw[List.take_left' (by simp),List.drop_append,List.drop_of_length_le (by simp),List.nil_append,List.length_replicate,List.drop_replicate,show N-k-(k+s-k)=N-(k+s) by omega,List.replicate_append_replicate]
   rw[er] at hcp
   have hNk:¬N=k:=by omega
   have Hcp:=hide hcp;have Ho:=hide ho
   clear hcp ho er hs
   go_wp2_with fail
   refine wp_region_held_drew (S:=(fun W=>Below w.heap.size w W)) (by kernel_rfl) (by(try dsimp only);exact hb.drew) (fun hHeld=>?_)
   iterate 7
    refine tkHl [0,1,2,3,4,5,6] ?_ rfl rfl (Or.inl ⟨by rfl,?_⟩) hHeld ?_
    rotate_left
    ·(intro w hSw;(try dsimp only at hSw);go_simp;try(with_reducible rfl))
    try simp only[Act.put,tl1,tl2,tl3]
   refine wpAnyH_ready (rs:=[7]) (by kernel_rfl) (by simp) ?_
   refine AllReadyH.cons (o:=⟨_,_,_,_,_,_⟩) rfl (fun K hK=>?_) AllReadyH.nil
   obtain⟨wc,hc,hoc,hbc2⟩:=Hcp.out wr.drew (Ho.out.bel (Below.refl _ _).drew)
   go_simp
   refine hK.out _ _ ?_ (fun hHeld2=>?_)
   ·(try dsimp only)
    (first | exact hHeld | exact hHeld.trans hbc2)
   clear hK K hHeld;have hHeld:=hHeld2;clear hHeld2
   try simp only[Act.put,tl1,tl2,tl3]
   iterate 2
    refine tkHl [8,9] ?_ rfl rfl (Or.inl ⟨by rfl,?_⟩) hHeld ?_
    rotate_left
    ·(intro w hSw;(try dsimp only at hSw);go_simp;try(with_reducible rfl))
    try simp only[Act.put,tl1,tl2,tl3]
   refine wpAnyH_done (by kernel_rfl) ?_ _
   have hwk:IntKind.i64.wrap ((k:Int)+(s:Int))=((k+s:Nat):Int):=by rw[wrapI (by omega)];omega
   rw[hwk]
   have Hoc:=hide hoc
   clear hoc hc hwk
   go_wp2_with fail
   exact⟨⟨k+s,rfl,by omega,by omega,Hoc.out,hHeld⟩,by simp[intOf];omega⟩
  ·obtain rfl:N=k:=by omega
   rw[Nat.sub_self,List.replicate_zero,List.append_nil] at ho
   have Ho:=hide ho
   clear ho
   go_wp2_with fail
   go_ret
   exact⟨_,rfl,Ho.out,hb⟩
end Go.Proofs.YtiioegopckoldaaGreatDoor
namespace Go.Proofs.YtiioegopckoldaaGreatDoor
open Go.RowKit Go.Shelf
attribute [local go_sem] ite_min ite_max
theorem common_any (a b c d:Int) (w:World):Calls Tryz.prog 85 #[.agg #[.int .i64 a,.int .i64 b],.agg #[.int .i64 c,.int .i64 d]] w fun e w'=>e= .returned (.agg #[.int .i64 (cutS ⟨a,b⟩ ⟨c,d⟩).lo,.int .i64 (cutS ⟨a,b⟩ ⟨c,d⟩).hi])∧Below w.heap.size w w':=by
 go_enter Tryz.func85,Tryz.ntmps85
 go_wp2
 all_goals
  refine bodyPost_ret (v:= .agg #[.int .i64 (cutS ⟨a,b⟩ ⟨c,d⟩).lo,.int .i64 (cutS ⟨a,b⟩ ⟨c,d⟩).hi]) (by simp[results,Tryz.results85,go_sem,cutS];try omega) rfl ⟨rfl,((below_new _ _).alloc (by simp) _).alloc (by simp;omega) _⟩
def tornV (k:Int):Value:= .iface 191 (.agg #[.int .i64 k])
theorem some_ok (k lo hi:Int) (w:World) (h:lo≤hi):Calls Tryz.prog 93 #[.int .i64 k,.agg #[.int .i64 lo,.int .i64 hi]] w fun e w'=>e= .returned (.agg #[.int .i64 lo,.int .i64 hi])∧Below w.heap.size w w':=by
 have h':¬hi < lo:=by omega
 go_enter Tryz.func93,Tryz.ntmps93
 go_wp2
 refine bodyPost_ret (v:= .agg #[.int .i64 lo,.int .i64 hi]) (by simp[results,Tryz.results93,go_sem];try rfl) rfl ⟨rfl,(below_new _ _).alloc (by simp) _⟩
theorem some_torn (k lo hi:Int) (w:World) (h:hi < lo):Calls Tryz.prog 93 #[.int .i64 k,.agg #[.int .i64 lo,.int .i64 hi]] w fun e w'=>e= .panicked [{v:=tornV k,recovered:=false }]∧Below w.heap.size w w':=by
 go_enter Tryz.func93,Tryz.ntmps93
 go_wp2
 exact⟨rfl,rfl,(below_new _ _).alloc (by simp) _⟩
set_option maxHeartbeats 4000000 in
set_option maxRecDepth 100000 in
theorem search_any (f:FuncId) (cp:Array Value) (p:Int→Bool) (lo hi:Int) (w:World) (h0:0≤lo) (h1:lo≤hi) (h2:hi≤13000000) (eg:∀args w,(callFunc f args).run Tryz.prog w= .ok (.enter f args) w)
 (hf:∀(n:Int) W,lo≤n→n≤hi→Below w.heap.size w W→Calls Tryz.prog f (#[.int .i64 n] ++ cp) W fun e W'=>e= .returned (.bool (p n))∧Below W.heap.size W W') :
 Calls Tryz.prog 90 #[.agg #[.int .i64 lo,.int .i64 hi],.func (.func f) #[] cp] w fun e w'=>∃r:Int,e= .returned (.int .i64 r)∧(lo≤r∧r≤hi+1)∧(lo < r→p (r-1)=false)∧(r≤hi→p r=true)∧Below w.heap.size w w':=by
 have Hf:=hide hf
 have w1:IntKind.i64.wrap (hi+1)=hi+1:=wrapI (by omega)
 clear hf
 go_enter Tryz.func90,Tryz.ntmps90
 go_wp2_with fail
 go_region
 go_wp2_with fail
 go_loopw [5,6] (fun a b wr=>∃l r:Int,a= .int .i64 l∧b= .int .i64 r∧lo≤l∧l≤r∧r≤hi+1∧Hid (lo < l→p (l-1)=false)∧Hid (r≤hi→p r=true)∧Below w.heap.size w wr) (fun a b _=>(intOf b-intOf a).toNat)
 case atStart=>exact⟨lo,hi+1,rfl,rfl,by omega,by omega,by omega,hide (fun h=>by omega),hide (fun h=>by omega),(below_new _ _).drew⟩
 case round=>
  obtain⟨l,r,rfl,rfl,b1,b2,b3,H1,H2,hb⟩:=hrel
  by_cases hlt:l < r
  ·have w2:IntKind.i64.wrap (l+r)=l+r:=wrapI (by omega)
   have w3:IntKind.i64.wrap ((l+r).tdiv 2)=(l+r) / 2:=by rw[Int.tdiv_eq_ediv_of_nonneg (by omega)];exact wrapI (by omega)
   have hm1:l≤(l+r) / 2:=by omega
   have hm2:(l+r) / 2 < r:=by omega
   obtain⟨m,hm⟩:∃m,m=(l+r) / 2:=⟨_,rfl⟩
   rw[←hm] at w3 hm1 hm2
   have w4:IntKind.i64.wrap (m+1)=m+1:=wrapI (by omega)
   have H:=hide (Hf.out m wr (by omega) (by omega) hb)
   clear hm
   go_wp2_with (go_at_fn f;refine H.out.mono ?_;rintro e w' ⟨rfl,hb'⟩)
   ·have hp:p m=true:=by assumption
    exact⟨⟨l,m,rfl,rfl,b1,hm1,by omega,H1,hide (fun _=>hp),hb.trans (hb'.mono hb.size)⟩,by simp[intOf];omega⟩
   ·have hp:p m=false:=by assumption
    exact⟨⟨m+1,r,rfl,rfl,by omega,by omega,b3,hide (fun _=>by rw[Int.add_sub_cancel];exact hp),H2,hb.trans (hb'.mono hb.size)⟩,by simp[intOf];omega⟩
  ·obtain rfl:l=r:=by omega
   go_wp2_with fail
   go_ret
   exact⟨l,rfl,⟨b1,b3⟩,H1.out,H2.out,hb⟩
end Go.Proofs.YtiioegopckoldaaGreatDoor
namespace Go.Proofs.YtiioegopckoldaaGreatDoor
open Go.RowKit Go.Shelf
def SeqXF (n:Nat) (P:Program) (g:Nat) (lb:Array Value) (E:Nat→Nat→(Nat→Prop)→(Nat→Prop)→Array Value→World→Prop) (N:Nat) (fin:Prop) (Pn:Nat→List PanicEntry→Prop) (Oi R:Nat→Prop) (w:World):Prop:=
 ∀(l:Nat) (J Jx:Nat→(Nat→Prop)→World→Prop) (W:World),Kept R w W→
  (∀k X X' A B,J k X A→Kept (fun b=>¬X b) A B→(∀b,X' b→X b∨A.heap.size≤b)→J k X' B)→
  (∀k X X' A B,Jx k X A→Kept (fun b=>¬X b) A B→(∀b,X' b→X b∨A.heap.size≤b)→Jx k X' B)→
  (∀k X G args W1,J k (fun b=>X b∨G b) W1→(∀b,X b∨G b→b < W1.heap.size)→E W.heap.size k X G args W1→k < N→YieldAt Fence.wide (n-1) P l args W1 fun e W'=>
   (e= .returned (.bool true)∧J (k+1) X W'∧Kept (fun b=>R b∨X b) W1 W')∨(e= .returned (.bool false)∧Jx (k+1) X W'∧Kept (fun b=>R b∨X b) W1 W'))→
  J 0 Oi W→
  CallsIn Fence.wide n P g (#[.func (.yield l) #[] #[]] ++ lb) W fun e W'=>
   (∃v,e= .returned v∧∃X,(fin∧J N X W')∨∃k,k≤N∧Jx k X W')∨(∃chain k X,e= .panicked chain∧Pn k chain∧J k X W')
theorem wp_rangeXF {n:Nat} {P:Program} {g:Operand} {ps:Array Tmp} {assign body:Code} {Q:Exit→Act→World→Prop} {a:Act} {w:World}
 {gf:Nat} {lb:Array Value} (hg:a.eval g= .func (.func gf) #[] lb) (eg:∀args w,(callFunc gf args).run P w= .ok (.enter gf args) w)
 {E:Nat→Nat→(Nat→Prop)→(Nat→Prop)→Array Value→World→Prop} {N:Nat} {fin:Prop} {Pn:Nat→List PanicEntry→Prop} {Oi R:Nat→Prop} {w0:World} (hseq:SeqXF (n-1) P gf lb E N fin Pn Oi R w0)
 (hw0:Kept R w0 w) (hps:∀b k X G args W,E b k X G args W→args.size=ps.size) (Ob:Nat→Prop)
 (hOi:∀b,Oi b→b < w.heap.size) (hOb:∀b,Ob b→b < w.heap.size) (hR:∀b,R b→b < w.heap.size∧¬Ob b)
 (I:Nat→(Nat→Prop)→World→Prop) (Ix:Code→Nat→(Nat→Prop)→World→Prop) (Ax:Nat→(Nat→Prop)→(Nat→Prop)→Act→World→Prop)
 (hI:∀k X X' A B,I k X A→Kept (fun b=>¬X b∧b≠w.heap.size∧b≠w.heap.size+1) A B→(∀b,X' b→X b∨A.heap.size≤b)→I k X' B)
 (hIx:∀c k X X' A B,Ix c k X A→Kept (fun b=>¬X b∧b≠w.heap.size∧b≠w.heap.size+1) A B→(∀b,X' b→X b∨A.heap.size≤b)→Ix c k X' B)
 (hAx:∀k X G a' A B,Ax k X G a' A→Kept (fun b=>b≠w.heap.size+1) A B→Ax k X G a' B)
 (h0:∀W,Kept (fun _=>True) w W→W.heap.size=w.heap.size+2→I 0 Oi W)
 (hassign:∀l k X G args W,I k (fun b=>X b∨G b) W→w.heap.size+2≤W.heap.size→k < N→(∀b,X b∨G b→b < W.heap.size)→(∀b,X b∨G b→Oi b∨w.heap.size+2≤b)→E (w.heap.size+2) k X G args W→assign.wpIn (Fence.wide.inRound l) (n-1-1) P (Exit.then (fun a' W'=>Kept (fun b=>(b < w.heap.size+2∧¬Ob b)∨X b) W W'∧I k (fun b=>X b∨G b) W'∧Ax k X G a' W') (fun _ _ _=>False))
  {tmps:=(ps.zip args).foldl (fun t (p,v)=>t.setIfInBounds p v) a.tmps,defers:=[] } W)
 (hbody:∀l k X G a' W,I k (fun b=>X b∨G b) W→Ax k X G a' W→w.heap.size+2≤W.heap.size→k < N→(∀b,X b∨G b→b < W.heap.size)→(∀b,X b∨G b→Oi b∨w.heap.size+2≤b)→body.wpIn (Fence.wide.inRound l) (n-1-1) P (postX w.heap.size Ob I Ix k X W) a' W)
 (hdone:fin→∀X W,I N X W→W.heap[w.heap.size]?=some (.deferred (some []))→Q .normal {a with defers:={target:= .collected w.heap.size,args:=#[] } :: a.defers } W)
 (hstop:∀c k X W,k≤N→Ix c k X W→W.heap[w.heap.size]?=some (.deferred (some []))→c.wpIn Fence.wide n P Q {a with defers:={target:= .collected w.heap.size,args:=#[] } :: a.defers } W)
 (hpanic:∀k chain X W,Pn k chain→I k X W→W.heap[w.heap.size]?=some (.deferred (some []))→Q (.panic chain) {a with defers:={target:= .collected w.heap.size,args:=#[] } :: a.defers } W) :
 (Code.rangeFunc g ps assign body).wpIn Fence.wide n P Q a w:=by
 refine wpIn_rangeFunc ?_
 intro fn hfn
 rw[show Fence.wide.round=none from rfl]
 obtain⟨rec,hrec⟩:∃rec:LoopState→Option Code→Loop,rec=fun st pe=>{state:=st,pending:=pe,fn,tmps:=a.tmps,params:=ps,assign,body,defers:=w.heap.size }:=⟨_,rfl⟩
 obtain⟨W1,hW1⟩:∃W1,(w.alloc (.deferred (some []))).alloc (.loop (rec .ready none))=W1:=⟨_,rfl⟩
 have hL1:W1.heap[w.heap.size+1]?=some (.loop (rec .ready none)):=by
  rw[←hW1];have:=World.alloc_heap_new (w.alloc (.deferred (some []))) (.loop (rec .ready none));rwa [World.size_alloc] at this
 have hK1:W1.heap[w.heap.size]?=some (.deferred (some [])):=by
  rw[←hW1];exact(Below.heap_alloc _ _ _ (by simp)).trans (World.alloc_heap_new w _)
 have hkw:∀R,Kept R w W1:=fun R=>by rw[←hW1];exact(Kept.alloc R w _).trans (Kept.alloc R _ _)
 have hW1z:W1.heap.size=w.heap.size+2:=by rw[←hW1];simp
 have hI1:I 0 Oi W1:=h0 W1 (hkw _) (by rw[←hW1];simp)
 refine⟨w.heap.size+1,[{target:= .collected w.heap.size,args:=#[] }],W1,{target:= .fn (.func gf) lb,args:=#[.func (.yield (w.heap.size+1)) #[] #[]] },W1,gf,
  #[.func (.yield (w.heap.size+1)) #[] #[]] ++ lb,W1,?_,?_,?_,?_,fun h=>by simp[Fence.wide] at h,?_⟩
 ·rw[←hW1,hrec];exact run_enterLoop_outer _ _ _ _ _
 ·simp only[resolve,hg]
  simp[go_sem]
 ·intro f' _;trivial
 ·simp[invoke,go_sem,eg]
 ·have st:∀(X:Nat→Prop) (A B:World) (b:Nat) (o:Obj),(¬X b)→A.heap[b]?=some o→Kept (fun b=>¬X b) A B→B.heap[b]?=some o:=fun X A B b o hb ho hk=>(hk.same b hb (Array.getElem?_eq_some_iff.1 ho).1).trans ho
  have n0:∀X:Nat→Prop,(∀b,X b→Oi b∨w.heap.size+2≤b)→¬X w.heap.size:=fun X hX h=>by rcases hX _ h with h | h;(have:=hOi _ h;omega);omega
  have n1:∀X:Nat→Prop,(∀b,X b→Oi b∨w.heap.size+2≤b)→¬X (w.heap.size+1):=fun X hX h=>by rcases hX _ h with h | h;(have:=hOi _ h;omega);omega
  have nX:∀(X X':Nat→Prop) (A:World) (o:Obj),(∀b,X b→Oi b∨w.heap.size+2≤b)→A.heap[w.heap.size+1]?=some o→(∀b,X' b→X b∨A.heap.size≤b)→∀b,X' b→Oi b∨w.heap.size+2≤b:=fun X X' A o hX hA hX' b hb=>by
   have:=(Array.getElem?_eq_some_iff.1 hA).1
   rcases hX' b hb with h | h
   ·exact hX b h
   ·exact .inr (by omega)
  refine(hseq (w.heap.size+1)
   (fun k X W=>I k X W∧W.heap[w.heap.size+1]?=some (.loop (rec .ready none))∧W.heap[w.heap.size]?=some (.deferred (some []))∧∀b,X b→Oi b∨w.heap.size+2≤b)
   (fun k X W=>∃c,Ix c k X W∧W.heap[w.heap.size+1]?=some (.loop (rec .done (some c)))∧W.heap[w.heap.size]?=some (.deferred (some []))∧∀b,X b→Oi b∨w.heap.size+2≤b)
   W1 (hw0.trans (hkw R))
   (fun k X X' A B hs hk hX'=>⟨hI k X X' A B hs.1 (hk.mono fun _ _ h=>h.1) hX',st X A B _ _ (n1 X hs.2.2.2) hs.2.1 hk,st X A B _ _ (n0 X hs.2.2.2) hs.2.2.1 hk,nX X X' A _ hs.2.2.2 hs.2.1 hX'⟩)
   (fun k X X' A B hs hk hX'=>by
    obtain⟨c,hc,hl,hd,hX⟩:=hs
    exact⟨c,hIx c k X X' A B hc (hk.mono fun _ _ h=>h.1) hX',st X A B _ _ (n1 X hX) hl hk,st X A B _ _ (n0 X hX) hd hk,nX X X' A _ hX hl hX'⟩)
   ?_ ⟨hI1,hL1,hK1,fun b hb=> .inl hb⟩).mono ?_
  ·
   rintro k X G args W ⟨hi,hl,hk,hXG⟩ hXW hE hlen
   have hX:∀b,X b→Oi b∨w.heap.size+2≤b:=fun b hb=>hXG b (.inl hb)
   have m0:=n0 X hX
   have m1:=n1 X hX
   have hlt:w.heap.size+1 < W.heap.size:=(Array.getElem?_eq_some_iff.1 hl).1
   have hy:=run_yield (P:=P) (args:=args) hl (by rw[hrec];exact hps _ k X G args W hE)
   rw[hrec] at hy
   refine⟨fn,_,assign,body,hy,roundIn_of_wpIn hfn (wpIn_mono (hassign _ k X G args W hi (by omega) hlen hXW hXG (by rwa [hW1z] at hE)) ?_)⟩
   rintro e1 a1 Wa hq1
   cases e1 with
   | normal =>
     obtain⟨hka,hia,hax⟩:=hq1
     have hla:=(hka.same _ (.inl ⟨by omega,fun h=>by have:=hOb _ h;omega⟩) hlt).trans hl
     have hda:=(hka.same _ (.inl ⟨by omega,fun h=>by have:=hOb _ h;omega⟩) (by omega)).trans hk
     have hlta:w.heap.size+1 < Wa.heap.size:=Nat.lt_of_lt_of_le hlt hka.size
     refine⟨_,run_beginRound hla (by rw[hrec]),?_⟩
     have hkb:Kept (fun b=>b≠w.heap.size+1) Wa (Wa.putObj (w.heap.size+1) (.loop {rec .ready none with state:= .busy })):=Kept.putObj _ _ _
     have hl2:(Wa.putObj (w.heap.size+1) (.loop {rec .ready none with state:= .busy })).heap[w.heap.size+1]?=some (.loop {rec .ready none with state:= .busy }):=World.putObj_heap_same hlta
     have hk2:(Wa.putObj (w.heap.size+1) (.loop {rec .ready none with state:= .busy })).heap[w.heap.size]?=some (.deferred (some [])):=(World.putObj_heap_other (by omega)).trans hda
     refine wpIn_mono (hbody _ k X G a1 _ (hI k _ _ _ _ hia (hkb.mono fun _ _ h=>h.2.2) (fun _ h=> .inl h)) (hAx k X G a1 _ _ hax hkb) (by rw[World.putObj_size];omega) hlen (fun b hb=>by rw[World.putObj_size];have:=hXW b hb;have:=hka.size;omega) hXG) ?_
     have r1:∀b,(R b∨X b)→(b < w.heap.size+2∧¬Ob b)∨X b:=fun b hb=>hb.imp (fun h=>⟨by have:=(hR b h).1;omega,(hR b h).2⟩) id
     have r2:∀b,(R b∨X b)→b≠w.heap.size+1:=fun b hb e=>by
      rcases hb with h | h
      ·have:=(hR b h).1;omega
      ·rw[e] at h;exact m1 h
     have hkR:Kept (fun b=>R b∨X b) W (Wa.putObj (w.heap.size+1) (.loop {rec .ready none with state:= .busy })):=
      (hka.mono fun b _ hb=>r1 b hb).trans (hkb.mono fun b _ hb=>r2 b hb)
     have fin:∀(jump:Option Code) (W3:World),Kept (fun b=>(b < w.heap.size+2∧¬Ob b)∨X b) (Wa.putObj (w.heap.size+1) (.loop {rec .ready none with state:= .busy })) W3→
      (Instr.endRound (w.heap.size+1) jump).run P W3= .ok (.bool jump.isNone) (W3.putObj (w.heap.size+1) (.loop (rec (if jump.isNone then .ready else .done) jump)))∧
      (W3.putObj (w.heap.size+1) (.loop (rec (if jump.isNone then .ready else .done) jump))).heap[w.heap.size+1]?=some (.loop (rec (if jump.isNone then .ready else .done) jump))∧
      (W3.putObj (w.heap.size+1) (.loop (rec (if jump.isNone then .ready else .done) jump))).heap[w.heap.size]?=some (.deferred (some [])):=fun jump W3 hk3=>by
      have hl3:=(hk3.same _ (.inl ⟨by omega,fun h=>by have:=hOb _ h;omega⟩) (by rw[World.putObj_size];exact hlta)).trans hl2
      have hd3:=(hk3.same _ (.inl ⟨by omega,fun h=>by have:=hOb _ h;omega⟩) (by rw[World.putObj_size];omega)).trans hk2
      have:=run_endRound (P:=P) jump hl3
      rw[hrec] at this ⊢
      exact⟨this,World.putObj_heap_same (Array.getElem?_eq_some_iff.1 hl3).1,(World.putObj_heap_other (by omega)).trans hd3⟩
     rintro e a3 W3 hp
     cases e with
     | normal =>
       obtain⟨hk3,hi3⟩:=hp
       obtain⟨hr,hl4,hk4⟩:=fin none W3 hk3
       refine⟨_,_,hr,.inl ⟨rfl,⟨hI _ X X _ _ hi3 ((Kept.putObj W3 _ _).mono fun b _ h=>h.2.2) (fun _ h=> .inl h),hl4,hk4,hX⟩,?_⟩⟩
       exact hkR.trans ((hk3.mono fun b _ hb=>r1 b hb).trans ((Kept.putObj W3 _ _).mono fun b _ hb=>r2 b hb))
     | ret =>
       obtain⟨hk3,hi3⟩:=hp
       obtain⟨hr,hl4,hk4⟩:=fin (some .ret) W3 hk3
       exact⟨_,_,hr,.inr ⟨rfl,⟨.ret,hIx _ _ X X _ _ hi3 ((Kept.putObj W3 _ _).mono fun b _ h=>h.2.2) (fun _ h=> .inl h),hl4,hk4,hX⟩,hkR.trans ((hk3.mono fun b _ hb=>r1 b hb).trans ((Kept.putObj W3 _ _).mono fun b _ hb=>r2 b hb))⟩⟩
     | exit id =>
       obtain⟨hk3,hi3⟩:=hp
       obtain⟨hr,hl4,hk4⟩:=fin (some (.exit id)) W3 hk3
       exact⟨_,_,hr,.inr ⟨rfl,⟨.exit id,hIx _ _ X X _ _ hi3 ((Kept.putObj W3 _ _).mono fun b _ h=>h.2.2) (fun _ h=> .inl h),hl4,hk4,hX⟩,hkR.trans ((hk3.mono fun b _ hb=>r1 b hb).trans ((Kept.putObj W3 _ _).mono fun b _ hb=>r2 b hb))⟩⟩
     | goto t =>
       obtain⟨hk3,hi3⟩:=hp
       obtain⟨hr,hl4,hk4⟩:=fin (some (.goto t)) W3 hk3
       exact⟨_,_,hr,.inr ⟨rfl,⟨.goto t,hIx _ _ X X _ _ hi3 ((Kept.putObj W3 _ _).mono fun b _ h=>h.2.2) (fun _ h=> .inl h),hl4,hk4,hX⟩,hkR.trans ((hk3.mono fun b _ hb=>r1 b hb).trans ((Kept.putObj W3 _ _).mono fun b _ hb=>r2 b hb))⟩⟩
     | panic ch=>exact hp.elim
     | outgrown=>exact hp.elim
   | ret=>exact hq1.elim
   | exit id=>exact hq1.elim
   | goto t=>exact hq1.elim
   | panic ch=>exact hq1.elim
   | outgrown=>exact hq1.elim
  ·
   rintro e W2 (⟨v,rfl,X,(⟨hfin,hi,hl,hk,hX⟩ | ⟨k,hkN,c,hi,hl,hk,hX⟩)⟩ | ⟨chain,k,X,rfl,hpn,hi,hl,hk,hX⟩)
   ·exact⟨none,_,by have:=run_endLoop (P:=P) hl (by rw[hrec];simp);rw[hrec] at this;exact this,hdone hfin X _ (hI _ X X _ _ hi ((Kept.putObj W2 _ _).mono fun b _ h=>h.2.2) (fun _ h=> .inl h)) ((World.putObj_heap_other (by omega)).trans hk)⟩
   ·exact⟨some c,_,by have:=run_endLoop (P:=P) hl (by rw[hrec];simp);rw[hrec] at this;exact this,hstop c k X _ hkN (hIx c k X X _ _ hi ((Kept.putObj W2 _ _).mono fun b _ h=>h.2.2) (fun _ h=> .inl h)) ((World.putObj_heap_other (by omega)).trans hk)⟩
   ·exact hpanic k chain X W2 hpn hi hk
structure BoxX {α:Type} (e:TypeId) (k:Nat) (cells:α→List Value) (w:World) (L Z:Nat) (xs:List α) (X:Nat→Prop) (W:World):Prop where
 own:∃v,W.cell? ⟨L,0,none⟩=some v∧W.frozen? ⟨L,0,none⟩=false∧Own W Z e k cells v xs∧∀g,v.ownBlock=some g→¬X g
 lt:L < W.heap.size
 bl:Below w.heap.size w W
 xge:∀b,X b→Z≤b
 zle:Z≤W.heap.size
section
variable {α:Type} {e:TypeId} {k:Nat} {cells:α→List Value} {w W W':World} {L Z:Nat} {xs:List α} {X X' R:Nat→Prop}
theorem BoxX.kept (h:BoxX e k cells w L Z xs X W) (hk:Kept R W W') (h1:∀b,Z≤b→¬X b→R b) (h2:R L) (h3:∀b,b < w.heap.size→R b) (hX:∀b,X' b→X b∨W.heap.size≤b):BoxX e k cells w L Z xs X' W':=by
 obtain⟨v,c,f,o,n⟩:=h.own
 refine⟨⟨v,(hk.cell (p:=⟨L,0,none⟩) h2 h.lt).trans c,(hk.frozen (p:=⟨L,0,none⟩) h2 h.lt).trans f,o.keptG hk (fun g hg=>h1 g (o.blockG hg).1 (n g hg)),fun g hg hx=>?_⟩,Nat.lt_of_lt_of_le h.lt hk.size,h.bl.trans (hk.below h3 h.bl.size),fun b hb=>?_,Nat.le_trans h.zle hk.size⟩
 ·rcases hX g hx with h' | h'
  ·exact n g hg h'
  ·have:=(o.blockG hg).2;omega
 ·rcases hX b hb with h' | h'
  ·exact h.xge b h'
  ·have:=h.zle;omega
theorem BoxX.step {W1 wv:World} {v vv:Value} {x:α} (h:BoxX e k cells w L Z xs X W) (hc:W.cell? ⟨L,0,none⟩=some v) (hf:W.frozen? ⟨L,0,none⟩=false) (ho:Own W Z e k cells v xs) (hn:∀g,v.ownBlock=some g→¬X g) (hX':∀b,X' b→X b) (hXlt:∀b,X b→b < W.heap.size)
 (hb:Below W.heap.size W W1) (hg:W1.grownBy wv v.ownBlock) (ho1:Own wv Z e k cells vv (xs ++ [x])) (hat:vv.ownBlock=v.ownBlock∨vv.ownBlock=some W1.heap.size) (hL:L < Z) (hw:w.heap.size≤L) :
 BoxX e k cells w L Z (xs ++ [x]) X' (wv.setCell ⟨L,0,none⟩ vv)∧Kept (fun b=>¬v.ownBlock=some b∧b≠L) W (wv.setCell ⟨L,0,none⟩ vv):=by
 have k1:Kept (fun b=>¬v.ownBlock=some b) W wv:=((Kept.all (fun _=>True) hb).mono fun _ _ _=>trivial).trans ((Kept.grown hg).mono fun b _ hb e=>hb e.symm)
 have hLv:¬v.ownBlock=some L:=fun e=>by have:=(ho.blockG e).1;omega
 have k2:Kept (fun b=>¬v.ownBlock=some b∧b≠L) W (wv.setCell ⟨L,0,none⟩ vv):=(k1.mono fun b _ h=>h.1).trans ((Kept.setCell wv ⟨L,0,none⟩ vv).mono fun b _ h=>h.2)
 have c1:wv.cell? ⟨L,0,none⟩=some v:=(k1.cell (p:=⟨L,0,none⟩) hLv h.lt).trans hc
 have f1:wv.frozen? ⟨L,0,none⟩=false:=(k1.frozen (p:=⟨L,0,none⟩) hLv h.lt).trans hf
 have hLvv:∀g,vv.ownBlock=some g→g≠L:=fun g hg=>by have:=(ho1.blockG hg).1;omega
 refine⟨⟨⟨vv,World.cell?_setCell_same' _ _ _ (by rw[c1];rfl),by rw[World.frozen?_setCell];exact f1,ho1.keptG (Kept.setCell wv ⟨L,0,none⟩ vv) hLvv,fun g hg hx=>?_⟩,Nat.lt_of_lt_of_le h.lt k2.size,h.bl.trans (k2.below (fun b hb=>⟨fun e=>by have:=(ho.blockG e).1;omega,by omega⟩) h.bl.size),fun b hb=>h.xge b (hX' b hb),Nat.le_trans h.zle k2.size⟩,k2⟩
 rcases hat with h' | h'
 ·exact hn g (h'.symm.trans hg) (hX' g hx)
 ·rw[h'] at hg
  injection hg with hg
  have:=hXlt g (hX' g hx)
  have:=hb.size
  omega
end
end Go.Proofs.YtiioegopckoldaaGreatDoor
