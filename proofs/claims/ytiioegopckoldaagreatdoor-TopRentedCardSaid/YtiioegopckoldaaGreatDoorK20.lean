/- lemmas for topRented_holds: PBD. No conditions. -/
import Derived.Test.YtiioegopckoldaaGreatDoorK19
import Derived.WalkMore
set_option linter.unusedVariables false
set_option linter.unusedSimpArgs false
namespace Go.Proofs.YtiioegopckoldaaGreatDoor
open Go.RowKit Go.Shelf
theorem Brs.len18 {B:Brs} (h:B.hs.length=8∧B.ss.length=8):B.cells.length=18:=by simp[Brs.cells,ivs,nvs,h.1,h.2]
theorem bo_size {B:Brs} (h:B.hs.length=8∧B.ss.length=8):(Tryz.prog.info? 139).map (·.size)=some B.cells.length:=by rw[Brs.len18 h];kernel_rfl
theorem bo_sizeA {B:Brs} (h:B.hs.length=8∧B.ss.length=8):(Tryz.prog.info? 139).map (·.size)=some B.cells.toArray.size:=by rw[List.size_toArray];exact bo_size h
theorem bo_there {w:World} {p:Nat} {B:Brs} (h:Bx w p B.cells):w.there p 0 B.cells.toArray.size:=by rw[List.size_toArray];exact bx_range h rfl
theorem results_bo2 {fn:Func} {p q:Tmp} (h:fn.results= #[.cell p 139,.tmp q]) (tmps:Array Value) (W:World) (g:Nat) (B:Brs) (hl:B.hs.length=8∧B.ss.length=8) (hp:tmps.getD p undef= .pointer (some ⟨g,0,none⟩)) (ha:At W g B.cells) :
 (results fn tmps).run Tryz.prog W= .ok (.tuple #[.agg B.cells.toArray,tmps.getD q undef]) W:=by
 have hp':tmps[p]?.getD undef= .pointer (some ⟨g,0,none⟩):=by simpa using hp
 simp[results,h,hp',asAddr,run_loadVar_mid W g 0 _ _ _ ha.range Tryz.underlying139 rfl (bo_size hl)]
def bo0:Brs:=⟨none,none,0,0,0,0,List.replicate 8 0,List.replicate 8 0⟩
theorem bo0_len:bo0.hs.length=8∧bo0.ss.length=8:=⟨rfl,rfl⟩
def Brs.ws (B:Brs) (ss:List Nat):Brs:={B with ss:=ss }
def Brs.wr (B:Brs) (A:Option Addr) (n c:Nat):Brs:={B with Ap:=A,r:=n,cp:=c }
theorem Brs.set_s {B:Brs} {i s:Nat} (h:B.hs.length=8∧B.ss.length=8) (hi:i < 8):B.cells.set (9+i) (.int .i64 (s:Nat))=(B.ws (B.ss.set i s)).cells:=by
 unfold Brs.cells Brs.ws ivs nvs
 rw[show 9+i=(8+i)+1 by omega,List.set_cons_succ,List.set_append_right _ _ (by simp[h.1]),show 8+i-(List.map (Value.int .i64) B.hs).length=i by simp[h.1],List.set_append_left _ _ (by simp[h.2];omega),List.map_set]
theorem Brs.set_r {B:Brs} {A:Option Addr} {n c:Nat} (h:B.hs.length=8∧B.ss.length=8):B.cells.set 17 (.slice A n c)=(B.wr A n c).cells:=by
 unfold Brs.cells Brs.wr ivs nvs
 rw[List.set_cons_succ,List.set_append_right _ _ (by simp[h.1]),show 16-(List.map (Value.int .i64) B.hs).length=8 by simp[h.1],List.set_append_right _ _ (by simp[h.2]),show 8-(List.map (fun s:Nat=>Value.int .i64 (s:Int)) B.ss).length=0 by simp[h.2]]
 rfl
theorem Brs.get_s {B:Brs} (h:B.hs.length=8∧B.ss.length=8) {i:Nat} (hi:i < 8):B.cells[9+i]?=some (.int .i64 ((B.ss.getD i 0:Nat):Int)):=by
 rw[show 9+i=(8+i)+1 by omega]
 show(ivs B.hs ++ _)[8+i]?=_
 rw[List.getElem?_append_right (by simp[ivs,h.1]),show 8+i-(ivs B.hs).length=i by simp[ivs,h.1],List.getElem?_append_left (by simp[nvs,h.2];omega),nvs,List.getElem?_map,List.getD_eq_getElem?_getD,List.getElem?_eq_getElem (by rw[h.2];exact hi)]
 rfl
theorem Brs.get_h {B:Brs} (h:B.hs.length=8∧B.ss.length=8) {i:Nat} (hi:i < 8):B.cells[1+i]?=some (.int .i64 (B.hs.getD i 0)):=by
 rw[Nat.add_comm]
 show(ivs B.hs ++ _)[i]?=_
 rw[List.getElem?_append_left (by simp[ivs,h.1];omega),ivs,List.getElem?_map,List.getD_eq_getElem?_getD,List.getElem?_eq_getElem (by rw[h.1];exact hi)]
 rfl
theorem Brs.get_r {B:Brs} (h:B.hs.length=8∧B.ss.length=8):B.cells[17]?=some (.slice B.Ap B.r B.cp):=by
 show(ivs B.hs ++ _)[16]?=_
 rw[List.getElem?_append_right (by simp[ivs,h.1]),show 16-(ivs B.hs).length=8 by simp[ivs,h.1],List.getElem?_append_right (by simp[nvs,h.2]),show 8-(nvs B.ss).length=0 by simp[nvs,h.2]]
 rfl
theorem set_same0 {xs:List Nat} {k:Nat} (h:xs.getD k 0=0):xs.set k 0=xs:=by
 refine List.ext_getElem? fun j=>?_
 by_cases hj:j=k
 ·subst hj
  by_cases hl:j < xs.length
  ·rw[List.getElem?_set_self hl]
   rw[List.getD_eq_getElem?_getD,List.getElem?_eq_getElem hl] at h
   rw[List.getElem?_eq_getElem hl]
   exact congrArg some h.symm
  ·rw[List.getElem?_eq_none (by rw[List.length_set];omega),List.getElem?_eq_none (by omega)]
 ·rw[List.getElem?_set_ne (fun e=>hj e.symm)]
theorem wpList_app1k {α:Type} {cells:α→List Value} {P:Program} {T E:TypeId} {k bytes:Nat} {wr:World} {base:Nat} {v:Value} {xs:List α} {ops:Array Oper} {rest:List Oper} {o:Oper} {a:Act} {Q:Exit→Act→World→Prop} {cs:Array Value} {ty:TypeId} (L:ElLaw P T E k bytes cells) (hgd:o.guard=none) (s x:Operand)
 (ho:o.op= .call {callee:= .builtin .append,args:=#[s,x],argTypes:=#[T,T] }) (hs:a.eval s=v) (hx:a.eval x= .slice (some ⟨wr.heap.size,0,none⟩) 1 1) (hown:Own wr base E k cells v xs) (y:α) (hcs:cs.toList=cells y)
 (hlen:xs.length+1≤1000000) (hbase:base≤wr.heap.size)
 (h:∀v' w',Own w' base E k cells v' (xs ++ [y])→Kept (fun b=>¬v.ownBlock=some b) wr w'→wpList P ops Q rest (a.put o.dst v') w'):wpList P ops Q (o :: rest) a (wr.alloc (.cells cs ty)):=by
 refine wpList_app (v:=v) (xs:=xs) (ys:=[y]) (n:=1) L hgd s x ho hs (hown.alloc _) rfl hx (Rd.new wr cs ty [y] (by simpa using hcs)) hlen (by simp;omega) ?_
 intro v' w' h1 h2 _
 exact h v' w' h1 ((Kept.alloc _ wr _).trans ((Kept.grown h2).mono fun b hb hlt e=>hlt e.symm))
theorem or_step {b f:Nat} (hb:b < 256) (hf:f < 8):bits BinOp.or IntKind.i64 (b:Int) (wrap64 (2 ^ f))=((b ||| 2 ^ f:Nat):Int):=by
 have h2:(2:Nat) ^ f < 2 ^ 8:=Nat.pow_lt_pow_right (by omega) hf
 have e:wrap64 ((2:Int) ^ f)=((2 ^ f:Nat):Int):=by
  have e1:((2:Int) ^ f)=((2 ^ f:Nat):Int):=by simp
  rw[e1]
  generalize (2:Nat) ^ f=P at *
  unfold wrap64;omega
 rw[e]
 exact i64_or_nat b (2 ^ f) hb h2
def boK (An:Option Addr) (m cn:Nat) (Ap:Option Addr) (k cp:Nat) (hs:List Int) (ss:List Nat):Brs:=⟨An,Ap,m,cn,k,cp,hs,ss⟩
set_option maxHeartbeats 4000000 in
set_option maxRecDepth 100000 in
theorem open_any (A1 A2:Option Addr) (m c1 r c2:Nat) (ns:List Int) (rs:List Rr) (w:World) (hN:Rd w w.heap.size icell A1 ns) (hm:m=ns.length) (hm2:m≤9223372036854775807) (hR:RsAt w A2 r rs) (hr2:r≤9223372036854775807) :
 Calls Tryz.prog 48 #[.slice A1 m c1,.slice A2 r c2] w fun e w'=>∃B:Brs,B.hs.length=8∧B.ss.length=8∧e= .returned (.tuple #[.agg B.cells.toArray,.bool (rentsOk ns rs)])∧(rentsOk ns rs=true→BAt w' B ns (rs.map Rr.pr)∧B.hs=hsTo rs rs.length∧B.ss=ssTo rs rs.length∧B.m=m∧B.r=r)∧Below w.heap.size w w':=by
 obtain⟨b4,w1,e4,ew1,hx4,hb1,hz1⟩:=mk_bx w bo0.cells.toArray 139
 rw[List.toList_toArray] at hx4
 have hb4g:w.heap.size≤b4:=by have:=e4.out;omega
 have ew1':Hid (w.alloc (.cells #[.slice none 0 0,.int .i64 0,.int .i64 0,.int .i64 0,.int .i64 0,.int .i64 0,.int .i64 0,.int .i64 0,.int .i64 0,.int .i64 0,.int .i64 0,.int .i64 0,.int .i64 0,.int .i64 0,.int .i64 0,.int .i64 0,.int .i64 0,.slice none 0 0] 139)=w1):=ew1
 have R1:=hide (hR.bel hb1);have N1:=hide (hN.bel hb1)
 obtain⟨B0,hB0⟩:∃B0,B0=bo0:=⟨_,rfl⟩
 have L0:B0.hs.length=8∧B0.ss.length=8:=by rw[hB0];exact bo0_len
 rw[←hB0] at hx4
 have HB0:=hide hB0;have L0:=hide L0
 clear hB0
 have X4:=hide hx4
 have Hm:=hide hm
 have Her:=hide hR.en
 have Hb1:=hide hb1
 have HR0:=hide hR;have HN0:=hide hN
 clear hm hR hN hx4 ew1 hb1
 go_enter Tryz.func48,Tryz.ntmps48
 go_upto_region 1 with fail
 rw[ew1'.out,e4.out]
 clear ew1'
 go_step3
 by_cases h8:8 < m
 ·have Hf:=hide (show rentsOk ns rs=false by unfold rentsOk;rw[decide_eq_false (by have:=Hm.out;omega)];rfl)
  go_wp2_with (first | (refine wpList_load_mid rfl 139 _ rfl b4 0 rfl B0.cells _ X4.out.at_.range Tryz.underlying139 rfl (bo_size L0.out) ?_) | (refine wpList_store_mid rfl 139 _ _ rfl b4 0 B0.cells.toArray rfl rfl (bo_there X4.out) (bo_sizeA L0.out) (all_oneCell_toArray B0.one) ?_))
  try rw[Exit.noGoto_ret]
  refine bodyPost_ret (results_bo2 rfl _ _ b4 B0 L0.out rfl (at_setCells X4.out rfl)) rfl ?_
  exact⟨B0,L0.out.1,L0.out.2,(by rw[Hf.out];first | rfl | (simp;omega) | simp),(fun h=>absurd h (by rw[Hf.out];decide)),below_setCells hb4g B0.cells 0 _ Hb1.out⟩
 have hm8:m≤8:=by omega
 by_cases h8r:8 < r
 ·have Hf:=hide (show rentsOk ns rs=false by unfold rentsOk;rw[decide_eq_false (p:=rs.length≤8) (by have:=Her.out;omega),Bool.false_and,Bool.and_false])
  go_wp2_with (first | (refine wpList_load_mid rfl 139 _ rfl b4 0 rfl B0.cells _ X4.out.at_.range Tryz.underlying139 rfl (bo_size L0.out) ?_) | (refine wpList_store_mid rfl 139 _ _ rfl b4 0 B0.cells.toArray rfl rfl (bo_there X4.out) (bo_sizeA L0.out) (all_oneCell_toArray B0.one) ?_))
  try rw[Exit.noGoto_ret]
  refine bodyPost_ret (results_bo2 rfl _ _ b4 B0 L0.out rfl (at_setCells X4.out rfl)) rfl ?_
  exact⟨B0,L0.out.1,L0.out.2,(by rw[Hf.out];first | rfl | (simp;omega) | simp),(fun h=>absurd h (by rw[Hf.out];decide)),below_setCells hb4g B0.cells 0 _ Hb1.out⟩
 have hr8:r≤8:=by omega
 go_wp2_with fail
 refine(salt_from 0 23040 A1 ns m c1 w1 Hm.out (by omega) N1.out).mono ?_
 rintro e w2 ⟨rfl,hb2⟩
 have hB2:=Hb1.out.trans (hb2.mono Hb1.out.size)
 have HB2:=hide hB2;have Hb2:=hide hb2
 have X42:=hide (X4.out.bel hb2)
 have Hrok:Hid (rentsOk ns rs=(!(anyOut 0 23040 ns) && rentTo ns.length rs rs.length)):=hide (by unfold rentsOk;rw[decide_eq_true (p:=ns.length≤8) (by have:=Hm.out;omega),decide_eq_true (p:=rs.length≤8) (by have:=Her.out;omega),Bool.true_and,Bool.true_and])
 clear hb2 hB2 h8 h8r
 cases hao:anyOut 0 23040 ns
 rotate_left
 ·have Hf:=hide (show rentsOk ns rs=false by rw[Hrok.out,hao];rfl)
  clear hao
  go_wp2_with (first | (refine wpList_load_mid rfl 139 _ rfl b4 0 rfl B0.cells _ X42.out.at_.range Tryz.underlying139 rfl (bo_size L0.out) ?_) | (refine wpList_store_mid rfl 139 _ _ rfl b4 0 B0.cells.toArray rfl rfl (bo_there X42.out) (bo_sizeA L0.out) (all_oneCell_toArray B0.one) ?_))
  try rw[Exit.noGoto_ret]
  refine bodyPost_ret (results_bo2 rfl _ _ b4 B0 L0.out rfl (at_setCells X42.out rfl)) rfl ?_
  exact⟨B0,L0.out.1,L0.out.2,(by rw[Hf.out];first | rfl | (simp;omega) | simp),(fun h=>absurd h (by rw[Hf.out];decide)),below_setCells hb4g B0.cells 0 _ HB2.out⟩
 rw[hao,Bool.not_false,Bool.true_and] at Hrok
 have Hns:=hide (show ∀x∈ns,0≤x∧x≤23040 by
  intro x hx
  have h:=List.any_eq_false.1 hao x hx
  simp[outB] at h
  omega)
 have N2:=hide (N1.out.bel Hb2.out);have R2:=hide (R1.out.bel Hb2.out)
 clear hao
 go_wp2_with fail
 refine(clone_any A1 m c1 ns w2 N2.out Hm.out (by omega)).mono ?_
 rintro e w3 ⟨v,rfl,ho,hb3⟩
 have z0:=(X42.out.bel hb3).at_.2 0 _ rfl
 have f0:=(X42.out.bel hb3).fz 0
 obtain⟨An,cn,rfl,_⟩:=ho.rdn m Hm.out.symm
 have HO:=hide ho
 have X43:=X42.out.bel hb3
 have R3:=hide (R2.out.bel hb3)
 have hB3:=HB2.out.trans (hb3.mono HB2.out.size)
 have hbl:=X42.out.lt
 clear ho
 go_upto_region 4 with fail
 have X44:=X43.set (j:=0) (.slice An m cn) (by rw[Brs.len18 L0.out];omega)
 rw[Brs.set_n] at X44
 have k34:Kept (fun x=>x≠b4) w3 (w3.setCell ⟨b4,0,none⟩ (.slice An m cn)):=Kept.setCell w3 ⟨b4,0,none⟩ _
 have hB4:=hB3.setCell (p:=⟨b4,0,none⟩) hb4g (.slice An m cn)
 obtain⟨w4,hw4⟩:∃w4,Hid (w3.setCell ⟨b4,0,none⟩ (.slice An m cn)=w4):=⟨_,hide rfl⟩
 rw[hw4.out] at X44 k34 hB4 ⊢
 have O4:=hide (own_kept HO.out k34 (by omega))
 have hs34:=k34.size
 have hbase:w2.heap.size≤w4.heap.size:=Nat.le_trans hb3.size hs34
 have hgb:∀g,(Value.slice An m cn).ownBlock=some g→g < w4.heap.size∧g≠b4:=fun g hg=>by
  have h:=O4.out.blockG hg
  exact⟨h.2,by have:=h.1;omega⟩
 have HG:=hide hgb
 have hb44:b4 < w4.heap.size:=by omega
 have X4K:Hid (Bx w4 b4 (boK An m cn none 0 0 (hsTo rs 0) (ssTo rs 0)).cells):=by rw[HB0.out] at X44;exact hide X44
 clear hgb X43 z0 f0 X44 k34 hb3 hB3 hs34
 have HB4:=hide hB4
 clear hB4
 go_wp2_with fail
 go_step3
 go_wp2_with fail
 have hwb:w.heap.size≤w4.heap.size:=HB4.out.size
 go_loopw [5,6,30] (fun isv lv iv wr=>∃(k:Nat) (Ap:Option Addr) (cp:Nat),k≤r∧isv= .bool true∧lv= .int .i64 (leftTo rs k)∧iv= .int .i64 k∧Hid (rentTo ns.length rs k=true)∧Hid (Bx wr b4 (boK An m cn Ap k cp (hsTo rs k) (ssTo rs k)).cells)∧Hid (Own wr w4.heap.size 3 1 icell (.slice Ap k cp) ((rs.map Rr.pr).take k))∧Kept (fun b=>b < w4.heap.size∧b≠b4) w4 wr) (fun _ _ iv _=>r-(intOf iv).toNat)
 case atStart=>exact⟨0,none,0,by omega,rfl,rfl,rfl,hide rfl,X4K,hide (Own.nil _ _ _ _ _),Kept.refl _ _⟩
 case round=>
  obtain⟨k,Ap,cp,hk,rfl,rfl,rfl,HT,HX,HP,hKw⟩:=hrel
  have hBw:=HB4.out.trans (hKw.below (fun b hb=>⟨by omega,by omega⟩) hwb)
  have lenK:∀k,(boK An m cn Ap k cp (hsTo rs k) (ssTo rs k)).hs.length=8∧(boK An m cn Ap k cp (hsTo rs k) (ssTo rs k)).ss.length=8:=fun k=>⟨hsTo_len rs k,ssTo_len rs k⟩
  by_cases hlt:k < r
  ·obtain⟨b7,off,q,hA,hql,hqx,c0,c1',c2'⟩:=(HR0.out.bel hBw).rd.rr (i:=k) (by rw[←Her.out];exact hlt)
   obtain⟨b8,w5,e8,ew5,hx8,hb5,hz5⟩:=mk_bx wr #[.int .i64 q.mi,.int .i64 q.pr,.slice q.A q.n q.c] 65
   have hlb:=leftTo_bd HT.out
   have Hqx:=hide hqx
   have hmi:miAt rs k=q.mi:=by unfold miAt;rw[hqx];rfl
   have hpr:prAt rs k=q.pr:=by unfold prAt;rw[hqx];rfl
   have hfs:fsAt rs k=q.fs:=by unfold fsAt;rw[hqx];rfl
   have Hnext:Hid (rentTo ns.length rs (k+1)=(inB 0 (leftTo rs k) q.mi && (inB 0 100000 q.pr && fldOk ns.length q.fs))):=by rw[rentTo,HT.out,hmi,hpr,hfs,Bool.true_and];exact hide rfl
   have Hleft:Hid (leftTo rs (k+1)=leftTo rs k-q.mi):=by rw[leftTo,hmi];exact hide rfl
   have Hhs:Hid (hsTo rs (k+1)=(hsTo rs k).set k q.mi):=by rw[hsTo,hmi];exact hide rfl
   have Hss:Hid (ssTo rs (k+1)=(ssTo rs k).set k (bitsF q.fs)):=by rw[ssTo,hfs];exact hide rfl
   have Hbad:∀h:rentTo ns.length rs (k+1)=false,rentsOk ns rs=false:=fun h=>by
    rw[Hrok.out]
    cases hh:rentTo ns.length rs rs.length
    ·rfl
    ·rw[rentTo_le hh (by have:=Her.out;omega)] at h;cases h
   obtain⟨lf,hlf⟩:∃lf,lf=leftTo rs k:=⟨_,rfl⟩
   rw[←hlf] at hlb Hnext Hleft ⊢
   have HBw:=hide hBw
   have X5:=hide (HX.out.bel hb5)
   have X8:=hide hx8
   have ik:(k:Int) < (r:Int):=by omega
   have HPg:Hid (∀g,(Value.slice Ap k cp).ownBlock=some g→w4.heap.size≤g∧g < b8):=hide fun g hg=>by
    have h:=HP.out.blockG hg
    have h2:=e8.out
    exact⟨h.1,by omega⟩
   have Hrow:=hide (HR0.out.row q (List.mem_of_getElem? hqx))
   rw[hA]
   clear hqx hmi hpr hfs hA hBw hlf
   go_upto_region 8 with fail
   rw[ew5.out,e8.out]
   clear c0 c1' c2'
   obtain⟨y0,y1,y2⟩:=X8.out.at_.c3
   go_wp2_with fail
   refine(salt_from_one 0 lf q.mi w5 (b8+1) hz5.symm).mono ?_
   rintro e w6 ⟨rfl,hb6⟩
   have hB5:=HBw.out.trans (hb5.mono HBw.out.size)
   have hB6:=hide (hB5.trans (hb6.mono hB5.size))
   have X6:=hide (X5.out.bel hb6)
   clear y0 y1 y2
   have lenk:=lenK k
   cases hi1:inB 0 lf q.mi
   ·have Hf:=hide (Hbad (by rw[Hnext.out,hi1];rfl))
    clear hi1
    obtain⟨Bk,hBk⟩:∃Bk,Bk=boK An m cn Ap k cp (hsTo rs k) (ssTo rs k):=⟨_,rfl⟩
    rw[←hBk] at X6 lenk
    have Lk:=hide lenk
    clear hBk
    go_wp2_with (first | (refine wpList_load_mid rfl 139 _ rfl b4 0 rfl Bk.cells _ X6.out.at_.range Tryz.underlying139 rfl (bo_size Lk.out) ?_) | (refine wpList_store_mid rfl 139 _ _ rfl b4 0 Bk.cells.toArray rfl rfl (bo_there X6.out) (bo_sizeA Lk.out) (all_oneCell_toArray Bk.one) ?_))
    try rw[Exit.noGoto_ret]
    refine bodyPost_ret (results_bo2 rfl _ _ b4 Bk Lk.out rfl (at_setCells X6.out rfl)) rfl ?_
    exact⟨Bk,Lk.out.1,Lk.out.2,(by rw[Hf.out];first | rfl | (simp;omega) | simp),(fun h=>absurd h (by rw[Hf.out];decide)),below_setCells hb4g Bk.cells 0 _ hB6.out⟩
   rw[hi1,Bool.true_and] at Hnext
   have hmib:0≤q.mi∧q.mi≤lf:=by simp[inB] at hi1;omega
   clear hi1
   obtain⟨y0,y1,y2⟩:=(X8.out.bel hb6).at_.c3
   go_wp2_with fail
   refine(salt_from_one 0 100000 q.pr w6 _ rfl).mono ?_
   rintro e w7 ⟨rfl,hb7⟩
   have hB7:=hide (hB6.out.trans (hb7.mono hB6.out.size))
   have X7:=hide (X6.out.bel hb7)
   clear y0 y1 y2
   cases hi2:inB 0 100000 q.pr
   ·have Hf:=hide (Hbad (by rw[Hnext.out,hi2];rfl))
    clear hi2
    obtain⟨Bk,hBk⟩:∃Bk,Bk=boK An m cn Ap k cp (hsTo rs k) (ssTo rs k):=⟨_,rfl⟩
    rw[←hBk] at X7 lenk
    have Lk:=hide lenk
    clear hBk
    go_wp2_with (first | (refine wpList_load_mid rfl 139 _ rfl b4 0 rfl Bk.cells _ X7.out.at_.range Tryz.underlying139 rfl (bo_size Lk.out) ?_) | (refine wpList_store_mid rfl 139 _ _ rfl b4 0 Bk.cells.toArray rfl rfl (bo_there X7.out) (bo_sizeA Lk.out) (all_oneCell_toArray Bk.one) ?_))
    try rw[Exit.noGoto_ret]
    refine bodyPost_ret (results_bo2 rfl _ _ b4 Bk Lk.out rfl (at_setCells X7.out rfl)) rfl ?_
    exact⟨Bk,Lk.out.1,Lk.out.2,(by rw[Hf.out];first | rfl | (simp;omega) | simp),(fun h=>absurd h (by rw[Hf.out];decide)),below_setCells hb4g Bk.cells 0 _ hB7.out⟩
   rw[hi2,Bool.true_and] at Hnext
   have hprb:0≤q.pr∧q.pr≤100000:=by simp[inB] at hi2;omega
   clear hi2
   have X87:=(X8.out.bel hb6).bel hb7
   obtain⟨y0,y1,y2⟩:=X87.at_.c3
   have k8:k < 8:=by omega
   have z1:=X7.out.at_.2 (1+k) _ (Brs.get_h lenk k8)
   have f1:=X7.out.fz (1+k)
   have hw:IntKind.i64.wrap (lf-q.mi)=lf-q.mi:=wrapI (by omega)
   have i8:(k:Int) < 8:=by omega
   go_upto_region 12 with fail
   have X8a:=X7.out.set (j:=1+k) (.int .i64 q.mi) (by rw[Brs.len18 lenk];omega)
   rw[Brs.set_h lenk.1 k8] at X8a
   change Bx _ b4 ((boK An m cn Ap k cp (hsTo rs k) (ssTo rs k)).wh ((hsTo rs k).set k q.mi)).cells at X8a
   have P7:=((HP.out.bel hb5).bel hb6).bel hb7
   have k78:Kept (fun x=>x≠b4) w7 (w7.setCell ⟨b4,1+k,none⟩ (.int .i64 q.mi)):=Kept.setCell w7 ⟨b4,1+k,none⟩ _
   have P8:=own_kept P7 k78 hb44
   have kw7:Kept (fun b=>b < w4.heap.size∧b≠b4) w4 w7:=(((hKw.trans (Kept.all _ hb5)).trans (Kept.all _ hb6)).trans (Kept.all _ hb7))
   have kw8:=kw7.trans (k78.mono fun b _ h=>h.2)
   have hB8:=hB7.out.setCell (p:=⟨b4,1+k,none⟩) hb4g (.int .i64 q.mi)
   have hb8l:=X87.lt
   have hb84:b8≠b4:=by
    have h1:=e8.out
    have h2:=HX.out.lt
    omega
   have X88:=X87.kept k78 hb84
   have hb8g:w4.heap.size≤b8:=by have h1:=e8.out;have h2:=hKw.size;omega
   obtain⟨w8,hw8⟩:∃w8,Hid (w7.setCell ⟨b4,1+k,none⟩ (.int .i64 q.mi)=w8):=⟨_,hide rfl⟩
   rw[hw8.out] at X8a k78 P8 kw8 hB8 X88 ⊢
   clear y0 y1 y2 z1 f1 hw P7 kw7 X87
   obtain⟨y0,y1,y2⟩:=X88.at_.c3
   have len8:((boK An m cn Ap k cp (hsTo rs k) (ssTo rs k)).wh ((hsTo rs k).set k q.mi)).hs.length=8∧((boK An m cn Ap k cp (hsTo rs k) (ssTo rs k)).wh ((hsTo rs k).set k q.mi)).ss.length=8:=⟨by show((hsTo rs k).set k q.mi).length=8;rw[List.length_set];exact hsTo_len rs k,ssTo_len rs k⟩
   have z17:w8.cell? ⟨b4,17,none⟩=some (.slice Ap k cp):=X8a.at_.2 17 _ (Brs.get_r len8)
   have P8h:=hide P8;have X8h:=hide X8a;have L8:=hide len8;have Kw8:=hide kw8;have HB8:=hide hB8;have X88h:=hide X88
   have hs8:w4.heap.size≤w8.heap.size:=kw8.size
   clear P8 X8a len8 kw8 hB8 X88
   go_upto_region 13 with(at_builtin;refine wpList_app1k (v:= .slice Ap k cp) (xs:=(rs.map Rr.pr).take k) (base:=w4.heap.size) (k:=1) (bytes:=8) (E:=3) el_int rfl (.tmp 59) (.tmp 62) rfl rfl rfl P8h.out q.pr rfl (by rw[List.length_take];omega) hs8 ?_;intro v' w10 o10 k10;obtain⟨Ap',cp',rfl,_⟩:=o10.rdn (k+1) (by rw[List.length_append,List.length_take,List.length_map];have:=Her.out;simp;omega);have z17':=(X8h.out.kept k10 (fun e=>by have:=(HPg.out b4 e).1;omega)).at_.2 17 _ (Brs.get_r L8.out);have f17':=(X8h.out.kept k10 (fun e=>by have:=(HPg.out b4 e).1;omega)).fz 17;have O10:=hide o10;have K10:=hide k10;clear o10 k10)
   have X10:=X8h.out.kept K10.out (fun e=>by have:=(HPg.out b4 e).1;omega)
   have X11:=X10.set (j:=17) (.slice Ap' (k+1) cp') (by rw[Brs.len18 L8.out];omega)
   rw[Brs.set_r L8.out] at X11
   have k1011:Kept (fun x=>x≠b4) w10 (w10.setCell ⟨b4,17,none⟩ (.slice Ap' (k+1) cp')):=Kept.setCell w10 ⟨b4,17,none⟩ _
   have P11:=own_kept O10.out k1011 hb44
   have kw11:=(Kw8.out.trans (K10.out.mono fun b _ h e=>by have:=(HPg.out b e).1;omega)).trans (k1011.mono fun b _ h=>h.2)
   obtain⟨w11,hw11⟩:∃w11,Hid (w10.setCell ⟨b4,17,none⟩ (.slice Ap' (k+1) cp')=w11):=⟨_,hide rfl⟩
   rw[hw11.out] at X11 k1011 P11 kw11 ⊢
   have hBw11:=hide (HB4.out.trans (kw11.below (fun b hb=>⟨by omega,by omega⟩) hwb))
   have X8w:Bx w11 b8 [.int .i64 q.mi,.int .i64 q.pr,.slice q.A q.n q.c]:=(X88h.out.kept K10.out (fun e=>by have:=(HPg.out b8 e).2;omega)).kept k1011 hb84
   have XB0:Hid (Bx w11 b4 (boK An m cn Ap' (k+1) cp' (hsTo rs (k+1)) ((ssTo rs k).set k (bitsTo q.fs 0))).cells):=by
    rw[Hhs.out,show bitsTo q.fs 0=0 from rfl,set_same0 (ssTo_out rs k k (Nat.le_refl _))]
    exact hide X11
   have P11h:=hide P11;have Kw11:=hide kw11;have X8wh:=hide X8w
   have y2:=X8w.at_.c3.2.2
   clear z17' f17' X10 X11 k1011 P11 kw11 X8w y0 y1
   have hqn:=Hrow.out.1
   have hqn2:=Hrow.out.2.1
   obtain⟨n,hn⟩:∃n,n=q.n:=⟨_,rfl⟩
   rw[←hn] at hqn hqn2 y2
   have Hqn:=hide hqn;have Hn:=hide hn
   clear hqn hn
   go_wp2_with fail
   have Lb:Hid (∀s,(boK An m cn Ap' (k+1) cp' (hsTo rs (k+1)) ((ssTo rs k).set k s)).hs.length=8∧(boK An m cn Ap' (k+1) cp' (hsTo rs (k+1)) ((ssTo rs k).set k s)).ss.length=8):=hide fun s=>⟨hsTo_len rs (k+1),by show((ssTo rs k).set k s).length=8;rw[List.length_set];exact ssTo_len rs k⟩
   have hm8n:ns.length≤8:=by have:=Hm.out;omega
   clear y2
   go_loopw [5,68] (fun isv jv wr=>∃j:Nat,j≤n∧isv= .bool true∧jv= .int .i64 j∧Hid (fldTo ns.length q.fs j=true)∧Hid (Bx wr b4 (boK An m cn Ap' (k+1) cp' (hsTo rs (k+1)) ((ssTo rs k).set k (bitsTo q.fs j))).cells)∧Kept (fun b=>b≠b4) w11 wr) (fun _ jv _=>n-(intOf jv).toNat)
   case atStart=>exact⟨0,by omega,rfl,rfl,hide rfl,XB0,Kept.refl _ _⟩
   case round=>
    obtain⟨j,hj,rfl,rfl,HTj,HXj,hK2⟩:=hrel
    have hBr:=hBw11.out.trans (hK2.below (fun b hb=>by omega) hBw11.out.size)
    by_cases hjn:j < n
    ·obtain⟨bf,of,f,hAf,hlf,hxf,cf⟩:=(Hrow.out.2.2.bel hBr).int (i:=j) (by rw[←Hqn.out];exact hjn)
     have hfa:fAt q.fs j=f:=by unfold fAt;rw[List.getD_eq_getElem?_getD,hxf];rfl
     have Hfa:=hide hfa
     have HnextF:Hid (fldTo ns.length q.fs (j+1)=(inB 0 ((m:Int)-1) f && (decide (j=0) || decide (fAt q.fs (j-1) < f)))):=by rw[fldTo,HTj.out,hfa,Hm.out,Bool.true_and];exact hide rfl
     have HbadF:Hid (fldTo ns.length q.fs (j+1)=false→rentsOk ns rs=false):=hide fun h=>Hbad (by
      rw[Hnext.out]
      cases hh:fldOk ns.length q.fs
      ·rfl
      ·rw[fldTo_le (j:=j+1) hh (by rw[←Hqn.out];omega)] at h;cases h)
     have X8r:=(X8wh.out.kept hK2 hb84)
     have HBr:=hide hBr
     have ij:(j:Int) < (n:Int):=by omega
     have hwm:IntKind.i64.wrap ((m:Int)-1)=(m:Int)-1:=wrapI (by omega)
     have y2:wr.cell? ⟨b8,2,none⟩=some (.slice (some ⟨bf,of,none⟩) n q.c):=by rw[X8r.at_.c3.2.2,hAf,Hn.out]
     rw[hAf]
     clear hfa hBr hxf
     go_wp2_with fail
     refine(salt_from_one 0 ((m:Int)-1) f wr _ rfl).mono ?_
     rintro e w12 ⟨rfl,hb12⟩
     have X12:=hide (HXj.out.bel hb12)
     have hB12:=hide (HBr.out.trans (hb12.mono HBr.out.size))
     have lb:=Lb.out (bitsTo q.fs j)
     cases hif:inB 0 ((m:Int)-1) f
     ·have Hf:=hide (HbadF.out (by rw[HnextF.out,hif];rfl))
      clear hif
      obtain⟨Bk,hBk⟩:∃Bk,Bk=boK An m cn Ap' (k+1) cp' (hsTo rs (k+1)) ((ssTo rs k).set k (bitsTo q.fs j)):=⟨_,rfl⟩
      rw[←hBk] at X12 lb
      have Lk:=hide lb
      clear hBk cf
      go_wp2_with (first | (refine wpList_load_mid rfl 139 _ rfl b4 0 rfl Bk.cells _ X12.out.at_.range Tryz.underlying139 rfl (bo_size Lk.out) ?_) | (refine wpList_store_mid rfl 139 _ _ rfl b4 0 Bk.cells.toArray rfl rfl (bo_there X12.out) (bo_sizeA Lk.out) (all_oneCell_toArray Bk.one) ?_))
      try rw[Exit.noGoto_ret]
      refine bodyPost_ret (results_bo2 rfl _ _ b4 Bk Lk.out rfl (at_setCells X12.out rfl)) rfl ?_
      exact⟨Bk,Lk.out.1,Lk.out.2,(by rw[Hf.out];first | rfl | (simp;omega) | simp),(fun h=>absurd h (by rw[Hf.out];decide)),below_setCells hb4g Bk.cells 0 _ hB12.out⟩
     rw[hif,Bool.true_and] at HnextF
     obtain⟨fn,rfl⟩:∃fn:Nat,f=fn:=⟨f.toNat,by simp[inB] at hif;omega⟩
     have hfn:fn < 8:=by simp[inB] at hif;omega
     clear hif
     have Hk12:=hide (hK2.trans (Kept.all (fun b=>b≠b4) hb12))
     by_cases hj0:j=0
     ·have HTn:Hid (fldTo ns.length q.fs (j+1)=true):=by rw[HnextF.out,decide_eq_true hj0];exact hide rfl
      have hj0b:((j:Int) == 0)=true:=by simp[hj0]
      clear hj0
      have hs256:=bitsTo_lt hm8n HTj.out
      have hgs:((ssTo rs k).set k (bitsTo q.fs j)).getD k 0=bitsTo q.fs j:=by rw[List.getD_eq_getElem?_getD,List.getElem?_set_self (by rw[ssTo_len];exact k8)];rfl
      have zs:=X12.out.at_.2 (9+k) _ (Brs.get_s (Lb.out _) k8)
      have zs2:w12.cell? ⟨b4,9+k,none⟩=some (.int .i64 ((bitsTo q.fs j:Nat):Int)):=by rw[zs];show some (Value.int .i64 ((((ssTo rs k).set k (bitsTo q.fs j)).getD k 0:Nat):Int))=_;rw[hgs]
      have fz:=X12.out.fz (9+k)
      clear zs hgs
      have HZ:=hide hs256
      clear hs256
      go_wp2_with fail
      go_region
      have hval:bits BinOp.or IntKind.i64 ((bitsTo q.fs j:Nat):Int) (wrap64 (2 ^ fn))=((bitsTo q.fs (j+1):Nat):Int):=by rw[or_step HZ.out hfn,bitsTo,Hfa.out];rfl
      rw[hval]
      have XN:Bx ((w12.setCell ⟨b4,9+k,none⟩ (.int .i64 ((bitsTo q.fs (j+1):Nat):Int))).drew) b4 (boK An m cn Ap' (k+1) cp' (hsTo rs (k+1)) ((ssTo rs k).set k (bitsTo q.fs (j+1)))).cells:=by
       have h:=(X12.out.set (j:=9+k) (.int .i64 ((bitsTo q.fs (j+1):Nat):Int)) (by rw[Brs.len18 (Lb.out _)];omega)).drew
       rw[Brs.set_s (Lb.out _) k8] at h
       have e:(boK An m cn Ap' (k+1) cp' (hsTo rs (k+1)) ((ssTo rs k).set k (bitsTo q.fs j))).ws (((ssTo rs k).set k (bitsTo q.fs j)).set k (bitsTo q.fs (j+1)))=boK An m cn Ap' (k+1) cp' (hsTo rs (k+1)) ((ssTo rs k).set k (bitsTo q.fs (j+1))):=by unfold Brs.ws boK;rw[List.set_set]
       rw[←e];exact h
      have KN:=(Hk12.out.trans (Kept.setCell w12 ⟨b4,9+k,none⟩ (.int .i64 ((bitsTo q.fs (j+1):Nat):Int)))).trans (Kept.drew _ _ 1)
      have XNh:=hide XN;have KNh:=hide KN
      clear hval XN KN zs2 fz
      go_wp2_with fail
      exact⟨⟨j+1,by omega,rfl,by go_num,HTn,XNh,KNh.out⟩,by simp[intOf];omega⟩
     ·have hj0b:((j:Int) == 0)=false:=by simp[hj0]
      obtain⟨bg,og,e,hAg,hlg,hxg,cg⟩:=(Hrow.out.2.2.bel hB12.out).int (i:=j-1) (by rw[←Hqn.out];omega)
      obtain⟨rfl,rfl⟩:bg=bf∧og=of:=by
       rw[hAf] at hAg
       injection hAg with h
       injection h with h1 h2
       exact⟨h1.symm,h2.symm⟩
      have hfe:fAt q.fs (j-1)=e:=by unfold fAt;rw[List.getD_eq_getElem?_getD,hxg];rfl
      rw[hfe,decide_eq_false hj0,Bool.false_or] at HnextF
      have y2b:w12.cell? ⟨b8,2,none⟩=some (.slice (some ⟨bg,og,none⟩) n q.c):=by rw[((X8wh.out.kept Hk12.out hb84).at_.c3.2.2),hAg,Hn.out]
      obtain⟨j1,hj1⟩:∃j1,j1=j-1:=⟨_,rfl⟩
      have hwj:IntKind.i64.wrap ((j:Int)-1)=(j1:Int):=by rw[wrapI (by omega)];omega
      have ij1:(j1:Int) < (n:Int):=by omega
      rw[←hj1] at cg
      clear hj0 hj1 hfe hxg hAg hlg
      by_cases hef:e < (fn:Int)
      ·have HTn:Hid (fldTo ns.length q.fs (j+1)=true):=by rw[HnextF.out,decide_eq_true hef];exact hide rfl
       have hs256:=bitsTo_lt hm8n HTj.out
       have hgs:((ssTo rs k).set k (bitsTo q.fs j)).getD k 0=bitsTo q.fs j:=by rw[List.getD_eq_getElem?_getD,List.getElem?_set_self (by rw[ssTo_len];exact k8)];rfl
       have zs:=X12.out.at_.2 (9+k) _ (Brs.get_s (Lb.out _) k8)
       have zs2:w12.cell? ⟨b4,9+k,none⟩=some (.int .i64 ((bitsTo q.fs j:Nat):Int)):=by rw[zs];show some (Value.int .i64 ((((ssTo rs k).set k (bitsTo q.fs j)).getD k 0:Nat):Int))=_;rw[hgs]
       have fz:=X12.out.fz (9+k)
       clear zs hgs
       have HZ:=hide hs256
       clear hs256
       go_wp2_with fail
       go_region
       have hval:bits BinOp.or IntKind.i64 ((bitsTo q.fs j:Nat):Int) (wrap64 (2 ^ fn))=((bitsTo q.fs (j+1):Nat):Int):=by rw[or_step HZ.out hfn,bitsTo,Hfa.out];rfl
       rw[hval]
       have XN:Bx ((w12.setCell ⟨b4,9+k,none⟩ (.int .i64 ((bitsTo q.fs (j+1):Nat):Int))).drew) b4 (boK An m cn Ap' (k+1) cp' (hsTo rs (k+1)) ((ssTo rs k).set k (bitsTo q.fs (j+1)))).cells:=by
        have h:=(X12.out.set (j:=9+k) (.int .i64 ((bitsTo q.fs (j+1):Nat):Int)) (by rw[Brs.len18 (Lb.out _)];omega)).drew
        rw[Brs.set_s (Lb.out _) k8] at h
        have e:(boK An m cn Ap' (k+1) cp' (hsTo rs (k+1)) ((ssTo rs k).set k (bitsTo q.fs j))).ws (((ssTo rs k).set k (bitsTo q.fs j)).set k (bitsTo q.fs (j+1)))=boK An m cn Ap' (k+1) cp' (hsTo rs (k+1)) ((ssTo rs k).set k (bitsTo q.fs (j+1))):=by unfold Brs.ws boK;rw[List.set_set]
        rw[←e];exact h
       have KN:=(Hk12.out.trans (Kept.setCell w12 ⟨b4,9+k,none⟩ (.int .i64 ((bitsTo q.fs (j+1):Nat):Int)))).trans (Kept.drew _ _ 1)
       have XNh:=hide XN;have KNh:=hide KN
       clear hval XN KN zs2 fz
       go_wp2_with fail
       exact⟨⟨j+1,by omega,rfl,by go_num,HTn,XNh,KNh.out⟩,by simp[intOf];omega⟩
      ·have Hf:=hide (HbadF.out (by rw[HnextF.out,decide_eq_false hef]))
       obtain⟨Bk,hBk⟩:∃Bk,Bk=boK An m cn Ap' (k+1) cp' (hsTo rs (k+1)) ((ssTo rs k).set k (bitsTo q.fs j)):=⟨_,rfl⟩
       rw[←hBk] at X12 lb
       have Lk:=hide lb
       clear hBk cf
       go_wp2_with (first | (refine wpList_load_mid rfl 139 _ rfl b4 0 rfl Bk.cells _ X12.out.at_.range Tryz.underlying139 rfl (bo_size Lk.out) ?_) | (refine wpList_store_mid rfl 139 _ _ rfl b4 0 Bk.cells.toArray rfl rfl (bo_there X12.out) (bo_sizeA Lk.out) (all_oneCell_toArray Bk.one) ?_))
       try rw[Exit.noGoto_ret]
       refine bodyPost_ret (results_bo2 rfl _ _ b4 Bk Lk.out rfl (at_setCells X12.out rfl)) rfl ?_
       exact⟨Bk,Lk.out.1,Lk.out.2,(by rw[Hf.out];first | rfl | (simp;omega) | simp),(fun h=>absurd h (by rw[Hf.out];decide)),below_setCells hb4g Bk.cells 0 _ hB12.out⟩
       all_goals(exfalso;rename_i hh;simp at hh;omega)
    ·obtain rfl:n=j:=by omega
     have HTk:Hid (rentTo ns.length rs (k+1)=true):=by rw[Hnext.out,fldOk,←Hqn.out,HTj.out];exact hide rfl
     have XK:Hid (Bx wr b4 (boK An m cn Ap' (k+1) cp' (hsTo rs (k+1)) (ssTo rs (k+1))).cells):=by rw[Hss.out,bitsF,←Hqn.out];exact HXj
     have PK:Hid (Own wr w4.heap.size 3 1 icell (.slice Ap' (k+1) cp') ((rs.map Rr.pr).take (k+1))):=by
      rw[take_snoc (x:=q.pr) (by rw[List.getElem?_map,Hqx.out];rfl)]
      exact hide (own_kept P11h.out hK2 hb44)
     have KK:=hide (Kw11.out.trans (hK2.mono fun b _ h=>h.2))
     go_wp2_with fail
     exact⟨⟨k+1,Ap',cp',by omega,rfl,by rw[Hleft.out],by go_num,HTk,XK,PK,KK.out⟩,by simp[intOf];omega⟩
  ·obtain rfl:r=k:=by omega
   have lenk:=lenK r
   have Hf:=hide (show rentsOk ns rs=true by rw[Hrok.out,←Her.out];exact HT.out)
   have hBw':=hide hBw
   obtain⟨Bk,hBk⟩:∃Bk,Bk=boK An m cn Ap r cp (hsTo rs r) (ssTo rs r):=⟨_,rfl⟩
   rw[←hBk] at HX lenk
   have Lk:=hide lenk
   have HBk:=hide hBk
   have hK9:=kept_setCells (p:=b4) Bk.cells 0 wr (Kept.refl _ wr)
   have hB9:=below_setCells hb4g Bk.cells 0 wr hBw
   have a9:=at_setCells HX.out (vs:=Bk.cells) rfl
   have HK9:=hide hK9;have HB9:=hide hB9;have A9:=hide a9
   clear hBk hK9 hB9 a9 hBw lenk
   go_wp2_with (first | (refine wpList_load_mid rfl 139 _ rfl b4 0 rfl Bk.cells _ HX.out.at_.range Tryz.underlying139 rfl (bo_size Lk.out) ?_) | (refine wpList_store_mid rfl 139 _ _ rfl b4 0 Bk.cells.toArray rfl rfl (bo_there HX.out) (bo_sizeA Lk.out) (all_oneCell_toArray Bk.one) ?_))
   try rw[Exit.noGoto_ret]
   refine bodyPost_ret (results_bo2 rfl _ _ b4 Bk Lk.out rfl A9.out) rfl ?_
   refine⟨Bk,Lk.out.1,Lk.out.2,by rw[Hf.out];first | rfl | simp,fun _=>⟨?_,by rw[HBk.out,←Her.out];rfl,by rw[HBk.out,←Her.out];rfl,by rw[HBk.out];rfl,by rw[HBk.out];rfl⟩,HB9.out⟩
   have hrt:=HT.out
   have hns8:ns.length≤8:=by have:=Hm.out;omega
   have kall:=hKw.trans (HK9.out.mono fun b _ h=>h.2)
   have o1:=(O4.out.keptG kall (fun g hg=>HG.out g hg)).rdn m Hm.out.symm
   have o2:=(own_kept HP.out HK9.out hb44).rdn r (by rw[List.length_take,List.length_map,←Her.out,Nat.min_self])
   obtain⟨A',c',e1,r1⟩:=o1
   obtain⟨A'',c'',e2,r2⟩:=o2
   injection e1 with e1 _ _
   injection e2 with e2 _ _
   rw[List.take_of_length_le (by rw[List.length_map,←Her.out];exact Nat.le_refl _)] at r2
   have eA:Bk.An=An:=by rw[HBk.out];rfl
   have eP:Bk.Ap=Ap:=by rw[HBk.out];rfl
   have eh:Bk.hs=hsTo rs r:=by rw[HBk.out];rfl
   have es:Bk.ss=ssTo rs r:=by rw[HBk.out];rfl
   have em:Bk.m=m:=by rw[HBk.out];rfl
   have er:Bk.r=r:=by rw[HBk.out];rfl
   refine⟨⟨hns8,Hns.out,fun x hx=>?_,fun x hx=>ssTo_ok hns8 hrt x (by rw[←es];exact hx),by rw[List.length_map,←Her.out];exact hr8,fun x hx=>?_⟩,by rw[eh];exact hsTo_len rs r,by rw[es];exact ssTo_len rs r,em.trans Hm.out,by rw[er,List.length_map];exact Her.out,by rw[eA,e1];exact r1,by rw[eP,e2];exact r2⟩
   ·have:=hsTo_ok hrt x (by rw[←eh];exact hx);omega
   ·obtain⟨y,hy,rfl⟩:=List.mem_map.1 hx
    obtain⟨i,hi,hiy⟩:=List.getElem_of_mem hy
    have h1:=rentTo_le (j:=i+1) hrt (by have:=Her.out;omega)
    rw[rentTo,Bool.and_eq_true,Bool.and_eq_true,Bool.and_eq_true] at h1
    have h2:=h1.2.2.1
    have h3:prAt rs i=y.pr:=by unfold prAt;rw[List.getElem?_eq_getElem hi,hiy];rfl
    rw[h3] at h2
    simp[inB] at h2
    omega
end Go.Proofs.YtiioegopckoldaaGreatDoor
namespace Go.Proofs.YtiioegopckoldaaGreatDoor
open Bo
def pickF (good:Nat→Bool):Nat→Nat
 | 0=>0
 | n+1=>if good (n+1) then n+1 else pickF good n
theorem pick_is {good:Nat→Bool} {r:Nat}:∀{M:Nat},r≤M→(∀x,x < r→good (x+1)=true)→(r < M→good (r+1)=false)→(∀x y,1≤x→x≤y→y≤M→good y=true→good x=true)→pickF good M=r
 | 0,h,_,_,_=>by unfold pickF;omega
 | M + 1, h, h1, h2, h3 => by
   unfold pickF
   by_cases hr:r=M+1
   ·rw[if_pos (h1' h1 hr)];exact hr.symm
   ·have hg:good (M+1)=false:=by
     cases hh:good (M+1)
     ·rfl
     ·have h4:=h3 (r+1) (M+1) (by omega) (by omega) (Nat.le_refl _) hh
      rw[h2 (by omega)] at h4;cases h4
    rw[hg,if_neg (by decide)]
    exact pick_is (by omega) h1 (fun _=>h2 (by omega)) (fun x y a b c=>h3 x y a b (by omega))
where h1' {good:Nat→Bool} {r M:Nat} (h1:∀x,x < r→good (x+1)=true) (hr:r=M+1):good (M+1)=true:=h1 M (by omega)
structure PSt where
 ns:List Int
 hs:List Int
 ss:List Nat
 left:Int
def goodN (pr:List Int) (i k:Nat) (st:PSt) (x:Nat):Bool:=goodF st.ns st.hs st.ss pr i k st.left (x:Int)
def topP (i k:Nat) (st:PSt):Nat:=(min (st.hs.getD i 0) (st.ns.getD k 0)).toNat
def giveP (pr:List Int) (i k:Nat) (st:PSt) (n:Int):PSt:=⟨st.ns.set k (st.ns.getD k 0-n),st.hs.set i (st.hs.getD i 0-n),st.ss.set i (st.ss.getD i 0 ^^^ 2 ^ k),st.left-n*pr.getD i 0⟩
def cellP (pr:List Int) (i k:Nat) (st:PSt):Int×PSt:=
 if(st.ss.getD i 0).testBit k then(((pickF (goodN pr i k st) (topP i k st):Nat):Int),giveP pr i k st (pickF (goodN pr i k st) (topP i k st):Nat)) else(0,st)
def rowP (pr:List Int) (i:Nat):Nat→PSt→List Int×PSt
 | 0,st=>([],st)
 | k+1,st=>((rowP pr i k st).1 ++ [(cellP pr i k (rowP pr i k st).2).1],(cellP pr i k (rowP pr i k st).2).2)
def planP (pr:List Int) (m:Nat):Nat→PSt→List (List Int)×PSt
 | 0,st=>([],st)
 | i+1,st=>((planP pr m i st).1 ++ [(rowP pr i m (planP pr m i st).2).1],(rowP pr i m (planP pr m i st).2).2)
def planF (ns:List Int) (rs:List Rr):List (List Int)×Int×Int:=
 if rentsOk ns rs then
  (if(costF ns (hsTo rs rs.length) (ssTo rs rs.length) (rs.map Rr.pr)).2 then
   ((planP (rs.map Rr.pr) ns.length rs.length ⟨ns,hsTo rs rs.length,ssTo rs rs.length,(costF ns (hsTo rs rs.length) (ssTo rs rs.length) (rs.map Rr.pr)).1⟩).1,(costF ns (hsTo rs rs.length) (ssTo rs rs.length) (rs.map Rr.pr)).1,0)
  else([],0,63))
 else([],0,62)
structure StOk (pr:List Int) (m c:Nat) (st:PSt):Prop where
 nl:st.ns.length=m
 m8:m≤8
 n:∀x∈st.ns,0≤x∧x≤23040
 hl:st.hs.length=8
 h:∀x∈st.hs,0≤x∧x≤23040
 sl:st.ss.length=8
 s:∀x∈st.ss,x < 256
 inv:Inv st.ns st.hs st.ss pr st.left
 lo: -(c*2304000000:Int)≤st.left
 hi:st.left≤160000000000
theorem testBit_clear {s k j:Nat} (hs:s.testBit k=true) (h:(s ^^^ 2 ^ k).testBit j=true):s.testBit j=true:=by
 rw[Nat.testBit_xor,Nat.testBit_two_pow] at h
 by_cases hj:k=j
 ·subst hj;exact hs
 ·rw[decide_eq_false hj] at h
  simpa using h
theorem pick_le {good:Nat→Bool}:∀M,pickF good M≤M
 | 0=>Nat.le_refl _
 | M+1=>by unfold pickF;split;exact Nat.le_refl _;have:=pick_le (good:=good) M;omega
theorem StOk.give {pr:List Int} {m c i k:Nat} {st:PSt} {n:Int} (h:StOk pr m c st) (hp:∀x∈pr,0≤x∧x≤100000) (hi:i < pr.length) (hi8:i < 8) (hp8:pr.length≤8) (hk:k < m) (hb:(st.ss.getD i 0).testBit k=true) (h0:0≤n) (hn:n≤st.ns.getD k 0) (hh:n≤st.hs.getD i 0):StOk pr m (c+1) (giveP pr i k st n):=by
 have hkb:=getD_mem (p:=fun x:Int=>0≤x∧x≤23040) (d:=0) h.n (by decide) k
 have hib:=getD_mem (p:=fun x:Int=>0≤x∧x≤23040) (d:=0) h.h (by decide) i
 have hpb:=getD_mem (p:=fun x:Int=>0≤x∧x≤100000) (d:=0) hp (by decide) i
 have hsb:=getD_mem (p:=fun x:Nat=>x < 256) (d:=0) h.s (by decide) i
 have hF:Fits st.hs pr:=⟨fun j _=>(getD_mem (p:=fun x:Int=>0≤x∧x≤100000) (d:=0) hp (by decide) j).1,fun j _=>(getD_mem (p:=fun x:Int=>0≤x∧x≤23040) (d:=0) h.h (by decide) j).1,by rw[h.hl];exact hp8⟩
 have hm1:0≤n*pr.getD i 0:=Int.mul_nonneg h0 hpb.1
 have hm2:n*pr.getD i 0≤2304000000:=by
  have h8:n*pr.getD i 0≤23040*pr.getD i 0:=Int.mul_le_mul_of_nonneg_right (by omega) hpb.1
  omega
 refine⟨by show(st.ns.set k _).length=m;rw[List.length_set];exact h.nl,h.m8,set_all h.n ⟨by omega,by omega⟩ k,by show(st.hs.set i _).length=8;rw[List.length_set];exact h.hl,set_all h.h ⟨by omega,by omega⟩ i,by show(st.ss.set i _).length=8;rw[List.length_set];exact h.sl,fun x hx=>?_,inv_next hF (by rw[h.nl];exact hk) hi (by rw[h.sl];exact hi8) hb (fun j hj=>testBit_clear hb hj) h.inv h0 hh,?_,?_⟩
 ·rcases List.mem_or_eq_of_mem_set (hx:x∈st.ss.set i _) with h1 | rfl
  ·exact h.s x h1
  ·exact Nat.xor_lt_two_pow (n:=8) hsb (Nat.pow_lt_pow_right (by omega) (by have:=h.m8;omega))
 ·show _≤st.left-n*pr.getD i 0
  have:=h.lo
  have e:(((c+1:Nat):Int))*2304000000=(c:Int)*2304000000+2304000000:=by rw[show((c+1:Nat):Int)=(c:Int)+1 from rfl,Int.add_mul,Int.one_mul]
  rw[e];omega
 ·show st.left-n*pr.getD i 0≤_
  have:=h.hi;omega
theorem StOk.more {pr:List Int} {m c:Nat} {st:PSt} (h:StOk pr m c st):StOk pr m (c+1) st:=⟨h.nl,h.m8,h.n,h.hl,h.h,h.sl,h.s,h.inv,by
 have:=h.lo
 have e:(((c+1:Nat):Int))*2304000000=(c:Int)*2304000000+2304000000:=by rw[show((c+1:Nat):Int)=(c:Int)+1 from rfl,Int.add_mul,Int.one_mul]
 rw[e];omega,h.hi⟩
theorem StOk.cell {pr:List Int} {m c i k:Nat} {st:PSt} (h:StOk pr m c st) (hp:∀x∈pr,0≤x∧x≤100000) (hi:i < pr.length) (hp8:pr.length≤8) (hk:k < m):StOk pr m (c+1) (cellP pr i k st).2:=by
 have hkb:=getD_mem (p:=fun x:Int=>0≤x∧x≤23040) (d:=0) h.n (by decide) k
 have hib:=getD_mem (p:=fun x:Int=>0≤x∧x≤23040) (d:=0) h.h (by decide) i
 unfold cellP
 split
 ·rename_i hb
  have hl:=pick_le (good:=goodN pr i k st) (topP i k st)
  have ht:((topP i k st:Nat):Int)≤st.hs.getD i 0∧((topP i k st:Nat):Int)≤st.ns.getD k 0:=by unfold topP;omega
  exact h.give hp hi (by omega) hp8 hk hb (by omega) (by omega) (by omega)
 ·exact h.more
theorem StOk.start {ns hs:List Int} {ss:List Nat} {pr:List Int} {m:Nat} (h1:ns.length=m) (h2:m≤8) (h3:∀x∈ns,0≤x∧x≤23040) (h4:hs.length=8) (h5:∀x∈hs,0≤x∧x≤23040) (h6:ss.length=8) (h7:∀x∈ss,x < 256) (hp:∀x∈pr,0≤x∧x≤100000) (hp8:pr.length≤8):StOk pr m 0 ⟨ns,hs,ss,(costF ns hs ss pr).1⟩:=by
 have hF:Fits hs pr:=⟨fun j _=>(getD_mem (p:=fun x:Int=>0≤x∧x≤100000) (d:=0) hp (by decide) j).1,fun j _=>(getD_mem (p:=fun x:Int=>0≤x∧x≤23040) (d:=0) h5 (by decide) j).1,by rw[h4];exact hp8⟩
 have hc:=hF.cost (ns:=ns) (ss:=ss)
 have hb:=costIs_bd (fun x hx=>by have:=h5 x hx;omega) hp hp8 hc
 refine⟨h1,h2,h3,h4,h5,h6,h7,fun c hm=>?_,by show _≤(costF ns hs ss pr).1;omega,hb.2⟩
 have hf:(boOf ns ss pr).Feas (xOf hs):=by
  obtain⟨x,a1,a2,a3,_⟩:=hm.is
  exact fun S hS=>Int.le_trans (a1 S hS) ((boOf ns ss pr).there_le (x:=x) (y:=xOf hs) a3 S)
 exact Int.le_of_eq ((hc.yes hf).2.one _ hm)
end Go.Proofs.YtiioegopckoldaaGreatDoor
