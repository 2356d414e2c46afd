/- lemmas for topRented_holds: PBE. No conditions. -/
import Derived.Test.YtiioegopckoldaaGreatDoorK20
import Derived.Test.YtiioegopckoldaaGreatDoorK22
import Derived.Test.YtiioegopckoldaaGreatDoorK05
set_option linter.unusedVariables false
set_option linter.unusedSimpArgs false
namespace Go.Proofs.YtiioegopckoldaaGreatDoor
open Go.RowKit Go.Shelf
attribute [local go_sem] ite_min ite_max
theorem el_rows2:ElLaw Tryz.prog 39 26 1 24 Sl.cells:=el_rows
structure RowsN (W:World) (lo:Nat) (ss:List Sl) (xss:List (List Int)):Prop where
 rows:Rows W W.heap.size icell ss xss
 far:∀s∈ss,∀b o t,s.a=some ⟨b,o,t⟩→lo≤b
theorem RowsN.kept {W W':World} {lo p:Nat} {ss:List Sl} {xss:List (List Int)} (h:RowsN W lo ss xss) (hk:Kept (fun b=>b≠p) W W') (hp:p < lo):RowsN W' lo ss xss:=
 ⟨⟨h.rows.len,fun i s xs h1 h2=>⟨(h.rows.row i s xs h1 h2).1,(h.rows.row i s xs h1 h2).2.keptA (fun _ b o t e=>by have:=h.far s (List.mem_of_getElem? h1) b o t e;omega) hk⟩⟩,h.far⟩
theorem RowsN.bel {W W':World} {lo:Nat} {ss:List Sl} {xss:List (List Int)} (h:RowsN W lo ss xss) (hb:Below W.heap.size W W'):RowsN W' lo ss xss:=⟨(h.rows.below hb).more hb.size,h.far⟩
theorem RowsN.keptK {W W':World} {lo:Nat} {R:Nat→Prop} {ss:List Sl} {xss:List (List Int)} (h:RowsN W lo ss xss) (hk:Kept R W W') (hR:∀s∈ss,0 < s.n→∀b o t,s.a=some ⟨b,o,t⟩→lo≤b→b < W.heap.size→R b):RowsN W' lo ss xss:=
 ⟨⟨h.rows.len, fun i s xs h1 h2 => ⟨(h.rows.row i s xs h1 h2).1, fun hn => by
   obtain⟨b,off,e,hB,hc⟩:=(h.rows.row i s xs h1 h2).2 hn
   have hr:=hR s (List.mem_of_getElem? h1) (by rw[(h.rows.row i s xs h1 h2).1];exact hn) b off none e (h.far s (List.mem_of_getElem? h1) b off none e) hB
   exact⟨b,off,e,Nat.lt_of_lt_of_le hB hk.size,fun j v hv=>(hk.cell (p:=⟨b,off+j,none⟩) hr hB).trans (hc j v hv)⟩⟩⟩,h.far⟩
theorem RowsN.snoc {W:World} {lo:Nat} {ss:List Sl} {xss:List (List Int)} {s:Sl} {xs:List Int} (h:RowsN W lo ss xss) (hn:s.n=xs.length) (hr:Rd W W.heap.size icell s.a xs) (hf:∀b o t,s.a=some ⟨b,o,t⟩→lo≤b):RowsN W lo (ss ++ [s]) (xss ++ [xs]):=by
 refine⟨⟨by simp[h.rows.len],fun i s' xs' h1 h2=>?_⟩,fun s' hs b o t e=>?_⟩
 ·have hl:=h.rows.len
  by_cases hi:i < ss.length
  ·rw[List.getElem?_append_left hi] at h1
   rw[List.getElem?_append_left (by omega)] at h2
   exact h.rows.row i s' xs' h1 h2
  ·have hi2:i=ss.length:=by
    have:=(List.getElem?_eq_some_iff.1 h1).1
    simp at this;omega
   subst hi2
   rw[List.getElem?_append_right (Nat.le_refl _),Nat.sub_self] at h1
   rw[hl,List.getElem?_append_right (Nat.le_refl _),Nat.sub_self] at h2
   simp at h1 h2
   subst h1 h2
   exact⟨hn,hr⟩
 ·rcases List.mem_append.1 hs with h1 | h1
  ·exact h.far s' h1 b o t e
  ·rw[List.mem_singleton] at h1;subst h1;exact hf b o t e
def Apart (pv:Value) (ss:List Sl):Prop:=∀gv,pv.ownBlock=some gv→∀s∈ss,0 < s.n→∀b o t,s.a=some ⟨b,o,t⟩→b≠gv
theorem BAt.keptO {w W:World} {B:Brs} {ns pr:List Int} {ob:Option Nat} (h:BAt w B ns pr) (ha:∀gv,ob=some gv→Away B gv) (hk:Kept (fun b=>¬ob=some b) w W):BAt W B ns pr:=by
 cases ob with
 | none=>exact⟨h.ok,h.hl,h.sl,h.en,h.er,(h.rn.keptR hk (fun b _ e=>by cases e) (Nat.le_refl _)).more hk.size,(h.rp.keptR hk (fun b _ e=>by cases e) (Nat.le_refl _)).more hk.size⟩
 | some gv=>exact h.keptA (ha gv rfl) (hk.mono fun b _ hb e=>hb (by injection e with e;exact e.symm))
theorem planP_len (pr:List Int) (m:Nat) (st:PSt):∀i,(planP pr m i st).1.length=i
 | 0=>rfl
 | i+1=>by simp only[planP,List.length_append,planP_len pr m st i];rfl
theorem set_pad {xs:List Int} {m k:Nat} (hl:xs.length=k) (hk:k < m) (q:Int):(xs ++ List.replicate (m-k) 0).set k q=(xs ++ [q]) ++ List.replicate (m-(k+1)) 0:=by
 rw[show m-k=(m-(k+1))+1 by omega,List.replicate_succ,List.set_append_right _ _ (by omega),hl,Nat.sub_self,List.set_cons_zero,List.append_assoc];rfl
theorem get_pad {xs:List Int} {m k:Nat} (hl:xs.length=k) (hk:k < m):(xs ++ List.replicate (m-k) (0:Int))[k]?=some 0:=by
 rw[List.getElem?_append_right (by omega),hl,Nat.sub_self,List.getElem?_replicate,if_pos (by omega)]
theorem andnot_step {s k:Nat} (hs:s < 256) (hk:k < 8) (hb:s.testBit k=true):bits BinOp.andNot IntKind.i64 (s:Int) (IntKind.i64.wrap (2 ^ k))=((s ^^^ 2 ^ k:Nat):Int):=by
 have h2:(2:Nat) ^ k < 2 ^ 8:=Nat.pow_lt_pow_right (by omega) hk
 have e:IntKind.i64.wrap ((2:Int) ^ k)=((2 ^ k:Nat):Int):=by
  have e1:((2:Int) ^ k)=((2 ^ k:Nat):Int):=by simp
  rw[e1]
  generalize (2:Nat) ^ k=P at *
  exact wrapI (by omega)
 rw[e]
 have h3:s ^^^ 2 ^ k < 2 ^ 8:=Nat.xor_lt_two_pow hs h2
 have hx:BitVec.ofInt 64 (s:Int) &&& ~~~ BitVec.ofInt 64 ((2 ^ k:Nat):Int)=BitVec.ofInt 64 (s:Int) ^^^ BitVec.ofInt 64 ((2 ^ k:Nat):Int):=by
  rw[BitVec.ofInt_natCast,BitVec.ofInt_natCast]
  apply BitVec.eq_of_getLsbD_eq
  intro i hi
  rw[BitVec.getLsbD_and,BitVec.getLsbD_xor,BitVec.getLsbD_not,BitVec.getLsbD_ofNat,BitVec.getLsbD_ofNat,decide_eq_true hi,Nat.testBit_two_pow]
  by_cases h:k=i
  ·subst h
   rw[hb,decide_eq_true rfl];rfl
  ·rw[decide_eq_false h]
   cases s.testBit i <;> rfl
 show IntKind.i64.wrap ((BitVec.ofInt 64 (s:Int) &&& ~~~ BitVec.ofInt 64 ((2 ^ k:Nat):Int)).toNat:Int)=_
 rw[hx,BitVec.toNat_xor,ofInt_i64 s (by omega),ofInt_i64 (2 ^ k) (by omega),IntKind.wrap_i64]
 generalize s ^^^ 2 ^ k=P at *
 omega
theorem andnot_step64 {s k:Nat} (hs:s < 256) (hk:k < 8) (hb:s.testBit k=true):bits BinOp.andNot IntKind.i64 (s:Int) (wrap64 (2 ^ k))=((s ^^^ 2 ^ k:Nat):Int):=by
 have h2:(2:Nat) ^ k < 2 ^ 8:=Nat.pow_lt_pow_right (by omega) hk
 have e:wrap64 ((2:Int) ^ k)=IntKind.i64.wrap ((2:Int) ^ k):=by
  have e1:((2:Int) ^ k)=((2 ^ k:Nat):Int):=by simp
  rw[e1]
  generalize (2:Nat) ^ k=P at *
  rw[wrapI (by omega)]
  unfold wrap64;omega
 rw[e]
 exact andnot_step hs hk hb
theorem shr_zero (S k:Nat) (hs:S < 256):(bits BinOp.and IntKind.i64 ((S:Int) / 2 ^ k) 1 == 0)= !(S.testBit k):=by
 rw[←shr_test S k (by omega)]
 have h1:((S:Int) / 2 ^ k)=((S / 2 ^ k:Nat):Int):=by norm_cast
 have h2:S / 2 ^ k≤S:=Nat.div_le_self _ _
 rw[h1,show(1:Int)=((1:Nat):Int) from rfl,i64_and_nat _ _ (by omega) (by omega),Nat.and_one_is_mod]
 have h3:=Nat.mod_two_eq_zero_or_one (S / 2 ^ k)
 rcases h3 with h3 | h3 <;> rw[h3] <;> rfl
theorem row_pad {xs:List Int} {m k:Nat} (hk:k < m):xs ++ List.replicate (m-k) 0=(xs ++ [0]) ++ List.replicate (m-(k+1)) 0:=by
 rw[show m-k=(m-(k+1))+1 by omega,List.replicate_succ,List.append_assoc];rfl
theorem rowP_len (pr:List Int) (i:Nat) (st:PSt):∀k,(rowP pr i k st).1.length=k
 | 0=>rfl
 | k+1=>by simp only[rowP,List.length_append,rowP_len pr i st k];rfl
theorem wpList_app1l {α:Type} {cells:α→List Value} {P:Program} {T E:TypeId} {k bytes:Nat} {wr:World} {base:Nat} {v:Value} {xs:List α} {ops:Array Oper} {rest:List Oper} {o:Oper} {a:Act} {Q:Exit→Act→World→Prop} {cs:Array Value} {ty:TypeId} (L:ElLaw P T E k bytes cells) (hgd:o.guard=none) (s x:Operand)
 (ho:o.op= .call {callee:= .builtin .append,args:=#[s,x],argTypes:=#[T,T] }) (hs:a.eval s=v) (hx:a.eval x= .slice (some ⟨wr.heap.size,0,none⟩) 1 1) (hown:Own wr base E k cells v xs) (y:α) (hcs:cs.toList=cells y)
 (hlen:xs.length+1≤1000000) (hbase:base≤wr.heap.size)
 (h:∀v' w',Own w' base E k cells v' (xs ++ [y])→Kept (fun b=>¬v.ownBlock=some b) wr w'→(v'.ownBlock=v.ownBlock∨∃n,v'.ownBlock=some n∧wr.heap.size≤n)→wpList P ops Q rest (a.put o.dst v') w'):wpList P ops Q (o :: rest) a (wr.alloc (.cells cs ty)):=by
 refine wpList_app (v:=v) (xs:=xs) (ys:=[y]) (n:=1) L hgd s x ho hs (hown.alloc _) rfl hx (Rd.new wr cs ty [y] (by simpa using hcs)) hlen (by simp;omega) ?_
 intro v' w' h1 h2 h3
 exact h v' w' h1 ((Kept.alloc _ wr _).trans ((Kept.grown h2).mono fun b hb hlt e=>hlt e.symm)) (h3.imp_right fun e=>⟨_,e,by simp⟩)
set_option maxHeartbeats 4000000 in
set_option maxRecDepth 100000 in
theorem plan_any (A1 A2:Option Addr) (m c1 r c2:Nat) (ns:List Int) (rs:List Rr) (w:World) (hN:Rd w w.heap.size icell A1 ns) (hm:m=ns.length) (hm2:m≤9223372036854775807) (hR:RsAt w A2 r rs) (hr2:r≤9223372036854775807) :
 Calls Tryz.prog 16 #[.slice A1 m c1,.slice A2 r c2] w fun e w'=>∃v,e= .returned (.tuple #[v,.int .i64 (planF ns rs).2.1,.int .i64 (planF ns rs).2.2])∧(∃ss,Own w' w.heap.size 26 1 Sl.cells v ss∧Rows w' w'.heap.size icell ss (planF ns rs).1)∧Below w.heap.size w w':=by
 have Hm:=hide hm;have Her:=hide hR.en
 have Op:=hide (open_any A1 A2 m c1 r c2 ns rs w hN hm hm2 hR hr2)
 clear hN hm hR
 go_enter Tryz.func16,Tryz.ntmps16
 go_wp2_with fail
 refine Op.out.mono ?_
 rintro e w1 ⟨B,hl,sl,rfl,hok,hb1⟩
 obtain⟨b7,w2,e7,ew2,hx7,hb2,hz2⟩:=mk_bx w1 #[.slice none 0 0,.int .i64 0,.int .i64 0,.int .i64 0,.int .i64 0,.int .i64 0,.int .i64 0,.int .i64 0,.int .i64 0,.int .i64 0,.int .i64 0,.int .i64 0,.int .i64 0,.int .i64 0,.int .i64 0,.int .i64 0,.int .i64 0,.slice none 0 0] 139
 have L:=hide (show B.hs.length=8∧B.ss.length=8 from⟨hl,sl⟩)
 have th:=bx_range hx7 (vs:=B.cells) (by rw[Brs.len18 L.out];rfl)
 have th2:w2.there b7 0 B.cells.toArray.size:=by rw[List.size_toArray];exact th
 have a7:=at_setCells hx7 (vs:=B.cells) (by rw[Brs.len18 L.out];rfl)
 have hbg:w1.heap.size≤b7:=by have:=e7.out;omega
 have hB2:=below_setCells (p:=b7) hbg B.cells 0 w2 hb2
 have hB2w:=below_setCells (p:=b7) (Nat.le_trans hb1.size hbg) B.cells 0 w2 (hb1.trans (hb2.mono hb1.size))
 have Th2:=hide th2;have A7:=hide a7;have HB2:=hide hB2;have HB2w:=hide hB2w;have X7z:=hide hx7;have Hok:=hide hok;have Hb1:=hide hb1
 clear th th2 a7 hB2 hB2w hx7 hok hl sl hb1 hb2
 obtain⟨ok,hok2⟩:∃ok,ok=rentsOk ns rs:=⟨_,rfl⟩
 rw[←hok2]
 have Hok2:=hide hok2
 clear hok2
 go_upto_region 2 with(rw[ew2.out,e7.out];refine wpList_store_mid rfl 139 _ _ rfl b7 0 B.cells.toArray rfl rfl Th2.out (bo_sizeA L.out) (all_oneCell_toArray B.one) ?_)
 have X7a:=bx_setCells X7z.out (vs:=B.cells) (by rw[Brs.len18 L.out];rfl)
 obtain⟨w3,hw3⟩:∃w3,Hid (w2.setCells b7 0 B.cells=w3):=⟨_,hide rfl⟩
 have hB3:=HB2.out;have hB3w:=HB2w.out
 rw[hw3.out] at X7a hB3 hB3w ⊢
 have HB3:=hide hB3;have HB3w:=hide hB3w;have X7:=hide X7a
 clear hB3 hB3w X7a Th2 A7 HB2 HB2w X7z ew2
 cases ok
 ·have hp:Hid (planF ns rs=([],0,62)):=hide (by unfold planF;rw[←Hok2.out];rfl)
  go_wp2_with fail
  go_ret3
  exact⟨_,by rw[hp.out];rfl,⟨[],Own.nil _ _ _ _ _,by rw[hp.out];exact⟨rfl,fun i s xs h _=>by simp at h⟩⟩,HB3w.out⟩
 obtain⟨hBt,hhs,hss,hBm,hBr⟩:=Hok.out Hok2.out.symm
 have Ha7:Hid (Away B b7):=hide (hBt.away hbg)
 have HBt:=hide (hBt.bel HB3.out)
 have Hhs:=hide hhs;have Hss:=hide hss;have HBm:=hide hBm;have HBr:=hide hBr
 clear hBt hhs hss hBm hBr Hok
 go_wp2_with (refine wpList_load_mid rfl 139 _ rfl b7 0 rfl B.cells _ X7.out.at_.range Tryz.underlying139 rfl (bo_size L.out) ?_)
 refine(cost_any B ns (rs.map Rr.pr) w3 HBt.out).mono ?_
 rintro e w4 ⟨c,b,rfl,hc,hb4⟩
 obtain⟨hc1,hc2⟩:=hc.one (HBt.out.fits.cost)
 rw[Hhs.out,Hss.out] at hc1 hc2
 have HB4:=hide (HB3.out.trans (hb4.mono HB3.out.size));have HB4w:=hide (HB3w.out.trans (hb4.mono HB3w.out.size))
 have X74:=hide (X7.out.bel hb4);have HBt4:=hide (HBt.out.bel hb4)
 clear hc hb4
 cases b
 ·have hp:Hid (planF ns rs=([],0,63)):=hide (by unfold planF;rw[←Hok2.out,if_pos rfl,←hc2];rfl)
  clear hc1 hc2
  go_wp2_with fail
  go_ret3
  exact⟨_,by rw[hp.out];rfl,⟨[],Own.nil _ _ _ _ _,by rw[hp.out];exact⟨rfl,fun i s xs h _=>by simp at h⟩⟩,HB4w.out⟩
 obtain⟨st0,hst0⟩:∃st0:PSt,st0=⟨ns,hsTo rs rs.length,ssTo rs rs.length,c⟩:=⟨_,rfl⟩
 have Hp:Hid (planF ns rs=((planP (rs.map Rr.pr) ns.length rs.length st0).1,c,0)):=hide (by unfold planF;rw[←Hok2.out,if_pos rfl,←hc2,if_pos rfl,←hc1,hst0])
 have hS0:StOk (rs.map Rr.pr) m 0 st0:=by
  have ok:=HBt4.out.ok
  rw[hst0,hc1]
  have hrt:rentTo ns.length rs rs.length=true:=by
   have h:=Hok2.out.symm
   unfold rentsOk at h
   rw[Bool.and_eq_true,Bool.and_eq_true,Bool.and_eq_true] at h
   exact h.2.2.2
  exact StOk.start Hm.out.symm (by rw[Hm.out];exact ok.nl) ok.n (hsTo_len _ _) (fun x hx=>hsTo_ok hrt x hx) (ssTo_len _ _) (fun x hx=>ssTo_ok ok.nl hrt x hx) ok.p ok.pl
 have HS0:=hide hS0
 have e0n:st0.ns=ns:=by rw[hst0]
 have e0h:st0.hs=B.hs:=by rw[hst0,Hhs.out]
 have e0s:st0.ss=B.ss:=by rw[hst0,Hss.out]
 have e0l:st0.left=c:=by rw[hst0]
 have E0:=hide (show st0.ns=ns∧B.hs=st0.hs∧B.ss=st0.ss∧st0.left=c from⟨e0n,e0h.symm,e0s.symm,e0l⟩)
 clear hc1 hc2 hst0 hS0 e0n e0h e0s e0l
 obtain⟨b9,w5,e9,ew5,hx9,hb5,hz5⟩:=mk_bx w4 #[.int .i64 c] 3
 have hb9g:w4.heap.size≤b9:=by have:=e9.out;omega
 have hb79:b7 < b9:=by have:=X74.out.lt;omega
 have X75:=hide (X74.out.bel hb5);have X95:=hide hx9;have HBt5:=hide (HBt4.out.bel hb5)
 have HB5:=hide (HB4.out.trans (hb5.mono HB4.out.size));have HB5w:=hide (HB4w.out.trans (hb5.mono HB4w.out.size))
 have Ha9:Hid (Away B b9):=hide (HBt4.out.away hb9g)
 have hpr:=hide (show ∀x∈rs.map Rr.pr,0≤x∧x≤100000 from HBt5.out.ok.p)
 have hr8:r≤8:=by have:=HBt5.out.m8.2;rw[HBr.out] at this;exact this
 have hm8:m≤8:=by have:=HBt5.out.m8.1;rw[HBm.out] at this;exact this
 have hprl:=hide (show(rs.map Rr.pr).length=r by rw[List.length_map];exact Her.out.symm)
 clear hx9 hb5
 go_upto_region 8 with fail
 rw[ew5.out,e9.out]
 clear ew5
 go_wp2_with fail
 go_loopw [4,32] (fun v iv wr=>∃(i:Nat) (ss:List Sl) (B':Brs) (pv:Value),pv=v∧i≤r∧iv= .int .i64 i∧Hid (Own wr w5.heap.size 26 1 Sl.cells pv ss)∧Hid (RowsN wr w5.heap.size ss (planP (rs.map Rr.pr) m i st0).1)∧Hid (BAt wr B' (planP (rs.map Rr.pr) m i st0).2.ns (rs.map Rr.pr))∧Hid (B'.hs=(planP (rs.map Rr.pr) m i st0).2.hs∧B'.ss=(planP (rs.map Rr.pr) m i st0).2.ss∧B'.m=m∧B'.r=r)∧Hid (Bx wr b7 B'.cells)∧Hid (Bx wr b9 [.int .i64 (planP (rs.map Rr.pr) m i st0).2.left])∧Hid (Away B' b7∧Away B' b9∧∀gv,pv.ownBlock=some gv→Away B' gv)∧Hid (StOk (rs.map Rr.pr) m (m*i) (planP (rs.map Rr.pr) m i st0).2)∧Hid (Apart pv ss)∧Kept (fun b=>b < w5.heap.size∧b≠b7∧b≠b9) w5 wr) (fun _ iv _=>r-(intOf iv).toNat)
 case atStart=>exact⟨0,[],B,_,rfl,by omega,rfl,hide (Own.nil _ _ _ _ _),hide ⟨⟨rfl,fun i s xs h _=>by simp at h⟩,fun s hs=>by cases hs⟩,hide (by show BAt w5 B st0.ns _;rw[E0.out.1];exact HBt5.out),hide ⟨E0.out.2.1,E0.out.2.2.1,HBm.out,HBr.out⟩,X75,hide (by show Bx w5 b9 [.int .i64 st0.left];rw[E0.out.2.2.2];exact X95.out),hide ⟨Ha7.out,Ha9.out,fun gv h=>by simp[Value.ownBlock] at h⟩,HS0,hide (fun gv h=>by simp[Value.ownBlock] at h),Kept.refl _ _⟩
 case round=>
  obtain⟨i,ss,B1,pv,rfl,hi,rfl,HO,HRw,HBa,HEq,HX7,HX9,HAw,HSt,HAp,hKo⟩:=hrel
  have hB:=HB5.out.trans (hKo.below (fun b hb=>⟨by have:=HB5.out.size;omega,by omega,by omega⟩) HB5.out.size)
  by_cases hlt:i < r
  ·obtain⟨wo,rfl⟩:∃wo,wo=wr:=⟨wr,rfl⟩
   obtain⟨S,hS⟩:∃S,S=(planP (rs.map Rr.pr) m i st0).2:=⟨_,rfl⟩
   rw[←hS] at HBa HEq HX9 HSt
   have HS:=hide hS
   clear hS
   obtain⟨b10,wA,e10,ewA,hx10,hbA,hzA⟩:=mk_bx wo #[.int .i64 (i:Nat)] 3
   obtain⟨g,wB,eg,ewB,hBw',hoB⟩:∃g wB,Hid (wA.heap.size=g)∧Hid (wA.alloc (.cells (madeCells #[.int .i64 0] m) 3)=wB)∧Below wA.heap.size wA wB∧Own wB g 3 1 icell (.slice (some ⟨g,0,none⟩) m m) (List.replicate m 0):=⟨_,_,hide rfl,hide rfl,below_new _ _,by have h:=own_made m (by omega) wA wA.heap.size (Nat.le_refl _);rwa [Nat.mul_one] at h⟩
   have e10g:b10+1=g:=by have:=eg.out;omega
   have hmk:=fun w=>make_ints m (by omega) w
   have h9l:=HX9.out.lt
   have h10g:wo.heap.size≤b10:=by have:=e10.out;omega
   have h10l:b10 < g:=by have:=hx10.lt;have:=eg.out;omega
   have hwrB:=hbA.trans (hBw'.mono hbA.size)
   have X10:=hide (hx10.bel hBw')
   have HwB:=hide hwrB
   have Hx5:Hid (b9 < w5.heap.size):=hide X95.out.lt
   have HoB:=hide hoB
   have ii:(i:Int) < (r:Int):=by omega
   clear hx10 hBw' hoB hwrB
   go_upto_region 12 with fail
   rw[ewA.out,ewB.out,e10.out,e10g]
   clear hmk ewA ewB
   go_wp2_with fail
   go_loopw [40] (fun kv w'=>∃(k:Nat) (B2:Brs),k≤m∧kv= .int .i64 k∧Hid (Own w' g 3 1 icell (.slice (some ⟨g,0,none⟩) m m) ((rowP (rs.map Rr.pr) i k S).1 ++ List.replicate (m-k) 0))∧Hid (BAt w' B2 (rowP (rs.map Rr.pr) i k S).2.ns (rs.map Rr.pr))∧Hid (B2.hs=(rowP (rs.map Rr.pr) i k S).2.hs∧B2.ss=(rowP (rs.map Rr.pr) i k S).2.ss∧B2.m=m∧B2.r=r)∧Hid (Bx w' b7 B2.cells)∧Hid (Bx w' b9 [.int .i64 (rowP (rs.map Rr.pr) i k S).2.left])∧Hid (Away B2 b7∧Away B2 b9∧Away B2 g∧∀gv,pv.ownBlock=some gv→Away B2 gv)∧Hid (StOk (rs.map Rr.pr) m (m*i+k) (rowP (rs.map Rr.pr) i k S).2)∧Kept (fun b=>b≠g∧b≠b9∧b≠b7) wB w') (fun kv _=>m-(intOf kv).toNat)
   case atStart=>exact⟨0,B1,by omega,rfl,hide (by show Own wB g _ _ _ _ ([] ++ List.replicate (m-0) 0);rw[List.nil_append,Nat.sub_zero];exact HoB.out),hide (HBa.out.bel HwB.out),HEq,hide (HX7.out.bel HwB.out),hide (HX9.out.bel HwB.out),hide ⟨HAw.out.1,HAw.out.2.1,HBa.out.away (by omega),HAw.out.2.2⟩,hide (by show StOk _ m (m*i+0) S;exact HSt.out),Kept.refl _ _⟩
   case round=>
    obtain⟨k,B2,hk,rfl,HRo,HB2,HE2,HY7,HY9,HA2,HS2,hKw⟩:=hrel
    obtain⟨T,hT⟩:∃T,T=(rowP (rs.map Rr.pr) i k S).2:=⟨_,rfl⟩
    rw[←hT] at HB2 HE2 HY9 HS2
    have HT:=hide hT
    clear hT
    by_cases hltk:k < m
    ·obtain⟨b12,wC,e12,ewC,hx12,hbC,hzC⟩:=mk_bx wr #[.int .i64 (k:Nat)] 3
     have hi8:i < 8:=by omega
     have X12:=hide hx12
     have Y7:=hide (HY7.out.bel hbC);have Y9:=hide (HY9.out.bel hbC)
     have Y10:=hide ((X10.out.kept hKw ⟨by omega,by omega,by omega⟩).bel hbC)
     have BC:=hide (HB2.out.bel hbC)
     have cS:=BC.out.cs Y7.out.at_ hi8
     have hs256:=getD_mem (p:=fun x:Nat=>x < 256) (d:=0) BC.out.ok.s (by decide) i
     obtain⟨s,hs⟩:∃s,s=B2.ss.getD i 0:=⟨_,rfl⟩
     rw[←hs] at cS hs256
     have Hs:=hide hs
     have ht:=shr_zero s k hs256
     have c10:=Y10.out.at_.c1
     have c12:=hx12.at_.c1
     have i8:(i:Int) < 8:=by omega
     have ik:(k:Int) < (m:Int):=by omega
     have hwC:=hide (hKw.trans (Kept.all (fun b=>b≠g∧b≠b9∧b≠b7) hbC))
     clear hs hx12
     go_upto_region 15 with fail
     rw[ewC.out,e12.out]
     clear ewC
     cases hb:s.testBit k
     ·rw[hb] at ht
      have Hb:=hide hb
      clear hb
      go_wp2_with fail
      go_quiet (fail)
      have hD:=hide (below_drewN (Below.refl wC.heap.size wC) nq)
      have hcell:cellP (rs.map Rr.pr) i k T=(0,T):=by unfold cellP;rw[←HE2.out.2.1,←Hs.out,Hb.out];rfl
      have e1:(rowP (rs.map Rr.pr) i (k+1) S).1=(rowP (rs.map Rr.pr) i k S).1 ++ [0]:=by simp only[rowP];rw[←HT.out,hcell]
      have e2:(rowP (rs.map Rr.pr) i (k+1) S).2=T:=by simp only[rowP];rw[←HT.out,hcell]
      have G1:Hid (Own (wC.drewN nq) g 3 1 icell (.slice (some ⟨g,0,none⟩) m m) ((rowP (rs.map Rr.pr) i (k+1) S).1 ++ List.replicate (m-(k+1)) 0)):=by
       rw[e1,←row_pad hltk]
       exact hide ((HRo.out.bel hbC).bel hD.out)
      have G2:Hid (BAt (wC.drewN nq) B2 (rowP (rs.map Rr.pr) i (k+1) S).2.ns (rs.map Rr.pr)):=by rw[e2];exact hide (BC.out.bel hD.out)
      have G3:Hid (B2.hs=(rowP (rs.map Rr.pr) i (k+1) S).2.hs∧B2.ss=(rowP (rs.map Rr.pr) i (k+1) S).2.ss∧B2.m=m∧B2.r=r):=by rw[e2];exact HE2
      have G4:Hid (Bx (wC.drewN nq) b9 [.int .i64 (rowP (rs.map Rr.pr) i (k+1) S).2.left]):=by rw[e2];exact hide (Y9.out.bel hD.out)
      have G5:Hid (StOk (rs.map Rr.pr) m (m*i+(k+1)) (rowP (rs.map Rr.pr) i (k+1) S).2):=by rw[e2];exact hide HS2.out.more
      have G6:=hide (Y7.out.bel hD.out)
      have G7:=hide (hwC.out.trans (Kept.drew (fun b=>b≠g∧b≠b9∧b≠b7) wC nq))
      clear hcell e1 e2
      go_wp2_with fail
      exact⟨⟨k+1,B2,by omega,by go_num,G1,G2,G3,G6,G4,HA2,G5,G7.out⟩,by simp[intOf];omega⟩
     ·rw[hb] at ht
      have Hb:=hide hb
      clear hb
      go_wp2_with fail
      go_quiet (fail)
      have hD:=hide (below_drewN (Below.refl wC.heap.size wC) nq)
      obtain⟨wD,hwD⟩:∃wD,Hid (wC.drewN nq=wD):=⟨_,hide rfl⟩
      rw[hwD.out] at hD ⊢
      have hwD':=hide (hwC.out.trans (Kept.all (fun b=>b≠g∧b≠b9∧b≠b7) hD.out))
      have Z7:=hide (Y7.out.bel hD.out);have Z9:=hide (Y9.out.bel hD.out);have Z10:=hide (Y10.out.bel hD.out);have Z12:=hide (X12.out.bel hD.out);have BD:=hide (BC.out.bel hD.out)
      have Zr:=hide ((HRo.out.bel hbC).bel hD.out)
      obtain⟨qn,on,n0,hAn,hqn,hxn,cn0⟩:=BD.out.rn.int (i:=k) (by rw[←BD.out.en,HE2.out.2.2.1];exact hltk)
      have hn0:T.ns.getD k 0=n0:=by rw[List.getD_eq_getElem?_getD,hxn];rfl
      obtain⟨h0,hh0⟩:∃h0,h0=B2.hs.getD i 0:=⟨_,rfl⟩
      have HCh:Hid (∀W,Below wD.heap.size wD W→W.cell? ⟨b7,1+i,none⟩=some (.int .i64 h0)):=hide fun W hb=>by rw[hh0];exact BD.out.ch (Z7.out.bel hb).at_ hi8
      have HC0:Hid (∀W,Below wD.heap.size wD W→W.cell? ⟨b7,0,none⟩=some (.slice (some ⟨qn,on,none⟩) m B2.cn)):=hide fun W hb=>by
       rw[←hAn,←HE2.out.2.2.1];exact BD.out.c0 (Z7.out.bel hb).at_
      have hnb:=HS2.out.n n0 (List.mem_of_getElem? hxn)
      have hhb:0≤h0∧h0≤23040:=by rw[hh0,HE2.out.1];exact getD_mem (p:=fun x:Int=>0≤x∧x≤23040) (d:=0) HS2.out.h (by decide) i
      have hmw:IntKind.i64.wrap (min h0 n0-1)=min h0 n0-1:=wrapI (by omega)
      obtain⟨SO,hSO⟩:∃SO:Int→Bool,SO=fun x=>!(goodF T.ns B2.hs B2.ss (rs.map Rr.pr) i k T.left (x+1)):=⟨_,rfl⟩
      have HSO:Hid (∀x,SO x= !(goodF T.ns B2.hs B2.ss (rs.map Rr.pr) i k T.left (x+1))):=hide fun x=>by rw[hSO]
      have HF:Hid (∀W,Below wD.heap.size wD W→∀x w',(0:Int)≤x→x≤min h0 n0-1→Below W.heap.size W w'→Calls Tryz.prog 50 (#[.int .i64 x] ++ #[.pointer (some ⟨b7,0,none⟩),.pointer (some ⟨b10,0,none⟩),.pointer (some ⟨b12,0,none⟩),.pointer (some ⟨b9,0,none⟩)]) w' fun e w''=>e= .returned (.bool (SO x))∧Below w'.heap.size w' w''):=hide fun W hW x w' hx0 hx1 hw'=>by
       have hall:=hW.trans (hw'.mono hW.size)
       rw[HSO.out]
       exact plan1_any B2 T.ns (rs.map Rr.pr) i k b7 b10 b12 b9 T.left x w' (BD.out.bel hall) (Z7.out.bel hall).at_ (Z10.out.bel hall).at_ (Z12.out.bel hall).at_ (Z9.out.bel hall).at_ (by rw[HE2.out.2.2.2];exact hlt) (by rw[HE2.out.2.2.1];exact hltk) hx0 (by rw[hn0];omega) (by rw[←hh0];omega)
      have Hmono:Hid (∀x y:Int,0≤x→x≤y→y≤min h0 n0-1→SO x=true→SO y=true):=hide fun x y hx hxy hy hsx=>by
       rw[HSO.out] at hsx ⊢
       cases hg:goodF T.ns B2.hs B2.ss (rs.map Rr.pr) i k T.left (y+1)
       ·rfl
       ·have hdn:=good_down (x:=x+1) (y:=y+1) BD.out.fits (by rw[HS2.out.nl];exact hltk) (by rw[hprl.out];exact hlt) (by rw[←Hs.out];exact Hb.out) (by rw[HE2.out.1,HE2.out.2.1];exact HS2.out.inv) (by omega) (by omega) (by rw[←hh0];omega) hg
        rw[hdn] at hsx;cases hsx
      have Hn0:=hide hn0;have Hh0:=hide hh0;have HAn:=hide hAn;have Hxn:=hide hxn
      clear hn0 hh0 hAn hxn hSO cS c10 c12 ht
      go_wp2_with fail
      refine wp_region_held_drew (S:=(fun W=>Below wD.heap.size wD W)) (by kernel_rfl) (by(try dsimp only);exact(Below.refl _ _).drew) (fun hHeld=>?_)
      generalize World.drew wD=Wd16 at hHeld ⊢
      have hbc:=Below.refl Wd16.heap.size Wd16
      iterate 2
       refine tkHl [0,6] ?_ rfl rfl (Or.inl ⟨by rfl,?_⟩) hHeld ?_
       rotate_left
       ·(intro w hSw;(try dsimp only at hSw);have d10:=(Z10.out.bel hSw).at_.c1;have d12:=(Z12.out.bel hSw).at_.c1;have dh:=HCh.out _ hSw;have d0:=HC0.out _ hSw;have dn:=(hSw.cell (p:=⟨qn,on+k,none⟩) hqn).trans cn0;go_simp;try(with_reducible rfl))
       try simp only[Act.put,tl1,tl2,tl3]
      iterate 4
       refine tkHl [1,2,4,11] ?_ rfl rfl (Or.inl ⟨by rfl,?_⟩) hHeld ?_
       rotate_left
       ·(intro w _;go_simp;try(with_reducible rfl))
       try simp only[Act.put,tl1,tl2,tl3]
      iterate 2
       refine tkHl [3,5] ?_ rfl rfl (Or.inl ⟨by rfl,?_⟩) hHeld ?_
       rotate_left
       ·(intro w hSw;(try dsimp only at hSw);have d10:=(Z10.out.bel hSw).at_.c1;have d12:=(Z12.out.bel hSw).at_.c1;have dh:=HCh.out _ hSw;have d0:=HC0.out _ hSw;have dn:=(hSw.cell (p:=⟨qn,on+k,none⟩) hqn).trans cn0;go_simp;try(with_reducible rfl))
       try simp only[Act.put,tl1,tl2,tl3]
      refine tkH 7 ?_ rfl (Or.inl ⟨by rfl,?_⟩) hHeld ?_
      rotate_left
      ·(intro w _;go_simp;try(with_reducible rfl))
      try simp only[Act.put,tl1,tl2,tl3]
      refine tkH 8 ?_ rfl (Or.inl ⟨by rfl,?_⟩) hHeld ?_
      rotate_left
      ·(intro w hSw;(try dsimp only at hSw);have d10:=(Z10.out.bel hSw).at_.c1;have d12:=(Z12.out.bel hSw).at_.c1;have dh:=HCh.out _ hSw;have d0:=HC0.out _ hSw;have dn:=(hSw.cell (p:=⟨qn,on+k,none⟩) hqn).trans cn0;go_simp;try(with_reducible rfl))
      try simp only[Act.put,tl1,tl2,tl3]
      iterate 2
       refine tkHl [9,10] ?_ rfl rfl (Or.inl ⟨by rfl,?_⟩) hHeld ?_
       rotate_left
       ·(intro w _;go_simp;try(with_reducible rfl))
       try simp only[Act.put,tl1,tl2,tl3]
      refine wpAnyH_ready (rs:=[12]) (by kernel_rfl) (by simp) ?_
      refine AllReadyH.cons (o:=⟨_,_,_,_,_,_⟩) rfl (fun K hK=>?_) AllReadyH.nil
      go_simp
      refine(least_fn 50 #[.pointer (some ⟨b7,0,none⟩),.pointer (some ⟨b10,0,none⟩),.pointer (some ⟨b12,0,none⟩),.pointer (some ⟨b9,0,none⟩)] SO 0 (min h0 n0-1) _ enters_plan1 (Int.le_refl _) (by omega) (by omega) (HF.out _ hHeld) Hmono.out).mono ?_
      rintro e V63 ⟨q,rfl,hq0,hq1,hq2,hq3,hb⟩
      go_wp2_with fail
      have hHeldN:=hHeld.trans (hb.mono hHeld.size)
      have hbc:=hbc.trans (hb.mono hbc.size)
      refine hK.out _ _ ?_ (fun hHeld2=>?_)
      ·exact hHeldN
      clear hK K hHeld hHeldN hb;have hHeld:=hHeld2;clear hHeld2
      try simp only[Act.put,tl1,tl2,tl3]
      refine tkH 13 ?_ rfl (Or.inl ⟨by rfl,?_⟩) hHeld ?_
      rotate_left
      ·(intro w _;go_simp;try(with_reducible rfl))
      try simp only[Act.put,tl1,tl2,tl3]
      refine wpAnyH_done (by kernel_rfl) ?_ _
      obtain⟨qv,rfl⟩:∃qv:Nat,q=qv:=⟨q.toNat,by omega⟩
      have htop:topP i k T=(min h0 n0).toNat:=by unfold topP;rw[Hn0.out,←HE2.out.1,←Hh0.out]
      have hpick:pickF (goodN (rs.map Rr.pr) i k T) (topP i k T)=qv:=by
       refine pick_is (by rw[htop];omega) (fun x hx=>?_) (fun hx=>?_) (fun x y hx hxy hy hg=>?_)
       ·have h1:=hq2 (x:Int) (by omega) (by omega)
        rw[HSO.out,HE2.out.1,HE2.out.2.1] at h1
        have h2:goodF T.ns T.hs T.ss (rs.map Rr.pr) i k T.left ((x:Int)+1)=true:=by simpa using h1
        exact h2
       ·have h1:=hq3 (by rw[htop] at hx;omega)
        rw[HSO.out,HE2.out.1,HE2.out.2.1] at h1
        have h2:goodF T.ns T.hs T.ss (rs.map Rr.pr) i k T.left ((qv:Int)+1)=false:=by simpa using h1
        exact h2
       ·unfold goodN at hg ⊢
        rw[←HE2.out.1,←HE2.out.2.1] at hg ⊢
        rw[htop] at hy
        exact good_down (x:=x) (y:=y) BD.out.fits (by rw[HS2.out.nl];exact hltk) (by rw[hprl.out];exact hlt) (by rw[←Hs.out];exact Hb.out) (by rw[HE2.out.1,HE2.out.2.1];exact HS2.out.inv) (by omega) (by omega) (by rw[←Hh0.out];omega) hg
      have Hcell:Hid (cellP (rs.map Rr.pr) i k T=((qv:Int),giveP (rs.map Rr.pr) i k T qv)):=by unfold cellP;rw[←HE2.out.2.1,←Hs.out,Hb.out,if_pos rfl,hpick];exact hide rfl
      have hqb:(qv:Int)≤h0∧(qv:Int)≤n0:=by omega
      clear hq0 hq1 hq2 hq3 htop hpick
      obtain⟨w16,rfl⟩:∃w16,w16=V63:=⟨V63,rfl⟩
      have D16:=hide hHeld
      have O16:=Zr.out.bel hHeld
      have hrl:=rowP_len (rs.map Rr.pr) i S k
      have hlen0:m=((rowP (rs.map Rr.pr) i k S).1 ++ List.replicate (m-k) 0).length:=by rw[List.length_append,List.length_replicate,hrl];omega
      have cg:=own_int O16 hlen0 (get_pad hrl hltk)
      have fg:=own_frzI O16 hlen0 k
      obtain⟨O17,_,_⟩:=O16.put_ icell_len (i:=k) (j:=0) (x':=(qv:Int)) (u:= .int .i64 (qv:Nat)) (get_pad hrl hltk) (by omega) (by simp[icell]) hlen0
      rw[set_pad hrl hltk] at O17
      simp only[Nat.mul_one,Nat.add_zero] at O17
      have z12:=(Z12.out.bel hHeld).at_.c1
      have hb12g:b12≠g:=by have h1:=e12.out;have h2:=(HRo.out.blockG (g:=g) rfl).2;omega
      have hne9:g≠b9:=by omega
      have hne7:g≠b7:=by omega
      have hne10:g≠b10:=by omega
      have A7:=(Z7.out.bel hHeld).other (q:=⟨g,k,none⟩) (.int .i64 (qv:Nat)) hne7
      have A9:=(Z9.out.bel hHeld).other (q:=⟨g,k,none⟩) (.int .i64 (qv:Nat)) hne9
      have A10:=(Z10.out.bel hHeld).other (q:=⟨g,k,none⟩) (.int .i64 (qv:Nat)) hne10
      have A12:=(Z12.out.bel hHeld).other (q:=⟨g,k,none⟩) (.int .i64 (qv:Nat)) (fun e=>hb12g e.symm)
      have AB:=(BD.out.bel hHeld).keptA HA2.out.2.2.1 (Kept.setCell w16 ⟨g,k,none⟩ (.int .i64 (qv:Nat)))
      have k17:=(hwD'.out.trans (Kept.all (fun b=>b≠g∧b≠b9∧b≠b7) hHeld)).trans ((Kept.setCell w16 ⟨g,k,none⟩ (.int .i64 (qv:Nat))).mono fun b _ h=>h.1)
      have Hl0:=hide hlen0;have Hrl:=hide hrl
      clear O16 hlen0 hrl hHeld hbc
      go_upto_region 18 with fail
      obtain⟨w17,hw17⟩:∃w17,Hid (w16.setCell ⟨g,k,none⟩ (.int .i64 (qv:Nat))=w17):=⟨_,hide rfl⟩
      rw[hw17.out] at O17 A7 A9 A10 A12 AB k17 ⊢
      clear cg fg z12
      obtain⟨pq,po,p0,hAp,hpq,hxp,cp0⟩:=AB.rp.int (i:=i) (by rw[hprl.out];exact hlt)
      have hp0:(rs.map Rr.pr).getD i 0=p0:=by rw[List.getD_eq_getElem?_getD,hxp];rfl
      have hpb:=hpr.out p0 (List.mem_of_getElem? hxp)
      have c17:=AB.c17 A7.at_
      rw[hAp,HE2.out.2.2.2] at c17
      have c10:=A10.at_.c1
      have c9:=A9.at_.c1
      have f9:=A9.fz 0
      obtain⟨mm0,mm1⟩:=mul_bd2 (x:=(qv:Int)) (p:=p0) (by omega) (by omega) hpb.1 hpb.2
      obtain⟨lf,hlf⟩:∃lf,lf=T.left:=⟨_,rfl⟩
      have hlo:=HS2.out.lo
      have hhi:=HS2.out.hi
      rw[←hlf] at hlo hhi c9
      have hmi:((m*i+k:Nat):Int)*2304000000≤170000000000:=by
       have h1:m*i≤8*7:=Nat.mul_le_mul hm8 (by omega)
       have h2:m*i+k≤63:=by omega
       omega
      obtain⟨pv2,hpv2⟩:∃pv2,pv2=(qv:Int)*p0:=⟨_,rfl⟩
      rw[←hpv2] at mm0 mm1
      have hw1:IntKind.i64.wrap ((qv:Int)*p0)=pv2:=by rw[←hpv2];exact wrapI (by omega)
      have hw2:wrap64 ((qv:Int)*p0)=pv2:=by rw[←hpv2];unfold wrap64;omega
      have hw3:IntKind.i64.wrap (lf-pv2)=lf-pv2:=wrapI (by omega)
      have hw4:wrap64 (lf-pv2)=lf-pv2:=by unfold wrap64;omega
      have HAB:=hide AB;have HO17:=hide O17;have HA7:=hide A7;have HA9:=hide A9;have HA10:=hide A10;have HA12:=hide A12;have HK17:=hide k17;have Hlf:=hide hlf;have Hp0:=hide hp0;have Hpv2:=hide hpv2;have HAp:=hide hAp
      clear AB O17 A7 A9 A10 A12 k17 hlf hp0 hpv2 hAp hxp hlo hhi hmi
      go_wp2_with fail
      go_region
      have k1718:Kept (fun b=>b≠b9) w17 (w17.setCell ⟨b9,0,none⟩ (.int .i64 (lf-pv2))).drew:=(Kept.setCell w17 ⟨b9,0,none⟩ _).trans (Kept.drew _ _ 1)
      have B9:Bx (w17.setCell ⟨b9,0,none⟩ (.int .i64 (lf-pv2))).drew b9 [.int .i64 (lf-pv2)]:=by
       have h:=(HA9.out.set (j:=0) (.int .i64 (lf-pv2)) (by simp)).drew
       exact h
      obtain⟨w18,hw18⟩:∃w18,Hid ((w17.setCell ⟨b9,0,none⟩ (.int .i64 (lf-pv2))).drew=w18):=⟨_,hide rfl⟩
      rw[hw18.out] at k1718 B9 ⊢
      have hb129:b12≠b9:=by have h1:=e12.out;have h2:=HY9.out.lt;omega
      have hb127:b12≠b7:=by have h1:=e12.out;have h2:=HY7.out.lt;omega
      have B7:=hide (HA7.out.kept k1718 (by omega));have B10:=hide (HA10.out.kept k1718 (by omega));have B12:=hide (HA12.out.kept k1718 hb129)
      have BB:=hide (HAB.out.keptA HA2.out.2.1 k1718)
      have O18:=hide (HO17.out.keptG k1718 (fun gg h=>by simp[Value.ownBlock] at h;subst h;omega))
      have K18:=hide (HK17.out.trans (k1718.mono fun b _ h=>h.2.1))
      have HB9:=hide B9
      have c10:=B10.out.at_.c1;have c12:=B12.out.at_.c1
      have L2:Hid (B2.hs.length=8∧B2.ss.length=8):=hide ⟨BB.out.hl,BB.out.sl⟩
      clear k1718 B9 c17 c9 f9 cp0
      go_wp2_with (refine wpList_load_mid rfl 139 _ rfl b7 0 rfl B2.cells _ B7.out.at_.range Tryz.underlying139 rfl (bo_size L2.out) ?_)
      refine(take_any B2 T.ns (rs.map Rr.pr) i k (qv:Int) w18 BB.out hi8 (by rw[HE2.out.2.2.1];exact hltk) (by omega) (by rw[Hn0.out];exact hqb.2) (by rw[←Hh0.out];exact hqb.1)).mono ?_
      rintro e w19 ⟨B3,rfl,hB3,a1,a2,a3,a4,hAw3,hb19⟩
      have C7:=B7.out.bel hb19
      have L3:Hid (B3.hs.length=8∧B3.ss.length=8):=hide ⟨hB3.hl,hB3.sl⟩
      have th3:=bx_range C7 (vs:=B3.cells) (by rw[Brs.len18 L3.out,Brs.len18 L2.out])
      have Th3:Hid (w19.there b7 0 B3.cells.toArray.size):=hide (by rw[List.size_toArray];exact th3)
      have C7s:=bx_setCells C7 (vs:=B3.cells) (by rw[Brs.len18 L3.out,Brs.len18 L2.out])
      have k1920:=kept_setCells (p:=b7) B3.cells 0 w19 (Kept.refl _ w19)
      have k1820:Kept (fun b=>b≠b7) w18 (w19.setCells b7 0 B3.cells):=(Kept.all _ hb19).trans k1920
      have HB3:=hide hB3;have A1:=hide a1;have A2':=hide a2;have A3:=hide a3;have A4:=hide a4;have HAw3:=hide hAw3
      have b7l:=B7.out.lt;have b9l:=HB9.out.lt;have gl:=(O18.out.blockG (g:=g) rfl).2
      clear hB3 a1 a2 a3 a4 hAw3 th3 c10 c12 C7
      have HC7s:=hide C7s;have Hk1920:=hide k1920;have Hk1820:=hide k1820
      clear C7s k1920 k1820
      go_upto_region 20 with(refine wpList_store_mid rfl 139 _ _ rfl b7 0 B3.cells.toArray rfl rfl Th3.out (bo_sizeA L3.out) (all_oneCell_toArray B3.one) ?_)
      have D7:=HC7s.out;have k1920:=Hk1920.out;have k1820:=Hk1820.out
      obtain⟨w20,hw20⟩:∃w20,Hid (w19.setCells b7 0 B3.cells=w20):=⟨_,hide rfl⟩
      rw[hw20.out] at D7 k1920 k1820 ⊢
      have D10:=hide (B10.out.kept k1820 (by omega));have D12:=hide (B12.out.kept k1820 hb127)
      have c10:=D10.out.at_.c1;have c12:=D12.out.at_.c1
      have cs:=D7.at_.2 (9+i) _ (Brs.get_s L3.out hi8)
      rw[A2'.out,←Hs.out] at cs
      have fs:=D7.fz (9+i)
      have HD7:=hide D7;have HK20:=hide k1820;have HK1920:=hide k1920
      clear D7 k1820 k1920
      go_wp2_with fail
      go_region
      all_goals
       first | rw[andnot_step hs256 (by omega) Hb.out] | rw[andnot_step64 hs256 (by omega) Hb.out]
       obtain⟨s2,hs2⟩:∃s2,s2=s ^^^ 2 ^ k:=⟨_,rfl⟩
       have hs2b:s2 < 256:=by rw[hs2];exact Nat.xor_lt_two_pow (n:=8) hs256 (Nat.pow_lt_pow_right (by omega) (by omega))
       rw[←hs2]
       have k2021:Kept (fun b=>b≠b7) w20 (w20.setCell ⟨b7,9+i,none⟩ (.int .i64 (s2:Nat))).drew:=(Kept.setCell w20 ⟨b7,9+i,none⟩ _).trans (Kept.drew _ _ 1)
       have E7:Bx (w20.setCell ⟨b7,9+i,none⟩ (.int .i64 (s2:Nat))).drew b7 (B3.ws (B3.ss.set i s2)).cells:=by
        have h:=(HD7.out.set (j:=9+i) (.int .i64 (s2:Nat)) (by rw[Brs.len18 L3.out];omega)).drew
        rw[Brs.set_s L3.out hi8] at h
        exact h
       obtain⟨w21,hw21⟩:∃w21,Hid ((w20.setCell ⟨b7,9+i,none⟩ (.int .i64 (s2:Nat))).drew=w21):=⟨_,hide rfl⟩
       rw[hw21.out] at k2021 E7 ⊢
       have k1821:=HK20.out.trans k2021
       have e1:(rowP (rs.map Rr.pr) i (k+1) S).1=(rowP (rs.map Rr.pr) i k S).1 ++ [(qv:Int)]:=by simp only[rowP];rw[←HT.out,Hcell.out]
       have e2:(rowP (rs.map Rr.pr) i (k+1) S).2=giveP (rs.map Rr.pr) i k T qv:=by simp only[rowP];rw[←HT.out,Hcell.out]
       have hA3:∀p,p < w18.heap.size→Away B2 p→Away (B3.ws (B3.ss.set i s2)) p:=fun p hp ha=>HAw3.out p hp ha
       have G1:Hid (Own w21 g 3 1 icell (.slice (some ⟨g,0,none⟩) m m) ((rowP (rs.map Rr.pr) i (k+1) S).1 ++ List.replicate (m-(k+1)) 0)):=by
        rw[e1]
        exact hide (O18.out.keptG k1821 (fun gg h=>by simp[Value.ownBlock] at h;subst h;omega))
       have G2:Hid (BAt w21 (B3.ws (B3.ss.set i s2)) (rowP (rs.map Rr.pr) i (k+1) S).2.ns (rs.map Rr.pr)):=by
        rw[e2]
        have h:=(HB3.out.keptA (HAw3.out b7 b7l HA2.out.1) HK1920.out).keptA (HAw3.out b7 b7l HA2.out.1) k2021
        refine hide ⟨⟨h.ok.nl,h.ok.n,h.ok.h,fun x hx=>?_,h.ok.pl,h.ok.p⟩,h.hl,by show(B3.ss.set i s2).length=8;rw[List.length_set];exact h.sl,h.en,h.er,h.rn,h.rp⟩
        rcases List.mem_or_eq_of_mem_set (hx:x∈B3.ss.set i s2) with h1 | rfl
        ·exact h.ok.s x h1
        ·exact hs2b
       have G3:Hid ((B3.ws (B3.ss.set i s2)).hs=(rowP (rs.map Rr.pr) i (k+1) S).2.hs∧(B3.ws (B3.ss.set i s2)).ss=(rowP (rs.map Rr.pr) i (k+1) S).2.ss∧(B3.ws (B3.ss.set i s2)).m=m∧(B3.ws (B3.ss.set i s2)).r=r):=by
        rw[e2]
        refine hide ⟨?_,?_,A3.out.trans HE2.out.2.2.1,A4.out.trans HE2.out.2.2.2⟩
        ·show B3.hs=T.hs.set i (T.hs.getD i 0-qv)
         rw[A1.out,HE2.out.1]
        ·show B3.ss.set i s2=T.ss.set i (T.ss.getD i 0 ^^^ 2 ^ k)
         rw[A2'.out,hs2,Hs.out,HE2.out.2.1]
       have G4:Hid (Bx w21 b9 [.int .i64 (rowP (rs.map Rr.pr) i (k+1) S).2.left]):=by
        rw[e2]
        show Hid (Bx w21 b9 [.int .i64 (T.left-(qv:Int)*(rs.map Rr.pr).getD i 0)])
        rw[Hp0.out,←Hpv2.out,←Hlf.out]
        exact hide (HB9.out.kept k1821 (by omega))
       have G5:Hid (Away (B3.ws (B3.ss.set i s2)) b7∧Away (B3.ws (B3.ss.set i s2)) b9∧Away (B3.ws (B3.ss.set i s2)) g∧∀gv,pv.ownBlock=some gv→Away (B3.ws (B3.ss.set i s2)) gv):=hide ⟨hA3 b7 b7l HA2.out.1,hA3 b9 b9l HA2.out.2.1,hA3 g gl HA2.out.2.2.1,fun gv h=>hA3 gv (by have:=(HO.out.blockG h).2;omega) (HA2.out.2.2.2 gv h)⟩
       have G6:Hid (StOk (rs.map Rr.pr) m (m*i+(k+1)) (rowP (rs.map Rr.pr) i (k+1) S).2):=by
        rw[e2]
        exact hide (HS2.out.give hpr.out (by rw[hprl.out];exact hlt) hi8 (by rw[hprl.out];exact hr8) hltk (by rw[←HE2.out.2.1,←Hs.out];exact Hb.out) (by omega) (by rw[Hn0.out];exact hqb.2) (by rw[←HE2.out.1,←Hh0.out];exact hqb.1))
       have G7:=hide (K18.out.trans (k1821.mono fun b _ h=>h.2.2))
       have HE7:=hide E7
       clear e1 e2 hA3 k1821 k2021 E7 cs fs c10 c12
       go_wp2_with fail
       exact⟨⟨k+1,_,by omega,by go_num,G1,G2,G3,HE7,G4,G5,G6,G7.out⟩,by simp[intOf];omega⟩
    ·obtain rfl:m=k:=by omega
     have hvb:∀gv,pv.ownBlock=some gv→w5.heap.size≤gv∧gv < wo.heap.size:=fun gv h=>HO.out.blockG h
     have kwo:Kept (fun b=>b≠g∧b≠b9∧b≠b7) wo wr:=(Kept.all _ HwB.out).trans hKw
     have hgo:wo.heap.size≤g:=by omega
     have Ov:=hide (HO.out.keptG kwo (fun gv h=>by have:=hvb gv h;have:=Hx5.out;exact⟨by omega,by omega,by omega⟩))
     have Rv:=hide (HRw.out.keptK kwo (fun s _ _ b o t _ h1 h2=>by have:=Hx5.out;exact⟨by omega,by omega,by omega⟩))
     have hro:=HRo.out
     rw[Nat.sub_self,List.replicate_zero,List.append_nil] at hro
     have Hro:=hide hro
     have hsz:w5.heap.size≤wr.heap.size:=Nat.le_trans hKo.size kwo.size
     have hss:ss.length+1≤1000000:=by
      have h1:=HRw.out.rows.len
      rw[planP_len] at h1
      omega
     go_upto_region 23 with(at_builtin;refine wpList_app1l (v:=pv) (xs:=ss) (base:=w5.heap.size) (k:=1) (bytes:=24) (E:=26) el_rows2 rfl (.tmp 92) (.tmp 94) rfl rfl rfl Ov.out ⟨some ⟨g,0,none⟩,m,m⟩ rfl hss hsz ?_;intro v' w10 o10 k10 hat;have Hat:=hide hat;clear hat;have O10:=hide o10;have K10:=hide k10;clear o10 k10)
     have hvb9:∀b,b < w5.heap.size→¬pv.ownBlock=some b:=fun b hb e=>by have:=hvb b e;omega
     have hgv:¬pv.ownBlock=some g:=fun e=>by have:=hvb g e;omega
     have e1:(planP (rs.map Rr.pr) m (i+1) st0).1=(planP (rs.map Rr.pr) m i st0).1 ++ [(rowP (rs.map Rr.pr) i m S).1]:=by simp only[planP];rw[←HS.out]
     have e2:(planP (rs.map Rr.pr) m (i+1) st0).2=T:=by simp only[planP];rw[←HS.out,←HT.out]
     have rg:Rd w10 w10.heap.size icell (some ⟨g,0,none⟩) (rowP (rs.map Rr.pr) i m S).1:=by
      obtain⟨A',c',e3,r'⟩:=(Hro.out.keptG K10.out (fun gg h=>by simp[Value.ownBlock] at h;subst h;exact hgv)).rdn m (rowP_len _ _ _ _)
      injection e3 with e3 _ _
      rw[e3];exact r'
     have G1:Hid (RowsN w10 w5.heap.size (ss ++ [⟨some ⟨g,0,none⟩,m,m⟩]) (planP (rs.map Rr.pr) m (i+1) st0).1):=by
      rw[e1]
      exact hide ((Rv.out.keptK K10.out (fun s hs hn b o t e h1 h2 e4=>HAp.out b e4 s hs hn b o t e rfl)).snoc (rowP_len _ _ _ _).symm rg (fun b o t e=>by injection e with e;injection e with e _ _;have:=hKo.size;omega))
     have G2:Hid (BAt w10 B2 (planP (rs.map Rr.pr) m (i+1) st0).2.ns (rs.map Rr.pr)):=by rw[e2];exact hide (HB2.out.keptO HA2.out.2.2.2 K10.out)
     have G3:Hid (B2.hs=(planP (rs.map Rr.pr) m (i+1) st0).2.hs∧B2.ss=(planP (rs.map Rr.pr) m (i+1) st0).2.ss∧B2.m=m∧B2.r=r):=by rw[e2];exact HE2
     have G4:=hide (HY7.out.kept K10.out (hvb9 b7 (by have:=Hx5.out;omega)))
     have G5:Hid (Bx w10 b9 [.int .i64 (planP (rs.map Rr.pr) m (i+1) st0).2.left]):=by rw[e2];exact hide (HY9.out.kept K10.out (hvb9 b9 Hx5.out))
     have G6:Hid (Away B2 b7∧Away B2 b9∧∀gv,v'.ownBlock=some gv→Away B2 gv):=hide ⟨HA2.out.1,HA2.out.2.1,fun gv h=>by
      rcases Hat.out with h1 | ⟨q,h1,h2⟩
      ·rw[h1] at h;exact HA2.out.2.2.2 gv h
      ·rw[h1] at h;injection h with h;subst h;exact HB2.out.away h2⟩
     have G7:Hid (StOk (rs.map Rr.pr) m (m*(i+1)) (planP (rs.map Rr.pr) m (i+1) st0).2):=by rw[e2,Nat.mul_succ];exact HS2
     have G8:Hid (Apart v' (ss ++ [⟨some ⟨g,0,none⟩,m,m⟩])):=hide fun gv h s hs hn b o t e=>by
      rcases List.mem_append.1 hs with hs | hs
      ·rcases Hat.out with h1 | ⟨q,h1,h2⟩
       ·rw[h1] at h;exact HAp.out gv h s hs hn b o t e
       ·rw[h1] at h;injection h with h;subst h
        obtain⟨j,hj,hjs⟩:=List.getElem_of_mem hs
        have hl:=Rv.out.rows.len
        have hrow:=Rv.out.rows.row j s _ (by rw[List.getElem?_eq_getElem hj,hjs]) (List.getElem?_eq_getElem (by omega))
        obtain⟨b',o',e',hb',_⟩:=hrow.2 (by rw[←hrow.1];exact hn)
        rw[e] at e';injection e' with e';injection e' with e' _ _
        omega
      ·rw[List.mem_singleton] at hs;subst hs
       injection e with e;injection e with e _ _
       rcases Hat.out with h1 | ⟨q,h1,h2⟩
       ·rw[h1] at h;have:=hvb gv h;omega
       ·rw[h1] at h;injection h with h;subst h
        have:=(Hro.out.blockG (g:=g) rfl).2
        omega
     have G9:=hide ((hKo.trans (kwo.mono fun b _ h=>⟨by have:=hKo.size;omega,h.2.2,h.2.1⟩)).trans (K10.out.mono fun b _ h=>hvb9 b h.1))
     clear rg e1 e2
     go_wp2_with fail
     exact⟨⟨i+1,_,B2,v',rfl,by omega,by go_num,O10,G1,G2,G3,G4,G5,G6,G7,G8,G9.out⟩,by simp[intOf];omega⟩
  ·obtain rfl:r=i:=by omega
   have HBe:=hide (Hb1.out.trans (hB.mono Hb1.out.size))
   go_wp2_with fail
   go_ret3
   have hmn:planP (rs.map Rr.pr) ns.length rs.length st0=planP (rs.map Rr.pr) m r st0:=by rw[←Hm.out,←Her.out]
   exact⟨_,by rw[Hp.out];first | rfl | simp,⟨ss,HO.out.mono (HB5w.out.size),by rw[Hp.out,hmn];exact HRw.out.rows⟩,HBe.out⟩
end Go.Proofs.YtiioegopckoldaaGreatDoor
