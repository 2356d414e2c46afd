/- lemmas for agentWrites_holds: AGB. No conditions. -/
import Derived.Test.YtgfghffihjfbpaaGreatDoorK25
import Derived.Test.YtgfghffihjfbpaaGreatDoorK07
import Derived.Test.YtgfghffihjfbpaaGreatDoorK09
import Derived.Handy
set_option linter.unusedVariables false
set_option linter.unusedSimpArgs false
namespace Go.Proofs.YtgfghffihjfbpaaGreatDoor
open Go.RowKit Go.Shelf
attribute [local go_sem] Oper.semAt_some
theorem Hang.kid_at {w:World} {base:Nat} {e:TypeId} {A:Option Addr} {N c:Nat} {ks:List Kid} {j:Nat} {kd:Kid} (h:Hang w base e 1 Kid.cells id (.slice A N c) ks) (hx:ks[j]?=some kd) :
 ∃g,A=some ⟨g,0,none⟩∧base≤g∧g < w.heap.size∧∀W,Kept (fun p=>base≤p∧p < w.heap.size) w W→W.cell? ⟨g,j,none⟩=some (.slice kd.A kd.n kd.c)∧KidOk W (fun p=>base≤p∧p < w.heap.size) kd:=by
 have hj:=(List.getElem?_eq_some_iff.1 hx).1
 obtain⟨A',c',hA,hr⟩:=h.own.rd
 injection hA with hA _ _
 subst hA
 obtain⟨g,rfl⟩:∃g,A=some ⟨g,0,none⟩:=by
  rcases h.own.2 with⟨_,h2⟩ | ⟨g,cap,_,hv,_⟩
  ·omega
  ·injection hv with hv _ _
   exact⟨g,hv⟩
 have hbk:=h.own.blockG (g:=g) rfl
 obtain⟨b,off,e1,_,hc⟩:=hr (by omega)
 injection e1 with e1
 injection e1 with e1 e2
 subst e1 e2
 have h1:=hc _ _ (flat_get Kid.len hx (j:=0) (by omega))
 simp only[Nat.mul_one,Nat.add_zero,Nat.zero_add] at h1
 refine⟨g,rfl,hbk.1,hbk.2,fun W hk=>⟨(hk.cell (p:=⟨g,j,none⟩) hbk hbk.2).trans h1,?_⟩⟩
 have h2:KidOk w (fun b=>base≤b∧¬(Value.slice (some ⟨g,0,none⟩) N c).ownBlock=some b) kd:=h.kids kd (List.mem_of_getElem? hx)
 exact(h2.mono (Z':=fun p=>base≤p∧p < w.heap.size) (fun b hb hz=>⟨hz.1,hb⟩)).kept hk (fun b hb=>hb)
theorem agrows_fn (b:Bo) (w:World) :
 Calls Tryz.prog 18 #[.agg #[.slice b.A1 b.n1 b.c1,.slice b.A2 b.n2 b.c2,.slice b.A3 b.n3 b.c3,.slice b.A4 b.n4 b.c4]] w fun e w'=>∃q,e= .returned (.func (.func 48) #[] #[.pointer (some ⟨q,0,none⟩)])∧Bx w' q b.cells∧w.heap.size≤q∧Below w.heap.size w w':=by
 obtain⟨b1,w1,e1,ew1,hx1,hb1,hz1⟩:=mk_bx w #[.slice b.A1 b.n1 b.c1,.slice b.A2 b.n2 b.c2,.slice b.A3 b.n3 b.c3,.slice b.A4 b.n4 b.c4] 27
 have hmf:∀(fn:Fn) (first cap:Array Value) (w:World),(Instr.makeFunc fn first cap).run Tryz.prog w= .ok (.func fn first cap) w:=fun _ _ _ _=>rfl
 have HX:=hide hx1;have HB:=hide hb1
 have h1:w.heap.size≤b1:=by have:=e1.out;omega
 clear hx1 hb1 hz1
 go_enter Tryz.func18,Tryz.ntmps18
 go_wp2_with fail
 rw[ew1.out,e1.out]
 go_wp2_with fail
 go_returns
 exact⟨b1,rfl,HX.out,by first | exact h1 | omega,by first | exact HB.out | (rw[←e1.out];exact HB.out)⟩
def rowV (i:Nat) (kd:Kid):Value:= .agg #[.string ⟨(letB i).toArray⟩,.string ⟨(worB i).toArray⟩,.func (.func (allF i)) #[] #[],.func (.func (addF i)) #[] #[],.slice kd.A kd.n kd.c]
def GivesR (L:List (Nat×List Int)):Nat→Nat→(Nat→Prop)→(Nat→Prop)→Array Value→World→Prop:=fun B k X _ args W=>∃kd:Kid,args= #[rowV (L.getD k (0,[])).1 kd]∧kd.xs=(L.getD k (0,[])).2∧KidOk W (fun p=>B≤p∧X p) kd
set_option maxHeartbeats 4000000 in
set_option maxRecDepth 100000 in
theorem agrows1_seq (n0:Nat) (hn0:6≤n0) (R:Nat→Prop) (q:Nat) (b:Bo) (wa:World) (hx:Bx wa q b.cells) (hok:∀W,Kept R wa W→b.ok W) (rq:R q) :
 SeqX n0 Tryz.prog 48 #[.pointer (some ⟨q,0,none⟩)] (GivesR b.rows) b.rows.length False (fun _ _=>False) (fun _=>False) R wa:=by
 intro l J Jx Wi hW hJ hJx hY h0 hinf
 have HJ:=hide hJ;have HJx:=hide hJx;have HY:=hide hY;have H0:=hide h0
 have HX:=hide (hx.kept hW rq)
 have HW:=hide hW;have Hok:=hide hok
 clear hJ hJx hY h0 hinf hx hok hW
 refine callsIn_of_wp Tryz.func48 rfl trivial ?_ rfl
 simp only[Tryz.ntmps48,List.size_toArray,List.length_cons,List.length_nil,Nat.reduceAdd,Nat.reduceSub,Array.replicate_succ,Array.replicate_zero,List.push_toArray,List.append_toArray,List.nil_append,List.cons_append]
 gi_wp2_with fail
 obtain⟨KV,hKV⟩:∃KV,KV=Value.agg (kindV 0 ++ kindV 1 ++ kindV 2 ++ kindV 3).toArray:=⟨_,rfl⟩
 have hck:=ag_kinds Wi
 rw[←hKV] at hck
 have Hix:Hid (∀i:Nat,i < 4→∀W:World,(Instr.index 87 KV (.int .i64 i)).run Tryz.prog W= .ok (.agg #[.string ⟨(letB i).toArray⟩,.string ⟨(worB i).toArray⟩,.func (.func (allF i)) #[] #[],.func (.func (addF i)) #[] #[]]) W):=hide (by
  intro i hi W
  subst hKV
  obtain rfl | rfl | rfl | rfl:i=0∨i=1∨i=2∨i=3:=by omega
  all_goals kernel_rfl)
 have Hck:=hide hck
 clear hKV hck
 refine wide_call (Hck.out.mono ?_)
 rintro e w1 ⟨rfl,hb1⟩
 have hj0:=hide (show J 0 (fun _=>False) w1 from HJ.out 0 (fun _=>False) _ Wi w1 H0.out (Kept.all _ hb1) (fun b hb=>hb.elim))
 have hK0:=hide (Kept.all R hb1)
 clear hb1
 gi_wp2_with fail
 gi_loopw [8] (fun iv wr=>∃i:Nat,iv= .int .i64 i∧i≤4∧Hid (J (b.upto i).length (fun _=>False) wr)∧Hid (Kept R Wi wr)) (fun iv _=>4-(intOf iv).toNat)
 case atStart=>exact⟨0,rfl,by omega,hj0,hK0⟩
 case round=>
  clear hj0 hK0
  obtain⟨i,rfl,hi,hJ,hkp⟩:=hrel
  by_cases hlt:i < 4
  ·have ii:(i:Int) < 4:=by omega
   have hix:=Hix.out i hlt
   obtain⟨b4,w4,e4,ew4,hx4,hb4,hz4⟩:=mk_bx wr #[.string ⟨(letB i).toArray⟩,.string ⟨(worB i).toArray⟩,.func (.func (allF i)) #[] #[],.func (.func (addF i)) #[] #[]] 65
   have hk4:=hkp.out.trans (Kept.all R hb4)
   have Hoki:=hide (Hok.out w4 (HW.out.trans hk4))
   have HA:=hide (ak_any b i w4 hlt Hoki.out)
   have eg:=all_enters i hlt
   obtain⟨z0,z1,z2,z3⟩:=hx4.at_.c4
   obtain⟨q0,q1,q2,q3⟩:=(HX.out.kept hk4 rq).at_.c4
   have Hx4:=hide hx4;have HK4:=hide hk4;have HB4:=hide hb4
   clear hx4 hb4 hz4 hk4
   rw[←ew4.out] at z0 z1 z2 z3 q0 q1 q2 q3
   rw[←e4.out] at z0 z1 z2 z3
   gi_wp2_with fail
   rw[ew4.out,e4.out]
   clear z0 z1 z2 z3 q0 q1 q2 q3 hix
   refine wide_call (HA.out.mono ?_)
   rintro e w5 ⟨v,ks,rfl,hh,hks,hb5⟩
   obtain⟨N,hN⟩:∃N,ks.length=N:=⟨_,rfl⟩
   obtain⟨A,c,rfl,_⟩:=hh.own.rdn N hN
   have hlen:(b.nums i).length=N:=by rw[←hks,List.length_map,hN]
   have hN3:N≤300:=by
    have h1:=b.upto_succ i
    have h2:=b.upto_le (i:=i+1) (by omega)
    have h3:=Hoki.out.rows_le
    omega
   have hb45:=HB4.out.trans (hb5.mono HB4.out.size)
   obtain⟨X,hX⟩:∃X:Nat→Prop,X=fun p=>wr.heap.size≤p∧p < w5.heap.size:=⟨_,rfl⟩
   have HX1:Hid (∀p,X p→wr.heap.size≤p∧p < w5.heap.size):=hide (fun p hp=>by rw[hX] at hp;exact hp)
   have HX2:Hid (∀p,wr.heap.size≤p→p < w5.heap.size→X p):=hide (fun p h1 h2=>by rw[hX];exact⟨h1,h2⟩)
   have HH:=hide (hh.mono HB4.out.size)
   have hj5:=hide (show J ((b.upto i).length+0) X w5 from HJ.out _ (fun _=>False) X wr w5 hJ.out (Kept.all _ hb45) (fun p hp=> .inr (HX1.out p hp).1))
   have hk5:=hide (hkp.out.trans (Kept.all R hb45))
   have HZ4:=hide (Hx4.out.bel hb5)
   have h4X:X b4:=HX2.out _ (by have:=e4.out;omega) (by have:=HZ4.out.lt;omega)
   have hkx:=hide (Kept.refl X w5)
   have hs0:=hkp.out.size
   have Hks:=hide hks;have HN:=hide hN;have Hlen:=hide hlen
   clear hh hks hb5 hX hN hlen hb45 HA eg Hx4 HK4 HB4 hJ
   gi_wp2_with fail
   gi_loopw [16] (fun jv w2=>∃j:Nat,jv= .int .i64 j∧j≤N∧Hid (J ((b.upto i).length+j) X w2)∧Hid (Kept R Wi w2)∧Hid (Kept X w5 w2)) (fun jv _=>N-(intOf jv).toNat)
   case atStart=>exact⟨0,rfl,by omega,hj5,hk5,hkx⟩
   case round=>
    clear hj5 hk5 hkx
    obtain⟨j,rfl,hj,hJ,hk,hkx⟩:=hrel
    by_cases hjn:j < N
    ·have ij:(j:Int) < (N:Int):=by omega
     obtain⟨kd,hkd⟩:∃kd,ks[j]?=some kd:=⟨_,List.getElem?_eq_getElem (by have:=HN.out;omega)⟩
     have hxs:(b.nums i)[j]?=some kd.xs:=by rw[←Hks.out,List.getElem?_map,hkd];rfl
     obtain⟨hrow,hrl⟩:=b.row_getD hlt hxs
     obtain⟨g,hA,hg1,hg2,hkk⟩:=HH.out.kid_at hkd
     subst hA
     obtain⟨ck,hok⟩:=hkk _ (hkx.out.mono fun p _ hp=>HX2.out p hp.1 hp.2)
     have hE:GivesR b.rows Wi.heap.size ((b.upto i).length+j) X (fun _=>False) #[rowV i kd] _:=⟨kd,by rw[hrow],by rw[hrow],hok.mono fun p _ hp=>⟨Nat.le_trans hs0 hp.1,HX2.out p hp.1 hp.2⟩⟩
     have hyy:=HY.out _ X (fun _=>False) _ _ (HJ.out _ _ _ _ _ hJ.out (Kept.refl _ _) (fun p hp=>by rcases hp with h | h;exact .inl h;exact h.elim)) (fun p hp=>by rcases hp with h | h;exact Nat.lt_of_lt_of_le (HX1.out p h).2 hkx.out.size;exact h.elim) hE hrl
     unfold rowV at hyy
     obtain⟨fn,tmps,assign,body,hy,hR⟩:=hyy
     have HR:=hide hR
     obtain⟨z0,z1,z2,z3⟩:=(HZ4.out.kept hkx.out h4X).at_.c4
     have Hrl:=hide hrl
     clear hR hE hkd hxs hrow hkk hok hrl
     gi_wp2_with fail
     refine⟨fun h=>by simp[Fence.wide] at h,HR.out.mono ?_⟩
     rintro e W3 (⟨rfl,hJ3,hk3⟩ | ⟨rfl,hJx3,hk3⟩)
     ·have hj3:=hide hJ3
      have hK3:=hide (hk.out.trans (hk3.mono fun _ _ h=> .inl h))
      have hX3:=hide (hkx.out.trans (hk3.mono fun _ _ h=> .inr h))
      clear hJ3 hk3 hy z0 z1 z2 z3 ck HR
      gi_wp2_with fail
      exact⟨⟨j+1,by go_num,by omega,hj3,hK3,hX3⟩,by simp[intOf];omega⟩
     ·clear hy z0 z1 z2 z3 ck HR
      gi_wp2_with fail
      repeat(refine⟨fun _ h=>(by cases h),?_⟩;gi_wp2_with fail)
      refine bodyPost_ret (results_none rfl _ _ _) rfl ?_
      exact .inl ⟨_,rfl,_,.inr ⟨_,by have:=Hrl.out;omega,hJx3⟩⟩
    ·obtain rfl:N=j:=by omega
     have hjE:=hide (show J (b.upto (i+1)).length (fun _=>False) _ from by
      rw[b.upto_succ i,Hlen.out]
      exact HJ.out _ _ _ _ _ hJ.out (Kept.refl _ _) (fun p hp=>hp.elim))
     gi_wp2_with fail
     exact⟨⟨i+1,by go_num,by omega,hjE,hk⟩,by simp[intOf];omega⟩
  ·obtain rfl:i=4:=by omega
   have hjE:J b.rows.length (fun _=>False) _:=hJ.out
   gi_wp2_with fail
   go_end0
   exact .inl ⟨_,rfl,_,.inl hjE⟩
end Go.Proofs.YtgfghffihjfbpaaGreatDoor
