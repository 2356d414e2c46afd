/- lemmas for topFed_holds: ZA Q1. No conditions. -/
import Derived.Test.YtiioegopckoldaaGreatDoorK30
import Derived.Test.YtiioegopckoldaaGreatDoorK31
import Derived.Test.YtiioegopckoldaaGreatDoorK08
import Derived.Test.YtiioegopckoldaaGreatDoorK01
set_option linter.unusedVariables false
set_option linter.unusedSimpArgs false
namespace Go.Proofs.YtiioegopckoldaaGreatDoor
open Go.RowKit Go.Shelf
theorem So.one (s:So):∀u∈s.cells,u.oneCell'=true:=by simp[So.cells,Value.oneCell']
theorem Rd.so {w:World} {B:Nat} {A:Option Addr} {xs:List So} (h:Rd w B So.cells A xs) {i:Nat} (hi:i < xs.length) :
 ∃b off a0 a1 li cr m0 m1 w0 w1 r0 r1,A=some ⟨b,off,none⟩∧b < B∧xs[i]?=some ⟨⟨a0,a1⟩,li,cr,⟨m0,m1⟩,⟨w0,w1⟩,⟨r0,r1⟩⟩∧w.cell? ⟨b,off+i*10,none⟩=some (.int .i64 a0)∧w.cell? ⟨b,off+i*10+1,none⟩=some (.int .i64 a1)∧w.cell? ⟨b,off+i*10+2,none⟩=some (.int .i64 li)∧w.cell? ⟨b,off+i*10+3,none⟩=some (.int .i64 cr)∧w.cell? ⟨b,off+i*10+4,none⟩=some (.int .i64 m0)∧w.cell? ⟨b,off+i*10+5,none⟩=some (.int .i64 m1)∧w.cell? ⟨b,off+i*10+6,none⟩=some (.int .i64 w0)∧w.cell? ⟨b,off+i*10+7,none⟩=some (.int .i64 w1)∧w.cell? ⟨b,off+i*10+8,none⟩=some (.int .i64 r0)∧w.cell? ⟨b,off+i*10+9,none⟩=some (.int .i64 r1):=by
 obtain⟨b,off,e,hB,hc⟩:=h (by omega)
 have hx:xs[i]?=some xs[i]:=List.getElem?_eq_getElem hi
 have g:=fun j (hj:j < 10) v hv=>hc (i*10+j) v (by rw[flat_get So.len hx hj];exact hv)
 exact⟨b,off,_,_,_,_,_,_,_,_,_,_,e,hB,hx,g 0 (by omega) _ rfl,g 1 (by omega) _ rfl,g 2 (by omega) _ rfl,g 3 (by omega) _ rfl,g 4 (by omega) _ rfl,g 5 (by omega) _ rfl,g 6 (by omega) _ rfl,g 7 (by omega) _ rfl,g 8 (by omega) _ rfl,g 9 (by omega) _ rfl⟩
theorem indexfunc_So (f:FuncId) (cp:Array Value) (p:So→Bool) (A:Option Addr) (xs:List So) (n c:Nat) (w:World) (hn:n=xs.length) (hm:n≤9223372036854775807)
 (eg:∀args w,(callFunc f args).run Tryz.prog w= .ok (.enter f args) w) (hx:Rd w w.heap.size So.cells A xs)
 (hf:∀a0 a1 li cr m0 m1 w0 w1 r0 r1 w',Below w.heap.size w w'→Calls Tryz.prog f (#[.agg #[.int .i64 a0,.int .i64 a1,.int .i64 li,.int .i64 cr,.int .i64 m0,.int .i64 m1,.int .i64 w0,.int .i64 w1,.int .i64 r0,.int .i64 r1]] ++ cp) w' fun e w''=>e= .returned (.bool (p ⟨⟨a0,a1⟩,li,cr,⟨m0,m1⟩,⟨w0,w1⟩,⟨r0,r1⟩⟩))∧Below w'.heap.size w' w'') :
 Calls Tryz.prog 141 #[.slice A n c,.func (.func f) #[] cp] w fun e w'=>∃r:Int,e= .returned (.int .i64 r)∧decide (0≤r)=xs.any p∧Below w.heap.size w w':=by
 have Hn:=hide hn;clear hn
 have Hx:=hide hx;clear hx
 have Hf:=hide hf;clear hf
 go_enter Tryz.func141,Tryz.ntmps141
 go_wp2_with fail
 go_loopw [4,8] (fun v i wr=>∃k:Nat,k≤n∧i= .int .i64 k∧Below w.heap.size w wr∧Hid (∀y∈xs.take k,p y=false)) (fun _ i _=>n-(intOf i).toNat)
 case atStart=>exact⟨0,by omega,rfl,Below.refl _ _,hide pre_nil⟩
 case round=>
  obtain⟨k,hk,rfl,hb,hpre⟩:=hrel
  by_cases hlt:k < n
  ·obtain⟨b,off,a0,a1,li,cr,m0,m1,w0,w1,r0,r1,rfl,hB,hxk,c0,c1,c2,c3,c4,c5,c6,c7,c8,c9⟩:=(Hx.out.below hb).so (i:=k) (by have:=Hn.out;omega)
   have H:=hide (Hf.out a0 a1 li cr m0 m1 w0 w1 r0 r1 wr hb)
   have Hxk:=hide hxk;clear hxk
   go_wp2_with (go_at_fn f;refine H.out.mono ?_;rintro e w' ⟨rfl,hb'⟩)
   ·go_ret
    have hp:p ⟨⟨a0,a1⟩,li,cr,⟨m0,m1⟩,⟨w0,w1⟩,⟨r0,r1⟩⟩=true:=by assumption
    exact⟨k,rfl,by rw[any_hit Hxk.out hp];simp,hb.trans (hb'.mono hb.size)⟩
   ·have hp:p ⟨⟨a0,a1⟩,li,cr,⟨m0,m1⟩,⟨w0,w1⟩,⟨r0,r1⟩⟩=false:=by assumption
    exact⟨⟨k+1,by omega,by go_num,hb.trans (hb'.mono hb.size),hide (pre_snoc Hxk.out hp hpre.out)⟩,by simp[intOf];omega⟩
  ·go_wp2
   go_ret
   exact⟨-1,rfl,by rw[any_miss (k:=k) (by have:=Hn.out;omega) hpre.out];simp,hb⟩
theorem containsfunc_So (f:FuncId) (cp:Array Value) (p:So→Bool) (A:Option Addr) (xs:List So) (n c:Nat) (w:World) (hn:n=xs.length) (hm:n≤9223372036854775807)
 (eg:∀args w,(callFunc f args).run Tryz.prog w= .ok (.enter f args) w) (hx:Rd w w.heap.size So.cells A xs)
 (hf:∀a0 a1 li cr m0 m1 w0 w1 r0 r1 w',Below w.heap.size w w'→Calls Tryz.prog f (#[.agg #[.int .i64 a0,.int .i64 a1,.int .i64 li,.int .i64 cr,.int .i64 m0,.int .i64 m1,.int .i64 w0,.int .i64 w1,.int .i64 r0,.int .i64 r1]] ++ cp) w' fun e w''=>e= .returned (.bool (p ⟨⟨a0,a1⟩,li,cr,⟨m0,m1⟩,⟨w0,w1⟩,⟨r0,r1⟩⟩))∧Below w'.heap.size w' w'') :
 Calls Tryz.prog 75 #[.slice A n c,.func (.func f) #[] cp] w fun e w'=>e= .returned (.bool (xs.any p))∧Below w.heap.size w w':=by
 have H:=hide (indexfunc_So f cp p A xs n c w hn hm eg hx hf);clear hx hf hn eg
 go_enter Tryz.func75,Tryz.ntmps75
 go_wp2_with (go_at_call 141;refine H.out.mono ?_;rintro e w' ⟨r,rfl,hr,hb⟩;have Hr:=hide hr;clear hr)
 go_ret
 exact⟨by rw[←Hr.out];rfl,hb⟩
theorem enters_wants1:∀args w,(callFunc 76 args).run Tryz.prog w= .ok (.enter 76 args) w:=enters_of Tryz.func76 (by kernel_rfl) rfl
theorem wants1_any (a0 a1 li cr m0 m1 w0 w1 r0 r1:Int) (w:World):Calls Tryz.prog 76 #[.agg #[.int .i64 a0,.int .i64 a1,.int .i64 li,.int .i64 cr,.int .i64 m0,.int .i64 m1,.int .i64 w0,.int .i64 w1,.int .i64 r0,.int .i64 r1]] w fun e w'=>e= .returned (.bool (!(soOk ⟨⟨a0,a1⟩,li,cr,⟨m0,m1⟩,⟨w0,w1⟩,⟨r0,r1⟩⟩)))∧Below w.heap.size w w':=by
 obtain⟨b1,w1',e1,ew1,hx1,hb1,hz1⟩:=mk_bx w #[.int .i64 a0,.int .i64 a1,.int .i64 li,.int .i64 cr,.int .i64 m0,.int .i64 m1,.int .i64 w0,.int .i64 w1,.int .i64 r0,.int .i64 r1] 51
 have hck:=salt_check a0 a1 li cr m0 m1 w0 w1 r0 r1 w1'
 go_enter Tryz.func76,Tryz.ntmps76
 go_wp2_with fail
 rw[ew1.out]
 refine hck.mono ?_
 rintro e w' ⟨rfl,hb⟩
 have hs:soOk ⟨⟨a0,a1⟩,li,cr,⟨m0,m1⟩,⟨w0,w1⟩,⟨r0,r1⟩⟩=true∨soOk ⟨⟨a0,a1⟩,li,cr,⟨m0,m1⟩,⟨w0,w1⟩,⟨r0,r1⟩⟩=false:=by cases soOk ⟨⟨a0,a1⟩,li,cr,⟨m0,m1⟩,⟨w0,w1⟩,⟨r0,r1⟩⟩ <;> simp
 rcases hs with hs | hs
 ·have hc:soCheck ⟨⟨a0,a1⟩,li,cr,⟨m0,m1⟩,⟨w0,w1⟩,⟨r0,r1⟩⟩=0:=by unfold soCheck;rw[hs];rfl
  have Hs:=hide hs
  rw[hc]
  clear hs hc
  go_wp2_with fail
  go_ret
  exact⟨by rw[Hs.out];rfl,hb1.trans (hb.mono hb1.size)⟩
 ·have hc:soCheck ⟨⟨a0,a1⟩,li,cr,⟨m0,m1⟩,⟨w0,w1⟩,⟨r0,r1⟩⟩=60:=by unfold soCheck;rw[hs];rfl
  have Hs:=hide hs
  rw[hc]
  clear hs hc
  go_wp2_with fail
  go_ret
  exact⟨by rw[Hs.out];rfl,hb1.trans (hb.mono hb1.size)⟩
structure WOk (cs:List Ca) (fs:List Int) (dry days a b:Int) (ss:List So) (k:Nat) (out:List Int):Prop where
 len:out.length=k
 all:∀j,j < k→∃s n r,ss[j]?=some s∧needF s=(n,0)∧minutesP cs fs dry days a b (j:Int) n r 0∧out[j]?=some r
theorem WOk.nil {cs:List Ca} {fs:List Int} {dry days a b:Int} {ss:List So}:WOk cs fs dry days a b ss 0 []:=⟨rfl,fun j hj=>by omega⟩
theorem WOk.snoc {cs:List Ca} {fs:List Int} {dry days a b:Int} {ss:List So} {k:Nat} {out:List Int} {s:So} {n r:Int} (h:WOk cs fs dry days a b ss k out) (hs:ss[k]?=some s) (hn:needF s=(n,0)) (hm:minutesP cs fs dry days a b (k:Int) n r 0):WOk cs fs dry days a b ss (k+1) (out ++ [r]):=by
 refine⟨by rw[List.length_append,h.len];rfl,fun j hj=>?_⟩
 by_cases hjk:j < k
 ·obtain⟨s',n',r',h1,h2,h3,h4⟩:=h.all j hjk
  exact⟨s',n',r',h1,h2,h3,by rw[List.getElem?_append_left (by rw[h.len];exact hjk)];exact h4⟩
 ·obtain rfl:j=k:=by omega
  exact⟨s,n,r,hs,hn,hm,by rw[List.getElem?_append_right (by rw[h.len];exact Nat.le_refl _),h.len,Nat.sub_self];rfl⟩
theorem WOk.one {cs:List Ca} {fs:List Int} {dry days a b:Int} {ss:List So} {k:Nat} {o p:List Int} (h:WOk cs fs dry days a b ss k o) (g:WOk cs fs dry days a b ss k p):o=p:=by
 refine List.ext_getElem? fun j=>?_
 by_cases hj:j < k
 ·obtain⟨s,n,r,h1,h2,h3,h4⟩:=h.all j hj
  obtain⟨s',n',r',g1,g2,g3,g4⟩:=g.all j hj
  rw[h1] at g1;injection g1 with g1;subst g1
  rw[h2] at g2;injection g2 with g2 _;subst g2
  rw[h4,g4,(minutesP_one h3 g3).1]
 ·rw[List.getElem?_eq_none (by rw[h.len];omega),List.getElem?_eq_none (by rw[g.len];omega)]
def WStop (cs:List Ca) (fs:List Int) (dry days a b:Int) (ss:List So) (k:Nat):Prop:=∃s,ss[k]?=some s∧((needF s).2=6∨∃n r e,needF s=(n,0)∧minutesP cs fs dry days a b (k:Int) n r e∧e≠0)
theorem WOk.stop {cs:List Ca} {fs:List Int} {dry days a b:Int} {ss:List So} {k j:Nat} {o:List Int} (h:WOk cs fs dry days a b ss k o) (g:WStop cs fs dry days a b ss j):k≤j:=by
 by_cases hj:j < k
 ·exfalso
  obtain⟨s,n,r,h1,h2,h3,_⟩:=h.all j hj
  obtain⟨s',g1,g2⟩:=g
  rw[h1] at g1;injection g1 with g1;subst g1
  rcases g2 with g2 | ⟨n',r',e',g2,g3,g4⟩
  ·rw[h2] at g2;cases g2
  ·rw[h2] at g2;injection g2 with g2 _;subst g2
   exact g4 (minutesP_one h3 g3).2.symm
 ·omega
def wantsP (cs:List Ca) (fs:List Int) (dry days a b:Int) (ss:List So) (out:List Int) (i e:Int):Prop:=
 if netOk cs fs dry days then(if Sp.ok 0 13000000 ⟨a,b⟩ then(if ss.length=fs.length∧ss.all soOk=true then
  (WOk cs fs dry days a b ss ss.length out∧i=0∧e=0)∨(∃(k:Nat) (o:List Int),out=[]∧i=k∧e=6∧WOk cs fs dry days a b ss k o∧WStop cs fs dry days a b ss k)
  else(out=[]∧i=0∧e=61)) else(out=[]∧i=0∧e=21)) else(out=[]∧i=0∧e=50)
theorem wantsP_one {cs:List Ca} {fs:List Int} {dry days a b:Int} {ss:List So} {o p:List Int} {i e j f:Int} (h:wantsP cs fs dry days a b ss o i e) (g:wantsP cs fs dry days a b ss p j f):o=p∧i=j∧e=f:=by
 unfold wantsP at h g
 split at h
 ·rename_i h1
  rw[if_pos h1] at g
  split at h
  ·rename_i h2
   rw[if_pos h2] at g
   split at h
   ·rename_i h3
    rw[if_pos h3] at g
    rcases h with⟨a1,rfl,rfl⟩ | ⟨k,o1,rfl,rfl,rfl,a1,a2⟩ <;> rcases g with⟨b1,rfl,rfl⟩ | ⟨l,p1,rfl,rfl,rfl,b1,b2⟩
    ·exact⟨a1.one b1,rfl,rfl⟩
    ·have:=a1.stop b2
     obtain⟨s,hs,_⟩:=b2
     have:=(List.getElem?_eq_some_iff.1 hs).1
     omega
    ·have:=b1.stop a2
     obtain⟨s,hs,_⟩:=a2
     have:=(List.getElem?_eq_some_iff.1 hs).1
     omega
    ·have h5:=a1.stop b2
     have h6:=b1.stop a2
     exact⟨rfl,by omega,rfl⟩
   ·rename_i h3
    rw[if_neg h3] at g
    exact⟨by rw[h.1,g.1],by rw[h.2.1,g.2.1],by rw[h.2.2,g.2.2]⟩
  ·rename_i h2
   rw[if_neg h2] at g
   exact⟨by rw[h.1,g.1],by rw[h.2.1,g.2.1],by rw[h.2.2,g.2.2]⟩
 ·rename_i h1
  rw[if_neg h1] at g
  exact⟨by rw[h.1,g.1],by rw[h.2.1,g.2.1],by rw[h.2.2,g.2.2]⟩
theorem needF_ok {s:So} (h:soOk s=true):needF s=needR s∧((needF s).2=0∨(needF s).2=6):=by
 have e:needF s=needR s:=by unfold needF;rw[if_pos h]
 refine⟨e,?_⟩
 rw[e];unfold needR
 dsimp only
 split
 ·exact .inl rfl
 ·split
  ·exact .inr rfl
  ·split
   ·exact .inl rfl
   ·exact .inr rfl
theorem minutes_err {cs:List Ca} {fs:List Int} {dry days a b k want r e:Int} (h:minutesP cs fs dry days a b k want r e) (hok:netOk cs fs dry days=true) (hs:Sp.ok 0 13000000 ⟨a,b⟩=true):e=0∨e=6∨e=2:=by
 unfold minutesP at h
 rw[if_pos hok,if_pos hs] at h
 split at h
 ·rcases h with⟨rfl,_⟩ | ⟨rfl,_⟩
  ·exact .inr (.inl rfl)
  ·exact .inl rfl
 ·exact .inr (.inr h.2)
end Go.Proofs.YtiioegopckoldaaGreatDoor
namespace Go.Proofs.YtiioegopckoldaaGreatDoor
open Go.RowKit Go.Shelf
set_option maxHeartbeats 4000000 in
set_option maxRecDepth 100000 in
theorem wants_fn (Ac Af A:Option Addr) (nc cc nf cf n c:Nat) (dry days a b:Int) (cs:List Ca) (fs:List Int) (ss:List So) (w:World) (hnet:NetAt w Ac Af nc nf cs fs) (hn:n=ss.length) (hm:n≤1000) (hx:Rd w w.heap.size So.cells A ss) :
 Calls Tryz.prog 27 #[.agg #[.slice Ac nc cc,.slice Af nf cf,.int .i64 dry,.int .i64 days],.agg #[.int .i64 a,.int .i64 b],.slice A n c] w fun e w'=>∃v out i er,e= .returned (.tuple #[v,.int .i64 i,.int .i64 er])∧Own w' w.heap.size 3 1 icell v out∧wantsP cs fs dry days a b ss out i er∧Below w.heap.size w w':=by
 obtain⟨b3,w1,e3,ew1,hx3,hb1,hz1⟩:=mk_bx w #[.slice Ac nc cc,.slice Af nf cf,.int .i64 dry,.int .i64 days] 28
 obtain⟨b4,w2,e4,ew2,hx4,hb2,hz2⟩:=mk_bx w1 #[.int .i64 a,.int .i64 b] 24
 have e34:b3+1=b4:=by have:=e4.out;omega
 have hB2:=hb1.trans (hb2.mono hb1.size)
 have N2:=hnet.below hB2;have r2:=hx.bel hB2
 replace hx3:=hx3.bel hb2
 have Hn:=hide hn
 clear hn hnet hx hb1 hb2 hz1 hz2
 go_enter Tryz.func27,Tryz.ntmps27
 go_wp2_with fail
 rw[ew1.out,e3.out,e34,ew2.out]
 obtain⟨q0,q1,q2,q3⟩:=hx3.at_.c4
 refine(chanCheck_any Ac Af nc cc nf cf dry days cs fs w2 N2).mono ?_
 rintro e w3 ⟨rfl,hb3⟩
 have hB3:=hB2.trans (hb3.mono hB2.size)
 replace hx3:=hx3.bel hb3;replace hx4:=hx4.bel hb3;replace N2:=N2.below hb3;replace r2:=r2.bel hb3
 clear q0 q1 q2 q3 hb3 hB2
 unfold netErr
 cases hok:netOk cs fs dry days
 ·have Hok:=hide hok
  clear hok
  rw[if_neg (by decide)]
  go_wp2_with fail
  go_ret3
  exact⟨_,[],0,50,rfl,Own.nil _ _ _ _ _,by unfold wantsP;rw[Hok.out];exact⟨rfl,rfl,rfl⟩,hB3⟩
 have Hok:=hide hok
 clear hok
 rw[if_pos rfl]
 obtain⟨p0,p1,_,_⟩:=hx4.w2
 go_wp2_with fail
 refine(salt_proper _ _ _ _).mono ?_
 rintro e w4 ⟨rfl,hb4⟩
 have hB4:=hB3.trans (hb4.mono hB3.size)
 replace hx3:=hx3.bel hb4;replace hx4:=hx4.bel hb4;replace N2:=N2.below hb4;replace r2:=r2.bel hb4
 clear p0 p1 hb4 hB3
 cases hsp:Sp.ok 0 13000000 ⟨a,b⟩
 ·have Hsp:=hide hsp
  clear hsp
  go_wp2_with fail
  go_ret3
  exact⟨_,[],0,21,rfl,Own.nil _ _ _ _ _,by unfold wantsP;rw[Hok.out,Hsp.out];exact⟨rfl,rfl,rfl⟩,hB4⟩
 have Hsp:=hide hsp
 clear hsp
 obtain⟨q0,q1,q2,q3⟩:=hx3.at_.c4
 have hnf:=N2.nf2
 by_cases hnn:n=nf
 rotate_left
 ·have h1:((n:Int) == (nf:Int))=false:=by simp;omega
  have h2:((n:Int) != (nf:Int))=true:=by simp;omega
  have Hq:=hide (show ¬(ss.length=fs.length∧ss.all soOk=true) by rintro⟨h,_⟩;have:=N2.ef;have:=Hn.out;omega)
  clear hnn
  go_wp2_with fail
  go_ret3
  exact⟨_,[],0,61,rfl,Own.nil _ _ _ _ _,by unfold wantsP;rw[if_pos Hok.out,if_pos Hsp.out,if_neg Hq.out];exact⟨rfl,rfl,rfl⟩,hB4⟩
 have h1:((n:Int) == (nf:Int))=true:=by simp;omega
 have h2:((n:Int) != (nf:Int))=false:=by simp;omega
 have hlen:=hide (show ss.length=fs.length by have:=N2.ef;have:=Hn.out;omega)
 clear hnn
 go_wp2_with fail
 refine(containsfunc_So 76 #[] (fun s=>!(soOk s)) A ss n c w4 Hn.out (by omega) enters_wants1 r2 (fun a0 a1 li cr m0 m1 w0 w1 r0 r1 w' _=>wants1_any a0 a1 li cr m0 m1 w0 w1 r0 r1 w')).mono ?_
 rintro e w5 ⟨rfl,hb5⟩
 have hB5:=hB4.trans (hb5.mono hB4.size)
 replace hx3:=hx3.bel hb5;replace hx4:=hx4.bel hb5;replace N2:=N2.below hb5;replace r2:=r2.bel hb5
 clear q0 q1 q2 q3 hb5 hB4 h1 h2
 cases hany:ss.any (fun s=>!(soOk s))
 rotate_left
 ·have Hq:=hide (show ¬(ss.length=fs.length∧ss.all soOk=true) by
   rintro⟨_,h⟩
   obtain⟨s,hs,h1⟩:=List.any_eq_true.1 hany
   rw[List.all_eq_true.1 h s hs] at h1
   cases h1)
  clear hany
  go_wp2_with fail
  go_ret3
  exact⟨_,[],0,61,rfl,Own.nil _ _ _ _ _,by unfold wantsP;rw[if_pos Hok.out,if_pos Hsp.out,if_neg Hq.out];exact⟨rfl,rfl,rfl⟩,hB5⟩
 have Hso:=hide (show ∀s∈ss,soOk s=true by
  intro s hs
  have h:=List.any_eq_false.1 hany s hs
  cases hh:soOk s
  ·rw[hh] at h;exact absurd rfl h
  ·rfl)
 have Hall:=hide (show ss.length=fs.length∧ss.all soOk=true from⟨hlen.out,List.all_eq_true.2 Hso.out⟩)
 have X3:=hide hx3;have X4:=hide hx4;have N5:=hide N2;have R5:=hide r2
 obtain⟨w6,rfl⟩:∃w6,w6=w5:=⟨w5,rfl⟩
 have hbs:=hx4.lt
 clear hany hx3 hx4 N2 r2
 go_wp2_with fail
 go_loopw [6,35] (fun v i wr=>∃(k:Nat) (out:List Int),k≤n∧i= .int .i64 k∧Hid (WOk cs fs dry days a b ss k out)∧Hid (Own wr w6.heap.size 3 1 icell v out)∧Below w6.heap.size w6 wr) (fun _ i _=>n-(intOf i).toNat)
 case atStart=>exact⟨0,[],by omega,rfl,hide WOk.nil,hide (Own.nil _ _ _ _ _),Below.refl _ _⟩
 case round=>
  obtain⟨k,out,hk,rfl,HW,HO,hb⟩:=hrel
  have HB:=hide (hB5.trans (hb.mono hB5.size))
  by_cases hlt:k < n
  ·obtain⟨b7,off,a0,a1,li,cr,m0,m1,w0,w1',r0,r1,hA,hBB,hxk,c0,c1,c2,c3,c4,c5,c6,c7,c8,c9⟩:=(R5.out.bel hb).so (i:=k) (by have:=Hn.out;omega)
   subst hA
   obtain⟨b11,w7,e11,ew11,hx11,hb7,hz7⟩:=mk_bx wr #[.int .i64 a0,.int .i64 a1,.int .i64 li,.int .i64 cr,.int .i64 m0,.int .i64 m1,.int .i64 w0,.int .i64 w1',.int .i64 r0,.int .i64 r1] 51
   have Hxk:=hide hxk
   obtain⟨hnr,hne⟩:=needF_ok (Hso.out _ (List.mem_of_getElem? hxk))
   obtain⟨nv,ne,hnv⟩:∃nv ne,needF ⟨⟨a0,a1⟩,li,cr,⟨m0,m1⟩,⟨w0,w1'⟩,⟨r0,r1⟩⟩=(nv,ne):=⟨_,_,rfl⟩
   rw[hnv] at hne
   have Hnv:=hide hnv
   have Hb:=hide hb
   have ik:(k:Int) < (n:Int):=by omega
   clear hxk hnr hnv hb
   go_wp2_with fail
   rw[ew11.out]
   refine(need_fn a0 a1 li cr m0 m1 w0 w1' r0 r1 w7).mono ?_
   rintro e w8 ⟨rfl,hb8⟩
   rw[Hnv.out]
   have h58:=(Hb.out.trans (hb7.mono Hb.out.size)).trans (hb8.mono (Hb.out.trans (hb7.mono Hb.out.size)).size)
   have HB8:=hide (hB5.trans (h58.mono hB5.size))
   clear c0 c1 c2 c3 c4 c5 c6 c7 c8 c9 hz7
   rcases hne with hne | hne
   rotate_left
   ·subst hne
    go_wp2_with fail
    go_ret3
    exact⟨_,[],k,6,rfl,Own.nil _ _ _ _ _,by
     unfold wantsP
     rw[if_pos Hok.out,if_pos Hsp.out,if_pos Hall.out]
     exact .inr ⟨k,out,rfl,rfl,rfl,HW.out,_,Hxk.out,.inl (by rw[Hnv.out])⟩,HB8.out⟩
   subst hne
   obtain⟨q0,q1,q2,q3⟩:=(X3.out.bel h58).at_.c4
   obtain⟨p0,p1,_,_⟩:=(X4.out.bel h58).w2
   go_wp2_with fail
   refine(minutes_fn Ac Af nc cc nf cf dry days a b k nv cs fs w8 (N5.out.below h58)).mono ?_
   rintro e w9 ⟨r,er,rfl,hmin,hb9⟩
   have h59:=h58.trans (hb9.mono h58.size)
   have hre:=minutes_err hmin Hok.out Hsp.out
   have Hmin:=hide hmin
   have HB9:=hide (hB5.trans (h59.mono hB5.size))
   clear q0 q1 q2 q3 p0 p1 hmin
   by_cases he0:er=0
   ·subst he0
    clear hre
    obtain⟨Ao,co,rfl,ro⟩:=HO.out.rdn k HW.out.len
    have h79:=hb7.trans ((hb8.trans (hb9.mono hb8.size)).mono hb7.size)
    have O9:=hide (HO.out.bel h79)
    have hsz:=h59.size
    clear ro
    go_wp2_with (at_builtin;refine wpList_app1 (v:= .slice Ao k co) (xs:=out) (base:=w6.heap.size) (k:=1) (bytes:=8) (E:=3) el_int rfl (.tmp 60) (.tmp 62) rfl rfl rfl O9.out r rfl (by have:=HW.out.len;omega) hsz ?_;intro v' w10 o10 k10;have O10:=hide o10;have K10:=hide k10;clear o10 k10)
    refine⟨⟨k+1,out ++ [r],by omega,by go_num,hide (HW.out.snoc Hxk.out Hnv.out Hmin.out),O10,below_keptB h59 K10.out (Nat.le_refl _) h59.size⟩,by simp[intOf];omega⟩
   ·have he1:(er == 0)=false:=by simp[he0]
    have he2:(er != 0)=true:=by simp[he0]
    have He0:=hide he0
    clear he0
    go_wp2_with fail
    go_ret3
    exact⟨_,[],k,6,rfl,Own.nil _ _ _ _ _,by
     unfold wantsP
     rw[if_pos Hok.out,if_pos Hsp.out,if_pos Hall.out]
     exact .inr ⟨k,out,rfl,rfl,rfl,HW.out,_,Hxk.out,.inr ⟨nv,r,er,Hnv.out,Hmin.out,He0.out⟩⟩,HB9.out⟩
  ·obtain rfl:n=k:=by omega
   go_wp2_with fail
   go_ret3
   exact⟨_,out,0,0,rfl,HO.out.mono hB5.size,by
    unfold wantsP
    rw[if_pos Hok.out,if_pos Hsp.out,if_pos Hall.out]
    exact .inl ⟨by rw[←Hn.out];exact HW.out,rfl,rfl⟩,HB.out⟩
end Go.Proofs.YtiioegopckoldaaGreatDoor
namespace Go.Proofs.YtiioegopckoldaaGreatDoor
def sumTo (f:Nat→Int):Nat→Int
 | 0=>0
 | k+1=>sumTo f k+f k
theorem sumTo_congr {f g:Nat→Int}:∀{n:Nat},(∀k,k < n→f k=g k)→sumTo f n=sumTo g n
 | 0,_=>rfl
 | n + 1, h => by
   show sumTo f n+f n=sumTo g n+g n
   rw[sumTo_congr fun k hk=>h k (by omega),h n (by omega)]
theorem sumTo_le {f g:Nat→Int}:∀{n:Nat},(∀k,k < n→f k≤g k)→sumTo f n≤sumTo g n
 | 0,_=>Int.le_refl _
 | n + 1, h => by
   have h1:=sumTo_le (f:=f) (g:=g) (n:=n) fun k hk=>h k (by omega)
   have h2:=h n (by omega)
   show sumTo f n+f n≤sumTo g n+g n
   omega
theorem sumTo_add (f g:Nat→Int):∀n:Nat,sumTo (fun k=>f k+g k) n=sumTo f n+sumTo g n
 | 0=>rfl
 | n + 1 => by
   show sumTo (fun k=>f k+g k) n+(f n+g n)=sumTo f n+f n+(sumTo g n+g n)
   rw[sumTo_add f g n];omega
theorem sumTo_zero {f:Nat→Int} {n:Nat} (h:∀k,k < n→f k=0):sumTo f n=0:=by
 rw[sumTo_congr (g:=fun _=>0) h]
 clear h
 induction n with
 | zero=>rfl
 | succ n ih=>show sumTo (fun _=>0) n+0=0;rw[ih];rfl
theorem sumTo_nonneg {f:Nat→Int} {n:Nat} (h:∀k,k < n→0≤f k):0≤sumTo f n:=by
 have h1:=sumTo_le (f:=fun _=>0) (g:=f) h
 rw[sumTo_zero (fun _ _=>rfl)] at h1
 exact h1
theorem sumTo_one (f:Nat→Int) (i:Nat):∀{n:Nat},i < n→sumTo f n=sumTo (fun k=>if k=i then 0 else f k) n+f i
 | 0,h=>by omega
 | n + 1, h => by
   show sumTo f n+f n=sumTo _ n+(if n=i then 0 else f n)+f i
   by_cases hn:n=i
   ·rw[if_pos hn,hn,sumTo_congr (n:=i) (g:=fun k=>if k=i then 0 else f k)]
    ·omega
    ·intro k hk;rw[if_neg (by omega)]
   ·rw[if_neg hn,sumTo_one f i (n:=n) (by omega)];omega
structure Bo where
 m:Nat
 r:Nat
 nd:Nat→Int
 st:Nat→Nat
 pr:Nat→Int
namespace Bo
variable (B:Bo)
def on (S i:Nat):Bool:=B.st i &&& S != 0
def need (S:Nat):Int:=sumTo (fun k=>if S.testBit k then B.nd k else 0) B.m
def there (x:Nat→Int) (S:Nat):Int:=sumTo (fun i=>if B.on S i then x i else 0) B.r
def but (x:Nat→Int) (S j:Nat):Int:=sumTo (fun i=>if i≠j∧B.on S i=true then x i else 0) B.r
def Feas (x:Nat→Int):Prop:=∀S,S < 2 ^ B.m→B.need S≤B.there x S
def cost (x:Nat→Int):Int:=sumTo (fun i=>x i*B.pr i) B.r
theorem on_iff {S i:Nat}:B.on S i=true↔∃k,(B.st i).testBit k=true∧S.testBit k=true:=by
 unfold on
 constructor
 ·intro h
  have h1:B.st i &&& S≠0:=by simpa using h
  obtain⟨k,hk⟩:=Nat.exists_testBit_of_ne_zero h1
  rw[Nat.testBit_and,Bool.and_eq_true] at hk
  exact⟨k,hk⟩
 ·rintro⟨k,h1,h2⟩
  have:(B.st i &&& S).testBit k=true:=by rw[Nat.testBit_and,h1,h2];rfl
  simp
  intro h0
  rw[h0] at this
  simp at this
theorem on_or {S T i:Nat}:B.on (S ||| T) i=(B.on S i || B.on T i):=by
 rw[Bool.eq_iff_iff,Bool.or_eq_true,on_iff,on_iff,on_iff]
 constructor
 ·rintro⟨k,h1,h2⟩
  rw[Nat.testBit_or,Bool.or_eq_true] at h2
  rcases h2 with h | h
  ·exact .inl ⟨k,h1,h⟩
  ·exact .inr ⟨k,h1,h⟩
 ·rintro(⟨k,h1,h2⟩ | ⟨k,h1,h2⟩)
  ·exact⟨k,h1,by rw[Nat.testBit_or,h2];rfl⟩
  ·exact⟨k,h1,by rw[Nat.testBit_or,h2];simp⟩
theorem on_and {S T i:Nat} (h:B.on (S &&& T) i=true):B.on S i=true∧B.on T i=true:=by
 obtain⟨k,h1,h2⟩:=B.on_iff.1 h
 rw[Nat.testBit_and,Bool.and_eq_true] at h2
 exact⟨B.on_iff.2 ⟨k,h1,h2.1⟩,B.on_iff.2 ⟨k,h1,h2.2⟩⟩
theorem need_mod (S T:Nat):B.need (S ||| T)+B.need (S &&& T)=B.need S+B.need T:=by
 unfold need
 rw[←sumTo_add,←sumTo_add]
 refine sumTo_congr fun k _=>?_
 rw[Nat.testBit_or,Nat.testBit_and]
 cases S.testBit k <;> cases T.testBit k <;> simp
theorem need_zero:B.need 0=0:=sumTo_zero fun k _=>by simp
theorem there_zero (x:Nat→Int):B.there x 0=0:=sumTo_zero fun k _=>by simp[on]
theorem there_mod {x:Nat→Int} (h0:∀i,i < B.r→0≤x i) (S T:Nat):B.there x (S ||| T)+B.there x (S &&& T)≤B.there x S+B.there x T:=by
 unfold there
 rw[←sumTo_add,←sumTo_add]
 refine sumTo_le fun i hi=>?_
 have hx:=h0 i hi
 have h1:=B.on_or (S:=S) (T:=T) (i:=i)
 have h2:=B.on_and (S:=S) (T:=T) (i:=i)
 cases ha:B.on (S &&& T) i
 ·rw[h1]
  cases B.on S i <;> cases B.on T i <;> simp <;> omega
 ·obtain⟨h3,h4⟩:=h2 ha
  rw[h1,h3,h4];simp
theorem there_le {x y:Nat→Int} (h:∀i,i < B.r→x i≤y i) (S:Nat):B.there x S≤B.there y S:=sumTo_le fun i hi=>by
 have:=h i hi
 cases B.on S i <;> simp <;> omega
theorem and_lt {S T n:Nat} (h:S < 2 ^ n):S &&& T < 2 ^ n:=Nat.lt_of_le_of_lt Nat.and_le_left h
theorem tight_or {x:Nat→Int} (h0:∀i,i < B.r→0≤x i) (hf:B.Feas x) {S T:Nat} (hS:S < 2 ^ B.m) (hT:T < 2 ^ B.m) (tS:B.there x S=B.need S) (tT:B.there x T=B.need T):B.there x (S ||| T)=B.need (S ||| T):=by
 have h1:=B.need_mod S T
 have h2:=B.there_mod h0 S T
 have h3:=hf (S ||| T) (Nat.or_lt_two_pow hS hT)
 have h4:=hf (S &&& T) (and_lt hS)
 omega
theorem there_one {x:Nat→Int} {S i:Nat} (hi:i < B.r) (ho:B.on S i=true):B.there x S=B.but x S i+x i:=by
 unfold there but
 rw[sumTo_one _ i hi,if_pos ho]
 congr 1
 refine sumTo_congr fun k _=>?_
 by_cases hk:k=i
 ·rw[if_pos hk,if_neg (by simp[hk])]
 ·rw[if_neg hk]
  by_cases h:B.on S k=true
  ·rw[if_pos h,if_pos ⟨hk,h⟩]
  ·rw[if_neg h,if_neg (fun h'=>h h'.2)]
structure Lacks (x:Nat→Int) (i:Nat) (v:Int):Prop where
 pos:0≤v
 all:∀S,S < 2 ^ B.m→B.on S i=true→B.need S-B.but x S i≤v
 hit:v=0∨∃S,S < 2 ^ B.m∧B.on S i=true∧v=B.need S-B.but x S i
def upd (x:Nat→Int) (i:Nat) (v:Int):Nat→Int:=fun j=>if j=i then v else x j
theorem but_upd (x:Nat→Int) (S i:Nat) (v:Int):B.but (upd x i v) S i=B.but x S i:=sumTo_congr fun k _=>by
 unfold upd
 by_cases hk:k=i
 ·rw[if_neg (fun h=>h.1 hk),if_neg (fun h=>h.1 hk)]
 ·rw[if_neg hk]
theorem there_off {x:Nat→Int} {S i:Nat} {v:Int} (h:B.on S i=false):B.there (upd x i v) S=B.there x S:=sumTo_congr fun k _=>by
 unfold upd
 by_cases hk:k=i
 ·rw[hk,h];rfl
 ·rw[if_neg hk]
structure Cov (h x:Nat→Int) (pre:List Nat):Prop where
 feas:B.Feas x
 pos:∀i,i < B.r→0≤x i
 le:∀i,i < B.r→x i≤h i
 same:∀i,i < B.r→i∉pre→x i=h i
 tight:∃S,S < 2 ^ B.m∧B.there x S=B.need S∧∀j∈pre,x j=0∨B.on S j=true
theorem Cov.start {h:Nat→Int} (hf:B.Feas h) (h0:∀i,i < B.r→0≤h i):B.Cov h h []:=
 ⟨hf,h0,fun _ _=>Int.le_refl _,fun _ _ _=>rfl,⟨0,Nat.two_pow_pos _,by rw[need_zero,there_zero],by simp⟩⟩
theorem Cov.step {h x:Nat→Int} {pre:List Nat} {i:Nat} {v:Int} (c:B.Cov h x pre) (hi:i < B.r) (hn:i∉pre) (hl:B.Lacks x i v):B.Cov h (upd x i v) (pre ++ [i]):=by
 have hvx:v≤x i:=by
  rcases hl.hit with h1 | ⟨S,hS,ho,h1⟩
  ·rw[h1];exact c.pos i hi
  ·have h2:=c.feas S hS
   rw[B.there_one hi ho] at h2
   omega
 have hle:∀j,j < B.r→upd x i v j≤x j:=by
  intro j _
  unfold upd
  by_cases hj:j=i
  ·rw[if_pos hj,hj];exact hvx
  ·rw[if_neg hj];exact Int.le_refl _
 have hpos:∀j,j < B.r→0≤upd x i v j:=by
  intro j hj
  unfold upd
  by_cases h':j=i
  ·rw[if_pos h'];exact hl.pos
  ·rw[if_neg h'];exact c.pos j hj
 have hfe:B.Feas (upd x i v):=by
  intro S hS
  cases ho:B.on S i
  ·rw[B.there_off ho];exact c.feas S hS
  ·rw[B.there_one hi ho,B.but_upd]
   have:=hl.all S hS ho
   have e:upd x i v i=v:=by unfold upd;rw[if_pos rfl]
   rw[e]
   omega
 refine⟨hfe,hpos,fun j hj=>Int.le_trans (hle j hj) (c.le j hj),?_,?_⟩
 ·intro j hj hjp
  rw[List.mem_append,List.mem_singleton,not_or] at hjp
  unfold upd
  rw[if_neg hjp.2]
  exact c.same j hj hjp.1
 ·obtain⟨S,hS,tS,cS⟩:=c.tight
  have tS':B.there (upd x i v) S=B.need S:=by
   have h1:=hfe S hS
   have h2:=B.there_le hle S
   omega
  have cS':∀j∈pre,upd x i v j=0∨B.on S j=true:=by
   intro j hj
   unfold upd
   rw[if_neg (fun e:j=i=>hn (e ▸ hj))]
   exact cS j hj
  rcases hl.hit with h1 | ⟨T,hT,ho,h1⟩
  ·refine⟨S,hS,tS',fun j hj=>?_⟩
   rw[List.mem_append,List.mem_singleton] at hj
   rcases hj with hj | rfl
   ·exact cS' j hj
   ·exact .inl (by unfold upd;rw[if_pos rfl];exact h1)
  ·have tT:B.there (upd x i v) T=B.need T:=by
    rw[B.there_one hi ho,B.but_upd]
    have e:upd x i v i=v:=by unfold upd;rw[if_pos rfl]
    rw[e]
    omega
   refine⟨S ||| T,Nat.or_lt_two_pow hS hT,B.tight_or hpos hfe hS hT tS' tT,fun j hj=>?_⟩
   rw[List.mem_append,List.mem_singleton] at hj
   rw[B.on_or]
   rcases hj with hj | rfl
   ·rcases cS' j hj with h | h
    ·exact .inl h
    ·exact .inr (by rw[h];rfl)
   ·exact .inr (by rw[ho];simp)
def sumL (f:Nat→Int):List Nat→Int
 | []=>0
 | i :: l=>f i+sumL f l
theorem sumL_snoc (f:Nat→Int) (i:Nat):∀l:List Nat,sumL f (l ++ [i])=sumL f l+f i
 | []=>by simp[sumL]
 | j :: l => by
   show f j+sumL f (l ++ [i])=f j+sumL f l+f i
   rw[sumL_snoc f i l];omega
theorem sumL_congr {f g:Nat→Int}:∀{l:List Nat},(∀i∈l,f i=g i)→sumL f l=sumL g l
 | [],_=>rfl
 | i :: l, h => by
   show f i+sumL f l=g i+sumL g l
   rw[h i (by simp),sumL_congr fun j hj=>h j (by simp[hj])]
theorem sumTo_without (f:Nat→Int) {i:Nat} {l:List Nat} (hn:i∉l) (n:Nat) (hi:i < n) :
 sumTo (fun k=>if k∈i :: l then f k else 0) n=f i+sumTo (fun k=>if k∈l then f k else 0) n:=by
 rw[sumTo_one _ i hi,if_pos (by simp)]
 have:sumTo (fun k=>if k∈l then f k else 0) n=sumTo (fun k=>if k=i then 0 else if k∈i :: l then f k else 0) n:=sumTo_congr fun k _=>by
  by_cases hk:k=i
  ·rw[if_pos hk,if_neg (by rw[hk];exact hn)]
  ·rw[if_neg hk]
   by_cases h:k∈l
   ·rw[if_pos h,if_pos (by simp[h])]
   ·rw[if_neg h,if_neg (by simp[hk,h])]
 rw[this]
 omega
theorem sumL_to (f:Nat→Int) (n:Nat):∀{l:List Nat},l.Nodup→(∀i∈l,i < n)→sumL f l=sumTo (fun k=>if k∈l then f k else 0) n
 | [], _, _ => by
   show(0:Int)=_
   rw[sumTo_zero];intro k _;simp
 | i :: l, hd, hl => by
   have h1:=List.nodup_cons.1 hd
   rw[sumTo_without f h1.1 n (hl i (by simp)),←sumL_to f n h1.2 fun j hj=>hl j (by simp[hj])]
   rfl
theorem Cov.least {h x y:Nat→Int} {pre:List Nat} (c:B.Cov h x pre) (hd:pre.Nodup) (hp:∀i∈pre,i < B.r) (yf:B.Feas y) (y0:∀i,i < B.r→0≤y i) (yh:∀i,i < B.r→y i≤h i):sumL x pre≤sumL y pre:=by
 obtain⟨S,hS,tS,cS⟩:=c.tight
 have h1:=yf S hS
 rw[←tS] at h1
 rw[sumL_to x B.r hd hp,sumL_to y B.r hd hp]
 have key:sumTo (fun k=>if k∈pre then x k else 0) B.r+B.there y S≤sumTo (fun k=>if k∈pre then y k else 0) B.r+B.there x S:=by
  unfold there
  rw[←sumTo_add,←sumTo_add]
  refine sumTo_le fun k hk=>?_
  have hy0:=y0 k hk
  have hyh:=yh k hk
  by_cases hkp:k∈pre
  ·rw[if_pos hkp,if_pos hkp]
   rcases cS k hkp with e | e
   ·rw[e]
    cases B.on S k <;> simp <;> omega
   ·rw[if_pos e,if_pos e];omega
  ·rw[if_neg hkp,if_neg hkp,c.same k hk hkp]
   cases B.on S k <;> simp <;> omega
 omega
theorem abel {x y p:Nat→Int}:∀(l:List Nat),(∀i∈l,0≤p i)→l.Pairwise (fun i j=>p j≤p i)→(∀n,n≤l.length→sumL x (l.take n)≤sumL y (l.take n))→
 ∀q,0≤q→(∀i∈l,q≤p i)→q*(sumL y l-sumL x l)≤sumL (fun i=>y i*p i) l-sumL (fun i=>x i*p i) l:=by
 intro l
 induction h:l.length generalizing l with
 | zero =>
   intro _ _ _ q _ _
   rw[List.length_eq_zero_iff.1 h]
   simp[sumL]
 | succ n ih =>
   intro hp hs hle q hq hqp
   obtain⟨l',i,rfl⟩:∃l' i,l=l' ++ [i]:=by
    rcases List.eq_nil_or_concat l with e | ⟨l',i,e⟩
    ·rw[e] at h;cases h
    ·exact⟨l',i,by rw[e,List.concat_eq_append]⟩
   have hl':l'.length=n:=by simpa using h
   rw[List.pairwise_append] at hs
   have hq2:∀j∈l',p i≤p j:=fun j hj=>hs.2.2 j hj i (by simp)
   have h1:=ih l' hl' (fun j hj=>hp j (by simp[hj])) hs.1 (fun k hk=>by
    have:=hle k (by omega)
    rwa [List.take_append_of_le_length (by omega)] at this) (p i) (hp i (by simp)) hq2
   have h2:=hle (n+1) (Nat.le_refl _)
   rw[List.take_of_length_le (by simp;omega)] at h2
   rw[sumL_snoc,sumL_snoc] at h2 ⊢
   rw[sumL_snoc,sumL_snoc]
   have h3:q≤p i:=hqp i (by simp)
   have e1:p i*(sumL y l'-sumL x l')+(y i*p i-x i*p i)=p i*(sumL y l'+y i-(sumL x l'+x i)):=by
    rw[Int.mul_comm (y i),Int.mul_comm (x i),←Int.mul_sub,←Int.mul_add]
    congr 1
    omega
   have h4:q*(sumL y l'+y i-(sumL x l'+x i))≤p i*(sumL y l'+y i-(sumL x l'+x i)):=Int.mul_le_mul_of_nonneg_right h3 (by omega)
   omega
inductive Run (h:Nat→Int):List Nat→(Nat→Int)→Prop
 | nil:Run h [] h
 | snoc {pre:List Nat} {x:Nat→Int} {i:Nat} {v:Int}:Run h pre x→i < B.r→i∉pre→B.Lacks x i v→Run h (pre ++ [i]) (upd x i v)
theorem Run.cov {h:Nat→Int} (hf:B.Feas h) (h0:∀i,i < B.r→0≤h i) {l:List Nat} {x:Nat→Int} (R:B.Run h l x):B.Cov h x l:=by
 induction R with
 | nil=>exact Cov.start B hf h0
 | snoc _ hi hn hl ih=>exact ih.step B hi hn hl
theorem Run.nodup {h:Nat→Int} {l:List Nat} {x:Nat→Int} (R:B.Run h l x):l.Nodup∧∀i∈l,i < B.r:=by
 induction R with
 | nil=>simp
 | @snoc pre x i v _ hi hn hl ih =>
   refine⟨List.nodup_append.2 ⟨ih.1,by simp,fun a ha b hb=>by rw[List.mem_singleton] at hb;rw[hb];exact fun e=>hn (e ▸ ha)⟩,fun j hj=>?_⟩
   rw[List.mem_append,List.mem_singleton] at hj
   rcases hj with hj | rfl
   ·exact ih.2 j hj
   ·exact hi
theorem Run.pres {h y:Nat→Int} (hf:B.Feas h) (h0:∀i,i < B.r→0≤h i) (yf:B.Feas y) (y0:∀i,i < B.r→0≤y i) (yh:∀i,i < B.r→y i≤h i) {l:List Nat} {x:Nat→Int} (R:B.Run h l x) :
 ∀n,n≤l.length→sumL x (l.take n)≤sumL y (l.take n):=by
 induction R with
 | nil=>intro n _;simp[sumL]
 | @snoc pre x i v R hi hn hl ih =>
   intro n hle
   have R':=Run.snoc R hi hn hl
   by_cases hn':n≤pre.length
   ·rw[List.take_append_of_le_length hn']
    have e:sumL (upd x i v) (pre.take n)=sumL x (pre.take n):=sumL_congr fun j hj=>by
     unfold upd
     rw[if_neg]
     intro e
     exact hn (e ▸ List.mem_of_mem_take hj)
    rw[e]
    exact ih n hn'
   ·rw[List.take_of_length_le (by simp at hle ⊢;omega)]
    exact(R'.cov B hf h0).least B (R'.nodup B).1 (R'.nodup B).2 yf y0 yh
structure Min (h:Nat→Int) (c:Int):Prop where
 is:∃x,B.Feas x∧(∀i,i < B.r→0≤x i)∧(∀i,i < B.r→x i≤h i)∧B.cost x=c
 le:∀y,B.Feas y→(∀i,i < B.r→0≤y i)→(∀i,i < B.r→y i≤h i)→c≤B.cost y
theorem Min.one {h:Nat→Int} {c d:Int} (hc:B.Min h c) (hd:B.Min h d):c=d:=by
 obtain⟨x,a1,a2,a3,a4⟩:=hc.is
 obtain⟨y,b1,b2,b3,b4⟩:=hd.is
 have:=hc.le y b1 b2 b3
 have:=hd.le x a1 a2 a3
 omega
theorem sumL_all {f:Nat→Int} {l:List Nat} (hd:l.Nodup) (hl:∀i∈l,i < B.r) (hall:∀i,i < B.r→i∈l):sumL f l=sumTo f B.r:=by
 rw[sumL_to f B.r hd hl]
 exact sumTo_congr fun k hk=>by rw[if_pos (hall k hk)]
theorem Run.min {h:Nat→Int} (hf:B.Feas h) (h0:∀i,i < B.r→0≤h i) (hp:∀i,i < B.r→0≤B.pr i) {l:List Nat} {x:Nat→Int} (R:B.Run h l x) (hs:l.Pairwise (fun i j=>B.pr j≤B.pr i)) (hall:∀i,i < B.r→i∈l):B.Min h (B.cost x):=by
 have c:=R.cov B hf h0
 obtain⟨hd,hl⟩:=R.nodup B
 refine⟨⟨x,c.feas,c.pos,c.le,rfl⟩,fun y yf y0 yh=>?_⟩
 have h1:=abel (x:=x) (y:=y) (p:=B.pr) l (fun i hi=>hp i (hl i hi)) hs (R.pres B hf h0 yf y0 yh) 0 (Int.le_refl _) (fun i hi=>hp i (hl i hi))
 rw[B.sumL_all (f:=fun i=>x i*B.pr i) hd hl hall,B.sumL_all (f:=fun i=>y i*B.pr i) hd hl hall] at h1
 unfold cost
 omega
end Bo
end Go.Proofs.YtiioegopckoldaaGreatDoor
