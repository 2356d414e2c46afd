/- lemmas for agentWrites_holds: AGL. No conditions. -/
import Derived.Test.YtgfghffihjfbpaaGreatDoorK37
set_option linter.unusedVariables false
set_option linter.unusedSimpArgs false
namespace Go.Proofs.YtgfghffihjfbpaaGreatDoor
open Go.RowKit Go.Shelf
structure Bo.wf (w:World) (b:Bo):Prop where
 e1:b.n1=b.ss.length
 e2:b.n2=b.ms.length
 e3:b.n3=b.gs.length
 e4:b.n4=b.ds.length
 big:b.n1≤1000000000000000∧b.n2≤1000000000000000∧b.n3≤1000000000000000∧b.n4≤1000000000000000
 r1:Rd w w.heap.size Sx.cells b.A1 b.ss
 r2:Rd w w.heap.size Mx.cells b.A2 b.ms
 r3:Rd w w.heap.size Mx.cells b.A3 b.gs
 r4:Rd w w.heap.size Dx.cells b.A4 b.ds
 rd:∀x∈b.ds,(x.n=x.hs.length∧x.n≤9223372036854775807)∧(0≤x.kind∧x.kind≤255)∧Rd w w.heap.size Sp.cells x.A x.hs
theorem Bo.wf.bel {w w':World} {b:Bo} (h:b.wf w) (hb:Below w.heap.size w w'):b.wf w':=⟨h.e1,h.e2,h.e3,h.e4,h.big,h.r1.bel hb,h.r2.bel hb,h.r3.bel hb,h.r4.bel hb,fun x hx=>⟨(h.rd x hx).1,(h.rd x hx).2.1,(h.rd x hx).2.2.bel hb⟩⟩
def greatB (b:Bo):Bool:=decide (300 < b.n1+b.n2+b.n3+b.n4) || b.ds.any fun x=>decide (16 < x.n)
theorem Bo.wf.ok {w:World} {b:Bo} (h:b.wf w) (hg:greatB b=false):b.ok w:=by
 unfold greatB at hg
 rw[Bool.or_eq_false_iff] at hg
 refine⟨h.e1,h.e2,h.e3,h.e4,by have:=of_decide_eq_false hg.1;omega,h.r1,h.r2,h.r3,h.r4,fun x hx=>⟨⟨(h.rd x hx).1.1,?_⟩,(h.rd x hx).2.1,(h.rd x hx).2.2⟩⟩
 have:=List.any_eq_false.1 hg.2 x hx
 simpa using this
set_option maxHeartbeats 4000000 in
set_option maxRecDepth 100000 in
theorem ar_GreatBook (b:Bo) (w:World) (hwf:b.wf w) :
 Calls Tryz.prog 5 #[.agg #[.slice b.A1 b.n1 b.c1,.slice b.A2 b.n2 b.c2,.slice b.A3 b.n3 b.c3,.slice b.A4 b.n4 b.c4]] w fun e w'=>e= .returned (.bool (greatB b))∧Below w.heap.size w w':=by
 obtain⟨b1,w1,e1,ew1,hx1,hb1,hz1⟩:=mk_bx w #[.slice b.A1 b.n1 b.c1,.slice b.A2 b.n2 b.c2,.slice b.A3 b.n3 b.c3,.slice b.A4 b.n4 b.c4] 27
 obtain⟨q0,q1,q2,q3⟩:=hx1.at_.c4
 have HX1:=hide hx1;have HB1:=hide hb1;have Hwf:=hide (hwf.bel hb1)
 obtain⟨g1,g2,g3,g4⟩:=hwf.big
 clear hx1 hb1 hz1 hwf
 obtain⟨n1,hn1⟩:∃n,n=b.n1:=⟨_,rfl⟩
 obtain⟨n2,hn2⟩:∃n,n=b.n2:=⟨_,rfl⟩
 obtain⟨n3,hn3⟩:∃n,n=b.n3:=⟨_,rfl⟩
 obtain⟨n4,hn4⟩:∃n,n=b.n4:=⟨_,rfl⟩
 have HE4:=hide (show n4=b.ds.length by rw[hn4,Hwf.out.e4])
 have HG:=hide (show greatB b=(decide (300 < n1+n2+n3+n4) || b.ds.any fun x=>decide (16 < x.n)) by rw[hn1,hn2,hn3,hn4];rfl)
 rw[←hn1] at q0 g1
 rw[←hn2] at q1 g2
 rw[←hn3] at q2 g3
 rw[←hn4] at q3 g4
 rw[←hn1,←hn2,←hn3,←hn4] at HX1 ew1 ⊢
 clear hn1 hn2 hn3 hn4
 go_enter Tryz.func5,Tryz.ntmps5
 by_cases h3:300 < n1+n2+n3+n4
 ·have d3:decide ((300:Int) < (n1:Int)+n2+n3+n4)=true:=decide_eq_true (by omega)
  have HW:=hide (show greatB b=true by rw[HG.out,decide_eq_true h3];rfl)
  go_upto_region 1 with fail
  rw[ew1.out,e1.out]
  go_wp2_with fail
  go_returns
  exact⟨by rw[HW.out];rfl,HB1.out⟩
 ·have d3:decide ((300:Int) < (n1:Int)+n2+n3+n4)=false:=decide_eq_false (by omega)
  have HW:=hide (show greatB b=b.ds.any fun x=>decide (16 < x.n) by rw[HG.out,decide_eq_false h3];rfl)
  go_upto_region 1 with fail
  rw[ew1.out,e1.out]
  go_wp2_with fail
  clear d3 h3
  go_loopw [3] (fun iv wr=>∃k:Nat,k≤n4∧iv= .int .i64 k∧Hid (∀x∈b.ds.take k,x.n≤16)∧Hid (Below w1.heap.size w1 wr)) (fun iv _=>n4-(intOf iv).toNat)
  case atStart=>exact⟨0,by omega,rfl,hide (by simp),hide (Below.refl _ _)⟩
  case round=>
   obtain⟨k,hk,rfl,hall,hb⟩:=hrel
   clear q0 q1 q2 q3
   obtain⟨q0,q1,q2,q3⟩:=(HX1.out.bel hb.out).at_.c4
   by_cases hlt:k < n4
   ·obtain⟨bb,off,x,hA,hbz,hxk,d0,d1,d2,d3,d4,d5,d6,d7,d8⟩:=(Hwf.out.r4.below hb.out).dx (i:=k) (by have:=HE4.out;omega)
    have ik:(k:Int) < (n4:Int):=by omega
    rw[hA] at q3
    clear hA d0 d1 d2 d3 d4 d5 d6 d7
    have hxb:=(Hwf.out.rd x (List.mem_of_getElem? hxk)).1.2
    by_cases h16:16 < x.n
    ·have HW2:=hide (show greatB b=true by
      rw[HW.out,List.any_eq_true]
      exact⟨x,List.mem_of_getElem? hxk,decide_eq_true h16⟩)
     have e16:decide ((16:Int) < (x.n:Int))=true:=decide_eq_true (by omega)
     have f16:(16:Int) < (x.n:Int):=by omega
     clear hxk
     go_wp2_with fail
     go_returns
     exact⟨by rw[HW2.out];rfl,HB1.out.trans (hb.out.mono HB1.out.size)⟩
    ·have e16:decide ((16:Int) < (x.n:Int))=false:=decide_eq_false (by omega)
     have f16:¬(16:Int) < (x.n:Int):=by omega
     have Hall:=hide (show ∀y∈b.ds.take (k+1),y.n≤16 from fun y hy=>by
      rw[take_snoc hxk] at hy
      rcases List.mem_append.1 hy with h | h
      ·exact hall.out y h
      ·obtain rfl:=List.mem_singleton.1 h;omega)
     clear hxk hall
     go_wp2_with fail
     exact⟨⟨k+1,by omega,by go_num,Hall,hb⟩,by simp[intOf];omega⟩
   ·have ik:¬(k:Int) < (n4:Int):=by omega
    have HW2:=hide (show greatB b=false by
     rw[HW.out,List.any_eq_false]
     intro x hx
     have h:=hall.out x (by rwa [List.take_of_length_le (by have:=HE4.out;omega)])
     simp;omega)
    go_wp2_with fail
    go_returns
    exact⟨by rw[HW2.out];rfl,HB1.out.trans (hb.out.mono HB1.out.size)⟩
def Ex.wf (w:World) (x:Ex):Prop:=(x.n=x.xs.length∧x.n≤9223372036854775807)∧(-9223372036854775808≤x.day∧x.day≤9223372036854775807)∧Rd w w.heap.size icell x.A x.xs
def greatL (L:List Ex):Bool:=decide (250 < L.length) || L.any fun x=>decide (40 < x.n) || decide (40 < x.wd.length)
theorem Ex.wf.ok {w:World} {L:List Ex} {x:Ex} (h:x.wf w) (hx:x∈L) (hg:greatL L=false):x.ok w:=by
 unfold greatL at hg
 rw[Bool.or_eq_false_iff] at hg
 have:=List.any_eq_false.1 hg.2 x hx
 simp at this
 exact⟨⟨h.1.1,by omega⟩,⟨by omega,h.2.1⟩,h.2.2⟩
set_option maxHeartbeats 4000000 in
set_option maxRecDepth 100000 in
theorem ar_GreatLog (A:Option Addr) (n c:Nat) (L:List Ex) (w:World) (hn:n=L.length) (hm:n≤9223372036854775807) (hx:Rd w w.heap.size Ex.cells A L) (hwf:∀x∈L,x.wf w) :
 Calls Tryz.prog 6 #[.slice A n c] w fun e w'=>e= .returned (.bool (greatL L))∧w=w':=by
 have Hn:=hide hn;have Hx:=hide hx;have Hwf:=hide hwf
 clear hn hx hwf
 go_enter Tryz.func6,Tryz.ntmps6
 by_cases h2:250 < n
 ·have d2:decide ((250:Int) < (n:Int))=true:=decide_eq_true (by omega)
  have HW:=hide (show greatL L=true by unfold greatL;rw[decide_eq_true (by have:=Hn.out;omega)];rfl)
  go_wp2_with fail
  go_returns
  exact⟨by rw[HW.out];rfl,rfl⟩
 ·have d2:decide ((250:Int) < (n:Int))=false:=decide_eq_false (by omega)
  have HW:=hide (show greatL L=L.any fun x=>decide (40 < x.n) || decide (40 < x.wd.length) by unfold greatL;rw[decide_eq_false (by have:=Hn.out;omega)];rfl)
  go_wp2_with fail
  clear d2
  go_loopw [3] (fun iv wr=>∃k:Nat,k≤n∧iv= .int .i64 k∧Hid (∀x∈L.take k,x.n≤40∧x.wd.length≤40)∧w=wr) (fun iv _=>n-(intOf iv).toNat)
  case atStart=>exact⟨0,by omega,rfl,hide (by simp),by first | rfl | trivial⟩
  case round=>
   obtain⟨k,hk,rfl,hall,rfl⟩:=hrel
   by_cases hlt:k < n
   ·obtain⟨b,off,x,rfl,_,hxk,c0,c1,c2⟩:=Hx.out.ex (i:=k) (by have:=Hn.out;omega)
    have ik:(k:Int) < (n:Int):=by omega
    have hxb:=(Hwf.out x (List.mem_of_getElem? hxk)).1.2
    obtain⟨q,hq⟩:∃q,q=x.wd.length:=⟨_,rfl⟩
    have hwl:x.wd.length=q:=hq.symm
    have Hq:=hide hq
    clear hq c0
    by_cases h40:40 < x.n
    ·have HW2:=hide (show greatL L=true by
      rw[HW.out,List.any_eq_true]
      exact⟨x,List.mem_of_getElem? hxk,by rw[decide_eq_true h40];rfl⟩)
     have e40:decide ((40:Int) < (x.n:Int))=true:=decide_eq_true (by omega)
     clear hxk
     go_wp2_with fail
     go_returns
     exact⟨by rw[HW2.out];rfl,rfl⟩
    ·have e40:decide ((40:Int) < (x.n:Int))=false:=decide_eq_false (by omega)
     by_cases h41:40 < q
     ·have HW2:=hide (show greatL L=true by
       rw[HW.out,List.any_eq_true]
       exact⟨x,List.mem_of_getElem? hxk,by rw[decide_eq_true (p:=40 < x.wd.length) (by omega),Bool.or_true]⟩)
      have e41:decide ((40:Int) < (q:Int))=true:=decide_eq_true (by omega)
      clear hxk
      go_wp2_with fail
      go_returns
      exact⟨by rw[HW2.out];rfl,rfl⟩
     ·have e41:decide ((40:Int) < (q:Int))=false:=decide_eq_false (by omega)
      have Hall:=hide (show ∀y∈L.take (k+1),y.n≤40∧y.wd.length≤40 from fun y hy=>by
       rw[take_snoc hxk] at hy
       rcases List.mem_append.1 hy with h | h
       ·exact hall.out y h
       ·obtain rfl:=List.mem_singleton.1 h;exact⟨by omega,by omega⟩)
      clear hxk hall
      go_wp2_with fail
      exact⟨⟨k+1,by omega,by go_num,Hall,by first | rfl | trivial⟩,by simp[intOf];omega⟩
   ·have ik:¬(k:Int) < (n:Int):=by omega
    have HW2:=hide (show greatL L=false by
     rw[HW.out,List.any_eq_false]
     intro x hx
     have h:=hall.out x (by rwa [List.take_of_length_le (by have:=Hn.out;omega)])
     simp;omega)
    go_wp2_with fail
    go_returns
    exact⟨by rw[HW2.out];rfl,rfl⟩
end Go.Proofs.YtgfghffihjfbpaaGreatDoor
