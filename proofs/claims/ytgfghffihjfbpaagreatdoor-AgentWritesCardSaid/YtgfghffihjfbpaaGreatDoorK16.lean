/- lemmas for agentWrites_holds: AGA. No conditions. -/
import Derived.Test.YtgfghffihjfbpaaGreatDoorK15
set_option linter.unusedVariables false
set_option linter.unusedSimpArgs false
namespace Go.Proofs.YtgfghffihjfbpaaGreatDoor
open Go.RowKit Go.Shelf
structure Bo where
 A1:Option Addr
 n1:Nat
 c1:Nat
 ss:List Sx
 A2:Option Addr
 n2:Nat
 c2:Nat
 ms:List Mx
 A3:Option Addr
 n3:Nat
 c3:Nat
 gs:List Mx
 A4:Option Addr
 n4:Nat
 c4:Nat
 ds:List Dx
def Bo.cells (b:Bo):List Value:=[.slice b.A1 b.n1 b.c1,.slice b.A2 b.n2 b.c2,.slice b.A3 b.n3 b.c3,.slice b.A4 b.n4 b.c4]
structure Bo.ok (w:World) (b:Bo):Prop where
 e1:b.n1=b.ss.length
 e2:b.n2=b.ms.length
 e3:b.n3=b.gs.length
 e4:b.n4=b.ds.length
 sm:b.n1+b.n2+b.n3+b.n4≤300
 r1:Rd w w.heap.size Sx.cells b.A1 b.ss
 r2:Rd w w.heap.size Mx.cells b.A2 b.ms
 r3:Rd w w.heap.size Mx.cells b.A3 b.gs
 r4:Rd w w.heap.size Dx.cells b.A4 b.ds
 rd:∀x∈b.ds,x.ok w
theorem Bo.ok.bel {w w':World} {b:Bo} (h:b.ok w) (hb:Below w.heap.size w w'):b.ok w':=⟨h.e1,h.e2,h.e3,h.e4,h.sm,h.r1.bel hb,h.r2.bel hb,h.r3.bel hb,h.r4.bel hb,fun x hx=>(h.rd x hx).bel hb⟩
def Bo.nums (b:Bo):Nat→List (List Int)
 | 0=>b.ss.map Sx.nums
 | 1=>b.ms.map Mx.nums
 | 2=>b.gs.map Mx.nums
 | _=>b.ds.map Dx.nums
def allF:Nat→FuncId
 | 0=>62
 | 1=>67
 | 2=>72
 | _=>77
def addF:Nat→FuncId
 | 0=>65
 | 1=>70
 | 2=>75
 | _=>80
def letB:Nat→List UInt8
 | 0=>[83]
 | 1=>[77]
 | 2=>[71]
 | _=>[68]
def worB:Nat→List UInt8
 | 0=>[83,72,79,84]
 | 1=>[77,65,82,75]
 | 2=>[71,65,85,71,69]
 | _=>[68,69,69,68]
def kindV (i:Nat):List Value:=[.string ⟨(letB i).toArray⟩,.string ⟨(worB i).toArray⟩,.func (.func (allF i)) #[] #[],.func (.func (addF i)) #[] #[]]
theorem ag_kinds (w:World):Calls Tryz.prog 35 #[] w fun e w'=>e= .returned (.agg (kindV 0 ++ kindV 1 ++ kindV 2 ++ kindV 3).toArray)∧Below w.heap.size w w':=by
 have hz:∀w:World,(zeroValue 87).run Tryz.prog w= .ok (.agg #[.string ⟨#[]⟩,.string ⟨#[]⟩,.nilFunc,.nilFunc,.string ⟨#[]⟩,.string ⟨#[]⟩,.nilFunc,.nilFunc,.string ⟨#[]⟩,.string ⟨#[]⟩,.nilFunc,.nilFunc,.string ⟨#[]⟩,.string ⟨#[]⟩,.nilFunc,.nilFunc]) w:=fun w=>by kernel_rfl
 obtain⟨b1,w1,e1,ew1,hx1,hb1,hz1⟩:=mk_bx w #[.string ⟨#[83]⟩,.string ⟨#[83,72,79,84]⟩,.func (.func 62) #[] #[],.func (.func 65) #[] #[],.string ⟨#[77]⟩,.string ⟨#[77,65,82,75]⟩,.func (.func 67) #[] #[],.func (.func 70) #[] #[],.string ⟨#[71]⟩,.string ⟨#[71,65,85,71,69]⟩,.func (.func 72) #[] #[],.func (.func 75) #[] #[],.string ⟨#[68]⟩,.string ⟨#[68,69,69,68]⟩,.func (.func 77) #[] #[],.func (.func 80) #[] #[]] 87
 have q0:=hx1.at_.2 0 _ rfl
 have q1:=hx1.at_.2 1 _ rfl
 have q2:=hx1.at_.2 2 _ rfl
 have q3:=hx1.at_.2 3 _ rfl
 have q4:=hx1.at_.2 4 _ rfl
 have q5:=hx1.at_.2 5 _ rfl
 have q6:=hx1.at_.2 6 _ rfl
 have q7:=hx1.at_.2 7 _ rfl
 have q8:=hx1.at_.2 8 _ rfl
 have q9:=hx1.at_.2 9 _ rfl
 have q10:=hx1.at_.2 10 _ rfl
 have q11:=hx1.at_.2 11 _ rfl
 have q12:=hx1.at_.2 12 _ rfl
 have q13:=hx1.at_.2 13 _ rfl
 have q14:=hx1.at_.2 14 _ rfl
 have q15:=hx1.at_.2 15 _ rfl
 have HB1:=hide hb1
 clear hz1 hb1
 go_enter Tryz.func35,Tryz.ntmps35
 go_wp2_with fail
 rw[ew1.out,e1.out]
 refine bodyPost_ret (by simp[results,Tryz.results35,go_sem,q0,q1,q2,q3,q4,q5,q6,q7,q8,q9,q10,q11,q12,q13,q14,q15];try rfl) rfl ?_
 exact⟨rfl,by rw[←e1.out];exact HB1.out⟩
set_option maxRecDepth 100000 in
theorem ak0_any (b:Bo) (w:World) (hok:b.ok w):Calls Tryz.prog 62 #[.agg #[.slice b.A1 b.n1 b.c1,.slice b.A2 b.n2 b.c2,.slice b.A3 b.n3 b.c3,.slice b.A4 b.n4 b.c4]] w (NumsPost (b.nums 0) w):=by
 obtain⟨b1,w1,e1,ew1,hx1,hb1,hz1⟩:=mk_bx w #[.slice b.A1 b.n1 b.c1,.slice b.A2 b.n2 b.c2,.slice b.A3 b.n3 b.c3,.slice b.A4 b.n4 b.c4] 27
 have Hok:=hide (hok.bel hb1)
 have HB:=hide hb1
 obtain⟨q0,q1,q2,q3⟩:=hx1.at_.c4
 have eg:∀args w,(callFunc 64 args).run Tryz.prog w= .ok (.enter 64 args) w:=enters_of Tryz.func64 (by kernel_rfl) rfl
 have hc:=hide (nofS_any 64 b.A1 b.ss b.n1 b.c1 w1 Hok.out.e1 (by have:=Hok.out.sm;omega) Hok.out.r1 eg (fun x w2 _ _=>sx_any x w2))
 have hmf:∀(fn:Fn) (first cap:Array Value) (w:World),(Instr.makeFunc fn first cap).run Tryz.prog w= .ok (.func fn first cap) w:=fun _ _ _ _=>rfl
 clear hok hx1 hb1 hz1 eg
 go_enter Tryz.func62,Tryz.ntmps62
 go_wp2_with fail
 rw[ew1.out,e1.out]
 refine hc.out.mono ?_
 rintro e w2 ⟨v,ks,rfl,hh,hk,hb2⟩
 have HH:=hide hh;have HK:=hide hk;have HB2:=hide hb2
 clear hh hk hb2
 go_wp2_with fail
 go_returns
 exact⟨v,ks,rfl,HH.out.mono HB.out.size,HK.out,HB.out.trans (HB2.out.mono HB.out.size)⟩
set_option maxRecDepth 100000 in
theorem ak1_any (b:Bo) (w:World) (hok:b.ok w):Calls Tryz.prog 67 #[.agg #[.slice b.A1 b.n1 b.c1,.slice b.A2 b.n2 b.c2,.slice b.A3 b.n3 b.c3,.slice b.A4 b.n4 b.c4]] w (NumsPost (b.nums 1) w):=by
 obtain⟨b1,w1,e1,ew1,hx1,hb1,hz1⟩:=mk_bx w #[.slice b.A1 b.n1 b.c1,.slice b.A2 b.n2 b.c2,.slice b.A3 b.n3 b.c3,.slice b.A4 b.n4 b.c4] 27
 have Hok:=hide (hok.bel hb1)
 have HB:=hide hb1
 obtain⟨q0,q1,q2,q3⟩:=hx1.at_.c4
 have eg:∀args w,(callFunc 69 args).run Tryz.prog w= .ok (.enter 69 args) w:=enters_of Tryz.func69 (by kernel_rfl) rfl
 have hc:=hide (nofM_any 69 b.A2 b.ms b.n2 b.c2 w1 Hok.out.e2 (by have:=Hok.out.sm;omega) Hok.out.r2 eg (fun x w2 _ _=>mx_any x w2))
 have hmf:∀(fn:Fn) (first cap:Array Value) (w:World),(Instr.makeFunc fn first cap).run Tryz.prog w= .ok (.func fn first cap) w:=fun _ _ _ _=>rfl
 clear hok hx1 hb1 hz1 eg
 go_enter Tryz.func67,Tryz.ntmps67
 go_wp2_with fail
 rw[ew1.out,e1.out]
 refine hc.out.mono ?_
 rintro e w2 ⟨v,ks,rfl,hh,hk,hb2⟩
 have HH:=hide hh;have HK:=hide hk;have HB2:=hide hb2
 clear hh hk hb2
 go_wp2_with fail
 go_returns
 exact⟨v,ks,rfl,HH.out.mono HB.out.size,HK.out,HB.out.trans (HB2.out.mono HB.out.size)⟩
set_option maxRecDepth 100000 in
theorem ak2_any (b:Bo) (w:World) (hok:b.ok w):Calls Tryz.prog 72 #[.agg #[.slice b.A1 b.n1 b.c1,.slice b.A2 b.n2 b.c2,.slice b.A3 b.n3 b.c3,.slice b.A4 b.n4 b.c4]] w (NumsPost (b.nums 2) w):=by
 obtain⟨b1,w1,e1,ew1,hx1,hb1,hz1⟩:=mk_bx w #[.slice b.A1 b.n1 b.c1,.slice b.A2 b.n2 b.c2,.slice b.A3 b.n3 b.c3,.slice b.A4 b.n4 b.c4] 27
 have Hok:=hide (hok.bel hb1)
 have HB:=hide hb1
 obtain⟨q0,q1,q2,q3⟩:=hx1.at_.c4
 have eg:∀args w,(callFunc 74 args).run Tryz.prog w= .ok (.enter 74 args) w:=enters_of Tryz.func74 (by kernel_rfl) rfl
 have hc:=hide (nofG_any 74 b.A3 b.gs b.n3 b.c3 w1 Hok.out.e3 (by have:=Hok.out.sm;omega) Hok.out.r3 eg (fun x w2 _ _=>gx_any x w2))
 have hmf:∀(fn:Fn) (first cap:Array Value) (w:World),(Instr.makeFunc fn first cap).run Tryz.prog w= .ok (.func fn first cap) w:=fun _ _ _ _=>rfl
 clear hok hx1 hb1 hz1 eg
 go_enter Tryz.func72,Tryz.ntmps72
 go_wp2_with fail
 rw[ew1.out,e1.out]
 refine hc.out.mono ?_
 rintro e w2 ⟨v,ks,rfl,hh,hk,hb2⟩
 have HH:=hide hh;have HK:=hide hk;have HB2:=hide hb2
 clear hh hk hb2
 go_wp2_with fail
 go_returns
 exact⟨v,ks,rfl,HH.out.mono HB.out.size,HK.out,HB.out.trans (HB2.out.mono HB.out.size)⟩
set_option maxRecDepth 100000 in
theorem ak3_any (b:Bo) (w:World) (hok:b.ok w):Calls Tryz.prog 77 #[.agg #[.slice b.A1 b.n1 b.c1,.slice b.A2 b.n2 b.c2,.slice b.A3 b.n3 b.c3,.slice b.A4 b.n4 b.c4]] w (NumsPost (b.nums 3) w):=by
 obtain⟨b1,w1,e1,ew1,hx1,hb1,hz1⟩:=mk_bx w #[.slice b.A1 b.n1 b.c1,.slice b.A2 b.n2 b.c2,.slice b.A3 b.n3 b.c3,.slice b.A4 b.n4 b.c4] 27
 have Hok:=hide (hok.bel hb1)
 have HB:=hide hb1
 obtain⟨q0,q1,q2,q3⟩:=hx1.at_.c4
 have eg:∀args w,(callFunc 79 args).run Tryz.prog w= .ok (.enter 79 args) w:=enters_of Tryz.func79 (by kernel_rfl) rfl
 have hc:=hide (nofD_any 79 b.A4 b.ds b.n4 b.c4 w1 Hok.out.e4 (by have:=Hok.out.sm;omega) Hok.out.r4 eg (fun x w2 hx hb=>dx_any x w2 ((Hok.out.rd x hx).bel hb)))
 have hmf:∀(fn:Fn) (first cap:Array Value) (w:World),(Instr.makeFunc fn first cap).run Tryz.prog w= .ok (.func fn first cap) w:=fun _ _ _ _=>rfl
 clear hok hx1 hb1 hz1 eg
 go_enter Tryz.func77,Tryz.ntmps77
 go_wp2_with fail
 rw[ew1.out,e1.out]
 refine hc.out.mono ?_
 rintro e w2 ⟨v,ks,rfl,hh,hk,hb2⟩
 have HH:=hide hh;have HK:=hide hk;have HB2:=hide hb2
 clear hh hk hb2
 go_wp2_with fail
 go_returns
 exact⟨v,ks,rfl,HH.out.mono HB.out.size,HK.out,HB.out.trans (HB2.out.mono HB.out.size)⟩
theorem ak_any (b:Bo) (i:Nat) (w:World) (hi:i < 4) (hok:b.ok w):Calls Tryz.prog (allF i) #[.agg #[.slice b.A1 b.n1 b.c1,.slice b.A2 b.n2 b.c2,.slice b.A3 b.n3 b.c3,.slice b.A4 b.n4 b.c4]] w (NumsPost (b.nums i) w):=by
 obtain rfl | rfl | rfl | rfl:i=0∨i=1∨i=2∨i=3:=by omega
 ·exact ak0_any b w hok
 ·exact ak1_any b w hok
 ·exact ak2_any b w hok
 ·exact ak3_any b w hok
theorem all_enters (i:Nat) (hi:i < 4):∀args w,(callFunc (allF i) args).run Tryz.prog w= .ok (.enter (allF i) args) w:=by
 obtain rfl | rfl | rfl | rfl:i=0∨i=1∨i=2∨i=3:=by omega
 ·exact enters_of Tryz.func62 (by kernel_rfl) rfl
 ·exact enters_of Tryz.func67 (by kernel_rfl) rfl
 ·exact enters_of Tryz.func72 (by kernel_rfl) rfl
 ·exact enters_of Tryz.func77 (by kernel_rfl) rfl
end Go.Proofs.YtgfghffihjfbpaaGreatDoor
