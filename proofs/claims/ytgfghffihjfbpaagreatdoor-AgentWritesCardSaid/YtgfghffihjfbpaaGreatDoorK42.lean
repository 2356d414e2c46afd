/- AgentWrites: the texts of a book and of a log, or the errors, are as the document says, for all books and logs; what its row lists (three tables that strconv.Itoa may read) is tied to the program's text by the given tie. No conditions.: LAgentWrites. No conditions. -/
import Derived.Test.YtgfghffihjfbpaaGreatDoorK39
import Derived.Test.YtgfghffihjfbpaaGreatDoorK40
import Derived.Test.YtgfghffihjfbpaaGreatDoorK41
import Derived.Test.YtgfghffihjfbpaaGreatDoorCards
import Derived.Test.YtgfghffihjfbpaaGreatDoorTie
import Derived.SevenTiedAt
set_option linter.unusedVariables false
set_option linter.unusedSimpArgs false
namespace Go.Proofs.YtgfghffihjfbpaaGreatDoor
open Go.RowKit Go.Shelf Go.WideShapes Go.ChangeShapes Go.ChangeAt
set_option maxHeartbeats 4000000 in
set_option maxRecDepth 100000 in
theorem agentwrites_walk (b:Bo) (A:Option Addr) (n c:Nat) (L:List Ex) (w:World) (hwf:b.wf w) (hn:n=L.length) (hm:n≤9223372036854775807) (hx:Rd w w.heap.size Ex.cells A L) (hwl:∀x∈L,x.wf w) (ht:Tb w) :
 Calls Tryz.prog 3 #[.agg #[.slice b.A1 b.n1 b.c1,.slice b.A2 b.n2 b.c2,.slice b.A3 b.n3 b.c3,.slice b.A4 b.n4 b.c4],.slice A n c] w fun e w'=>e= .returned (.bool true)∧Below w.heap.size w w':=by
 obtain⟨b1,w1,e1,ew1,hx1,hb1,hz1⟩:=mk_bx w #[.slice b.A1 b.n1 b.c1,.slice b.A2 b.n2 b.c2,.slice b.A3 b.n3 b.c3,.slice b.A4 b.n4 b.c4] 27
 obtain⟨q0,q1,q2,q3⟩:=hx1.at_.c4
 have HX1:=hide hx1;have HB1:=hide hb1
 have Hwf:=hide hwf;have Hn:=hide hn;have Hm:=hide hm;have Hx:=hide hx;have Hwl:=hide hwl;have Ht:=hide ht
 have HG:=hide (ar_GreatBook b w1 (hwf.bel hb1))
 clear hx1 hb1 hz1 hwf hn hm hx hwl ht
 go_enter Tryz.func3,Tryz.ntmps3
 go_upto_region 1 with fail
 rw[ew1.out,e1.out]
 go_wp2_with fail
 refine HG.out.mono ?_
 rintro e w2 ⟨rfl,hb2⟩
 have HB2:=hide (HB1.out.trans (hb2.mono HB1.out.size))
 clear q0 q1 q2 q3 HG
 obtain⟨q0,q1,q2,q3⟩:=(HX1.out.bel hb2).at_.c4
 have HX2:=hide (HX1.out.bel hb2)
 clear hb2
 cases hg:greatB b
 ·have Hok:=hide (Hwf.out.ok hg)
  have HL:=hide (ar_GreatLog A n c L w2 Hn.out Hm.out (Hx.out.bel HB2.out) (fun x hx=>⟨(Hwl.out x hx).1,(Hwl.out x hx).2.1,(Hwl.out x hx).2.2.bel HB2.out⟩))
  clear hg
  go_wp2_with fail
  refine HL.out.mono ?_
  rintro e w3 ⟨rfl,rfl⟩
  cases hgl:greatL L
  ·have Hlk:=hide (fun x (hx:x∈L)=>Ex.wf.ok (Hwl.out x hx) hx hgl)
   have hn2:n≤250:=by
    unfold greatL at hgl
    rw[Bool.or_eq_false_iff] at hgl
    have:=of_decide_eq_false hgl.1
    rw[Hn.out];omega
   clear hgl HL
   obtain⟨s1,hs1⟩:∃s,s=b.wrote:=⟨_,rfl⟩
   obtain⟨s2,hs2⟩:∃s,s=logWrote L:=⟨_,rfl⟩
   have C1:=hide (fun W (h:Below w.heap.size w W)=>ag_WriteBook b W (Hok.out.bel h) (Ht.out.bel h))
   have C2:=hide (fun W (h:Below w.heap.size w W)=>ar_WriteBook b W (Hok.out.bel h))
   have C3:=hide (fun W (h:Below w.heap.size w W)=>ag_WriteLog A n c L W Hn.out hn2 (Hx.out.bel h) (fun x hx=>(Hlk.out x hx).bel h) (Ht.out.bel h))
   have C4:=hide (fun W (h:Below w.heap.size w W)=>ar_WriteLog A n c L W Hn.out hn2 (Hx.out.bel h) (fun x hx=>(Hlk.out x hx).bel h))
   rw[←hs1] at C1 C2
   rw[←hs2] at C3 C4
   obtain⟨a1,i1⟩:=s1
   obtain⟨a2,i2⟩:=s2
   dsimp only at C1 C2 C3 C4
   clear hs1 hs2
   go_wp2_with fail
   refine(C1.out _ HB2.out).mono ?_
   rintro e w3 ⟨rfl,hb3⟩
   have HB3:=hide (HB2.out.trans (hb3.mono HB2.out.size))
   clear q0 q1 q2 q3
   obtain⟨q0,q1,q2,q3⟩:=(HX2.out.bel hb3).at_.c4
   clear hb3
   go_wp2_with fail
   refine(C2.out _ HB3.out).mono ?_
   rintro e w4 ⟨rfl,hb4⟩
   have HB4:=hide (HB3.out.trans (hb4.mono HB3.out.size))
   clear q0 q1 q2 q3 hb4
   go_wp2_with fail
   refine(C3.out _ HB4.out).mono ?_
   rintro e w5 ⟨rfl,hb5⟩
   have HB5:=hide (HB4.out.trans (hb5.mono HB4.out.size))
   clear hb5
   go_wp2_with fail
   refine(C4.out _ HB5.out).mono ?_
   rintro e w6 ⟨rfl,hb6⟩
   have HB6:=hide (HB5.out.trans (hb6.mono HB5.out.size))
   clear hb6
   go_wp2_with fail
   go_returns
   exact⟨by first | rfl | (simp;done),HB6.out⟩
  ·clear hgl
   go_wp2_with fail
   go_returns
   exact⟨rfl,HB2.out⟩
 ·clear hg
  go_wp2_with fail
  go_returns
  exact⟨rfl,HB2.out⟩
set_option maxRecDepth 100000 in
theorem agentWrites_lifted (os:Os) (started:os.Started) (H:Type) (enc:TypeId×Value→H) :
 ReturnsInHanded {} Tryz.checked os 3 .any (fun w args=>(Rows.agentWritesSpec.pre enc Tryz.prog Tryz.f3 [] false w args∧laidMetH Tryz.prog laidW w)∧sizedMet enc Tryz.prog Tryz.f3 (OpenSpec.ofChange Rows.agentWritesSpec) false w args) (Rows.agentWritesSpec.post enc Tryz.prog Tryz.f3 false true false false):=by
 refine law_laidA os started H enc (s:=Rows.agentWritesSpec) Tryz.func3 (by kernel_rfl) ?_ rfl Tryz.underlying4 rfl (of_decide_eq_true (by kernel_rfl))
  (ChangeSpec.witness_shaped (enc:=enc) (C:=Tryz.checked) (os:=os) (X:=fun w _=>laidMetH Tryz.prog laidW w) false (World.laidAll Tryz.prog os laidW) #[.agg #[.slice none 0 0,.slice none 0 0,.slice none 0 0,.slice none 0 0],.slice none 0 0] 8 (World.laidAll_os _ _ _)
   (World.shaped_of_ZipB (by kernel_rfl) (by kernel_rfl)) (by kernel_rfl) (by kernel_rfl) (by kernel_rfl)
   (by rw[MakeChecks.laidMetH_plain _ _ _ (by kernel_rfl)];exact laidMet_laidAll _ (by kernel_rfl) (by kernel_rfl))) ?_
 ·intro ds hds
  match ds,hds with
  | [a,b],_=>rfl
 ·intro W base args ds ps hval hA hlt hsz hnv
  rw[Tryz.params3] at hA hval hsz
  obtain⟨v0,v1,d0,d1,p0,p1,rfl,rfl,rfl,h0,h1⟩:=trodAll_two hA
  obtain⟨b,rfl,hwf⟩:=open_book hsz (j:=0) rfl rfl (hval 0 _ v0 rfl rfl) h0
  obtain⟨A,n,c,L,rfl,hn,hm,hx,hwl⟩:=open_slW (shape_entry W) Tryz.underlying28 (show Tryz.prog.cellsOf 57=3 by kernel_rfl) Ex.len (by omega) (hval 1 _ v1 rfl rfl) h1
  exact agentwrites_walk b A n c L W hwf hn hm hx hwl hnv
theorem agentWrites_row_holds:Rows.AgentWritesSaid:=
 OpenClaim.holds_of_wide 3 Tryz.f3 rfl rfl rfl rfl rfl rfl rfl ⟨rfl,rfl,rfl,rfl,rfl⟩ rfl rfl rfl rfl rfl (by kernel_rfl) Tryz.func3 agentWrites_closed
  (of_decide_eq_true (by kernel_rfl)) (by unfold Func.isWrapper;rw[if_neg (of_decide_eq_false (by kernel_rfl))];exact⟨rfl,rfl⟩)
  (fun os started H enc _=>agentWrites_lifted os started H enc)
theorem agentWrites_params:(Tryz.f3.params.toList.all fun t=>Tryz.prog.wantsStandIn t == false)=true:=by kernel_rfl
theorem agentWrites_holds:Rows.AgentWritesCardSaid:=
 Claim7.holds_tied_plain_at .later [] [.data, .data, .data] true (true, "42333023fca36e2b5747c47a6d7cf95c34459bffe59f7fc436539bd0736a324b") true
  agentWrites_row_holds (fun _ h=>by cases h) (by kernel_rfl) (fun _ h=>by cases h) agentWrites_row_tie rfl ⟨rfl,rfl⟩ (by kernel_rfl) rfl
  (fun f fn hf hfn=>by
   obtain rfl : f = 3 := Option.some.inj ((show Tryz.prog.funcNamed "aflaj/aflajlaw11.AgentWrites" = some 3 by kernel_rfl).symm.trans hf) |>.symm
   obtain rfl:fn=Tryz.f3:=(Option.some.inj (Tryz.func3.symm.trans hfn)).symm
   exact⟨by kernel_rfl,fun j t ht=>by
    have h:=List.all_eq_true.1 agentWrites_params t (by rw[←Array.getElem?_toList] at ht;exact List.mem_of_getElem? ht)
    exact eq_of_beq h⟩)
  (by kernel_rfl)
#print axioms agentWrites_holds
end Go.Proofs.YtgfghffihjfbpaaGreatDoor
