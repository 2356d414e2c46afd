/- lemmas for agentWrites_holds: AGE. No conditions. -/
import Derived.Test.YtgfghffihjfbpaaGreatDoorK29
set_option linter.unusedVariables false
set_option linter.unusedSimpArgs false
namespace Go.Proofs.YtgfghffihjfbpaaGreatDoor
open Go.RowKit Go.Shelf
def scell (l:List UInt8):List Value:=[.string ⟨l.toArray⟩]
theorem scell_len (l:List UInt8):(scell l).length=1:=rfl
theorem Rd.str {w:World} {B:Nat} {A:Option Addr} {xs:List (List UInt8)} (h:Rd w B scell A xs) {i:Nat} (hi:i < xs.length) :
 ∃b off x,A=some ⟨b,off,none⟩∧b < B∧xs[i]?=some x∧w.cell? ⟨b,off+i,none⟩=some (.string ⟨x.toArray⟩):=by
 obtain⟨b,off,e,hB,hc⟩:=h (by omega)
 have hx:xs[i]?=some xs[i]:=List.getElem?_eq_getElem hi
 refine⟨b,off,_,e,hB,hx,?_⟩
 have:=flat_get scell_len hx (j:=0) (by omega)
 simp only[Nat.mul_one,Nat.add_zero] at this
 exact hc _ _ this
theorem sum_lines (xs:List (List UInt8)) {k:Nat} {x:List UInt8} (h:xs[k]?=some x):sumsFrom (sumsFrom (1,0) (linesTo xs k)) (lineB k x)=sumsFrom (1,0) (linesTo xs (k+1)):=by
 rw[linesTo_snoc h,sumsFrom_app]
theorem line_cat (k:Nat) (x:List UInt8):(((⟨(Lib.itoa ((k:Int)+1)).toArray⟩:ByteArray) ++ ⟨#[46]⟩) ++ ⟨x.toArray⟩) ++ ⟨#[10]⟩=⟨(lineB k x).toArray⟩:=by
 rw[show(⟨#[46]⟩:ByteArray)=⟨([46]:List UInt8).toArray⟩ from rfl,show(⟨#[10]⟩:ByteArray)=⟨([10]:List UInt8).toArray⟩ from rfl,bytes_app,bytes_app,bytes_app]
 unfold lineB
 simp
structure SeI (w:World) (b4 p1 p2 Z:Nat) (xs:List (List UInt8)) (k:Nat) (W:World):Prop where
 c1:Bx W p1 [.int .i64 ((sumsFrom (1,0) (linesTo xs k)).1:Nat)]
 c2:Bx W p2 [.int .i64 ((sumsFrom (1,0) (linesTo xs k)).2:Nat)]
 sb:SBz Z b4 (linesTo xs k) W
 bl:Below w.heap.size w W
 zle:Z≤W.heap.size
theorem SeI.bel {w:World} {b4 p1 p2 Z k:Nat} {xs:List (List UInt8)} {W W':World} (h:SeI w b4 p1 p2 Z xs k W) (hb:Below W.heap.size W W'):SeI w b4 p1 p2 Z xs k W':=
 ⟨h.c1.bel hb,h.c2.bel hb,h.sb.kept (Kept.all (fun _=>True) hb) trivial (fun _ _ _=>trivial),h.bl.trans (hb.mono h.bl.size),Nat.le_trans h.zle hb.size⟩
theorem SeI.step {w:World} {b4 p1 p2 Z k:Nat} {xs:List (List UInt8)} {x:List UInt8} {W6 W7 W8:World} (h:SeI w b4 p1 p2 Z xs k W6) (hx:xs[k]?=some x)
 (q1:Bx W7 p1 [.int .i64 ((sumsFrom (sumsFrom (1,0) (linesTo xs k)) (lineB k x)).1:Nat)]) (q2:Bx W7 p2 [.int .i64 ((sumsFrom (sumsFrom (1,0) (linesTo xs k)) (lineB k x)).2:Nat)])
 (h7:Kept (fun b=>b≠p1∧b≠p2) W6 W7) (h8:SBz Z b4 (linesTo xs k ++ lineB k x) W8) (k8:Kept (fun p=>p≠b4∧p < Z) W7 W8)
 (n41:b4≠p1) (n42:b4≠p2) (p1Z:p1 < Z) (p2Z:p2 < Z) (g1:w.heap.size≤p1) (g2:w.heap.size≤p2) (g4:w.heap.size≤b4):SeI w b4 p1 p2 Z xs (k+1) W8:=by
 rw[sum_lines xs hx] at q1 q2
 rw[←linesTo_snoc hx] at h8
 have hb7:=h.bl.trans (h7.below (fun p hp=>⟨by omega,by omega⟩) h.bl.size)
 exact⟨q1.kept k8 ⟨fun e=>n41 e.symm,p1Z⟩,q2.kept k8 ⟨fun e=>n42 e.symm,p2Z⟩,h8,hb7.trans (k8.below (fun p hp=>⟨by omega,by omega⟩) hb7.size),Nat.le_trans h.zle (Nat.le_trans h7.size k8.size)⟩
set_option maxHeartbeats 4000000 in
set_option maxRecDepth 100000 in
theorem ag_sealed (A:Option Addr) (n c:Nat) (xs:List (List UInt8)) (w:World) (hn:n=xs.length) (hm:n≤300) (hx:Rd w w.heap.size scell A xs) (hl:∀x∈xs,x.length≤10000) (ht:Tb w) :
 Calls Tryz.prog 20 #[.slice A n c] w fun e w'=>e= .returned (.tuple #[.string ⟨(sealS xs).1.toArray⟩,.int .i64 (sealS xs).2])∧Below w.heap.size w w':=by
 obtain⟨b4,w4,e4,ew4,hx4,hb4,hz4⟩:=mk_bx w #[.pointer none,.slice none 0 0] 116
 have h4:b4=w.heap.size:=e4.out.symm
 have HSB:=hide (show ∀Z,SBz Z b4 [] w4 from fun Z=>by
  rw[←ew4.out,h4]
  exact SBz.new w Z)
 have HB4:=hide hb4;have Hz4:=hide hz4
 have Hn:=hide hn;have Hx:=hide hx;have Hl:=hide hl;have Ht:=hide ht;have H4:=hide h4
 clear hn hx hl ht hx4 hb4 hz4 h4
 go_enter Tryz.func20,Tryz.ntmps20
 go_upto_region 2 with fail
 rw[ew4.out,e4.out]
 go_wp2_with fail
 refine(ag_summing w4).mono ?_
 rintro e w5 ⟨p1,p2,rfl,h1,h2,hne,g1,g2,hb5⟩
 obtain⟨Z,hZ⟩:∃Z,Z=w5.heap.size:=⟨_,rfl⟩
 have hl1:=h1.lt;have hl2:=h2.lt;have hs5:=hb5.size
 have hw4:=Hz4.out;have hw:=H4.out
 have n41:b4≠p1:=by omega
 have N12:=hide hne
 have n42:b4≠p2:=by omega
 have b4Z:b4 < Z:=by omega
 have p1Z:p1 < Z:=by omega
 have p2Z:p2 < Z:=by omega
 have gw1:w.heap.size≤p1:=by omega
 have gw2:w.heap.size≤p2:=by omega
 have gw4:w.heap.size≤b4:=by omega
 have hI0:=hide (show SeI w b4 p1 p2 Z xs 0 w5 from⟨h1,h2,(HSB.out Z).kept (Kept.all (fun _=>True) hb5) trivial (fun _ _ _=>trivial),HB4.out.trans (hb5.mono HB4.out.size),by omega⟩)
 have Hg:=hide (show((((b4≠p1∧b4≠p2)∧b4 < Z)∧p1 < Z∧p2 < Z)∧w.heap.size≤p1∧w.heap.size≤p2∧w.heap.size≤b4) from⟨⟨⟨⟨n41,n42⟩,b4Z⟩,p1Z,p2Z⟩,gw1,gw2,gw4⟩)
 have Hlt:=hide (fun k (h:k≤300)=>linesTo_len xs (fun x hx=>Hl.out x hx) k (by omega))
 have eg:=enters_sum1
 clear h1 h2 hb5 hZ hl1 hl2 hs5 hw4 hw g1 g2 HSB n41 n42 b4Z p1Z p2Z gw1 gw2 gw4 hne
 go_wp2_with fail
 go_loopw [13] (fun iv wr=>∃k:Nat,k≤n∧iv= .int .i64 k∧Hid (SeI w b4 p1 p2 Z xs k wr)) (fun iv _=>n-(intOf iv).toNat)
 case atStart=>exact⟨0,by omega,rfl,hI0⟩
 case round=>
  clear hI0
  obtain⟨k,hk,rfl,HI⟩:=hrel
  obtain⟨wo,rfl⟩:∃wo,wo=wr:=⟨_,rfl⟩
  by_cases hlt:k < n
  ·obtain⟨b,off,x,rfl,_,hxk,c0⟩:=(Hx.out.bel HI.out.bl).str (i:=k) (by have:=Hn.out;omega)
   have ik:(k:Int) < (n:Int):=by omega
   have hxl:=Hl.out x (List.mem_of_getElem? hxk)
   have HT:=hide (Ht.out.bel HI.out.bl)
   have hil:=Lib.itoa_length_le ((k:Int)+1) (by omega) (by omega)
   have t1:¬9223372036854775807 < (Lib.itoa ((k:Int)+1)).length+1:=by omega
   have t2:¬9223372036854775807 < (Lib.itoa ((k:Int)+1)).length+1+x.length:=by omega
   have t3:¬9223372036854775807 < (Lib.itoa ((k:Int)+1)).length+1+x.length+1:=by omega
   have Hxk:=hide hxk
   clear hxk
   go_wp2_with fail
   refine(ag_itoa ((k:Int)+1) wo (by omega) (by omega) HT.out).mono ?_
   rintro e w6 ⟨rfl,hb6⟩
   have HI6:=hide (HI.out.bel hb6)
   clear hb6 c0
   go_upto_region 7 with fail
   rw[line_cat]
   have hbd:=sumsFrom_bd (linesTo xs k) (s:=(1,0)) ⟨by decide,by decide⟩
   have hll:=lineB_len k x (by omega) hxl
   have hlk:=Hlt.out k (by omega)
   have H7:=hide (ag_sum1 p1 p2 (sumsFrom (1,0) (linesTo xs k)) (lineB k x) w6 HI6.out.c1 HI6.out.c2 N12.out hbd.1 hbd.2 (by omega))
   clear hbd t1 t2 t3 hil
   go_wp2_with (first | (go_at_fn 94;refine H7.out.mono ?_;rintro e w7 ⟨rfl,q1,q2,hk7⟩;have Q1:=hide q1;have Q2:=hide q2;have K7:=hide hk7;clear q1 q2 hk7 H7) | (go_at_call 50;refine(sb_put Z b4 (linesTo xs k) (lineB k x) _ (HI6.out.sb.kept K7.out ⟨Hg.out.1.1.1.1,Hg.out.1.1.1.2⟩ (fun g h1 h2=>by have:=Hg.out.1.2;omega)) (by omega) (by omega) (Nat.le_trans HI6.out.zle K7.out.size) Hg.out.1.1.2).mono ?_;rintro e w8 ⟨rfl,h8,k8⟩;have hI8:=hide (HI6.out.step Hxk.out Q1.out Q2.out K7.out h8 k8 Hg.out.1.1.1.1 Hg.out.1.1.1.2 Hg.out.1.2.1 Hg.out.1.2.2 Hg.out.2.1 Hg.out.2.2.1 Hg.out.2.2.2);clear h8 k8))
   exact⟨⟨k+1,by omega,by go_num,hI8⟩,by simp[intOf];omega⟩
  ·obtain rfl:n=k:=by omega
   obtain⟨T,hT⟩:∃T,T=linesTo xs n:=⟨_,rfl⟩
   obtain⟨s,hs⟩:∃s,s=sumsFrom (1,0) T:=⟨_,rfl⟩
   have hlk:=Hlt.out n (by omega)
   obtain⟨c1,c2,csb,cbl,czl⟩:=HI.out
   rw[←hT,←hs] at c1 c2
   rw[←hT] at csb hlk
   have hbd:=sumsFrom_bd T (s:=(1,0)) ⟨by decide,by decide⟩
   rw[←hs] at hbd
   obtain⟨hba,hbb⟩:=hbd
   have H7:=hide (ag_sum1 p1 p2 s [] wo c1 c2 N12.out hba hbb (by simp))
   have CSB:=hide csb;have CBL:=hide cbl;have CZL:=hide czl
   have HS:=hide (show sealS xs=writB T n by rw[seal_writ,hT,Hn.out])
   have HLB:=hide (show lastB T n=phraseB ([61] ++ Lib.itoa (n:Int)) [(s.1:Int),(s.2:Int)] ++ [10] by rw[hs];rfl)
   have hlast:=lastB_len T n (by omega)
   have hil:=Lib.itoa_length_le (n:Int) (by omega) (by omega)
   have t1:¬9223372036854775807 < 1+(Lib.itoa (n:Int)).length:=by omega
   clear c1 c2 csb cbl czl hT hs HI
   go_upto_region 11 with(go_at_fn 94;refine H7.out.mono ?_;rintro e w7 ⟨rfl,q1,q2,hk7⟩;have K7:=hide hk7;clear q1 q2 hk7 H7)
   rw[show sumsFrom s []=s from rfl]
   obtain⟨a,b⟩:=s
   dsimp only at hba hbb HLB
   dsimp only
   have HB7:=hide (CBL.out.trans (K7.out.below (fun p hp=>by have:=Hg.out.2;exact⟨by omega,by omega⟩) CBL.out.size))
   have SB7:=hide (CSB.out.kept K7.out ⟨Hg.out.1.1.1.1,Hg.out.1.1.1.2⟩ (fun g h1 h2=>by have:=Hg.out.1.2;omega))
   have HZ7:=hide (Nat.le_trans CZL.out K7.out.size)
   go_wp2_with fail
   refine(ag_itoa (n:Int) w7 (by omega) (by omega) (Ht.out.bel HB7.out)).mono ?_
   rintro e w8 ⟨rfl,hb8⟩
   obtain⟨w9,ew9⟩:∃w9,Hid (w8.alloc (.cells #[.int .i64 (a:Int),.int .i64 (b:Int)] 3)=w9):=⟨_,hide rfl⟩
   have hr:=Rd.new (cells:=icell) w8 #[.int .i64 (a:Int),.int .i64 (b:Int)] 3 [(a:Int),(b:Int)] rfl
   have hb9:Below w8.heap.size w8 w9:=by rw[←ew9.out];exact below_new _ _
   have hz9:w9.heap.size=w8.heap.size+1:=by rw[←ew9.out];simp
   rw[ew9.out,←hz9] at hr
   have hb79:=hb8.trans (hb9.mono hb8.size)
   have HP:=hide (ag_phrase ([61] ++ Lib.itoa (n:Int)) (some ⟨w8.heap.size,0,none⟩) [(a:Int),(b:Int)] 2 2 w9 rfl (by omega) (by simp;omega) hr (fun x hx=>by simp at hx;omega) (Ht.out.bel (HB7.out.trans (hb79.mono HB7.out.size))))
   obtain⟨ph,hph⟩:∃ph,ph=phraseB ([61] ++ Lib.itoa (n:Int)) [(a:Int),(b:Int)]:=⟨_,rfl⟩
   rw[←hph] at HP HLB
   have hpl:ph.length≤100:=by have:=congrArg List.length HLB.out;simp at this;omega
   have t2:¬9223372036854775807 < ph.length+1:=by omega
   have HB79:=hide hb79
   clear hr hb8 hb9 hz9 hb79 hph
   go_wp2_with fail
   rw[ew9.out,show(⟨#[61]⟩:ByteArray)=⟨([61]:List UInt8).toArray⟩ from rfl,bytes_app]
   refine HP.out.mono ?_
   rintro e w10 ⟨rfl,hb10⟩
   have hb710:=HB79.out.trans (hb10.mono HB79.out.size)
   have HB10:=hide (HB7.out.trans (hb710.mono HB7.out.size))
   have SB10:=hide (SB7.out.kept (Kept.all (fun _=>True) hb710) trivial (fun _ _ _=>trivial))
   have hz10:=hb710.size
   clear hb10 hb710
   go_wp2_with fail
   rw[show(⟨#[10]⟩:ByteArray)=⟨([10]:List UInt8).toArray⟩ from rfl,bytes_app,←HLB.out]
   refine(sb_put Z b4 T (lastB T n) w10 SB10.out (by omega) (by omega) (Nat.le_trans HZ7.out hz10) Hg.out.1.1.2).mono ?_
   rintro e w11 ⟨rfl,h11,k11⟩
   have HB11:=hide (HB10.out.trans (k11.below (fun p hp=>by have:=Hg.out;exact⟨by omega,by omega⟩) HB10.out.size))
   have S11:=hide (h11.at_ (B:=w.heap.size) Hg.out.2.2.2 (by have:=Hg.out;omega))
   clear h11 k11
   go_wp2_with fail
   refine(Tryz.Builder_Len_f w.heap.size b4 _ w11 S11.out).mono ?_
   rintro e w' ⟨rfl,rfl⟩
   rw[Lib.byteCells_length]
   obtain⟨R,hR⟩:∃R,R=T ++ lastB T n:=⟨_,rfl⟩
   have hRl:R.length≤10000000:=by rw[hR,List.length_append];omega
   have HW:=hide (show writB T n=if 30000 < R.length then([],9) else(R,0) by rw[hR];rfl)
   rw[←hR] at S11 ⊢
   obtain⟨m,hm'⟩:∃m,m=R.length:=⟨_,rfl⟩
   rw[←hm'] at HW hRl ⊢
   clear hm'
   by_cases h30:30000 < m
   ·have d1:decide ((30000:Int) < (m:Int))=true:=decide_eq_true (by omega)
    have HW2:=hide (show writB T n=([],9) by rw[HW.out,if_pos h30])
    clear h30 HW
    go_wp2_with fail
    go_returns
    exact⟨by rw[HS.out,HW2.out];rfl,HB11.out⟩
   ·have d1:decide ((30000:Int) < (m:Int))=false:=decide_eq_false (by omega)
    have HW2:=hide (show writB T n=(R,0) by rw[HW.out,if_neg h30])
    clear h30 HW
    go_wp2_with fail
    refine(Tryz.Builder_String_any_f w.heap.size b4 R w' S11.out HB11.out.size).mono ?_
    rintro e w12 ⟨rfl,_,hb12⟩
    have HB12:=hide (HB11.out.trans hb12)
    clear hb12
    go_wp2_with fail
    go_returns
    exact⟨by rw[HS.out,HW2.out,hR];rfl,HB12.out⟩
end Go.Proofs.YtgfghffihjfbpaaGreatDoor
