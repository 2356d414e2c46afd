/- lemmas for agentWrites_holds: AGH. No conditions. -/
import Derived.Test.YtgfghffihjfbpaaGreatDoorK33
set_option linter.unusedVariables false
set_option linter.unusedSimpArgs false
namespace Go.Proofs.YtgfghffihjfbpaaGreatDoor
open Go.RowKit Go.Shelf
theorem below_of_eqA {w w':World} (h:w=w'):Below w.heap.size w w':=h ▸ Below.refl _ _
set_option maxHeartbeats 4000000 in
set_option maxRecDepth 100000 in
theorem ar_written (l:List UInt8) (n:Nat) (w:World) (hl:l.length≤100000000) (hn:n≤1000000) :
 Calls Tryz.prog 24 #[.string ⟨l.toArray⟩,.int .i64 (n:Int)] w fun e w'=>e= .returned (.tuple #[.string ⟨(writB l n).1.toArray⟩,.int .i64 (writB l n).2])∧Below w.heap.size w w':=by
 have hS:=hide (ar_last l n w (by omega) hn)
 have hlast:=lastB_len l n hn
 obtain⟨m,hm⟩:∃m,m=lastB l n:=⟨_,rfl⟩
 have HW:Hid (writB l n=if 30000 < (l ++ m).length then([],9) else(l ++ m,0)):=hide (by rw[hm];rfl)
 rw[←hm] at hS hlast
 have t1:¬9223372036854775807 < l.length+m.length:=by omega
 clear hm
 go_enter Tryz.func24,Tryz.ntmps24
 go_wp2_with fail
 refine hS.out.mono ?_
 rintro e w2 ⟨rfl,hb2⟩
 have HB2:=hide hb2
 clear hb2 hS
 go_upto_region 2 with fail
 rw[bytes_app]
 obtain⟨R,hR⟩:∃R,R=l ++ m:=⟨_,rfl⟩
 rw[←hR] at HW ⊢
 obtain⟨q,hq⟩:∃q,q=R.length:=⟨_,rfl⟩
 rw[←hq] at HW
 have hsz:(⟨R.toArray⟩:ByteArray).size=q:=by rw[hq];show R.toArray.size=_;simp
 have hql:q≤1000000000:=by rw[hq,hR,List.length_append];omega
 have hq2:R.length=q:=hq.symm
 clear hR hq
 by_cases h30:30000 < q
 ·have d1:decide ((30000:Int) < (q:Int))=true:=decide_eq_true (by omega)
  have HW2:=hide (show writB l n=([],9) by rw[HW.out,if_pos h30])
  clear h30 HW
  go_wp2_with fail
  go_returns
  exact⟨by rw[HW2.out];rfl,HB2.out⟩
 ·have d1:decide ((30000:Int) < (q:Int))=false:=decide_eq_false (by omega)
  have HW2:=hide (show writB l n=(R,0) by rw[HW.out,if_neg h30])
  clear h30 HW
  go_wp2_with fail
  go_returns
  exact⟨by rw[HW2.out];rfl,HB2.out⟩
theorem bl_cat (i:Nat) (lt:List UInt8):((⟨(Lib.itoa ((i:Int)+1)).toArray⟩:ByteArray) ++ ⟨#[46]⟩) ++ ⟨lt.toArray⟩=⟨(Lib.itoa ((i:Int)+1) ++ (46 :: lt)).toArray⟩:=by
 rw[show(⟨#[46]⟩:ByteArray)=⟨([46]:List UInt8).toArray⟩ from rfl,bytes_app,bytes_app]
 simp
theorem bl_line (i:Nat) (lt:List UInt8) (xs:List Int):phraseB (Lib.itoa ((i:Int)+1) ++ (46 :: lt)) xs ++ [10]=lineB i (phraseB lt xs):=by
 rw[phraseB_app,show(46 :: lt)=[46] ++ lt from rfl,phraseB_app]
 unfold lineB
 simp
set_option maxHeartbeats 4000000 in
set_option maxRecDepth 100000 in
theorem ar_bookLine (i:Nat) (lt wd:List UInt8) (A:Option Addr) (n c:Nat) (xs:List Int) (w:World) (hi:i≤100000) (hlt:lt.length≤1000) (hn:n=xs.length) (hm:n≤1000) (hx:Rd w w.heap.size icell A xs) (hb:∀x∈xs,-1000000000000≤x∧x≤1000000000000) :
 Calls Tryz.prog 23 #[.int .i64 ((i:Int)+1),.agg #[.string ⟨lt.toArray⟩,.string ⟨wd.toArray⟩,.slice A n c]] w fun e w'=>e= .returned (.string ⟨(lineB i (phraseB lt xs)).toArray⟩)∧Below w.heap.size w w':=by
 obtain⟨b1,w1,e1,ew1,hx1,hb1,hz1⟩:=mk_bx w #[.string ⟨lt.toArray⟩,.string ⟨wd.toArray⟩,.slice A n c] 74
 have Hat:=hide hx1;have HB1:=hide hb1
 have hil:=Lib.itoa_length_le ((i:Int)+1) (by omega) (by omega)
 have t1:¬9223372036854775807 < (Lib.itoa ((i:Int)+1)).length+1:=by omega
 have t2:¬9223372036854775807 < (Lib.itoa ((i:Int)+1)).length+1+lt.length:=by omega
 obtain⟨Ln,hLn⟩:∃Ln,Ln=phraseB (Lib.itoa ((i:Int)+1) ++ (46 :: lt)) xs:=⟨_,rfl⟩
 have hpl:=phraseB_len (Lib.itoa ((i:Int)+1) ++ (46 :: lt)) xs hb
 rw[←hLn,List.length_append,List.length_cons] at hpl
 have t3:¬9223372036854775807 < Ln.length+1:=by omega
 have HLn:=hide (show lineB i (phraseB lt xs)=Ln ++ [10] by rw[hLn,bl_line])
 obtain⟨wo,hwo⟩:∃wo,wo=w1:=⟨_,rfl⟩
 subst hwo
 have HP:Hid (∀V,Below wo.heap.size wo V→Calls Tryz.prog 57 #[.string ⟨(Lib.itoa ((i:Int)+1) ++ (46 :: lt)).toArray⟩,.string ⟨#[44]⟩,.slice A n c] V fun e w'=>e= .returned (.string ⟨Ln.toArray⟩)∧V=w'):=hide (fun V hV=>by
  rw[hLn]
  exact ar_phrase (Lib.itoa ((i:Int)+1) ++ (46 :: lt)) A xs n c V hn hm (by rw[List.length_append,List.length_cons];omega) (hx.bel (hb1.trans (hV.mono hb1.size))) hb)
 clear hx1 hb1 hz1 hil hpl hLn hn hx hb
 go_enter Tryz.func23,Tryz.ntmps23
 go_upto_region 1 with fail
 rw[ew1.out,e1.out]
 refine wp_region_held_drew (S:=(fun W=>Below wo.heap.size wo W)) (by kernel_rfl) (by(try dsimp only);exact(Below.refl _ _).drew) (fun hHeld=>?_)
 generalize World.drew wo=Wd1 at hHeld ⊢
 have hbc:=Below.refl Wd1.heap.size Wd1
 iterate 3
  refine tkHl [0,3,6] ?_ rfl rfl (Or.inl ⟨by rfl,?_⟩) hHeld ?_
  rotate_left
  ·(intro w _;go_simp;try(with_reducible rfl))
  try simp only[Act.put,tl1,tl2,tl3]
 iterate 2
  refine tkHl [4,7] ?_ rfl rfl (Or.inl ⟨by rfl,?_⟩) hHeld ?_
  rotate_left
  ·(intro w hSw;(try dsimp only at hSw);have zh:=(Hat.out.bel hSw).at_;have zh0:=zh.2 0 _ rfl;have zh2:=zh.2 2 _ rfl;go_simp;try(with_reducible rfl))
  try simp only[Act.put,tl1,tl2,tl3]
 refine wpAnyH_ready (rs:=[1]) (by kernel_rfl) (by simp) ?_
 refine AllReadyH.cons (o:=⟨_,_,_,_,_,_⟩) rfl (fun K hK=>?_) AllReadyH.nil
 go_simp
 refine(ar_number ((i:Int)+1) Wd1 (by omega) (by omega)).mono ?_
 rintro e V6 ⟨rfl,hw⟩
 have hb:=below_of_eqA hw
 clear hw
 go_wp2_with fail
 have hHeldN:=hHeld.trans (hb.mono hHeld.size)
 have hbc:=hbc.trans (hb.mono hbc.size)
 refine hK.out _ _ ?_ (fun hHeld2=>?_)
 ·exact hHeldN
 clear hK K hHeld hHeldN hb;have hHeld:=hHeld2;clear hHeld2
 try simp only[Act.put,tl1,tl2,tl3]
 iterate 2
  refine tkHl [2,5] ?_ rfl rfl (Or.inl ⟨by rfl,?_⟩) hHeld ?_
  rotate_left
  ·(intro w _;go_simp;try(with_reducible rfl))
  try simp only[Act.put,tl1,tl2,tl3]
 refine wpAnyH_ready (rs:=[8]) (by kernel_rfl) (by simp) ?_
 refine AllReadyH.cons (o:=⟨_,_,_,_,_,_⟩) rfl (fun K hK=>?_) AllReadyH.nil
 go_simp
 rw[bl_cat]
 refine((HP.out V6 hHeld)).mono ?_
 rintro e V13 ⟨rfl,hw⟩
 have hb:=below_of_eqA hw
 clear hw
 go_wp2_with fail
 have hHeldN:=hHeld.trans (hb.mono hHeld.size)
 have hbc:=hbc.trans (hb.mono hbc.size)
 refine hK.out _ _ ?_ (fun hHeld2=>?_)
 ·exact hHeldN
 clear hK K hHeld hHeldN hb;have hHeld:=hHeld2;clear hHeld2
 try simp only[Act.put,tl1,tl2,tl3]
 iterate 2
  refine tkHl [9,10] ?_ rfl rfl (Or.inl ⟨by rfl,?_⟩) hHeld ?_
  rotate_left
  ·(intro w _;go_simp;try(with_reducible rfl))
  try simp only[Act.put,tl1,tl2,tl3]
 refine wpAnyH_done (by kernel_rfl) ?_ _
 go_wp2_with fail
 go_returns
 exact⟨by rw[HLn.out,show(⟨#[10]⟩:ByteArray)=⟨([10]:List UInt8).toArray⟩ from rfl,bytes_app];rfl,HB1.out.trans (hHeld.mono HB1.out.size)⟩
theorem ll_cat (i:Nat) (d:Int) (wd:List UInt8):((((⟨(Lib.itoa ((i:Int)+1)).toArray⟩:ByteArray) ++ ⟨#[46,64]⟩) ++ ⟨(Lib.itoa d).toArray⟩) ++ ⟨#[32]⟩) ++ ⟨wd.toArray⟩=⟨(Lib.itoa ((i:Int)+1) ++ (46 :: (64 :: (Lib.itoa d ++ 32 :: wd)))).toArray⟩:=by
 rw[show(⟨#[46,64]⟩:ByteArray)=⟨([46,64]:List UInt8).toArray⟩ from rfl,show(⟨#[32]⟩:ByteArray)=⟨([32]:List UInt8).toArray⟩ from rfl,bytes_app,bytes_app,bytes_app,bytes_app]
 simp
set_option maxHeartbeats 4000000 in
set_option maxRecDepth 100000 in
theorem ar_logLine (i:Nat) (day:Int) (wd:List UInt8) (A:Option Addr) (n c:Nat) (xs:List Int) (w:World) (hi:i≤100000) (hd1: -1000000000000≤day) (hd2:day≤1000000000000) (hwl:wd.length≤1000) (hn:n=xs.length) (hm:n≤1000) (hx:Rd w w.heap.size icell A xs) (hb:∀x∈xs,-1000000000000≤x∧x≤1000000000000) :
 Calls Tryz.prog 31 #[.int .i64 ((i:Int)+1),.agg #[.int .i64 day,.string ⟨wd.toArray⟩,.slice A n c]] w fun e w'=>e= .returned (.string ⟨(lineB i (phraseB (64 :: (Lib.itoa day ++ 32 :: wd)) xs)).toArray⟩)∧Below w.heap.size w w':=by
 obtain⟨b1,w1,e1,ew1,hx1,hb1,hz1⟩:=mk_bx w #[.int .i64 day,.string ⟨wd.toArray⟩,.slice A n c] 57
 have Hat:=hide hx1;have HB1:=hide hb1
 have hil:=Lib.itoa_length_le ((i:Int)+1) (by omega) (by omega)
 have hdl:=Lib.itoa_length_le day (by omega) (by omega)
 have t1:¬9223372036854775807 < (Lib.itoa ((i:Int)+1)).length+2:=by omega
 have t2:¬9223372036854775807 < (Lib.itoa ((i:Int)+1)).length+2+(Lib.itoa day).length:=by omega
 have t3:¬9223372036854775807 < (Lib.itoa ((i:Int)+1)).length+2+(Lib.itoa day).length+1:=by omega
 have t4:¬9223372036854775807 < (Lib.itoa ((i:Int)+1)).length+2+(Lib.itoa day).length+1+wd.length:=by omega
 obtain⟨Ln,hLn⟩:∃Ln,Ln=phraseB (Lib.itoa ((i:Int)+1) ++ (46 :: (64 :: (Lib.itoa day ++ 32 :: wd)))) xs:=⟨_,rfl⟩
 have hpl:=phraseB_len (Lib.itoa ((i:Int)+1) ++ (46 :: (64 :: (Lib.itoa day ++ 32 :: wd)))) xs hb
 rw[←hLn,List.length_append,List.length_cons,List.length_cons,List.length_append,List.length_cons] at hpl
 have t5:¬9223372036854775807 < Ln.length+1:=by omega
 have HLn:=hide (show lineB i (phraseB (64 :: (Lib.itoa day ++ 32 :: wd)) xs)=Ln ++ [10] by rw[hLn,bl_line])
 obtain⟨wo,hwo⟩:∃wo,wo=w1:=⟨_,rfl⟩
 subst hwo
 have HP:Hid (∀V,Below wo.heap.size wo V→Calls Tryz.prog 57 #[.string ⟨(Lib.itoa ((i:Int)+1) ++ (46 :: (64 :: (Lib.itoa day ++ 32 :: wd)))).toArray⟩,.string ⟨#[44]⟩,.slice A n c] V fun e w'=>e= .returned (.string ⟨Ln.toArray⟩)∧V=w'):=hide (fun V hV=>by
  rw[hLn]
  exact ar_phrase (Lib.itoa ((i:Int)+1) ++ (46 :: (64 :: (Lib.itoa day ++ 32 :: wd)))) A xs n c V hn hm (by simp;omega) (hx.bel (hb1.trans (hV.mono hb1.size))) hb)
 clear hx1 hb1 hz1 hil hdl hpl hLn hn hx hb
 go_enter Tryz.func31,Tryz.ntmps31
 go_upto_region 1 with fail
 rw[ew1.out,e1.out]
 refine wp_region_held_drew (S:=(fun W=>Below wo.heap.size wo W)) (by kernel_rfl) (by(try dsimp only);exact(Below.refl _ _).drew) (fun hHeld=>?_)
 generalize World.drew wo=Wd1 at hHeld ⊢
 have hbc:=Below.refl Wd1.heap.size Wd1
 iterate 4
  refine tkHl [0,3,8,11] ?_ rfl rfl (Or.inl ⟨by rfl,?_⟩) hHeld ?_
  rotate_left
  ·(intro w _;go_simp;try(with_reducible rfl))
  try simp only[Act.put,tl1,tl2,tl3]
 iterate 3
  refine tkHl [4,9,12] ?_ rfl rfl (Or.inl ⟨by rfl,?_⟩) hHeld ?_
  rotate_left
  ·(intro w hSw;(try dsimp only at hSw);have zh:=(Hat.out.bel hSw).at_;have zh0:=zh.2 0 _ rfl;have zh1:=zh.2 1 _ rfl;have zh2:=zh.2 2 _ rfl;go_simp;try(with_reducible rfl))
  try simp only[Act.put,tl1,tl2,tl3]
 refine wpAnyH_ready (rs:=[1]) (by kernel_rfl) (by simp) ?_
 refine AllReadyH.cons (o:=⟨_,_,_,_,_,_⟩) rfl (fun K hK=>?_) AllReadyH.nil
 go_simp
 refine(ar_number ((i:Int)+1) Wd1 (by omega) (by omega)).mono ?_
 rintro e V6 ⟨rfl,hw⟩
 have hb:=below_of_eqA hw
 clear hw
 go_wp2_with fail
 have hHeldN:=hHeld.trans (hb.mono hHeld.size)
 have hbc:=hbc.trans (hb.mono hbc.size)
 refine hK.out _ _ ?_ (fun hHeld2=>?_)
 ·exact hHeldN
 clear hK K hHeld hHeldN hb;have hHeld:=hHeld2;clear hHeld2
 try simp only[Act.put,tl1,tl2,tl3]
 refine tkH 2 ?_ rfl (Or.inl ⟨by rfl,?_⟩) hHeld ?_
 rotate_left
 ·(intro w _;go_simp;try(with_reducible rfl))
 try simp only[Act.put,tl1,tl2,tl3]
 refine wpAnyH_ready (rs:=[5]) (by kernel_rfl) (by simp) ?_
 refine AllReadyH.cons (o:=⟨_,_,_,_,_,_⟩) rfl (fun K hK=>?_) AllReadyH.nil
 go_simp
 refine(ar_number day V6 hd1 hd2).mono ?_
 rintro e V10 ⟨rfl,hw⟩
 have hb:=below_of_eqA hw
 clear hw
 go_wp2_with fail
 have hHeldN:=hHeld.trans (hb.mono hHeld.size)
 have hbc:=hbc.trans (hb.mono hbc.size)
 refine hK.out _ _ ?_ (fun hHeld2=>?_)
 ·exact hHeldN
 clear hK K hHeld hHeldN hb;have hHeld:=hHeld2;clear hHeld2
 try simp only[Act.put,tl1,tl2,tl3]
 iterate 3
  refine tkHl [6,7,10] ?_ rfl rfl (Or.inl ⟨by rfl,?_⟩) hHeld ?_
  rotate_left
  ·(intro w _;go_simp;try(with_reducible rfl))
  try simp only[Act.put,tl1,tl2,tl3]
 refine wpAnyH_ready (rs:=[13]) (by kernel_rfl) (by simp) ?_
 refine AllReadyH.cons (o:=⟨_,_,_,_,_,_⟩) rfl (fun K hK=>?_) AllReadyH.nil
 go_simp
 rw[ll_cat]
 refine((HP.out V10 hHeld)).mono ?_
 rintro e V18 ⟨rfl,hw⟩
 have hb:=below_of_eqA hw
 clear hw
 go_wp2_with fail
 have hHeldN:=hHeld.trans (hb.mono hHeld.size)
 have hbc:=hbc.trans (hb.mono hbc.size)
 refine hK.out _ _ ?_ (fun hHeld2=>?_)
 ·exact hHeldN
 clear hK K hHeld hHeldN hb;have hHeld:=hHeld2;clear hHeld2
 try simp only[Act.put,tl1,tl2,tl3]
 iterate 2
  refine tkHl [14,15] ?_ rfl rfl (Or.inl ⟨by rfl,?_⟩) hHeld ?_
  rotate_left
  ·(intro w _;go_simp;try(with_reducible rfl))
  try simp only[Act.put,tl1,tl2,tl3]
 refine wpAnyH_done (by kernel_rfl) ?_ _
 go_wp2_with fail
 go_returns
 exact⟨by rw[HLn.out,show(⟨#[10]⟩:ByteArray)=⟨([10]:List UInt8).toArray⟩ from rfl,bytes_app];rfl,HB1.out.trans (hHeld.mono HB1.out.size)⟩
end Go.Proofs.YtgfghffihjfbpaaGreatDoor
