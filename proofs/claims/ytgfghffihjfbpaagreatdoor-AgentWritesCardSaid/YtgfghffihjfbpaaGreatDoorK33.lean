/- lemmas for agentWrites_holds: AGG. No conditions. -/
import Derived.Test.YtgfghffihjfbpaaGreatDoorK32
set_option linter.unusedVariables false
set_option linter.unusedSimpArgs false
namespace Go.Proofs.YtgfghffihjfbpaaGreatDoor
open Go.RowKit Go.Shelf
structure Ex where
 day:Int
 wd:List UInt8
 A:Option Addr
 n:Nat
 c:Nat
 xs:List Int
def Ex.cells (x:Ex):List Value:=[.int .i64 x.day,.string ⟨x.wd.toArray⟩,.slice x.A x.n x.c]
theorem Ex.len (x:Ex):x.cells.length=3:=rfl
def Ex.ok (w:World) (x:Ex):Prop:=(x.n=x.xs.length∧x.n≤40)∧(x.wd.length≤40∧ -9223372036854775808≤x.day∧x.day≤9223372036854775807)∧Rd w w.heap.size icell x.A x.xs
theorem Ex.ok.bel {w w':World} {x:Ex} (h:x.ok w) (hb:Below w.heap.size w w'):x.ok w':=⟨h.1,h.2.1,h.2.2.bel hb⟩
theorem Rd.ex {w:World} {B:Nat} {A:Option Addr} {xs:List Ex} (h:Rd w B Ex.cells A xs) {i:Nat} (hi:i < xs.length) :
 ∃b off x,A=some ⟨b,off,none⟩∧b < B∧xs[i]?=some x∧w.cell? ⟨b,off+i*3,none⟩=some (.int .i64 x.day)∧w.cell? ⟨b,off+i*3+1,none⟩=some (.string ⟨x.wd.toArray⟩)∧w.cell? ⟨b,off+i*3+2,none⟩=some (.slice x.A x.n x.c):=by
 obtain⟨b,off,e,hB,hc⟩:=h (by omega)
 have hx:xs[i]?=some xs[i]:=List.getElem?_eq_getElem hi
 exact⟨b,off,_,e,hB,hx,hc _ _ (flat_get Ex.len hx (j:=0) (by omega)),hc _ _ (flat_get Ex.len hx (j:=1) (by omega)),hc _ _ (flat_get Ex.len hx (j:=2) (by omega))⟩
def entOk (x:Ex):Bool:=(cntB x.wd x.xs.length && !(anyOut (-1000000000000) 1000000000000 x.xs)) && inB (-1000000000000) 1000000000000 x.day
def logOk (L:List Ex):Bool:=decide (L.length≤200) && L.all entOk
def entL (x:Ex):List UInt8:=phraseB (64 :: (Lib.itoa x.day ++ 32 :: x.wd)) x.xs
def logWrote (L:List Ex):List UInt8×Int:=if logOk L then sealS (L.map entL) else([],2)
theorem log_cat (d:Int) (wd:List UInt8):(((⟨#[64]⟩:ByteArray) ++ ⟨(Lib.itoa d).toArray⟩) ++ ⟨#[32]⟩) ++ ⟨wd.toArray⟩=⟨(64 :: (Lib.itoa d ++ 32 :: wd)).toArray⟩:=by
 rw[show(⟨#[64]⟩:ByteArray)=⟨([64]:List UInt8).toArray⟩ from rfl,show(⟨#[32]⟩:ByteArray)=⟨([32]:List UInt8).toArray⟩ from rfl,bytes_app,bytes_app,bytes_app]
 simp
theorem not_logOk {L:List Ex} {k:Nat} {x:Ex} (h:L[k]?=some x) (hx:entOk x=false):logOk L=false:=by
 unfold logOk
 cases ha:L.all entOk
 ·rw[Bool.and_false]
 ·have:=List.all_eq_true.1 ha _ (List.mem_of_getElem? h)
  rw[hx] at this;cases this
theorem inB_one (d:Int):(!(anyOut (-1000000000000) 1000000000000 [d]))=inB (-1000000000000) 1000000000000 d:=by
 unfold anyOut inB outB
 rw[List.any_cons,List.any_nil,Bool.or_false,Bool.not_or,←decide_not,←decide_not]
 congr 1 <;> (rw[decide_eq_decide];omega)
set_option maxHeartbeats 4000000 in
set_option maxRecDepth 100000 in
theorem ag_WriteLog (A:Option Addr) (n c:Nat) (L:List Ex) (w:World) (hn:n=L.length) (hm:n≤250) (hx:Rd w w.heap.size Ex.cells A L) (hok:∀x∈L,x.ok w) (ht:Tb w) :
 Calls Tryz.prog 9 #[.slice A n c] w fun e w'=>e= .returned (.tuple #[.string ⟨(logWrote L).1.toArray⟩,.int .i64 (logWrote L).2])∧Below w.heap.size w w':=by
 have Hn:=hide hn;have Hx:=hide hx;have Hok:=hide hok;have Ht:=hide ht
 clear hn hx hok ht
 go_enter Tryz.func9,Tryz.ntmps9
 go_wp2_with fail
 go_loopw [4,9] (fun v iv wr=>∃k:Nat,k≤n∧iv= .int .i64 k∧Hid (Own wr w.heap.size 9 1 scell v ((L.map entL).take k))∧Hid (Below w.heap.size w wr)∧(k=0∨n≤200)∧Hid (∀x∈L.take k,entOk x=true)) (fun _ iv _=>n-(intOf iv).toNat)
 case atStart=>exact⟨0,by omega,rfl,hide (Own.nil _ _ _ _ _),hide (Below.refl _ _),.inl rfl,hide (by simp)⟩
 case round=>
  obtain⟨k,hk,rfl,ho,hb,h200,hall⟩:=hrel
  obtain⟨v,rfl⟩:∃v,v=u4:=⟨_,rfl⟩
  by_cases hlt:k < n
  ·obtain⟨b,off,x,rfl,_,hxk,c0,c1,c2⟩:=(Hx.out.bel hb.out).ex (i:=k) (by have:=Hn.out;omega)
   have ik:(k:Int) < (n:Int):=by omega
   have hxo:=(Hok.out x (List.mem_of_getElem? hxk)).bel hb.out
   obtain⟨b6,w6,e6,ew6,hx6,hb6,hz6⟩:=mk_bx wr #[.int .i64 x.day,.string ⟨x.wd.toArray⟩,.slice x.A x.n x.c] 57
   have hxo6:=hxo.bel hb6
   have HK:=hide (ag_known x.day ⟨x.wd.toArray⟩ x.A x.xs x.n x.c w6 (by have:=hxo.2.1.1;show x.wd.toArray.size≤maxLen;unfold maxLen;simp;omega) hxo.1.1 (by have:=hxo.1.2;omega) hxo6.2.2)
   have Hxo:=hide hxo6
   have HB6:=hide (hb.out.trans (hb6.mono hb.out.size))
   have HX6:=hide hx6;have Hb6:=hide hb6
   have h6:=e6.out
   have Hxk:=hide hxk
   obtain⟨z0,z1,z2⟩:=hx6.at_.c3
   clear hx6 hb6 hz6 hxk hxo hxo6 h6
   go_upto_region 5 with fail
   rw[ew6.out,e6.out]
   clear c0 c1 c2
   go_wp2_with fail
   refine HK.out.mono ?_
   rintro e w7 ⟨rfl,hb7⟩
   have HB7:=hide (HB6.out.trans (hb7.mono HB6.out.size))
   have HX7:=hide (HX6.out.bel hb7);have Hxo7:=hide (Hxo.out.bel hb7)
   have Hb7:=hide (Hb6.out.trans (hb7.mono Hb6.out.size))
   obtain⟨z0,z1,z2⟩:=HX7.out.at_.c3
   clear hb7 HK
   dsimp only
   cases hkn:(cntB x.wd (x.n:Int) && !anyOut (-1000000000000) 1000000000000 x.xs)
   ·have HW:=hide (show logWrote L=([],2) by
     unfold logWrote
     rw[not_logOk Hxk.out (by unfold entOk;rw[←Hxo.out.1.1,hkn];rfl)];rfl)
    clear hkn
    go_wp2_with fail
    go_returns
    exact⟨by rw[HW.out];rfl,HB7.out⟩
   ·obtain⟨w8,ew8⟩:∃w8,Hid (w7.alloc (.cells #[.int .i64 x.day] 3)=w8):=⟨_,hide rfl⟩
    have hr:=Rd.new (cells:=icell) w7 #[.int .i64 x.day] 3 [x.day] rfl
    have hb8:Below w7.heap.size w7 w8:=by rw[←ew8.out];exact below_new _ _
    have hz8:w8.heap.size=w7.heap.size+1:=by rw[←ew8.out];simp
    rw[ew8.out,←hz8] at hr
    have HS:=hide (ag_sayable (some ⟨w7.heap.size,0,none⟩) [x.day] 1 1 w8 rfl (by omega) hr)
    have HB8:=hide (HB7.out.trans (hb8.mono HB7.out.size))
    have Hb8:=hide (Hb7.out.trans (hb8.mono Hb7.out.size))
    have HX8:=hide (HX7.out.bel hb8);have Hxo8:=hide (Hxo7.out.bel hb8)
    have Hkn:=hide hkn
    clear hr hb8 hz8 hkn
    go_wp2_with fail
    rw[ew8.out]
    refine HS.out.mono ?_
    rintro e w9 ⟨rfl,hb9⟩
    rw[inB_one]
    have HB9:=hide (HB8.out.trans (hb9.mono HB8.out.size))
    have Hb9:=hide (Hb8.out.trans (hb9.mono Hb8.out.size))
    have HX9:=hide (HX8.out.bel hb9);have Hxo9:=hide (Hxo8.out.bel hb9)
    clear hb9 HS z0 z1 z2
    obtain⟨z0,z1,z2⟩:=HX9.out.at_.c3
    cases hin:inB (-1000000000000) 1000000000000 x.day
    ·have HW:=hide (show logWrote L=([],2) by
      unfold logWrote
      rw[not_logOk Hxk.out (by unfold entOk;rw[hin,Bool.and_false])];rfl)
     clear hin
     go_wp2_with fail
     go_returns
     exact⟨by rw[HW.out];rfl,HB9.out⟩
    ·have Hin:=hide hin
     clear hin
     by_cases h2:200 < n
     ·have HW:=hide (show logWrote L=([],2) by
       unfold logWrote logOk
       rw[decide_eq_false (by have:=Hn.out;omega)];rfl)
      have d2:decide ((200:Int) < (n:Int))=true:=decide_eq_true (by omega)
      have d3:(200:Int) < (n:Int):=by omega
      go_wp2_with fail
      go_returns
      exact⟨by rw[HW.out];rfl,HB9.out⟩
     ·have d2:decide ((200:Int) < (n:Int))=false:=decide_eq_false (by omega)
      have d3:¬(200:Int) < (n:Int):=by omega
      have hdb: -1000000000000≤x.day∧x.day≤1000000000000:=by have:=Hin.out;unfold inB at this;simpa using this
      have hd1: -9223372036854775808≤x.day:=by omega
      have hd2:x.day≤9223372036854775807:=by omega
      have hil:=Lib.itoa_length_le x.day hd1 hd2
      have hwl:x.wd.length≤40:=Hxo9.out.2.1.1
      have hent:entOk x=true:=by
       unfold entOk
       rw[←Hxo9.out.1.1,Hkn.out,Hin.out];rfl
      have hnb:∀y∈x.xs,-1000000000000≤y∧y≤1000000000000:=not_out (by
       have h:=Hkn.out
       rw[Bool.and_eq_true,Bool.not_eq_true'] at h
       exact h.2)
      obtain⟨Ls,hLs⟩:∃Ls,Ls=(L.map entL).take k:=⟨_,rfl⟩
      have hLl:Ls.length=k:=by rw[hLs,List.length_take,List.length_map,Nat.min_eq_left (by have:=Hn.out;omega)]
      obtain⟨Ln,hLn⟩:∃Ln,Ln=entL x:=⟨_,rfl⟩
      have Htk:=hide (show(L.map entL).take (k+1)=Ls ++ [Ln] by rw[hLs,hLn];exact take_snoc (by rw[List.getElem?_map,Hxk.out];rfl))
      have ho9:=ho.out.bel Hb9.out
      rw[←hLs] at ho9
      obtain⟨wo,rfl⟩:∃wo,wo=w9:=⟨_,rfl⟩
      have h6:=e6.out
      have hbo:=fun g hg=>ho.out.blockG (g:=g) hg
      have HBv:=hide (show ¬v.ownBlock=some b6 from fun e=>by have:=(hbo b6 e).2;omega)
      have Hlow:=hide (show ∀p,p < w.heap.size→¬v.ownBlock=some p from fun p hp e=>by have:=(hbo p e).1;omega)
      have HT:Hid (∀V,Kept (fun c=>¬v.ownBlock=some c) wo V→Tb V):=hide (fun V hV=>Ht.out.bel (HB9.out.trans (hV.below (fun p hp=>Hlow.out p hp) HB9.out.size)))
      have HP:Hid (∀V,Kept (fun c=>¬v.ownBlock=some c) wo V→Calls Tryz.prog 19 #[.string ⟨(64 :: (Lib.itoa x.day ++ 32 :: x.wd)).toArray⟩,.string ⟨#[44]⟩,.slice x.A x.n x.c] V fun e w'=>e= .returned (.string ⟨Ln.toArray⟩)∧Below V.heap.size V w'):=hide (fun V hV=>by
       have hbl:=HB9.out.trans (hV.below (fun p hp=>Hlow.out p hp) HB9.out.size)
       have hxV:=(Hok.out x (List.mem_of_getElem? Hxk.out)).bel hbl
       have h:=ag_phrase (64 :: (Lib.itoa x.day ++ 32 :: x.wd)) x.A x.xs x.n x.c V hxV.1.1 (by have:=hxV.1.2;omega) (by simp;omega) hxV.2.2 hnb (Ht.out.bel hbl)
       rw[hLn]
       exact h)
      have hlen:Ls.length+1≤1000000:=by rw[hLl];omega
      have hzl:w.heap.size≤wo.heap.size:=HB9.out.size
      have t1:¬9223372036854775807 < 1+(Lib.itoa x.day).length:=by omega
      have t2:¬9223372036854775807 < 1+(Lib.itoa x.day).length+1:=by omega
      have t3:¬9223372036854775807 < 1+(Lib.itoa x.day).length+1+x.wd.length:=by omega
      have Hat:=HX9
      have HO:=ho9
      have Hall:=hide (show ∀y∈L.take (k+1),entOk y=true from fun y hy=>by
       rw[take_snoc Hxk.out] at hy
       rcases List.mem_append.1 hy with h | h
       ·exact hall.out y h
       ·obtain rfl:=List.mem_singleton.1 h;exact hent)
      clear ho9 hLs hLn hbo hent hnb hdb hall ho
      go_upto_region 7 with fail
      refine wp_region_held_drew (S:=(fun W=>Kept (fun c=>¬v.ownBlock=some c) wo W)) (by kernel_rfl) (by(try dsimp only);exact Kept.all _ (Below.refl _ _).drew) (fun hHeld=>?_)
      have hdr:Below wo.heap.size wo (World.drew wo):=(Below.refl _ _).drew
      generalize World.drew wo=Wd7 at hHeld hdr ⊢
      have HO:=HO.bel hdr
      have hbc:=Below.refl Wd7.heap.size Wd7
      iterate 4
       refine tkHl [0,1,6,9] ?_ rfl rfl (Or.inl ⟨by rfl,?_⟩) hHeld ?_
       rotate_left
       ·(intro w _;go_simp;try(with_reducible rfl))
       try simp only[Act.put,tl1,tl2,tl3]
      iterate 3
       refine tkHl [2,7,10] ?_ rfl rfl (Or.inl ⟨by rfl,?_⟩) hHeld ?_
       rotate_left
       ·(intro w hSw;(try dsimp only at hSw);have zh:=(Hat.out.kept hSw HBv.out).at_;have zh0:=zh.2 0 _ rfl;have zh1:=zh.2 1 _ rfl;have zh2:=zh.2 2 _ rfl;go_simp;try(with_reducible rfl))
       try simp only[Act.put,tl1,tl2,tl3]
      refine wpAnyH_ready (rs:=[3]) (by kernel_rfl) (by simp) ?_
      refine AllReadyH.cons (o:=⟨_,_,_,_,_,_⟩) rfl (fun K hK=>?_) AllReadyH.nil
      go_simp
      refine(ag_itoa x.day Wd7 hd1 hd2 (HT.out Wd7 hHeld)).mono ?_
      rintro e V31 ⟨rfl,hb⟩
      go_wp2_with fail
      have hHeldN:=hHeld.trans (Kept.all _ hb)
      have HO:=HO.bel hb
      have hbc:=hbc.trans (hb.mono hbc.size)
      refine hK.out _ _ ?_ (fun hHeld2=>?_)
      ·exact hHeldN
      clear hK K hHeld hHeldN hb;have hHeld:=hHeld2;clear hHeld2
      try simp only[Act.put,tl1,tl2,tl3]
      iterate 3
       refine tkHl [4,5,8] ?_ rfl rfl (Or.inl ⟨by rfl,?_⟩) hHeld ?_
       rotate_left
       ·(intro w _;go_simp;try(with_reducible rfl))
       try simp only[Act.put,tl1,tl2,tl3]
      refine wpAnyH_ready (rs:=[11]) (by kernel_rfl) (by simp) ?_
      refine AllReadyH.cons (o:=⟨_,_,_,_,_,_⟩) rfl (fun K hK=>?_) AllReadyH.nil
      go_simp
      rw[log_cat]
      refine((HP.out V31 hHeld)).mono ?_
      rintro e V39 ⟨rfl,hb⟩
      go_wp2_with fail
      have hHeldN:=hHeld.trans (Kept.all _ hb)
      have HO:=HO.bel hb
      have hbc:=hbc.trans (hb.mono hbc.size)
      refine hK.out _ _ ?_ (fun hHeld2=>?_)
      ·exact hHeldN
      clear hK K hHeld hHeldN hb;have hHeld:=hHeld2;clear hHeld2
      try simp only[Act.put,tl1,tl2,tl3]
      refine wpAnyH_ready (rs:=[12]) (by kernel_rfl) (by simp) ?_
      refine AllReadyH.cons (o:=⟨_,_,_,_,_,_⟩) rfl (fun K hK=>?_) AllReadyH.nil
      go_simp
      obtain⟨b40,V40,eb40,ev40,r40,hb⟩:=mk_row (cells:=scell) V39 #[.string ⟨Ln.toArray⟩] 9 [Ln] rfl
      rw[ev40.out,eb40.out]
      have hHeldN:=hHeld.trans (Kept.all _ hb)
      have HO:=HO.bel hb
      have hbc:=hbc.trans (hb.mono hbc.size)
      refine hK.out _ _ ?_ (fun hHeld2=>?_)
      ·exact hHeldN
      clear hK K hHeld hHeldN hb;have hHeld:=hHeld2;clear hHeld2
      try simp only[Act.put,tl1,tl2,tl3]
      refine wpAnyH_ready (rs:=[13]) (by kernel_rfl) (by simp) ?_
      refine AllReadyH.cons (o:=⟨_,_,_,_,_,_⟩) rfl (fun K hK=>?_) AllReadyH.nil
      refine op_app (v:=v) (xs:=Ls) (ys:=[Ln]) (n:=1) el_str (.tmp 28) (.tmp 40) rfl rfl HO rfl rfl r40 hlen (Nat.le_trans hzl hHeld.size) ?_
      intro v41 V41 o41 hg hat
      have hHeldN:=hHeld.trans ((Kept.grown hg).mono fun c _ h e=>h e.symm)
      refine hK.out _ _ ?_ (fun hHeld2=>?_)
      ·exact hHeldN
      clear hK K hHeld hHeldN hbc;have hHeld:=hHeld2;clear hHeld2
      have hbc:=Below.refl V41.heap.size V41
      try simp only[Act.put,tl1,tl2,tl3]
      refine tkH 14 ?_ rfl (Or.inl ⟨by rfl,?_⟩) hHeld ?_
      rotate_left
      ·(intro w _;go_simp;try(with_reducible rfl))
      try simp only[Act.put,tl1,tl2,tl3]
      refine wpAnyH_done (by kernel_rfl) ?_ _
      have HBf:=hide (HB9.out.trans (hHeld.below (fun p hp=>Hlow.out p hp) HB9.out.size))
      have HOf:=hide (show Own _ w.heap.size 9 1 scell v41 ((L.map entL).take (k+1)) by rw[Htk.out];exact o41)
      clear hg hat
      go_wp2_with fail
      exact⟨⟨k+1,by omega,by go_num,HOf,HBf,.inr (by omega),Hall⟩,by simp[intOf];omega⟩
  ·obtain rfl:n=k:=by omega
   have hRl:((L.map entL).take n).length=n:=by rw[List.length_take,List.length_map,Nat.min_eq_left (by have:=Hn.out;omega)]
   obtain⟨R,hR⟩:∃R,R=(L.map entL).take n:=⟨_,rfl⟩
   have HRe:=hide (show R=L.map entL by rw[hR];exact List.take_of_length_le (by rw[List.length_map];have:=Hn.out;omega))
   rw[←hR] at ho hRl
   obtain⟨A',c',rfl,hr⟩:=ho.out.rdn n hRl
   have hall2:∀x∈L,entOk x=true:=by
    have h:=hall.out
    rwa [List.take_of_length_le (by have:=Hn.out;omega)] at h
   have HWr:=hide (show logWrote L=sealS R by
    unfold logWrote logOk
    rw[decide_eq_true (by have:=Hn.out;omega),List.all_eq_true.2 hall2,HRe.out];rfl)
   have HS:=hide (ag_sealed A' n c' R _ hRl.symm (by omega) hr (fun l hl=>by
    rw[HRe.out] at hl
    obtain⟨x,hx,rfl⟩:=List.mem_map.1 hl
    have h1:=hall2 x hx
    unfold entOk at h1
    rw[Bool.and_eq_true,Bool.and_eq_true,Bool.not_eq_true'] at h1
    have h2:=phraseB_len (64 :: (Lib.itoa x.day ++ 32 :: x.wd)) x.xs (not_out h1.1.2)
    have h3:=(Hok.out x hx)
    have h4:=Lib.itoa_length_le x.day h3.2.1.2.1 h3.2.1.2.2
    have h5:=h3.1
    have h6:=h3.2.1.1
    unfold entL
    simp at h2 ⊢
    omega) (Ht.out.bel hb.out))
   clear hRl hr hall2 hR ho hall
   go_wp2_with fail
   refine HS.out.mono ?_
   rintro e w6 ⟨rfl,hb6⟩
   have HB6:=hide (hb.out.trans (hb6.mono hb.out.size))
   clear hb6
   go_wp2_with fail
   go_returns
   exact⟨by rw[HWr.out];rfl,HB6.out⟩
end Go.Proofs.YtgfghffihjfbpaaGreatDoor
