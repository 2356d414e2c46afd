/- lemmas for topFed_holds: C7. No conditions. -/
import Derived.Test.YtiioegopckoldaaGreatDoorK06
import Derived.Test.YtiioegopckoldaaGreatDoorK08
import Derived.Deep.RegionHeld3
import Derived.Deep.DrawnRows
import Derived.Deep.QuietTactic
import Derived.BigQuiet
set_option linter.unusedVariables false
set_option linter.unusedSimpArgs false
namespace Go.Proofs.YtiioegopckoldaaGreatDoor
open Go.RowKit Go.Shelf
attribute [local go_sem ↓] Go.wp_at_zero Go.wp_at_succ
theorem At.drew {w:World} {p:Nat} {cs:List Value} (h:At w p cs):At w.drew p cs:=h
theorem At.drewN {w:World} {p:Nat} {cs:List Value} (h:At w p cs) (n:Nat):At (w.drewN n) p cs:=h
theorem Rd.lit1 {w:World} {b B:Nat} {x:Int} (hc:w.cell? ⟨b,0,none⟩=some (.int .i64 x)) (hb:b < B):Rd w B icell (some ⟨b,0,none⟩) [x]:=fun _=>⟨b,0,rfl,hb,fun j v hv=>by
 cases j with
 | zero=>simp[icell] at hv;subst hv;exact hc
 | succ j=>simp[icell] at hv⟩
def usOk (nf cyc last:Int) (u:Us):Bool:=(decide (0≤u.field) && decide (u.field < nf)) && (!decide (u.frm < last) && (!decide (u.to≤u.frm) && !decide (cyc < u.to)))
def usAll (nf cyc:Int):Int→List Us→Bool
 | _,[]=>true
 | last,u :: us=>usOk nf cyc last u && usAll nf cyc u.to us
theorem usAll_step {nf cyc last:Int} {us:List Us} {k:Nat} {u:Us} (hx:us[k]?=some u):usAll nf cyc last (us.drop k)=(usOk nf cyc last u && usAll nf cyc u.to (us.drop (k+1))):=by
 have hl:=(List.getElem?_eq_some_iff.1 hx).1
 have he:=(List.getElem?_eq_some_iff.1 hx).2
 rw[List.drop_eq_getElem_cons hl,he]
 rfl
theorem usAll_done {nf cyc last:Int} {us:List Us} {k:Nat} (h:us.length≤k):usAll nf cyc last (us.drop k)=true:=by
 rw[List.drop_of_length_le h];rfl
def usesOk (nf days:Int) (us:List Us):Bool:=usAll nf (days*1440) 0 us && decide (us.length≤60)
theorem keepR_of {w W:World} {bu:Nat} {Ac Af:Option Addr} {nc cc nf cf:Nat} {dry days uf us ut:Int} (h0:At W (w.heap.size) [.slice Ac nc cc,.slice Af nf cf,.int .i64 dry,.int .i64 days]) (h1:At W (bu) [.int .i64 uf,.int .i64 us,.int .i64 ut]) (hB:Below w.heap.size w W):W.cell? ⟨w.heap.size,0,none⟩=some (.slice Ac nc cc)∧W.cell? ⟨w.heap.size,1,none⟩=some (.slice Af nf cf)∧W.cell? ⟨w.heap.size,2,none⟩=some (.int .i64 dry)∧W.cell? ⟨w.heap.size,3,none⟩=some (.int .i64 days)∧W.cell? ⟨bu,0,none⟩=some (.int .i64 uf)∧W.cell? ⟨bu,1,none⟩=some (.int .i64 us)∧W.cell? ⟨bu,2,none⟩=some (.int .i64 ut)∧At W (w.heap.size) [.slice Ac nc cc,.slice Af nf cf,.int .i64 dry,.int .i64 days]∧At W (bu) [.int .i64 uf,.int .i64 us,.int .i64 ut]∧Below w.heap.size w W:=⟨(h0.2 0 _ rfl),(h0.2 1 _ rfl),(h0.2 2 _ rfl),(h0.2 3 _ rfl),(h1.2 0 _ rfl),(h1.2 1 _ rfl),(h1.2 2 _ rfl),h0,h1,hB⟩
theorem keepR {w W W':World} {bu:Nat} {Ac Af:Option Addr} {nc cc nf cf:Nat} {dry days uf us ut:Int} (hb:Below W.heap.size W W') (h:W.cell? ⟨w.heap.size,0,none⟩=some (.slice Ac nc cc)∧W.cell? ⟨w.heap.size,1,none⟩=some (.slice Af nf cf)∧W.cell? ⟨w.heap.size,2,none⟩=some (.int .i64 dry)∧W.cell? ⟨w.heap.size,3,none⟩=some (.int .i64 days)∧W.cell? ⟨bu,0,none⟩=some (.int .i64 uf)∧W.cell? ⟨bu,1,none⟩=some (.int .i64 us)∧W.cell? ⟨bu,2,none⟩=some (.int .i64 ut)∧At W (w.heap.size) [.slice Ac nc cc,.slice Af nf cf,.int .i64 dry,.int .i64 days]∧At W (bu) [.int .i64 uf,.int .i64 us,.int .i64 ut]∧Below w.heap.size w W):W'.cell? ⟨w.heap.size,0,none⟩=some (.slice Ac nc cc)∧W'.cell? ⟨w.heap.size,1,none⟩=some (.slice Af nf cf)∧W'.cell? ⟨w.heap.size,2,none⟩=some (.int .i64 dry)∧W'.cell? ⟨w.heap.size,3,none⟩=some (.int .i64 days)∧W'.cell? ⟨bu,0,none⟩=some (.int .i64 uf)∧W'.cell? ⟨bu,1,none⟩=some (.int .i64 us)∧W'.cell? ⟨bu,2,none⟩=some (.int .i64 ut)∧At W' (w.heap.size) [.slice Ac nc cc,.slice Af nf cf,.int .i64 dry,.int .i64 days]∧At W' (bu) [.int .i64 uf,.int .i64 us,.int .i64 ut]∧Below w.heap.size w W':=by
 obtain⟨_,_,_,_,_,_,_,h0,h1,hB⟩:=h
 exact keepR_of (h0.below hb) (h1.below hb) (hB.trans (hb.mono hB.size))
theorem keepR_drew {w W:World} {bu:Nat} {Ac Af:Option Addr} {nc cc nf cf:Nat} {dry days uf us ut:Int} (h:W.cell? ⟨w.heap.size,0,none⟩=some (.slice Ac nc cc)∧W.cell? ⟨w.heap.size,1,none⟩=some (.slice Af nf cf)∧W.cell? ⟨w.heap.size,2,none⟩=some (.int .i64 dry)∧W.cell? ⟨w.heap.size,3,none⟩=some (.int .i64 days)∧W.cell? ⟨bu,0,none⟩=some (.int .i64 uf)∧W.cell? ⟨bu,1,none⟩=some (.int .i64 us)∧W.cell? ⟨bu,2,none⟩=some (.int .i64 ut)∧At W (w.heap.size) [.slice Ac nc cc,.slice Af nf cf,.int .i64 dry,.int .i64 days]∧At W (bu) [.int .i64 uf,.int .i64 us,.int .i64 ut]∧Below w.heap.size w W):W.drew.cell? ⟨w.heap.size,0,none⟩=some (.slice Ac nc cc)∧W.drew.cell? ⟨w.heap.size,1,none⟩=some (.slice Af nf cf)∧W.drew.cell? ⟨w.heap.size,2,none⟩=some (.int .i64 dry)∧W.drew.cell? ⟨w.heap.size,3,none⟩=some (.int .i64 days)∧W.drew.cell? ⟨bu,0,none⟩=some (.int .i64 uf)∧W.drew.cell? ⟨bu,1,none⟩=some (.int .i64 us)∧W.drew.cell? ⟨bu,2,none⟩=some (.int .i64 ut)∧At W.drew (w.heap.size) [.slice Ac nc cc,.slice Af nf cf,.int .i64 dry,.int .i64 days]∧At W.drew (bu) [.int .i64 uf,.int .i64 us,.int .i64 ut]∧Below w.heap.size w W.drew:=by
 obtain⟨_,_,_,_,_,_,_,h0,h1,hB⟩:=h
 exact keepR_of h0.drew h1.drew hB.drew
theorem keepR_boxes {w W:World} {bu:Nat} {Ac Af:Option Addr} {nc cc nf cf:Nat} {dry days uf us ut:Int} (h:W.cell? ⟨w.heap.size,0,none⟩=some (.slice Ac nc cc)∧W.cell? ⟨w.heap.size,1,none⟩=some (.slice Af nf cf)∧W.cell? ⟨w.heap.size,2,none⟩=some (.int .i64 dry)∧W.cell? ⟨w.heap.size,3,none⟩=some (.int .i64 days)∧W.cell? ⟨bu,0,none⟩=some (.int .i64 uf)∧W.cell? ⟨bu,1,none⟩=some (.int .i64 us)∧W.cell? ⟨bu,2,none⟩=some (.int .i64 ut)∧At W (w.heap.size) [.slice Ac nc cc,.slice Af nf cf,.int .i64 dry,.int .i64 days]∧At W (bu) [.int .i64 uf,.int .i64 us,.int .i64 ut]∧Below w.heap.size w W):At W (w.heap.size) [.slice Ac nc cc,.slice Af nf cf,.int .i64 dry,.int .i64 days]∧At W (bu) [.int .i64 uf,.int .i64 us,.int .i64 ut]∧Below w.heap.size w W:=by
 obtain⟨_,_,_,_,_,_,_,h0,h1,hB⟩:=h
 exact⟨h0,h1,hB⟩
set_option maxHeartbeats 4000000 in
set_option maxRecDepth 100000 in
theorem right_any (Ac Af:Option Addr) (nc cc nf cf:Nat) (dry days:Int) (A:Option Addr) (us:List Us) (nu cu:Nat) (w:World) (hu:Rd w w.heap.size Us.cells A us) (hnu:nu=us.length) (hnu2:nu≤100000) (hnf:nf≤1000) (hd1:1≤days) (hd2:days≤16) :
 Calls Tryz.prog 39 #[.agg #[.slice Ac nc cc,.slice Af nf cf,.int .i64 dry,.int .i64 days],.slice A nu cu] w fun e w'=>e= .returned (.bool (usesOk nf days us))∧Below w.heap.size w w':=by
 have Hu:=hide hu;have Hn:=hide hnu;clear hu hnu
 have hat0:=At.new w #[.slice Ac nc cc,.slice Af nf cf,.int .i64 dry,.int .i64 days] 122 w.heap.size rfl _ rfl
 have hB0:=below_new w (.cells #[.slice Ac nc cc,.slice Af nf cf,.int .i64 dry,.int .i64 days] 122)
 go_enter Tryz.func39,Tryz.ntmps39
 go_wp2_with fail
 go_loopw [5,10] (fun l i wr=>∃(k:Nat) (last:Int),k≤nu∧i= .int .i64 k∧l= .int .i64 last∧Below w.heap.size w wr∧At wr w.heap.size [.slice Ac nc cc,.slice Af nf cf,.int .i64 dry,.int .i64 days]∧Hid (usAll nf (days*1440) 0 us=usAll nf (days*1440) last (us.drop k))) (fun _ i _=>nu-(intOf i).toNat)
 case atStart=>exact⟨0,0,by omega,rfl,rfl,hB0,hat0,hide rfl⟩
 case round=>
  clear hat0 hB0
  obtain⟨k,last,hk,rfl,rfl,hB,hat,heq⟩:=hrel
  by_cases hlt:k < nu
  ·obtain⟨b,off,uf,us',ut,hA,hbB,hx,c0,c1,c2⟩:=(Hu.out.below hB).us (i:=k) (by have:=Hn.out;omega)
   subst hA
   have hst:=usAll_step (nf:=nf) (cyc:=days*1440) (last:=last) hx
   have Hst:=hide (heq.out.trans hst)
   clear hx hst heq
   have hbu:=At.new wr #[.int .i64 uf,.int .i64 us',.int .i64 ut] 119 wr.heap.size rfl _ rfl
   have hat1:=hat.alloc (.cells #[.int .i64 uf,.int .i64 us',.int .i64 ut] 119)
   have hB1:=hB.trans ((below_new wr (.cells #[.int .i64 uf,.int .i64 us',.int .i64 ut] 119)).mono hB.size)
   have HS:=hide (keepR_of hat1 hbu hB1)
   clear hbu hat1 hB1
   go_wp2_with fail
   obtain⟨w1,Hw1⟩:∃w1,Hid (wr.alloc (.cells #[.int .i64 uf,.int .i64 us',.int .i64 ut] 119)=w1):=⟨_,hide rfl⟩
   rw[Hw1.out] at HS ⊢
   obtain⟨bu,hbu⟩:∃bu,bu=wr.heap.size:=⟨_,rfl⟩
   rw[←hbu] at HS ⊢
   clear hbu
   have HS':=HS.out
   obtain⟨bo,hbo⟩:∃bo,bo=usOk nf (days*1440) last ⟨uf,us',ut⟩:=⟨_,rfl⟩
   have hus:bo=((decide (0≤uf) && decide (uf < nf)) && (!decide (us' < last) && (!decide (ut≤us') && !decide (days*1440 < ut)))):=hbo
   have Hbo:=hide hbo
   clear hbo
   cases e1:(decide (0≤uf) && decide (uf < nf))
   ·rw[e1,Bool.false_and] at hus
    have Hus:=hide hus;have E1:=hide e1
    clear e1 hus
    refine wp_region_held_drew (S:=(fun W=>W.cell? ⟨w.heap.size,0,none⟩=some (.slice Ac nc cc)∧W.cell? ⟨w.heap.size,1,none⟩=some (.slice Af nf cf)∧W.cell? ⟨w.heap.size,2,none⟩=some (.int .i64 dry)∧W.cell? ⟨w.heap.size,3,none⟩=some (.int .i64 days)∧W.cell? ⟨bu,0,none⟩=some (.int .i64 uf)∧W.cell? ⟨bu,1,none⟩=some (.int .i64 us')∧W.cell? ⟨bu,2,none⟩=some (.int .i64 ut)∧At W (w.heap.size) [.slice Ac nc cc,.slice Af nf cf,.int .i64 dry,.int .i64 days]∧At W (bu) [.int .i64 uf,.int .i64 us',.int .i64 ut]∧Below w.heap.size w W)) (by kernel_rfl) (by(try dsimp only);exact keepR_drew HS.out) (fun hHeld=>?_)
    iterate 3
     refine tkHl [0,1,2] ?_ rfl rfl (Or.inl ⟨by rfl,?_⟩) hHeld ?_
     rotate_left
     ·(intro w hSw;(try dsimp only at hSw);go_simp;try(with_reducible rfl))
     try simp only[Act.put,tl1,tl2,tl3]
    refine wpAnyH_ready (rs:=[3]) (by kernel_rfl) (by simp) ?_
    refine AllReadyH.cons (o:=⟨_,_,_,_,_,_⟩) rfl (fun K hK=>?_) AllReadyH.nil
    go_simp
    refine hK.out _ _ ?_ (fun hHeld2=>?_)
    ·(try dsimp only)
     (repeat(first | exact HS.out | assumption | refine keepR_drew ?_ | refine keepR hb ?_ | refine keepR (below_new _ _) ?_))
    clear hK K hHeld;have hHeld:=hHeld2;clear hHeld2
    try simp only[Act.put,tl1,tl2,tl3]
    refine wpAnyH_ready (rs:=[4]) (by kernel_rfl) (by simp) ?_
    refine AllReadyH.cons (o:=⟨_,_,_,_,_,_⟩) rfl (fun K hK=>?_) AllReadyH.nil
    go_simp
    refine(field_any _ _ _ _ _ _ _ _ _ [uf] 1 1 _ rfl (by omega) (Rd.lit1 (by first | exact cell_new _ _ _ _ _ rfl | exact(cell_drew_own _ _).trans (cell_new _ _ _ _ _ rfl) | simp) (by simp)) hnf).mono ?_
    rintro e w' ⟨rfl,hb⟩
    rw[field_lit1,E1.out]
    go_wp2_with fail
    refine hK.out _ _ ?_ (fun hHeld2=>?_)
    ·(try dsimp only)
     (repeat(first | exact HS.out | assumption | refine keepR_drew ?_ | refine keepR hb ?_ | refine keepR (below_new _ _) ?_))
    clear hK K hHeld;have hHeld:=hHeld2;clear hHeld2
    try simp only[Act.put,tl1,tl2,tl3]
    iterate 2
     refine tkHl [5,6] ?_ rfl rfl (Or.inl ⟨by rfl,?_⟩) hHeld ?_
     rotate_left
     ·(intro w hSw;(try dsimp only at hSw);go_simp;try(with_reducible rfl))
     try simp only[Act.put,tl1,tl2,tl3]
    iterate 5
     refine tkHl [7,8,9,10,11] _ rfl rfl (Or.inr ⟨by rfl,rfl⟩) hHeld ?_
     try simp only[Act.put,tl1,tl2,tl3]
    iterate 2
     refine tkHl [12,13] ?_ rfl rfl (Or.inl ⟨by rfl,?_⟩) hHeld ?_
     rotate_left
     ·(intro w hSw;(try dsimp only at hSw);go_simp;try(with_reducible rfl))
     try simp only[Act.put,tl1,tl2,tl3]
    iterate 7
     refine tkHl [14,15,16,17,18,19,20] _ rfl rfl (Or.inr ⟨by rfl,rfl⟩) hHeld ?_
     try simp only[Act.put,tl1,tl2,tl3]
    iterate 2
     refine tkHl [21,22] ?_ rfl rfl (Or.inl ⟨by rfl,?_⟩) hHeld ?_
     rotate_left
     ·(intro w hSw;(try dsimp only at hSw);go_simp;try(with_reducible rfl))
     try simp only[Act.put,tl1,tl2,tl3]
    iterate 4
     refine tkHl [23,24,25,26] _ rfl rfl (Or.inr ⟨by rfl,rfl⟩) hHeld ?_
     try simp only[Act.put,tl1,tl2,tl3]
    refine wpAnyH_ready (rs:=[27]) (by kernel_rfl) (by simp) ?_
    refine AllReadyH.cons (o:=⟨_,_,_,_,_,_⟩) rfl (fun K hK=>?_) AllReadyH.nil
    go_simp
    refine hK.out _ _ ?_ (fun hHeld2=>?_)
    ·(try dsimp only)
     (repeat(first | exact HS.out | assumption | refine keepR_drew ?_ | refine keepR hb ?_ | refine keepR (below_new _ _) ?_))
    clear hK K hHeld;have hHeld:=hHeld2;clear hHeld2
    try simp only[Act.put,tl1,tl2,tl3]
    refine tkH 28 _ rfl (Or.inr ⟨by rfl,rfl⟩) hHeld ?_
    try simp only[Act.put,tl1,tl2,tl3]
    refine tkH 29 ?_ rfl (Or.inl ⟨by rfl,?_⟩) hHeld ?_
    rotate_left
    ·(intro w hSw;(try dsimp only at hSw);go_simp;try(with_reducible rfl))
    try simp only[Act.put,tl1,tl2,tl3]
    refine wpAnyH_done (by kernel_rfl) ?_ _
    go_wp2_with fail
    go_ret
    have hB:=(keepR_boxes hHeld).2.2
    refine⟨ret_bool ?_,hB⟩
    have h1:=Hst.out
    rw[←Hbo.out,Hus.out,Bool.false_and] at h1
    simp only[usesOk]
    rw[h1]
    rfl
   ·rw[e1,Bool.true_and] at hus
    have E1:=hide e1;clear e1
    by_cases d1:us' < last
    ·rw[decide_eq_true d1,Bool.not_true,Bool.false_and] at hus
     have Hus:=hide hus;clear hus
     have d2:decide (us' < last)=true:=decide_eq_true d1
     refine wp_region_held_drew (S:=(fun W=>W.cell? ⟨w.heap.size,0,none⟩=some (.slice Ac nc cc)∧W.cell? ⟨w.heap.size,1,none⟩=some (.slice Af nf cf)∧W.cell? ⟨w.heap.size,2,none⟩=some (.int .i64 dry)∧W.cell? ⟨w.heap.size,3,none⟩=some (.int .i64 days)∧W.cell? ⟨bu,0,none⟩=some (.int .i64 uf)∧W.cell? ⟨bu,1,none⟩=some (.int .i64 us')∧W.cell? ⟨bu,2,none⟩=some (.int .i64 ut)∧At W (w.heap.size) [.slice Ac nc cc,.slice Af nf cf,.int .i64 dry,.int .i64 days]∧At W (bu) [.int .i64 uf,.int .i64 us',.int .i64 ut]∧Below w.heap.size w W)) (by kernel_rfl) (by(try dsimp only);exact keepR_drew HS.out) (fun hHeld=>?_)
     iterate 3
      refine tkHl [0,1,2] ?_ rfl rfl (Or.inl ⟨by rfl,?_⟩) hHeld ?_
      rotate_left
      ·(intro w hSw;(try dsimp only at hSw);go_simp;try(with_reducible rfl))
      try simp only[Act.put,tl1,tl2,tl3]
     refine wpAnyH_ready (rs:=[3]) (by kernel_rfl) (by simp) ?_
     refine AllReadyH.cons (o:=⟨_,_,_,_,_,_⟩) rfl (fun K hK=>?_) AllReadyH.nil
     go_simp
     refine hK.out _ _ ?_ (fun hHeld2=>?_)
     ·(try dsimp only)
      (repeat(first | exact HS.out | assumption | refine keepR_drew ?_ | refine keepR hb ?_ | refine keepR (below_new _ _) ?_))
     clear hK K hHeld;have hHeld:=hHeld2;clear hHeld2
     try simp only[Act.put,tl1,tl2,tl3]
     refine wpAnyH_ready (rs:=[4]) (by kernel_rfl) (by simp) ?_
     refine AllReadyH.cons (o:=⟨_,_,_,_,_,_⟩) rfl (fun K hK=>?_) AllReadyH.nil
     go_simp
     refine(field_any _ _ _ _ _ _ _ _ _ [uf] 1 1 _ rfl (by omega) (Rd.lit1 (by first | exact cell_new _ _ _ _ _ rfl | exact(cell_drew_own _ _).trans (cell_new _ _ _ _ _ rfl) | simp) (by simp)) hnf).mono ?_
     rintro e w' ⟨rfl,hb⟩
     rw[field_lit1,E1.out]
     go_wp2_with fail
     refine hK.out _ _ ?_ (fun hHeld2=>?_)
     ·(try dsimp only)
      (repeat(first | exact HS.out | assumption | refine keepR_drew ?_ | refine keepR hb ?_ | refine keepR (below_new _ _) ?_))
     clear hK K hHeld;have hHeld:=hHeld2;clear hHeld2
     try simp only[Act.put,tl1,tl2,tl3]
     iterate 9
      refine tkHl [5,6,7,8,9,10,11,12,13] ?_ rfl rfl (Or.inl ⟨by rfl,?_⟩) hHeld ?_
      rotate_left
      ·(intro w hSw;(try dsimp only at hSw);go_simp;try(with_reducible rfl))
      try simp only[Act.put,tl1,tl2,tl3]
     iterate 7
      refine tkHl [14,15,16,17,18,19,20] _ rfl rfl (Or.inr ⟨by rfl,rfl⟩) hHeld ?_
      try simp only[Act.put,tl1,tl2,tl3]
     iterate 2
      refine tkHl [21,22] ?_ rfl rfl (Or.inl ⟨by rfl,?_⟩) hHeld ?_
      rotate_left
      ·(intro w hSw;(try dsimp only at hSw);go_simp;try(with_reducible rfl))
      try simp only[Act.put,tl1,tl2,tl3]
     iterate 4
      refine tkHl [23,24,25,26] _ rfl rfl (Or.inr ⟨by rfl,rfl⟩) hHeld ?_
      try simp only[Act.put,tl1,tl2,tl3]
     refine wpAnyH_ready (rs:=[27]) (by kernel_rfl) (by simp) ?_
     refine AllReadyH.cons (o:=⟨_,_,_,_,_,_⟩) rfl (fun K hK=>?_) AllReadyH.nil
     go_simp
     refine hK.out _ _ ?_ (fun hHeld2=>?_)
     ·(try dsimp only)
      (repeat(first | exact HS.out | assumption | refine keepR_drew ?_ | refine keepR hb ?_ | refine keepR (below_new _ _) ?_))
     clear hK K hHeld;have hHeld:=hHeld2;clear hHeld2
     try simp only[Act.put,tl1,tl2,tl3]
     refine tkH 28 _ rfl (Or.inr ⟨by rfl,rfl⟩) hHeld ?_
     try simp only[Act.put,tl1,tl2,tl3]
     refine tkH 29 ?_ rfl (Or.inl ⟨by rfl,?_⟩) hHeld ?_
     rotate_left
     ·(intro w hSw;(try dsimp only at hSw);go_simp;try(with_reducible rfl))
     try simp only[Act.put,tl1,tl2,tl3]
     refine wpAnyH_done (by kernel_rfl) ?_ _
     go_wp2_with fail
     go_ret
     have hB:=(keepR_boxes hHeld).2.2
     refine⟨ret_bool ?_,hB⟩
     have h1:=Hst.out
     rw[←Hbo.out,Hus.out,Bool.false_and] at h1
     simp only[usesOk]
     rw[h1]
     rfl
    ·rw[decide_eq_false d1,Bool.not_false,Bool.true_and] at hus
     have d2:decide (us' < last)=false:=decide_eq_false d1
     by_cases d3:ut≤us'
     ·rw[decide_eq_true d3,Bool.not_true,Bool.false_and] at hus
      have Hus:=hide hus;clear hus
      have d4:decide (ut≤us')=true:=decide_eq_true d3
      refine wp_region_held_drew (S:=(fun W=>W.cell? ⟨w.heap.size,0,none⟩=some (.slice Ac nc cc)∧W.cell? ⟨w.heap.size,1,none⟩=some (.slice Af nf cf)∧W.cell? ⟨w.heap.size,2,none⟩=some (.int .i64 dry)∧W.cell? ⟨w.heap.size,3,none⟩=some (.int .i64 days)∧W.cell? ⟨bu,0,none⟩=some (.int .i64 uf)∧W.cell? ⟨bu,1,none⟩=some (.int .i64 us')∧W.cell? ⟨bu,2,none⟩=some (.int .i64 ut)∧At W (w.heap.size) [.slice Ac nc cc,.slice Af nf cf,.int .i64 dry,.int .i64 days]∧At W (bu) [.int .i64 uf,.int .i64 us',.int .i64 ut]∧Below w.heap.size w W)) (by kernel_rfl) (by(try dsimp only);exact keepR_drew HS.out) (fun hHeld=>?_)
      iterate 3
       refine tkHl [0,1,2] ?_ rfl rfl (Or.inl ⟨by rfl,?_⟩) hHeld ?_
       rotate_left
       ·(intro w hSw;(try dsimp only at hSw);go_simp;try(with_reducible rfl))
       try simp only[Act.put,tl1,tl2,tl3]
      refine wpAnyH_ready (rs:=[3]) (by kernel_rfl) (by simp) ?_
      refine AllReadyH.cons (o:=⟨_,_,_,_,_,_⟩) rfl (fun K hK=>?_) AllReadyH.nil
      go_simp
      refine hK.out _ _ ?_ (fun hHeld2=>?_)
      ·(try dsimp only)
       (repeat(first | exact HS.out | assumption | refine keepR_drew ?_ | refine keepR hb ?_ | refine keepR (below_new _ _) ?_))
      clear hK K hHeld;have hHeld:=hHeld2;clear hHeld2
      try simp only[Act.put,tl1,tl2,tl3]
      refine wpAnyH_ready (rs:=[4]) (by kernel_rfl) (by simp) ?_
      refine AllReadyH.cons (o:=⟨_,_,_,_,_,_⟩) rfl (fun K hK=>?_) AllReadyH.nil
      go_simp
      refine(field_any _ _ _ _ _ _ _ _ _ [uf] 1 1 _ rfl (by omega) (Rd.lit1 (by first | exact cell_new _ _ _ _ _ rfl | exact(cell_drew_own _ _).trans (cell_new _ _ _ _ _ rfl) | simp) (by simp)) hnf).mono ?_
      rintro e w' ⟨rfl,hb⟩
      rw[field_lit1,E1.out]
      go_wp2_with fail
      refine hK.out _ _ ?_ (fun hHeld2=>?_)
      ·(try dsimp only)
       (repeat(first | exact HS.out | assumption | refine keepR_drew ?_ | refine keepR hb ?_ | refine keepR (below_new _ _) ?_))
      clear hK K hHeld;have hHeld:=hHeld2;clear hHeld2
      try simp only[Act.put,tl1,tl2,tl3]
      iterate 18
       refine tkHl [5,6,7,8,9,10,11,12,13,14,15,16,17,18,19,20,21,22] ?_ rfl rfl (Or.inl ⟨by rfl,?_⟩) hHeld ?_
       rotate_left
       ·(intro w hSw;(try dsimp only at hSw);go_simp;try(with_reducible rfl))
       try simp only[Act.put,tl1,tl2,tl3]
      iterate 4
       refine tkHl [23,24,25,26] _ rfl rfl (Or.inr ⟨by rfl,rfl⟩) hHeld ?_
       try simp only[Act.put,tl1,tl2,tl3]
      refine wpAnyH_ready (rs:=[27]) (by kernel_rfl) (by simp) ?_
      refine AllReadyH.cons (o:=⟨_,_,_,_,_,_⟩) rfl (fun K hK=>?_) AllReadyH.nil
      go_simp
      refine hK.out _ _ ?_ (fun hHeld2=>?_)
      ·(try dsimp only)
       (repeat(first | exact HS.out | assumption | refine keepR_drew ?_ | refine keepR hb ?_ | refine keepR (below_new _ _) ?_))
      clear hK K hHeld;have hHeld:=hHeld2;clear hHeld2
      try simp only[Act.put,tl1,tl2,tl3]
      refine tkH 28 _ rfl (Or.inr ⟨by rfl,rfl⟩) hHeld ?_
      try simp only[Act.put,tl1,tl2,tl3]
      refine tkH 29 ?_ rfl (Or.inl ⟨by rfl,?_⟩) hHeld ?_
      rotate_left
      ·(intro w hSw;(try dsimp only at hSw);go_simp;try(with_reducible rfl))
      try simp only[Act.put,tl1,tl2,tl3]
      refine wpAnyH_done (by kernel_rfl) ?_ _
      go_wp2_with fail
      go_ret
      have hB:=(keepR_boxes hHeld).2.2
      refine⟨ret_bool ?_,hB⟩
      have h1:=Hst.out
      rw[←Hbo.out,Hus.out,Bool.false_and] at h1
      simp only[usesOk]
      rw[h1]
      rfl
     ·rw[decide_eq_false d3,Bool.not_false,Bool.true_and] at hus
      have d4:decide (ut≤us')=false:=decide_eq_false d3
      by_cases d5:days*1440 < ut
      ·rw[decide_eq_true d5,Bool.not_true] at hus
       have Hus:=hide hus;clear hus
       have d6:decide (days*1440 < ut)=true:=decide_eq_true d5
       refine wp_region_held_drew (S:=(fun W=>W.cell? ⟨w.heap.size,0,none⟩=some (.slice Ac nc cc)∧W.cell? ⟨w.heap.size,1,none⟩=some (.slice Af nf cf)∧W.cell? ⟨w.heap.size,2,none⟩=some (.int .i64 dry)∧W.cell? ⟨w.heap.size,3,none⟩=some (.int .i64 days)∧W.cell? ⟨bu,0,none⟩=some (.int .i64 uf)∧W.cell? ⟨bu,1,none⟩=some (.int .i64 us')∧W.cell? ⟨bu,2,none⟩=some (.int .i64 ut)∧At W (w.heap.size) [.slice Ac nc cc,.slice Af nf cf,.int .i64 dry,.int .i64 days]∧At W (bu) [.int .i64 uf,.int .i64 us',.int .i64 ut]∧Below w.heap.size w W)) (by kernel_rfl) (by(try dsimp only);exact keepR_drew HS.out) (fun hHeld=>?_)
       iterate 3
        refine tkHl [0,1,2] ?_ rfl rfl (Or.inl ⟨by rfl,?_⟩) hHeld ?_
        rotate_left
        ·(intro w hSw;(try dsimp only at hSw);go_simp;try(with_reducible rfl))
        try simp only[Act.put,tl1,tl2,tl3]
       refine wpAnyH_ready (rs:=[3]) (by kernel_rfl) (by simp) ?_
       refine AllReadyH.cons (o:=⟨_,_,_,_,_,_⟩) rfl (fun K hK=>?_) AllReadyH.nil
       go_simp
       refine hK.out _ _ ?_ (fun hHeld2=>?_)
       ·(try dsimp only)
        (repeat(first | exact HS.out | assumption | refine keepR_drew ?_ | refine keepR hb ?_ | refine keepR (below_new _ _) ?_))
       clear hK K hHeld;have hHeld:=hHeld2;clear hHeld2
       try simp only[Act.put,tl1,tl2,tl3]
       refine wpAnyH_ready (rs:=[4]) (by kernel_rfl) (by simp) ?_
       refine AllReadyH.cons (o:=⟨_,_,_,_,_,_⟩) rfl (fun K hK=>?_) AllReadyH.nil
       go_simp
       refine(field_any _ _ _ _ _ _ _ _ _ [uf] 1 1 _ rfl (by omega) (Rd.lit1 (by first | exact cell_new _ _ _ _ _ rfl | exact(cell_drew_own _ _).trans (cell_new _ _ _ _ _ rfl) | simp) (by simp)) hnf).mono ?_
       rintro e w' ⟨rfl,hb⟩
       rw[field_lit1,E1.out]
       go_wp2_with fail
       refine hK.out _ _ ?_ (fun hHeld2=>?_)
       ·(try dsimp only)
        (repeat(first | exact HS.out | assumption | refine keepR_drew ?_ | refine keepR hb ?_ | refine keepR (below_new _ _) ?_))
       clear hK K hHeld;have hHeld:=hHeld2;clear hHeld2
       try simp only[Act.put,tl1,tl2,tl3]
       iterate 22
        refine tkHl [5,6,7,8,9,10,11,12,13,14,15,16,17,18,19,20,21,22,23,24,25,26] ?_ rfl rfl (Or.inl ⟨by rfl,?_⟩) hHeld ?_
        rotate_left
        ·(intro w hSw;(try dsimp only at hSw);go_simp;try(with_reducible rfl))
        try simp only[Act.put,tl1,tl2,tl3]
       refine wpAnyH_ready (rs:=[27]) (by kernel_rfl) (by simp) ?_
       refine AllReadyH.cons (o:=⟨_,_,_,_,_,_⟩) rfl (fun K hK=>?_) AllReadyH.nil
       go_simp
       refine(cycle_any _ _ _ _ _ _ _ _ _ (by omega) (by omega)).mono ?_
       rintro e w' ⟨rfl,hb⟩
       go_wp2_with fail
       refine hK.out _ _ ?_ (fun hHeld2=>?_)
       ·(try dsimp only)
        (repeat(first | exact HS.out | assumption | refine keepR_drew ?_ | refine keepR hb ?_ | refine keepR (below_new _ _) ?_))
       clear hK K hHeld;have hHeld:=hHeld2;clear hHeld2
       try simp only[Act.put,tl1,tl2,tl3]
       iterate 2
        refine tkHl [28,29] ?_ rfl rfl (Or.inl ⟨by rfl,?_⟩) hHeld ?_
        rotate_left
        ·(intro w hSw;(try dsimp only at hSw);go_simp;try(with_reducible rfl))
        try simp only[Act.put,tl1,tl2,tl3]
       refine wpAnyH_done (by kernel_rfl) ?_ _
       go_wp2_with fail
       go_ret
       have hB:=(keepR_boxes hHeld).2.2
       refine⟨ret_bool ?_,hB⟩
       have h1:=Hst.out
       rw[←Hbo.out,Hus.out,Bool.false_and] at h1
       simp only[usesOk]
       rw[h1]
       rfl
      ·rw[decide_eq_false d5,Bool.not_false] at hus
       have Hus:=hide hus;clear hus
       have d6:decide (days*1440 < ut)=false:=decide_eq_false d5
       refine wp_region_held_drew (S:=(fun W=>W.cell? ⟨w.heap.size,0,none⟩=some (.slice Ac nc cc)∧W.cell? ⟨w.heap.size,1,none⟩=some (.slice Af nf cf)∧W.cell? ⟨w.heap.size,2,none⟩=some (.int .i64 dry)∧W.cell? ⟨w.heap.size,3,none⟩=some (.int .i64 days)∧W.cell? ⟨bu,0,none⟩=some (.int .i64 uf)∧W.cell? ⟨bu,1,none⟩=some (.int .i64 us')∧W.cell? ⟨bu,2,none⟩=some (.int .i64 ut)∧At W (w.heap.size) [.slice Ac nc cc,.slice Af nf cf,.int .i64 dry,.int .i64 days]∧At W (bu) [.int .i64 uf,.int .i64 us',.int .i64 ut]∧Below w.heap.size w W)) (by kernel_rfl) (by(try dsimp only);exact keepR_drew HS.out) (fun hHeld=>?_)
       iterate 3
        refine tkHl [0,1,2] ?_ rfl rfl (Or.inl ⟨by rfl,?_⟩) hHeld ?_
        rotate_left
        ·(intro w hSw;(try dsimp only at hSw);go_simp;try(with_reducible rfl))
        try simp only[Act.put,tl1,tl2,tl3]
       refine wpAnyH_ready (rs:=[3]) (by kernel_rfl) (by simp) ?_
       refine AllReadyH.cons (o:=⟨_,_,_,_,_,_⟩) rfl (fun K hK=>?_) AllReadyH.nil
       go_simp
       refine hK.out _ _ ?_ (fun hHeld2=>?_)
       ·(try dsimp only)
        (repeat(first | exact HS.out | assumption | refine keepR_drew ?_ | refine keepR hb ?_ | refine keepR (below_new _ _) ?_))
       clear hK K hHeld;have hHeld:=hHeld2;clear hHeld2
       try simp only[Act.put,tl1,tl2,tl3]
       refine wpAnyH_ready (rs:=[4]) (by kernel_rfl) (by simp) ?_
       refine AllReadyH.cons (o:=⟨_,_,_,_,_,_⟩) rfl (fun K hK=>?_) AllReadyH.nil
       go_simp
       refine(field_any _ _ _ _ _ _ _ _ _ [uf] 1 1 _ rfl (by omega) (Rd.lit1 (by first | exact cell_new _ _ _ _ _ rfl | exact(cell_drew_own _ _).trans (cell_new _ _ _ _ _ rfl) | simp) (by simp)) hnf).mono ?_
       rintro e w' ⟨rfl,hb⟩
       rw[field_lit1,E1.out]
       go_wp2_with fail
       refine hK.out _ _ ?_ (fun hHeld2=>?_)
       ·(try dsimp only)
        (repeat(first | exact HS.out | assumption | refine keepR_drew ?_ | refine keepR hb ?_ | refine keepR (below_new _ _) ?_))
       clear hK K hHeld;have hHeld:=hHeld2;clear hHeld2
       try simp only[Act.put,tl1,tl2,tl3]
       iterate 22
        refine tkHl [5,6,7,8,9,10,11,12,13,14,15,16,17,18,19,20,21,22,23,24,25,26] ?_ rfl rfl (Or.inl ⟨by rfl,?_⟩) hHeld ?_
        rotate_left
        ·(intro w hSw;(try dsimp only at hSw);go_simp;try(with_reducible rfl))
        try simp only[Act.put,tl1,tl2,tl3]
       refine wpAnyH_ready (rs:=[27]) (by kernel_rfl) (by simp) ?_
       refine AllReadyH.cons (o:=⟨_,_,_,_,_,_⟩) rfl (fun K hK=>?_) AllReadyH.nil
       go_simp
       refine(cycle_any _ _ _ _ _ _ _ _ _ (by omega) (by omega)).mono ?_
       rintro e w' ⟨rfl,hb⟩
       go_wp2_with fail
       refine hK.out _ _ ?_ (fun hHeld2=>?_)
       ·(try dsimp only)
        (repeat(first | exact HS.out | assumption | refine keepR_drew ?_ | refine keepR hb ?_ | refine keepR (below_new _ _) ?_))
       clear hK K hHeld;have hHeld:=hHeld2;clear hHeld2
       try simp only[Act.put,tl1,tl2,tl3]
       iterate 2
        refine tkHl [28,29] ?_ rfl rfl (Or.inl ⟨by rfl,?_⟩) hHeld ?_
        rotate_left
        ·(intro w hSw;(try dsimp only at hSw);go_simp;try(with_reducible rfl))
        try simp only[Act.put,tl1,tl2,tl3]
       refine wpAnyH_done (by kernel_rfl) ?_ _
       obtain⟨hnet',hbu',hB'⟩:=keepR_boxes hHeld
       obtain⟨q0,q1,q2⟩:=hbu'.c3
       go_wp2_with fail
       refine⟨⟨k+1,ut,by omega,by go_num,rfl,hB',hnet',hide ?_⟩,by simp[intOf];omega⟩
       rw[Hst.out,←Hbo.out,Hus.out,Bool.true_and]
  ·have hfin:usesOk nf days us=decide (us.length≤60):=by
    unfold usesOk
    rw[heq.out,usAll_done (by have:=Hn.out;omega),Bool.true_and]
   have Hfin:=hide hfin
   clear hfin
   by_cases h60:nu≤60
   all_goals
    go_wp2_with fail
    go_ret
    exact⟨ret_bool (by rw[Hfin.out,←Hn.out];simp[h60];try omega),hB⟩
end Go.Proofs.YtiioegopckoldaaGreatDoor
namespace Go.Proofs.YtiioegopckoldaaGreatDoor
open Go.RowKit Go.Shelf
attribute [local go_sem] Oper.semAt_some
def pathK (cs:List Ca) (fs:List Int) (k:Int):List Int:=pathF cs (nodeF fs k.toNat)
theorem path_net (Ac Af:Option Addr) (nc cc nf cf:Nat) (dry days:Int) (cs:List Ca) (fs:List Int) (k:Int) (w:World) (hnet:NetAt w Ac Af nc nf cs fs) (hok:netOk cs fs dry days=true) (h0:0≤k) (h1:k < nf) :
 Calls Tryz.prog 98 #[.agg #[.slice Ac nc cc,.slice Af nf cf,.int .i64 dry,.int .i64 days],.int .i64 k] w fun e w'=>∃v,e= .returned v∧Own w' w.heap.size 3 1 icell v (pathK cs fs k)∧Below w.heap.size w w':=by
 obtain⟨j,rfl⟩:∃j:Nat,k=j:=⟨k.toNat,by omega⟩
 have hj:=nodeF_of hok (k:=j) (by have:=hnet.ef;omega)
 exact path_any Ac Af nc cc nf cf dry days cs fs j (nodeF fs j) w hnet.rc hnet.rf hnet.ec hnet.ef hnet.nc2 hnet.nf2 (netOk_frm hok) hj.1 hj.2
theorem pathK_len (cs:List Ca) (fs:List Int) {dry days:Int} (hok:netOk cs fs dry days=true) {k:Int} (h0:0≤k) (h1:k < fs.length):(pathK cs fs k).length≤16:=by
 unfold pathK pathF
 rw[List.length_reverse]
 have h2:=upF_len cs (nodeF fs k.toNat) (nodeF fs k.toNat)
 have h3:=(nodeF_of hok (k:=k.toNat) (by omega)).2
 have h4:=(netOk_parts hok).1
 omega
def inF (nf k:Int):Bool:=decide (0≤k) && decide (k < nf)
structure MapBox (w:World) (L b n:Nat) (f:Int→Option Bool) (W:World):Prop where
 box:At W L [.map (some b)]
 mp:∃s,Mp Tryz.prog 3 4 ldB W b n f s
 bl:Below w.heap.size w W
theorem MapBox.kept {w W W':World} {L b n:Nat} {f:Int→Option Bool} {R:Nat→Prop} (h:MapBox w L b n f W) (hk:Kept R W W') (h1:R L) (h2:R b) (h4:∀b,b < w.heap.size→R b):MapBox w L b n f W':=
 let⟨s,hs⟩:=h.mp
 ⟨h.box.kept hk h1,⟨s,hs.keptR hk h2⟩,h.bl.trans (hk.below h4 h.bl.size)⟩
theorem MapBox.put {w W W':World} {L b n n' s:Nat} {f f' g:Int→Option Bool} (h:MapBox w L b n f W) (hmp:Mp Tryz.prog 3 4 ldB W' b n' g s) (hg:W.grownBy W' (some b)) (hne:¬L=b) (hw:w.heap.size≤b) (hf:∀k,f' k=g k) :
 MapBox w L b n' f' W'∧Kept (fun x=>¬x=b) W W':=by
 have hk:Kept (fun x=>¬x=b) W W':=(Kept.grown hg).mono fun x _ hx=>by simpa using hx
 exact⟨⟨h.box.kept hk hne,⟨s,hmp.congr hf⟩,h.bl.trans (hk.below (fun x hx=>by omega) h.bl.size)⟩,hk⟩
def upK (cs:List Ca) (fs:List Int) (k:Int):List Int:=upF cs (nodeF fs k.toNat) (nodeF fs k.toNat)
theorem upF_range {cs:List Ca} (h:caFrm cs):∀(f node:Nat),node≤f→∀x∈upF cs f node,0≤x∧x < node
 | 0,node,_=>by simp[upF]
 | f + 1, node, hn => by
   unfold upF
   split
   ·simp
   ·intro x hx
    rcases List.mem_cons.1 hx with rfl | hx
    ·omega
    ·have h1:=frmN_le h (node-1)
     have:=upF_range h f (frmN cs (node-1)) (by omega) x hx
     omega
theorem upK_len (cs:List Ca) (fs:List Int) {dry days:Int} (hok:netOk cs fs dry days=true) {k:Int} (h0:0≤k) (h1:k < fs.length):(upK cs fs k).length≤16:=by
 have:=pathK_len cs fs hok h0 h1
 unfold pathK pathF at this
 rwa [List.length_reverse] at this
theorem upK_okI {cs:List Ca} {fs:List Int} {dry days:Int} (hok:netOk cs fs dry days=true) {k:Int} (h0:0≤k) (h1:k < fs.length) {x:Int} (hx:x∈upK cs fs k):0≤x∧x < cs.length:=by
 have h2:=upF_range (netOk_frm hok) _ _ (Nat.le_refl _) x hx
 have h3:=(nodeF_of hok (k:=k.toNat) (by omega)).2
 omega
end Go.Proofs.YtiioegopckoldaaGreatDoor
namespace Go.Proofs.YtiioegopckoldaaGreatDoor
open Go.RowKit Go.Shelf
attribute [local go_sem ↓] Go.wp_at_zero Go.wp_at_succ
theorem el_us:ElLaw Tryz.prog 40 119 3 24 Us.cells:=elLaw_of Tryz.underlying40 (z:= .agg #[.int .i64 0,.int .i64 0,.int .i64 0]) (by kernel_rfl) rfl (by omega) (fun _=>rfl) Us.one (by omega)
end Go.Proofs.YtiioegopckoldaaGreatDoor
