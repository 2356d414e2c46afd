/- lemmas for agentWrites_holds: AGD. No conditions. -/
import Derived.Test.YtgfghffihjfbpaaGreatDoorK25
import Derived.Test.YtgfghffihjfbpaaGreatDoorK28
import Derived.Test.YtgfghffihjfbpaaGreatDoorK09
import Derived.Deep.Cut
import Derived.Deep.RegionHeld3
import Derived.Deep.DrawnRows
import Derived.Deep.QuietTactic
import Derived.BigQuiet
set_option linter.unusedVariables false
set_option linter.unusedSimpArgs false
namespace Go.Proofs.YtgfghffihjfbpaaGreatDoor
open Go.RowKit Go.Shelf
theorem sumF_snoc {s:Nat×Nat} {l:List UInt8} {i:Nat} {x:UInt8} (h:l[i]?=some x):sumsFrom s (l.take (i+1))=sumStep (sumsFrom s (l.take i)) x:=by rw[take_snoc h,sumsFrom_snoc]
theorem ag_summing (w:World):Calls Tryz.prog 49 #[] w fun e w'=>∃p1 p2,e= .returned (.func (.func 94) #[] #[.pointer (some ⟨p1,0,none⟩),.pointer (some ⟨p2,0,none⟩)])∧Bx w' p1 [.int .i64 1]∧Bx w' p2 [.int .i64 0]∧p1≠p2∧w.heap.size≤p1∧w.heap.size≤p2∧Below w.heap.size w w':=by
 obtain⟨b1,w1,e1,ew1,hx1,hb1,hz1⟩:=mk_bx w #[.int .i64 1] 3
 obtain⟨b2,w2,e2,ew2,hx2,hb2,hz2⟩:=mk_bx w1 #[.int .i64 0] 3
 have h12:b1+1=b2:=by have:=e2.out;omega
 have hw1:w.heap.size=b1:=e1.out
 have hmf:∀(fn:Fn) (first cap:Array Value) (w:World),(Instr.makeFunc fn first cap).run Tryz.prog w= .ok (.func fn first cap) w:=fun _ _ _ _=>rfl
 have H1:=hide (hx1.bel hb2);have H2:=hide hx2
 have HB:=hide (hb1.trans (hb2.mono hb1.size))
 have H12:=hide h12;have Hw1:=hide hw1
 clear hx1 hb1 hz1 hx2 hb2 hz2 h12 hw1
 go_enter Tryz.func49,Tryz.ntmps49
 go_upto_region 2 with fail
 rw[ew1.out,e1.out,H12.out,ew2.out]
 go_wp2_with fail
 go_returns
 have h12:=H12.out;have hw1:=Hw1.out
 exact⟨b1,b2,rfl,H1.out,H2.out,by omega,by omega,by omega,by first | exact HB.out | (rw[←e1.out];exact HB.out)⟩
set_option maxHeartbeats 4000000 in
set_option maxRecDepth 100000 in
theorem ag_sum1 (p1 p2:Nat) (s:Nat×Nat) (l:List UInt8) (w:World) (h1:Bx w p1 [.int .i64 (s.1:Nat)]) (h2:Bx w p2 [.int .i64 (s.2:Nat)]) (hne:p1≠p2) (hs1:s.1 < 251) (hs2:s.2 < 251) (hl:l.length≤1000000000) :
 Calls Tryz.prog 94 #[.string ⟨l.toArray⟩,.pointer (some ⟨p1,0,none⟩),.pointer (some ⟨p2,0,none⟩)] w fun e w'=>e= .returned (.tuple #[.int .i64 ((sumsFrom s l).1:Nat),.int .i64 ((sumsFrom s l).2:Nat)])
  ∧Bx w' p1 [.int .i64 ((sumsFrom s l).1:Nat)]∧Bx w' p2 [.int .i64 ((sumsFrom s l).2:Nat)]∧Kept (fun b=>b≠p1∧b≠p2) w w':=by
 have H1:=hide h1;have H2:=hide h2
 clear h1 h2
 go_enter Tryz.func94,Tryz.ntmps94
 go_wp2_with fail
 go_loopw [9] (fun iv wr=>∃i a b:Nat,i≤l.length∧iv= .int .i64 i∧Hid (sumsFrom s (l.take i)=(a,b))∧(a < 251∧b < 251)∧Hid (Bx wr p1 [.int .i64 a])∧Hid (Bx wr p2 [.int .i64 b])∧Hid (Kept (fun b=>b≠p1∧b≠p2) w wr)) (fun iv _=>l.length-(intOf iv).toNat)
 case atStart=>exact⟨0,s.1,s.2,by omega,rfl,hide rfl,⟨hs1,hs2⟩,H1,H2,hide (Kept.refl _ _)⟩
 case round=>
  obtain⟨i,a,b,hi,rfl,hs,hab,hx1,hx2,hk⟩:=hrel
  obtain⟨wo,rfl⟩:∃wo,wo=wr:=⟨_,rfl⟩
  have Hx1:=hx1;have Hx2:=hx2
  by_cases hlt:i < l.length
  ·obtain⟨x,hx⟩:∃x,l[i]?=some x:=⟨_,List.getElem?_eq_getElem hlt⟩
   have hx2':l[i]=x:=(List.getElem?_eq_some_iff.1 hx).2
   have hsn:=sumF_snoc (s:=s) hx
   rw[hs.out] at hsn
   obtain⟨v,hv⟩:∃v,v=x.toNat:=⟨_,rfl⟩
   have hvb:v≤255:=by have:=x.toNat_lt;omega
   have Hsn:=hide (show sumsFrom s (l.take (i+1))=((a+v) % 251,(b+(a+v) % 251) % 251) by rw[hsn,hv];rfl)
   obtain⟨a',ha'⟩:∃a',a'=(a+v) % 251:=⟨_,rfl⟩
   obtain⟨b',hb'⟩:∃b',b'=(b+a') % 251:=⟨_,rfl⟩
   rw[←ha',←hb'] at Hsn
   have t2:Int.tmod ((a:Int)+(v:Int)) 251=(a':Int):=by rw[Int.tmod_eq_emod_of_nonneg (by omega),ha'];rfl
   have t4:Int.tmod ((a':Int)+(b:Int)) 251=(b':Int):=by rw[Int.tmod_eq_emod_of_nonneg (by omega),hb',Nat.add_comm b a'];rfl
   have t1:((a:Int)+(v:Int)) % 251=(a':Int):=by rw[ha'];rfl
   have t3:((a':Int)+(b:Int)) % 251=(b':Int):=by rw[hb',Nat.add_comm b a'];rfl
   have w1:IntKind.i64.wrap (v:Int)=(v:Int):=wrapI (by omega)
   have w2:IntKind.i64.wrap ((a:Int)+(v:Int))=(a:Int)+(v:Int):=wrapI (by omega)
   have bd:a' < 251∧b' < 251:=⟨by rw[ha'];exact Nat.mod_lt _ (by omega),by rw[hb'];exact Nat.mod_lt _ (by omega)⟩
   have hlt':i < (⟨l.toArray⟩:ByteArray).size:=hlt
   have e0:((((⟨l.toArray⟩:ByteArray)[i]'hlt').toNat:Nat):Int)=(v:Int):=by
    have:(⟨l.toArray⟩:ByteArray)[i]'hlt'=x:=by rw[←hx2'];rfl
    rw[this,hv]
   have e1:((((⟨l.toArray⟩:ByteArray)[i]'hlt').toNat:Nat))=v:=by
    have:(⟨l.toArray⟩:ByteArray)[i]'hlt'=x:=by rw[←hx2'];rfl
    rw[this,hv]
   have hx1:=Hx1.out
   clear hsn ha' hb' hv hx hx2' Hx1
   go_upto_region 4 with fail
   refine wp_region_held_drew (S:=(fun W=>Kept (fun b=>b≠p1) wo W)) (by kernel_rfl) (by(try dsimp only);exact Kept.all _ (Below.refl _ _).drew) (fun hHeld=>?_)
   have hdr:Below wo.heap.size wo (World.drew wo):=(Below.refl _ _).drew
   generalize World.drew wo=Wd4 at hHeld hdr ⊢
   have hx1:=hx1.bel hdr
   have hbc:=Below.refl Wd4.heap.size Wd4
   iterate 4
    refine tkHl [1,2,3,4] ?_ rfl rfl (Or.inl ⟨by rfl,?_⟩) hHeld ?_
    rotate_left
    ·(intro w _;go_simp;try(with_reducible rfl))
    try simp only[Act.put,tl1,tl2,tl3]
   refine wpAnyH_ready (rs:=[0]) (by kernel_rfl) (by simp) ?_
   refine AllReadyH.cons (o:=⟨_,_,_,_,_,_⟩) rfl (fun K hK=>?_) AllReadyH.nil
   obtain z1:=hx1.at_.c1
   go_simp
   have hHeldN:=hHeld
   refine hK.out _ _ ?_ (fun hHeld2=>?_)
   ·exact hHeldN
   clear hK K hHeld hHeldN;have hHeld:=hHeld2;clear hHeld2
   try simp only[Act.put,tl1,tl2,tl3]
   iterate 2
    refine tkHl [5,6] ?_ rfl rfl (Or.inl ⟨by rfl,?_⟩) hHeld ?_
    rotate_left
    ·(intro w _;go_simp;try(with_reducible rfl))
    try simp only[Act.put,tl1,tl2,tl3]
   refine wpAnyH_ready (rs:=[7]) (by kernel_rfl) (by simp) ?_
   refine AllReadyH.cons (o:=⟨_,_,_,_,_,_⟩) rfl (fun K hK=>?_) AllReadyH.nil
   have z1:=hx1.at_.c1
   have y1:=hx1.fz 0
   have hset:=hide (hx1.set (j:=0) (.int .i64 (a':Int)) (by simp))
   have hHeldF:=hide (hHeld.trans (Kept.setCell _ ⟨p1,0,none⟩ (.int .i64 (a':Int))))
   go_simp
   refine hK.out _ _ ?_ (fun _=>?_)
   ·(try dsimp only);exact hHeldF.out
   clear hK K hHeld
   try simp only[Act.put,tl1,tl2,tl3]
   refine wpAnyH_done (by kernel_rfl) ?_ _
   obtain⟨wz,Hwz⟩:∃wz,Hid (Wd4.setCell ⟨p1,0,none⟩ (.int .i64 (a':Int))=wz):=⟨_,hide rfl⟩
   rw[Hwz.out] at hset hHeldF ⊢
   have hk1:=hk.out.trans (hHeldF.out.mono (R':=fun b=>b≠p1∧b≠p2) fun p _ hp=>hp.1)
   have h2z:=Hx2.out.kept hHeldF.out (fun e=>hne e.symm)
   have z1:=hset.out.at_.c1
   have z2:=h2z.at_.c1
   have y2:=h2z.fz 0
   have HZ1:=hset
   have HZ2:=hide h2z
   have HK1:=hide hk1
   clear hset h2z hk1 hHeldF hx1 hdr hbc e0 e1 t1 t2 w1 w2
   rename_i hz0
   clear hz0
   go_wp2_with fail
   have k2:=Kept.setCell wz ⟨p2,0,none⟩ (.int .i64 (b':Int))
   exact⟨⟨i+1,a',b',by omega,by go_num,Hsn,bd,hide (HZ1.out.kept k2 hne),hide (HZ2.out.set (j:=0) (.int .i64 (b':Int)) (by simp)),hide (HK1.out.trans (k2.mono fun p _ hp=>hp.2))⟩,by simp[intOf];omega⟩
  ·obtain rfl:i=l.length:=by omega
   have hse:=hs.out
   rw[List.take_of_length_le (Nat.le_refl _)] at hse
   have Hse:=hide hse
   have z1:=Hx1.out.at_.c1
   have z2:=Hx2.out.at_.c1
   clear hse hs
   go_upto_region 7 with fail
   go_quiet (fail)
   go_wp2_with fail
   go_returns
   rw[Hse.out]
   exact⟨rfl,Hx1.out.kept (Kept.drew (fun _=>True) wo nq) trivial,Hx2.out.kept (Kept.drew (fun _=>True) wo nq) trivial,hk.out.trans (Kept.drew _ wo nq)⟩
theorem enters_sum1:∀args w,(callFunc 94 args).run Tryz.prog w= .ok (.enter 94 args) w:=enters_of Tryz.func94 (by kernel_rfl) rfl
end Go.Proofs.YtgfghffihjfbpaaGreatDoor
