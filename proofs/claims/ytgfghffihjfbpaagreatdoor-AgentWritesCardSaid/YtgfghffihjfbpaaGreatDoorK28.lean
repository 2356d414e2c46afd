/- lemmas for agentWrites_holds: SBW. No conditions. -/
import Derived.Test.YtgfghffihjfbpaaGreatDoorK06
import Derived.Test.YtgfghffihjfbpaaGreatDoorK07
import Derived.Lib.FrozenHead
import Derived.Lib.UnsafeStr
import Derived.Lib.Builder
import Derived.Lib.Walk
import Derived.Laws.Externs
import Derived.OwnWalk
set_option linter.unusedVariables false
set_option linter.unusedSimpArgs false
namespace Go.Proofs.YtgfghffihjfbpaaGreatDoor
open Go.Shelf Go.RowKit
abbrev SB (B b:Nat) (l:List UInt8) (w:World):Prop:=Lib.IsBuilderF 116 5 B b (Lib.byteCells l) w
set_option maxHeartbeats 1000000 in
set_option maxRecDepth 100000 in
theorem sb_used (b:Nat) (w:World) (h0:w.cell? ⟨b,0,none⟩=some (.pointer (some ⟨b,0,none⟩))) :
 Calls Tryz.prog 95 #[.pointer (some ⟨b,0,none⟩)] w fun e w'=>e= .returned (.tuple #[])∧w'=w:=by
 obtain⟨j,hj,_⟩:=Option.map_eq_some_iff.1 (show(Tryz.prog.info? 116).map (·.size)=some 2 by kernel_rfl)
 go_enter Tryz.func95,Tryz.ntmps95
 go_wp2
 rw[Lib.run_neq_ptr_same w _ Tryz.underlying113 hj]
 go_wp2
 go_end0
 exact⟨rfl,rfl⟩
set_option maxHeartbeats 1000000 in
set_option maxRecDepth 100000 in
theorem sb_fresh (b:Nat) (w:World) (h0:w.cell? ⟨b,0,none⟩=some (.pointer none)) (hsh:w.shape? b=some (116,2)) (hfz:w.frozen? ⟨b,0,none⟩=false) :
 Calls Tryz.prog 95 #[.pointer (some ⟨b,0,none⟩)] w fun e w'=>e= .returned (.tuple #[])∧w'=w.setCell ⟨b,0,none⟩ (.pointer (some ⟨b,0,none⟩)):=by
 obtain⟨j,hj,hjs⟩:=Option.map_eq_some_iff.1 (show(Tryz.prog.info? 116).map (·.size)=some 2 by kernel_rfl)
 have hl:liesAt Tryz.prog Tryz.prog.depth 116 (2 / Tryz.prog.cellsOf 116) 0 116 1=true:=by kernel_rfl
 go_enter Tryz.func95,Tryz.ntmps95
 go_wp2
 rw[Lib.run_to_unsafe w ⟨b,0,none⟩ Tryz.underlying113 Tryz.underlying168 hj (by rw[hjs];decide) hsh (Nat.zero_lt_succ 1)]
 simp only[Result.andThen]
 rw[Oper.upon_value]
 go_wp2
 rw[run_callFunc_extern Tryz.func113 (by kernel_rfl) (by kernel_rfl) (by kernel_rfl) (e:=Extern.AbiNoEscape.same) (by kernel_rfl)]
 rw[Lib.run_noEscape]
 simp only[Result.andThen]
 rw[Oper.upon_value]
 go_wp2
 rw[Lib.run_from_unsafe w ⟨b,0,none⟩ Tryz.underlying168 Tryz.underlying113 hj hsh hl]
 simp only[Result.andThen]
 rw[Oper.upon_value]
 go_wp2
 go_end0
 exact⟨rfl,rfl⟩
theorem ownF_mono {w:World} {B B':Nat} {e:TypeId} {k n:Nat} {v:Value} {xs:List Value} (h:w.ownsRowF B e k v n xs) (hb:∀g,v.ownBlock=some g→B'≤g):w.ownsRowF B' e k v n xs:=by
 obtain⟨hl,hn | ⟨g,cap,cur,fz,rfl,h1,h2⟩⟩:=h
 ·exact⟨hl,.inl hn⟩
 ·exact⟨hl,.inr ⟨g,cap,cur,fz,rfl,hb g rfl,h2⟩⟩
def SBz (Z b:Nat) (l:List UInt8) (w:World):Prop:=SB 0 b l w∧∀v g,w.cell? ⟨b,1,none⟩=some v→v.ownBlock=some g→Z≤g
theorem sb_check2 (b:Nat) (bs:List Value) (w:World) (h:Lib.IsBuilderF 116 5 0 b bs w) :
 Calls Tryz.prog 95 #[.pointer (some ⟨b,0,none⟩)] w fun e w'=>e= .returned (.tuple #[])∧Lib.BuilderAtF 116 5 0 b (.pointer (some ⟨b,0,none⟩)) bs w'∧Kept (fun p=>p≠b) w w'∧w'.cell? ⟨b,1,none⟩=w.cell? ⟨b,1,none⟩:=by
 rcases h with h | h
 ·refine(sb_fresh b w h.cell0 h.shape h.frozen0).mono ?_
  rintro e w' ⟨rfl,rfl⟩
  exact⟨rfl,h.used _,Kept.setCell w ⟨b,0,none⟩ _,World.cell?_setCell_other _ _ _ _ (by simp)⟩
 ·refine(sb_used b w h.cell0).mono ?_
  rintro e w' ⟨rfl,rfl⟩
  exact⟨rfl,h,Kept.refl _ _,rfl⟩
set_option maxHeartbeats 2000000 in
set_option maxRecDepth 100000 in
theorem sb_put (Z b:Nat) (l m:List UInt8) (w:World) (h:SBz Z b l w) (hl:l.length≤1000000000) (hm:m.length≤1000000000) (hB:Z≤w.heap.size) (hbZ:b < Z) :
 Calls Tryz.prog 50 #[.pointer (some ⟨b,0,none⟩),.string ⟨m.toArray⟩] w fun e w'=>e= .returned (.tuple #[.int .i64 m.length,.nilIface])∧SBz Z b (l ++ m) w'∧Kept (fun p=>p≠b∧p < Z) w w':=by
 obtain⟨i0,hi,hz0,hz1,hz2⟩:=info_parts (show(Tryz.prog.info? 5).map (fun i=>(i.zero,i.size,i.bytes))=some (some (.int .u8 0),1,1) by kernel_rfl)
 have hms:(⟨m.toArray⟩:ByteArray).size=m.length:=by show m.toArray.size=_;simp
 obtain⟨s,hs⟩:∃s:ByteArray,s=⟨m.toArray⟩:=⟨_,rfl⟩
 obtain⟨bs,hbs⟩:∃bs,bs=Lib.byteCells l:=⟨_,rfl⟩
 have hbl:bs.length≤1000000000:=by rw[hbs,Lib.byteCells_length];exact hl
 have hsl:s.size≤1000000000:=by rw[hs,hms];exact hm
 obtain⟨h0,hzz⟩:=h
 unfold SB at h0
 rw[←hbs] at h0
 rw[←hs] at hms ⊢
 have Hs:=hide hs;have Hbs:=hide hbs;have Hms:=hide hms
 clear hs hbs hms
 go_enter Tryz.func50,Tryz.ntmps50
 go_wp2_with (go_at_call 95;refine(sb_check2 b _ _ h0).mono ?_)
 rintro e w1 ⟨rfl,h1,hk1,hc1⟩
 obtain⟨hB0,v,hbk,hown,hne⟩:=h1
 have c0:w1.cell? ⟨b,0,none⟩=some (.pointer (some ⟨b,0,none⟩)):=by rw[Lib.cell_of_heap hbk];rfl
 have c1:w1.cell? ⟨b,1,none⟩=some v:=by rw[Lib.cell_of_heap hbk];rfl
 have hvZ:∀g,v.ownBlock=some g→Z≤g:=fun g hg=>hzz v g (hc1.symm.trans c1) hg
 have hownZ:=ownF_mono hown hvZ
 have hk1s:=hk1.size
 clear hc1 hzz
 go_wp2_with (at_builtin;refine Lib.wpList_append_own_stringF _ rfl _ _ 114 9 rfl Z 5 i0 Tryz.underlying114 Tryz.underlying9 hi hz0 hz1 hz2 _ _ _ rfl hownZ s rfl ?c3 ?c4 ?c5 ?_)
 case c3=>unfold maxLen;omega
 case c4=>omega
 case c5=>omega
 intro v' w2 hown' hgrow _
 have hlt:b < w1.heap.size:=by
  rcases Nat.lt_or_ge b w1.heap.size with h' | h'
  ·exact h'
  ·simp[Array.getElem?_eq_none h'] at hbk
 have hb2:w2.heap[b]?=some (.cells #[.pointer (some ⟨b,0,none⟩),v] 116 (0,0)):=by
  rw[hgrow.block b hlt (fun e=>hne e.symm)]
  exact hbk
 have d0:w2.cell? ⟨b,0,none⟩=some (.pointer (some ⟨b,0,none⟩)):=by rw[Lib.cell_of_heap hb2];rfl
 have d1:w2.cell? ⟨b,1,none⟩=some v:=by rw[Lib.cell_of_heap hb2];rfl
 have f1:w2.frozen? ⟨b,1,none⟩=false:=Lib.frozen_of_heap hb2 1
 have hk2:Kept (fun p=>p≠b∧p < Z) w w2:=(hk1.mono fun p _ hp=>hp.1).trans ((Kept.grown hgrow).mono fun p _ hp e=>by have:=hvZ p e.symm;omega)
 have hv':=hown'.lt
 obtain⟨ao,n',cap,rfl⟩:∃ao n' cap,v'= .slice ao n' cap:=by
  rcases hown'.2 with⟨hv,_⟩ | ⟨g,cap,cur,fz,hv,_⟩
  ·exact⟨_,_,_,hv⟩
  ·exact⟨_,_,_,hv⟩
 go_wp2
 go_ret2
 refine⟨by rw[Hms.out];rfl,⟨.inr ?_,?_⟩,hk2.trans ((Kept.setCell w2 ⟨b,1,none⟩ _).mono fun p _ hp=>hp.1)⟩
 ·rw[Lib.byteCells_append,←Hbs.out,show Lib.byteCells m=Lib.strCells s from by rw[Hs.out];rfl]
  exact Lib.BuilderAtF.put (T:=116) (e:=5) hB0 hb2 (bs':=bs ++ Lib.strCells s) (by simpa[Lib.strCells_length] using ownF_mono hown' fun g _=>Nat.zero_le g) (by decide)
 ·intro v g hv hg
  rw[World.cell?_setCell_same _ _ _ d1] at hv
  injection hv with hv
  subst hv
  exact(hv' g hg).1
theorem SBz.kept {Z b:Nat} {l:List UInt8} {w w':World} {R:Nat→Prop} (h:SBz Z b l w) (hk:Kept R w w') (h1:R b) (h2:∀g,Z≤g→g < w.heap.size→R g):SBz Z b l w':=by
 obtain⟨h,hz⟩:=h
 have key:∀p,Lib.BuilderAtF 116 5 0 b p (Lib.byteCells l) w→Lib.BuilderAtF 116 5 0 b p (Lib.byteCells l) w'∧w'.cell? ⟨b,1,none⟩=w.cell? ⟨b,1,none⟩:=fun p hA=>by
  have hlt:=hA.lt
  obtain⟨hB0,v,hbk,hown,hne⟩:=hA
  have c1:w.cell? ⟨b,1,none⟩=some v:=by rw[Lib.cell_of_heap hbk];rfl
  refine⟨⟨hB0,v,(hk.same b h1 hlt).trans hbk,?_,hne⟩,hk.cell (p:=⟨b,1,none⟩) h1 hlt⟩
  obtain⟨hl,hn | ⟨g,cap,cur,fz,rfl,h3,h4,h5⟩⟩:=hown
  ·exact⟨hl,.inl hn⟩
  ·have hg:=(Array.getElem?_eq_some_iff.1 h4).1
   exact⟨hl,.inr ⟨g,cap,cur,fz,rfl,h3,(hk.same g (h2 g (hz _ g c1 rfl) hg) hg).trans h4,h5⟩⟩
 rcases h with h | h
 ·obtain⟨k1,k2⟩:=key _ h
  exact⟨.inl k1,fun v g hv hg=>hz v g (k2.symm.trans hv) hg⟩
 ·obtain⟨k1,k2⟩:=key _ h
  exact⟨.inr k1,fun v g hv hg=>hz v g (k2.symm.trans hv) hg⟩
theorem SBz.at_ {Z B b:Nat} {l:List UInt8} {w:World} (h:SBz Z b l w) (h1:B≤b) (h2:B≤Z):SB B b l w:=by
 obtain⟨h,hz⟩:=h
 have key:∀p,Lib.BuilderAtF 116 5 0 b p (Lib.byteCells l) w→Lib.BuilderAtF 116 5 B b p (Lib.byteCells l) w:=fun p hA=>by
  obtain⟨hB0,v,hbk,hown,hne⟩:=hA
  have c1:w.cell? ⟨b,1,none⟩=some v:=by rw[Lib.cell_of_heap hbk];rfl
  exact⟨h1,v,hbk,ownF_mono hown fun g hg=>Nat.le_trans h2 (hz v g c1 hg),hne⟩
 rcases h with h | h
 ·exact .inl (key _ h)
 ·exact .inr (key _ h)
theorem SBz.new (w:World) (Z:Nat):SBz Z w.heap.size [] (w.alloc (.cells #[.pointer none,.slice none 0 0] 116)):=by
 refine⟨.inl ⟨Nat.zero_le _,.slice none 0 0,World.alloc_heap_new w _,World.ownsRowF_nil _ _ _ _,by simp[Value.ownBlock]⟩,fun v g hv hg=>?_⟩
 rw[Lib.cell_of_heap (World.alloc_heap_new w _)] at hv
 injection hv with hv
 subst hv
 cases hg
end Go.Proofs.YtgfghffihjfbpaaGreatDoor
