/- lemmas for agentWrites_holds: AGK. No conditions. -/
import Derived.Test.YtgfghffihjfbpaaGreatDoorK36
set_option linter.unusedVariables false
set_option linter.unusedSimpArgs false
namespace Go.Proofs.YtgfghffihjfbpaaGreatDoor
open Go.RowKit Go.Shelf
set_option maxHeartbeats 4000000 in
set_option maxRecDepth 100000 in
theorem ar_WriteLog (A:Option Addr) (n c:Nat) (L:List Ex) (w:World) (hn:n=L.length) (hm:n≤250) (hx:Rd w w.heap.size Ex.cells A L) (hok:∀x∈L,x.ok w) :
 Calls Tryz.prog 10 #[.slice A n c] w fun e w'=>e= .returned (.tuple #[.string ⟨(logWrote L).1.toArray⟩,.int .i64 (logWrote L).2])∧Below w.heap.size w w':=by
 have Hn:=hide hn;have Hx:=hide hx;have Hok:=hide hok
 clear hn hx hok
 go_enter Tryz.func10,Tryz.ntmps10
 by_cases h2:200 < n
 ·have HW:=hide (show logWrote L=([],2) by
   unfold logWrote logOk
   rw[decide_eq_false (by have:=Hn.out;omega)];rfl)
  have d2:decide ((200:Int) < (n:Int))=true:=decide_eq_true (by omega)
  go_wp2_with fail
  go_returns
  exact⟨by rw[HW.out];rfl,Below.refl _ _⟩
 ·have d2:decide ((200:Int) < (n:Int))=false:=decide_eq_false (by omega)
  have d3:¬(200:Int) < (n:Int):=by omega
  obtain⟨R,hR⟩:∃R,R=L.map entL:=⟨_,rfl⟩
  have HRl:=hide (show R.length=n by rw[hR,List.length_map,Hn.out])
  have HRe:=hide hR
  go_wp2_with fail
  clear d2 d3 hR
  go_loopw [4,5] (fun tv iv wr=>∃k:Nat,k≤n∧iv= .int .i64 k∧tv= .string ⟨(linesTo R k).toArray⟩∧Hid (Below w.heap.size w wr)∧Hid (∀x∈L.take k,entOk x=true)∧Hid ((linesTo R k).length≤10030*k)) (fun _ iv _=>n-(intOf iv).toNat)
  case atStart=>exact⟨0,by omega,rfl,rfl,hide (Below.refl _ _),hide (by simp),hide (by simp[linesTo])⟩
  case round=>
   obtain⟨k,hk,rfl,rfl,hb,hall,hlk⟩:=hrel
   by_cases hlt:k < n
   ·obtain⟨b,off,x,rfl,_,hxk,c0,c1,c2⟩:=(Hx.out.bel hb.out).ex (i:=k) (by have:=Hn.out;omega)
    have ik:(k:Int) < (n:Int):=by omega
    have hxo:=(Hok.out x (List.mem_of_getElem? hxk)).bel hb.out
    obtain⟨b6,w6,e6,ew6,hx6,hb6,hz6⟩:=mk_bx wr #[.int .i64 x.day,.string ⟨x.wd.toArray⟩,.slice x.A x.n x.c] 57
    have hxo6:=hxo.bel hb6
    have Hxo:=hide hxo6
    have HB6:=hide (hb.out.trans (hb6.mono hb.out.size))
    have Hxk:=hide hxk
    obtain⟨z0,z1,z2⟩:=hx6.at_.c3
    have HX6:=hide hx6
    have Kn:=hide hxo.1.1
    have g4:=hxo.1.2
    have Hno:Hid (entOk x=false→logWrote L=([],2)):=hide (fun h=>by unfold logWrote;rw[not_logOk Hxk.out h];rfl)
    have Hen:Hid (entOk x=((cntB x.wd (x.n:Int) && !anyOut (-1000000000000) 1000000000000 x.xs) && inB (-1000000000000) 1000000000000 x.day)):=hide (by unfold entOk;rw[Kn.out])
    clear hx6 hb6 hz6 hxk hxo hxo6
    go_upto_region 8 with fail
    rw[ew6.out,e6.out]
    clear c0 c1 c2
    go_wp2_with fail
    refine(ar_within x.day (-1000000000000) 1000000000000 w6).mono ?_
    rintro e w7 ⟨rfl,rfl⟩
    cases hin:inB (-1000000000000) 1000000000000 x.day
    ·have HW:=hide (Hno.out (by rw[Hen.out,hin,Bool.and_false]))
     clear hin
     go_wp2_with fail
     go_returns
     exact⟨by rw[HW.out];rfl,HB6.out⟩
    ·have Hin:=hide hin
     clear hin
     go_wp2_with fail
     refine(ar_command ⟨x.wd.toArray⟩ x.n w6 (by omega)).mono ?_
     rintro e w7 ⟨rfl,rfl⟩
     dsimp only
     cases hcm:cntB x.wd (x.n:Int)
     ·have HW:=hide (Hno.out (by rw[Hen.out,hcm];rfl))
      clear hcm
      go_wp2_with fail
      go_returns
      exact⟨by rw[HW.out];rfl,HB6.out⟩
     ·have Hcm:=hide hcm
      clear hcm
      go_wp2_with fail
      refine(ar_said x.A x.xs x.n x.c w6 Kn.out (by omega) Hxo.out.2.2).mono ?_
      rintro e w7 ⟨rfl,rfl⟩
      cases hsd:(!anyOut (-1000000000000) 1000000000000 x.xs)
      ·have HW:=hide (Hno.out (by rw[Hen.out,hsd,Bool.and_false,Bool.false_and]))
       clear hsd
       go_wp2_with fail
       go_returns
       exact⟨by rw[HW.out];rfl,HB6.out⟩
      ·have hent:entOk x=true:=by rw[Hen.out,Hcm.out,hsd,Hin.out];rfl
       have hdb: -1000000000000≤x.day∧x.day≤1000000000000:=by have:=Hin.out;unfold inB at this;simpa using this
       have hnb:∀y∈x.xs,-1000000000000≤y∧y≤1000000000000:=not_out (by simpa using hsd)
       have HL:=hide (ar_logLine k x.day x.wd x.A x.n x.c x.xs w6 (by omega) hdb.1 hdb.2 (by have:=Hxo.out.2.1.1;omega) Kn.out (by omega) Hxo.out.2.2 hnb)
       have hRk:R[k]?=some (entL x):=by rw[HRe.out,List.getElem?_map,Hxk.out];rfl
       have Hsn:=hide (linesTo_snoc hRk)
       have hle:=lineB_len k (entL x) (by omega) (by
        have h2:=phraseB_len (64 :: (Lib.itoa x.day ++ 32 :: x.wd)) x.xs hnb
        have h4:=Lib.itoa_length_le x.day (by omega) (by omega)
        have h5:=Hxo.out.1
        have h6:=Hxo.out.2.1.1
        unfold entL
        simp at h2 ⊢
        omega)
       have hlk':=hlk.out
       obtain⟨T,hT⟩:∃T,T=linesTo R k:=⟨_,rfl⟩
       obtain⟨Ln,hLn⟩:∃Ln,Ln=lineB k (entL x):=⟨_,rfl⟩
       have HLn:=hide (show lineB k (phraseB (64 :: (Lib.itoa x.day ++ 32 :: x.wd)) x.xs)=Ln by rw[hLn];rfl)
       rw[HLn.out] at HL
       rw[←hT] at hlk' Hsn ⊢
       rw[←hLn] at hle Hsn
       have t1:¬9223372036854775807 < T.length+Ln.length:=by omega
       have Hlk2:=hide (show(linesTo R (k+1)).length≤10030*(k+1) by rw[Hsn.out,List.length_append];omega)
       have Hall:=hide (show ∀y∈L.take (k+1),entOk y=true from fun y hy=>by
        rw[take_snoc Hxk.out] at hy
        rcases List.mem_append.1 hy with h | h
        ·exact hall.out y h
        ·obtain rfl:=List.mem_singleton.1 h;exact hent)
       clear hsd hent hdb hnb hRk hlk' hT hLn
       go_wp2_with fail
       refine HL.out.mono ?_
       rintro e w8 ⟨rfl,hb8⟩
       have HB8:=hide (HB6.out.trans (hb8.mono HB6.out.size))
       clear hb8
       go_wp2_with fail
       exact⟨⟨k+1,by omega,by go_num,by rw[Hsn.out,←bytes_app],HB8,Hall,Hlk2⟩,by simp[intOf];omega⟩
   ·obtain rfl:n=k:=by omega
    have hlk':=hlk.out
    have HWt:=hide (ar_written (linesTo R n) n wr (by omega) (by omega))
    have HWr:=hide (show logWrote L=writB (linesTo R n) n by
     have hall2:∀x∈L,entOk x=true:=by
      have h:=hall.out
      rwa [List.take_of_length_le (by have:=Hn.out;omega)] at h
     unfold logWrote logOk
     rw[decide_eq_true (by have:=Hn.out;omega),List.all_eq_true.2 hall2,←HRe.out,Bool.true_and,if_pos rfl,seal_writ,HRl.out])
    clear hlk' hall hlk
    go_wp2_with fail
    refine HWt.out.mono ?_
    rintro e w8 ⟨rfl,hb8⟩
    have HB8:=hide (hb.out.trans (hb8.mono hb.out.size))
    clear hb8
    go_wp2_with fail
    go_returns
    exact⟨by rw[HWr.out];rfl,HB8.out⟩
end Go.Proofs.YtgfghffihjfbpaaGreatDoor
