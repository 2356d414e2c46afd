/- lemmas for agentWrites_holds: AG2. No conditions. -/
import Derived.Test.YtgfghffihjfbpaaGreatDoorK19
import Derived.Test.YtgfghffihjfbpaaGreatDoorK20
import Derived.Lib.AppendIntMem
import Derived.Lib.ItoaLen
set_option linter.unusedVariables false
set_option linter.unusedSimpArgs false
namespace Go.Proofs.YtgfghffihjfbpaaGreatDoor
open Go.RowKit Go.Shelf Go.Maps Go.MapKept Go.ChangeMaps
def cntB (k:List UInt8) (n:Int):Bool:=match cmdF k with
 | none=>false
 | some q=>decide (Int.tmod (n-q.1) 2=0) && inB 0 (2*q.2) (n-q.1)
theorem cmdF_bd {k:List UInt8} {a p:Int} (h:cmdF k=some (a,p)):0≤a∧a≤8∧0≤p∧p≤8:=by
 unfold cmdF at h
 repeat(split at h;· (injection h with h;injection h with h1 h2;omega))
 cases h
set_option maxHeartbeats 4000000 in
set_option maxRecDepth 100000 in
theorem ag_counted (s:ByteArray) (A:Option Addr) (n c:Nat) (w:World) (hk:s.size≤maxLen) (hn:n≤9223372036854775) :
 Calls Tryz.prog 36 #[.string s,.slice A n c] w fun e w'=>e= .returned (.bool (cntB s.data.toList n))∧Below w.heap.size w w':=by
 have Hz:Hid (∀w:World,(zeroValue 146).run Tryz.prog w= .ok (.agg #[.int .i64 0,.int .i64 0,.nilFunc]) w):=hide (fun w=>by kernel_rfl)
 cases hc:cmdF s.data.toList with
 | none =>
   have Hv:Hid (cmdV s.data.toList=none):=hide (by unfold cmdV;rw[hc];rfl)
   have Hr:Hid (cntB s.data.toList n=false):=hide (by unfold cntB;rw[hc])
   clear hc
   go_enter Tryz.func36,Tryz.ntmps36
   go_wp2_with fail
   refine(ag_commands w).mono ?_
   rintro e w1 ⟨bm,rfl,hM,hb⟩
   have HM:=hide hM;have HB:=hide hb
   clear hM hb
   go_wp2_with (at_lookup;refine wpList_mapLookS rfl (.tmp 9) (.tmp 10) rfl Tryz.underlying9 Tryz.underlying148 (Hz.out _) HM.out rfl s rfl hk ?_;rw[Hv.out];simp only[Option.getD_none,Option.isSome_none])
   go_returns
   exact⟨by rw[Hr.out];rfl,HB.out.trans ((below_new _ _).mono HB.out.size)⟩
 | some q =>
   obtain⟨a,p⟩:=q
   have hbd:=cmdF_bd hc
   obtain⟨fv,hfv⟩:∃fv:Nat,fv=cmdN s.data.toList:=⟨_,rfl⟩
   have Hv:Hid (cmdV s.data.toList=some (.agg #[.int .i64 a,.int .i64 p,.func (.func fv) #[] #[]])):=hide (by unfold cmdV;rw[hc,hfv];rfl)
   have Hr:Hid (cntB s.data.toList n=(decide (Int.tmod ((n:Int)-a) 2=0) && inB 0 (2*p) ((n:Int)-a))):=hide (by unfold cntB;rw[hc])
   have f1:IntKind.i64.wrap ((n:Int)-a)=(n:Int)-a:=wrapI (by omega)
   have f2:IntKind.i64.wrap (2*p)=2*p:=wrapI (by omega)
   clear hc hfv
   by_cases h2:Int.tmod ((n:Int)-a) 2=0
   ·go_enter Tryz.func36,Tryz.ntmps36
    go_wp2_with fail
    refine(ag_commands w).mono ?_
    rintro e w1 ⟨bm,rfl,hM,hb⟩
    have HM:=hide hM;have HB:=hide hb
    clear hM hb
    go_wp2_with (at_lookup;refine wpList_mapLookS rfl (.tmp 9) (.tmp 10) rfl Tryz.underlying9 Tryz.underlying148 (Hz.out _) HM.out rfl s rfl hk ?_;rw[Hv.out];simp only[Option.getD_some,Option.isSome_some])
    refine(ag_within_one 0 (2*p) ((n:Int)-a) _ _ (by simp)).mono ?_
    rintro e w2 ⟨rfl,hb2⟩
    have HB2:=hide ((HB.out.trans ((below_new w1 _).mono HB.out.size)).trans (hb2.mono (HB.out.trans ((below_new w1 _).mono HB.out.size)).size))
    clear hb2
    go_wp2_with fail
    go_returns
    exact⟨by rw[Hr.out];simp[h2],HB2.out⟩
   ·go_enter Tryz.func36,Tryz.ntmps36
    go_wp2_with fail
    refine(ag_commands w).mono ?_
    rintro e w1 ⟨bm,rfl,hM,hb⟩
    have HM:=hide hM;have HB:=hide hb
    clear hM hb
    go_wp2_with (at_lookup;refine wpList_mapLookS rfl (.tmp 9) (.tmp 10) rfl Tryz.underlying9 Tryz.underlying148 (Hz.out _) HM.out rfl s rfl hk ?_;rw[Hv.out];simp only[Option.getD_some,Option.isSome_some])
    go_returns
    exact⟨by rw[Hr.out];simp[h2],HB.out.trans ((below_new _ _).mono HB.out.size)⟩
theorem ag_known (day:Int) (s:ByteArray) (A:Option Addr) (xs:List Int) (n c:Nat) (w:World) (hk:s.size≤maxLen) (hn:n=xs.length) (hm:n≤9223372036854775) (hx:Rd w w.heap.size icell A xs) :
 Calls Tryz.prog 25 #[.agg #[.int .i64 day,.string s,.slice A n c]] w fun e w'=>e= .returned (.bool (cntB s.data.toList n && !(anyOut (-1000000000000) 1000000000000 xs)))∧Below w.heap.size w w':=by
 obtain⟨b1,w1,e1,ew1,hx1,hb1,hz1⟩:=mk_bx w #[.int .i64 day,.string s,.slice A n c] 57
 have HB:=hide hb1
 have HX:=hide (hx.bel hb1)
 have HX1:=hide hx1
 obtain⟨q0,q1,q2⟩:=hx1.at_.c3
 have Hn:=hide hn
 clear hx hx1 hb1 hz1 hn
 go_enter Tryz.func25,Tryz.ntmps25
 go_wp2_with fail
 rw[ew1.out,e1.out]
 refine(ag_counted s A n _ w1 hk hm).mono ?_
 rintro e w2 ⟨rfl,hb2⟩
 have HB2:=hide (HB.out.trans (hb2.mono HB.out.size))
 have HXs:=hide (HX.out.bel hb2)
 obtain⟨r0,r1,r2⟩:=(HX1.out.bel hb2).at_.c3
 clear hb2 q0 q1 q2
 cases hc:cntB s.data.toList n
 ·go_wp2_with fail
  go_returns
  exact⟨by simp[hc],HB2.out⟩
 ·go_wp2_with fail
  refine(ag_sayable A xs n _ w2 Hn.out (by omega) HXs.out).mono ?_
  rintro e w3 ⟨rfl,hb3⟩
  have HB3:=hide (HB2.out.trans (hb3.mono HB2.out.size))
  clear hb3
  go_wp2_with fail
  go_returns
  exact⟨by simp[hc],HB3.out⟩
def Tb (w : World) : Prop := Lib.TabIs Tryz.prog w "internal/strconv.uint64pow10" .u64 Lib.pow10Tab
theorem Tb.bel {w w':World} (h:Tb w) (hb:Below w.heap.size w w'):Tb w':=Lib.tabBelow_of_tabIs h w' hb
theorem ag_itoa (n:Int) (w:World) (h0: -9223372036854775808≤n) (h1:n≤9223372036854775807) (ht:Tb w) :
 Calls Tryz.prog 27 #[.int .i64 n] w fun e w'=>e= .returned (.string ⟨(Lib.itoa n).toArray⟩)∧Below w.heap.size w w':=by
 refine(Tryz.strconv_Itoa n h0 h1 w ht).mono ?_
 rintro e w' ⟨h,k,os,rfl⟩
 refine⟨h,⟨rfl,rfl,rfl,by simp[Sort.grow],fun b hb=>?_⟩⟩
 show(w.heap ++ os)[b]?=w.heap[b]?
 rw[Array.getElem?_append_left hb]
theorem bytes_app (a b:List UInt8):(⟨a.toArray⟩:ByteArray) ++ ⟨b.toArray⟩=⟨(a ++ b).toArray⟩:=by
 rw[ByteArray.ext_iff]
 simp[ByteArray.data_append]
theorem phraseB_len (wl:List UInt8):∀(xs:List Int),(∀x∈xs,-1000000000000≤x∧x≤1000000000000)→(phraseB wl xs).length≤wl.length+22*xs.length
 | [],_=>by simp[phraseB]
 | x :: xs, h => by
   have h1:=phraseB_len (wl ++ (44 :: Lib.itoa x)) xs (fun y hy=>h y (by simp[hy]))
   have h2:=Lib.itoa_length_le x (by have:=h x (by simp);omega) (by have:=h x (by simp);omega)
   have h3:phraseB wl (x :: xs)=phraseB (wl ++ (44 :: Lib.itoa x)) xs:=rfl
   rw[h3]
   simp only[List.length_append,List.length_cons] at h1 ⊢
   omega
theorem ag_phrase (wl:List UInt8) (A:Option Addr) (xs:List Int) (n c:Nat) (w:World) (hn:n=xs.length) (hm:n≤1000) (hw:wl.length≤1000000) (hx:Rd w w.heap.size icell A xs) (hb:∀x∈xs,-1000000000000≤x∧x≤1000000000000) (ht:Tb w) :
 Calls Tryz.prog 19 #[.string ⟨wl.toArray⟩,.string ⟨#[44]⟩,.slice A n c] w fun e w'=>e= .returned (.string ⟨(phraseB wl xs).toArray⟩)∧Below w.heap.size w w':=by
 have Hn:=hide hn;have Hx:=hide hx;have Hb:=hide hb;have Ht:=hide ht
 clear hn hx hb ht
 go_enter Tryz.func19,Tryz.ntmps19
 go_wp2_with fail
 go_loopw [0,11] (fun v i wr=>∃k:Nat,k≤n∧i= .int .i64 k∧v= .string ⟨(phraseB wl (xs.take k)).toArray⟩∧Hid (Below w.heap.size w wr)) (fun _ i _=>n-(intOf i).toNat)
 case atStart=>exact⟨0,by omega,rfl,by simp[phraseB],hide (Below.refl _ _)⟩
 case round=>
  obtain⟨k,hk,rfl,rfl,HB⟩:=hrel
  obtain⟨wo,rfl⟩:∃wo,wo=wr:=⟨wr,rfl⟩
  by_cases hlt:k < n
  ·obtain⟨b,off,x0,rfl,_,hxk,c0⟩:=(Hx.out.bel HB.out).int (i:=k) (by have:=Hn.out;omega)
   have hbd:=Hb.out x0 (List.mem_of_getElem? hxk)
   have Hs:=hide (show phraseB wl (xs.take (k+1))=phraseB wl (xs.take k) ++ (44 :: Lib.itoa x0) by rw[take_snoc hxk,phraseB_snoc])
   have HT:=hide (Ht.out.bel HB.out)
   have hil:=Lib.itoa_length_le x0 (by omega) (by omega)
   have hpl:=phraseB_len wl (xs.take k) (fun y hy=>Hb.out y (List.mem_of_mem_take hy))
   rw[List.length_take,Nat.min_eq_left (by rw[←Hn.out];omega)] at hpl
   obtain⟨ph,hph⟩:∃ph,ph=phraseB wl (xs.take k):=⟨_,rfl⟩
   rw[←hph] at hpl
   have t1:¬9223372036854775807 < 1+(Lib.itoa x0).length:=by omega
   have t2:¬9223372036854775807 < ph.length+(1+(Lib.itoa x0).length):=by omega
   rw[←hph] at Hs ⊢
   clear hxk hph
   go_wp2_with fail
   refine(ag_itoa x0 wo (by omega) (by omega) HT.out).mono ?_
   rintro e w2 ⟨rfl,hb2⟩
   have HB2:=hide (HB.out.trans (hb2.mono HB.out.size))
   clear hb2
   go_wp2_with fail
   refine⟨⟨k+1,by omega,by go_num,?_,HB2⟩,by simp[intOf];omega⟩
   rw[Hs.out,show(⟨#[44]⟩:ByteArray)=⟨([44]:List UInt8).toArray⟩ from rfl,bytes_app,bytes_app]
   rfl
  ·obtain rfl:n=k:=by omega
   go_wp2_with fail
   go_returns
   exact⟨by rw[List.take_of_length_le (by rw[Hn.out];exact Nat.le_refl _)];rfl,HB.out⟩
end Go.Proofs.YtgfghffihjfbpaaGreatDoor
