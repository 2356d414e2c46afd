/- lemmas for agentWrites_holds: AG5. No conditions. -/
import Derived.Test.YtgfghffihjfbpaaGreatDoorK23
import Derived.IntWalk
set_option linter.unusedVariables false
set_option linter.unusedSimpArgs false
namespace Go.Proofs.YtgfghffihjfbpaaGreatDoor
open Go.RowKit Go.Shelf
theorem sum_snoc {l:List UInt8} {i:Nat} {x:UInt8} (h:l[i]?=some x):sumsFrom (1,0) (l.take (i+1))=sumStep (sumsFrom (1,0) (l.take i)) x:=by rw[take_snoc h,sumsFrom_snoc]
set_option maxHeartbeats 4000000 in
theorem ar_sums (l:List UInt8) (w:World) (hl:l.length≤1000000000):Calls Tryz.prog 96 #[.string ⟨l.toArray⟩] w fun e w'=>e= .returned (.tuple #[.int .i64 ((sumsFrom (1,0) l).1:Nat),.int .i64 ((sumsFrom (1,0) l).2:Nat)])∧w=w':=by
 go_enter Tryz.func96,Tryz.ntmps96
 go_wp2_with fail
 go_loopw [4,5,6] (fun av bv iv wr=>∃i a b:Nat,i≤l.length∧iv= .int .i64 i∧av= .int .i64 a∧bv= .int .i64 b∧Hid (sumsFrom (1,0) (l.take i)=(a,b))∧(a < 251∧b < 251)∧w=wr) (fun _ _ iv _=>l.length-(intOf iv).toNat)
 case atStart=>exact⟨0,1,0,by omega,rfl,rfl,rfl,hide rfl,by omega,by first | rfl | trivial⟩
 case round=>
  obtain⟨i,a,b,hi,rfl,rfl,rfl,hs,hab,rfl⟩:=hrel
  by_cases hlt:i < l.length
  ·obtain⟨x,hx⟩:∃x,l[i]?=some x:=⟨_,List.getElem?_eq_getElem hlt⟩
   have hx2:l[i]=x:=(List.getElem?_eq_some_iff.1 hx).2
   have hsn:=sum_snoc hx
   rw[hs.out] at hsn
   obtain⟨v,hv⟩:∃v,v=x.toNat:=⟨_,rfl⟩
   have hvb:v≤255:=by have:=x.toNat_lt;omega
   have Hsn:=hide (show sumsFrom (1,0) (l.take (i+1))=((a+v) % 251,(b+(a+v) % 251) % 251) by rw[hsn,hv];rfl)
   obtain⟨a',ha'⟩:∃a',a'=(a+v) % 251:=⟨_,rfl⟩
   obtain⟨b',hb'⟩:∃b',b'=(b+a') % 251:=⟨_,rfl⟩
   rw[←ha',←hb'] at Hsn
   have t1:((a:Int)+(v:Int)) % 251=(a':Int):=by rw[ha'];rfl
   have t2:Int.tmod ((a:Int)+(v:Int)) 251=(a':Int):=by rw[Int.tmod_eq_emod_of_nonneg (by omega),ha'];rfl
   have t3:((b:Int)+(a':Int)) % 251=(b':Int):=by rw[hb'];rfl
   have t4:Int.tmod ((b:Int)+(a':Int)) 251=(b':Int):=by rw[Int.tmod_eq_emod_of_nonneg (by omega),hb'];rfl
   have bd:a' < 251∧b' < 251:=⟨by rw[ha'];exact Nat.mod_lt _ (by omega),by rw[hb'];exact Nat.mod_lt _ (by omega)⟩
   have hxv:((x.toNat:Nat):Int)=(v:Int):=by rw[hv]
   have hlt':i < (⟨l.toArray⟩:ByteArray).size:=hlt
   have e0:((((⟨l.toArray⟩:ByteArray)[i]'hlt').toNat:Nat):Int)=(v:Int):=by
    have:(⟨l.toArray⟩:ByteArray)[i]'hlt'=x:=by rw[←hx2];rfl
    rw[this,hv]
   have E0:=hide e0
   have T2:=hide t2;have T4:=hide t4
   clear hsn ha' hb' hv hx e0 t1 t2 t3 t4 hxv hx2
   go_wp2_with fail
   refine⟨⟨i+1,a',b',by omega,by go_num,?_,?_,Hsn,bd,by first | rfl | trivial⟩,by simp[intOf];omega⟩
   ·rw[E0.out,Go.IntWalk.wrap64_in (v:Int) (by omega),Go.IntWalk.wrap64_in ((a:Int)+(v:Int)) (by omega),T2.out]
   ·rw[E0.out,Go.IntWalk.wrap64_in (v:Int) (by omega),Go.IntWalk.wrap64_in ((a:Int)+(v:Int)) (by omega),T2.out,Go.IntWalk.wrap64_in ((b:Int)+(a':Int)) (by omega),T4.out]
  ·obtain rfl:i=l.length:=by omega
   have hse:=hs.out
   rw[List.take_of_length_le (Nat.le_refl _)] at hse
   have Hse:=hide hse
   clear hse hs
   go_wp2_with fail
   go_returns
   exact⟨by rw[Hse.out];rfl,rfl⟩
def lastB (l:List UInt8) (n:Nat):List UInt8:=phraseB ([61] ++ Lib.itoa (n:Int)) [((sumsFrom (1,0) l).1:Int),((sumsFrom (1,0) l).2:Int)] ++ [10]
theorem lastB_len (l:List UInt8) (n:Nat) (hn:n≤1000000):(lastB l n).length≤70:=by
 have hb:=sumsFrom_bd l (s:=(1,0)) ⟨by decide,by decide⟩
 have h1:=phraseB_len ([61] ++ Lib.itoa (n:Int)) [((sumsFrom (1,0) l).1:Int),((sumsFrom (1,0) l).2:Int)] (fun x hx=>by simp at hx;omega)
 have h2:=Lib.itoa_length_le (n:Int) (by omega) (by omega)
 unfold lastB
 simp only[List.length_append,List.length_cons,List.length_nil] at h1 ⊢
 omega
set_option maxHeartbeats 4000000 in
theorem ar_last (l:List UInt8) (n:Nat) (w:World) (hl:l.length≤1000000000) (hn:n≤1000000):Calls Tryz.prog 59 #[.string ⟨l.toArray⟩,.int .i64 (n:Int)] w fun e w'=>e= .returned (.string ⟨(lastB l n).toArray⟩)∧Below w.heap.size w w':=by
 have hb:=sumsFrom_bd l (s:=(1,0)) ⟨by decide,by decide⟩
 have hS:=hide (ar_sums l w hl)
 obtain⟨a,ha⟩:∃a,a=(sumsFrom (1,0) l).1:=⟨_,rfl⟩
 obtain⟨b,hbb⟩:∃b,b=(sumsFrom (1,0) l).2:=⟨_,rfl⟩
 have HL:Hid (lastB l n=phraseB ([61] ++ Lib.itoa (n:Int)) [(a:Int),(b:Int)] ++ [10]):=hide (by rw[ha,hbb];rfl)
 have hll:=lastB_len l n hn
 have hil:=Lib.itoa_length_le (n:Int) (by omega) (by omega)
 rw[HL.out,List.length_append] at hll
 rw[←ha,←hbb] at hb hS
 clear ha hbb
 have t1:¬9223372036854775807 < 1+(Lib.itoa (n:Int)).length:=by omega
 obtain⟨ph,hph⟩:∃ph,ph=phraseB ([61] ++ Lib.itoa (n:Int)) [(a:Int),(b:Int)]:=⟨_,rfl⟩
 rw[←hph] at hll HL
 have t2:¬9223372036854775807 < ph.length+1:=by simp at hll;omega
 obtain⟨w2,ew2⟩:∃w2,Hid (w.alloc (.cells #[.int .i64 (a:Int),.int .i64 (b:Int)] 3)=w2):=⟨_,hide rfl⟩
 have hr:=Rd.new (cells:=icell) w #[.int .i64 (a:Int),.int .i64 (b:Int)] 3 [(a:Int),(b:Int)] rfl
 have hb2:Below w.heap.size w w2:=by rw[←ew2.out];exact below_new _ _
 have hz2:w2.heap.size=w.heap.size+1:=by rw[←ew2.out];simp
 rw[ew2.out,←hz2] at hr
 have HP:=hide (ar_phrase ([61] ++ Lib.itoa (n:Int)) (some ⟨w.heap.size,0,none⟩) [(a:Int),(b:Int)] 2 2 w2 rfl (by omega) (by simp;omega) hr (fun x hx=>by simp at hx;omega))
 rw[←hph] at HP
 have HB2:=hide hb2
 clear hph hr hb2 hll hz2
 go_enter Tryz.func59,Tryz.ntmps59
 go_wp2_with fail
 refine hS.out.mono ?_
 rintro e w' ⟨rfl,rfl⟩
 go_wp2_with fail
 refine(ar_number (n:Int) w (by omega) (by omega)).mono ?_
 rintro e w' ⟨rfl,rfl⟩
 go_wp2_with fail
 rw[ew2.out,show(⟨#[61]⟩:ByteArray)=⟨([61]:List UInt8).toArray⟩ from rfl,bytes_app]
 refine HP.out.mono ?_
 rintro e w' ⟨rfl,rfl⟩
 go_wp2_with fail
 go_returns
 exact⟨by rw[HL.out,←bytes_app];rfl,HB2.out⟩
end Go.Proofs.YtgfghffihjfbpaaGreatDoor
