/- lemmas for topFed_holds: F2 G5 G7 FB G8 FP. No conditions. -/
import Derived.Test.YtiioegopckoldaaGreatDoorK09
import Derived.Test.YtiioegopckoldaaGreatDoorProg
import Derived.Test.YtiioegopckoldaaGreatDoorK01
import Derived.Deep.QuietTactic
import Derived.BigQuiet
import Derived.Test.YtiioegopckoldaaGreatDoorK04
import Derived.Handy
import Derived.Deep.RegionHeld3
import Derived.Deep.DrawnRows
set_option linter.unusedVariables false
set_option linter.unusedSimpArgs false
namespace Go.Proofs.YtiioegopckoldaaGreatDoor
open Go.RowKit Go.Shelf
def Yr.ok (y:Yr):Bool:=Sp.ok 0 10000 y.fell && inB 0 1000000 y.weight
end Go.Proofs.YtiioegopckoldaaGreatDoor
namespace Go.Proofs.YtiioegopckoldaaGreatDoor
open Go.RowKit Go.Shelf
attribute [local go_sem] ite_min ite_max
def leastF (r:Rc) (n:Int):Int:=max 0 (min n r.cap.lo-r.leak.hi)+r.gain.lo
def mostF (r:Rc) (n:Int):Int:=max 0 (min n r.cap.hi-r.leak.lo)+r.gain.hi
set_option maxHeartbeats 400000 in
theorem least_any (c0 c1 l0 l1 g0 g1 n:Int) (w:World) (h1:0≤n∧n≤1000000000) (h2:0≤c0∧c0≤1000000000) (h3:0≤l1∧l1≤1000000000) (h4:0≤g0∧g0≤1000000000) :
 Calls Tryz.prog 35 #[.agg #[.int .i64 c0,.int .i64 c1,.int .i64 l0,.int .i64 l1,.int .i64 g0,.int .i64 g1],.int .i64 n] w fun e w'=>e= .returned (.int .i64 (leastF ⟨⟨c0,c1⟩,⟨l0,l1⟩,⟨g0,g1⟩⟩ n))∧Below w.heap.size w w':=by
 obtain⟨h1a,h1b⟩:=h1;obtain⟨h2a,h2b⟩:=h2;obtain⟨h3a,h3b⟩:=h3;obtain⟨h4a,h4b⟩:=h4
 go_enter Tryz.func35,Tryz.ntmps35
 go_wp2
 all_goals(go_ret;exact⟨ret_int (by simp only[leastF];omega),below_new _ _⟩)
set_option maxHeartbeats 400000 in
theorem most_any (c0 c1 l0 l1 g0 g1 n:Int) (w:World) (h1:0≤n∧n≤1000000000) (h2:0≤c1∧c1≤1000000000) (h3:0≤l0∧l0≤1000000000) (h4:0≤g1∧g1≤1000000000) :
 Calls Tryz.prog 34 #[.agg #[.int .i64 c0,.int .i64 c1,.int .i64 l0,.int .i64 l1,.int .i64 g0,.int .i64 g1],.int .i64 n] w fun e w'=>e= .returned (.int .i64 (mostF ⟨⟨c0,c1⟩,⟨l0,l1⟩,⟨g0,g1⟩⟩ n))∧Below w.heap.size w w':=by
 obtain⟨h1a,h1b⟩:=h1;obtain⟨h2a,h2b⟩:=h2;obtain⟨h3a,h3b⟩:=h3;obtain⟨h4a,h4b⟩:=h4
 go_enter Tryz.func34,Tryz.ntmps34
 go_wp2
 all_goals(go_ret;exact⟨ret_int (by simp only[mostF];omega),below_new _ _⟩)
end Go.Proofs.YtiioegopckoldaaGreatDoor
namespace Go.Proofs.YtiioegopckoldaaGreatDoor
open Go.RowKit Go.Shelf
attribute [local go_sem] ite_min ite_max
theorem rcBad_of (c l g:Sp):Rc.bad ⟨c,l,g⟩= !(Sp.ok 0 1000000 c && Sp.ok 0 1000000 l && Sp.ok 0 1000000 g):=by
 have h:∀s:Sp,Sp.bad 1000000 s= !(Sp.ok 0 1000000 s):=fun s=>by
  rw[Bool.eq_iff_iff];simp only[Sp.bad,Sp.ok,Bool.or_eq_true,decide_eq_true_eq,Bool.not_eq_true',Bool.and_eq_false_iff,decide_eq_false_iff_not];omega
 simp[Rc.bad,anyBad,h]
 cases Sp.ok 0 1000000 c <;> cases Sp.ok 0 1000000 l <;> cases Sp.ok 0 1000000 g <;> rfl
set_option maxHeartbeats 1000000 in
theorem rcheck_any (A:Option Addr) (g:List Rc) (n c:Nat) (w:World) (hn:n=g.length) (hm:n≤9223372036854775807) (hx:Rd w w.heap.size Rc.cells A g) :
 Calls Tryz.prog 7 #[.slice A n c] w fun e w'=>e= .returned (.int .i64 (gCheck g))∧Below w.heap.size w w':=by
 have Hn:=hide hn;have Hx:=hide hx;clear hn hx
 cases h:inB 1 12 n
 ·have Hi:=hide h;clear h
  go_enter Tryz.func7,Tryz.ntmps7
  go_wp2_with (go_at_call 30;refine(within_any _ _ _ _).mono ?_;rintro e w' ⟨rfl,rfl⟩;rw[Hi.out])
  go_ret
  exact⟨ret_int (by have h1:=Hi.out;rw[Hn.out] at h1;simp[gCheck,gOk,h1]),Below.refl _ _⟩
 ·have Hi:=hide h;clear h
  go_enter Tryz.func7,Tryz.ntmps7
  go_wp2_with (go_at_call 30;refine(within_any _ _ _ _).mono ?_;rintro e w' ⟨rfl,rfl⟩;rw[Hi.out])
  go_loopw [2,3] (fun v i wr=>∃k:Nat,k≤n∧i= .int .i64 k∧Below w.heap.size w wr∧Hid (∀y∈g.take k,Rc.bad y=false)) (fun _ i _=>n-(intOf i).toNat)
  case atStart=>exact⟨0,by omega,rfl,Below.refl _ _,hide pre_nil⟩
  case round=>
   obtain⟨k,hk,rfl,hb,hpre⟩:=hrel
   by_cases hlt:k < n
   ·obtain⟨b,off,c0,c1,l0,l1,g0,g1,rfl,hB,hxk,d0,d1,d2,d3,d4,d5⟩:=(Hx.out.below hb).rc (i:=k) (by have:=Hn.out;omega)
    have Hxk:=hide hxk;clear hxk
    have hbad:=rcBad_of ⟨c0,c1⟩ ⟨l0,l1⟩ ⟨g0,g1⟩
    have stay:∀W,Below wr.heap.size wr W→W.cell? ⟨b,off+k*6,none⟩=some (.int .i64 c0)∧W.cell? ⟨b,off+k*6+1,none⟩=some (.int .i64 c1)∧W.cell? ⟨b,off+k*6+2,none⟩=some (.int .i64 l0)∧W.cell? ⟨b,off+k*6+3,none⟩=some (.int .i64 l1)∧W.cell? ⟨b,off+k*6+4,none⟩=some (.int .i64 g0)∧W.cell? ⟨b,off+k*6+5,none⟩=some (.int .i64 g1):=fun W hW=>by
     have hB':b < wr.heap.size:=Nat.lt_of_lt_of_le hB hb.size
     exact⟨(hW.cell hB').trans d0,(hW.cell hB').trans d1,(hW.cell hB').trans d2,(hW.cell hB').trans d3,(hW.cell hB').trans d4,(hW.cell hB').trans d5⟩
    have Stay:=hide stay;clear stay
    cases hc:Sp.ok 0 1000000 ⟨c0,c1⟩
    ·have Hc:=hide hc
     rw[hc] at hbad
     have Hbad:=hide hbad;clear hc hbad
     go_wp2_with (go_at_call 8;refine(spanned_any _ _ _ _ _).mono ?_;rintro e w1 ⟨rfl,b1⟩;rw[Hc.out])
     go_ret
     exact⟨ret_int (by simp[gCheck,gOk,any_hit Hxk.out Hbad.out]),hb.trans (b1.mono hb.size)⟩
    ·cases hl:Sp.ok 0 1000000 ⟨l0,l1⟩
     ·have Hc:=hide hc;have Hl:=hide hl
      rw[hc,hl] at hbad
      have Hbad:=hide hbad;clear hc hl hbad
      go_wp2_with fail
      refine(spanned_any _ _ _ _ _).mono ?_;rintro e w1 ⟨rfl,b1⟩;rw[Hc.out]
      obtain⟨e0,e1,e2,e3,e4,e5⟩:=Stay.out w1 b1
      clear d0 d1 d2 d3 d4 d5
      go_wp2_with fail
      refine(spanned_any _ _ _ _ _).mono ?_;rintro e w2 ⟨rfl,b2⟩;rw[Hl.out]
      go_wp2_with fail
      go_ret
      exact⟨ret_int (by simp[gCheck,gOk,any_hit Hxk.out Hbad.out]),(hb.trans (b1.mono hb.size)).trans (b2.mono (Nat.le_trans hb.size b1.size))⟩
     ·cases hg:Sp.ok 0 1000000 ⟨g0,g1⟩
      all_goals
       have Hc:=hide hc;have Hl:=hide hl;have Hg:=hide hg
       rw[hc,hl,hg] at hbad
       have Hbad:=hide hbad;clear hc hl hg hbad
       go_wp2_with fail
       refine(spanned_any _ _ _ _ _).mono ?_;rintro e w1 ⟨rfl,b1⟩;rw[Hc.out]
       obtain⟨e0,e1,e2,e3,e4,e5⟩:=Stay.out w1 b1
       clear d0 d1 d2 d3 d4 d5
       go_wp2_with fail
       refine(spanned_any _ _ _ _ _).mono ?_;rintro e w2 ⟨rfl,b2⟩;rw[Hl.out]
       have b12:=b1.trans (b2.mono b1.size)
       obtain⟨f0,f1,f2,f3,f4,f5⟩:=Stay.out w2 b12
       clear e0 e1 e2 e3 e4 e5
       go_wp2_with fail
       refine(spanned_any _ _ _ _ _).mono ?_;rintro e w3 ⟨rfl,b3⟩;rw[Hg.out]
       have b13:=b12.trans (b3.mono b12.size)
       have bw:Below w.heap.size w w3:=hb.trans (b13.mono hb.size)
       clear f0 f1 f2 f3 f4 f5
       go_wp2_with fail
       first
        | (go_ret;exact⟨ret_int (by simp[gCheck,gOk,any_hit Hxk.out Hbad.out]),bw⟩)
        | exact⟨⟨k+1,by omega,by go_num,bw,hide (pre_snoc Hxk.out Hbad.out hpre.out)⟩,by simp[intOf];omega⟩
   ·go_wp2_with fail
    go_ret
    exact⟨ret_int (by have h1:=Hi.out;rw[Hn.out] at h1;simp[gCheck,gOk,h1,any_miss (k:=k) (by have:=Hn.out;omega) hpre.out]),hb⟩
def Rc.small (r:Rc):Prop:=(0≤r.cap.lo∧r.cap.lo≤13000000)∧(0≤r.leak.hi∧r.leak.hi≤13000000)∧(0≤r.gain.lo∧r.gain.lo≤13000000)
end Go.Proofs.YtiioegopckoldaaGreatDoor
namespace Go.Proofs.YtiioegopckoldaaGreatDoor
open Go.RowKit Go.Shelf
attribute [local go_sem] ite_min ite_max
def Yr.bad (y:Yr):Bool:=!(y.ok)
end Go.Proofs.YtiioegopckoldaaGreatDoor
namespace Go.Proofs.YtiioegopckoldaaGreatDoor
open Go.RowKit Go.Shelf
attribute [local go_sem] ite_min ite_max
end Go.Proofs.YtiioegopckoldaaGreatDoor
namespace Go.Proofs.YtiioegopckoldaaGreatDoor
open Go.RowKit Go.Shelf
attribute [local go_sem] ite_min ite_max
end Go.Proofs.YtiioegopckoldaaGreatDoor
namespace Go.Proofs.YtiioegopckoldaaGreatDoor
open Go.RowKit Go.Shelf
theorem info_Sp:(Tryz.prog.info? 24).map (fun i=>(i.zero,i.size,i.bytes))=some (some (.agg #[.int .i64 0,.int .i64 0]),2,16):=by kernel_rfl
def mem (s n:Nat):List Int:=((List.range n).filter (fun i=>s.testBit i)).map fun (i:Nat)=>(i:Int)
end Go.Proofs.YtiioegopckoldaaGreatDoor
namespace Go.Proofs.YtiioegopckoldaaGreatDoor
open Go.RowKit Go.Shelf
def cutS (a b:Sp):Sp:=⟨max a.lo b.lo,min a.hi b.hi⟩
def allS:Sp:=⟨0,13000000⟩
def Sp.fine (m:Int) (s:Sp):Prop:=0≤s.lo∧s.lo≤s.hi∧s.hi≤m
def Rc.fine (r:Rc):Prop:=r.cap.fine 1000000∧r.leak.fine 1000000∧r.gain.fine 1000000
def Rc.zero:Rc:=⟨⟨0,0⟩,⟨0,0⟩,⟨0,0⟩⟩
def outS (r:Rc) (s:Sp):Sp:=⟨leastF r s.lo,mostF r s.hi⟩
def upS (r:Rc) (f t:Sp):Sp:=
 ⟨if r.gain.hi < t.lo then max f.lo (t.lo-r.gain.hi+r.leak.lo) else f.lo,if t.hi < max 0 (r.cap.lo-r.leak.hi)+r.gain.lo then min f.hi (t.hi-r.gain.lo+r.leak.hi) else f.hi⟩
def flowsF:List Rc→List Sp→Sp→Option (List Sp)
 | [],rd,s=>if(cutS s (rd.headD allS)).lo≤(cutS s (rd.headD allS)).hi then some [cutS s (rd.headD allS)] else none
 | r :: g, rd, s => if (cutS s (rd.headD allS)).lo ≤ (cutS s (rd.headD allS)).hi then
    (flowsF g rd.tail (outS r (cutS s (rd.headD allS)))).map fun l=>upS r (cutS s (rd.headD allS)) (l.headD allS) :: l
   else none
def inK (g:List Rc) (rd:List Sp) (s:Sp):Nat→Sp
 | 0=>s
 | k+1=>outS (g.getD k Rc.zero) (cutS (inK g rd s k) (rd.getD k allS))
def dnK (g:List Rc) (rd:List Sp) (s:Sp) (k:Nat):Sp:=cutS (inK g rd s k) (rd.getD k allS)
theorem inK_succ (g:List Rc) (rd:List Sp) (s:Sp) (k:Nat):inK g rd s (k+1)=outS (g.getD k Rc.zero) (dnK g rd s k):=rfl
theorem inK_cons (r:Rc) (g:List Rc) (rd:List Sp) (s:Sp):∀k,inK (r :: g) rd s (k+1)=inK g rd.tail (outS r (cutS s (rd.headD allS))) k
 | 0=>by cases rd <;> rfl
 | k + 1 => by
   have:=inK_cons r g rd s k
   rw[inK,this,inK]
   cases rd <;> simp[List.getD]
def okS (s:Sp):Prop:=s.lo≤s.hi
instance (s:Sp):Decidable (okS s):=inferInstanceAs (Decidable (s.lo≤s.hi))
theorem flowsF_len:∀(g:List Rc) (rd:List Sp) (s:Sp) (l:List Sp),flowsF g rd s=some l→l.length=g.length+1
 | [], rd, s, l, h => by
   unfold flowsF at h
   split at h
   ·injection h with h;rw[←h];rfl
   ·cases h
 | r :: g, rd, s, l, h => by
   unfold flowsF at h
   split at h
   ·obtain⟨t,ht,rfl⟩:=Option.map_eq_some_iff.1 h
    have:=flowsF_len g _ _ t ht
    simp[this]
   ·cases h
theorem flowsF_torn:∀(k:Nat) (g:List Rc) (rd:List Sp) (s:Sp),k≤g.length→¬okS (dnK g rd s k)→flowsF g rd s=none
 | 0, g, rd, s, _, h => by
   have h1:¬(cutS s (rd.headD allS)).lo≤(cutS s (rd.headD allS)).hi:=by
    intro hc
    apply h
    unfold dnK inK okS
    cases rd <;> exact hc
   cases g with
   | nil=>unfold flowsF;rw[if_neg h1]
   | cons r g=>unfold flowsF;rw[if_neg h1]
 | k+1,[],rd,s,hk,_=>by simp at hk
 | k + 1, r :: g, rd, s, hk, h => by
   unfold flowsF
   split
   ·rw[flowsF_torn k g _ _ (by simpa using hk) (by
     unfold dnK at h ⊢
     rw[inK_cons] at h
     cases rd <;> simpa[List.getD] using h)]
    rfl
   ·rfl
theorem flowsF_last (g:List Rc) (rd:List Sp) (s:Sp) (h:okS (dnK g rd s g.length)):flowsF (g.drop g.length) (rd.drop g.length) (inK g rd s g.length)=some [dnK g rd s g.length]:=by
 rw[List.drop_length]
 have e:(rd.drop g.length).headD allS=rd.getD g.length allS:=by
  rw[List.headD_eq_head?_getD,List.head?_drop,List.getD_eq_getElem?_getD]
 unfold flowsF
 rw[e]
 exact if_pos h
theorem flowsF_up (g:List Rc) (rd:List Sp) (s:Sp) (k:Nat) (r:Rc) (hr:g[k]?=some r) (t:Sp) (l:List Sp) (h:okS (dnK g rd s k)) (hl:flowsF (g.drop (k+1)) (rd.drop (k+1)) (inK g rd s (k+1))=some (t :: l)) :
 flowsF (g.drop k) (rd.drop k) (inK g rd s k)=some (upS r (dnK g rd s k) t :: t :: l):=by
 obtain⟨hk,hr'⟩:=List.getElem?_eq_some_iff.1 hr
 have e:(rd.drop k).headD allS=rd.getD k allS:=by
  rw[List.headD_eq_head?_getD,List.head?_drop,List.getD_eq_getElem?_getD]
 have e2:g.getD k Rc.zero=r:=by rw[List.getD_eq_getElem?_getD,hr];rfl
 rw[List.drop_eq_getElem_cons hk,hr']
 unfold flowsF
 rw[e]
 rw[inK_succ,e2] at hl
 have h':(cutS (inK g rd s k) (rd.getD k allS)).lo≤(cutS (inK g rd s k) (rd.getD k allS)).hi:=h
 rw[if_pos h',List.tail_drop]
 show Option.map _ (flowsF (g.drop (k+1)) (rd.drop (k+1)) (outS r (dnK g rd s k)))=_
 rw[hl]
 rfl
theorem cutS_sub {a b:Sp}:a.lo≤(cutS a b).lo∧(cutS a b).hi≤a.hi:=by simp only[cutS];omega
theorem outS_fine {r:Rc} {s:Sp} (hr:r.fine) (hs:s.fine 13000000):(outS r s).fine 2000000:=by
 obtain⟨⟨h1,h2,h3⟩,⟨h4,h5,h6⟩,⟨h7,h8,h9⟩⟩:=hr
 obtain⟨h10,h11,h12⟩:=hs
 simp only[outS,leastF,mostF,Sp.fine]
 omega
section
variable {r:Rc} {f t:Sp}
theorem up_lo {n:Int} (hf:f.lo≤f.hi) (h0:f.lo≤n∧n≤f.hi+1) (h1:f.lo < n→¬t.lo≤mostF r (n-1)) (h2:n≤f.hi→t.lo≤mostF r n) (ht:t.lo≤mostF r f.hi):n=(upS r f t).lo:=by
 simp only[upS,mostF] at *
 by_cases hn:n≤f.hi
 ·have h2:=h2 hn
  by_cases hl:f.lo < n
  ·have h1:=h1 hl
   split <;> omega
  ·split <;> omega
 ·have h1:=h1 (by omega)
  rw[show n-1=f.hi by omega] at h1
  exact absurd ht h1
theorem up_hi {n:Int} (hf:f.lo≤f.hi) (h0:f.lo≤n∧n≤f.hi+1) (h1:f.lo < n→¬t.hi < leastF r (n-1)) (h2:n≤f.hi→t.hi < leastF r n) (ht:leastF r f.lo≤t.hi):n-1=(upS r f t).hi:=by
 simp only[upS,leastF] at *
 by_cases hl:f.lo < n
 ·have h1:=h1 hl
  by_cases hn:n≤f.hi
  ·have h2:=h2 hn
   split <;> omega
  ·split <;> omega
 ·have h2:=h2 (by omega)
  rw[show n=f.lo by omega] at h2
  omega
theorem up_ok (hr:r.fine) (hf:f.lo≤f.hi) (ht:t.lo≤t.hi) (h1:leastF r f.lo≤t.lo) (h2:t.hi≤mostF r f.hi):f.lo≤(upS r f t).lo∧(upS r f t).lo≤(upS r f t).hi∧(upS r f t).hi≤f.hi:=by
 obtain⟨⟨h3,h4,h5⟩,⟨h6,h7,h8⟩,⟨h9,h10,h11⟩⟩:=hr
 simp only[upS,leastF,mostF] at *
 split <;> split <;> omega
end
theorem flowsF_head:∀(g:List Rc) (rd:List Sp) (s:Sp) (l:List Sp),(∀r∈g,r.fine)→flowsF g rd s=some l→∃t l',l=t :: l'∧(cutS s (rd.headD allS)).lo≤t.lo∧t.lo≤t.hi∧t.hi≤(cutS s (rd.headD allS)).hi
 | [], rd, s, l, _, h => by
   unfold flowsF at h
   split at h
   ·rename_i h1
    injection h with h
    exact⟨_,_,h.symm,Int.le_refl _,h1,Int.le_refl _⟩
   ·cases h
 | r :: g, rd, s, l, hg, h => by
   unfold flowsF at h
   split at h
   ·rename_i h1
    obtain⟨l2,hl2,rfl⟩:=Option.map_eq_some_iff.1 h
    obtain⟨t,l',rfl,h2,h3,h4⟩:=flowsF_head g _ _ l2 (fun r hr=>hg r (by simp[hr])) hl2
    obtain⟨h5,h6⟩:=cutS_sub (a:=outS r (cutS s (rd.headD allS))) (b:=rd.tail.headD allS)
    obtain⟨k1,k2,k3⟩:=up_ok (f:=cutS s (rd.headD allS)) (t:=t) (hg r (by simp)) h1 h3 (Int.le_trans h5 h2) (Int.le_trans h4 h6)
    exact⟨_,_,rfl,k1,k2,k3⟩
   ·cases h
def rdS (n:Nat) (l:List Ga):List Sp:=l.foldl (fun rd x=>rd.set x.shaft.toNat (cutS (rd.getD x.shaft.toNat allS) x.flow)) (List.replicate (n+1) allS)
theorem rdS_snoc (n:Nat) (l:List Ga) (x:Ga):rdS n (l ++ [x])=(rdS n l).set x.shaft.toNat (cutS ((rdS n l).getD x.shaft.toNat allS) x.flow):=by simp[rdS]
theorem rdS_len (n:Nat) (l:List Ga):(rdS n l).length=n+1:=by
 have:∀(l:List Ga) (rd:List Sp),rd.length=n+1→(l.foldl (fun rd x=>rd.set x.shaft.toNat (cutS (rd.getD x.shaft.toNat allS) x.flow)) rd).length=n+1:=by
  intro l
  induction l with
  | nil=>intro rd h;exact h
  | cons x l ih=>intro rd h;exact ih _ (by simpa using h)
 exact this l _ (by simp)
theorem rdS_bd (n:Nat) (l:List Ga) (h:∀x∈l,x.flow.fine 13000000):∀s∈rdS n l,0≤s.lo∧s.lo≤13000000∧0≤s.hi∧s.hi≤13000000:=by
 have:∀(l:List Ga) (rd:List Sp),(∀x∈l,x.flow.fine 13000000)→(∀s∈rd,0≤s.lo∧s.lo≤13000000∧0≤s.hi∧s.hi≤13000000)→∀s∈l.foldl (fun rd x=>rd.set x.shaft.toNat (cutS (rd.getD x.shaft.toNat allS) x.flow)) rd,0≤s.lo∧s.lo≤13000000∧0≤s.hi∧s.hi≤13000000:=by
  intro l
  induction l with
  | nil=>intro rd _ h;exact h
  | cons x l ih =>
    intro rd h h2
    refine ih _ (fun y hy=>h y (by simp[hy])) ?_
    intro s hs
    rcases List.mem_or_eq_of_mem_set hs with hs | rfl
    ·exact h2 s hs
    ·obtain⟨h3,h4,h5⟩:=h x (by simp)
     have h6:0≤(rd.getD x.shaft.toNat allS).lo∧(rd.getD x.shaft.toNat allS).lo≤13000000∧0≤(rd.getD x.shaft.toNat allS).hi∧(rd.getD x.shaft.toNat allS).hi≤13000000:=by
      rw[List.getD_eq_getElem?_getD]
      cases he:rd[x.shaft.toNat]? with
      | none=>simp[allS]
      | some y=>exact h2 y (List.mem_of_getElem? he)
     simp only[cutS]
     omega
 refine this l _ h ?_
 intro s hs
 rw[List.eq_of_mem_replicate hs]
 simp[allS]
def fitS (g:List Rc) (l:List Ga) (s:Sp):Option (List Sp):=flowsF g (rdS g.length l) s
def lostS (g:List Rc) (f:List Sp):List Sp:=(List.range g.length).map fun i=>⟨(f.getD i allS).lo-max 0 (min (f.getD i allS).lo (g.getD i Rc.zero).cap.hi-(g.getD i Rc.zero).leak.lo),(f.getD i allS).hi-max 0 (min (f.getD i allS).hi (g.getD i Rc.zero).cap.lo-(g.getD i Rc.zero).leak.hi)⟩
theorem dnK_bd {g:List Rc} {rd:List Sp} {s:Sp} (hg:∀r∈g,r.fine) (hrd:∀x∈rd,0≤x.lo∧x.lo≤13000000∧0≤x.hi∧x.hi≤13000000) (hs:s.fine 1000000):∀k,k≤g.length→(∀j,j < k→okS (dnK g rd s j))→(inK g rd s k).fine 2000000∧0≤(dnK g rd s k).lo∧(dnK g rd s k).lo≤13000000∧0≤(dnK g rd s k).hi∧(dnK g rd s k).hi≤13000000:=by
 have hx:∀k,0≤(rd.getD k allS).lo∧(rd.getD k allS).lo≤13000000∧0≤(rd.getD k allS).hi∧(rd.getD k allS).hi≤13000000:=fun k=>by
  rw[List.getD_eq_getElem?_getD]
  cases he:rd[k]? with
  | none=>simp[allS]
  | some y=>exact hrd y (List.mem_of_getElem? he)
 have hcut:∀k,(inK g rd s k).fine 2000000→0≤(dnK g rd s k).lo∧(dnK g rd s k).lo≤13000000∧0≤(dnK g rd s k).hi∧(dnK g rd s k).hi≤13000000:=fun k h=>by
  obtain⟨h1,h2,h3⟩:=h
  have:=hx k
  simp only[dnK,cutS]
  omega
 intro k
 induction k with
 | zero => intro _ _; have h : (inK g rd s 0).fine 2000000 := by (obtain ⟨h1, h2, h3⟩ := hs; exact ⟨h1, h2, by show s.hi ≤ _; omega⟩)
           exact⟨h,hcut 0 h⟩
 | succ k ih =>
   intro hk hj
   obtain⟨h1,h2⟩:=ih (by omega) (fun j hjk=>hj j (by omega))
   have hok:=hj k (by omega)
   have hr:(g.getD k Rc.zero).fine:=by
    rw[List.getD_eq_getElem?_getD,List.getElem?_eq_getElem (by omega)]
    exact hg _ (List.getElem_mem _)
   have h:(inK g rd s (k+1)).fine 2000000:=by
    rw[inK_succ]
    refine outS_fine hr ⟨h2.1,hok,h2.2.2.2⟩
   exact⟨h,hcut _ h⟩
end Go.Proofs.YtiioegopckoldaaGreatDoor
namespace Go.Proofs.YtiioegopckoldaaGreatDoor
open Go.RowKit Go.Shelf
def inS (n:Int) (s:Sp):Prop:=s.lo≤n∧n≤s.hi
structure Feas (g:List Rc) (rd:List Sp) (s:Sp) (ns:Nat→Int):Prop where
 start:inS (ns 0) s
 read:∀k,k≤g.length→inS (ns k) (rd.getD k allS)
 step:∀k r,g[k]?=some r→leastF r (ns k)≤ns (k+1)∧ns (k+1)≤mostF r (ns k)
theorem Feas.tail {r:Rc} {g:List Rc} {rd:List Sp} {s:Sp} {ns:Nat→Int} (h:Feas (r :: g) rd s ns) (hr:r.fine):Feas g rd.tail (outS r (cutS s (rd.headD allS))) (fun k=>ns (k+1)):=by
 have h0:=h.read 0 (by simp)
 have h1:=h.start
 have h2:=h.step 0 r rfl
 have e:rd.getD 0 allS=rd.headD allS:=by cases rd <;> rfl
 rw[e] at h0
 obtain⟨⟨h3,h4,h5⟩,⟨h6,h7,h8⟩,⟨h9,h10,h11⟩⟩:=hr
 refine⟨?_,fun k hk=>?_,fun k r' hr'=>?_⟩
 ·simp only[inS,outS,cutS,leastF,mostF] at *
  omega
 ·have:=h.read (k+1) (by simpa using hk)
  cases rd <;> simpa[List.getD] using this
 ·exact h.step (k+1) r' (by simpa using hr')
theorem up_in {r:Rc} {f t:Sp} {n m:Int} (hr:r.fine) (hn:inS n f) (hm:inS m t) (h:leastF r n≤m∧m≤mostF r n):inS n (upS r f t):=by
 obtain⟨⟨h3,h4,h5⟩,⟨h6,h7,h8⟩,⟨h9,h10,h11⟩⟩:=hr
 simp only[inS,upS,leastF,mostF] at *
 split <;> split <;> omega
theorem feas_in:∀(g:List Rc) (rd:List Sp) (s:Sp) (ns:Nat→Int),(∀r∈g,r.fine)→Feas g rd s ns→∃l,flowsF g rd s=some l∧∀k,k≤g.length→inS (ns k) (l.getD k allS)
 | [], rd, s, ns, _, h => by
   have h0:=h.read 0 (by simp)
   have h1:=h.start
   have e:rd.getD 0 allS=rd.headD allS:=by cases rd <;> rfl
   rw[e] at h0
   unfold flowsF
   have h2:inS (ns 0) (cutS s (rd.headD allS)):=by simp only[inS,cutS] at *;omega
   rw[if_pos (Int.le_trans h2.1 h2.2)]
   refine⟨_,rfl,fun k hk=>?_⟩
   obtain rfl:k=0:=by simpa using hk
   exact h2
 | r :: g, rd, s, ns, hg, h => by
   have h0:=h.read 0 (by simp)
   have h1:=h.start
   have e:rd.getD 0 allS=rd.headD allS:=by cases rd <;> rfl
   rw[e] at h0
   have hr:=hg r (by simp)
   obtain⟨l,hl,hin⟩:=feas_in g _ _ _ (fun r hr=>hg r (by simp[hr])) (h.tail hr)
   have h2:inS (ns 0) (cutS s (rd.headD allS)):=by simp only[inS,cutS] at *;omega
   unfold flowsF
   rw[if_pos (Int.le_trans h2.1 h2.2),hl]
   refine⟨_,rfl,fun k hk=>?_⟩
   cases k with
   | zero =>
     have h3:=hin 0 (by simp)
     have h4:inS (ns 1) (l.headD allS):=by cases l <;> simpa[List.getD] using h3
     exact up_in hr h2 h4 (h.step 0 r rfl)
   | succ k=>simpa[List.getD] using hin k (by simpa using hk)
def consN (n:Int) (ns:Nat→Int):Nat→Int | 0=>n | k+1=>ns k
theorem Feas.cons {r:Rc} {g:List Rc} {rd:List Sp} {s:Sp} {ns:Nat→Int} {n:Int} {s':Sp} (h:Feas g rd.tail s' ns) (hn:inS n (cutS s (rd.headD allS))) (hs:leastF r n≤ns 0∧ns 0≤mostF r n):Feas (r :: g) rd s (consN n ns):=by
 refine⟨?_,fun k hk=>?_,fun k r' hr'=>?_⟩
 ·simp only[inS,cutS,consN] at *;omega
 ·cases k with
  | zero =>
    have e:rd.getD 0 allS=rd.headD allS:=by cases rd <;> rfl
    rw[e]
    simp only[inS,cutS,consN] at *;omega
  | succ k =>
    have:=h.read k (by simpa using hk)
    cases rd <;> simpa[List.getD,consN] using this
 ·cases k with
  | zero =>
    simp at hr'
    subst hr'
    exact hs
  | succ k=>exact h.step k r' (by simpa using hr')
def subS (a b:Sp):Prop:=b.lo≤a.lo∧a.hi≤b.hi
def Rc.sub (a b:Rc):Prop:=subS a.cap b.cap∧subS a.leak b.leak∧subS a.gain b.gain
end Go.Proofs.YtiioegopckoldaaGreatDoor
namespace Go.Proofs.YtiioegopckoldaaGreatDoor
open Go.RowKit Go.Shelf
def nextF (n c k m:Int):Int:=max 0 (min n c-k)+m
theorem next_step {r:Rc} {n c k m:Int} (hc:inS c r.cap) (hk:inS k r.leak) (hm:inS m r.gain):leastF r n≤nextF n c k m∧nextF n c k m≤mostF r n:=by
 simp only[inS,leastF,mostF,nextF] at *;omega
def holds (ss:List Sp) (n:Int):Nat:=(ss.filter fun s=>decide (s.lo≤n) && decide (n≤s.hi)).length
end Go.Proofs.YtiioegopckoldaaGreatDoor
namespace Go.Proofs.YtiioegopckoldaaGreatDoor
open Go.RowKit Go.Shelf
end Go.Proofs.YtiioegopckoldaaGreatDoor
