/- lemmas for topRented_holds: PC3. No conditions. -/
import Derived.Test.YtiioegopckoldaaGreatDoorK20
set_option linter.unusedVariables false
set_option linter.unusedSimpArgs false
namespace Go.Proofs.YtiioegopckoldaaGreatDoor
open Bo
theorem bit_clear (s k j:Nat) (hs:s.testBit k=true):(s ^^^ 2 ^ k).testBit j=(s.testBit j && decide (j≠k)):=by
 rw[Nat.testBit_xor,Nat.testBit_two_pow]
 by_cases hj:k=j
 ·subst hj;simp[hs]
 ·have hj':¬j=k:=fun e=>hj e.symm
  simp[hj,hj']
theorem getD_setN {xs:List Nat} {i j:Nat} {v:Nat} (hi:i < xs.length):(xs.set i v).getD j 0=if j=i then v else xs.getD j 0:=by
 rw[List.getD_eq_getElem?_getD]
 by_cases h:j=i
 ·rw[if_pos h,h,List.getElem?_set_self hi];rfl
 ·rw[if_neg h,List.getElem?_set_ne (fun e=>h e.symm),List.getD_eq_getElem?_getD]
section
variable {ns hs:List Int} {ss:List Nat} {pr:List Int}
theorem strike_on {i k:Nat} (his:i < ss.length) (hb:(ss.getD i 0).testBit k=true) (S j:Nat) :
 (boOf ns (ss.set i (ss.getD i 0 ^^^ 2 ^ k)) pr).on S j=if j=i then(boOf ns ss pr).on (S &&& (S ^^^ 2 ^ k)) j || (! S.testBit k && (boOf ns ss pr).on S j) else(boOf ns ss pr).on S j:=by
 have e:∀j:Nat,(boOf ns (ss.set i (ss.getD i 0 ^^^ 2 ^ k)) pr).st j=if j=i then ss.getD i 0 ^^^ 2 ^ k else ss.getD j 0:=fun j=>getD_setN his
 by_cases hj:j=i
 ·subst hj
  rw[if_pos rfl,Bool.eq_iff_iff,Bool.or_eq_true,Bool.and_eq_true,Bo.on_iff,Bo.on_iff,Bo.on_iff]
  constructor
  ·rintro⟨b,h1,h2⟩
   rw[e j,if_pos rfl,bit_clear _ _ _ hb,Bool.and_eq_true,decide_eq_true_eq] at h1
   by_cases hk:S.testBit k=true
   ·refine .inl ⟨b,h1.1,?_⟩
    rw[Nat.testBit_and,bit_clear _ _ _ hk,h2,decide_eq_true h1.2];rfl
   ·exact .inr ⟨by simpa using hk,b,h1.1,h2⟩
  ·rintro(⟨b,h1,h2⟩ | ⟨hk,b,h1,h2⟩)
   ·rw[Nat.testBit_and,Bool.and_eq_true] at h2
    have hne:b≠k:=by
     rintro rfl
     have:=h2.2
     rw[Nat.testBit_xor,Nat.testBit_two_pow,h2.1] at this
     simp at this
    exact⟨b,by rw[e j,if_pos rfl,bit_clear _ _ _ hb,show(ss.getD j 0).testBit b=true from h1,decide_eq_true hne];rfl,h2.1⟩
   ·have hne:b≠k:=by
     rintro rfl
     rw[h2] at hk;simp at hk
    exact⟨b,by rw[e j,if_pos rfl,bit_clear _ _ _ hb,show(ss.getD j 0).testBit b=true from h1,decide_eq_true hne];rfl,h2⟩
 ·rw[if_neg hj,Bool.eq_iff_iff,Bo.on_iff,Bo.on_iff]
  constructor
  ·rintro⟨b,h1,h2⟩
   rw[e j,if_neg hj] at h1
   exact⟨b,h1,h2⟩
  ·rintro⟨b,h1,h2⟩
   exact⟨b,by rw[e j,if_neg hj];exact h1,h2⟩
theorem there_strike {i k:Nat} (hi:i < pr.length) (his:i < ss.length) (hb:(ss.getD i 0).testBit k=true) (x:Nat→Int) (S:Nat) :
 (boOf ns (ss.set i (ss.getD i 0 ^^^ 2 ^ k)) pr).there x S=(boOf ns ss pr).there x S-(if S.testBit k=true∧(boOf ns ss pr).on (S &&& (S ^^^ 2 ^ k)) i=false then x i else 0):=by
 unfold Bo.there
 have hr:i < (boOf ns ss pr).r:=hi
 have e0:(boOf ns (ss.set i (ss.getD i 0 ^^^ 2 ^ k)) pr).r=(boOf ns ss pr).r:=rfl
 rw[e0,sumTo_one _ i hr,sumTo_one (fun j=>if(boOf ns ss pr).on S j=true then x j else 0) i hr]
 have e:sumTo (fun j=>if j=i then 0 else if(boOf ns (ss.set i (ss.getD i 0 ^^^ 2 ^ k)) pr).on S j=true then x j else 0) (boOf ns ss pr).r=sumTo (fun j=>if j=i then 0 else if(boOf ns ss pr).on S j=true then x j else 0) (boOf ns ss pr).r:=sumTo_congr fun j _=>by
  by_cases h:j=i
  ·rw[if_pos h,if_pos h]
  ·rw[if_neg h,if_neg h,strike_on his hb,if_neg h]
 rw[e,strike_on his hb,if_pos rfl]
 cases hk:S.testBit k
 ·simp
  cases ho:(boOf ns ss pr).on (S &&& (S ^^^ 2 ^ k)) i
  ·simp
  ·rw[((boOf ns ss pr).on_and ho).1];simp
 ·have ho:(boOf ns ss pr).on S i=true:=(Bo.on_iff _).2 ⟨k,hb,hk⟩
  rw[ho]
  cases ho2:(boOf ns ss pr).on (S &&& (S ^^^ 2 ^ k)) i <;> simp
theorem there_gain (B:Bo) {x:Nat→Int} (h0:∀i,i < B.r→0≤x i) {S T i:Nat} (hi:i < B.r) (hS:B.on S i=true) (hT:B.on T i=true) (hn:B.on (S &&& T) i=false):B.there x (S ||| T)+B.there x (S &&& T)≤B.there x S+B.there x T-x i:=by
 unfold Bo.there
 rw[sumTo_one (fun j=>if B.on (S ||| T) j=true then x j else 0) i hi,sumTo_one (fun j=>if B.on (S &&& T) j=true then x j else 0) i hi,sumTo_one (fun j=>if B.on S j=true then x j else 0) i hi,sumTo_one (fun j=>if B.on T j=true then x j else 0) i hi]
 have key:sumTo (fun k=>if k=i then 0 else if B.on (S ||| T) k=true then x k else 0) B.r+sumTo (fun k=>if k=i then 0 else if B.on (S &&& T) k=true then x k else 0) B.r≤sumTo (fun k=>if k=i then 0 else if B.on S k=true then x k else 0) B.r+sumTo (fun k=>if k=i then 0 else if B.on T k=true then x k else 0) B.r:=by
  rw[←sumTo_add,←sumTo_add]
  refine sumTo_le fun j hj=>?_
  by_cases hji:j=i
  ·simp[hji]
  ·simp only[if_neg hji]
   have hx:=h0 j hj
   have h1:=B.on_or (S:=S) (T:=T) (i:=j)
   have h2:=B.on_and (S:=S) (T:=T) (i:=j)
   cases ha:B.on (S &&& T) j
   ·rw[h1]
    cases B.on S j <;> cases B.on T j <;> simp <;> omega
   ·obtain⟨h3,h4⟩:=h2 ha
    rw[h1,h3,h4];simp
 rw[hn,hS,hT,B.on_or,hS]
 simp
 omega
theorem sub_clear {S k:Nat} (hk:S.testBit k=true):S &&& (S ^^^ 2 ^ k)=S ^^^ 2 ^ k:=by
 refine Nat.eq_of_testBit_eq fun j=>?_
 rw[Nat.testBit_and,bit_clear _ _ _ hk]
 cases S.testBit j <;> simp
theorem need_clear {S k:Nat} (hk:S.testBit k=true) (hkm:k < ns.length):needS ns S=needS ns (S ^^^ 2 ^ k)+ns.getD k 0:=by
 unfold needS
 rw[sumTo_one (needF1 ns S) k hkm,sumTo_one (needF1 ns (S ^^^ 2 ^ k)) k hkm]
 have e:sumTo (fun j=>if j=k then 0 else needF1 ns S j) ns.length=sumTo (fun j=>if j=k then 0 else needF1 ns (S ^^^ 2 ^ k) j) ns.length:=sumTo_congr fun j _=>by
  by_cases h:j=k
  ·rw[if_pos h,if_pos h]
  ·rw[if_neg h,if_neg h];unfold needF1;rw[bit_clear _ _ _ hk,decide_eq_true h,Bool.and_true]
 have e1:needF1 ns S k=ns.getD k 0:=by unfold needF1;rw[if_pos hk]
 have e2:needF1 ns (S ^^^ 2 ^ k) k=0:=by unfold needF1;rw[bit_clear _ _ _ hk];simp
 rw[e,e1,e2];omega
theorem strike_feas {i k:Nat} {y:Nat→Int} (hi:i < pr.length) (his:i < ss.length) (hk:k < ns.length) (hb:(ss.getD i 0).testBit k=true) (y0:∀j,j < pr.length→0≤y j) (hf:(boOf ns ss pr).Feas y)
 (hmax:y i=0∨ns.getD k 0=0∨¬(boOf (ns.set k (ns.getD k 0-1)) ss pr).Feas (Bo.upd y i (y i-1))):(boOf ns (ss.set i (ss.getD i 0 ^^^ 2 ^ k)) pr).Feas y:=by
 intro S hS
 rw[there_strike hi his hb]
 have hS':S < 2 ^ (boOf ns ss pr).m:=hS
 have h0:=hf S hS'
 have e0:(boOf ns (ss.set i (ss.getD i 0 ^^^ 2 ^ k)) pr).need S=(boOf ns ss pr).need S:=rfl
 rw[e0]
 by_cases hc:S.testBit k=true∧(boOf ns ss pr).on (S &&& (S ^^^ 2 ^ k)) i=false
 ·rw[if_pos hc]
  rcases hmax with hm | hm | hm
  ·rw[hm];omega
  ·have hlt:S ^^^ 2 ^ k < 2 ^ (boOf ns ss pr).m:=Nat.xor_lt_two_pow hS (Nat.pow_lt_pow_right (by omega) hk)
   have h1:=hf (S ^^^ 2 ^ k) hlt
   rw[need_is] at h1 ⊢
   rw[need_clear hc.1 hk,hm]
   have h2:(boOf ns ss pr).there y (S ^^^ 2 ^ k)≤(boOf ns ss pr).there y S-y i:=by
    have hr:i < (boOf ns ss pr).r:=hi
    unfold Bo.there
    rw[sumTo_one (fun j=>if(boOf ns ss pr).on (S ^^^ 2 ^ k) j=true then y j else 0) i hr,sumTo_one (fun j=>if(boOf ns ss pr).on S j=true then y j else 0) i hr]
    have ho:(boOf ns ss pr).on S i=true:=(Bo.on_iff _).2 ⟨k,hb,hc.1⟩
    have hn:=hc.2
    rw[sub_clear hc.1] at hn
    rw[ho,hn]
    have:sumTo (fun j=>if j=i then 0 else if(boOf ns ss pr).on (S ^^^ 2 ^ k) j=true then y j else 0) (boOf ns ss pr).r≤sumTo (fun j=>if j=i then 0 else if(boOf ns ss pr).on S j=true then y j else 0) (boOf ns ss pr).r:=sumTo_le fun j hj=>by
     by_cases hji:j=i
     ·rw[if_pos hji,if_pos hji];exact Int.le_refl _
     ·rw[if_neg hji,if_neg hji]
      have hy:=y0 j hj
      by_cases ho:(boOf ns ss pr).on (S ^^^ 2 ^ k) j=true
      ·rw[if_pos ho]
       have ho':=ho
       rw[←sub_clear hc.1] at ho'
       rw[if_pos ((boOf ns ss pr).on_and ho').1];exact Int.le_refl _
      ·rw[if_neg ho];split <;> omega
    rw[if_pos rfl,if_neg (by decide)]
    omega
   omega
  ·
   have hex:∃T,T < 2 ^ (boOf ns ss pr).m∧T.testBit k=false∧(boOf ns ss pr).on T i=true∧(boOf ns ss pr).need T=(boOf ns ss pr).there y T:=by
    apply Classical.byContradiction
    intro hne
    refine hm fun T hT=>?_
    have hT':T < 2 ^ (boOf ns ss pr).m:=by
     have:(boOf (ns.set k (ns.getD k 0-1)) ss pr).m=ns.length:=List.length_set ..
     rw[this] at hT;exact hT
    rw[need_is,needS_set hk,show y i-1=y i+(-1) by omega]
    have e1:=there_more (boOf (ns.set k (ns.getD k 0-1)) ss pr) (x:=y) (i:=i) hi (-1) T
    rw[e1]
    have e2:(boOf (ns.set k (ns.getD k 0-1)) ss pr).there y T=(boOf ns ss pr).there y T:=rfl
    have e3:(boOf (ns.set k (ns.getD k 0-1)) ss pr).on T i=(boOf ns ss pr).on T i:=rfl
    rw[e2,e3]
    have h1:=hf T hT'
    rw[need_is] at h1
    by_cases hTk:T.testBit k=true
    ·rw[if_pos hTk];split <;> omega
    ·rw[if_neg hTk]
     by_cases ho:(boOf ns ss pr).on T i=true
     ·rw[if_pos ho]
      have:¬needS ns T=(boOf ns ss pr).there y T:=fun he=>hne ⟨T,hT',by simpa using hTk,ho,he⟩
      omega
     ·rw[if_neg ho];omega
   obtain⟨T,hT,hTk,hTo,hTt⟩:=hex
   have ho:(boOf ns ss pr).on S i=true:=(Bo.on_iff _).2 ⟨k,hb,hc.1⟩
   have hn:(boOf ns ss pr).on (S &&& T) i=false:=by
    cases hh:(boOf ns ss pr).on (S &&& T) i
    ·rfl
    ·obtain⟨b,h1,h2⟩:=(Bo.on_iff _).1 hh
     rw[Nat.testBit_and,Bool.and_eq_true] at h2
     have hne:b≠k:=by rintro rfl;rw[hTk] at h2;cases h2.2
     have:(boOf ns ss pr).on (S &&& (S ^^^ 2 ^ k)) i=true:=(Bo.on_iff _).2 ⟨b,h1,by rw[Nat.testBit_and,bit_clear _ _ _ hc.1,h2.1,decide_eq_true hne];rfl⟩
     rw[hc.2] at this;cases this
   have g1:=there_gain (boOf ns ss pr) (x:=y) y0 (S:=S) (T:=T) (i:=i) hi ho hTo hn
   have g2:=(boOf ns ss pr).need_mod S T
   have g3:=hf (S ||| T) (Nat.or_lt_two_pow hS' hT)
   have g4:=hf (S &&& T) (Bo.and_lt hS')
   omega
 ·rw[if_neg hc];omega
end
end Go.Proofs.YtiioegopckoldaaGreatDoor
namespace Go.Proofs.YtiioegopckoldaaGreatDoor
open Bo
theorem pick_good {good:Nat→Bool} (h0:good 0=true):∀M,good (pickF good M)=true
 | 0=>h0
 | M + 1 => by
   unfold pickF
   by_cases hg:good (M+1)=true
   ·rw[if_pos hg];exact hg
   ·rw[if_neg hg];exact pick_good h0 M
theorem pick_max {good:Nat→Bool}:∀{M x:Nat},pickF good M < x→x≤M→good x=false
 | 0,x,h,hx=>by unfold pickF at h;omega
 | M + 1, x, h, hx => by
   unfold pickF at h
   by_cases hg:good (M+1)=true
   ·rw[if_pos hg] at h;omega
   ·rw[if_neg hg] at h
    by_cases hxe:x=M+1
    ·subst hxe;simpa using hg
    ·exact pick_max h (by omega)
theorem set_sub_zero {xs:List Int} {k:Nat}:xs.set k (xs.getD k 0-0)=xs:=by
 rw[Int.sub_zero]
 by_cases hk:k < xs.length
 ·rw[List.getD_eq_getElem?_getD,List.getElem?_eq_getElem hk]
  show xs.set k xs[k]=xs
  exact List.set_getElem_self hk
 ·exact List.set_eq_of_length_le (by omega)
theorem Min.feas {B:Bo} {h:Nat→Int} {c:Int} (hm:B.Min h c):B.Feas h:=by
 obtain⟨x,a1,a2,a3,_⟩:=hm.is
 exact fun S hS=>Int.le_trans (a1 S hS) (B.there_le (x:=x) (y:=h) a3 S)
section
variable {ns hs:List Int} {ss:List Nat} {pr:List Int}
theorem good_zero {i k:Nat} {left:Int} (hF:Fits hs pr) (hM:(boOf ns ss pr).Min (xOf hs) left):goodF ns hs ss pr i k left 0=true:=by
 have hc:=(hF.cost (ns:=ns) (ss:=ss)).yes (Min.feas hM)
 unfold goodF
 rw[set_sub_zero,set_sub_zero,hc.1,hc.2.one _ hM]
 simp
theorem good_min {i k:Nat} {left n:Int} (hF:Fits hs pr) (hih:i < hs.length) (hn:n≤hs.getD i 0) (hg:goodF ns hs ss pr i k left n=true):(boOf (ns.set k (ns.getD k 0-n)) ss pr).Min (xOf (hs.set i (hs.getD i 0-n))) (left-n*pr.getD i 0):=by
 unfold goodF at hg
 rw[Bool.and_eq_true,beq_iff_eq] at hg
 have C:=(hF.set (n:=n) hn hih).cost (ns:=ns.set k (ns.getD k 0-n)) (ss:=ss)
 have h:=(C.yes ((cost_some C).1 hg.1)).2
 have e:(costF (ns.set k (ns.getD k 0-n)) (hs.set i (hs.getD i 0-n)) ss pr).1=left-n*pr.getD i 0:=by have:=hg.2;omega
 rwa [e] at h
theorem cell_min {m c i k:Nat} {st:PSt} (h:StOk pr m c st) (hM:(boOf st.ns st.ss pr).Min (xOf st.hs) st.left) (hp:∀x∈pr,0≤x∧x≤100000) (hi:i < pr.length) (hp8:pr.length≤8) (hk:k < m) :
 (boOf (cellP pr i k st).2.ns (cellP pr i k st).2.ss pr).Min (xOf (cellP pr i k st).2.hs) (cellP pr i k st).2.left:=by
 unfold cellP
 by_cases hb:(st.ss.getD i 0).testBit k=true
 rotate_left
 ·simp only[if_neg hb];exact hM
 simp only[if_pos hb]
 have hF:Fits st.hs pr:=⟨fun j _=>(getD_mem (p:=fun x:Int=>0≤x∧x≤100000) (d:=0) hp (by decide) j).1,fun j _=>(getD_mem (p:=fun x:Int=>0≤x∧x≤23040) (d:=0) h.h (by decide) j).1,by rw[h.hl];exact hp8⟩
 have hkb:=getD_mem (p:=fun x:Int=>0≤x∧x≤23040) (d:=0) h.n (by decide) k
 have hib:=getD_mem (p:=fun x:Int=>0≤x∧x≤23040) (d:=0) h.h (by decide) i
 have hih:i < st.hs.length:=by rw[h.hl];omega
 have hkn:k < st.ns.length:=by rw[h.nl];exact hk
 have his:i < st.ss.length:=by rw[h.sl];omega
 have hpl:=pick_le (good:=goodN pr i k st) (topP i k st)
 have hpg:goodN pr i k st (pickF (goodN pr i k st) (topP i k st))=true:=pick_good (good_zero hF hM) _
 have hpm:∀x,pickF (goodN pr i k st) (topP i k st) < x→x≤topP i k st→goodN pr i k st x=false:=fun x a b=>pick_max a b
 have ht:((topP i k st:Nat):Int)=min (st.hs.getD i 0) (st.ns.getD k 0):=by unfold topP;omega
 obtain⟨n,hn⟩:∃n,n=pickF (goodN pr i k st) (topP i k st):=⟨_,rfl⟩
 obtain⟨M,hMt⟩:∃M,M=topP i k st:=⟨_,rfl⟩
 rw[←hn] at hpl hpg hpm ⊢
 rw[←hMt] at hpl hpm ht
 have hnh:(n:Int)≤st.hs.getD i 0:=by omega
 have hM':=good_min (k:=k) hF hih hnh hpg
 show(boOf (st.ns.set k (st.ns.getD k 0-n)) (st.ss.set i (st.ss.getD i 0 ^^^ 2 ^ k)) pr).Min (xOf (st.hs.set i (st.hs.getD i 0-n))) (st.left-n*pr.getD i 0)
 have fit':=hF.set (n:=(n:Int)) hnh hih
 obtain⟨y,yf,y0,yle,yc⟩:=hM'.is
 have yfs:=strike_feas (ns:=st.ns.set k (st.ns.getD k 0-n)) (ss:=st.ss) (pr:=pr) (i:=i) (k:=k) (y:=y) hi his (by rw[List.length_set];exact hkn) hb y0 yf (by
  by_cases hy:y i=0
  ·exact .inl hy
  by_cases hz:(st.ns.set k (st.ns.getD k 0-n)).getD k 0=0
  ·exact .inr (.inl hz)
  refine .inr (.inr fun hf2=>?_)
  have hyi:=yle i hi
  have hy0:=y0 i hi
  have e1:xOf (st.hs.set i (st.hs.getD i 0-n)) i=st.hs.getD i 0-n:=by unfold xOf;rw[getD_set hih,if_pos rfl]
  rw[e1] at hyi
  rw[getD_set hkn,if_pos rfl] at hz
  have hlt:n < M:=by omega
  have bad:=hpm (n+1) (by omega) (by omega)
  have good:goodN pr i k st (n+1)=true:=by
   show goodF st.ns st.hs st.ss pr i k st.left ((n+1:Nat):Int)=true
   have ec:((n+1:Nat):Int)=(n:Int)+1:=rfl
   rw[ec]
   have en:st.ns.set k (st.ns.getD k 0-(n+1))=(st.ns.set k (st.ns.getD k 0-n)).set k ((st.ns.set k (st.ns.getD k 0-n)).getD k 0-1):=(set_set_sub hkn).symm
   have eh:st.hs.set i (st.hs.getD i 0-(n+1))=(st.hs.set i (st.hs.getD i 0-n)).set i ((st.hs.set i (st.hs.getD i 0-n)).getD i 0-1):=(set_set_sub hih).symm
   unfold goodF
   have fit2:=hF.set (n:=(n:Int)+1) (by omega) hih
   have C:=fit2.cost (ns:=st.ns.set k (st.ns.getD k 0-(n+1))) (ss:=st.ss)
   have hf3:(boOf (st.ns.set k (st.ns.getD k 0-(n+1))) st.ss pr).Feas (Bo.upd y i (y i-1)):=by rw[en];exact hf2
   have u0:∀j,j < pr.length→0≤Bo.upd y i (y i-1) j:=fun j hj=>by
    unfold Bo.upd
    split
    ·omega
    ·exact y0 j hj
   have ule:∀j,j < pr.length→Bo.upd y i (y i-1) j≤xOf (st.hs.set i (st.hs.getD i 0-(n+1))) j:=fun j hj=>by
    unfold Bo.upd xOf
    rw[getD_set hih]
    by_cases hji:j=i
    ·rw[if_pos hji,if_pos hji];omega
    ·rw[if_neg hji,if_neg hji]
     have:=yle j hj
     unfold xOf at this
     rw[getD_set hih,if_neg hji] at this
     exact this
   have hfx:(boOf (st.ns.set k (st.ns.getD k 0-(n+1))) st.ss pr).Feas (xOf (st.hs.set i (st.hs.getD i 0-(n+1)))):=fun S hS=>Int.le_trans (hf3 S hS) ((boOf (st.ns.set k (st.ns.getD k 0-(n+1))) st.ss pr).there_le (x:=Bo.upd y i (y i-1)) ule S)
   obtain⟨c1,c2⟩:=C.yes hfx
   rw[Bool.and_eq_true,beq_iff_eq]
   refine⟨c1,?_⟩
   have l1:=c2.le _ hf3 u0 ule
   have l2:(boOf (st.ns.set k (st.ns.getD k 0-(n+1))) st.ss pr).cost (Bo.upd y i (y i-1))=st.left-n*pr.getD i 0-pr.getD i 0:=by
    have h1:=cost_more (boOf (st.ns.set k (st.ns.getD k 0-(n+1))) st.ss pr) (x:=y) (i:=i) hi (-1)
    rw[show y i+ -1=y i-1 by omega] at h1
    rw[h1]
    have h2:(boOf (st.ns.set k (st.ns.getD k 0-(n+1))) st.ss pr).cost y=(boOf (st.ns.set k (st.ns.getD k 0-n)) st.ss pr).cost y:=rfl
    have h3:(boOf (st.ns.set k (st.ns.getD k 0-(n+1))) st.ss pr).pr i=pr.getD i 0:=rfl
    rw[h2,yc,h3];omega
   rw[l2] at l1
   have c2':=c2
   have ed:(costF (st.ns.set k (st.ns.getD k 0-(n+1))) (st.hs.set i (st.hs.getD i 0-(n+1))) st.ss pr).1=(costF ((st.ns.set k (st.ns.getD k 0-n)).set k ((st.ns.set k (st.ns.getD k 0-n)).getD k 0-1)) ((st.hs.set i (st.hs.getD i 0-n)).set i ((st.hs.set i (st.hs.getD i 0-n)).getD i 0-1)) st.ss pr).1:=by rw[←en,←eh]
   rw[en,eh] at c2'
   have l3:=shift_min (ns:=st.ns.set k (st.ns.getD k 0-n)) (hs:=st.hs.set i (st.hs.getD i 0-n)) (ss:=st.ss) (pr:=pr) (k:=k) (i:=i) (n:=1) (by rw[List.length_set];exact hkn) hi (by rw[List.length_set];exact hih) hb (by omega) c2' hM'
   rw[←ed] at l3
   have e5:((n:Int)+1)*pr.getD i 0=n*pr.getD i 0+pr.getD i 0:=by rw[Int.add_mul,Int.one_mul]
   rw[e5]
   omega
  rw[bad] at good;cases good)
 refine⟨⟨y,yfs,y0,yle,yc⟩,fun z zf z0 zle=>hM'.le z (clear_feas his (fun j hj=>testBit_clear hb hj) z0 zf) z0 zle⟩
end
theorem getD_snoc {xs:List Int} {x:Int} {j:Nat}:(xs ++ [x]).getD j 0=if j=xs.length then x else xs.getD j 0:=by
 rw[List.getD_eq_getElem?_getD,List.getD_eq_getElem?_getD]
 by_cases h:j < xs.length
 ·rw[List.getElem?_append_left h,if_neg (by omega)]
 ·rw[List.getElem?_append_right (by omega)]
  by_cases e:j=xs.length
  ·rw[if_pos e,e,Nat.sub_self];rfl
  ·rw[if_neg e,List.getElem?_eq_none (by simp;omega),List.getElem?_eq_none (by omega)]
structure RowI (pr:List Int) (m i k:Nat) (st:PSt) (row:List Int) (st':PSt):Prop where
 len:row.length=k
 ns:∀j,st'.ns.getD j 0=st.ns.getD j 0-(if j < k then row.getD j 0 else 0)
 hi:st'.hs.getD i 0=st.hs.getD i 0-sumTo (fun j=>row.getD j 0) k
 ho:∀j,j≠i→st'.hs.getD j 0=st.hs.getD j 0
 ss:∀j b,(st'.ss.getD j 0).testBit b=((st.ss.getD j 0).testBit b && !(decide (j=i) && decide (b < k)))
 left:st'.left=st.left-sumTo (fun j=>row.getD j 0) k*pr.getD i 0
 ok:∀j,j < k→0≤row.getD j 0∧row.getD j 0≤st.hs.getD i 0-sumTo (fun j=>row.getD j 0) j∧(0 < row.getD j 0→(st.ss.getD i 0).testBit j=true)
theorem RowI.snoc {pr:List Int} {m i k:Nat} {st st' st2:PSt} {row:List Int} {x:Int} (h:RowI pr m i k st row st') (h1:0≤x) (h2:x≤st'.hs.getD i 0) (h3:0 < x→(st'.ss.getD i 0).testBit k=true)
 (en:∀j,st2.ns.getD j 0=st'.ns.getD j 0-(if j=k then x else 0)) (eh:∀j,st2.hs.getD j 0=st'.hs.getD j 0-(if j=i then x else 0)) (es:∀j b,(st2.ss.getD j 0).testBit b=((st'.ss.getD j 0).testBit b && !(decide (j=i) && decide (b=k)))) (el:st2.left=st'.left-x*pr.getD i 0) :
 RowI pr m i (k+1) st (row ++ [x]) st2:=by
 have g1:∀j,j < k→(row ++ [x]).getD j 0=row.getD j 0:=fun j hj=>by rw[getD_snoc,if_neg (by rw[h.len];omega)]
 have g2:(row ++ [x]).getD k 0=x:=by rw[getD_snoc,if_pos h.len.symm]
 have g3:∀j,j≤k→sumTo (fun j=>(row ++ [x]).getD j 0) j=sumTo (fun j=>row.getD j 0) j:=fun j hj=>sumTo_congr fun q hq=>g1 q (by omega)
 have g4:sumTo (fun j=>(row ++ [x]).getD j 0) (k+1)=sumTo (fun j=>row.getD j 0) k+x:=by show sumTo _ k+(row ++ [x]).getD k 0=_;rw[g3 k (Nat.le_refl _),g2]
 refine⟨by rw[List.length_append,h.len];rfl,fun j=>?_,?_,fun j hj=>?_,fun j b=>?_,?_,fun j hj=>?_⟩
 ·rw[en,h.ns]
  by_cases hj:j < k
  ·rw[if_pos hj,if_neg (by omega),if_pos (by omega),g1 j hj];omega
  ·by_cases e:j=k
   ·subst e;rw[if_neg hj,if_pos rfl,if_pos (by omega),g2];omega
   ·rw[if_neg hj,if_neg e,if_neg (by omega)];omega
 ·rw[eh,if_pos rfl,h.hi,g4];omega
 ·rw[eh,if_neg hj,h.ho j hj];omega
 ·rw[es,h.ss]
  by_cases e:j=i
  ·by_cases e1:b < k
   ·have e2:b≠k:=by omega
    have e3:b < k+1:=by omega
    simp[e,e1,e2,e3]
   ·by_cases e2:b=k
    ·subst e2;simp[e]
    ·have e3:¬b < k+1:=by omega
     simp[e,e1,e2,e3]
  ·simp[e]
 ·rw[el,h.left,g4,Int.add_mul];omega
 ·by_cases e:j=k
  ·subst e
   rw[g2,g3 j (Nat.le_refl _)]
   refine⟨h1,by have:=h.hi;omega,fun h0=>?_⟩
   have:=h3 h0
   rw[h.ss,Bool.and_eq_true] at this
   exact this.1
  ·rw[g1 j (by omega),g3 j (by omega)]
   exact h.ok j (by omega)
theorem row_is {pr:List Int} {m c i:Nat} {st:PSt} (h:StOk pr m c st) (hM:(boOf st.ns st.ss pr).Min (xOf st.hs) st.left) (hp:∀x∈pr,0≤x∧x≤100000) (hi:i < pr.length) (hp8:pr.length≤8):∀k,k≤m→
 StOk pr m (c+k) (rowP pr i k st).2∧(boOf (rowP pr i k st).2.ns (rowP pr i k st).2.ss pr).Min (xOf (rowP pr i k st).2.hs) (rowP pr i k st).2.left∧RowI pr m i k st (rowP pr i k st).1 (rowP pr i k st).2
 | 0,_=>⟨h,hM,⟨rfl,fun j=>by rw[if_neg (by omega)];exact(Int.sub_zero _).symm,(Int.sub_zero _).symm,fun _ _=>rfl,fun j b=>by simp[rowP],by simp[rowP,sumTo],fun j hj=>by omega⟩⟩
 | k + 1, hk => by
   obtain⟨a1,a2,a3⟩:=row_is h hM hp hi hp8 k (by omega)
   refine⟨a1.cell hp hi hp8 (by omega),cell_min a1 a2 hp hi hp8 (by omega),?_⟩
   show RowI pr m i (k+1) st ((rowP pr i k st).1 ++ [(cellP pr i k (rowP pr i k st).2).1]) (cellP pr i k (rowP pr i k st).2).2
   obtain⟨S,hS⟩:∃S,S=(rowP pr i k st).2:=⟨_,rfl⟩
   rw[←hS] at a1 a2 a3 ⊢
   have hkb:=getD_mem (p:=fun x:Int=>0≤x∧x≤23040) (d:=0) a1.n (by decide) k
   have hib:=getD_mem (p:=fun x:Int=>0≤x∧x≤23040) (d:=0) a1.h (by decide) i
   unfold cellP
   by_cases hb:(S.ss.getD i 0).testBit k=true
   ·rw[if_pos hb]
    have hl:=pick_le (good:=goodN pr i k S) (topP i k S)
    have ht:((topP i k S:Nat):Int)≤S.hs.getD i 0∧((topP i k S:Nat):Int)≤S.ns.getD k 0:=by unfold topP;omega
    obtain⟨n,hn⟩:∃n,n=pickF (goodN pr i k S) (topP i k S):=⟨_,rfl⟩
    rw[←hn] at hl ⊢
    refine a3.snoc (by omega) (by omega) (fun _=>hb) (fun j=>?_) (fun j=>?_) (fun j b=>?_) rfl
    ·show(S.ns.set k (S.ns.getD k 0-n)).getD j 0=_
     rw[getD_set (by rw[a1.nl];omega)]
     by_cases e:j=k
     ·rw[if_pos e,if_pos e,e]
     ·rw[if_neg e,if_neg e];omega
    ·show(S.hs.set i (S.hs.getD i 0-n)).getD j 0=_
     rw[getD_set (by rw[a1.hl];omega)]
     by_cases e:j=i
     ·rw[if_pos e,if_pos e,e]
     ·rw[if_neg e,if_neg e];omega
    ·show((S.ss.set i (S.ss.getD i 0 ^^^ 2 ^ k)).getD j 0).testBit b=_
     rw[getD_setN (by rw[a1.sl];omega)]
     by_cases e:j=i
     ·rw[if_pos e,bit_clear _ _ _ hb,e];simp
     ·rw[if_neg e];simp[e]
   ·rw[if_neg hb]
    refine a3.snoc (by omega) hib.1 (fun h=>absurd h (by omega)) (fun j=>by show S.ns.getD j 0=_;split <;> omega) (fun j=>by show S.hs.getD j 0=_;split <;> omega) (fun j b=>?_) (by simp)
    by_cases e:j=i
    ·by_cases e2:b=k
     ·rw[e,e2];simpa using hb
     ·simp[e,e2]
    ·simp[e]
def cellAt (p:List (List Int)) (i k:Nat):Int:=(p.getD i []).getD k 0
def usedTo (p:List (List Int)) (i k:Nat):Int:=sumTo (cellAt p i) k
structure PlanI (pr:List Int) (m i:Nat) (st:PSt) (p:List (List Int)) (st':PSt):Prop where
 len:p.length=i
 row:∀j,j < i→(p.getD j []).length=m
 ns:∀k,k < m→st'.ns.getD k 0=st.ns.getD k 0-sumTo (fun j=>cellAt p j k) i
 hs:∀j,i≤j→st'.hs.getD j 0=st.hs.getD j 0
 ss:∀j b,b < m→(st'.ss.getD j 0).testBit b=((st.ss.getD j 0).testBit b && !decide (j < i))
 left:st'.left=st.left-sumTo (fun j=>usedTo p j m*pr.getD j 0) i
 ok:∀j,j < i→∀k,k < m→0≤cellAt p j k∧cellAt p j k≤st.hs.getD j 0-usedTo p j k∧(0 < cellAt p j k→(st.ss.getD j 0).testBit k=true)
theorem getD_snocL {xs:List (List Int)} {x:List Int} {j:Nat}:(xs ++ [x]).getD j []=if j=xs.length then x else xs.getD j []:=by
 rw[List.getD_eq_getElem?_getD,List.getD_eq_getElem?_getD]
 by_cases h:j < xs.length
 ·rw[List.getElem?_append_left h,if_neg (by omega)]
 ·rw[List.getElem?_append_right (by omega)]
  by_cases e:j=xs.length
  ·rw[if_pos e,e,Nat.sub_self];rfl
  ·rw[if_neg e,List.getElem?_eq_none (by simp;omega),List.getElem?_eq_none (by omega)]
theorem plan_is {pr:List Int} {m:Nat} {st:PSt} (h:StOk pr m 0 st) (hM:(boOf st.ns st.ss pr).Min (xOf st.hs) st.left) (hp:∀x∈pr,0≤x∧x≤100000) (hp8:pr.length≤8):∀i,i≤pr.length→
 StOk pr m (m*i) (planP pr m i st).2∧(boOf (planP pr m i st).2.ns (planP pr m i st).2.ss pr).Min (xOf (planP pr m i st).2.hs) (planP pr m i st).2.left∧PlanI pr m i st (planP pr m i st).1 (planP pr m i st).2
 | 0,_=>⟨h,hM,⟨rfl,fun j hj=>by omega,fun k _=>(Int.sub_zero _).symm,fun _ _=>rfl,fun j b _=>by simp[planP],by simp[planP,sumTo],fun j hj=>by omega⟩⟩
 | i + 1, hi => by
   obtain⟨a1,a2,a3⟩:=plan_is h hM hp hp8 i (by omega)
   obtain⟨b1,b2,b3⟩:=row_is a1 a2 hp (show i < pr.length by omega) hp8 m (Nat.le_refl _)
   show StOk pr m (m*(i+1)) (rowP pr i m (planP pr m i st).2).2∧(boOf (rowP pr i m (planP pr m i st).2).2.ns (rowP pr i m (planP pr m i st).2).2.ss pr).Min (xOf (rowP pr i m (planP pr m i st).2).2.hs) (rowP pr i m (planP pr m i st).2).2.left∧PlanI pr m (i+1) st ((planP pr m i st).1 ++ [(rowP pr i m (planP pr m i st).2).1]) (rowP pr i m (planP pr m i st).2).2
   obtain⟨S,hS⟩:∃S,S=(planP pr m i st).2:=⟨_,rfl⟩
   obtain⟨p,hpp⟩:∃p,p=(planP pr m i st).1:=⟨_,rfl⟩
   rw[←hS] at a1 a2 a3 b1 b2 b3 ⊢
   rw[←hpp] at a3 ⊢
   obtain⟨R,hR⟩:∃R,R=(rowP pr i m S).1:=⟨_,rfl⟩
   obtain⟨T,hT⟩:∃T,T=(rowP pr i m S).2:=⟨_,rfl⟩
   rw[←hT] at b1 b2 b3 ⊢
   rw[←hR] at b3 ⊢
   have g1:∀j,j < i→(p ++ [R]).getD j []=p.getD j []:=fun j hj=>by rw[getD_snocL,if_neg (by rw[a3.len];omega)]
   have g2:(p ++ [R]).getD i []=R:=by rw[getD_snocL,if_pos a3.len.symm]
   have g3:∀j k,j < i→cellAt (p ++ [R]) j k=cellAt p j k:=fun j k hj=>by unfold cellAt;rw[g1 j hj]
   have g4:∀k,cellAt (p ++ [R]) i k=R.getD k 0:=fun k=>by unfold cellAt;rw[g2]
   have g5:∀j k,j < i→usedTo (p ++ [R]) j k=usedTo p j k:=fun j k hj=>sumTo_congr fun q _=>g3 j q hj
   have g6:∀k,usedTo (p ++ [R]) i k=sumTo (fun j=>R.getD j 0) k:=fun k=>sumTo_congr fun q _=>g4 q
   refine⟨by rw[Nat.mul_succ];exact b1,b2,⟨by rw[List.length_append,a3.len];rfl,fun j hj=>?_,fun k hk=>?_,fun j hj=>?_,fun j b hb=>?_,?_,fun j hj k hk=>?_⟩⟩
   ·by_cases e:j=i
    ·rw[e,g2];exact b3.len
    ·rw[g1 j (by omega)];exact a3.row j (by omega)
   ·show _=_-(sumTo (fun j=>cellAt (p ++ [R]) j k) i+cellAt (p ++ [R]) i k)
    rw[b3.ns,a3.ns k hk,if_pos hk,g4,sumTo_congr (fun j hj=>g3 j k hj)];omega
   ·rw[b3.ho j (by omega),a3.hs j (by omega)]
   ·rw[b3.ss,a3.ss j b hb]
    by_cases e:j=i
    ·have e1:¬j < i:=by omega
     have e2:j < i+1:=by omega
     simp[e,hb]
    ·by_cases e1:j < i
     ·have e2:j < i+1:=by omega
      simp[e,e1,e2]
     ·have e2:¬j < i+1:=by omega
      simp[e,e1,e2]
   ·show _=_-(sumTo (fun j=>usedTo (p ++ [R]) j m*pr.getD j 0) i+usedTo (p ++ [R]) i m*pr.getD i 0)
    rw[b3.left,a3.left,g6,sumTo_congr (f:=fun j=>usedTo (p ++ [R]) j m*pr.getD j 0) (g:=fun j=>usedTo p j m*pr.getD j 0) (fun j hj=>by simp only[g5 j m hj])];omega
   ·by_cases e:j=i
    ·subst e
     rw[g4,g6]
     have h1:=b3.ok k hk
     rw[a3.hs j (Nat.le_refl _)] at h1
     refine⟨h1.1,h1.2.1,fun h0=>?_⟩
     have:=h1.2.2 h0
     rw[a3.ss j k hk,Bool.and_eq_true] at this
     exact this.1
    ·rw[g3 j k (by omega),g5 j k (by omega)]
     exact a3.ok j (by omega) k hk
theorem boOf_zero {ns:List Int} {ss:List Nat} {pr:List Int} {hs:List Int} {left:Int} (hn:∀x∈ns,0≤x∧x≤23040) (hp:∀x∈pr,0≤x∧x≤100000) (hh:∀j,j < pr.length→0≤hs.getD j 0) (hs0:∀j b,j < pr.length→b < ns.length→(ss.getD j 0).testBit b=false) (hM:(boOf ns ss pr).Min (xOf hs) left):(∀k,k < ns.length→ns.getD k 0=0)∧left=0:=by
 obtain⟨y,yf,y0,yle,yc⟩:=hM.is
 have hth:∀S,S < 2 ^ ns.length→(boOf ns ss pr).there y S=0:=fun S hS=>sumTo_zero fun j hj=>by
  rw[if_neg]
  intro ho
  obtain⟨b,h1,h2⟩:=(Bo.on_iff _).1 ho
  have hb:b < ns.length:=by
   apply Classical.byContradiction
   intro hb
   have:S.testBit b=false:=Nat.testBit_lt_two_pow (Nat.lt_of_lt_of_le hS (Nat.pow_le_pow_right (by omega) (by omega)))
   rw[this] at h2;cases h2
  have:=hs0 j b hj hb
  rw[show(ss.getD j 0).testBit b=true from h1] at this;cases this
 have hz:∀k,k < ns.length→ns.getD k 0=0:=fun k hk=>by
  have h1:=yf (2 ^ k) (Nat.pow_lt_pow_right (by omega) hk)
  rw[hth _ (Nat.pow_lt_pow_right (by omega) hk),need_is] at h1
  have h2:needS ns (2 ^ k)=ns.getD k 0:=by
   unfold needS
   rw[sumTo_one _ k hk,sumTo_zero]
   ·unfold needF1;rw[Nat.testBit_two_pow_self,if_pos rfl];omega
   ·intro j _
    by_cases e:j=k
    ·rw[if_pos e]
    ·rw[if_neg e];unfold needF1;rw[Nat.testBit_two_pow,decide_eq_false (fun h=>e h.symm)];rfl
  have h3:=getD_mem (p:=fun x:Int=>0≤x∧x≤23040) (d:=0) hn (by decide) k
  omega
 refine⟨hz,?_⟩
 have hn0:∀S,(boOf ns ss pr).need S=0:=fun S=>by
  rw[need_is]
  exact sumTo_zero fun k hk=>by unfold needF1;rw[hz k hk];split <;> rfl
 have l1:=hM.le (fun _=>0) (fun S _=>by rw[hn0];exact sumTo_nonneg fun j _=>by split <;> exact Int.le_refl _) (fun _ _=>Int.le_refl _) (fun j hj=>hh j hj)
 have l2:(boOf ns ss pr).cost (fun _=>0)=0:=sumTo_zero fun j _=>Int.zero_mul _
 have l3:0≤(boOf ns ss pr).cost y:=sumTo_nonneg fun j hj=>Int.mul_nonneg (y0 j hj) (getD_mem (p:=fun x:Int=>0≤x∧x≤100000) (d:=0) hp (by decide) j).1
 omega
structure Planned (ns:List Int) (rs:List Rr) (p:List (List Int)):Prop where
 len:p.length=rs.length
 row:∀i,i < rs.length→(p.getD i []).length=ns.length
 ok:∀i,i < rs.length→∀k,k < ns.length→0≤cellAt p i k∧cellAt p i k≤miAt rs i-usedTo p i k∧(0 < cellAt p i k→(bitsF (fsAt rs i)).testBit k=true)
 got:∀k,k < ns.length→sumTo (fun i=>cellAt p i k) rs.length=ns.getD k 0
def planCost (rs:List Rr) (p:List (List Int)) (m:Nat):Int:=sumTo (fun i=>usedTo p i m*prAt rs i) rs.length
theorem hsTo_get (rs:List Rr):∀{r i:Nat},i < r→r≤8→(hsTo rs r).getD i 0=miAt rs i
 | r + 1, i, h, h8 => by
   unfold hsTo
   rw[getD_set (by rw[hsTo_len];omega)]
   by_cases e:i=r
   ·rw[if_pos e,e]
   ·rw[if_neg e];exact hsTo_get rs (by omega) (by omega)
theorem ssTo_get (rs:List Rr):∀{r i:Nat},i < r→r≤8→(ssTo rs r).getD i 0=bitsF (fsAt rs i)
 | r + 1, i, h, h8 => by
   unfold ssTo
   rw[getD_setN (by rw[ssTo_len];omega)]
   by_cases e:i=r
   ·rw[if_pos e,e]
   ·rw[if_neg e];exact ssTo_get rs (by omega) (by omega)
theorem pr_get (rs:List Rr) (i:Nat):(rs.map Rr.pr).getD i 0=prAt rs i:=by
 unfold prAt
 rw[List.getD_eq_getElem?_getD,List.getElem?_map]
structure RentsOk (ns:List Int) (rs:List Rr):Prop where
 nl:ns.length≤8
 rl:rs.length≤8
 n:∀x∈ns,0≤x∧x≤23040
 rt:rentTo ns.length rs rs.length=true
 p:∀x∈rs.map Rr.pr,0≤x∧x≤100000
theorem RentsOk.of {ns:List Int} {rs:List Rr} (h:rentsOk ns rs=true):RentsOk ns rs:=by
 simp only[rentsOk,Bool.and_eq_true,decide_eq_true_eq,Bool.not_eq_true'] at h
 refine⟨h.1,h.2.1,fun x hx=>?_,h.2.2.2,fun x hx=>?_⟩
 ·have:=List.any_eq_false.1 h.2.2.1 x hx
  simp[outB] at this
  omega
 ·obtain⟨q,hq,rfl⟩:=List.mem_map.1 hx
  obtain⟨j,hj,hjq⟩:=List.getElem_of_mem hq
  have h1:=rentTo_le (j:=j+1) h.2.2.2 (by omega)
  rw[rentTo,Bool.and_eq_true,Bool.and_eq_true,Bool.and_eq_true] at h1
  have h2:=h1.2.2.1
  have e:prAt rs j=q.pr:=by unfold prAt;rw[List.getElem?_eq_getElem hj,hjq];rfl
  rw[e] at h2
  simp[inB] at h2
  omega
def st0F (ns:List Int) (rs:List Rr):PSt:=⟨ns,hsTo rs rs.length,ssTo rs rs.length,(costF ns (hsTo rs rs.length) (ssTo rs rs.length) (rs.map Rr.pr)).1⟩
theorem RentsOk.start {ns:List Int} {rs:List Rr} (h:RentsOk ns rs):StOk (rs.map Rr.pr) ns.length 0 (st0F ns rs):=
 StOk.start rfl h.nl h.n (hsTo_len _ _) (hsTo_ok h.rt) (ssTo_len _ _) (ssTo_ok h.nl h.rt) h.p (by rw[List.length_map];exact h.rl)
theorem RentsOk.fits {ns:List Int} {rs:List Rr} (h:RentsOk ns rs):Fits (hsTo rs rs.length) (rs.map Rr.pr):=
 ⟨fun j _=>(getD_mem (p:=fun x:Int=>0≤x∧x≤100000) (d:=0) h.p (by decide) j).1,fun j _=>(getD_mem (p:=fun x:Int=>0≤x∧x≤23040) (d:=0) (hsTo_ok h.rt) (by decide) j).1,by rw[hsTo_len,List.length_map];exact h.rl⟩
def boR (ns:List Int) (rs:List Rr):Bo:=boOf ns (ssTo rs rs.length) (rs.map Rr.pr)
def capsR (rs:List Rr):Nat→Int:=xOf (hsTo rs rs.length)
theorem RentsOk.cost {ns:List Int} {rs:List Rr} (h:RentsOk ns rs):CostIs ns (hsTo rs rs.length) (ssTo rs rs.length) (rs.map Rr.pr) (st0F ns rs).left (costF ns (hsTo rs rs.length) (ssTo rs rs.length) (rs.map Rr.pr)).2:=h.fits.cost
theorem plan_planned {ns:List Int} {rs:List Rr} (h:RentsOk ns rs) (hf:(boR ns rs).Feas (capsR rs)):∃p c,planF ns rs=(p,c,0)∧Planned ns rs p∧c=planCost rs p ns.length∧(boR ns rs).Min (capsR rs) c:=by
 obtain⟨hc1,hc2⟩:=h.cost.yes hf
 have hok:rentsOk ns rs=true:=by
  have h1:anyOut 0 23040 ns=false:=by
   unfold anyOut
   rw[List.any_eq_false]
   intro x hx
   have:=h.n x hx
   simp[outB];omega
  simp[rentsOk,h.nl,h.rl,h1,h.rt]
 refine⟨(planP (rs.map Rr.pr) ns.length rs.length (st0F ns rs)).1,(st0F ns rs).left,?_,?_⟩
 ·unfold planF
  rw[if_pos hok,if_pos hc1]
  rfl
 obtain⟨a1,a2,a3⟩:=plan_is h.start hc2 h.p (by rw[List.length_map];exact h.rl) rs.length (by rw[List.length_map];exact Nat.le_refl _)
 have hz:=boOf_zero a1.n h.p (fun j _=>(getD_mem (p:=fun x:Int=>0≤x∧x≤23040) (d:=0) a1.h (by decide) j).1) (fun j b hj hb=>by
  rw[a3.ss j b (by rw[a1.nl] at hb;exact hb),decide_eq_true (by rw[List.length_map] at hj;exact hj)];simp) a2
 have hl:∀k,k < ns.length→ns.getD k 0-sumTo (fun j=>cellAt (planP (rs.map Rr.pr) ns.length rs.length (st0F ns rs)).1 j k) rs.length=0:=fun k hk=>by
  have h1:=a3.ns k hk
  rw[hz.1 k (by rw[a1.nl];exact hk)] at h1
  exact h1.symm
 refine⟨⟨a3.len,a3.row,fun i hi k hk=>?_,fun k hk=>by have:=hl k hk;omega⟩,?_,hc2⟩
 ·have:=a3.ok i hi k hk
  rw[show(st0F ns rs).hs.getD i 0=miAt rs i from hsTo_get rs hi h.rl,show(st0F ns rs).ss.getD i 0=bitsF (fsAt rs i) from ssTo_get rs hi h.rl] at this
  exact this
 ·have h1:=a3.left
  rw[hz.2] at h1
  have h2:sumTo (fun j=>usedTo (planP (rs.map Rr.pr) ns.length rs.length (st0F ns rs)).1 j ns.length*(rs.map Rr.pr).getD j 0) rs.length=planCost rs (planP (rs.map Rr.pr) ns.length rs.length (st0F ns rs)).1 ns.length:=sumTo_congr fun j _=>by rw[pr_get]
  rw[←h2];omega
theorem plan_none {ns:List Int} {rs:List Rr} (h:RentsOk ns rs) (hf:¬(boR ns rs).Feas (capsR rs)):planF ns rs=([],0,63):=by
 obtain⟨hc1,hc2⟩:=h.cost.no hf
 unfold planF
 rw[hc2]
 simp
 have h1:anyOut 0 23040 ns=false:=by
  unfold anyOut
  rw[List.any_eq_false]
  intro x hx
  have:=h.n x hx
  simp[outB];omega
 simp[rentsOk,h.nl,h.rl,h1,h.rt]
end Go.Proofs.YtiioegopckoldaaGreatDoor
