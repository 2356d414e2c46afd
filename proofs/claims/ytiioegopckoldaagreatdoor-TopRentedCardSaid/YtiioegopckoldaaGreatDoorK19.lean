/- lemmas for topRented_holds: PBA S1. No conditions. -/
import Derived.Test.YtiioegopckoldaaGreatDoorK18
import Derived.Test.YtiioegopckoldaaGreatDoorK17
import Derived.Test.YtiioegopckoldaaGreatDoorK01
set_option linter.unusedVariables false
set_option linter.unusedSimpArgs false
namespace Go.Proofs.YtiioegopckoldaaGreatDoor
open Go.RowKit Go.Shelf
theorem enters_plan1:∀args w,(callFunc 50 args).run Tryz.prog w= .ok (.enter 50 args) w:=enters_of Tryz.func50 (by kernel_rfl) rfl
theorem BAt.fits {w:World} {B:Brs} {ns pr:List Int} (h:BAt w B ns pr):Fits B.hs pr:=
 ⟨fun i _=>(getD_mem (p:=fun x:Int=>0≤x∧x≤100000) (d:=0) h.ok.p (by decide) i).1,fun i _=>(getD_mem (p:=fun x:Int=>0≤x∧x≤200000) (d:=0) h.ok.h (by decide) i).1,by rw[h.hl];exact h.ok.pl⟩
set_option maxHeartbeats 4000000 in
set_option maxRecDepth 100000 in
theorem plan1_any (B:Brs) (ns pr:List Int) (i k b7 b10 b12 b9:Nat) (left n:Int) (w:World) (hB:BAt w B ns pr) (X7:At w b7 B.cells) (X10:At w b10 [.int .i64 (i:Nat)]) (X12:At w b12 [.int .i64 (k:Nat)]) (X9:At w b9 [.int .i64 left])
 (hi:i < B.r) (hk:k < B.m) (hn0:0≤n) (hn1:n+1≤ns.getD k 0) (hn2:n+1≤B.hs.getD i 0) :
 Calls Tryz.prog 50 #[.int .i64 n,.pointer (some ⟨b7,0,none⟩),.pointer (some ⟨b10,0,none⟩),.pointer (some ⟨b12,0,none⟩),.pointer (some ⟨b9,0,none⟩)] w fun e w'=>e= .returned (.bool (!(goodF ns B.hs B.ss pr i k left (n+1))))∧Below w.heap.size w w':=by
 have hn3:=(getD_mem (p:=fun x:Int=>0≤x∧x≤23040) (d:=0) hB.ok.n (by decide) k).2
 have hr8:=hB.m8.2
 have HB:=hide hB
 have x10:=X10.c1;have x12:=X12.c1;have x9:=X9.c1
 have A7:=hide X7;have A10:=hide X10;have A9:=hide X9
 obtain⟨G,hG⟩:∃G,G=goodF ns B.hs B.ss pr i k left (n+1):=⟨_,rfl⟩
 rw[←hG]
 have HG:=hide hG
 clear hG hB X7 X10 X12 X9
 go_enter Tryz.func50,Tryz.ntmps50
 go_wp2_with (refine wpList_load_mid rfl 139 _ rfl b7 0 rfl B.cells _ A7.out.range Tryz.underlying139 rfl HB.out.size ?_)
 refine(take_any B ns pr i k (n+1) w HB.out (by omega) hk (by omega) hn1 hn2).mono ?_
 rintro e w1 ⟨B',rfl,hB',e1,e2,e3,e4,_,hb1⟩
 have HB':=hide hB'
 clear hB'
 go_wp2_with fail
 refine(cost_any B' _ pr w1 HB'.out).mono ?_
 rintro e w2 ⟨c,b,rfl,hc,hb2⟩
 have hcb:=costIs_bd HB'.out.ok.h HB'.out.ok.p HB'.out.ok.pl hc
 obtain⟨hc1,hc2⟩:=hc.one (HB'.out.fits.cost)
 have hB2:=hb1.trans (hb2.mono hb1.size)
 rw[e1,e2] at hc1 hc2
 obtain⟨q,off,p0,hA,hql,hp,c0⟩:=HB.out.rp.int (i:=i) (by rw[←HB.out.er];exact hi)
 have hpd:pr.getD i 0=p0:=by rw[List.getD_eq_getElem?_getD,hp];rfl
 have hpb:=HB.out.ok.p p0 (List.mem_of_getElem? hp)
 obtain⟨m0,m1⟩:=mul_bd2 (x:=n+1) (p:=p0) (by omega) (by omega) hpb.1 hpb.2
 obtain⟨pq,hpq⟩:∃pq,pq=(n+1)*p0:=⟨_,rfl⟩
 rw[←hpq] at m0 m1
 have hGe:Hid (G=(b && c+pq == left)):=by rw[HG.out,hc1,hc2,hpq,←hpd];exact hide rfl
 have z17:=HB.out.c17 (A7.out.bel hB2)
 rw[hA] at z17
 have z10:=(A10.out.bel hB2).c1
 have z9:=(A9.out.bel hB2).c1
 have zp:=(hB2.cell (p:=⟨q,off+i,none⟩) hql).trans c0
 obtain⟨r,hr⟩:∃r,r=B.r:=⟨_,rfl⟩
 rw[←hr] at z17 hi
 have ii:(i:Int) < (r:Int):=by omega
 have hw1:IntKind.i64.wrap (n+1)=n+1:=wrapI (by omega)
 have hw2:IntKind.i64.wrap ((n+1)*p0)=pq:=by rw[←hpq];exact wrapI (by omega)
 have hw3:wrap64 ((n+1)*p0)=pq:=by rw[←hpq];unfold wrap64;omega
 have hw4:IntKind.i64.wrap (c+pq)=c+pq:=wrapI (by omega)
 have HB2:=hide hB2
 clear hc hc1 hc2 hpd hpq hpb hr x10 x12 x9 c0 hA hql hp e1 e2 e3 e4
 cases b
 ·go_wp2_with fail
  go_quiet (fail)
  go_wp2_with fail
  go_ret
  exact⟨ret_bool (by rw[hGe.out];rfl),below_drewN HB2.out _⟩
 ·cases ht:(c+pq == left)
  all_goals
   rw[ht] at hGe
   have ht2:(c+pq != left)= !(c+pq == left):=rfl
   rw[ht] at ht2
   go_wp2_with fail
   go_quiet (fail)
   go_wp2_with fail
   go_ret
   exact⟨ret_bool (by rw[hGe.out];rfl),below_drewN HB2.out _⟩
end Go.Proofs.YtiioegopckoldaaGreatDoor
namespace Go.Proofs.YtiioegopckoldaaGreatDoor
open Go.RowKit Go.Shelf
structure Rr where
 mi:Int
 pr:Int
 A:Option Addr
 n:Nat
 c:Nat
 fs:List Int
def Rr.cells (r:Rr):List Value:=[.int .i64 r.mi,.int .i64 r.pr,.slice r.A r.n r.c]
theorem Rr.len (r:Rr):r.cells.length=3:=rfl
theorem Rr.one (r:Rr):∀u∈r.cells,u.oneCell'=true:=by simp[Rr.cells,Value.oneCell']
structure RsAt (w:World) (A:Option Addr) (n:Nat) (rs:List Rr):Prop where
 rd:Rd w w.heap.size Rr.cells A rs
 en:n=rs.length
 row:∀r∈rs,r.n=r.fs.length∧r.n≤1000∧Rd w w.heap.size icell r.A r.fs
theorem RsAt.bel {w w':World} {A:Option Addr} {n:Nat} {rs:List Rr} (h:RsAt w A n rs) (hb:Below w.heap.size w w'):RsAt w' A n rs:=⟨h.rd.bel hb,h.en,fun r hr=>⟨(h.row r hr).1,(h.row r hr).2.1,(h.row r hr).2.2.bel hb⟩⟩
theorem Rd.rr {w:World} {B:Nat} {A:Option Addr} {xs:List Rr} (h:Rd w B Rr.cells A xs) {i:Nat} (hi:i < xs.length) :
 ∃b off r,A=some ⟨b,off,none⟩∧b < B∧xs[i]?=some r∧w.cell? ⟨b,off+i*3,none⟩=some (.int .i64 r.mi)∧w.cell? ⟨b,off+i*3+1,none⟩=some (.int .i64 r.pr)∧w.cell? ⟨b,off+i*3+2,none⟩=some (.slice r.A r.n r.c):=by
 obtain⟨b,off,e,hB,hc⟩:=h (by omega)
 have hx:xs[i]?=some xs[i]:=List.getElem?_eq_getElem hi
 exact⟨b,off,_,e,hB,hx,hc _ _ (flat_get Rr.len hx (j:=0) (by omega)),hc _ _ (flat_get Rr.len hx (j:=1) (by omega)),hc _ _ (flat_get Rr.len hx (j:=2) (by omega))⟩
def fAt (fs:List Int) (k:Nat):Int:=fs.getD k 0
def fldTo (m:Nat) (fs:List Int):Nat→Bool
 | 0=>true
 | k+1=>fldTo m fs k && (inB 0 ((m:Int)-1) (fAt fs k) && (decide (k=0) || decide (fAt fs (k-1) < fAt fs k)))
def fldOk (m:Nat) (fs:List Int):Bool:=fldTo m fs fs.length
def miAt (rs:List Rr) (k:Nat):Int:=((rs[k]?).map Rr.mi).getD 0
def prAt (rs:List Rr) (k:Nat):Int:=((rs[k]?).map Rr.pr).getD 0
def fsAt (rs:List Rr) (k:Nat):List Int:=((rs[k]?).map Rr.fs).getD []
def leftTo (rs:List Rr):Nat→Int
 | 0=>23040
 | k+1=>leftTo rs k-miAt rs k
def rentTo (m:Nat) (rs:List Rr):Nat→Bool
 | 0=>true
 | k+1=>rentTo m rs k && (inB 0 (leftTo rs k) (miAt rs k) && (inB 0 100000 (prAt rs k) && fldOk m (fsAt rs k)))
def rentsOk (ns:List Int) (rs:List Rr):Bool:=decide (ns.length≤8) && (decide (rs.length≤8) && (!(anyOut 0 23040 ns) && rentTo ns.length rs rs.length))
def bitsTo (fs:List Int):Nat→Nat
 | 0=>0
 | k+1=>bitsTo fs k ||| 2 ^ (fAt fs k).toNat
def bitsF (fs:List Int):Nat:=bitsTo fs fs.length
def hsTo (rs:List Rr):Nat→List Int
 | 0=>List.replicate 8 0
 | k+1=>(hsTo rs k).set k (miAt rs k)
def ssTo (rs:List Rr):Nat→List Nat
 | 0=>List.replicate 8 0
 | k+1=>(ssTo rs k).set k (bitsF (fsAt rs k))
theorem hsTo_len (rs:List Rr):∀k,(hsTo rs k).length=8
 | 0=>by simp[hsTo]
 | k+1=>by simp only[hsTo,List.length_set];exact hsTo_len rs k
theorem ssTo_len (rs:List Rr):∀k,(ssTo rs k).length=8
 | 0=>by simp[ssTo]
 | k+1=>by simp only[ssTo,List.length_set];exact ssTo_len rs k
theorem ssTo_out (rs:List Rr):∀k j,k≤j→(ssTo rs k).getD j 0=0
 | 0, j, _ => by
   simp only[ssTo,List.getD_eq_getElem?_getD,List.getElem?_replicate]
   split <;> rfl
 | k + 1, j, h => by
   simp only[ssTo,List.getD_eq_getElem?_getD]
   rw[List.getElem?_set_ne (by omega),←List.getD_eq_getElem?_getD]
   exact ssTo_out rs k j (by omega)
theorem fldTo_le {m:Nat} {fs:List Int}:∀{k j},fldTo m fs k=true→j≤k→fldTo m fs j=true
 | 0, j, h, hj => by obtain rfl : j = 0 := by omega
                     exact h
 | k + 1, j, h, hj => by
   by_cases he:j=k+1
   ·rw[he];exact h
   ·rw[fldTo,Bool.and_eq_true] at h
    exact fldTo_le h.1 (by omega)
theorem rentTo_le {m:Nat} {rs:List Rr}:∀{k j},rentTo m rs k=true→j≤k→rentTo m rs j=true
 | 0, j, h, hj => by obtain rfl : j = 0 := by omega
                     exact h
 | k + 1, j, h, hj => by
   by_cases he:j=k+1
   ·rw[he];exact h
   ·rw[rentTo,Bool.and_eq_true] at h
    exact rentTo_le h.1 (by omega)
theorem leftTo_bd {m:Nat} {rs:List Rr}:∀{k},rentTo m rs k=true→0≤leftTo rs k∧leftTo rs k≤23040
 | 0,_=>by simp[leftTo]
 | k + 1, h => by
   rw[rentTo,Bool.and_eq_true] at h
   have h1:=leftTo_bd h.1
   rw[Bool.and_eq_true] at h
   have h2:=h.2.1
   simp[inB] at h2
   simp only[leftTo]
   omega
theorem bitsTo_lt {m:Nat} {fs:List Int} (hm:m≤8):∀{k},fldTo m fs k=true→bitsTo fs k < 256
 | 0,_=>by simp[bitsTo]
 | k + 1, h => by
   rw[fldTo,Bool.and_eq_true] at h
   have h1:=bitsTo_lt hm h.1
   rw[Bool.and_eq_true] at h
   have h2:=h.2.1
   simp[inB] at h2
   simp only[bitsTo]
   exact Nat.or_lt_two_pow (n:=8) h1 (by
    have:(fAt fs k).toNat < 8:=by omega
    exact Nat.pow_lt_pow_right (by omega) this)
theorem hsTo_ok {m:Nat} {rs:List Rr}:∀{k},rentTo m rs k=true→∀x∈hsTo rs k,0≤x∧x≤23040
 | 0,_,x,hx=>by simp[hsTo] at hx;omega
 | k + 1, h, x, hx => by
   rw[rentTo,Bool.and_eq_true] at h
   have h1:=leftTo_bd h.1
   have h2:=h.2
   rw[Bool.and_eq_true] at h2
   have h3:=h2.1
   simp[inB] at h3
   exact set_all (p:=fun x:Int=>0≤x∧x≤23040) (hsTo_ok h.1) ⟨by omega,by omega⟩ k x hx
theorem ssTo_ok {m:Nat} {rs:List Rr} (hm:m≤8):∀{k},rentTo m rs k=true→∀x∈ssTo rs k,x < 256
 | 0,_,x,hx=>by simp[ssTo] at hx;omega
 | k + 1, h, x, hx => by
   rw[rentTo,Bool.and_eq_true] at h
   have h2:=h.2
   rw[Bool.and_eq_true,Bool.and_eq_true] at h2
   rcases List.mem_or_eq_of_mem_set (hx:x∈(ssTo rs k).set k _) with h3 | rfl
   ·exact ssTo_ok hm h.1 x h3
   ·exact bitsTo_lt hm h2.2.2
theorem i64_or_nat (a b:Nat) (ha:a < 256) (hb:b < 256):bits .or .i64 (a:Int) (b:Int)=((a ||| b:Nat):Int):=by
 have hx:a ||| b < 2 ^ 8:=Nat.or_lt_two_pow ha hb
 show IntKind.i64.wrap ((BitVec.ofInt 64 (a:Int) ||| BitVec.ofInt 64 (b:Int)).toNat:Int)=_
 rw[BitVec.toNat_or,ofInt_i64 a (by omega),ofInt_i64 b (by omega),IntKind.wrap_i64]
 omega
end Go.Proofs.YtiioegopckoldaaGreatDoor
namespace Go.Proofs.YtiioegopckoldaaGreatDoor
open Go.RowKit Go.Shelf
set_option maxHeartbeats 400000 in
theorem salt_from1 (x lo hi:Int) (p q:Nat) (w:World) (hp:w.cell? ⟨p,0,none⟩=some (.int .i64 lo)) (hq:w.cell? ⟨q,0,none⟩=some (.int .i64 hi)) :
 Calls Tryz.prog 165 #[.int .i64 x,.pointer (some ⟨p,0,none⟩),.pointer (some ⟨q,0,none⟩)] w fun e w'=>e= .returned (.bool (outB lo hi x))∧Below w.heap.size w w':=by
 by_cases h:x < lo
 all_goals
  go_enter Tryz.func165,Tryz.ntmps165
  go_wp2
  go_ret
  exact⟨by first | (simp[outB,h];done) | (simp[outB,h];omega),Below.refl _ _⟩
theorem enters_salt_from1:∀args w,(callFunc 165 args).run Tryz.prog w= .ok (.enter 165 args) w:=enters_of Tryz.func165 (by kernel_rfl) rfl
set_option maxHeartbeats 400000 in
theorem salt_from (lo hi:Int) (A:Option Addr) (xs:List Int) (n c:Nat) (w:World) (hn:n=xs.length) (hm:n≤9223372036854775807) (hx:Rd w w.heap.size icell A xs) :
 Calls Tryz.prog 104 #[.int .i64 lo,.int .i64 hi,.slice A n c] w fun e w'=>e= .returned (.bool (!(anyOut lo hi xs)))∧Below w.heap.size w w':=by
 have hb1:Below w.heap.size w (w.alloc (.cells #[.int .i64 lo] 3)):=below_new _ _
 have hc1:(w.alloc (.cells #[.int .i64 lo] 3)).cell? ⟨w.heap.size,0,none⟩=some (.int .i64 lo):=cell_new _ _ _ _ _ rfl
 obtain⟨w1,Hw1⟩:∃w1,Hid (w.alloc (.cells #[.int .i64 lo] 3)=w1):=⟨_,hide rfl⟩
 rw[Hw1.out] at hb1 hc1
 have hs1:w1.heap.size=w.heap.size+1:=by rw[←Hw1.out];simp
 have hb2:Below w1.heap.size w1 (w1.alloc (.cells #[.int .i64 hi] 3)):=below_new _ _
 have hc2:(w1.alloc (.cells #[.int .i64 hi] 3)).cell? ⟨w1.heap.size,0,none⟩=some (.int .i64 hi):=cell_new _ _ _ _ _ rfl
 have hc1':=(hb2.cell (p:=⟨w.heap.size,0,none⟩) (by simp;omega)).trans hc1
 have hb3:=hb1.trans (hb2.mono hb1.size)
 have H:=hide (containsfunc_int 165 #[.pointer (some ⟨w.heap.size,0,none⟩),.pointer (some ⟨w1.heap.size,0,none⟩)] (outB lo hi) A xs n c (w1.alloc (.cells #[.int .i64 hi] 3)) hn hm enters_salt_from1
  ((hx.below hb3).more hb3.size)
  (fun x w' _ hb=>salt_from1 x lo hi w.heap.size w1.heap.size w' ((hb.cell (p:=⟨w.heap.size,0,none⟩) (by simp;omega)).trans hc1') ((hb.cell (p:=⟨w1.heap.size,0,none⟩) (by simp)).trans hc2)))
 rw[hs1] at H
 have Hb:=hide hb3
 clear hx hn hc1 hc2 hc1' hb1 hb2 hb3
 go_enter Tryz.func104,Tryz.ntmps104
 go_wp2_with fail
 rw[Hw1.out]
 refine H.out.mono ?_
 rintro e w' ⟨rfl,hb⟩
 go_wp2
 go_ret
 exact⟨rfl,Hb.out.trans (hb.mono Hb.out.size)⟩
theorem salt_one_in (lo hi x:Int):(!(anyOut lo hi [x]))=inB lo hi x:=by
 rw[Bool.eq_iff_iff];simp[anyOut,outB,inB]
theorem salt_from_one (lo hi x:Int) (w1:World) (p:Nat) (hp:p=w1.heap.size):Calls Tryz.prog 104 #[.int .i64 lo,.int .i64 hi,.slice (some ⟨p,0,none⟩) 1 1] (w1.alloc (.cells #[.int .i64 x] 3)) fun e w'=>e= .returned (.bool (inB lo hi x))∧Below w1.heap.size w1 w':=by
 subst hp
 refine(salt_from lo hi _ [x] 1 1 _ rfl (by omega) (by simpa using Rd.new (cells:=icell) w1 #[.int .i64 x] 3 [x] rfl)).mono ?_
 rintro e w' ⟨rfl,hb⟩
 exact⟨ret_bool (salt_one_in lo hi x),(below_new w1 _).trans (hb.mono (by simp))⟩
set_option maxHeartbeats 400000 in
theorem aflajref06_within (lo hi n:Int) (w:World) :
 Calls Tryz.prog 53 #[.int .i64 n,.int .i64 lo,.int .i64 hi] w fun e w'=>e= .returned (.bool (inB lo hi n))∧w=w':=by
 by_cases h:lo≤n
 all_goals
  go_enter Tryz.func53,Tryz.ntmps53
  go_wp2
  go_ret
  exact⟨by first | (simp[inB,h];done) | (simp[inB,h];omega),rfl⟩
structure So where
 salt:Sp
 limit:Int
 crop:Int
 mineral:Sp
 wash:Sp
 rise:Sp
 deriving DecidableEq
def So.cells (s:So):List Value:=[.int .i64 s.salt.lo,.int .i64 s.salt.hi,.int .i64 s.limit,.int .i64 s.crop,.int .i64 s.mineral.lo,.int .i64 s.mineral.hi,.int .i64 s.wash.lo,.int .i64 s.wash.hi,.int .i64 s.rise.lo,.int .i64 s.rise.hi]
end Go.Proofs.YtiioegopckoldaaGreatDoor
