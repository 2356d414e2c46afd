/- lemmas for topRented_holds: PB1. No conditions. -/
import Derived.Test.YtiioegopckoldaaGreatDoorK05
import Derived.Test.YtiioegopckoldaaGreatDoorK01
import Derived.Test.YtiioegopckoldaaGreatDoorK15
import Derived.Deep.QuietTactic
import Derived.BigQuiet
import Derived.Deep.MidRow
import Derived.Deep.RegionHeld3
import Derived.Deep.DrawnRows
import Derived.Handy
set_option linter.unusedVariables false
set_option linter.unusedSimpArgs false
namespace Go.Proofs.YtiioegopckoldaaGreatDoor
open Go.RowKit Go.Shelf
def cmpI (a b:Int):Int:=if a < b then -1 else if b < a then 1 else 0
theorem nan_any (a:Int) (w:World):Calls Tryz.prog 168 #[.int .i64 a] w fun e w'=>e= .returned (.bool false)∧w'=w:=by
 go_enter Tryz.func168,Tryz.ntmps168
 go_wp2
 go_ret
 exact⟨by simp,rfl⟩
theorem cmp_any (a b:Int) (w:World):Calls Tryz.prog 114 #[.int .i64 a,.int .i64 b] w fun e w'=>e= .returned (.int .i64 (cmpI a b))∧w'=w:=by
 have h1:=nan_any a w
 have h2:=nan_any b w
 unfold cmpI
 by_cases hab:a < b
 ·rw[if_pos hab]
  go_enter Tryz.func114,Tryz.ntmps114
  go_wp2_with fail
  refine h1.mono ?_
  rintro e w1 ⟨rfl,rfl⟩
  go_wp2_with fail
  refine h2.mono ?_
  rintro e w1 ⟨rfl,rfl⟩
  go_wp2_with fail
  go_ret
  exact⟨rfl,rfl⟩
 ·rw[if_neg hab]
  by_cases hba:b < a
  ·rw[if_pos hba]
   go_enter Tryz.func114,Tryz.ntmps114
   go_wp2_with fail
   refine h1.mono ?_
   rintro e w1 ⟨rfl,rfl⟩
   go_wp2_with fail
   refine h2.mono ?_
   rintro e w1 ⟨rfl,rfl⟩
   go_wp2_with fail
   go_ret
   exact⟨rfl,rfl⟩
  ·rw[if_neg hba]
   go_enter Tryz.func114,Tryz.ntmps114
   go_wp2_with fail
   refine h1.mono ?_
   rintro e w1 ⟨rfl,rfl⟩
   go_wp2_with fail
   refine h2.mono ?_
   rintro e w1 ⟨rfl,rfl⟩
   go_wp2_with fail
   go_ret
   exact⟨rfl,rfl⟩
structure BOk (ns hs:List Int) (ss:List Nat) (pr:List Int):Prop where
 nl:ns.length≤8
 n:∀x∈ns,0≤x∧x≤23040
 h:∀x∈hs,0≤x∧x≤200000
 s:∀x∈ss,x < 256
 pl:pr.length≤8
 p:∀x∈pr,0≤x∧x≤100000
theorem sumTo_bd {f:Nat→Int} {M:Int} {n:Nat} (h:∀k,k < n→0≤f k∧f k≤M):0≤sumTo f n∧sumTo f n≤n*M:=by
 induction n with
 | zero=>simp[sumTo]
 | succ n ih =>
   have h1:=ih fun k hk=>h k (by omega)
   have h2:=h n (by omega)
   show 0≤sumTo f n+f n∧sumTo f n+f n≤_
   have e:((n+1:Nat):Int)*M=n*M+M:=by rw[show((n+1:Nat):Int)=(n:Int)+1 from rfl,Int.add_mul,Int.one_mul]
   rw[e]
   omega
def needF1 (ns:List Int) (S k:Nat):Int:=if S.testBit k then ns.getD k 0 else 0
def needS (ns:List Int) (S:Nat):Int:=sumTo (needF1 ns S) ns.length
def onS (ss:List Nat) (S i:Nat):Bool:=ss.getD i 0 &&& S != 0
def thereF (hs:List Int) (ss:List Nat) (S:Nat) (b:Int) (i:Nat):Int:=if(i:Int)≠b∧onS ss S i=true then hs.getD i 0 else 0
def thereS (hs:List Int) (ss:List Nat) (r S:Nat) (b:Int):Int:=sumTo (thereF hs ss S b) r
theorem getD_mem {α:Type} {p:α→Prop} {xs:List α} {d:α} (h:∀x∈xs,p x) (hd:p d) (k:Nat):p (xs.getD k d):=by
 rw[List.getD_eq_getElem?_getD]
 cases e:xs[k]? with
 | none=>exact hd
 | some x=>exact h x (List.mem_of_getElem? e)
theorem needF1_bd {ns:List Int} (h:∀x∈ns,0≤x∧x≤23040) (S k:Nat):0≤needF1 ns S k∧needF1 ns S k≤23040:=by
 unfold needF1
 have:=getD_mem (p:=fun x:Int=>0≤x∧x≤23040) (d:=0) h (by decide) k
 split <;> omega
theorem thereF_bd {hs:List Int} (h:∀x∈hs,0≤x∧x≤200000) (ss:List Nat) (S:Nat) (b:Int) (k:Nat):0≤thereF hs ss S b k∧thereF hs ss S b k≤200000:=by
 unfold thereF
 have:=getD_mem (p:=fun x:Int=>0≤x∧x≤200000) (d:=0) h (by decide) k
 split <;> omega
theorem needS_bd {ns:List Int} (h:∀x∈ns,0≤x∧x≤23040) (hl:ns.length≤8) (S:Nat):0≤needS ns S∧needS ns S≤184320:=by
 have:=sumTo_bd (M:=23040) (n:=ns.length) (fun k _=>needF1_bd h S k)
 unfold needS;omega
theorem thereS_bd {hs:List Int} (h:∀x∈hs,0≤x∧x≤200000) (ss:List Nat) {r:Nat} (hr:r≤8) (S:Nat) (b:Int):0≤thereS hs ss r S b∧thereS hs ss r S b≤1600000:=by
 have:=sumTo_bd (M:=200000) (n:=r) (fun k _=>thereF_bd h ss S b k)
 unfold thereS;omega
structure Brs where
 An:Option Addr
 Ap:Option Addr
 m:Nat
 cn:Nat
 r:Nat
 cp:Nat
 hs:List Int
 ss:List Nat
def ivs (xs:List Int):List Value:=xs.map (Value.int .i64)
def nvs (xs:List Nat):List Value:=xs.map fun s:Nat=>Value.int .i64 (s:Int)
def Brs.cells (B:Brs):List Value:= .slice B.An B.m B.cn :: (ivs B.hs ++ (nvs B.ss ++ [.slice B.Ap B.r B.cp]))
structure BAt (w:World) (B:Brs) (ns pr:List Int):Prop where
 ok:BOk ns B.hs B.ss pr
 hl:B.hs.length=8
 sl:B.ss.length=8
 en:B.m=ns.length
 er:B.r=pr.length
 rn:Rd w w.heap.size icell B.An ns
 rp:Rd w w.heap.size icell B.Ap pr
theorem BAt.bel {w w':World} {B:Brs} {ns pr:List Int} (h:BAt w B ns pr) (hb:Below w.heap.size w w'):BAt w' B ns pr:=⟨h.ok,h.hl,h.sl,h.en,h.er,h.rn.bel hb,h.rp.bel hb⟩
theorem BAt.len {w:World} {B:Brs} {ns pr:List Int} (h:BAt w B ns pr):B.cells.length=18:=by
 simp[Brs.cells,ivs,nvs,h.hl,h.sl]
theorem BAt.m8 {w:World} {B:Brs} {ns pr:List Int} (h:BAt w B ns pr):B.m≤8∧B.r≤8:=⟨by rw[h.en];exact h.ok.nl,by rw[h.er];exact h.ok.pl⟩
theorem Brs.one (B:Brs):∀v∈B.cells,v.oneCell'=true:=by
 intro v hv
 simp only[Brs.cells,ivs,nvs,List.mem_cons,List.mem_append,List.mem_map,List.not_mem_nil,or_false] at hv
 rcases hv with rfl | ⟨x,_,rfl⟩ | ⟨x,_,rfl⟩ | rfl <;> rfl
section
variable {w:World} {p:Nat} {B:Brs} {ns pr:List Int}
theorem BAt.c0 (_h:BAt w B ns pr) {W:World} (ha:At W p B.cells):W.cell? ⟨p,0,none⟩=some (.slice B.An B.m B.cn):=ha.2 0 _ rfl
theorem BAt.ch (h:BAt w B ns pr) {W:World} (ha:At W p B.cells) {i:Nat} (hi:i < 8):W.cell? ⟨p,1+i,none⟩=some (.int .i64 (B.hs.getD i 0)):=ha.2 (1+i) _ (by
 rw[Nat.add_comm]
 show(ivs B.hs ++ _)[i]?=_
 rw[List.getElem?_append_left (by simp[ivs,h.hl];omega),ivs,List.getElem?_map,List.getD_eq_getElem?_getD,List.getElem?_eq_getElem (by rw[h.hl];exact hi)]
 rfl)
theorem BAt.cs (h:BAt w B ns pr) {W:World} (ha:At W p B.cells) {i:Nat} (hi:i < 8):W.cell? ⟨p,9+i,none⟩=some (.int .i64 ((B.ss.getD i 0:Nat):Int)):=ha.2 (9+i) _ (by
 rw[show 9+i=(8+i)+1 by omega]
 show(ivs B.hs ++ _)[8+i]?=_
 rw[List.getElem?_append_right (by simp[ivs,h.hl]),show 8+i-(ivs B.hs).length=i by simp[ivs,h.hl],List.getElem?_append_left (by simp[nvs,h.sl];omega),nvs,List.getElem?_map,List.getD_eq_getElem?_getD,List.getElem?_eq_getElem (by rw[h.sl];exact hi)]
 rfl)
theorem BAt.c17 (h:BAt w B ns pr) {W:World} (ha:At W p B.cells):W.cell? ⟨p,17,none⟩=some (.slice B.Ap B.r B.cp):=ha.2 17 _ (by
 show(ivs B.hs ++ _)[16]?=_
 rw[List.getElem?_append_right (by simp[ivs,h.hl]),show 16-(ivs B.hs).length=8 by simp[ivs,h.hl],List.getElem?_append_right (by simp[nvs,h.sl]),show 8-(nvs B.ss).length=0 by simp[nvs,h.sl]]
 rfl)
theorem At.range {w:World} {p:Nat} {cs:List Value} (h:At w p cs):w.rangeAt p 0 cs:=fun j v hv=>by rw[Nat.zero_add];exact h.2 j v hv
theorem BAt.size (h:BAt w B ns pr):(Tryz.prog.info? 139).map (·.size)=some B.cells.length:=by rw[h.len];kernel_rfl
end
theorem take_load {op:Oper} {ρ:Operand→Value} {x:Operand} {p:Nat} {w W:World} {B:Brs} {ns pr:List Int} (h:BAt w B ns pr) (ha:At W p B.cells) (ho:op.op= .load 139 x) (hx:ρ x= .pointer (some ⟨p,0,none⟩)):(execOp ρ op).run Tryz.prog W= .ok (.value (.agg B.cells.toArray)) W:=by
 unfold execOp
 simp only[ho,hx,Instr.loadAt,Instr.sureAddr,Sem.run_bind,Sem.run_pure,Result.andThen_ok,run_loadVar_mid W p 0 _ _ _ ha.range Tryz.underlying139 rfl h.size]
theorem shr_test (S k:Nat) (hs:S < 65536):(bits BinOp.and IntKind.i64 ((S:Int) / 2 ^ k) 1 == 1)=S.testBit k:=bit_test S k hs
set_option maxHeartbeats 4000000 in
set_option maxRecDepth 100000 in
theorem needed_any (B:Brs) (ns pr:List Int) (S:Nat) (w:World) (hB:BAt w B ns pr) (hS:S < 256) :
 Calls Tryz.prog 166 #[.agg B.cells.toArray,.int .i64 (S:Nat)] w fun e w'=>e= .returned (.int .i64 (needS ns S))∧Below w.heap.size w w':=by
 obtain⟨b2,w1,e2,ew1,hx2,hb1,hz1⟩:=mk_bx w B.cells.toArray 139
 rw[List.toList_toArray] at hx2
 have H:=hide (hB.bel hb1)
 have hm8:=hB.m8.1
 have y0:=hB.c0 hx2.at_
 obtain⟨m,hm⟩:∃m,m=B.m:=⟨_,rfl⟩
 have Hn:=hide (show m=ns.length by rw[hm];exact hB.en)
 rw[←hm] at hm8 y0
 clear hB hm
 go_enter Tryz.func166,Tryz.ntmps166
 rw[←e2.out,←ew1.out] at y0
 go_wp2_with fail
 rw[ew1.out]
 clear y0
 go_loopw [4,10] (fun v i wr=>∃k:Nat,k≤m∧v= .int .i64 (sumTo (needF1 ns S) k)∧i= .int .i64 k∧Below w1.heap.size w1 wr) (fun _ i _=>m-(intOf i).toNat)
 case atStart=>exact⟨0,by omega,rfl,rfl,Below.refl _ _⟩
 case round=>
  obtain⟨k,hk,rfl,rfl,hb⟩:=hrel
  by_cases hlt:k < m
  ·obtain⟨bn,off,x,hA,hBB,hxk,c0⟩:=(H.out.rn.bel hb).int (i:=k) (by have:=Hn.out;omega)
   have hbd:=sumTo_bd (M:=23040) (n:=k) (fun j _=>needF1_bd H.out.ok.n S j)
   have hx:=H.out.ok.n x (List.mem_of_getElem? hxk)
   have ht:=shr_test S k (by omega)
   have hgd:ns.getD k 0=x:=by rw[List.getD_eq_getElem?_getD,hxk];rfl
   have ik:(k:Int) < (m:Int):=by omega
   obtain⟨z,hz⟩:∃z,z=sumTo (needF1 ns S) k:=⟨_,rfl⟩
   have hs:sumTo (needF1 ns S) (k+1)=z+needF1 ns S k:=by rw[hz];rfl
   rw[←hz] at hbd ⊢
   have Hs:=hide hs
   clear hz hxk hs
   have hzb:0≤z∧z≤184320:=by omega
   clear hbd
   rw[hA]
   clear hA
   cases hts:S.testBit k
   all_goals
    rw[hts] at ht
    have Hts:=hide hts
    have Hgd:=hide hgd
    clear hts hgd
    go_wp2_with fail
    refine⟨⟨k+1,by omega,by rw[Hs.out];unfold needF1;rw[Hts.out];first | (rw[if_pos rfl,Hgd.out]) | (rw[if_neg (by decide),Int.add_zero]),by go_num,hb⟩,by simp[intOf];omega⟩
  ·obtain rfl:m=k:=by omega
   go_wp2_with fail
   go_ret
   exact⟨ret_int (by rw[needS,←Hn.out]),hb1.trans (hb.mono hb1.size)⟩
theorem and_test (a S:Nat) (ha:a < 256) (hS:S < 256):(bits BinOp.and IntKind.i64 (a:Int) (S:Int) != 0)=(a &&& S != 0):=by
 rw[i64_and_nat a S (by omega) (by omega),Bool.eq_iff_iff]
 simp only[bne_iff_ne,ne_eq]
 omega
set_option maxHeartbeats 4000000 in
set_option maxRecDepth 100000 in
theorem there_any (B:Brs) (ns pr:List Int) (S:Nat) (b:Int) (w:World) (hB:BAt w B ns pr) (hS:S < 256) :
 Calls Tryz.prog 167 #[.agg B.cells.toArray,.int .i64 (S:Nat),.int .i64 b] w fun e w'=>e= .returned (.int .i64 (thereS B.hs B.ss B.r S b))∧Below w.heap.size w w':=by
 obtain⟨b3,w1,e3,ew1,hx3,hb1,hz1⟩:=mk_bx w B.cells.toArray 139
 rw[List.toList_toArray] at hx3
 have H2:=hide hB.ok
 have X3:=hide hx3
 have hr8:=hB.m8.2
 have y17:=hB.c17 hx3.at_
 obtain⟨r,hr⟩:∃r,r=B.r:=⟨_,rfl⟩
 obtain⟨hs,hhs⟩:∃hs,hs=B.hs:=⟨_,rfl⟩
 obtain⟨ss,hss⟩:∃ss,ss=B.ss:=⟨_,rfl⟩
 have hcH:∀i,i < 8→∀wr,Below w1.heap.size w1 wr→wr.cell? ⟨b3,1+i,none⟩=some (.int .i64 (hs.getD i 0)):=fun i hi wr hb=>by rw[hhs];exact hB.ch (X3.out.bel hb).at_ hi
 have hcS:∀i,i < 8→∀wr,Below w1.heap.size w1 wr→wr.cell? ⟨b3,9+i,none⟩=some (.int .i64 ((ss.getD i 0:Nat):Int)):=fun i hi wr hb=>by rw[hss];exact hB.cs (X3.out.bel hb).at_ hi
 rw[←hhs,←hss] at H2 ⊢
 rw[←hr] at hr8 y17 ⊢
 have HcH:=hide hcH;have HcS:=hide hcS
 clear hcH hcS hhs hss X3 hx3 hB hr
 go_enter Tryz.func167,Tryz.ntmps167
 rw[←e3.out,←ew1.out] at y17
 go_wp2_with fail
 rw[ew1.out,e3.out]
 clear y17
 go_loopw [6,11] (fun v i wr=>∃k:Nat,k≤r∧v= .int .i64 (sumTo (thereF hs ss S b) k)∧i= .int .i64 k∧Below w1.heap.size w1 wr) (fun _ i _=>r-(intOf i).toNat)
 case atStart=>exact⟨0,by omega,rfl,rfl,Below.refl _ _⟩
 case round=>
  obtain⟨k,hk,rfl,rfl,hb⟩:=hrel
  by_cases hlt:k < r
  ·have c1:=HcH.out k (by omega) wr hb
   have c9:=HcS.out k (by omega) wr hb
   have hbd:=sumTo_bd (M:=200000) (n:=k) (fun j _=>thereF_bd H2.out.h ss S b j)
   have hx:=getD_mem (p:=fun x:Int=>0≤x∧x≤200000) (d:=0) H2.out.h (by decide) k
   have hs256:=getD_mem (p:=fun x:Nat=>x < 256) (d:=0) H2.out.s (by decide) k
   obtain⟨x,hgx⟩:∃x,x=hs.getD k 0:=⟨_,rfl⟩
   obtain⟨s,hgs⟩:∃s,s=ss.getD k 0:=⟨_,rfl⟩
   rw[←hgx] at c1 hx
   rw[←hgs] at c9 hs256
   have ht:=and_test s S hs256 hS
   have ik:(k:Int) < (r:Int):=by omega
   obtain⟨z,hz⟩:∃z,z=sumTo (thereF hs ss S b) k:=⟨_,rfl⟩
   have hsu:sumTo (thereF hs ss S b) (k+1)=z+(if(k:Int)≠b∧(s &&& S != 0)=true then x else 0):=by rw[hz,hgs,hgx];rfl
   rw[←hz] at hbd ⊢
   have Hs:=hide hsu
   clear hz hsu hgx hgs
   have hzb:0≤z∧z≤1600000:=by omega
   clear hbd
   by_cases hkb:(k:Int)=b
   ·have h1:((k:Int) == b)=true:=by simp[hkb]
    have h2:((k:Int) != b)=false:=by simp[hkb]
    have Hkb:=hide hkb
    clear hkb ht
    go_wp2_with fail
    refine⟨⟨k+1,by omega,by rw[Hs.out,if_neg (fun h=>h.1 Hkb.out),Int.add_zero],by go_num,hb⟩,by simp[intOf];omega⟩
   ·have h1:((k:Int) == b)=false:=by simp[hkb]
    have h2:((k:Int) != b)=true:=by simp[hkb]
    have Hkb:=hide hkb
    clear hkb
    cases hts:(s &&& S != 0)
    ·rw[hts] at ht
     have Hts:=hide hts
     clear hts
     go_wp2_with fail
     refine⟨⟨k+1,by omega,by rw[Hs.out,Hts.out,if_neg (fun h=>by cases h.2),Int.add_zero],by go_num,hb⟩,by simp[intOf];omega⟩
    ·rw[hts] at ht
     have Hts:=hide hts
     clear hts
     go_wp2_with fail
     refine⟨⟨k+1,by omega,by rw[Hs.out,Hts.out,if_pos ⟨Hkb.out,rfl⟩],by go_num,hb⟩,by simp[intOf];omega⟩
  ·obtain rfl:r=k:=by omega
   go_wp2_with fail
   go_ret
   exact⟨rfl,hb1.trans (hb.mono hb1.size)⟩
end Go.Proofs.YtiioegopckoldaaGreatDoor
namespace Go.Proofs.YtiioegopckoldaaGreatDoor
open Go.RowKit Go.Shelf
attribute [local go_sem] ite_max
def lackC (ss:List Nat) (b:Int) (S:Nat):Bool:=decide (b < 0) || onS ss S b.toNat
def lackTo (ns hs:List Int) (ss:List Nat) (r:Nat) (b:Int):Nat→Int
 | 0=>0
 | S+1=>if lackC ss b S then max (lackTo ns hs ss r b S) (needS ns S-thereS hs ss r S b) else lackTo ns hs ss r b S
def lackS (ns hs:List Int) (ss:List Nat) (r:Nat) (b:Int):Int:=lackTo ns hs ss r b (2 ^ ns.length)
theorem lackTo_bd {ns hs:List Int} (hn:∀x∈ns,0≤x∧x≤23040) (hl:ns.length≤8) (hh:∀x∈hs,0≤x∧x≤200000) (ss:List Nat) {r:Nat} (hr:r≤8) (b:Int):∀S,0≤lackTo ns hs ss r b S∧lackTo ns hs ss r b S≤184320
 | 0=>by simp[lackTo]
 | S + 1 => by
   have h1:=lackTo_bd hn hl hh ss hr b S
   have h2:=needS_bd hn hl S
   have h3:=thereS_bd hh ss hr S b
   unfold lackTo
   split <;> omega
theorem two_pow8 {m:Nat} (h:m≤8):1≤2 ^ m∧2 ^ m≤256:=⟨Nat.one_le_two_pow,by have:=Nat.pow_le_pow_right (n:=2) (by omega) h;omega⟩
set_option maxHeartbeats 4000000 in
set_option maxRecDepth 100000 in
theorem lack_any (B:Brs) (ns pr:List Int) (b:Int) (w:World) (hB:BAt w B ns pr) (hb0: -1≤b) (hb8:b < 8) :
 Calls Tryz.prog 112 #[.agg B.cells.toArray,.int .i64 b] w fun e w'=>e= .returned (.int .i64 (lackS ns B.hs B.ss B.r b))∧Below w.heap.size w w':=by
 obtain⟨b2,w1,e2,ew1,hx2,hb1,hz1⟩:=mk_bx w B.cells.toArray 139
 rw[List.toList_toArray] at hx2
 have HB1:=hide (hB.bel hb1)
 have X2:=hide hx2
 obtain⟨hm8,hr8⟩:=hB.m8
 have y0:=hB.c0 hx2.at_
 obtain⟨m,hm⟩:∃m,m=B.m:=⟨_,rfl⟩
 have Hn:=hide (show m=ns.length by rw[hm];exact hB.en)
 rw[←hm] at hm8 y0
 obtain⟨P,hP2⟩:∃P,P=2 ^ m:=⟨_,rfl⟩
 have hpw:=two_pow8 hm8
 rw[←hP2] at hpw
 have hp64:wrap64 (2 ^ m)=(P:Int):=by
  have e:((2:Int) ^ m)=(P:Int):=by rw[hP2];simp
  rw[e];unfold wrap64;omega
 have HP2:=hide hP2
 have Hr8:=hide hr8
 clear hP2 hB hm hr8 hx2
 go_enter Tryz.func112,Tryz.ntmps112
 rw[←e2.out,←ew1.out] at y0
 go_wp2_with fail
 rw[ew1.out,e2.out,hp64]
 clear hp64 y0
 go_loopw [5,11] (fun v i wr=>∃S:Nat,S≤P∧v= .int .i64 (lackTo ns B.hs B.ss B.r b S)∧i= .int .i64 S∧Below w1.heap.size w1 wr) (fun _ i _=>P-(intOf i).toNat)
 case atStart=>exact⟨0,by omega,rfl,rfl,Below.refl _ _⟩
 case round=>
  obtain⟨S,hSm,rfl,rfl,hb⟩:=hrel
  by_cases hlt:S < P
  ·have hS:S < 256:=by omega
   obtain⟨z,hz⟩:∃z,z=lackTo ns B.hs B.ss B.r b S:=⟨_,rfl⟩
   have hzb:=lackTo_bd HB1.out.ok.n HB1.out.ok.nl HB1.out.ok.h B.ss Hr8.out b S
   have hnb:=needS_bd HB1.out.ok.n HB1.out.ok.nl S
   have htb:=thereS_bd HB1.out.ok.h B.ss Hr8.out S b
   have hsu:lackTo ns B.hs B.ss B.r b (S+1)=if lackC B.ss b S then max z (needS ns S-thereS B.hs B.ss B.r S b) else z:=by rw[hz];rfl
   rw[←hz] at hzb ⊢
   have hww:IntKind.i64.wrap (needS ns S-thereS B.hs B.ss B.r S b)=needS ns S-thereS B.hs B.ss B.r S b:=wrapI (by omega)
   have Hs:=hide hsu;have Hww:=hide hww
   clear hz hsu hnb htb hww
   have ik:(S:Int) < (P:Int):=by omega
   have HB:=hide hb
   have XR:=hide (X2.out.bel hb);have HBr:=hide (HB1.out.bel hb)
   by_cases hneg:b < 0
   ·have Hneg:=hide (show lackC B.ss b S=true by unfold lackC;rw[decide_eq_true hneg];rfl)
    go_wp2_with fail
    have hww:=Hww.out
    refine wp_region_held_drew (S:=(fun W=>Below wr.heap.size wr W)) (by kernel_rfl) (by(try dsimp only);exact(Below.refl _ _).drew) (fun hHeld=>?_)
    generalize World.drew wr=Wd6 at hHeld ⊢
    have hbc:=Below.refl Wd6.heap.size Wd6
    iterate 4
     refine tkHl [0,2,5,6] ?_ rfl rfl (Or.inl ⟨by rfl,?_⟩) hHeld ?_
     rotate_left
     ·(intro w _;go_simp;try(with_reducible rfl))
     try simp only[Act.put,tl1,tl2,tl3]
    iterate 2
     refine tkHl [1,4] ?_ rfl rfl (Or.inl ⟨by rfl,?_⟩) hHeld ?_
     rotate_left
     ·(intro w hSw;(try dsimp only at hSw);refine take_load (x:= .tmp 2) HBr.out (XR.out.bel hSw).at_ ?_ ?_ <;> rfl)
     try simp only[Act.put,tl1,tl2,tl3]
    refine wpAnyH_ready (rs:=[3]) (by kernel_rfl) (by simp) ?_
    refine AllReadyH.cons (o:=⟨_,_,_,_,_,_⟩) rfl (fun K hK=>?_) AllReadyH.nil
    go_simp
    refine(needed_any B ns pr S _ (HBr.out.bel hHeld) hS).mono ?_
    rintro e V28 ⟨rfl,hb⟩
    go_wp2_with fail
    have hHeldN:=hHeld.trans (hb.mono hHeld.size)
    have hbc:=hbc.trans (hb.mono hbc.size)
    refine hK.out _ _ ?_ (fun hHeld2=>?_)
    ·exact hHeldN
    clear hK K hHeld hHeldN hb;have hHeld:=hHeld2;clear hHeld2
    try simp only[Act.put,tl1,tl2,tl3]
    refine wpAnyH_ready (rs:=[7]) (by kernel_rfl) (by simp) ?_
    refine AllReadyH.cons (o:=⟨_,_,_,_,_,_⟩) rfl (fun K hK=>?_) AllReadyH.nil
    go_simp
    refine(there_any B ns pr S b _ (HBr.out.bel hHeld) hS).mono ?_
    rintro e V32 ⟨rfl,hb⟩
    go_wp2_with fail
    have hHeldN:=hHeld.trans (hb.mono hHeld.size)
    have hbc:=hbc.trans (hb.mono hbc.size)
    refine hK.out _ _ ?_ (fun hHeld2=>?_)
    ·exact hHeldN
    clear hK K hHeld hHeldN hb;have hHeld:=hHeld2;clear hHeld2
    try simp only[Act.put,tl1,tl2,tl3]
    iterate 3
     refine tkHl [8,9,10] ?_ rfl rfl (Or.inl ⟨by rfl,?_⟩) hHeld ?_
     rotate_left
     ·(intro w _;go_simp;try(with_reducible rfl))
     try simp only[Act.put,tl1,tl2,tl3]
    refine wpAnyH_done (by kernel_rfl) ?_ _
    have HB2:=hide hHeld
    clear hww
    go_wp2_with fail
    exact⟨⟨S+1,by omega,by rw[Hs.out,Hneg.out,if_pos rfl],by go_num,HB.out.trans (HB2.out.mono HB.out.size)⟩,by simp[intOf];omega⟩
   ·obtain⟨j,rfl⟩:∃j:Nat,b=j:=⟨b.toNat,by omega⟩
    have c9:=HB1.out.cs (X2.out.bel hb).at_ (i:=j) (by omega)
    have hs256:=getD_mem (p:=fun x:Nat=>x < 256) (d:=0) HB1.out.ok.s (by decide) j
    obtain⟨s,hgs⟩:∃s,s=B.ss.getD j 0:=⟨_,rfl⟩
    rw[←hgs] at c9 hs256
    have ht:=and_test s S hs256 hS
    have hlc:lackC B.ss (j:Int) S=(s &&& S != 0):=by unfold lackC onS;rw[decide_eq_false hneg,hgs];rfl
    rw[hlc] at Hs
    clear hlc hgs
    cases hts:(s &&& S != 0)
    ·rw[hts] at ht
     have Hts:=hide hts
     clear hts
     go_wp2_with fail
     exact⟨⟨S+1,by omega,by rw[Hs.out,Hts.out,if_neg (by decide)],by go_num,HB.out⟩,by simp[intOf];omega⟩
    ·rw[hts] at ht
     have Hts:=hide hts
     clear hts
     go_wp2_with fail
     have hww:=Hww.out
     refine wp_region_held_drew (S:=(fun W=>Below wr.heap.size wr W)) (by kernel_rfl) (by(try dsimp only);exact(Below.refl _ _).drew) (fun hHeld=>?_)
     generalize World.drew wr=Wd6 at hHeld ⊢
     have hbc:=Below.refl Wd6.heap.size Wd6
     iterate 4
      refine tkHl [0,2,5,6] ?_ rfl rfl (Or.inl ⟨by rfl,?_⟩) hHeld ?_
      rotate_left
      ·(intro w _;go_simp;try(with_reducible rfl))
      try simp only[Act.put,tl1,tl2,tl3]
     iterate 2
      refine tkHl [1,4] ?_ rfl rfl (Or.inl ⟨by rfl,?_⟩) hHeld ?_
      rotate_left
      ·(intro w hSw;(try dsimp only at hSw);refine take_load (x:= .tmp 2) HBr.out (XR.out.bel hSw).at_ ?_ ?_ <;> rfl)
      try simp only[Act.put,tl1,tl2,tl3]
     refine wpAnyH_ready (rs:=[3]) (by kernel_rfl) (by simp) ?_
     refine AllReadyH.cons (o:=⟨_,_,_,_,_,_⟩) rfl (fun K hK=>?_) AllReadyH.nil
     go_simp
     refine(needed_any B ns pr S _ (HBr.out.bel hHeld) hS).mono ?_
     rintro e V28 ⟨rfl,hb⟩
     go_wp2_with fail
     have hHeldN:=hHeld.trans (hb.mono hHeld.size)
     have hbc:=hbc.trans (hb.mono hbc.size)
     refine hK.out _ _ ?_ (fun hHeld2=>?_)
     ·exact hHeldN
     clear hK K hHeld hHeldN hb;have hHeld:=hHeld2;clear hHeld2
     try simp only[Act.put,tl1,tl2,tl3]
     refine wpAnyH_ready (rs:=[7]) (by kernel_rfl) (by simp) ?_
     refine AllReadyH.cons (o:=⟨_,_,_,_,_,_⟩) rfl (fun K hK=>?_) AllReadyH.nil
     go_simp
     refine(there_any B ns pr S (j:Int) _ (HBr.out.bel hHeld) hS).mono ?_
     rintro e V32 ⟨rfl,hb⟩
     go_wp2_with fail
     have hHeldN:=hHeld.trans (hb.mono hHeld.size)
     have hbc:=hbc.trans (hb.mono hbc.size)
     refine hK.out _ _ ?_ (fun hHeld2=>?_)
     ·exact hHeldN
     clear hK K hHeld hHeldN hb;have hHeld:=hHeld2;clear hHeld2
     try simp only[Act.put,tl1,tl2,tl3]
     iterate 3
      refine tkHl [8,9,10] ?_ rfl rfl (Or.inl ⟨by rfl,?_⟩) hHeld ?_
      rotate_left
      ·(intro w _;go_simp;try(with_reducible rfl))
      try simp only[Act.put,tl1,tl2,tl3]
     refine wpAnyH_done (by kernel_rfl) ?_ _
     have HB2:=hide hHeld
     clear hww
     go_wp2_with fail
     exact⟨⟨S+1,by omega,by rw[Hs.out,Hts.out,if_pos rfl],by go_num,HB.out.trans (HB2.out.mono HB.out.size)⟩,by simp[intOf];omega⟩
  ·obtain rfl:P=S:=by omega
   go_wp2_with fail
   go_ret
   exact⟨ret_int (by rw[lackS,←Hn.out,←HP2.out]),hb1.trans (hb.mono hb1.size)⟩
end Go.Proofs.YtiioegopckoldaaGreatDoor
