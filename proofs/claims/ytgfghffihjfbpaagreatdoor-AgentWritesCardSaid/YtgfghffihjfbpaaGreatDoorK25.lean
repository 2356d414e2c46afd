/- lemmas for agentWrites_holds: AW2. No conditions. -/
import Derived.Test.YtgfghffihjfbpaaGreatDoorK16
import Derived.Test.YtgfghffihjfbpaaGreatDoorK24
set_option linter.unusedVariables false
set_option linter.unusedSimpArgs false
namespace Go.Proofs.YtgfghffihjfbpaaGreatDoor
open Go.RowKit Go.Shelf
def Bo.upto (b:Bo):Nat→List (Nat×List Int)
 | 0=>[]
 | i+1=>b.upto i ++ (b.nums i).map fun l=>(i,l)
def Bo.rows (b:Bo):List (Nat×List Int):=b.upto 4
theorem Bo.rows_split (b:Bo) {i:Nat} (hi:i < 4):∃rest,b.rows=(b.upto i ++ (b.nums i).map fun l=>(i,l)) ++ rest:=by
 obtain rfl | rfl | rfl | rfl:i=0∨i=1∨i=2∨i=3:=by omega
 ·exact⟨((b.nums 1).map fun l=>(1,l)) ++ (((b.nums 2).map fun l=>(2,l)) ++ ((b.nums 3).map fun l=>(3,l))),by simp[Bo.rows,Bo.upto]⟩
 ·exact⟨(((b.nums 2).map fun l=>(2,l)) ++ ((b.nums 3).map fun l=>(3,l))),by simp[Bo.rows,Bo.upto]⟩
 ·exact⟨((b.nums 3).map fun l=>(3,l)),by simp[Bo.rows,Bo.upto]⟩
 ·exact⟨[],by simp[Bo.rows,Bo.upto]⟩
theorem Bo.upto_le (b:Bo) {i:Nat} (hi:i≤4):(b.upto i).length≤b.rows.length:=by
 rcases Nat.lt_or_ge i 4 with h | h
 ·obtain⟨r,e⟩:=b.rows_split h
  rw[e];simp
 ·obtain rfl:i=4:=by omega
  exact Nat.le_refl _
theorem Bo.row_at (b:Bo) {i j:Nat} {xs:List Int} (hi:i < 4) (hx:(b.nums i)[j]?=some xs):b.rows[(b.upto i).length+j]?=some (i,xs):=by
 obtain⟨r,e⟩:=b.rows_split hi
 have hj:=(List.getElem?_eq_some_iff.1 hx).1
 rw[e,List.getElem?_append_left (by simp;omega),List.getElem?_append_right (by omega),Nat.add_sub_cancel_left,List.getElem?_map,hx]
 rfl
theorem Bo.row_getD (b:Bo) {i j:Nat} {xs:List Int} (hi:i < 4) (hx:(b.nums i)[j]?=some xs):b.rows.getD ((b.upto i).length+j) (0,[])=(i,xs)∧(b.upto i).length+j < b.rows.length:=by
 have h:=b.row_at hi hx
 exact⟨by rw[List.getD_eq_getElem?_getD,h];rfl,(List.getElem?_eq_some_iff.1 h).1⟩
theorem Bo.upto_succ (b:Bo) (i:Nat):(b.upto (i+1)).length=(b.upto i).length+(b.nums i).length:=by
 show(b.upto i ++ (b.nums i).map fun l=>(i,l)).length=_
 simp
theorem Bo.rows_len (b:Bo):b.rows.length=b.ss.length+b.ms.length+b.gs.length+b.ds.length:=by
 simp[Bo.rows,Bo.upto,Bo.nums]
 omega
theorem Bo.ok.rows_le {w:World} {b:Bo} (h:b.ok w):b.rows.length≤300:=by
 rw[b.rows_len,←h.e1,←h.e2,←h.e3,←h.e4]
 exact h.sm
theorem Bo.rows_kind (b:Bo) {r:Nat×List Int} (h:r∈b.rows):r.1 < 4∧r.2∈b.nums r.1:=by
 have:∀i,i≤4→r∈b.upto i→r.1 < 4∧r.2∈b.nums r.1:=by
  intro i
  induction i with
  | zero=>intro _ h;cases h
  | succ i ih =>
    intro hi h
    rcases List.mem_append.1 h with h | h
    ·exact ih (by omega) h
    ·obtain⟨l,hl,rfl⟩:=List.mem_map.1 h
     exact⟨hi,hl⟩
 exact this 4 (Nat.le_refl _) h
theorem Dx.nums_le {w:World} {x:Dx} (h:x.ok w):x.nums.length≤40:=by
 rw[x.nums_len]
 have:=h.1
 omega
theorem Bo.ok.nums_le {w:World} {b:Bo} (h:b.ok w) (i:Nat) {l:List Int} (hl:l∈b.nums i):l.length≤40:=by
 match i with
 | 0=>obtain⟨x,_,rfl⟩:=List.mem_map.1 hl;exact Nat.le_of_ble_eq_true rfl
 | 1=>obtain⟨x,_,rfl⟩:=List.mem_map.1 hl;exact Nat.le_of_ble_eq_true rfl
 | 2=>obtain⟨x,_,rfl⟩:=List.mem_map.1 hl;exact Nat.le_of_ble_eq_true rfl
 | k+3=>obtain⟨x,hx,rfl⟩:=List.mem_map.1 hl;exact Dx.nums_le (h.rd x hx)
def rowOk (r:Nat×List Int):Bool:=cntB (worB r.1) r.2.length && !(anyOut (-1000000000000) 1000000000000 r.2)
def Bo.boundB (b:Bo):Bool:=decide (b.rows.length≤200) && b.rows.all rowOk
def rowL (r:Nat×List Int):List UInt8:=phraseB (letB r.1) r.2
def Bo.wrote (b:Bo):List UInt8×Int:=if b.boundB then sealS (b.rows.map rowL) else([],2)
theorem letB_len (i:Nat):(letB i).length=1:=by
 match i with
 | 0 | 1 | 2=>rfl
 | k+3=>rfl
theorem not_out {lo hi:Int}:∀{l:List Int},anyOut lo hi l=false→∀x∈l,lo≤x∧x≤hi:=by
 intro l h x hx
 unfold anyOut at h
 rw[List.any_eq_false] at h
 have:=h x hx
 unfold outB at this
 simp at this
 omega
theorem rowOk_bd {r:Nat×List Int} (h:rowOk r=true):∀x∈r.2,-1000000000000≤x∧x≤1000000000000:=by
 unfold rowOk at h
 rw[Bool.and_eq_true,Bool.not_eq_true'] at h
 exact not_out h.2
theorem lineB_len (i:Nat) (x:List UInt8) (hi:i≤1000000) (hx:x.length≤10000):(lineB i x).length≤10030:=by
 have h2:=Lib.itoa_length_le ((i:Int)+1) (by omega) (by omega)
 unfold lineB
 simp only[List.length_append,List.length_cons,List.length_nil]
 omega
theorem linesTo_len (xs:List (List UInt8)) (hx:∀x∈xs,x.length≤10000):∀k,k≤1000000→(linesTo xs k).length≤10030*k
 | 0,_=>by simp[linesTo]
 | k + 1, hk => by
   have h1:=linesTo_len xs hx k (by omega)
   have h2:=lineB_len k (xs.getD k []) (by omega) (by
    rw[List.getD_eq_getElem?_getD]
    cases he:xs[k]? with
    | none=>simp
    | some y=>exact hx y (List.mem_of_getElem? he))
   show(linesTo xs k ++ lineB k (xs.getD k [])).length≤_
   rw[List.length_append]
   omega
theorem linesTo_snoc {xs:List (List UInt8)} {k:Nat} {x:List UInt8} (h:xs[k]?=some x):linesTo xs (k+1)=linesTo xs k ++ lineB k x:=by
 show linesTo xs k ++ lineB k (xs.getD k [])=_
 rw[List.getD_eq_getElem?_getD,h]
 rfl
def writB (l:List UInt8) (n:Nat):List UInt8×Int:=if 30000 < (l ++ lastB l n).length then([],9) else(l ++ lastB l n,0)
theorem seal_writ (xs:List (List UInt8)):sealS xs=writB (linesTo xs xs.length) xs.length:=rfl
end Go.Proofs.YtgfghffihjfbpaaGreatDoor
