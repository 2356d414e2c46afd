/- lemmas for agentWrites_holds: AW1. No conditions. -/
import Derived.Lib.ItoaNum
set_option linter.unusedVariables false
set_option linter.unusedSimpArgs false
namespace Go.Proofs.YtgfghffihjfbpaaGreatDoor
open Go
def phraseB (w:List UInt8) (l:List Int):List UInt8:=l.foldl (fun w n=>w ++ (44 :: Lib.itoa n)) w
theorem phraseB_snoc (w:List UInt8) (l:List Int) (n:Int):phraseB w (l ++ [n])=phraseB w l ++ (44 :: Lib.itoa n):=by simp[phraseB]
theorem phraseB_app (u:List UInt8):∀(l:List Int) (w:List UInt8),phraseB (u ++ w) l=u ++ phraseB w l
 | [],_=>rfl
 | n :: l, w => by
   have h:=phraseB_app u l (w ++ (44 :: Lib.itoa n))
   rw[←List.append_assoc] at h
   exact h
def sumStep (s:Nat×Nat) (x:UInt8):Nat×Nat:=((s.1+x.toNat) % 251,(s.2+(s.1+x.toNat) % 251) % 251)
def sumsFrom (s:Nat×Nat) (l:List UInt8):Nat×Nat:=l.foldl sumStep s
theorem sumsFrom_app (s:Nat×Nat) (l m:List UInt8):sumsFrom s (l ++ m)=sumsFrom (sumsFrom s l) m:=by simp[sumsFrom]
theorem sumsFrom_snoc (s:Nat×Nat) (l:List UInt8) (x:UInt8):sumsFrom s (l ++ [x])=sumStep (sumsFrom s l) x:=by simp[sumsFrom]
theorem sumsFrom_bd:∀(l:List UInt8) {s:Nat×Nat},s.1 < 251∧s.2 < 251→(sumsFrom s l).1 < 251∧(sumsFrom s l).2 < 251
 | [],_,h=>h
 | _ :: l,_,_=>sumsFrom_bd l ⟨Nat.mod_lt _ (by omega),Nat.mod_lt _ (by omega)⟩
def lineB (i:Nat) (x:List UInt8):List UInt8:=Lib.itoa ((i:Int)+1) ++ (46 :: (x ++ [10]))
def linesTo (xs:List (List UInt8)):Nat→List UInt8
 | 0=>[]
 | k+1=>linesTo xs k ++ lineB k (xs.getD k [])
def sealB (xs:List (List UInt8)):List UInt8:=linesTo xs xs.length ++ (phraseB (61 :: Lib.itoa (xs.length:Int)) [((sumsFrom (1,0) (linesTo xs xs.length)).1:Int),((sumsFrom (1,0) (linesTo xs xs.length)).2:Int)] ++ [10])
def sealS (xs:List (List UInt8)):List UInt8×Int:=if 30000 < (sealB xs).length then([],9) else(sealB xs,0)
end Go.Proofs.YtgfghffihjfbpaaGreatDoor
