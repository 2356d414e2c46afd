/- lemmas for agentWrites_holds: Sized. No conditions. -/
import Derived.Test.YtgfghffihjfbpaaGreatDoorK02
import Derived.SizedLaws
set_option linter.unusedVariables false
set_option linter.unusedSimpArgs false
namespace Go.Proofs.YtgfghffihjfbpaaGreatDoor
open Go.RowKit Go.Shelf Go.WideShapes Go.ChangeShapes Go.ChangeAt Go.Deep
theorem slice_weight {t e:TypeId} (ht:Tryz.prog.underlying t=some (.slice e)) {H:Type} {enc:TypeId×Value→H} {W:World} {base:Nat} {spare:Nat→Bool} {held:Bool} {A:Option Addr} {n c:Nat} {d:DataW H} {p:List MemPlace}
 (h:DataW.Trod enc Tryz.prog W base spare held t (.slice A n c) d p):n=0∨∃el sp:List (DataW H),d= .slice el sp∧el.length=n:=by
 obtain⟨fuel,hf⟩:=h
 rcases open_slice ht hf with⟨hcs,_⟩ | ⟨a,len',cap',m,n',D,Pl,hcs,_,hl,hm,hmm,hx,hi⟩
 ·simp[Value.cells] at hcs
  exact .inl hcs.2.1
 ·simp[Value.cells] at hcs
  obtain⟨rfl,rfl,rfl⟩:=hcs
  injection hx with h1 h2
  exact .inr ⟨(List.range n).map D,_,h1,by rw[List.length_map,List.length_range]⟩
end Go.Proofs.YtgfghffihjfbpaaGreatDoor
