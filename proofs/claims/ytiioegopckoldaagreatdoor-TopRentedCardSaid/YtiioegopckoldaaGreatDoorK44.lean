/- Rents become deeds (chapters 4 and 6): the law TopRented returns true for all needs, lengths and numbers. No conditions; what its row lists (aflaj/hour.never) is tied to the text of the program by the given tie.: OpenC LTopRented. No conditions. -/
import Derived.Test.YtiioegopckoldaaGreatDoorK29
import Derived.Test.YtiioegopckoldaaGreatDoorK03
import Derived.Test.YtiioegopckoldaaGreatDoorK43
import Derived.Test.YtiioegopckoldaaGreatDoorK42
import Derived.Test.YtiioegopckoldaaGreatDoorCards
import Derived.Test.YtiioegopckoldaaGreatDoorTie
import Derived.SevenTiedAt
set_option linter.unusedVariables false
set_option linter.unusedSimpArgs false
namespace Go.Proofs.YtiioegopckoldaaGreatDoor
open Go.RowKit Go.Shelf Go.WideShapes Go.ChangeShapes Go.ChangeAt Go.Deep
def Ca.wf (c:Ca):Prop:=i64ok c.frm∧c.seep.wf∧c.fill.wf
def Us.wf (u:Us):Prop:=i64ok u.field∧i64ok u.frm∧i64ok u.to
end Go.Proofs.YtiioegopckoldaaGreatDoor
namespace Go.Proofs.YtiioegopckoldaaGreatDoor
open Go.RowKit Go.Shelf Go.WideShapes Go.ChangeShapes Go.ChangeAt
set_option maxRecDepth 100000 in
theorem topRented_lifted (os:Os) (started:os.Started) (H:Type) (enc:TypeId×Value→H) :
 ReturnsInHanded {} Tryz.checked os 4 .any (fun w args=>(Rows.topRentedSpec.pre enc Tryz.prog Tryz.f4 [] false w args∧laidMetH Tryz.prog laidNv w)∧sizedMet enc Tryz.prog Tryz.f4 (OpenSpec.ofChange Rows.topRentedSpec) false w args) (Rows.topRentedSpec.post enc Tryz.prog Tryz.f4 false true false false):=by
 refine law_laid os started H enc (s:=Rows.topRentedSpec) Tryz.func4 (by kernel_rfl) ?_ rfl Tryz.underlying4 rfl (of_decide_eq_true (by kernel_rfl))
  (ChangeSpec.witness_shaped (enc:=enc) (C:=Tryz.checked) (os:=os) (X:=fun w _=>laidMetH Tryz.prog laidNv w) false (World.laidAll Tryz.prog os laidNv) #[.slice none 0 0,.slice none 0 0,.slice none 0 0] 8 (World.laidAll_os _ _ _)
   (World.shaped_of_ZipB (by kernel_rfl) (by kernel_rfl)) (by kernel_rfl) (by kernel_rfl) (by kernel_rfl)
   (by rw[MakeChecks.laidMetH_plain _ _ _ (by kernel_rfl)];exact laidMet_laidAll _ (by kernel_rfl) (by kernel_rfl))) ?_
 ·intro ds hds
  match ds,hds with
  | [a,b,c],_=>rfl
 ·intro W base args ds ps hval hA hlt hnv
  rw[Tryz.params4] at hA hval
  obtain⟨v0,v1,v2,d0,d1,d2,p0,p1,p2,rfl,rfl,rfl,h0,h1,h2⟩:=trodAll_three hA
  obtain⟨A,m,cm,ns,rfl,hms,hms2,hns,_⟩:=open_sl shape_int Tryz.underlying26 cells_int icell_len (by omega) (hval 0 _ v0 rfl rfl) h0
  obtain⟨B,nl,cl,ls,rfl,hnl,hnl2,hls,h16⟩:=open_sl shape_u16 Tryz.underlying55 cells_u16 u16cell_len (by omega) (hval 1 _ v1 rfl rfl) h1
  obtain⟨C,nb,cb,bys,rfl,hnb,hnb2,hby,h32⟩:=open_sl shape_u32 Tryz.underlying31 cells_u32 u32cell_len (by omega) (hval 2 _ v2 rfl rfl) h2
  exact toprented_walk A B C m cm nl cl nb cb ns ls bys W hnv hms hms2 hns hnl hnl2 hls h16 hnb hnb2 hby h32
theorem topRented_row_holds:Rows.TopRentedSaid:=
 OpenClaim.holds_of_wide 4 Tryz.f4 rfl rfl rfl rfl rfl rfl rfl ⟨rfl,rfl,rfl,rfl,rfl⟩ rfl rfl rfl rfl rfl (by kernel_rfl) Tryz.func4 (by kernel_rfl)
  (of_decide_eq_true (by kernel_rfl)) (by unfold Func.isWrapper;rw[if_neg (of_decide_eq_false (by kernel_rfl))];exact⟨rfl,rfl⟩)
  (fun os started H enc _=>topRented_lifted os started H enc)
theorem topRented_params:(Tryz.f4.params.toList.all fun t=>Tryz.prog.wantsStandIn t == false)=true:=by kernel_rfl
theorem topRented_holds:Rows.TopRentedCardSaid:=
 Claim7.holds_tied_plain_at .later [] [.data] true (true, "5e502a6c3fcf0c6f3724b64004bd3e95add114ddef492e4206a6cc5584cc7c6d") true
  topRented_row_holds (fun _ h=>by cases h) (by kernel_rfl) (fun _ h=>by cases h) topRented_row_tie rfl ⟨rfl,rfl⟩ (by kernel_rfl) rfl
  (fun f fn hf hfn=>by
   obtain rfl : f = 4 := Option.some.inj ((show Tryz.prog.funcNamed "aflaj/aflajtop.TopRented" = some 4 by kernel_rfl).symm.trans hf) |>.symm
   obtain rfl:fn=Tryz.f4:=(Option.some.inj (Tryz.func4.symm.trans hfn)).symm
   exact⟨by kernel_rfl,fun j t ht=>by
    have h:=List.all_eq_true.1 topRented_params t (by rw[←Array.getElem?_toList] at ht;exact List.mem_of_getElem? ht)
    exact eq_of_beq h⟩)
  (by kernel_rfl)
#print axioms topRented_holds
end Go.Proofs.YtiioegopckoldaaGreatDoor
