/- lemmas for agentWrites_holds: OpenG. No conditions. -/
import Derived.Test.YtgfghffihjfbpaaGreatDoorK02
import Derived.Test.YtgfghffihjfbpaaGreatDoorK01
set_option linter.unusedVariables false
set_option linter.unusedSimpArgs false
namespace Go.Proofs.YtgfghffihjfbpaaGreatDoor
open Go.RowKit Go.Shelf Go.WideShapes Go.ChangeShapes Go.ChangeAt Go.Deep
def Shape {α:Type} (t:TypeId) (rep:α→List Value) (ok:α→Prop):Prop:=
 ∀(H:Type) (enc:TypeId×Value→H) (w:World) (base:Nat) (spare:Nat→Bool) (held:Bool) (fuel:Nat) (cs:List Value) (x:DataW H×List MemPlace),DataW.trod enc Tryz.prog w base spare held fuel t cs=some x→∃a:α,cs=rep a∧ok a
def i64ok (n:Int):Prop:= -9223372036854775808≤n∧n≤9223372036854775807
theorem i64ok_of {n:Int} (h:(Lit.int .i64 n).wf=true):i64ok n:=bounds_i64 h
theorem shape_int:Shape 3 icell i64ok:=fun H enc w base spare held fuel cs x h=>by
 obtain⟨n,rfl,_,hw⟩:=DataW.trod_int Tryz.underlying3 h
 exact⟨n,rfl,i64ok_of hw⟩
theorem trod_field {H:Type} {enc:TypeId×Value→H} {P:Program} {w:World} {base:Nat} {spare:Nat→Bool} {held:Bool} {fuel:Nat} {t:TypeId} {cs:List Value} {x:DataW H×List MemPlace} {fs:Array Field}
 (ht:P.underlying t=some (.struct fs)) (h:DataW.trod enc P w base spare held fuel t cs=some x) :
 cs.length=P.cellsOf t∧∀(i:Nat) (f:Field),fs[i]?=some f→∃n y,DataW.trod enc P w base spare held n f.type ((cs.drop f.offset).take (P.cellsOf f.type))=some y:=by
 obtain⟨xs,n,_,_,hl,hlen,hf⟩:=DataW.trod_struct ht h
 refine⟨hl,fun i f hi=>⟨n,?_⟩⟩
 have hi':i < xs.length:=by rw[hlen];exact(Array.getElem?_eq_some_iff.1 hi).1
 rw[hf i f hi,List.getElem?_eq_getElem hi']
 exact⟨_,rfl⟩
def Sp.wf (s:Sp):Prop:=i64ok s.lo∧i64ok s.hi
theorem cells_int:Tryz.prog.cellsOf 3=1:=by kernel_rfl
theorem cells_sp:Tryz.prog.cellsOf 105=2:=by kernel_rfl
theorem trod_sub {α:Type} {t ft:TypeId} {off k:Nat} {rep:α→List Value} {ok:α→Prop} {H:Type} {enc:TypeId×Value→H} {w:World} {base:Nat} {spare:Nat→Bool} {held:Bool} {fuel:Nat} {cs:List Value} {x:DataW H×List MemPlace} {fs:Array Field}
 (ht:Tryz.prog.underlying t=some (.struct fs)) (h:DataW.trod enc Tryz.prog w base spare held fuel t cs=some x) (i:Nat) {f:Field} (hi:fs[i]?=some f) (hft:f.type=ft) (hoff:f.offset=off) (hk:Tryz.prog.cellsOf ft=k) (hs:Shape ft rep ok) :
 ∃a,(cs.drop off).take k=rep a∧ok a:=by
 obtain⟨_,hf⟩:=trod_field ht h
 obtain⟨_,_,h0⟩:=hf i f hi
 rw[hft,hoff,hk] at h0
 exact hs _ _ _ _ _ _ _ _ _ h0
theorem shape_sp:Shape 105 Sp.cells Sp.wf:=fun H enc w base spare held fuel cs x h=>by
 have hl:=(trod_field Tryz.underlying105 h).1
 rw[cells_sp] at hl
 obtain⟨a,e0,o0⟩:=trod_sub Tryz.underlying105 h 0 rfl rfl rfl cells_int shape_int
 obtain⟨b,e1,o1⟩:=trod_sub Tryz.underlying105 h 1 rfl rfl rfl cells_int shape_int
 match cs,hl with
 | [c0, c1], _ =>
   refine⟨⟨a,b⟩,?_,o0,o1⟩
   simp[icell] at e0 e1
   rw[e0,e1];rfl
set_option maxRecDepth 100000 in
theorem open_sl_cs {α:Type} {t e:TypeId} {rep:α→List Value} {ok:α→Prop} {k:Nat} (hs:Shape e rep ok) (ht:Tryz.prog.underlying t=some (.slice e)) (hC:Tryz.prog.cellsOf e=k) (hk:∀a,(rep a).length=k) (hk0:0 < k)
 {H:Type} {enc:TypeId×Value→H} {W:World} {base:Nat} {spare:Nat→Bool} {held:Bool} {fuel:Nat} {cs:List Value} {y:DataW H×List MemPlace}
 (hf:DataW.trod enc Tryz.prog W base spare held fuel t cs=some y) :
 ∃A n c,∃xs:List α,cs=[.slice A n c]∧n=xs.length∧n≤9223372036854775807∧Rd W W.heap.size rep A xs∧∀x∈xs,ok x:=by
 rcases open_slice ht hf with⟨hcs,_⟩ | ⟨a,len,cap,m,n,D,Pl,hcs,_,hl,hm,hmm,_,hi⟩
 ·subst hcs
  exact⟨none,0,0,[],rfl,rfl,by omega,Rd.nil _ _ _ _,by simp⟩
 ·subst hcs
  have hle:len≤m:=by rw[hmm];split <;> omega
  have hex:∀i,i < len→∃x:α,ok x∧∀j u,(rep x)[j]?=some u→W.cell? (a.add (i*k+j))=some u:=fun i hlt=>by
   obtain⟨cs',hc,ht'⟩:=hi i (by omega)
   rw[hC] at hc
   obtain⟨x,rfl,o⟩:=hs _ _ _ _ _ _ _ _ _ ht'
   obtain⟨_,hcl,hat⟩:=World.cells?_some hc
   refine⟨x,o,fun j u hu=>?_⟩
   have hj:j < k:=by rw[←hcl];exact(List.getElem?_eq_some_iff.1 hu).1
   have:=hat j hj
   rw[hu,add_add] at this
   exact this
  rcases Nat.eq_zero_or_pos len with h0 | h0
  ·subst h0
   exact⟨some a,0,cap,[],rfl,rfl,by omega,Rd.nil _ _ _ _,by simp⟩
  ·obtain⟨x0,_,_⟩:=hex 0 h0
   haveI:Inhabited α:=⟨x0⟩
   obtain⟨f,hfx⟩:=choose_lt hex
   have hspot:a.spot=none∧a.block < W.heap.size:=by
    have h1:0 < (rep (f 0)).length:=by rw[hk];exact hk0
    have h2:=(hfx 0 h0).2 0 _ (List.getElem?_eq_getElem h1)
    rw[show 0*k+0=0 by omega] at h2
    have h3:a.add 0=a:=by simp[Addr.add]
    rw[h3] at h2
    refine⟨?_,World.block_lt_of_cell? W a h2⟩
    unfold World.cell? at h2
    split at h2
    ·split at h2
     ·cases h2
     ·rename_i hn;simpa using hn
    ·cases h2
   have hA:a=⟨a.block,a.off,none⟩:=by
    obtain⟨ab,ao,sp⟩:=a
    simp only at hspot
    rw[hspot.1]
   refine⟨some a,len,cap,(List.range len).map f,rfl,by simp,by simp only[maxLen] at hm;omega,fun _=>⟨a.block,a.off,by rw[←hA],hspot.2,?_⟩,?_⟩
   ·intro j u hu
    have hlen:=flat_len hk ((List.range len).map f)
    have hj:j < len*k:=by
     have:=(List.getElem?_eq_some_iff.1 hu).1
     rw[hlen] at this
     simpa using this
    have hik:j / k < len:=Nat.div_lt_of_lt_mul (by rw[Nat.mul_comm];exact hj)
    have hdm:j / k*k+j % k=j:=by rw[Nat.mul_comm];exact Nat.div_add_mod j k
    have hx:((List.range len).map f)[j / k]?=some (f (j / k)):=by simp[hik]
    have h4:=flat_get hk hx (Nat.mod_lt j hk0)
    rw[hdm,hu] at h4
    have h5:=(hfx _ hik).2 _ _ h4.symm
    rw[hdm,hA] at h5
    unfold Addr.add at h5
    split at h5
    ·rename_i hz;rw[hz];simpa using h5
    ·exact h5
   ·intro x hx
    obtain⟨i,hi',rfl⟩:=List.mem_map.1 hx
    exact(hfx i (by simpa using hi')).1
end Go.Proofs.YtgfghffihjfbpaaGreatDoor
namespace Go.Proofs.YtgfghffihjfbpaaGreatDoor
open Go.RowKit Go.Shelf Go.WideShapes Go.ChangeShapes Go.ChangeAt
theorem bounds_u8 {n:Int} (h:(Lit.int .u8 n).wf=true):0≤n∧n≤255:=by
 simp[Lit.wf,IntKind.min,IntKind.max,IntKind.signed,IntKind.bits] at h
 omega
def u8cell (n:Nat):List Value:=[.int .u8 (n:Int)]
theorem u8cell_len (n:Nat):(u8cell n).length=1:=rfl
theorem Rd.u8 {w:World} {B:Nat} {A:Option Addr} {xs:List Nat} (h:Rd w B u8cell A xs) {i:Nat} (hi:i < xs.length) :
 ∃b off n,A=some ⟨b,off,none⟩∧b < B∧xs[i]?=some n∧w.cell? ⟨b,off+i,none⟩=some (.int .u8 (n:Int)):=by
 obtain⟨b,off,e,hB,hc⟩:=h (by omega)
 have hx:xs[i]?=some xs[i]:=List.getElem?_eq_getElem hi
 have:=flat_get u8cell_len hx (j:=0) (by omega)
 simp only[Nat.mul_one,Nat.add_zero] at this
 exact⟨b,off,_,e,hB,hx,hc _ _ this⟩
theorem shape_u8:Shape 5 u8cell (fun n=>n≤255):=fun H enc w base spare held fuel cs x h=>by
 obtain⟨n,rfl,_,hw⟩:=DataW.trod_int Tryz.underlying5 h
 have hb:=bounds_u8 hw
 exact⟨n.toNat,by unfold u8cell;rw[Int.toNat_of_nonneg hb.1],by omega⟩
theorem cells_u8:Tryz.prog.cellsOf 5=1:=by kernel_rfl
end Go.Proofs.YtgfghffihjfbpaaGreatDoor
