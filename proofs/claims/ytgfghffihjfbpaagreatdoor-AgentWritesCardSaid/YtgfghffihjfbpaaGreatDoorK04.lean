/- lemmas for agentWrites_holds: OpenA. No conditions. -/
import Derived.Test.YtgfghffihjfbpaaGreatDoorK03
set_option linter.unusedVariables false
set_option linter.unusedSimpArgs false
namespace Go.Proofs.YtgfghffihjfbpaaGreatDoor
open Go.RowKit Go.Shelf Go.WideShapes Go.ChangeShapes Go.ChangeAt Go.Deep
def ShapeAt {α:Type} (W:World) (t:TypeId) (rep:α→List Value) (ok:α→Prop):Prop:=
 ∀(H:Type) (enc:TypeId×Value→H) (base:Nat) (spare:Nat→Bool) (held:Bool) (fuel:Nat) (cs:List Value) (x:DataW H×List MemPlace),DataW.trod enc Tryz.prog W base spare held fuel t cs=some x→∃a:α,cs=rep a∧ok a
set_option maxRecDepth 100000 in
theorem open_sl_csW {α:Type} {t e:TypeId} {rep:α→List Value} {W:World} {ok:α→Prop} {k:Nat} (hs:ShapeAt W e rep ok) (ht:Tryz.prog.underlying t=some (.slice e)) (hC:Tryz.prog.cellsOf e=k) (hk:∀a,(rep a).length=k) (hk0:0 < k)
 {H:Type} {enc:TypeId×Value→H} {base:Nat} {spare:Nat→Bool} {held:Bool} {fuel:Nat} {cs:List Value} {y:DataW H×List MemPlace}
 (hf:DataW.trod enc Tryz.prog W base spare held fuel t cs=some y) :
 ∃A n c,∃xs:List α,cs=[.slice A n c]∧n=xs.length∧n≤9223372036854775807∧Rd W W.heap.size rep A xs∧∀x∈xs,ok x:=by
 rcases open_slice ht hf with⟨hcs,_⟩ | ⟨a,len,cap,m,n,D,Pl,hcs,_,hl,hm,hmm,_,hi⟩
 ·subst hcs
  exact⟨none,0,0,[],rfl,rfl,by omega,Rd.nil _ _ _ _,by simp⟩
 ·subst hcs
  have hle:len≤m:=by rw[hmm];split <;> omega
  have hex:∀i,i < len→∃x:α,ok x∧∀j u,(rep x)[j]?=some u→W.cell? (a.add (i*k+j))=some u:=fun i hlt=>by
   obtain⟨cs',hc,ht'⟩:=hi i (by omega)
   rw[hC] at hc
   obtain⟨x,rfl,o⟩:=hs _ _ _ _ _ _ _ _ ht'
   obtain⟨_,hcl,hat⟩:=World.cells?_some hc
   refine⟨x,o,fun j u hu=>?_⟩
   have hj:j < k:=by rw[←hcl];exact(List.getElem?_eq_some_iff.1 hu).1
   have:=hat j hj
   rw[hu,add_add] at this
   exact this
  rcases Nat.eq_zero_or_pos len with h0 | h0
  ·subst h0
   exact⟨some a,0,cap,[],rfl,rfl,by omega,Rd.nil _ _ _ _,by simp⟩
  ·obtain⟨x0,_,_⟩:=hex 0 h0
   haveI:Inhabited α:=⟨x0⟩
   obtain⟨f,hfx⟩:=choose_lt hex
   have hspot:a.spot=none∧a.block < W.heap.size:=by
    have h1:0 < (rep (f 0)).length:=by rw[hk];exact hk0
    have h2:=(hfx 0 h0).2 0 _ (List.getElem?_eq_getElem h1)
    rw[show 0*k+0=0 by omega] at h2
    have h3:a.add 0=a:=by simp[Addr.add]
    rw[h3] at h2
    refine⟨?_,World.block_lt_of_cell? W a h2⟩
    unfold World.cell? at h2
    split at h2
    ·split at h2
     ·cases h2
     ·rename_i hn;simpa using hn
    ·cases h2
   have hA:a=⟨a.block,a.off,none⟩:=by
    obtain⟨ab,ao,sp⟩:=a
    simp only at hspot
    rw[hspot.1]
   refine⟨some a,len,cap,(List.range len).map f,rfl,by simp,by simp only[maxLen] at hm;omega,fun _=>⟨a.block,a.off,by rw[←hA],hspot.2,?_⟩,?_⟩
   ·intro j u hu
    have hlen:=flat_len hk ((List.range len).map f)
    have hj:j < len*k:=by
     have:=(List.getElem?_eq_some_iff.1 hu).1
     rw[hlen] at this
     simpa using this
    have hik:j / k < len:=Nat.div_lt_of_lt_mul (by rw[Nat.mul_comm];exact hj)
    have hdm:j / k*k+j % k=j:=by rw[Nat.mul_comm];exact Nat.div_add_mod j k
    have hx:((List.range len).map f)[j / k]?=some (f (j / k)):=by simp[hik]
    have h4:=flat_get hk hx (Nat.mod_lt j hk0)
    rw[hdm,hu] at h4
    have h5:=(hfx _ hik).2 _ _ h4.symm
    rw[hdm,hA] at h5
    unfold Addr.add at h5
    split at h5
    ·rename_i hz;rw[hz];simpa using h5
    ·exact h5
   ·intro x hx
    obtain⟨i,hi',rfl⟩:=List.mem_map.1 hx
    exact(hfx i (by simpa using hi')).1
set_option maxRecDepth 100000 in
theorem open_slW {α:Type} {t e:TypeId} {rep:α→List Value} {W:World} {ok:α→Prop} {k:Nat} (hs:ShapeAt W e rep ok) (ht:Tryz.prog.underlying t=some (.slice e)) (hC:Tryz.prog.cellsOf e=k) (hk:∀a,(rep a).length=k) (hk0:0 < k)
 {H:Type} {enc:TypeId×Value→H} {base b':Nat} {spare:Nat→Bool} {held:Bool} {v:Value} {d:DataW H} {p:List MemPlace}
 (hv:Value.okWide Tryz.prog W .any b' t v) (h:DataW.Trod enc Tryz.prog W base spare held t v d p) :
 ∃A n c,∃xs:List α,v= .slice A n c∧n=xs.length∧n≤9223372036854775807∧Rd W W.heap.size rep A xs∧∀x∈xs,ok x:=by
 obtain⟨a0,len,cap,rfl⟩:=okWide_slice ht hv
 obtain⟨fuel,hf⟩:=h
 rcases open_slice ht hf with⟨hcs,_⟩ | ⟨a,len',cap',m,n,D,Pl,hcs,_,hl,hm,hmm,_,hi⟩
 ·simp[Value.cells] at hcs
  obtain⟨rfl,rfl,rfl⟩:=hcs
  exact⟨none,0,0,[],rfl,rfl,by omega,Rd.nil _ _ _ _,by simp⟩
 ·simp[Value.cells] at hcs
  obtain⟨rfl,rfl,rfl⟩:=hcs
  have hle:len≤m:=by rw[hmm];split <;> omega
  have hex:∀i,i < len→∃x:α,ok x∧∀j u,(rep x)[j]?=some u→W.cell? (a.add (i*k+j))=some u:=fun i hlt=>by
   obtain⟨cs',hc,ht'⟩:=hi i (by omega)
   rw[hC] at hc
   obtain⟨x,rfl,o⟩:=hs _ _ _ _ _ _ _ _ ht'
   obtain⟨_,hcl,hat⟩:=World.cells?_some hc
   refine⟨x,o,fun j u hu=>?_⟩
   have hj:j < k:=by rw[←hcl];exact(List.getElem?_eq_some_iff.1 hu).1
   have:=hat j hj
   rw[hu,add_add] at this
   exact this
  rcases Nat.eq_zero_or_pos len with h0 | h0
  ·subst h0
   exact⟨some a,0,cap,[],rfl,rfl,by omega,Rd.nil _ _ _ _,by simp⟩
  ·obtain⟨x0,_,_⟩:=hex 0 h0
   haveI:Inhabited α:=⟨x0⟩
   obtain⟨f,hfx⟩:=choose_lt hex
   have hspot:a.spot=none∧a.block < W.heap.size:=by
    have h1:0 < (rep (f 0)).length:=by rw[hk];exact hk0
    have h2:=(hfx 0 h0).2 0 _ (List.getElem?_eq_getElem h1)
    rw[show 0*k+0=0 by omega] at h2
    have h3:a.add 0=a:=by simp[Addr.add]
    rw[h3] at h2
    refine⟨?_,World.block_lt_of_cell? W a h2⟩
    unfold World.cell? at h2
    split at h2
    ·split at h2
     ·cases h2
     ·rename_i hn;simpa using hn
    ·cases h2
   have hA:a=⟨a.block,a.off,none⟩:=by
    obtain⟨ab,ao,sp⟩:=a
    simp only at hspot
    rw[hspot.1]
   refine⟨some a,len,cap,(List.range len).map f,rfl,by simp,by simp only[maxLen] at hm;omega,fun _=>⟨a.block,a.off,by rw[←hA],hspot.2,?_⟩,?_⟩
   ·intro j u hu
    have hlen:=flat_len hk ((List.range len).map f)
    have hj:j < len*k:=by
     have:=(List.getElem?_eq_some_iff.1 hu).1
     rw[hlen] at this
     simpa using this
    have hik:j / k < len:=Nat.div_lt_of_lt_mul (by rw[Nat.mul_comm];exact hj)
    have hdm:j / k*k+j % k=j:=by rw[Nat.mul_comm];exact Nat.div_add_mod j k
    have hx:((List.range len).map f)[j / k]?=some (f (j / k)):=by simp[hik]
    have h4:=flat_get hk hx (Nat.mod_lt j hk0)
    rw[hdm,hu] at h4
    have h5:=(hfx _ hik).2 _ _ h4.symm
    rw[hdm,hA] at h5
    unfold Addr.add at h5
    split at h5
    ·rename_i hz;rw[hz];simpa using h5
    ·exact h5
   ·intro x hx
    obtain⟨i,hi',rfl⟩:=List.mem_map.1 hx
    exact(hfx i (by simpa using hi')).1
end Go.Proofs.YtgfghffihjfbpaaGreatDoor
