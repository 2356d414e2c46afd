/- lemmas for topRented_holds: QDB QDC. No conditions. -/
import Derived.Test.YtiioegopckoldaaGreatDoorK32
set_option linter.unusedVariables false
set_option linter.unusedSimpArgs false
namespace Go.Proofs.YtiioegopckoldaaGreatDoor.CV
open Go Go.RowKit
section
variable {P:Program} {ρ:Ren} {w:World} {G n0 nx:Nat} {H:Tr CObj}
theorem replicateL_eq (z:List Value):∀k,(replicateL z k).length=k*z.length∧∀i:Nat,i < k*z.length→(replicateL z k)[i]?=z[i % z.length]?:=by
 intro k
 induction k with
 | zero=>exact⟨by simp[replicateL],fun i h=>by omega⟩
 | succ k ih =>
   refine⟨by simp only[replicateL,List.length_append,ih.1,Nat.add_mul];omega,fun i hi=>?_⟩
   simp only[replicateL]
   by_cases h:i < z.length
   ·rw[List.getElem?_append_left h,Nat.mod_eq_of_lt h]
   ·rw[List.getElem?_append_right (by omega),ih.2 _ (by rw[Nat.add_mul] at hi;omega),←Nat.mod_eq_sub_mod (by omega)]
theorem range_eq (z:Array Value) (k:Nat):(Array.range (k*z.size)).map (z[· % z.size]!)=⟨replicateL z.toList k⟩:=by
 have hr:=replicateL_eq z.toList k
 apply Array.ext
 ·simp[hr.1]
 ·intro i h1 h2
  simp only[Array.size_map,Array.size_range] at h1
  have hpos:0 < z.size:=by rcases Nat.eq_zero_or_pos z.size with h | h;(· rw[h] at h1;omega);exact h
  have:=hr.2 i (by simpa using h1)
  have hm:=Nat.mod_lt i hpos
  simp only[Array.getElem_map,Array.getElem_range]
  have e1:z[i % z.size]! =z[i % z.size]:=by simp[hm]
  rw[e1]
  have e2:(replicateL z.toList k)[i]?=some z[i % z.size]:=by rw[this];simp[hm]
  have:=(List.getElem?_eq_some_iff.1 e2).2
  simpa using this.symm
theorem replicate_LR {z:Value} (h:okV OKD z=true):∀k,LR ρ (replicateL z.cells.toList k) (replicateL z.cells.toList k)
 | 0=>LR.nil ρ
 | k+1=>(okV_LR h).append (replicate_LR h k)
theorem wrap_small {n:Nat} (h:n < 2 ^ 62):IntKind.i64.wrap (n:Int)=n:=by rw[IntKind.wrap_i64];omega
theorem makeSliceC_run {t:TypeId} {l c:Nat} {k k':IntKind} {o:CObj} (h:makeSliceC P t l c=some o) :
 c < 2 ^ 30∧∃cs e,LR ρ cs cs∧o=mkCells cs e∧(Instr.makeSlice t (.int k l) (.int k' c)).run P w= .ok (.slice (some ⟨w.heap.size,0,none⟩) l c) {w with heap:=w.heap.push (.cells ⟨cs⟩ e (0,0)) }:=by
 unfold makeSliceC at h
 split at h
 ·rename_i e hd
  split at h
  ·cases h
  ·rename_i i hi
   split at h
   ·cases h
   ·rename_i hb
    simp only[Bool.and_eq_true,Nat.ble_eq,Nat.blt_eq] at hb
    obtain⟨⟨hlc,hbytes⟩,hc⟩:=hb
    refine⟨hc,?_⟩
    have hcb:¬(281474976710656 < (i.bytes:Int)*(c:Int)):=by
     have hb':i.bytes*c < 1073741824:=by rw[Nat.mul_comm];exact hbytes
     have:((i.bytes*c:Nat):Int) < 1073741824:=by omega
     rw[Int.natCast_mul] at this
     omega
    have e1:=wrap_small (n:=l) (by omega)
    have e2:=wrap_small (n:=c) (by omega)
    have hti:=run_typeInfo (w:=w) hi
    have hsz:=run_sizeOf (w:=w) (sizeC_info hi)
    have c1:¬((l:Int) < 0):=by omega
    have c2:¬((l:Int) > (c:Int)):=by omega
    have c3:¬((c:Int) < 0):=by omega
    split at h
    ·rename_i h0
     injection h with h;subst h
     refine⟨[],e,LR.nil ρ,rfl,?_⟩
     simp only[Instr.makeSlice,asInt,asIntOf,Sem.run_bind,Go.Proofs.YtiioegopckoldaaGreatDoor.CV.run_underlying hd,Result.andThen_ok,Sem.run_pure,hti,e1,e2,hsz]
     simp only[Sem.run_ite,Int.toNat_natCast,hsz,Result.andThen_ok,h0,if_true,Sem.run_pure]
     simp[c1,c2,c3,hcb,newRow,hsz]
     have hr:Array.range 0= #[]:=Array.ext (by simp) (fun i h1 _=>by simp at h1)
     rcases Nat.mul_eq_zero.1 h0 with h | h <;> simp[h,hr]
    ·rename_i h0
     split at h
     ·cases h
     ·rename_i z hz
      split at h
      ·rename_i hzs
       injection h with h;subst h
       obtain⟨z1,z2⟩:=run_zeroValue (w:=w) hz
       have hzs:z.cells.size=i.size:=by simpa using hzs
       have h0:¬c*i.size=0:=fun e=>h0 e
       refine⟨_,e,replicate_LR z2 c,rfl,?_⟩
       have:=range_eq z.cells c
       rw[hzs] at this
       simp only[Instr.makeSlice,asInt,asIntOf,Sem.run_bind,Go.Proofs.YtiioegopckoldaaGreatDoor.CV.run_underlying hd,Result.andThen_ok,Sem.run_pure,hti,e1,e2,hsz]
       simp only[Sem.run_ite,Int.toNat_natCast,if_neg h0,Sem.run_bind,z1,Result.andThen_ok,Sem.run_pure]
       simp[c1,c2,c3,hcb,newRow,hsz]
       have h0':=h0
       rw[Nat.mul_eq_zero] at h0'
       simp[h0',z1,hzs,this]
       try exact fun e=>absurd e h0
      ·cases h
 ·cases h
theorem bound_run {k:IntKind} {n y:Nat} {code:BoundsCode} (h:n≤y):(Instr.sliceBound (.int k n) y code).run P w= .ok n w:=by
 simp[Instr.sliceBound,asIntOf,h]
theorem bounds_run {e:Operand→Option Value} {er:Operand→Value} {lo hi mx:Option Operand} {lo' hi' mx':Option Nat} (isS:Bool) (len cap:Nat)
 (he:∀x∈lo.toList ++ hi.toList ++ mx.toList,∀v,e x=some v→VRel ρ v (er x)) (h1:optN e lo=some lo') (h2:optN e hi=some hi') (h3:optN e mx=some mx')
 (hm:∀m,mx'=some m→m≤cap∧hi'≠none) (hh:hi'.getD len≤mx'.getD cap) (hl:lo'.getD 0≤hi'.getD len) :
 (Instr.sliceBounds isS len cap (lo.map er) (hi.map er) (mx.map er)).run P w= .ok (lo'.getD 0,hi'.getD len,mx'.getD cap) w:=by
 have opt:∀x n,optN e (some x)=some (some n)→x∈lo.toList ++ hi.toList ++ mx.toList→∃k,er x= .int k (n:Int):=fun x n h hx=>by
  simp only[optN] at h
  split at h
  ·rename_i v hv
   split at h
   ·rename_i m hm
    injection h with h;injection h with h;subst h
    obtain⟨k,rfl⟩:=nat?_spec hm
    have:=he x hx _ hv
    generalize er x=y at this ⊢
    cases this;exact⟨k,rfl⟩
   ·cases h
  ·cases h
 have opt':∀x,optN e (some x)≠some none:=fun x h=>by
  simp only[optN] at h;split at h
  ·split at h <;> simp at h
  ·cases h
 have emx:mx=none∧mx'=none∨∃x m k,mx=some x∧mx'=some m∧er x= .int k (m:Int):=by
  cases mx with
  | none=>simp[optN] at h3;exact .inl ⟨rfl,h3.symm⟩
  | some x =>
    cases mx' with
    | none=>exact absurd h3 (opt' x)
    | some m=>obtain⟨k,hk⟩:=opt x m h3 (by simp);exact .inr ⟨x,m,k,rfl,rfl,hk⟩
 have ehi:hi=none∧hi'=none∨∃x m k,hi=some x∧hi'=some m∧er x= .int k (m:Int):=by
  cases hi with
  | none=>simp[optN] at h2;exact .inl ⟨rfl,h2.symm⟩
  | some x =>
    cases hi' with
    | none=>exact absurd h2 (opt' x)
    | some m=>obtain⟨k,hk⟩:=opt x m h2 (by simp);exact .inr ⟨x,m,k,rfl,rfl,hk⟩
 have elo:lo=none∧lo'=none∨∃x m k,lo=some x∧lo'=some m∧er x= .int k (m:Int):=by
  cases lo with
  | none=>simp[optN] at h1;exact .inl ⟨rfl,h1.symm⟩
  | some x =>
    cases lo' with
    | none=>exact absurd h1 (opt' x)
    | some m=>obtain⟨k,hk⟩:=opt x m h1 (by simp);exact .inr ⟨x,m,k,rfl,rfl,hk⟩
 rcases emx with⟨rfl,rfl⟩ | ⟨xm,m,km,rfl,rfl,hkm⟩ <;> rcases ehi with⟨rfl,rfl⟩ | ⟨xh,h,kh,rfl,rfl,hkh⟩ <;> rcases elo with⟨rfl,rfl⟩ | ⟨xl,l,kl,rfl,rfl,hkl⟩ <;>
  simp only[Option.getD_some,Option.getD_none] at hh hl <;>
  simp only[Instr.sliceBounds,Option.map_some,Option.map_none,Sem.run_bind,Sem.run_pure,Result.andThen_ok,Option.getD_some,Option.getD_none, *] <;>
  (try(have:=hm _ rfl;first | exact absurd rfl this.2 | skip)) <;>
  (try simp only[bound_run (hm _ rfl).1,Result.andThen_ok]) <;> (try simp only[bound_run hh,Result.andThen_ok]) <;> (try simp only[bound_run hl,Result.andThen_ok])
theorem esOk_spec (hH:HRel P G n0 ρ H nx w) {b o c s:Nat} {p:Plc} (hp:ρ b=some p) (hc:¬c < CAP) (h:esOk P H (some ⟨b,o,none⟩) c s=true):p.es=s:=by
 unfold esOk at h
 split at h
 ·rename_i hb;rw[Nat.blt_eq] at hb;exact absurd hb hc
 ·simp only[] at h
  split at h
  ·rename_i cs n t hg
   obtain⟨p',ro,hp',hro,hor⟩:=hH.objp hp hg
   rw[hp] at hp';injection hp' with hp';subst hp'
   cases hor with
   | cells _ _ hs _ _ =>
     split at h
     ·rename_i s' hs'
      rw[hs _ hs'];exact(Nat.eq_of_beq_eq_true h).symm
     ·cases h
  ·cases h
theorem addr_map (a:Option Addr) {ρ:Ren} {a':Option Addr} (h:AR ρ a a') (d:Nat):AR ρ (a.map fun a=>⟨a.block,a.off+d,none⟩) (a'.map (·.add d)):=by
 cases h with
 | none=>exact .none
 | some h=>simp only[Option.map_some,addr_add];exact .some h
theorem lowC_le {a:Option Addr} {cap cap':Nat} (hC:CapR ρ a cap cap'):lowC cap≤cap':=by
 unfold lowC
 cases hC with
 | eq h=>rw[show Nat.blt cap CAP=true by rw[Nat.blt_eq];exact h];exact Nat.le_refl _
 | low h hl=>rw[show Nat.blt cap CAP=false by rw[Bool.eq_false_iff,ne_eq,Nat.blt_eq];omega];exact hl
theorem lowC_low {cap:Nat} (h:¬cap < CAP):lowC cap=cap-CAP:=by
 unfold lowC;rw[show Nat.blt cap CAP=false by rw[Bool.eq_false_iff,ne_eq,Nat.blt_eq];exact h]
theorem sliceC_spec {s:Nat} {a a':Option Addr} {len cap cap':Nat} {lo hi mx:Option Nat} {v:Value} (hA:AR ρ a a') (hC:CapR ρ a cap cap')
 (hes:¬cap < CAP→∀b o p,a=some ⟨b,o,none⟩→ρ b=some p→p.es=s) (h:sliceC s a len cap lo hi mx=some v) :
 (∀m,mx=some m→m≤cap'∧hi≠none)∧hi.getD len≤mx.getD cap'∧lo.getD 0≤hi.getD len∧
  VRel ρ v (.slice (if mx.getD cap'=lo.getD 0 then a' else a'.map (·.add (lo.getD 0*s))) (hi.getD len-lo.getD 0) (mx.getD cap'-lo.getD 0)):=by
 have hlow:=lowC_le hC
 have addr:∀m,AR ρ (if Nat.beq m (lo.getD 0)=true then a else a.map fun a=>⟨a.block,a.off+lo.getD 0*s,none⟩) (if m=lo.getD 0 then a' else a'.map (·.add (lo.getD 0*s))):=fun m=>by
  by_cases he:m=lo.getD 0
  ·rw[if_pos he,if_pos (by simpa using he)];exact hA
  ·rw[if_neg he,if_neg (by simpa using he)];exact addr_map a hA _
 unfold sliceC sliceD at h
 cases mx with
 | some m =>
   simp only[] at h
   split at h
   ·rename_i hb
    simp only[Bool.and_eq_true,Nat.ble_eq,Nat.blt_eq] at hb
    obtain⟨⟨⟨⟨hm,h1⟩,h2⟩,h3⟩,hs⟩:=hb
    injection h with h;subst h
    exact⟨fun m' e=>by injection e with e;subst e;exact⟨by omega,by rw[←Option.isSome_iff_ne_none];exact hs⟩,h2,h1,.sl (addr m) (.eq (by omega))⟩
   ·cases h
 | none =>
   simp only[] at h
   split at h
   ·rename_i hb
    rw[Nat.blt_eq] at hb
    have hcc:cap'=cap:=by cases hC with | eq _=>rfl | low h=>omega
    subst hcc
    split at h
    ·rename_i hb2
     simp only[Bool.and_eq_true,Nat.ble_eq] at hb2
     injection h with h;subst h
     exact⟨fun m e=>(by cases e),hb2.2,hb2.1,.sl (addr cap') (.eq (by omega))⟩
    ·cases h
   ·rename_i hb
    rw[Nat.blt_eq] at hb
    have hlc:=lowC_low hb
    split at h
    ·rename_i hb2
     simp only[Bool.and_eq_true,Bool.or_eq_true,Nat.ble_eq,Nat.blt_eq,Nat.beq_eq] at hb2
     obtain⟨⟨h1,h2⟩,h3⟩:=hb2
     injection h with h;subst h
     cases hC with
     | eq h=>exact absurd h hb
     | low hc hl ha hp hs =>
       rename_i b o sp p
       subst ha
       cases hA with
       | some hp' =>
         rw[hp] at hp';injection hp' with hp';subst hp'
         refine⟨fun m e=>(by cases e),by simp only[Option.getD_none];omega,h1,?_⟩
         simp only[Option.getD_none,Option.map_some,addr_add]
         have hes:=hes hb b o _ rfl hp
         have hcap:CapR ρ (some ⟨b,o+lo.getD 0*s,none⟩) (cap-lo.getD 0) (cap'-lo.getD 0):=by
          refine .low (by omega) (by omega) rfl hp ?_
          rw[hes] at hs ⊢
          have:lo.getD 0*s+(cap'-lo.getD 0)*s=cap'*s:=by rw[←Nat.add_mul];congr 1;omega
          omega
         split
         ·rename_i he
          have h0:lo.getD 0=0:=by omega
          rw[h0] at hcap ⊢
          simp only[Nat.zero_mul,Nat.add_zero] at hcap ⊢
          exact .sl (.some hp) hcap
         ·exact .sl (.some hp) hcap
    ·cases h
end
end Go.Proofs.YtiioegopckoldaaGreatDoor.CV
namespace Go.Proofs.YtiioegopckoldaaGreatDoor.CV
open Go Go.RowKit
section
variable {P:Program} {ρ:Ren} {w:World} {G n0 nx:Nat} {H:Tr CObj}
theorem sliceOp_run (hH:HRel P G n0 ρ H nx w) {t:TypeId} {x x' v:Value} {e:Operand→Option Value} {er:Operand→Value} {lo hi mx:Option Operand} {lo' hi' mx':Option Nat}
 (hx:VRel ρ x x') (he:∀x∈lo.toList ++ hi.toList ++ mx.toList,∀v,e x=some v→VRel ρ v (er x)) (h1:optN e lo=some lo') (h2:optN e hi=some hi') (h3:optN e mx=some mx')
 (h:sliceOp P H t x lo' hi' mx'=some v):∃v',VRel ρ v v'∧(Instr.sliceAt t x' (lo.map er) (hi.map er) (mx.map er)).run P w= .ok v' w:=by
 unfold sliceOp at h
 split at h
 ·rename_i n el hd
  split at h
  ·rename_i b o s hs
   split at h
   ·rename_i hn
    rw[Nat.blt_eq] at hn
    cases hx with
    | ptr hA =>
      cases hA with
      | some hp =>
        obtain⟨r1,r2,r3,r4⟩:=sliceC_spec (.some hp) (.eq hn) (fun hc=>absurd hn hc) h
        have hb:=bounds_run (P:=P) (w:=w) false n n he h1 h2 h3 r1 r2 r3
        refine⟨_,r4,?_⟩
        simp only[Instr.sliceAt,Sem.run_bind,Go.Proofs.YtiioegopckoldaaGreatDoor.CV.run_underlying hd,Result.andThen_ok,Instr.sureAddr,Sem.run_pure,hb,run_sizeOf hs,Option.map_some]
        split <;> rfl
   ·cases h
  ·cases h
 ·rename_i el hd
  split at h
  ·rename_i a l c s hs
   split at h
   ·rename_i hes
    cases hx with
    | sl hA hC =>
      obtain⟨r1,r2,r3,r4⟩:=sliceC_spec hA hC (fun hc b o p ha hp=>by subst ha;exact esOk_spec hH hp hc hes) h
      have hb:=bounds_run (P:=P) (w:=w) true l _ he h1 h2 h3 r1 r2 r3
      refine⟨_,r4,?_⟩
      simp only[Instr.sliceAt,Instr.slice,Sem.run_bind,Go.Proofs.YtiioegopckoldaaGreatDoor.CV.run_underlying hd,Result.andThen_ok,Sem.run_pure,hb,run_sizeOf hs]
   ·cases h
  ·cases h
 ·cases h
theorem fieldAddrC_run {t:TypeId} {x x' v:Value} {i:Nat} (hx:VRel ρ x x') (h:fieldAddrC P t x i=some v) :
 ∃v',VRel ρ v v'∧(Instr.fieldAt t x' i).run P w= .ok v' w:=by
 unfold fieldAddrC at h
 split at h
 ·rename_i fs b o hd
  split at h
  ·rename_i f hf
   split at h
   ·rename_i s hs
    injection h with h;subst h
    cases hx with
    | ptr hA =>
      cases hA with
      | some hp =>
        refine⟨_,.ptr (.some hp),?_⟩
        have hsz:=run_sizeOf (w:=w) hs
        simp[Instr.fieldAt,Go.Proofs.YtiioegopckoldaaGreatDoor.CV.run_underlying hd,hf,Instr.sureAddr,fieldPlace,hsz,addr_add]
   ·cases h
  ·cases h
 ·cases h
theorem indexAddrC_run {t:TypeId} {x x' i i' v:Value} (hx:VRel ρ x x') (hi:VRel ρ i i') (h:indexAddrC P t x i=some v) :
 ∃v',VRel ρ v v'∧(Instr.indexAt t x' i').run P w= .ok v' w:=by
 unfold indexAddrC at h
 split at h
 ·cases h
 ·rename_i n hn
  obtain⟨k,rfl⟩:=nat?_spec hn
  cases hi
  split at h
  ·rename_i len el b o hd
   split at h
   ·rename_i s hb hs
    rw[Nat.blt_eq] at hb
    injection h with h;subst h
    cases hx with
    | ptr hA =>
      cases hA with
      | some hp =>
        refine⟨_,.ptr (.some hp),?_⟩
        have:(0:Int)≤(n:Int)∧(n:Int) < (len:Int):=by omega
        simp[Instr.indexAt,asIntOf,Go.Proofs.YtiioegopckoldaaGreatDoor.CV.run_underlying hd,Instr.sureAddr,this,run_sizeOf hs,addr_add]
        omega
   ·cases h
  ·rename_i el b o len c hd
   split at h
   ·rename_i s hb hs
    rw[Nat.blt_eq] at hb
    injection h with h;subst h
    cases hx with
    | sl hA hC =>
      cases hA with
      | some hp =>
        refine⟨_,.ptr (.some hp),?_⟩
        have:(0:Int)≤(n:Int)∧(n:Int) < (len:Int):=by omega
        simp[Instr.indexAt,asIntOf,Go.Proofs.YtiioegopckoldaaGreatDoor.CV.run_underlying hd,this,run_sizeOf hs,addr_add]
        omega
   ·cases h
  ·cases h
theorem partC_run {t:TypeId} {cs cs':Array Value} {off:Nat} {v:Value} (hc:LR ρ cs.toList cs'.toList) (h:partC P t cs off=some v) :
 ∃v',VRel ρ v v'∧(part t cs' off).run P w= .ok v' w:=by
 unfold partC at h
 split at h
 ·rename_i ha
  split at h
  ·rename_i n hn
   injection h with h;subst h
   refine⟨.agg (cs'.extract off (off+n)),?_,by simp[part,run_isAgg ha,run_sizeOf hn]⟩
   refine .agg (by have:=hc.1;simp at this ⊢;omega) fun i x y hx hy=>?_
   rw[Array.getElem?_extract] at hx hy
   split at hx
   ·rename_i hlt
    have:=hc.1;simp at this
    rw[if_pos (by omega)] at hy
    exact hc.2 (off+i) x y (by simpa using hx) (by simpa using hy)
   ·cases hx
  ·cases h
 ·rename_i ha
  obtain⟨y,h1,h2⟩:=hc.get (i:=off) (by simpa using h)
  exact⟨y,h2,by simp[part,run_isAgg ha,show cs'[off]?=some y by simpa using h1]⟩
 ·cases h
theorem sameNow_ok {d:TypeDesc} {k x x':Value} {b:Bool} (hx:VRel ρ x x') (h:Instr.sameNow d k x=some b):Instr.sameNow d k x'=some b:=by
 unfold Instr.sameNow at h
 split at h <;> first | (simp at h;done) | (cases hx;simp only[Instr.sameNow];exact h)
theorem findNow_rel {d:TypeDesc} {k:Value}:∀(es es':List MapEntry) (i:Nat) (r:Option (Nat×Value)),MsR ρ es es'→Instr.findNow d k es i=some r→
 (r=none→Instr.findNow d k es' i=some none)∧(∀j v,r=some (j,v)→i≤j∧∃v' e e',es[j-i]?=some e∧es'[j-i]?=some e'∧e.val=v∧e'.val=v'∧Instr.findNow d k es' i=some (some (j,v'))∧VRel ρ v v'):=by
 intro es
 induction es with
 | nil =>
   intro es' i r hm h
   cases es' with
   | cons _ _=>exact absurd hm.1 (by simp)
   | nil=>simp[Instr.findNow] at h;subst h;exact⟨fun _=>rfl,fun j v e=>by cases e⟩
 | cons e es ih =>
   intro es' i r hm h
   cases es' with
   | nil=>exact absurd hm.1 (by simp)
   | cons e' es' =>
     obtain⟨hk,hv,hb⟩:=hm.2 0 e e' rfl rfl
     have hm':MsR ρ es es':=⟨by simpa using hm.1,fun j x y hx hy=>hm.2 (j+1) x y (by simpa using hx) (by simpa using hy)⟩
     simp only[Instr.findNow] at h ⊢
     cases hs:Instr.sameNow d k e.key with
     | none=>simp[hs] at h
     | some b =>
       rw[sameNow_ok hk hs]
       rw[hs] at h
       cases b with
       | true =>
         simp only[] at h ⊢
         injection h with h;subst h
         exact⟨fun e=>(by cases e),fun j v e1=>by injection e1 with e1;injection e1 with e1 e2;subst e1 e2;exact⟨Nat.le_refl _,_,e,e',by simp,by simp,rfl,rfl,rfl,hv⟩⟩
       | false =>
         simp only[] at h ⊢
         obtain⟨h1,h2⟩:=ih es' (i+1) r hm' h
         refine⟨h1,fun j v e1=>?_⟩
         obtain⟨hj,v',x,y,a1,a2,a3,a4,a5,a6⟩:=h2 j v e1
         have hji:j-i=(j-(i+1))+1:=by omega
         exact⟨by omega,v',x,y,by rw[hji];simpa using a1,by rw[hji];simpa using a2,a3,a4,a5,a6⟩
theorem keyOk_check {t:TypeId} {k:Value} (h:keyOk P t=true) (b:Bool):(Instr.checkKey b 10000 t k).run P w= .ok () w:=by
 unfold keyOk at h
 have:∃n,(10000:Nat)=n+1:=⟨9999,rfl⟩
 obtain⟨n,hn⟩:=this
 rw[hn]
 split at h
 ·rename_i hd;simp[Instr.checkKey,Go.Proofs.YtiioegopckoldaaGreatDoor.CV.run_underlying hd]
 ·rename_i hd;simp[Instr.checkKey,Go.Proofs.YtiioegopckoldaaGreatDoor.CV.run_underlying hd]
 ·cases h
theorem findC_run {t:TypeId} {k k':Value} {es es':List MapEntry} {r:Option (Nat×Value)} (hk:VRel ρ k k') (hm:MsR ρ es es') (h:findC P t k es=some r) :
 okV OKD k=true∧k'=k∧(∀b,(Instr.checkKey b 10000 t k').run P w= .ok () w)∧(r=none→(Instr.findKey t k' es').run P w= .ok none w)∧
  (∀j v,r=some (j,v)→∃v' e e',es[j]?=some e∧es'[j]?=some e'∧e.val=v∧e'.val=v'∧(Instr.findKey t k' es').run P w= .ok (some (j,v')) w∧VRel ρ v v'):=by
 unfold findC at h
 split at h
 ·rename_i d hd
  split at h
  ·rename_i hb
   simp only[Bool.and_eq_true] at hb
   have hkk:=okV_eq _ _ _ hb.2 hk
   subst hkk
   obtain⟨h1,h2⟩:=findNow_rel es es' 0 r hm h
   refine⟨hb.2,rfl,fun b=>keyOk_check hb.1 b,fun e=>by simp[Instr.findKey,Go.Proofs.YtiioegopckoldaaGreatDoor.CV.run_underlying hd,h1 e],fun j v e=>?_⟩
   obtain⟨_,v',x,y,a1,a2,a3,a4,a5,a6⟩:=h2 j v e
   exact⟨v',x,y,by simpa using a1,by simpa using a2,a3,a4,by simp[Instr.findKey,Go.Proofs.YtiioegopckoldaaGreatDoor.CV.run_underlying hd,a5],a6⟩
  ·cases h
 ·cases h
theorem run_getObj_map {r:Nat} {es:Array MapEntry} {cl:Nat} (h:w.heap[r]?=some (.map es cl)):(getObj r).run P w= .ok (.map es cl) w:=by simp[getObj,Sem.run,h]
theorem lookupC_run (hH:HRel P G n0 ρ H nx w) {t:TypeId} {m m' k k' v:Value} {ok:Bool} (hm:VRel ρ m m') (hk:VRel ρ k k') (h:lookupC P H t m k ok=some v) :
 ∃v',VRel ρ v v'∧(Instr.lookup t m' k' ok).run P w= .ok v' w:=by
 unfold lookupC at h
 split at h
 ·rename_i kt et hd
  split at h
  ·cases h
  ·rename_i es hes
   have hes':∃es':Array MapEntry,MsR ρ es es'.toList∧((m'= .map none∧es'= #[])∨∃r cl,m'= .map (some r)∧w.heap[r]?=some (.map es' cl)):=by
    split at hes
    ·injection hes with hes;subst hes
     cases hm with | map hm=>cases hm;exact⟨#[],⟨rfl,fun i e e' he=>by simp at he⟩,.inl ⟨rfl,rfl⟩⟩
    ·rename_i r
     split at hes
     ·rename_i es2 cl hg
      injection hes with hes;subst hes
      cases hm with
      | map hm =>
        cases hm with
        | some hp =>
          obtain⟨p',ro,hp',hro,hor⟩:=hH.objp hp hg
          rw[hp] at hp';injection hp' with hp';subst hp'
          cases hor with
          | map hms=>exact⟨_,hms,.inr ⟨_,_,rfl,hro⟩⟩
     ·cases hes
    ·cases hes
   obtain⟨es',hms,hrun⟩:=hes'
   split at h
   ·cases h
   ·rename_i i u hf
    obtain⟨_,hkk,hck,_,h2⟩:=findC_run (w:=w) hk hms hf
    obtain⟨v',e,e',_,_,_,_,hrunf,hvr⟩:=h2 i u rfl
    injection h with h
    refine⟨if ok then .tuple #[v',.bool true] else v',?_,?_⟩
    ·subst h;cases ok
     ·exact hvr
     ·exact LR.tuple (.cons hvr (.cons (.bool _) (LR.nil ρ)))
    ·rcases hrun with⟨rfl,rfl⟩ | ⟨r,cl,rfl,hro⟩
     ·simp[Instr.lookup,Go.Proofs.YtiioegopckoldaaGreatDoor.CV.run_underlying hd,hck,hrunf]
     ·simp[Instr.lookup,Go.Proofs.YtiioegopckoldaaGreatDoor.CV.run_underlying hd,hck,hrunf,run_getObj_map hro]
   ·rename_i hf
    obtain⟨_,hkk,hck,h1,_⟩:=findC_run (w:=w) hk hms hf
    split at h
    ·cases h
    ·rename_i z hz
     obtain⟨z1,z2⟩:=run_zeroValue (w:=w) hz
     injection h with h
     refine⟨if ok then .tuple #[z,.bool false] else z,?_,?_⟩
     ·subst h;cases ok
      ·exact okV_refl _ _ z2
      ·exact LR.tuple (.cons (okV_refl _ _ z2) (.cons (.bool _) (LR.nil ρ)))
     ·have hff:=h1 rfl
      rcases hrun with⟨rfl,rfl⟩ | ⟨r,cl,rfl,hro⟩
      ·simp[Instr.lookup,Go.Proofs.YtiioegopckoldaaGreatDoor.CV.run_underlying hd,hck,hff,z1]
      ·simp[Instr.lookup,Go.Proofs.YtiioegopckoldaaGreatDoor.CV.run_underlying hd,hck,hff,z1,run_getObj_map hro]
 ·cases h
end
end Go.Proofs.YtiioegopckoldaaGreatDoor.CV
