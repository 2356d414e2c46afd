/- lemmas for topRented_holds: DEA V1 V3 HR6 DEB. No conditions. -/
import Derived.Test.YtiioegopckoldaaGreatDoorK10
import Derived.Test.YtiioegopckoldaaGreatDoorK01
import Derived.Test.YtiioegopckoldaaGreatDoorK03
import Derived.Test.YtiioegopckoldaaGreatDoorK02
import Derived.Handy
import Derived.Deep.RegionHeld
import Derived.Test.YtiioegopckoldaaGreatDoorK07
import Derived.Test.YtiioegopckoldaaGreatDoorK05
import Derived.Deep.Cut
set_option linter.unusedVariables false
set_option linter.unusedSimpArgs false
namespace Go.Proofs.YtiioegopckoldaaGreatDoor
open Go.RowKit Go.Shelf Go.Maps Go.MapKept Go.ChangeMaps
set_option maxHeartbeats 1000000 in
theorem detry1_idle (p:Addr) (w:World) :
 CallsD Tryz.prog 126 #[.pointer (some p)] .returning w fun e u' w'=>e= .returned (.tuple #[])∧u'= .returning∧w'=w:=by
 refine callsD_of_wpS Tryz.func126 rfl fun c₀ cs hu=>?_
 apply wpS_seq
 apply wpS_region
 simp[wpOpsS,go_sem,recoverD,hu,Tryz.ntmps126,Exit.thenS]
 apply wpS_seq
 apply wpS_region
 simp[wpOpsS,go_sem,Exit.thenS]
 refine wpS_cond (t:=false) (by simp[Act.eval,Array.replicate]) ?_
 simp only[Bool.false_eq_true,if_false]
 refine wpS_of_wp (wp_skip ?_)
 cases c₀
 simp_all [bodyPostS,results,Tryz.results126]
theorem mapDd:MapLaw Tryz.prog 159 3 4 Value.bool ldB (fun _=>True) false:=
 mapLaw_bool Tryz.underlying3 Tryz.underlying159 Tryz.underlying4 (fun w=>by kernel_rfl)
theorem MpU.read {P:Program} {T K E:TypeId} {w:World} {b n s:Nat} {f:Int→Option Value} (h:MpU P K w b n f s) (hk:P.underlying K=some (.int .u8)) (ht:P.underlying T=some (.map K E)) {z:Value} (hz:(zeroValue E).run P w= .ok z w) {k:Int} (hkk:okU k) :
 (Instr.lookup T (.map (some b)) (.int .u8 k) false).run P w= .ok ((f k).getD z) w:=by
 obtain⟨D,h,_,hat,hhas,_⟩:=h
 obtain⟨v,ps,hrun,hv⟩:=h.lookup (int_keyed hk) ht hz (show RV z=some (.held z,[]) from rfl) (keyOf_int_mk hk (okU_wf hkk))
 rw[hat k] at hv
 rw[hrun]
 cases hf:f k with
 | none=>rw[hf] at hv;simp[RV] at hv;rw[hv.1];rfl
 | some x=>rw[hf] at hv;simp[RV] at hv;rw[hv.1];rfl
theorem Kept.setNew {R:Nat→Prop} {w W:World} (h:Kept R w W) {p:Addr} (hp:w.heap.size≤p.block) (u:Value):Kept R w (W.setCell p u):=by
 have k:=Kept.setCell W p u
 exact⟨k.os.trans h.os,k.tape.trans h.tape,k.output.trans h.output,Nat.le_trans h.size k.size,fun c hc hl=>by
  rw[k.same c (by show c≠p.block;omega) (Nat.lt_of_lt_of_le hl h.size)]
  exact h.same c hc hl⟩
theorem below_of_eqD {w w':World} (h:w=w'):Below w.heap.size w w':=h ▸ Below.refl _ _
def onNormD (N:Act→World→Prop):Exit→Act→World→Prop
 | .normal,a,w=>N a w
 | _,_,_=>False
theorem wp_normD {P:Program} {c:Code} {Q:Exit→Act→World→Prop} {a:Act} {w:World} (h:c.wp P (onNormD (fun a' W'=>Q .normal a' W')) a w):c.wp P Q a w:=by
 refine wp_mono h ?_
 intro e a' W2 h
 cases e with
 | normal=>exact h
 | ret=>exact h.elim
 | exit id=>exact h.elim
 | goto t=>exact h.elim
 | panic ch=>exact h.elim
 | outgrown=>exact h.elim
def deadB (dd:Int→Option Bool) (k:Int):Bool:=(dd k).getD false
theorem run_fieldK4 (w:World):(Instr.field 238 (.agg #[.bool true,.bool true,.bool true,.bool false,.func (.func 182) #[] #[]]) 4).run Tryz.prog w= .ok (.func (.func 182) #[] #[]) w:=by kernel_rfl
set_option maxHeartbeats 8000000 in
set_option maxRecDepth 100000 in
theorem detry4_ok (b bm base:Nat) (days e:Int) (H:Option Addr) (nh ch:Nat) (vp:Value) (ps:List Pc) (dd:Int→Option Bool) (nd sd:Nat) (d:Dv) (w:World) (hbk:Bk w b bm base days H nh ch vp ps dd nd sd) (hl:ps.length≤90000) (hch:Chain 0 ps e) (hk4:d.kind=4) (hfr:0≤d.fr∧d.fr≤9999) (hto:0≤d.to∧d.to≤9999) (h0:0≤d.tf) (ht:d.tf < d.tt) (h1:d.tt≤e) (hd1:deadB dd d.fr=false) (hd2:deadB dd d.to=false)
 (hown:∀i j,Mid d.tf d.tt ps i j→∀p∈((ofL d.tf d.tt ps).take (j+1)).drop i,p.ow=d.fr) (hfree:∀i j,Mid d.tf d.tt ps i j→∀p∈((ofL d.tf d.tt ps).take (j+1)).drop i,p.busy d.day=false) :
 Calls Tryz.prog 56 #[.pointer (some ⟨b,0,none⟩),.agg #[.int .i64 d.id,.int .i64 d.day,.int .u8 d.kind,.int .i64 d.fr,.int .i64 d.to,.int .i64 d.tf,.int .i64 d.tt,.int .i64 d.un,.slice d.h.a d.h.n d.h.c]] w fun en w'=>en= .returned (.int .u8 0)∧∃(vp':Value) (i j:Nat),Bk w' b bm base days H nh ch vp' (letR i (j+1-i) d.to d.un (ofL d.tf d.tt ps)) dd nd sd∧Kept (Bk.own b bm vp) w w'∧Lie w vp vp'∧i≤j∧j < (ofL d.tf d.tt ps).length∧Chain d.tf (((ofL d.tf d.tt ps).take (j+1)).drop i) d.tt∧Mid d.tf d.tt ps i j:=by
 obtain⟨b3,w1,e3,ew1,hx3,hb1,hz3⟩:=mk_bx w #[.int .i64 d.id,.int .i64 d.day,.int .u8 d.kind,.int .i64 d.fr,.int .i64 d.to,.int .i64 d.tf,.int .i64 d.tt,.int .i64 d.un,.slice d.h.a d.h.n d.h.c] 73
 have hx3:Bx w1 b3 d.cells:=hx3
 obtain⟨b4,w2,e4,ew2,hx4,hb2,hz4⟩:=mk_bx w1 #[.int .u8 0] 5
 have hx4:Bx w2 b4 [.int .u8 0]:=hx4
 have h34:b3+1=b4:=by rw[←e4.out,hz3]
 have hB2:=hb1.trans (hb2.mono hb1.size)
 have HX3:=hide (hx3.bel hb2);have HXr:=hide hx4;have HB2:=hide hB2;have HK0:=hide hbk;have HK2:=hide (hbk.bel hB2)
 have hoff3:=hbk.off (q:=b3) (.inl (by have:=e3.out;omega))
 have hoff4:=hbk.off (q:=b4) (.inl (by have:=e3.out;omega))
 have hge4:w.heap.size≤b4:=by have:=e3.out;omega
 have Hown:=hide hown;have Hfree:=hide hfree;have Hch:=hide hch;have Hk4:=hide hk4;have Hd1:=hide hd1;have Hd2:=hide hd2
 have hmf:∀(fn:Fn) (first cap:Array Value) (w:World),(Instr.makeFunc fn first cap).run Tryz.prog w= .ok (.func fn first cap) w:=fun _ _ _ _=>rfl
 clear hbk hx3 hx4 hb1 hb2 hB2 hz3 hz4 hown hfree hch hk4 hd1 hd2
 go_enter_defers Tryz.func56,Tryz.ntmps56
 go_upto_region 2 with fail
 rw[ew1.out,e3.out,ew2.out,h34]
 clear ew1 e3 ew2 e4
 have Hz:Hid (∀w:World,(zeroValue 238).run Tryz.prog w= .ok (.agg #[.bool false,.bool false,.bool false,.bool false,.nilFunc]) w):=hide (fun w=>by kernel_rfl)
 have BK:=HK2.out
 refine wp_normD ?_
 refine wp_region_held_drew (S:=(fun W=>Below w2.heap.size w2 W)) (by kernel_rfl) (by(try dsimp only);exact(Below.refl _ _).drew) (fun hHeld=>?_)
 generalize World.drew w2=Wd2 at hHeld ⊢
 have BK:=BK.bel hHeld
 have hbc:=Below.refl Wd2.heap.size Wd2
 iterate 4
  refine tkHl [0,1,2,4] ?_ rfl rfl (Or.inl ⟨by rfl,?_⟩) hHeld ?_
  rotate_left
  ·(intro w _;go_simp;try(with_reducible rfl))
  try simp only[Act.put,tl1,tl2,tl3]
 iterate 2
  refine tkHl [3,5] ?_ rfl rfl (Or.inl ⟨by rfl,?_⟩) hHeld ?_
  rotate_left
  ·(intro w hSw;(try dsimp only at hSw);have ym:=(HK2.out.bel hSw).bx.at_.2 3 _ rfl;obtain⟨x0,x1,x2,x3,x4,x5,x6,x7,x8⟩:=At.c9 (HX3.out.bel hSw).at_;go_simp;try(with_reducible rfl))
  try simp only[Act.put,tl1,tl2,tl3]
 refine wpAnyH_ready (rs:=[6]) (by kernel_rfl) (by simp) ?_
 refine AllReadyH.cons (o:=⟨_,_,_,_,_,_⟩) rfl (fun K hK=>?_) AllReadyH.nil
 have hlk:=BK.mp.read mapDd (k:=d.fr) (by unfold okI;omega)
 rw[show(dd d.fr).getD false=false from Hd1.out] at hlk
 go_simp
 clear hlk
 have hHeldN:=hHeld
 refine hK.out _ _ ?_ (fun hHeld2=>?_)
 ·exact hHeldN
 clear hK K hHeld hHeldN;have hHeld:=hHeld2;clear hHeld2
 try simp only[Act.put,tl1,tl2,tl3]
 iterate 6
  refine tkHl [7,8,9,10,11,13] ?_ rfl rfl (Or.inl ⟨by rfl,?_⟩) hHeld ?_
  rotate_left
  ·(intro w _;go_simp;try(with_reducible rfl))
  try simp only[Act.put,tl1,tl2,tl3]
 iterate 2
  refine tkHl [12,14] ?_ rfl rfl (Or.inl ⟨by rfl,?_⟩) hHeld ?_
  rotate_left
  ·(intro w hSw;(try dsimp only at hSw);have ym:=(HK2.out.bel hSw).bx.at_.2 3 _ rfl;obtain⟨x0,x1,x2,x3,x4,x5,x6,x7,x8⟩:=At.c9 (HX3.out.bel hSw).at_;go_simp;try(with_reducible rfl))
  try simp only[Act.put,tl1,tl2,tl3]
 refine wpAnyH_ready (rs:=[15]) (by kernel_rfl) (by simp) ?_
 refine AllReadyH.cons (o:=⟨_,_,_,_,_,_⟩) rfl (fun K hK=>?_) AllReadyH.nil
 have hlk:=BK.mp.read mapDd (k:=d.to) (by unfold okI;omega)
 rw[show(dd d.to).getD false=false from Hd2.out] at hlk
 go_simp
 clear hlk
 have hHeldN:=hHeld
 refine hK.out _ _ ?_ (fun hHeld2=>?_)
 ·exact hHeldN
 clear hK K hHeld hHeldN;have hHeld:=hHeld2;clear hHeld2
 try simp only[Act.put,tl1,tl2,tl3]
 iterate 2
  refine tkHl [16,17] ?_ rfl rfl (Or.inl ⟨by rfl,?_⟩) hHeld ?_
  rotate_left
  ·(intro w _;go_simp;try(with_reducible rfl))
  try simp only[Act.put,tl1,tl2,tl3]
 refine wpAnyH_ready (rs:=[18]) (by kernel_rfl) (by simp) ?_
 refine AllReadyH.cons (o:=⟨_,_,_,_,_,_⟩) rfl (fun K hK=>?_) AllReadyH.nil
 go_simp
 refine(deneed_ok 1 _).mono ?_
 rintro e V24 ⟨⟨v24,rfl⟩,hw⟩
 have hb:=below_of_eqD hw
 clear hw
 go_wp2_with fail
 have hHeldN:=hHeld.trans (hb.mono hHeld.size)
 have BK:=BK.bel hb
 have hbc:=hbc.trans (hb.mono hbc.size)
 refine hK.out _ _ ?_ (fun hHeld2=>?_)
 ·exact hHeldN
 clear hK K hHeld hHeldN hb;have hHeld:=hHeld2;clear hHeld2
 try simp only[Act.put,tl1,tl2,tl3]
 refine wpAnyH_done (by kernel_rfl) ?_ _
 dsimp only[onNormD]
 obtain⟨w4,hw4⟩:∃w4,w4=V24:=⟨_,rfl⟩
 rw[←hw4] at BK hHeld ⊢
 have HB4:=hide (HB2.out.trans (hHeld.mono HB2.out.size))
 have HX4:=hide (HX3.out.bel hHeld);have HXr4:=hide (HXr.out.bel hHeld)
 clear hbc hHeld hw4
 go_upto_region 3 with fail
 refine wp_normD ?_
 refine wp_region_held_drew (S:=(fun W=>Kept (fun c=>Bk.own b bm vp c) w4 W)) (by kernel_rfl) (by(try dsimp only);exact Kept.all _ (Below.refl _ _).drew) (fun hHeld=>?_)
 have hdr:Below w4.heap.size w4 (World.drew w4):=(Below.refl _ _).drew
 generalize World.drew w4=Wd3 at hHeld hdr ⊢
 have BK:=BK.bel hdr
 have hbc:=Below.refl Wd3.heap.size Wd3
 iterate 2
  refine tkHl [1,5] ?_ rfl rfl (Or.inl ⟨by rfl,?_⟩) hHeld ?_
  rotate_left
  ·(intro w _;go_simp;try(with_reducible rfl))
  try simp only[Act.put,tl1,tl2,tl3]
 iterate 2
  refine tkHl [2,6] ?_ rfl rfl (Or.inl ⟨by rfl,?_⟩) hHeld ?_
  rotate_left
  ·(intro w hSw;(try dsimp only at hSw);obtain⟨x0,x1,x2,x3,x4,x5,x6,x7,x8⟩:=At.c9 (HX4.out.kept hSw hoff3).at_;go_simp;try(with_reducible rfl))
  try simp only[Act.put,tl1,tl2,tl3]
 refine wpAnyH_ready (rs:=[0]) (by kernel_rfl) (by simp) ?_
 refine AllReadyH.cons (o:=⟨_,_,_,_,_,_⟩) rfl (fun K hK=>?_) AllReadyH.nil
 go_simp
 refine(dekinds_any _).mono ?_
 rintro e V25 ⟨bk_,s_,rfl,hM,hb⟩
 go_wp2_with fail
 have hHeldN:=hHeld.trans (Kept.all _ hb)
 have BK:=BK.bel hb
 have hbc:=hbc.trans (hb.mono hbc.size)
 refine hK.out _ _ ?_ (fun hHeld2=>?_)
 ·exact hHeldN
 clear hK K hHeld hHeldN hb;have hHeld:=hHeld2;clear hHeld2
 try simp only[Act.put,tl1,tl2,tl3]
 refine wpAnyH_ready (rs:=[3]) (by kernel_rfl) (by simp) ?_
 refine AllReadyH.cons (o:=⟨_,_,_,_,_,_⟩) rfl (fun K hK=>?_) AllReadyH.nil
 have hlk:=hM.read (T:=239) (E:=238) Tryz.underlying5 Tryz.underlying239 (Hz.out _) (k:=d.kind) (by unfold okU;have:=Hk4.out;omega)
 rw[show kindF d.kind=some (.agg #[.bool true,.bool true,.bool true,.bool false,.func (.func 182) #[] #[]]) by rw[Hk4.out];rfl] at hlk
 simp only[Option.getD_some] at hlk
 go_simp
 clear hlk
 have hHeldN:=hHeld
 refine hK.out _ _ ?_ (fun hHeld2=>?_)
 ·exact hHeldN
 clear hK K hHeld hHeldN;have hHeld:=hHeld2;clear hHeld2
 try simp only[Act.put,tl1,tl2,tl3]
 refine tkH 4 ?_ rfl (Or.inl ⟨by rfl,?_⟩) hHeld ?_
 rotate_left
 ·(intro w hSw;(try dsimp only at hSw);have hfk:=run_fieldK4 w;go_simp;try(with_reducible rfl))
 try simp only[Act.put,tl1,tl2,tl3]
 refine wpAnyH_ready (rs:=[7]) (by kernel_rfl) (by simp) ?_
 refine AllReadyH.cons (o:=⟨_,_,_,_,_,_⟩) rfl (fun K hK=>?_) AllReadyH.nil
 go_simp
 refine(derent_ok b bm base days e H nh ch vp ps dd nd sd d V25 BK hl Hch.out h0 ht h1 Hown.out Hfree.out).mono ?_
 rintro en V32 ⟨⟨v32,rfl⟩,vp',i,j,bk',k',l',hij,hjn,hmid,hM2⟩
 have HBK':=hide bk';have HK':=hide k';have HL':=hide l';have HS':=hide hHeld.size
 have Hmid:=hide hmid;have HM2:=hide hM2
 go_wp2_with fail
 have hHeldN:=hHeld.trans HK'.out
 refine hK.out _ _ ?_ (fun hHeld2=>?_)
 ·exact hHeldN
 clear hK K hHeld hHeldN hbc;have hHeld:=hHeld2;clear hHeld2
 have hbc:=Below.refl V32.heap.size V32
 try simp only[Act.put,tl1,tl2,tl3]
 refine wpAnyH_done (by kernel_rfl) ?_ _
 dsimp only[onNormD]
 have HXr5:=HXr4.out.kept hHeld hoff4
 have hKw:=hide ((Kept.all (Bk.own b bm vp) HB4.out).trans hHeld)
 have hF:=HXr5.set (j:=0) (.int .u8 0) (by simp)
 have y0:=HXr5.at_.c1
 have f0:=HXr5.fz 0
 have hsz:w.heap.size≤V32.heap.size:=hKw.out.size
 have nb4:¬b=b4:=fun e=>hoff4.1 e.symm
 have nm4:¬bm=b4:=fun e=>hoff4.2.1 e.symm
 have HLf:Hid (Lie w vp vp'):=hide (HL'.out.imp_right fun⟨q,e,hq⟩=>⟨q,e,by have:=HS'.out;have:=HB4.out.size;omega⟩)
 have nv4:∀q,vp'.ownBlock=some q→q≠b4:=fun q hq e=>by
  rcases HL'.out with h | ⟨x,h,hx⟩
  ·exact hoff4.2.2 (by rw[←h,hq,e])
  ·rw[hq] at h;injection h with h
   have:=HXr4.out.lt;have:=HS'.out;omega
 have HFB:=hide (HBK'.out.kept (Kept.setCell V32 ⟨b4,0,none⟩ (.int .u8 0)) nb4 nm4 nv4)
 have HKF:=hide (hKw.out.setNew (p:=⟨b4,0,none⟩) hge4 (.int .u8 0))
 have y9:(V32.setCell ⟨b4,0,none⟩ (.int .u8 0)).cell? ⟨b4,0,none⟩=some (.int .u8 0):=by simpa using hF.at_.2 0 _ rfl
 clear hHeld hbc HXr5 hF
 go_wp2_with fail
 refine leaves_cons (f:=126) (args:=#[.pointer (some ⟨b4,0,none⟩)]) (by simp) (by simp[go_sem]) ?_
 refine(detry1_idle ⟨b4,0,none⟩ _).mono ?_
 rintro e u' w'' ⟨rfl,rfl,rfl⟩
 simp[Leaves,settle,results,Tryz.results56,go_sem,y9]
 exact⟨vp',i,j,HFB.out,HKF.out,HLf.out,hij,hjn,Hmid.out,HM2.out⟩
end Go.Proofs.YtiioegopckoldaaGreatDoor
namespace Go.Proofs.YtiioegopckoldaaGreatDoor
open Go.RowKit Go.Shelf
structure Q4 where
 a:Int
 b:Int
 lo:Int
 hi:Int
 deriving DecidableEq
def Q4.cells (u:Q4):List Value:=[.int .i64 u.a,.int .i64 u.b,.int .i64 u.lo,.int .i64 u.hi]
theorem Q4.len (u:Q4):u.cells.length=4:=rfl
theorem Q4.one (s:Q4):∀u∈s.cells,u.oneCell'=true:=by simp[Q4.cells,Value.oneCell']
theorem Rd.q4 {w:World} {B:Nat} {A:Option Addr} {xs:List Q4} (h:Rd w B Q4.cells A xs) {i:Nat} (hi:i < xs.length) :
 ∃b off f s t u,A=some ⟨b,off,none⟩∧b < B∧xs[i]?=some ⟨f,s,t,u⟩∧w.cell? ⟨b,off+i*4,none⟩=some (.int .i64 f)∧w.cell? ⟨b,off+i*4+1,none⟩=some (.int .i64 s)∧w.cell? ⟨b,off+i*4+2,none⟩=some (.int .i64 t)∧w.cell? ⟨b,off+i*4+3,none⟩=some (.int .i64 u):=by
 obtain⟨b,off,e,hB,hc⟩:=h (by omega)
 have hx:xs[i]?=some xs[i]:=List.getElem?_eq_getElem hi
 exact⟨b,off,_,_,_,_,e,hB,hx,hc _ _ (flat_get Q4.len hx (j:=0) (by omega)),hc _ _ (flat_get Q4.len hx (j:=1) (by omega)),hc _ _ (flat_get Q4.len hx (j:=2) (by omega)),hc _ _ (flat_get Q4.len hx (j:=3) (by omega))⟩
structure SvAt (w:World) (As Am At:Option Addr) (ns nm nt:Nat) (sh:List Q4) (mk:List Us) (th:List Q4):Prop where
 rs:Rd w w.heap.size Q4.cells As sh
 rm:Rd w w.heap.size Us.cells Am mk
 rt:Rd w w.heap.size Q4.cells At th
 es:ns=sh.length
 em:nm=mk.length
 et:nt=th.length
 ns2:ns≤9223372036854775807
 nm2:nm≤9223372036854775807
 nt2:nt≤9223372036854775807
theorem SvAt.bel {w w':World} {As Am At:Option Addr} {ns nm nt:Nat} {sh:List Q4} {mk:List Us} {th:List Q4} (h:SvAt w As Am At ns nm nt sh mk th) (hb:Below w.heap.size w w'):SvAt w' As Am At ns nm nt sh mk th:=
 ⟨(h.rs.below hb).more hb.size,(h.rm.below hb).more hb.size,(h.rt.below hb).more hb.size,h.es,h.em,h.et,h.ns2,h.nm2,h.nt2⟩
end Go.Proofs.YtiioegopckoldaaGreatDoor
namespace Go.Proofs.YtiioegopckoldaaGreatDoor
open Go.RowKit Go.Shelf Go.Maps Go.MapKept Go.ChangeMaps
attribute [local go_sem] Oper.semAt_some
structure Bd where
 low:Int
 high:Int
 by_:Int
 deriving DecidableEq
def Bd.enc (b:Bd):Value:= .agg #[.int .i64 b.low,.int .i64 b.high,.int .i64 b.by_]
end Go.Proofs.YtiioegopckoldaaGreatDoor
namespace Go.Proofs.YtiioegopckoldaaGreatDoor
open Go.RowKit Go.Shelf
theorem wpList_app1h {α:Type} {cells:α→List Value} {P:Program} {T E:TypeId} {k bytes:Nat} {wr:World} {base:Nat} {v:Value} {xs:List α} {ops:Array Oper} {rest:List Oper} {o:Oper} {a:Act} {Q:Exit→Act→World→Prop} {cs:Array Value} {ty:TypeId} (L:ElLaw P T E k bytes cells) (hgd:o.guard=none) (s x:Operand)
 (ho:o.op= .call {callee:= .builtin .append,args:=#[s,x],argTypes:=#[T,T] }) (hs:a.eval s=v) (hx:a.eval x= .slice (some ⟨wr.heap.size,0,none⟩) 1 1) (hown:Own wr base E k cells v xs) (y:α) (hcs:cs.toList=cells y)
 (hlen:xs.length+1≤1000000) (hbase:base≤wr.heap.size)
 (h:∀v' w',Own w' base E k cells v' (xs ++ [y])→Kept (fun b=>¬v.ownBlock=some b) wr w'→(v'.ownBlock=v.ownBlock∨∃n,v'.ownBlock=some n∧wr.heap.size≤n)→wpList P ops Q rest (a.put o.dst v') w'):wpList P ops Q (o :: rest) a (wr.alloc (.cells cs ty)):=by
 refine wpList_app (v:=v) (xs:=xs) (ys:=[y]) (n:=1) L hgd s x ho hs (hown.alloc _) rfl hx (Rd.new wr cs ty [y] (by simpa using hcs)) hlen (by simp;omega) ?_
 intro v' w' h1 h2 h3
 exact h v' w' h1 ((Kept.alloc _ wr _).trans ((Kept.grown h2).mono fun b hb hlt e=>hlt e.symm)) (h3.imp_right fun e=>⟨_,e,by simp⟩)
end Go.Proofs.YtiioegopckoldaaGreatDoor
namespace Go.Proofs.YtiioegopckoldaaGreatDoor
open Go.RowKit Go.Shelf Go.Maps Go.MapKept Go.ChangeMaps
theorem Rd.dv {w:World} {B:Nat} {A:Option Addr} {xs:List Dv} (h:Rd w B Dv.cells A xs) {i:Nat} (hi:i < xs.length) :
 ∃b off d,A=some ⟨b,off,none⟩∧b < B∧xs[i]?=some d∧w.cell? ⟨b,off+i*9,none⟩=some (.int .i64 d.id)∧w.cell? ⟨b,off+i*9+1,none⟩=some (.int .i64 d.day)∧w.cell? ⟨b,off+i*9+2,none⟩=some (.int .u8 d.kind)∧w.cell? ⟨b,off+i*9+3,none⟩=some (.int .i64 d.fr)∧w.cell? ⟨b,off+i*9+4,none⟩=some (.int .i64 d.to)∧w.cell? ⟨b,off+i*9+5,none⟩=some (.int .i64 d.tf)∧w.cell? ⟨b,off+i*9+6,none⟩=some (.int .i64 d.tt)∧w.cell? ⟨b,off+i*9+7,none⟩=some (.int .i64 d.un)∧w.cell? ⟨b,off+i*9+8,none⟩=some (.slice d.h.a d.h.n d.h.c):=by
 obtain⟨b,off,e,hB,hc⟩:=h (by omega)
 have hx:xs[i]?=some xs[i]:=List.getElem?_eq_getElem hi
 exact⟨b,off,_,e,hB,hx,hc _ _ (flat_get Dv.len hx (j:=0) (by omega)),hc _ _ (flat_get Dv.len hx (j:=1) (by omega)),hc _ _ (flat_get Dv.len hx (j:=2) (by omega)),hc _ _ (flat_get Dv.len hx (j:=3) (by omega)),hc _ _ (flat_get Dv.len hx (j:=4) (by omega)),hc _ _ (flat_get Dv.len hx (j:=5) (by omega)),hc _ _ (flat_get Dv.len hx (j:=6) (by omega)),hc _ _ (flat_get Dv.len hx (j:=7) (by omega)),hc _ _ (flat_get Dv.len hx (j:=8) (by omega))⟩
theorem el_dv:ElLaw Tryz.prog 70 73 9 88 Dv.cells:=elLaw_of Tryz.underlying70 (z:= .agg #[.int .i64 0,.int .i64 0,.int .u8 0,.int .i64 0,.int .i64 0,.int .i64 0,.int .i64 0,.int .i64 0,.slice none 0 0]) (by kernel_rfl) rfl (by omega) (fun _=>rfl) Dv.one (by omega)
theorem dv_index (f:FuncId) (cp:Array Value) (p:Dv→Bool) (A:Option Addr) (xs:List Dv) (n c:Nat) (w:World) (hn:n=xs.length) (hm:n≤9223372036854775807)
 (eg:∀args w,(callFunc f args).run Tryz.prog w= .ok (.enter f args) w) (hx:Rd w w.heap.size Dv.cells A xs)
 (hf:∀x w',x∈xs→Below w.heap.size w w'→Calls Tryz.prog f (#[.agg #[.int .i64 x.id,.int .i64 x.day,.int .u8 x.kind,.int .i64 x.fr,.int .i64 x.to,.int .i64 x.tf,.int .i64 x.tt,.int .i64 x.un,.slice x.h.a x.h.n x.h.c]] ++ cp) w' fun e w''=>e= .returned (.bool (p x))∧Below w'.heap.size w' w'') :
 Calls Tryz.prog 173 #[.slice A n c,.func (.func f) #[] cp] w fun e w'=>e= .returned (.int .i64 (fidx p xs))∧Below w.heap.size w w':=by
 have Hn:=hide hn;clear hn
 have Hx:=hide hx;clear hx
 have Hf:=hide hf;clear hf
 go_enter Tryz.func173,Tryz.ntmps173
 go_wp2_with fail
 go_loopw [5,8] (fun v i wr=>∃k:Nat,k≤n∧i= .int .i64 k∧Below w.heap.size w wr∧Hid (∀y∈xs.take k,p y=false)) (fun _ i _=>n-(intOf i).toNat)
 case atStart=>exact⟨0,by omega,rfl,Below.refl _ _,hide (by simp)⟩
 case round=>
  obtain⟨k,hk,rfl,hb,hpre⟩:=hrel
  by_cases hlt:k < n
  ·obtain⟨b,off,x,rfl,hB,hxk,c0,c1,c2,c3,c4,c5,c6,c7,c8⟩:=(Hx.out.bel hb).dv (i:=k) (by have:=Hn.out;omega)
   have H:=hide (Hf.out x wr (List.mem_of_getElem? hxk) hb)
   have Hxk:=hide hxk
   have Hb:=hide hb
   clear hxk hb
   go_wp2_with (go_at_fn f;refine H.out.mono ?_;rintro e w' ⟨rfl,hb2⟩;have HB2:=hide (Hb.out.trans (hb2.mono Hb.out.size));clear hb2)
   ·have h1:p x=true:=by assumption
    have he:=hide (fidx_hit Hxk.out h1 hpre.out)
    clear h1
    go_ret
    exact⟨ret_int he.out.symm,HB2.out⟩
   ·have h1:p x=false:=by first | assumption | (have h2:¬(p x=true):=by assumption;simpa using h2)
    have hp:=hide (pre_snoc Hxk.out h1 hpre.out)
    clear h1
    exact⟨⟨k+1,by omega,by go_num,HB2.out,hp⟩,by simp[intOf];omega⟩
  ·obtain rfl:n=k:=by omega
   have hpr:=hpre.out
   rw[List.take_of_length_le (by have:=Hn.out;omega)] at hpr
   have he:=hide (fidx_miss hpr)
   have Hb:=hide hb
   clear hpr hb
   go_wp2
   go_ret
   exact⟨ret_int he.out.symm,Hb.out⟩
theorem dv_contains (f:FuncId) (cp:Array Value) (p:Dv→Bool) (A:Option Addr) (xs:List Dv) (n c:Nat) (w:World) (hn:n=xs.length) (hm:n≤9223372036854775807)
 (eg:∀args w,(callFunc f args).run Tryz.prog w= .ok (.enter f args) w) (hx:Rd w w.heap.size Dv.cells A xs)
 (hf:∀x w',x∈xs→Below w.heap.size w w'→Calls Tryz.prog f (#[.agg #[.int .i64 x.id,.int .i64 x.day,.int .u8 x.kind,.int .i64 x.fr,.int .i64 x.to,.int .i64 x.tf,.int .i64 x.tt,.int .i64 x.un,.slice x.h.a x.h.n x.h.c]] ++ cp) w' fun e w''=>e= .returned (.bool (p x))∧Below w'.heap.size w' w'') :
 Calls Tryz.prog 118 #[.slice A n c,.func (.func f) #[] cp] w fun e w'=>e= .returned (.bool (xs.any p))∧Below w.heap.size w w':=by
 have H:=hide (dv_index f cp p A xs n c w hn hm eg hx hf);clear hx hf hn eg
 go_enter Tryz.func118,Tryz.ntmps118
 go_wp2_with (go_at_call 173;refine H.out.mono ?_;rintro e w' ⟨rfl,hb⟩)
 go_ret
 exact⟨ret_bool (by rw[←fidx_any]),hb⟩
theorem enters_read1:∀args w,(callFunc 119 args).run Tryz.prog w= .ok (.enter 119 args) w:=enters_of Tryz.func119 (by kernel_rfl) rfl
theorem deread1_any (x:Dv) (hs:List Sp) (days:Int) (H:Option Addr) (nh ch q:Nat) (w:World) (hq:At w q [.int .i64 days,.slice H nh ch]) (hd0:0≤days) (hd1:days≤16) (h0:0≤x.kind) (h255:x.kind≤255) (hn:x.h.n=hs.length) (hm:x.h.n≤9223372036854775807) (hx:Rd w w.heap.size Sp.cells x.h.a hs) :
 Calls Tryz.prog 119 #[.agg #[.int .i64 x.id,.int .i64 x.day,.int .u8 x.kind,.int .i64 x.fr,.int .i64 x.to,.int .i64 x.tf,.int .i64 x.tt,.int .i64 x.un,.slice x.h.a x.h.n x.h.c],.pointer (some ⟨q,0,none⟩)] w fun e w'=>e= .returned (.bool (!(deOk days x hs)))∧Below w.heap.size w w':=by
 obtain⟨b1,w1,e1,ew1,hx1,hb1,hz1⟩:=mk_bx w #[.int .i64 x.id,.int .i64 x.day,.int .u8 x.kind,.int .i64 x.fr,.int .i64 x.to,.int .i64 x.tf,.int .i64 x.tt,.int .i64 x.un,.slice x.h.a x.h.n x.h.c] 73
 have hx1:Bx w1 b1 x.cells:=hx1
 have H1:=hide (devalid_any days H nh ch x hs w1 hd0 hd1 h0 h255 hn hm (hx.bel hb1))
 have HB:=hide hb1
 obtain⟨q0,q1⟩:=(hq.below hb1).c2
 obtain⟨x0,x1,x2,x3,x4,x5,x6,x7,x8⟩:=At.c9 hx1.at_
 clear hb1 hx1 hz1 hx hn hm
 go_enter Tryz.func119,Tryz.ntmps119
 go_upto_region 1 with fail
 rw[ew1.out,e1.out]
 clear ew1 e1
 go_wp2_with fail
 refine H1.out.mono ?_
 rintro e w2 ⟨rfl,hb2⟩
 have HB2:=hide (HB.out.trans (hb2.mono HB.out.size))
 clear hb2
 go_wp2_with fail
 go_ret
 exact⟨rfl,HB2.out⟩
theorem eql_heirs_nil (w:World):(binOp .eql 71 (.slice none 0 0) (.slice none 0 0)).run Tryz.prog w= .ok (.bool true) w:=by kernel_rfl
theorem declone_nil (w:World):Calls Tryz.prog 122 #[.slice none 0 0] w fun e w'=>e= .returned (.slice none 0 0)∧w=w':=by
 have h:=eql_heirs_nil
 go_enter Tryz.func122,Tryz.ntmps122
 go_wp2
 go_ret
 exact⟨rfl,rfl⟩
theorem wpList_mapMkV {P:Program} {ops:Array Oper} {rest:List Oper} {o:Oper} {a:Act} {w:World} {Q:Exit→Act→World→Prop} {T:TypeId} (hg:o.guard=none) (hop:o.op=Op.makeMap T none)
 (h:∀b w',Hid (w.heap.size=b)→Hid (w.alloc (.map #[] 0)=w')→wpList P ops Q rest (a.put o.dst (.map (some b))) w'):wpList P ops Q (o :: rest) a w:=by
 refine wpList_plain hg fun K hK=>?_
 unfold Oper.wp
 simp[execOp,hop,run_makeMap,Result.andThen]
 exact hK _ _ (h _ _ (hide rfl) (hide rfl))
def OrdOk (ds:List Dv):Prop:=∀(v:Value) (base bb:Nat) (w:World),Own w base 73 9 Dv.cells v ds→At w bb [.func (.func 124) #[] #[],.func (.func 125) #[] #[]]→
 Calls Tryz.prog 123 #[v,.slice (some ⟨bb,0,none⟩) 2 2] w fun e w'=>e= .returned v∧Below w.heap.size w w'
set_option maxHeartbeats 8000000 in
set_option maxRecDepth 100000 in
theorem deread_fresh (days:Int) (H A:Option Addr) (nh ch n c:Nat) (hs:List Us) (ds:List Dv) (w:World) (hro:rollsOk days hs=true) (hnh:nh=hs.length) (hnh2:nh≤9223372036854775807) (hxh:Rd w w.heap.size Us.cells H hs) (hA:Rd w w.heap.size Dv.cells A ds) (hn:n=ds.length) (hn6:n≤60)
 (hval:∀d∈ds,deOk days d []=true∧d.h=⟨none,0,0⟩∧0≤d.kind∧d.kind≤255) (hdist:∀(j k:Nat) (x y:Dv),j < k→ds[j]?=some x→ds[k]?=some y→x.id≠y.id) (hord:OrdOk ds) :
 Calls Tryz.prog 54 #[.agg #[.int .i64 days,.slice H nh ch],.slice A n c] w fun e w'=>∃v,e= .returned (.tuple #[v,.int .i64 0])∧Own w' w.heap.size 73 9 Dv.cells v ds∧Below w.heap.size w w':=by
 have hAr:=hA
 obtain⟨b2,w1,e1,ew1,hx1,hb1,hz1⟩:=mk_bx w #[.int .i64 days,.slice H nh ch] 58
 have hx1:At w1 b2 [.int .i64 days,.slice H nh ch]:=hx1.at_
 have hdays:0≤days∧days≤16:=by
  have:=hro
  simp only[rollsOk,inB,Bool.and_eq_true,decide_eq_true_eq] at this
  omega
 have HC:=hide (deCheck_any days H nh ch hs w1 hnh hnh2 (hxh.bel hb1))
 have he0:rollsErr days hs=0:=by simp[rollsErr,hro]
 rw[he0] at HC
 have HB1:=hide hb1;have HX1:=hide hx1;have HA1:=hide (hA.bel hb1);have Hn:=hide hn;have HAr:=hide hAr;have Hval:=hide hval;have Hdist:=hide hdist;have Hord:=hide hord
 obtain⟨q0,q1⟩:=hx1.c2
 clear hxh hx1 hb1 hz1 hnh hro he0 hA hAr hn hval hdist hord
 go_enter Tryz.func54,Tryz.ntmps54
 go_upto_region 1 with fail
 rw[ew1.out,e1.out]
 clear ew1 e1
 go_wp2_with fail
 refine HC.out.mono ?_
 rintro e w2 ⟨rfl,hb2⟩
 have HB2:=hide (HB1.out.trans (hb2.mono HB1.out.size))
 have HX2:=hide (HX1.out.below hb2);have HA2:=hide (HA1.out.bel hb2)
 clear q0 q1 hb2 HC
 have hcn:=dv_contains 119 #[.pointer (some ⟨b2,0,none⟩)] (fun d=>!(deOk days d [])) A ds n c w2 Hn.out (by omega) enters_read1 HA2.out (fun x w' hx hb=>by
  obtain⟨_,h2,h3,h4⟩:=Hval.out x hx
  exact deread1_any x [] days H nh ch b2 w' (HX2.out.below hb) hdays.1 hdays.2 h3 h4 (by rw[h2];rfl) (by rw[h2];show 0≤_;omega) (Rd.nil _ _ _ _))
 have hno:ds.any (fun d=>!(deOk days d []))=false:=by
  rw[List.any_eq_false]
  intro d hd
  rw[(Hval.out d hd).1]
  simp
 rw[hno] at hcn
 have Hcn:=hide hcn
 have hn60:decide (60 < (n:Int))=false:=decide_eq_false (by omega)
 clear hcn hno
 go_wp2_with fail
 refine Hcn.out.mono ?_
 rintro e w3 ⟨rfl,hb3⟩
 have HB3:=hide (HB2.out.trans (hb3.mono HB2.out.size))
 have HA3:=hide (HA2.out.bel hb3)
 clear hb3 Hcn
 go_upto_region 8 with fail
 go_wp2_with (refine wpList_mapMkV rfl rfl ?_;intro bk w4 hbk hw4)
 have hm4:=MpV.made w3 Tryz.prog 3
 have hb4:Below w3.heap.size w3 (w3.alloc (.map #[] 0)):=below_new _ _
 rw[hw4.out,hbk.out] at hm4
 rw[hw4.out] at hb4
 have hge4:w.heap.size≤bk:=by have:=HB3.out.size;have:=hbk.out;omega
 have HB4:=hide (HB3.out.trans (hb4.mono HB3.out.size))
 have HA4:=hide (HA3.out.bel hb4)
 have HM4:=hide hm4
 clear hm4 hb4 hw4 hbk
 go_loopw [8,27] (fun ov iv wr=>∃(k:Nat) (f:Int→Option Value) (sz:Nat) (v:Value),v=ov∧k≤n∧iv= .int .i64 k∧Hid (Own wr w.heap.size 73 9 Dv.cells v (ds.take k))∧Hid (MpV Tryz.prog 3 wr bk k f sz)∧Hid (∀i,(f i).isSome=true→∃(j:Nat) (d:Dv),j < k∧ds[j]?=some d∧d.id=i)∧Hid (∀g,v.ownBlock=some g→g≠bk)∧Hid (Below w.heap.size w wr)) (fun _ iv _=>n-(intOf iv).toNat)
 case atStart=>exact⟨0,_,_,_,rfl,by omega,rfl,hide (Own.nil _ _ _ _ _),HM4,hide (fun i h=>by cases h),hide (fun g e=>by cases e),HB4⟩
 case round=>
  obtain⟨k,f,sz,v,rfl,hk,rfl,ho,hmp,hdom,hnb,hB⟩:=hrel
  obtain⟨wo,rfl⟩:∃wo,wo=wr:=⟨wr,rfl⟩
  by_cases hlt:k < n
  ·obtain⟨b,off,x,rfl,hBb,hxk,d0,d1,d2,d3,d4,d5,d6,d7,d8⟩:=(HAr.out.below hB.out).dv (i:=k) (by have:=Hn.out;omega)
   obtain⟨hv1,hv2,_,_⟩:=Hval.out x (List.mem_of_getElem? hxk)
   have hid:0≤x.id∧x.id≤9999:=by
    simp only[deOk,inB,Bool.and_eq_true,decide_eq_true_eq] at hv1
    omega
   have hfn:f x.id=none:=by
    cases h:f x.id with
    | none=>rfl
    | some y =>
      obtain⟨j,d,hj,hd,he⟩:=hdom.out x.id (by rw[h];rfl)
      exact absurd he (Hdist.out j k d x hj hd hxk)
   have Hxk:=hide hxk;have Hfn:=hide hfn
   obtain⟨id,day,kind,fr,to,tf,tt,un,h⟩:=x
   simp only at hv2 hid hfn d0 d1 d2 d3 d4 d5 d6 d7 d8
   subst hv2
   obtain⟨b10,w5,e5,ew5,hx5,hb5,hz5⟩:=mk_bx wo #[.int .i64 id,.int .i64 day,.int .u8 kind,.int .i64 fr,.int .i64 to,.int .i64 tf,.int .i64 tt,.int .i64 un,.slice none 0 0] 73
   have hx5:Bx w5 b10 [.int .i64 id,.int .i64 day,.int .u8 kind,.int .i64 fr,.int .i64 to,.int .i64 tf,.int .i64 tt,.int .i64 un,.slice none 0 0]:=hx5
   obtain⟨b11,w6,e6,ew6,hx6,hb6,hz6⟩:=mk_bx w5 #[.int .i64 0,.int .i64 0,.int .u8 0,.int .i64 0,.int .i64 0,.int .i64 0,.int .i64 0,.int .i64 0,.slice none 0 0] 73
   have HX5:=hide (hx5.bel hb6)
   have hge5:w.heap.size≤b10:=by have:=hB.out.size;have:=e5.out;omega
   have HB6:=hide (hB.out.trans ((hb5.trans (hb6.mono hb5.size)).mono hB.out.size))
   have HO6:=hide ((ho.out.bel hb5).bel hb6)
   have hmk:bk < wo.heap.size:=hmp.out.lt
   have hnk:b10≠bk:=by have:=e5.out;omega
   have hno:∀g,v.ownBlock=some g→g≠b10:=fun g hg e=>by have:=(ho.out.blockG hg).2;have:=e5.out;omega
   have HM5:=hide (hmp.out.bel hb5)
   have HM6:=hide ((hmp.out.bel hb5).bel hb6)
   have Hzz:Hid (∀w:World,(zeroValue 73).run Tryz.prog w= .ok (.agg #[.int .i64 0,.int .i64 0,.int .u8 0,.int .i64 0,.int .i64 0,.int .i64 0,.int .i64 0,.int .i64 0,.slice none 0 0]) w):=hide (fun w=>by kernel_rfl)
   have hko:okI id:=by unfold okI;omega
   obtain⟨x0,x1,x2,x3,x4,x5,x6,x7,x8⟩:=At.c9 hx5.at_
   clear hx5 hb5 hz5 hx6 hb6 hz6 hxk hfn hv1
   go_upto_region 13 with fail
   rw[ew5.out,e5.out]
   clear d0 d1 d2 d3 d4 d5 d6 d7 d8 ew5 e5
   go_upto_region 14 with(refine wpList_mapLookV rfl (.tmp 32) (.tmp 34) rfl Tryz.underlying3 Tryz.underlying225 (Hzz.out _) HM5.out rfl id rfl hko ?_;rw[Hfn.out];simp only[Option.getD_none,Option.isSome_none])
   rw[ew6.out]
   clear x0 x1 x2 x3 x4 x5 x6 x7 x8 ew6 e6
   obtain⟨x0,x1,x2,x3,x4,x5,x6,x7,x8⟩:=At.c9 HX5.out.at_
   have xf:=HX5.out.fz 8
   go_wp2_with fail
   refine(declone_nil w6).mono ?_
   rintro e w' ⟨rfl,rfl⟩
   have HX6:=hide (show Bx (w6.setCell ⟨b10,8,none⟩ (.slice none 0 0)) b10 [.int .i64 id,.int .i64 day,.int .u8 kind,.int .i64 fr,.int .i64 to,.int .i64 tf,.int .i64 tt,.int .i64 un,.slice none 0 0] by simpa using HX5.out.set (j:=8) (.slice none 0 0) (by simp))
   have HM7:=hide (HM6.out.keptR (Kept.setCell w6 ⟨b10,8,none⟩ (.slice none 0 0)) (fun e=>hnk e.symm))
   have HO7:=hide (HO6.out.keptG (Kept.setCell w6 ⟨b10,8,none⟩ (.slice none 0 0)) hno)
   have HB7:=hide (HB6.out.setCell (p:=⟨b10,8,none⟩) hge5 (.slice none 0 0))
   go_upto_region 18 with fail
   clear x0 x1 x2 x3 x4 x5 x6 x7 x8 xf
   generalize w6.setCell ⟨b10,8,none⟩ (.slice none 0 0)=w7 at HX6 HM7 HO7 HB7 ⊢
   obtain⟨x0,x1,x2,x3,x4,x5,x6,x7,x8⟩:=At.c9 HX6.out.at_
   go_upto_region 19 with(refine wpList_mapWriteV rfl (.tmp 51) (.tmp 53) (.tmp 54) rfl Tryz.underlying3 Tryz.underlying225 HM7.out (by omega) rfl id rfl hko _ rfl ?_;intro w8 hM8 hg8;have HM8:=hide hM8;have HG8:=hide (Kept.grown hg8);clear hM8 hg8)
   clear x0 x1 x2 x3 x4 x5 x6 x7 x8
   have HX8:=hide (HX6.out.kept HG8.out (fun e=>hnk (by injection e)))
   have HO8:=hide (HO7.out.keptG HG8.out (fun g hg e=>hnb.out g hg (by injection e)))
   have HB8:=hide (HB7.out.trans (HG8.out.below (B:=w.heap.size) (fun c hc e=>by injection e;omega) HB7.out.size))
   obtain⟨x0,x1,x2,x3,x4,x5,x6,x7,x8⟩:=At.c9 HX8.out.at_
   have hlen:(ds.take k).length+1≤1000000:=by rw[List.length_take];omega
   have hsz8:=HB8.out.size
   go_wp2_with (at_builtin;go_loud (refine wpList_app1h (v:=v) (xs:=ds.take k) (base:=w.heap.size) (k:=9) (bytes:=88) (E:=73) el_dv rfl (.tmp 55) (.tmp 57) rfl rfl rfl HO8.out (⟨id,day,kind,fr,to,tf,tt,un,⟨none,0,0⟩⟩:Dv) rfl hlen hsz8 ?_;intro v' w10 o10 k10 hat;have O10:=hide o10;have K10:=hide k10;have Hat:=hide hat;clear o10 k10 hat))
   have hsn:=take_snoc Hxk.out
   rw[←hsn] at O10
   have HM10:=hide (HM8.out.keptR K10.out (fun e=>hnb.out bk e rfl))
   have HB10:=hide (HB8.out.trans (K10.out.below (fun c hc e=>by have:=(HO8.out.blockG e).1;omega) hsz8))
   exact⟨⟨k+1,_,_,v',rfl,by omega,by go_num,O10,HM10,hide (fun i hi=>by
    by_cases e:i=id
    ·exact⟨k,_,by omega,Hxk.out,e.symm⟩
    ·obtain⟨j,d,hj,hd,he⟩:=hdom.out i (by simpa[upd,e] using hi)
     exact⟨j,d,by omega,hd,he⟩),hide (fun g hg e=>by
    rcases Hat.out with h | ⟨q,h,hq⟩
    ·exact hnb.out g (by rw[←h];exact hg) e
    ·rw[hg] at h;injection h with h
     have:=HM8.out.lt;omega),HB10⟩,by simp[intOf];omega⟩
  ·obtain rfl:n=k:=by omega
   have hof:=ho.out
   rw[List.take_of_length_le (by have:=Hn.out;omega)] at hof
   obtain⟨b6,w6,e6,ew6,o6,hb6,_⟩:=mk_obj wo #[.func (.func 124) #[] #[],.func (.func 125) #[] #[]] 232
   have hat6:At w6 b6 [.func (.func 124) #[] #[],.func (.func 125) #[] #[]]:=⟨o6.lt,fun j v hj=>cell_row o6.at_ (by simpa using hj)⟩
   have HO6:=hide (hof.bel hb6)
   have HR:=hide (Hord.out v w.heap.size b6 w6 (hof.bel hb6) hat6)
   have HB6:=hide (hB.out.trans (hb6.mono hB.out.size))
   clear hof hat6 o6 hb6 ho
   go_upto_region 21 with fail
   go_wp2_with fail
   rw[ew6.out,e6.out]
   refine HR.out.mono ?_
   rintro e w7 ⟨rfl,hb7⟩
   have HB7:=hide (HB6.out.trans (hb7.mono HB6.out.size))
   have HO7:=hide (HO6.out.bel hb7)
   clear hb7
   go_wp2_with fail
   go_returns
   exact⟨v,rfl,HO7.out,HB7.out⟩
end Go.Proofs.YtiioegopckoldaaGreatDoor
