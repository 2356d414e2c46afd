/- lemmas for topFed_holds: C11. No conditions. -/
import Derived.Test.YtiioegopckoldaaGreatDoorK26
import Derived.Test.YtiioegopckoldaaGreatDoorK04
import Derived.Test.YtiioegopckoldaaGreatDoorK08
import Derived.Deep.RegionHeld3
import Derived.Deep.DrawnRows
import Derived.Handy
set_option linter.unusedVariables false
set_option linter.unusedSimpArgs false
namespace Go.Proofs.YtiioegopckoldaaGreatDoor
open Go.RowKit Go.Shelf
attribute [local go_sem] Oper.semAt_some
attribute [local go_sem ↓] Go.wp_at_zero Go.wp_at_succ
abbrev MI (w:World) (L b n:Nat) (f:Int→Option Int) (W:World):Prop:=MBox Tryz.prog 3 3 ldI w L b n f W
theorem keepC11_of {W:World} {Wz:World} {bL bm bU bn:Nat} {Ac Af:Option Addr} {nc cc nf cf:Nat} {dry days uf uf0 ut:Int} (h0:At W (bL) [.map (some bm)]) (h1:At W (bU) [.int .i64 uf,.int .i64 uf0,.int .i64 ut]) (h2:At W (bn) [.slice Ac nc cc,.slice Af nf cf,.int .i64 dry,.int .i64 days]) (x0:Below Wz.heap.size Wz W):W.cell? ⟨bL,0,none⟩=some (.map (some bm))∧W.cell? ⟨bU,0,none⟩=some (.int .i64 uf)∧W.cell? ⟨bU,1,none⟩=some (.int .i64 uf0)∧W.cell? ⟨bU,2,none⟩=some (.int .i64 ut)∧W.cell? ⟨bn,0,none⟩=some (.slice Ac nc cc)∧W.cell? ⟨bn,1,none⟩=some (.slice Af nf cf)∧W.cell? ⟨bn,2,none⟩=some (.int .i64 dry)∧W.cell? ⟨bn,3,none⟩=some (.int .i64 days)∧At W (bL) [.map (some bm)]∧At W (bU) [.int .i64 uf,.int .i64 uf0,.int .i64 ut]∧At W (bn) [.slice Ac nc cc,.slice Af nf cf,.int .i64 dry,.int .i64 days]∧Below Wz.heap.size Wz W:=⟨(h0.2 0 _ rfl),(h1.2 0 _ rfl),(h1.2 1 _ rfl),(h1.2 2 _ rfl),(h2.2 0 _ rfl),(h2.2 1 _ rfl),(h2.2 2 _ rfl),(h2.2 3 _ rfl),h0,h1,h2,x0⟩
theorem keepC11 {W W':World} {Wz:World} {bL bm bU bn:Nat} {Ac Af:Option Addr} {nc cc nf cf:Nat} {dry days uf uf0 ut:Int} (hb:Below W.heap.size W W') (h:W.cell? ⟨bL,0,none⟩=some (.map (some bm))∧W.cell? ⟨bU,0,none⟩=some (.int .i64 uf)∧W.cell? ⟨bU,1,none⟩=some (.int .i64 uf0)∧W.cell? ⟨bU,2,none⟩=some (.int .i64 ut)∧W.cell? ⟨bn,0,none⟩=some (.slice Ac nc cc)∧W.cell? ⟨bn,1,none⟩=some (.slice Af nf cf)∧W.cell? ⟨bn,2,none⟩=some (.int .i64 dry)∧W.cell? ⟨bn,3,none⟩=some (.int .i64 days)∧At W (bL) [.map (some bm)]∧At W (bU) [.int .i64 uf,.int .i64 uf0,.int .i64 ut]∧At W (bn) [.slice Ac nc cc,.slice Af nf cf,.int .i64 dry,.int .i64 days]∧Below Wz.heap.size Wz W):W'.cell? ⟨bL,0,none⟩=some (.map (some bm))∧W'.cell? ⟨bU,0,none⟩=some (.int .i64 uf)∧W'.cell? ⟨bU,1,none⟩=some (.int .i64 uf0)∧W'.cell? ⟨bU,2,none⟩=some (.int .i64 ut)∧W'.cell? ⟨bn,0,none⟩=some (.slice Ac nc cc)∧W'.cell? ⟨bn,1,none⟩=some (.slice Af nf cf)∧W'.cell? ⟨bn,2,none⟩=some (.int .i64 dry)∧W'.cell? ⟨bn,3,none⟩=some (.int .i64 days)∧At W' (bL) [.map (some bm)]∧At W' (bU) [.int .i64 uf,.int .i64 uf0,.int .i64 ut]∧At W' (bn) [.slice Ac nc cc,.slice Af nf cf,.int .i64 dry,.int .i64 days]∧Below Wz.heap.size Wz W':=by
 obtain⟨_,_,_,_,_,_,_,_,h0,h1,h2,x0⟩:=h
 exact keepC11_of (h0.below hb) (h1.below hb) (h2.below hb) (x0.trans (hb.mono x0.size))
theorem keepC11_drew {W:World} {Wz:World} {bL bm bU bn:Nat} {Ac Af:Option Addr} {nc cc nf cf:Nat} {dry days uf uf0 ut:Int} (h:W.cell? ⟨bL,0,none⟩=some (.map (some bm))∧W.cell? ⟨bU,0,none⟩=some (.int .i64 uf)∧W.cell? ⟨bU,1,none⟩=some (.int .i64 uf0)∧W.cell? ⟨bU,2,none⟩=some (.int .i64 ut)∧W.cell? ⟨bn,0,none⟩=some (.slice Ac nc cc)∧W.cell? ⟨bn,1,none⟩=some (.slice Af nf cf)∧W.cell? ⟨bn,2,none⟩=some (.int .i64 dry)∧W.cell? ⟨bn,3,none⟩=some (.int .i64 days)∧At W (bL) [.map (some bm)]∧At W (bU) [.int .i64 uf,.int .i64 uf0,.int .i64 ut]∧At W (bn) [.slice Ac nc cc,.slice Af nf cf,.int .i64 dry,.int .i64 days]∧Below Wz.heap.size Wz W):W.drew.cell? ⟨bL,0,none⟩=some (.map (some bm))∧W.drew.cell? ⟨bU,0,none⟩=some (.int .i64 uf)∧W.drew.cell? ⟨bU,1,none⟩=some (.int .i64 uf0)∧W.drew.cell? ⟨bU,2,none⟩=some (.int .i64 ut)∧W.drew.cell? ⟨bn,0,none⟩=some (.slice Ac nc cc)∧W.drew.cell? ⟨bn,1,none⟩=some (.slice Af nf cf)∧W.drew.cell? ⟨bn,2,none⟩=some (.int .i64 dry)∧W.drew.cell? ⟨bn,3,none⟩=some (.int .i64 days)∧At W.drew (bL) [.map (some bm)]∧At W.drew (bU) [.int .i64 uf,.int .i64 uf0,.int .i64 ut]∧At W.drew (bn) [.slice Ac nc cc,.slice Af nf cf,.int .i64 dry,.int .i64 days]∧Below Wz.heap.size Wz W.drew:=by
 obtain⟨_,_,_,_,_,_,_,_,h0,h1,h2,x0⟩:=h
 exact keepC11_of h0.drew h1.drew h2.drew (x0.drew)
theorem keepC11_boxes {W:World} {Wz:World} {bL bm bU bn:Nat} {Ac Af:Option Addr} {nc cc nf cf:Nat} {dry days uf uf0 ut:Int} (h:W.cell? ⟨bL,0,none⟩=some (.map (some bm))∧W.cell? ⟨bU,0,none⟩=some (.int .i64 uf)∧W.cell? ⟨bU,1,none⟩=some (.int .i64 uf0)∧W.cell? ⟨bU,2,none⟩=some (.int .i64 ut)∧W.cell? ⟨bn,0,none⟩=some (.slice Ac nc cc)∧W.cell? ⟨bn,1,none⟩=some (.slice Af nf cf)∧W.cell? ⟨bn,2,none⟩=some (.int .i64 dry)∧W.cell? ⟨bn,3,none⟩=some (.int .i64 days)∧At W (bL) [.map (some bm)]∧At W (bU) [.int .i64 uf,.int .i64 uf0,.int .i64 ut]∧At W (bn) [.slice Ac nc cc,.slice Af nf cf,.int .i64 dry,.int .i64 days]∧Below Wz.heap.size Wz W):At W (bL) [.map (some bm)]∧At W (bU) [.int .i64 uf,.int .i64 uf0,.int .i64 ut]∧At W (bn) [.slice Ac nc cc,.slice Af nf cf,.int .i64 dry,.int .i64 days]∧Below Wz.heap.size Wz W:=by
 obtain⟨_,_,_,_,_,_,_,_,h0,h1,h2,x0⟩:=h
 exact⟨h0,h1,h2,x0⟩
structure DI (w0 B bn:Nat) (Ac Af Au:Option Addr) (nc cc nf cf:Nat) (dry days:Int) (cs:List Ca) (fs:List Int) (us:List Us) (ds:List Nat) (n:Nat) (f:Int→Option Int) (wr:World):Prop where
 box:At wr (w0+1) [.map (some w0)]
 mp:∃s,Mp Tryz.prog 3 3 ldI wr w0 n f s
 net:At wr bn [.slice Ac nc cc,.slice Af nf cf,.int .i64 dry,.int .i64 days]
 rcs:Rd wr B Ca.cells Ac cs
 rfs:Rd wr B icell Af fs
 rus:Rd wr B Us.cells Au us
 def_:DefOk (w0+2) ds wr
 big:B≤w0
theorem DI.kept {w0 B bn:Nat} {Ac Af Au:Option Addr} {nc cc nf cf:Nat} {dry days:Int} {cs:List Ca} {fs:List Int} {us:List Us} {ds:List Nat} {n:Nat} {f:Int→Option Int} {wr w':World} {R:Nat→Prop} (h:DI w0 B bn Ac Af Au nc cc nf cf dry days cs fs us ds n f wr) (hk:Kept R wr w')
 (h1:R w0) (h2:R (w0+1)) (h3:R bn) (h4:∀b,b < B→R b) (h5:∀D∈ds,R D):DI w0 B bn Ac Af Au nc cc nf cf dry days cs fs us ds n f w':=
 have hs:B≤wr.heap.size:=by have:=h.box.1;have:=h.big;omega
 let⟨s,hs'⟩:=h.mp
 ⟨h.box.kept hk h2,⟨s,hs'.keptR hk h1⟩,h.net.kept hk h3,h.rcs.kept hk h4 hs,h.rfs.kept hk h4 hs,h.rus.kept hk h4 hs,h.def_.kept hk h5,h.big⟩
set_option maxHeartbeats 4000000 in
set_option maxRecDepth 100000 in
theorem dries1_seq (n:Nat) (hn:6≤n) (bu bn:Nat) (Ac Af Au:Option Addr) (nc cc nf cf nu cu:Nat) (dry days:Int) (cs:List Ca) (fs:List Int) (us:List Us) (B:Nat) (wa:World) (hB:B≤wa.heap.size) (hbn:bn < wa.heap.size) (hbu:bu < wa.heap.size)
 (hnet:At wa bn [.slice Ac nc cc,.slice Af nf cf,.int .i64 dry,.int .i64 days]) (hub:At wa bu [.slice Au nu cu]) (hcs:Rd wa B Ca.cells Ac cs) (hfs:Rd wa B icell Af fs) (hus:Rd wa B Us.cells Au us) (hnc:nc=cs.length) (hnf:nf=fs.length) (hnu:nu=us.length)
 (hok:netOk cs fs dry days=true) (huo:usesOk nf days us=true) :
 SeqX n Tryz.prog 158 #[.pointer (some ⟨bu,0,none⟩),.pointer (some ⟨bn,0,none⟩)]
  (fun B0 k X G args W=>∃uf uf0 ut v,us[k]?=some ⟨uf,uf0,ut⟩∧args= #[.agg #[.int .i64 uf,.int .i64 uf0,.int .i64 ut],v]∧Own W B0 3 1 icell v (dryL cs fs dry (days*1440) us k)∧(∀g,v.ownBlock=some g→G g∧¬X g))
  us.length False (fun _ _=>False) (fun _=>False) (fun b=>b < B∨b=bn∨b=bu) wa:=by
 intro l J Jx W hW hJ hJx hY h0 hinf
 have HJ:=hide hJ;have HJx:=hide hJx;have HY:=hide hY;have H0:=hide h0
 have Hnet:=hide (hnet.kept hW (.inr (.inl rfl)));have Hub:=hide (hub.kept hW (.inr (.inr rfl)))
 have Hcs:=hide (hcs.kept hW (fun _ h=> .inl h) hB);have Hfs:=hide (hfs.kept hW (fun _ h=> .inl h) hB);have Hus:=hide (hus.kept hW (fun _ h=> .inl h) hB)
 have hBW:B≤W.heap.size:=Nat.le_trans hB hW.size
 have hsW:wa.heap.size≤W.heap.size:=hW.size
 clear hJ hJx hY h0 hinf hnet hub hcs hfs hus hW
 have hul:=usesOk_len huo
 have hcl:=(netOk_parts hok).1
 have hfl:=(netOk_parts hok).2.1
 have hdy:=(netOk_parts hok).2.2.2.1
 have hdr:=(netOk_parts hok).2.2.1
 have Hnc:=hide hnc;have Hnf:=hide hnf;have Hnu:=hide hnu;have Hok:=hide hok;have Huo:=hide huo
 have hnu2:nu≤60:=by omega
 have hnc2:nc≤16:=by omega
 have hnf2:nf≤12:=by omega
 clear hnc hnf hnu hok huo hul hcl hfl
 obtain⟨w1,Hw1⟩:∃w1,Hid ((W.alloc (.map #[] 0)).alloc (.cells #[.map (some W.heap.size)] 97)=w1):=⟨_,hide rfl⟩
 have hinv1:MI W (W.heap.size+1) W.heap.size 0 (carr cs fs (days*1440) us 0) w1:=by
  rw[←Hw1.out]
  exact⟨At.new (W.alloc _) #[.map (some W.heap.size)] _ _ (by simp) _ rfl,⟨0,(Mp.made W Tryz.prog 3 3 ldI).alloc _⟩,(below_new _ _).alloc (by simp) _⟩
 have u0:=(Hub.out.below hinv1.bl).c1
 rw[←Hw1.out] at u0
 have hmm:=@run_makeMap Tryz.prog
 refine callsIn_of_wp_marks Tryz.func158 rfl trivial ?_ rfl
 simp only[Tryz.ntmps158,List.size_toArray,List.length_cons,List.length_nil,Nat.reduceAdd,Nat.reduceSub,Array.replicate_succ,Array.replicate_zero,List.push_toArray,List.append_toArray,List.nil_append,List.cons_append]
 gi_wp2_with fail
 rw[Hw1.out]
 clear hmm u0
 refine wpIn_loop_rounds (nu+1) (rounds_of (fun r a wr=>∃(k:Nat) (ds:List Nat),k+r=nu+1∧k≤nu∧(a.tmps.size=76∧a.defers=ds.map coll∧slot a 0= .func (.yield l) #[] #[]∧slot a 1= .pointer (some ⟨bu,0,none⟩)∧slot a 2= .pointer (some ⟨bn,0,none⟩)∧slot a 4= .pointer (some ⟨W.heap.size+1,0,none⟩)∧slot a 13= .map (some W.heap.size)∧slot a 14= .slice Au nu cu∧slot a 15= .int .i64 nu∧slot a 16= .int .i64 k)∧
  MI W (W.heap.size+1) W.heap.size (16*k) (carr cs fs (days*1440) us k) wr∧DefOk (W.heap.size+2) ds wr) ?_ ?_ (nu+1) _ _ ⟨0,[],by omega,by omega,(by and_intros <;> first | rfl | trivial),hinv1,DefOk.nil _ _⟩)
 ·rintro a wr ⟨k,ds,hk,hk2,_⟩
  omega
 ·rintro r a wr ⟨k,ds,hk,hk2,⟨hs,hd,s0,s1,s2,s4,s13,s14,s15,s16⟩,hinv,hds⟩
  rw[act_eq hs hd]
  obtain⟨u,hu⟩:∃u,u=slot a:=⟨_,rfl⟩
  rw[←hu] at s0 s1 s2 s4 s13 s14 s15 s16 ⊢
  have he:({tmps:=((List.range 76).map u).toArray,defers:=ds.map coll }:Act)={tmps:=#[(u 0),(u 1),(u 2),(u 3),(u 4),(u 5),(u 6),(u 7),(u 8),(u 9),(u 10),(u 11),(u 12),(u 13),(u 14),(u 15),(u 16),(u 17),(u 18),(u 19),(u 20),(u 21),(u 22),(u 23),(u 24),(u 25),(u 26),(u 27),(u 28),(u 29),(u 30),(u 31),(u 32),(u 33),(u 34),(u 35),(u 36),(u 37),(u 38),(u 39),(u 40),(u 41),(u 42),(u 43),(u 44),(u 45),(u 46),(u 47),(u 48),(u 49),(u 50),(u 51),(u 52),(u 53),(u 54),(u 55),(u 56),(u 57),(u 58),(u 59),(u 60),(u 61),(u 62),(u 63),(u 64),(u 65),(u 66),(u 67),(u 68),(u 69),(u 70),(u 71),(u 72),(u 73),(u 74),(u 75)],defers:=ds.map coll }:=rfl
  rw[he,s0,s1,s2,s4,s13,s14,s15,s16]
  clear he hs hd hu s0 s1 s2 s4 s13 s14 s15 s16
  have hb:=hinv.bl
  have Hinv:=hide hinv;have Hds:=hide hds
  obtain⟨q0,q1,q2,q3⟩:=(Hnet.out.below hb).c4
  have hsz:=hb.size
  have hbnw:bn < wr.heap.size:=(Hnet.out.below hb).1
  have hbm:=hinv.ltb
  have hbL:=hinv.ltL
  by_cases hlt:k < nu
  ·obtain⟨b,off,uf,uf0,ut,hA,hbB,hx,c0,c1,c2⟩:=(Hus.out.keep (fun p hp=>hb.cell (p:=p) (by omega))).us (i:=k) (by have:=Hnu.out;omega)
   subst hA
   have hum:=usesOk_mem Huo.out (List.mem_of_getElem? hx)
   simp only at hum
   obtain⟨⟨f0,f1⟩,t0,t1,t2⟩:=hum
   obtain⟨j,rfl⟩:∃j:Nat,uf=j:=⟨uf.toNat,by omega⟩
   obtain⟨w2,Hw2⟩:∃w2,Hid (wr.alloc (.cells #[.int .i64 j,.int .i64 uf0,.int .i64 ut] 119)=w2):=⟨_,hide rfl⟩
   have hb2:Below wr.heap.size wr w2:=by rw[←Hw2.out];exact below_new _ _
   have hz2:w2.heap.size=wr.heap.size+1:=by rw[←Hw2.out];simp
   have hub2:At w2 wr.heap.size [.int .i64 j,.int .i64 uf0,.int .i64 ut]:=by rw[←Hw2.out];exact At.new _ _ _ _ rfl _ rfl
   obtain⟨w3,Hw3⟩:∃w3,Hid ((w2.alloc (.cells #[.slice Ac nc cc,.slice Af nf cf,.int .i64 dry,.int .i64 days] 122)).alloc (.cells #[.int .i64 j] 3)=w3):=⟨_,hide rfl⟩
   have hb3:Below w2.heap.size w2 w3:=by rw[←Hw3.out];exact(below_new _ _).alloc (by simp) _
   have hz3:w3.heap.size=w2.heap.size+2:=by rw[←Hw3.out];simp
   have hb23:=hb2.trans (hb3.mono hb2.size)
   have hbW3:=hb.trans (hb23.mono hb.size)
   have hnet3:At w3 w2.heap.size [.slice Ac nc cc,.slice Af nf cf,.int .i64 dry,.int .i64 days]:=by rw[←Hw3.out];exact(At.new w2 #[.slice Ac nc cc,.slice Af nf cf,.int .i64 dry,.int .i64 days] _ _ rfl _ rfl).alloc _
   have hfd3:At w3 (w2.heap.size+1) [.int .i64 j]:=by rw[←Hw3.out];exact At.new (w2.alloc _) #[.int .i64 j] _ _ (by simp) _ rfl
   have hj:=nodeF_of Hok.out (k:=j) (by have:=Hnf.out;omega)
   have hseq:=fun n hn=>up1_seq n hn B w2.heap.size (w2.heap.size+1) Ac Af nc cc nf cf dry days cs fs j (nodeF fs j) w3 (by have:=hbW3.size;omega) (by omega) (by omega) hnet3 hfd3 (Hcs.out.keep (fun p hp=>hbW3.cell (p:=p) (by omega))) (Hfs.out.keep (fun p hp=>hbW3.cell (p:=p) (by omega))) Hnc.out Hnf.out (by omega) (by omega) (netOk_frm Hok.out) hj.1 hj.2
   have i1:wr.heap.size < w2.heap.size:=by omega
   have i2:w2.heap.size+1 < w3.heap.size:=by omega
   have hR:∀b,(b < B∨b=w2.heap.size∨b=w2.heap.size+1)→b < w3.heap.size∧¬b=W.heap.size:=by intro b hb;omega
   have Hul:=hide (upK_len cs fs Hok.out (k:=(j:Int)) f0 (by rw[←Hnf.out];exact f1))
   have Hur:=hide (fun (x:Int) (hx:x∈upK cs fs j)=>show okI x by
    have h2:=upK_okI Hok.out (k:=(j:Int)) f0 (by rw[←Hnf.out];exact f1) hx
    have:=Hnc.out
    unfold okI;omega)
   have Hx:=hide hx
   have Hinv3:=hide ((Hinv.out.kept (Kept.all (fun _=>True) hb23) trivial trivial (fun _ _=>trivial)))
   have Hds3:=hide (Hds.out.kept (Kept.all (fun _=>True) hb23) (fun _ _=>trivial))
   have Hub3:=hide (hub2.below hb3)
   have Hnet3:=hide (Hnet.out.below hbW3)
   clear hz2 hz3 hx hinv hds hub2 hfd3 hnet3
   gi_wp2_with fail
   rw[Hw2.out]
   refine⟨trivial,fun h=>by simp[Fence.wide] at h,?_⟩
   refine(callsIn_wide.2 (up_any Ac Af nc cc nf cf dry days j w2)).mono ?_
   rintro e w5 ⟨rfl,hw5⟩
   rw[Hw3.out] at hw5
   subst hw5
   clear q0 q1 q2 q3 c0 c1 c2
   gi_wp2_with fail
   obtain⟨L,hL⟩:∃L,L=upF cs (nodeF fs j) (nodeF fs j):=⟨_,rfl⟩
   rw[←hL] at hseq
   have hL':L=upK cs fs j:=hL
   rw[←hL'] at Hul Hur
   have HL:=hide hL'
   clear hL hL' hj
   have E1:=hide enters_up1
   have hn1:3≤n-1:=by omega
   refine wp_range (gf:=202) rfl E1.out (hseq _ hn1) (Kept.all _ (Below.refl _ _)) (fun _=>rfl) (fun b=>b=W.heap.size)
    (fun b h=>h.elim) (by intro b hb;omega) hR
    (fun i Wz=>MI W (W.heap.size+1) W.heap.size (16*k+i) (carrJ (L.take i) (ut-days*1440) (carr cs fs (days*1440) us k)) Wz∧At Wz wr.heap.size [.int .i64 j,.int .i64 uf0,.int .i64 ut]∧DefOk (W.heap.size+2) ds Wz)
    (fun c i Wz=>False)
    (fun i a' _=>a'={tmps:=#[.func (.yield l) #[] #[],.pointer (some ⟨bu,0,none⟩),.pointer (some ⟨bn,0,none⟩),(u 3),.pointer (some ⟨W.heap.size+1,0,none⟩),(u 5),.pointer (some ⟨wr.heap.size,0,none⟩),.int .i64 (L.getD i 0),(u 8),(u 9),(u 10),(u 11),(u 12),.map (some W.heap.size),.slice (some ⟨b,off,none⟩) nu cu,.int .i64 nu,.int .i64 k,.bool true,.pointer (some ⟨b,off+k*3,none⟩),.agg #[.int .i64 j,.int .i64 uf0,.int .i64 ut],.agg #[.slice Ac nc cc,.slice Af nf cf,.int .i64 dry,.int .i64 days],.pointer (some ⟨wr.heap.size,0,none⟩),.int .i64 j,.func (.func 202) #[] #[.pointer (some ⟨w2.heap.size,0,none⟩),.pointer (some ⟨w2.heap.size+1,0,none⟩)],.int .i64 (L.getD i 0),(u 25),(u 26),(u 27),(u 28),(u 29),(u 30),(u 31),(u 32),(u 33),(u 34),(u 35),(u 36),(u 37),(u 38),(u 39),(u 40),(u 41),(u 42),(u 43),(u 44),(u 45),(u 46),(u 47),(u 48),(u 49),(u 50),(u 51),(u 52),(u 53),(u 54),(u 55),(u 56),(u 57),(u 58),(u 59),(u 60),(u 61),(u 62),(u 63),(u 64),(u 65),(u 66),(u 67),(u 68),(u 69),(u 70),(u 71),(u 72),(u 73),(u 74),(u 75)],defers:=[] })
    (fun i A B h hk=>⟨h.1.kept hk ⟨fun h=>h,by omega,by omega⟩ ⟨fun h=>h,by omega,by omega⟩ (by intro b hb;exact⟨fun h=>h,by omega,by omega⟩),h.2.1.kept hk ⟨fun h=>h,by omega,by omega⟩,h.2.2.kept hk (fun D hD=>by have:=Hds3.out.lt hD;exact⟨fun h=>h,by omega,by omega⟩)⟩)
    (fun c i A B h hk=>h) (fun i a' A B h hk=>h)
    (fun Wz hk hs=>⟨(Hinv3.out.congr (by omega) (fun c=>carrJ_nil _ _ c)).kept hk trivial trivial (fun _ _=>trivial),Hub3.out.kept hk trivial,Hds3.out.kept hk (fun _ _=>trivial)⟩)
    (fun h=>h.elim) ?assign ?body ?done ?stop ?panic
   case panic=>intro i chain Wz h;exact h.elim
   case stop=>intro c i Wz hk h;exact h.elim
   case assign=>
    intro l i Wz hi hlen' hk
    gi_wp2
    exact⟨Kept.refl _ _,hi,by rw[show L.getD i 0=L[i] from by simp[List.getD_eq_getElem?_getD,hk]]⟩
   case body=>
    rintro l i a' Wz ⟨hinv,hub,hds⟩ rfl hlen' hkn
    have hx:L[i]?=some (L.getD i 0):=by rw[List.getD_eq_getElem?_getD,List.getElem?_eq_getElem hkn];rfl
    obtain⟨x,hxe⟩:∃x,x=L.getD i 0:=⟨_,rfl⟩
    rw[←hxe] at hx ⊢
    have Hxi:=hide hx
    obtain⟨s,hmp⟩:=hinv.mp
    have Hmp:=hide hmp;have Hinv:=hide hinv;have Hub:=hide hub;have Hds:=hide hds
    have c0:=hinv.box.c1
    obtain⟨q0,q1,q2⟩:=hub.c3
    obtain⟨p0,p1,p2,p3⟩:=(Hnet.out.below hinv.bl).c4
    have hi17:16*k+i < 1000000:=by have:=Hul.out;omega
    have Hok2:=hide (Hur.out x (List.mem_of_getElem? hx))
    have hlt1:=hinv.ltb
    have hwr: -9223372036854775808≤ut-days*1440∧ut-days*1440≤9223372036854775807:=by omega
    clear hx hxe hmp hinv hub hds
    gi_wp2_with fail
    have HS:=hide (keepC11_of Hinv.out.box Hub.out (Hnet.out.below Hinv.out.bl) (Below.refl Wz.heap.size Wz))
    clear c0 q0 q1 q2 p0 p1 p2 p3
    refine wpIn_region_S (S:=(fun W1=>W1.cell? ⟨W.heap.size+1,0,none⟩=some (.map (some W.heap.size))∧W1.cell? ⟨wr.heap.size,0,none⟩=some (.int .i64 j)∧W1.cell? ⟨wr.heap.size,1,none⟩=some (.int .i64 uf0)∧W1.cell? ⟨wr.heap.size,2,none⟩=some (.int .i64 ut)∧W1.cell? ⟨bn,0,none⟩=some (.slice Ac nc cc)∧W1.cell? ⟨bn,1,none⟩=some (.slice Af nf cf)∧W1.cell? ⟨bn,2,none⟩=some (.int .i64 dry)∧W1.cell? ⟨bn,3,none⟩=some (.int .i64 days)∧At W1 (W.heap.size+1) [.map (some W.heap.size)]∧At W1 (wr.heap.size) [.int .i64 j,.int .i64 uf0,.int .i64 ut]∧At W1 (bn) [.slice Ac nc cc,.slice Af nf cf,.int .i64 dry,.int .i64 days]∧Below Wz.heap.size Wz W1)) (z:=8) (by kernel_rfl) (by(try dsimp only);exact keepC11_drew HS.out) (fun hHeld=>?_)
    iterate 6
     refine tkSl [0,1,2,3,4,5] ?_ rfl rfl (Or.inl ⟨by rfl,?_⟩) hHeld ?_
     rotate_left
     ·(intro w hSw;(try dsimp only at hSw);go_simp;try(with_reducible rfl))
     try simp only[Act.put,tl1,tl2,tl3]
    refine wpAnyS_ready (rs:=[6]) (by kernel_rfl) (by simp) ?_
    refine AllS.cons (o:=⟨_,_,_,_,_,_⟩) rfl (fun _=>trivial) (fun K hK=>?_) AllS.nil
    go_simp
    refine round_call ((cycle_any Ac Af nc cc nf cf dry days _ (by omega) (by omega)).mono ?_)
    rintro e w' ⟨rfl,hb⟩
    gi_wp2_with fail
    refine hK.out _ _ ?_ (fun hHeld2=>?_)
    ·intro _;(try dsimp only)
     (repeat(first | exact HS.out | assumption | refine keepC11_drew ?_ | refine keepC11 hb ?_ | refine keepC11 (below_new _ _) ?_))
    clear hK K hHeld;have hHeld:=hHeld2 (by decide);clear hHeld2
    try simp only[Act.put,tl1,tl2,tl3]
    refine tkS 7 ?_ rfl (Or.inl ⟨by rfl,?_⟩) hHeld ?_
    rotate_left
    ·(intro w hSw;(try dsimp only at hSw);go_simp;try(with_reducible rfl))
    try simp only[Act.put,tl1,tl2,tl3]
    refine wpAnyS_ready (rs:=[8]) (by kernel_rfl) (by simp) ?_
    refine AllS.cons (o:=⟨_,_,_,_,_,_⟩) rfl (fun _=>trivial) (fun K hK=>?_) AllS.nil
    rw[if_pos (by rfl)]
    have hbz:=(keepC11_boxes hHeld).2.2.2
    refine opIn_mapWrite _ _ _ rfl mapI (Hmp.out.below hbz hlt1) hi17 rfl x rfl Hok2.out (ut-days*1440) (by first | rfl | (simp[Act.eval,wrapI hwr];done)) (by unfold okI;omega) ?_
    intro w7 hmp7 hg7
    refine hK.out _ _ (fun h=>absurd rfl h) (fun _=>?_)
    clear hK K hHeld
    try simp only[Act.put,tl1,tl2,tl3]
    refine wpAnyS_done (by kernel_rfl) ?_ _
    have hk0:Kept (fun b=>True) Wz _:=Kept.all _ hbz
    have hp:=(Hinv.out.kept hk0 trivial trivial (fun _ _=>trivial)).put (n':=16*k+(i+1)) (f':=carrJ (L.take (i+1)) (ut-days*1440) (carr cs fs (days*1440) us k)) (hmp7.mono (by omega)) hg7 (by omega) (Nat.le_refl _) (fun c=>by rw[take_snoc Hxi.out];exact carrJ_snoc _ _ _ _ _)
    have hub7:=((Hub.out.below hbz).kept hp.2 (by omega))
    have hds7:=(Hds.out.kept hk0 (fun _ _=>trivial)).kept hp.2 (fun D hD=>by have:=(Hds.out.open_ D hD).1;omega)
    have hk7:Kept (fun b=>¬b=W.heap.size) Wz w7:=(hk0.mono fun _ _ _=>trivial).trans hp.2
    gi_wp2_with fail
    exact⟨hk7.mono fun b _ hb=>hb.2,hp.1,hub7,hds7⟩
   case done=>
    rintro Wz ⟨hinv,hub,hds⟩ hD
    rw[List.take_length] at hinv
    obtain⟨D,hDe⟩:∃D,D=w5.heap.size:=⟨_,rfl⟩
    rw[←hDe] at hD ⊢
    have hnm:D∉ds:=fun h=>by have:=Hds3.out.lt h;omega
    have hds2:=hds.cons hD (by omega) hnm
    have hc:=carr_succ (cs:=cs) (fs:=fs) (cyc:=days*1440) Hx.out
    simp only at hc
    have hinv2:MI W (W.heap.size+1) W.heap.size (16*(k+1)) (carr cs fs (days*1440) us (k+1)) Wz:=by
     rw[hc,←HL.out]
     exact hinv.congr (by have:=Hul.out;omega) (fun _=>rfl)
    have Hinv2:=hide hinv2;have Hds2:=hide hds2
    clear hinv hub hds hD hDe hnm hds2 hc hinv2
    gi_wp2_with fail
    exact⟨k+1,D :: ds,by omega,by omega,(by and_intros <;> first | rfl | trivial),Hinv2.out,Hds2.out⟩
  ·obtain rfl:nu=k:=by omega
   have hinv0:DI W.heap.size B bn Ac Af Au nc cc nf cf dry days cs fs us ds (16*nu+16*0) (fK cs fs dry (days*1440) us 0) wr:=by
    obtain⟨s,hmp⟩:=Hinv.out.mp
    have hf:fK cs fs dry (days*1440) us 0=carr cs fs (days*1440) us nu:=by unfold fK;rw[Hnu.out];rfl
    rw[hf]
    exact⟨Hinv.out.box,⟨s,hmp.mono (by omega)⟩,Hnet.out.below hb,Hcs.out.keep (fun p hp=>hb.cell (p:=p) (by omega)),Hfs.out.keep (fun p hp=>hb.cell (p:=p) (by omega)),Hus.out.keep (fun p hp=>hb.cell (p:=p) (by omega)),Hds.out,hBW⟩
   have hj0:J 0 (fun b=>b=W.heap.size∨b=W.heap.size+1∨b∈ds) wr:=
    HJ.out 0 (fun _=>False) _ W wr H0.out (Kept.all _ hb) (fun b hx=> .inr (by rcases hx with h | h | h;omega;omega;(have:=(Hds.out.open_ b h).1;omega)))
   obtain⟨XX,hXX⟩:∃XX:Nat→Prop,XX=fun b=>b=W.heap.size∨b=W.heap.size+1∨b∈ds:=⟨_,rfl⟩
   rw[←hXX] at hj0
   have x1:XX W.heap.size:=by rw[hXX];exact .inl rfl
   have x2:XX (W.heap.size+1):=by rw[hXX];exact .inr (.inl rfl)
   have x3:∀D∈ds,XX D:=fun D hD=>by rw[hXX];exact .inr (.inr hD)
   have x4:∀b,XX b→W.heap.size≤b∧b < wr.heap.size:=fun b hb'=>by
    rw[hXX] at hb'
    rcases hb' with h | h | h
    ·omega
    ·omega
    ·have:=(Hds.out.open_ b h).1;have:=Hds.out.lt h;omega
   have hds0:∀D∈ds,W.heap.size+2≤D:=fun D hD=>(Hds.out.open_ D hD).1
   have hwr0:W.heap.size+2≤wr.heap.size:=by omega
   have Hinv0:=hide hinv0;have Hj0:=hide hj0;have X3:=hide x3;have X4:=hide x4;have Hds0:=hide hds0
   have c0:=(Hub.out.below hb).c1
   clear hinv hds hinv0 hj0 hXX Hinv Hds x3 x4 hds0 q0 q1 q2 q3 hbm hbL hbnw
   gi_wp2_with fail
   clear c0
   obtain⟨w0,hw0⟩:∃w0,w0=wr.heap.size:=⟨_,rfl⟩
   have Hw0:=hide hw0
   rw[←hw0] at X4 hwr0 hsz
   clear hb hw0
   refine wpIn_loop_rounds (nu+1) (rounds_of (fun r a wr=>∃k:Nat,k+r=nu+1∧k≤nu∧(a.tmps.size=76∧a.defers=ds.map coll∧slot a 0= .func (.yield l) #[] #[]∧slot a 1= .pointer (some ⟨bu,0,none⟩)∧slot a 2= .pointer (some ⟨bn,0,none⟩)∧slot a 4= .pointer (some ⟨W.heap.size+1,0,none⟩)∧slot a 34= .slice Au nu cu∧slot a 35= .int .i64 nu∧slot a 36= .int .i64 k)∧
    DI W.heap.size B bn Ac Af Au nc cc nf cf dry days cs fs us ds (16*nu+16*k) (fK cs fs dry (days*1440) us k) wr∧J k XX wr∧w0≤wr.heap.size) ?_ ?_ (nu+1) _ _ ⟨0,by omega,by omega,(by and_intros <;> first | rfl | trivial),Hinv0.out,Hj0.out,by have:=Hw0.out;omega⟩)
   ·rintro a wr ⟨k,hk,hk2,_⟩
    omega
   ·clear Hinv0 Hj0 Hw0
    clear wr
    rintro r a wo ⟨k,hk,hk2,⟨hs,hd,s0,s1,s2,s4,s34,s35,s36⟩,hinv,hj,hw0⟩
    rw[act_eq hs hd]
    obtain⟨u,hu⟩:∃u,u=slot a:=⟨_,rfl⟩
    rw[←hu] at s0 s1 s2 s4 s34 s35 s36 ⊢
    have he:({tmps:=((List.range 76).map u).toArray,defers:=ds.map coll }:Act)={tmps:=#[(u 0),(u 1),(u 2),(u 3),(u 4),(u 5),(u 6),(u 7),(u 8),(u 9),(u 10),(u 11),(u 12),(u 13),(u 14),(u 15),(u 16),(u 17),(u 18),(u 19),(u 20),(u 21),(u 22),(u 23),(u 24),(u 25),(u 26),(u 27),(u 28),(u 29),(u 30),(u 31),(u 32),(u 33),(u 34),(u 35),(u 36),(u 37),(u 38),(u 39),(u 40),(u 41),(u 42),(u 43),(u 44),(u 45),(u 46),(u 47),(u 48),(u 49),(u 50),(u 51),(u 52),(u 53),(u 54),(u 55),(u 56),(u 57),(u 58),(u 59),(u 60),(u 61),(u 62),(u 63),(u 64),(u 65),(u 66),(u 67),(u 68),(u 69),(u 70),(u 71),(u 72),(u 73),(u 74),(u 75)],defers:=ds.map coll }:=rfl
    rw[he,s0,s1,s2,s4,s34,s35,s36]
    clear he hs hd hu s0 s1 s2 s4 s34 s35 s36
    have Hinv:=hide hinv;have Hj:=hide hj
    clear hinv hj
    by_cases hlt:k < nu
    ·have hszB:B≤wo.heap.size:=by have:=Hinv.out.big;omega
     obtain⟨b,off,uf,uf0,ut,hA,hbB,hx,c0,c1,c2⟩:=Hinv.out.rus.us (i:=k) (by have:=Hnu.out;omega)
     subst hA
     have hum:=usesOk_mem Huo.out (List.mem_of_getElem? hx)
     simp only at hum
     obtain⟨⟨f0,f1⟩,t0,t1,t2⟩:=hum
     have htm:=timesIn_fK Huo.out hdy cs fs dry k
     obtain⟨w2,Hw2⟩:∃w2,Hid (wo.alloc (.cells #[.int .i64 uf,.int .i64 uf0,.int .i64 ut] 119)=w2):=⟨_,hide rfl⟩
     have hb2:Below wo.heap.size wo w2:=by rw[←Hw2.out];exact below_new _ _
     have i1:wo.heap.size < w2.heap.size:=by rw[←Hw2.out];simp
     have hub2:At w2 wo.heap.size [.int .i64 uf,.int .i64 uf0,.int .i64 ut]:=by rw[←Hw2.out];exact At.new _ _ _ _ rfl _ rfl
     have hnet2:=Hinv.out.net.below hb2
     obtain⟨q0,q1,q2,q3⟩:=Hinv.out.net.c4
     obtain⟨p0,p1,p2,p3⟩:=hnet2.c4
     obtain⟨z0,z1,z2⟩:=hub2.c3
     rw[←Hw2.out] at p0 p1 p2 p3
     have hna:NetAt w2 Ac Af nc nf cs fs:=⟨((Hinv.out.rcs.keep (fun p hp=>hb2.cell (p:=p) (by omega)))).more (by omega),((Hinv.out.rfs.keep (fun p hp=>hb2.cell (p:=p) (by omega)))).more (by omega),Hnc.out,Hnf.out,by omega,by omega⟩
     have Hpath:=hide (path_net Ac Af nc cc nf cf dry days cs fs uf w2 hna Hok.out f0 f1)
     have Hpl:=hide (pathK_len cs fs Hok.out (k:=uf) f0 (by rw[←Hnf.out];exact f1))
     have Hpr:=hide (fun (x:Int) (hx:x∈pathK cs fs uf)=>show 0≤x∧x < cs.length from by
      have h:x∈upK cs fs uf:=by simpa[pathK,pathF,upK] using hx
      exact upK_okI Hok.out (k:=uf) f0 (by rw[←Hnf.out];exact f1) h)
     have Hx:=hide hx;have Htm:=hide htm;have Hub2:=hide hub2;have Hb2:=hide hb2
     have hnc16:cs.length≤16:=by have:=Hnc.out;omega
     clear hx htm hub2 hnet2 hna z0 z1 z2
     gi_wp2_with fail
     rw[Hw2.out]
     refine⟨trivial,fun h=>by simp[Fence.wide] at h,?_⟩
     refine(callsIn_wide.2 Hpath.out).mono ?_
     rintro e w3 ⟨vp,rfl,hp,hb3⟩
     have hbp:∀g,vp.ownBlock=some g→w2.heap.size≤g∧g < w3.heap.size:=fun g hg=>by
      rcases hp.block_ with h | ⟨g',h,h1,h2⟩
      ·rw[h] at hg;cases hg
      ·rw[h] at hg;injection hg with hg;subst hg;exact⟨h1,h2⟩
     obtain⟨Ap,cp,hvp,hrp⟩:=hp.rd
     have Hp:=hide hp;have Hbp:=hide hbp;have Hvp:=hide hvp
     rw[hvp]
     have hb23:Below wo.heap.size wo w3:=Hb2.out.trans (hb3.mono Hb2.out.size)
     have hi3:w2.heap.size≤w3.heap.size:=hb3.size
     have Hinv3:=hide (Hinv.out.kept (Kept.all (fun _=>True) hb23) trivial trivial trivial (fun _ _=>trivial) (fun _ _=>trivial))
     have Hub3:=hide (Hub2.out.below hb3)
     have Hb23:=hide hb23
     obtain⟨m,hm⟩:∃m,m=(pathK cs fs uf).length:=⟨_,rfl⟩
     rw[←hm]
     have Hm:=hide hm
     have hm16:m≤16:=by have:=Hpl.out;omega
     clear hp hbp hvp hrp hb23 hb3 hm c0 c1 c2 q0 q1 q2 q3 p0 p1 p2 p3
     gi_wp2_with fail
     gi_loopw [10,45] (fun v i wq=>∃j:Nat,i= .int .i64 j∧j≤m∧Own wq w3.heap.size 3 1 icell v (drySt dry ⟨uf,uf0,ut⟩ (fK cs fs dry (days*1440) us k) ((pathK cs fs uf).take j)).1∧(∃s,Mp Tryz.prog 3 3 ldI wq W.heap.size (16*nu+16*k+j) (drySt dry ⟨uf,uf0,ut⟩ (fK cs fs dry (days*1440) us k) ((pathK cs fs uf).take j)).2 s)∧Kept (fun b=>b < w3.heap.size∧¬b=W.heap.size) w3 wq) (fun _ i _=>m-(intOf i).toNat)
     case atStart=>exact⟨0,rfl,by omega,Own.nil _ _ _ _ _,Hinv3.out.mp,Kept.refl _ _⟩
     case round=>
      obtain⟨j,rfl,hj,hown,⟨s,hmp⟩,hk⟩:=hrel
      have Hown:=hide hown;have Hmp:=hide hmp;have Hk:=hide hk
      have hszr:=hk.size
      have hnet4:=Hinv3.out.net.kept hk
      have c0:=(Hinv3.out.box.kept hk ⟨by omega,by omega⟩).c1
      have hbn3:¬bn=W.heap.size:=by omega
      obtain⟨q0,q1,q2,q3⟩:=(Hinv3.out.net.kept hk ⟨Hinv3.out.net.1,hbn3⟩).c4
      obtain⟨z0,z1,z2⟩:=(Hub3.out.kept hk ⟨by omega,by omega⟩).c3
      obtain⟨Ar,cr,hvr,hrr⟩:=(Hp.out.keptB hk (fun g hg=>by have:=Hbp.out g hg;omega)).rd
      have hvv:=Hvp.out.symm.trans hvr
      injection hvv with e1 e2 e3
      subst e1
      by_cases hlt2:j < m
      ·obtain⟨b2,off2,x,hA2,hbB2,hx2,y0⟩:=hrr.int (i:=j) (by rw[←Hm.out];exact hlt2)
       subst hA2
       have hxr:=Hpr.out x (List.mem_of_getElem? hx2)
       have hst:=drySt_snoc (dry:=dry) (u:=⟨uf,uf0,ut⟩) (f:=fK cs fs dry (days*1440) us k) hx2
       obtain⟨l1,f1',hlf⟩:∃l1 f1',drySt dry ⟨uf,uf0,ut⟩ (fK cs fs dry (days*1440) us k) ((pathK cs fs uf).take j)=(l1,f1'):=⟨_,_,rfl⟩
       rw[hlf] at Hmp Hown hst
       have htf:timesIn f1':=by
        have h:=timesIn_drySt (u:=⟨uf,uf0,ut⟩) (by simp only;omega) dry ((pathK cs fs uf).take j) ([],fK cs fs dry (days*1440) us k) Htm.out
        unfold drySt at hlf
        rw[hlf] at h
        exact h
       have htg:=timesIn_get htf x
       obtain⟨g,hg⟩:∃g,g=(f1' x).getD 0:=⟨_,rfl⟩
       rw[←hg] at htg
       have Hg:=hide hg
       have Hxo:=hide (show okI x by unfold okI;omega)
       have hll:l1.length≤j:=by
        have h:=drySt_len dry ⟨uf,uf0,ut⟩ (fK cs fs dry (days*1440) us k) ((pathK cs fs uf).take j)
        rw[hlf] at h
        simp at h
        omega
       have Hst:=hide hst
       clear hst hlf htf hg hx2 hvr hrr e2 e3 hnet4 hk hown hmp
       have hwo3:wo.heap.size < w3.heap.size:=by omega
       by_cases hd:dry < uf0-g
       ·have hr:=hide (Rd.new (cells:=icell) wr #[.int .i64 x] 3 [x] rfl)
        gi_wp2_with (first | (gi_at_lookup;refine wpListIn_mapRead rfl _ _ rfl mapI Hmp.out rfl x rfl Hxo.out ?_;rw[←Hg.out]) | (gi_at_builtin;refine appi_int rfl _ (.tmp 60) (.tmp 62) rfl w3.heap.size u10 l1 rfl (Hown.out.alloc _) _ _ 1 1 [x] rfl rfl hr.out (by simp;omega) (by simp;omega) ?_;intro vv wv hown1 hg1;have kv:=kept_app Hown.out hg1;have Hmp1:=hide (Hmp.out.keptR kv (by omega));have c0:=(kv.cell (p:=⟨W.heap.size+1,0,none⟩) (by show W.heap.size+1 < w3.heap.size;omega) (by show W.heap.size+1 < wr.heap.size;omega)).trans c0;have z2:=(kv.cell (p:=⟨wo.heap.size,2,none⟩) (by show wo.heap.size < w3.heap.size;omega) (by show wo.heap.size < wr.heap.size;omega)).trans z2;have Hown1:=hide hown1;have Kv:=hide kv;clear kv hown1 hg1) | (gi_at_mapUpdate;refine wpListIn_mapWrite rfl _ _ _ rfl mapI Hmp1.out (by omega) rfl x rfl Hxo.out ut rfl (by unfold okI;omega) ?_;intro w6 hmp6 hg6))
        have kg:Kept (fun b=>¬b=W.heap.size) wv w6:=(Kept.grown hg6).mono fun b _ hb=>by simpa using hb
        refine⟨⟨j+1,by go_num,by omega,?_,?_,Hk.out.trans ((Kv.out.mono (fun b _ h=>h.1)).trans (kg.mono fun b _ h=>h.2))⟩,by simp[intOf];omega⟩
        ·rw[Hst.out]
         simp only[dryStep]
         rw[←Hg.out,if_pos hd]
         exact Hown1.out.keptB kg (fun g hg=>by rcases Hown1.out.block_ with h | ⟨g',h,h1,h2⟩;(rw[h] at hg;cases hg);(rw[h] at hg;injection hg with hg;omega))
        ·rw[Hst.out]
         exact⟨_,hmp6.mono (by omega)⟩
       ·gi_wp2_with (first | (gi_at_lookup;refine wpListIn_mapRead rfl _ _ rfl mapI Hmp.out rfl x rfl Hxo.out ?_;rw[←Hg.out]) | (gi_at_mapUpdate;refine wpListIn_mapWrite rfl _ _ _ rfl mapI Hmp.out (by omega) rfl x rfl Hxo.out ut rfl (by unfold okI;omega) ?_;intro w6 hmp6 hg6))
        have kg:Kept (fun b=>¬b=W.heap.size) wr w6:=(Kept.grown hg6).mono fun b _ hb=>by simpa using hb
        refine⟨⟨j+1,by go_num,by omega,?_,?_,Hk.out.trans (kg.mono fun b _ h=>h.2)⟩,by simp[intOf];omega⟩
        ·rw[Hst.out]
         simp only[dryStep]
         rw[←Hg.out,if_neg hd]
         exact Hown.out.keptB kg (fun g hg=>by rcases Hown.out.block_ with h | ⟨g',h,h1,h2⟩;(rw[h] at hg;cases hg);(rw[h] at hg;injection hg with hg;omega))
        ·rw[Hst.out]
         exact⟨_,hmp6.mono (by omega)⟩
      ·obtain rfl:m=j:=by omega
       have hkw:Kept (fun b=>¬XX b) wo wr:=(Kept.all _ Hb23.out).trans (Hk.out.mono fun b hb h=>⟨hb,fun e=>h (e ▸ x1)⟩)
       have hjy:=HJ.out k XX (fun b=>XX b∨u10.ownBlock=some b) wo wr Hj.out hkw (fun b h=>h.imp id (fun h=>by
        rcases Hown.out.block_ with h' | ⟨g',h',h2,h3⟩
        ·rw[h'] at h;cases h
        ·rw[h'] at h;injection h with h;omega))
       have hown2:=Hown.out
       rw[Hm.out,List.take_length] at hown2
       have hdl:dryL cs fs dry (days*1440) us k=(drySt dry ⟨uf,uf0,ut⟩ (fK cs fs dry (days*1440) us k) (pathK cs fs uf)).1:=by unfold dryL;rw[Hx.out]
       have hob:∀g,u10.ownBlock=some g→u10.ownBlock=some g∧¬XX g:=fun g hg=>⟨hg,fun hX=>by
        have h1:=(X4.out g hX).2
        rcases hown2.block_ with h | ⟨g',h,h2,h3⟩
        ·rw[h] at hg;cases hg
        ·rw[h] at hg;injection hg with hg;omega⟩
       have hY2:=HY.out k XX (fun b=>u10.ownBlock=some b) #[.agg #[.int .i64 uf,.int .i64 uf0,.int .i64 ut],u10] wr hjy (fun b hb=>by
        rcases hb with hb | hb
        ·have:=(X4.out b hb).2;omega
        ·rcases hown2.block_ with h | ⟨g',h,h2,h3⟩
         ·rw[h] at hb;cases hb
         ·rw[h] at hb;injection hb with hb;omega) ⟨uf,uf0,ut,u10,Hx.out,rfl,by rw[hdl];exact hown2.mono (by omega),hob⟩ (by rw[←Hnu.out];exact hlt)
       obtain⟨fn,tmps,assign,body,hy,hR⟩:=hY2
       have HR:=hide hR
       have hmpn:=Hmp.out
       have hinvn:DI W.heap.size B bn Ac Af (some ⟨b,off,none⟩) nc cc nf cf dry days cs fs us ds (16*nu+16*(k+1)) (fK cs fs dry (days*1440) us (k+1)) wr:=by
        have h3:=Hinv3.out
        have hs3:B≤w3.heap.size:=by omega
        have hr:∀b,b < B→b < w3.heap.size∧¬b=W.heap.size:=fun b hb=>by omega
        refine⟨h3.box.kept Hk.out ⟨by omega,by omega⟩,⟨s,?_⟩,h3.net.kept Hk.out ⟨h3.net.1,hbn3⟩,h3.rcs.kept Hk.out hr hs3,h3.rfs.kept Hk.out hr hs3,h3.rus.kept Hk.out hr hs3,h3.def_.kept Hk.out (fun D hD=>by have:=Hds0.out D hD;have:=h3.def_.lt hD;omega),h3.big⟩
        rw[fK_succ Hx.out]
        rw[Hm.out,List.take_length] at hmpn
        exact hmpn.mono (by have:=Hm.out;omega)
       have Hinvn:=hide hinvn
       clear hR hinvn hmpn hown2 hdl hjy hkw
       gi_wp2_with fail
       refine⟨fun h=>by simp[Fence.wide] at h,HR.out.mono ?_⟩
       rintro e W' (⟨rfl,hJ',hk'⟩ | ⟨rfl,hJx',hk'⟩)
       ·have hinv':=Hinvn.out.kept hk' (.inr x1) (.inr x2) (.inl (.inr (.inl rfl))) (fun b hb=> .inl (.inl hb)) (fun D hD=> .inr (X3.out D hD))
        have Hinv':=hide hinv';have HJ':=hide hJ'
        have hsW':wr.heap.size≤W'.heap.size:=hk'.size
        clear hinv' hJ' hk'
        gi_wp2_with fail
        exact⟨k+1,by omega,by omega,(by and_intros <;> first | rfl | trivial),Hinv'.out,HJ'.out,by omega⟩
       ·have hd':=Hinvn.out.def_.kept hk' (fun D hD=> .inr (X3.out D hD))
        have Hd':=hide hd';have HJx':=hide hJx'
        clear hd' hJx' hk'
        gi_wp2_with fail
        refine leaves_coll (by simp) ds _ Hd'.out fun W2 hk2=>?_
        refine⟨_,results_none rfl _ _ _,?_⟩
        exact .inl ⟨_,rfl,XX,.inr ⟨k+1,by have:=Hnu.out;omega,HJx.out _ _ XX _ _ HJx'.out (hk2.mono fun b _ hb h=>hb (X3.out b h)) (fun _ h=> .inl h)⟩⟩
    ·obtain rfl:nu=k:=by omega
     have Hd':=hide Hinv.out.def_
     gi_wp2_with fail
     refine leaves_coll (by simp) ds _ Hd'.out fun W2 hk2=>?_
     refine⟨_,results_none rfl _ _ _,?_⟩
     exact .inl ⟨_,rfl,XX,.inl (by rw[←Hnu.out];exact HJ.out _ _ XX _ _ Hj.out (hk2.mono fun b _ hb h=>hb (X3.out b h)) (fun _ h=> .inl h))⟩
attribute [local go_sem] Oper.semAt_some in
theorem dries_any (Ac Af Au:Option Addr) (nc cc nf cf nu cu:Nat) (dry days:Int) (w:World) :
 Calls Tryz.prog 97 #[.agg #[.slice Ac nc cc,.slice Af nf cf,.int .i64 dry,.int .i64 days],.slice Au nu cu] w fun e w'=>e= .returned (.func (.func 158) #[] #[.pointer (some ⟨w.heap.size+1,0,none⟩),.pointer (some ⟨w.heap.size,0,none⟩)])∧w'=(w.alloc (.cells #[.slice Ac nc cc,.slice Af nf cf,.int .i64 dry,.int .i64 days] 122)).alloc (.cells #[.slice Au nu cu] 40):=by
 go_enter Tryz.func97,Tryz.ntmps97
 go_wp2
 go_ret
 exact⟨rfl,rfl⟩
theorem enters_dries1:∀args w,(callFunc 158 args).run Tryz.prog w= .ok (.enter 158 args) w:=enters_of Tryz.func158 (by kernel_rfl) rfl
end Go.Proofs.YtiioegopckoldaaGreatDoor
