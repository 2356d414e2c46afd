/- lemmas for topRented_holds: SH2 V6 RD1. No conditions. -/
import Derived.Test.YtiioegopckoldaaGreatDoorK12
import Derived.Test.YtiioegopckoldaaGreatDoorK26
import Derived.Test.YtiioegopckoldaaGreatDoorK05
import Derived.Test.YtiioegopckoldaaGreatDoorK24
import Derived.Test.YtiioegopckoldaaGreatDoorK11
import Derived.Test.YtiioegopckoldaaGreatDoorK03
import Derived.Handy
import Derived.Test.YtiioegopckoldaaGreatDoorK23
set_option linter.unusedVariables false
set_option linter.unusedSimpArgs false
namespace Go.Proofs.YtiioegopckoldaaGreatDoor
open Go.RowKit Go.Shelf Go.Maps Go.MapKept Go.ChangeMaps
def cntP (ps:List Pc) (x:Int):Option Int:=if ps.any (fun p=>p.ow == x) then some (totB (fun p=>p.ow == x) ps) else none
theorem cntP_getD (ps:List Pc) (x:Int):(cntP ps x).getD 0=totB (fun p=>p.ow == x) ps:=by
 unfold cntP
 split
 ·rfl
 ·next h=>
  rw[totB_const (c:=false)]
  ·rfl
  ·intro p hp
   cases hq:(p.ow == x)
   ·rfl
   ·exact absurd (List.any_eq_true.2 ⟨p,hp,hq⟩) h
theorem cntP_snoc (xs:List Pc) (p:Pc) (x:Int):cntP (xs ++ [p]) x=if x=p.ow then some ((cntP xs p.ow).getD 0+(p.to-p.fr)) else cntP xs x:=by
 by_cases hx:x=p.ow
 ·subst hx
  rw[if_pos rfl,cntP_getD]
  unfold cntP
  rw[if_pos (by simp),totB_app]
  simp[totB]
 ·rw[if_neg hx]
  have h1:(p.ow == x)=false:=by simpa using fun e=>hx e.symm
  unfold cntP
  rw[List.any_append,totB_app]
  simp[totB,h1]
theorem nodup_len {α:Type} (f:α→Int):∀(n:Nat) (a:Int) {l:List α},l.Pairwise (fun x y=>f x≠f y)→(∀x∈l,a≤f x∧f x < a+n)→l.length≤n
 | 0, a, l, _, h => by
   cases l with
   | nil=>simp
   | cons x l=>have:=h x (by simp);omega
 | n + 1, a, l, hp, h => by
   have h1:=nodup_len f n a (l:=l.filter fun x=>decide (f x < a+n)) (hp.filter _) (fun x hx=>by
    rw[List.mem_filter] at hx
    exact⟨(h x hx.1).1,by simpa using hx.2⟩)
   have h2:(l.filter fun x=>!decide (f x < a+n)).length≤1:=by
    have hw:=hp.filter (fun x=>!decide (f x < a+n))
    cases hl:l.filter fun x=>!decide (f x < a+n) with
    | nil=>simp
    | cons x t =>
      cases t with
      | nil=>simp
      | cons y t =>
        rw[hl] at hw
        have hx:x∈l.filter fun x=>!decide (f x < a+n):=by rw[hl];simp
        have hy:y∈l.filter fun x=>!decide (f x < a+n):=by rw[hl];simp
        have hne:=(List.pairwise_cons.1 hw).1 y (by simp)
        rw[List.mem_filter] at hx hy
        have b1:=h x hx.1;have b2:=h y hy.1
        have c1:=hx.2;have c2:=hy.2
        simp only[Bool.not_eq_true',decide_eq_false_iff_not] at c1 c2
        omega
   have h3:l.length=(l.filter fun x=>decide (f x < a+n)).length+(l.filter fun x=>!decide (f x < a+n)).length:=by
    clear h1 h2 hp h
    induction l with
    | nil=>rfl
    | cons x l ih =>
      simp only[List.filter_cons,List.length_cons]
      cases decide (f x < a+n) <;> simp <;> omega
   omega
theorem cntP_some {ps:List Pc} {x m:Int} (h:cntP ps x=some m):(∃p∈ps,p.ow=x)∧m=totB (fun p=>p.ow == x) ps:=by
 unfold cntP at h
 split at h
 ·next ha=>
  obtain⟨p,hp,hq⟩:=List.any_eq_true.1 ha
  exact⟨⟨p,hp,by simpa using hq⟩,(Option.some.inj h).symm⟩
 ·cases h
theorem shares_of {ps:List Pc} {l ys:List Sp} {a e:Int} (hc:Chain a ps e) (hp:List.Perm ys l) (hu:UptoG leS ys.length ys) (hn:l.Pairwise (fun a b=>a.lo≠b.lo)) (hs:∀s∈l,cntP ps s.lo=some s.hi) (ha:∀x,(cntP ps x).isSome=true→∃s∈l,s.lo=x):ShareOf ps ys:=by
 have hn2:ys.Pairwise (fun a b=>a.lo≠b.lo):=(hp.pairwise_iff (fun h e=>h e.symm)).2 hn
 refine⟨?_,fun s hs2=>?_,fun x hx=>?_⟩
 ·rw[List.pairwise_iff_getElem] at hn2 ⊢
  intro i j hi hj hij
  have h1:=hn2 i j hi hj hij
  have h2:leS ys[i] ys[j]:=hu i j ys[i] ys[j] hij hj (List.getElem?_eq_getElem hi) (List.getElem?_eq_getElem hj)
  unfold leS at h2
  omega
 ·obtain⟨⟨p,hp1,hp2⟩,h2⟩:=cntP_some (hs s (hp.mem_iff.1 hs2))
  exact⟨(totB_pos hc).1 ⟨p,hp1,by simpa using hp2⟩,h2⟩
 ·obtain⟨p,hp1,hp2⟩:=(totB_pos hc).2 hx
  obtain⟨s,h1,h2⟩:=ha x (by unfold cntP;rw[if_pos (List.any_eq_true.2 ⟨p,hp1,hp2⟩)];rfl)
  exact⟨s,hp.mem_iff.2 h1,h2⟩
def cntF (ps:List Pc):Int→Option Value:=fun x=>(cntP ps x).map (Value.int .i64)
theorem cntF_snoc (xs:List Pc) (p:Pc):cntF (xs ++ [p])=upd (cntF xs) p.ow (some (.int .i64 ((cntP xs p.ow).getD 0+(p.to-p.fr)))):=by
 funext x
 unfold cntF upd
 rw[cntP_snoc]
 split <;> rfl
theorem cntF_inv {ps:List Pc} {x:Int} {c:Value} (h:cntF ps x=some c):∃m,cntP ps x=some m∧c= .int .i64 m:=by
 unfold cntF at h
 cases hc:cntP ps x with
 | none=>rw[hc] at h;cases h
 | some m=>rw[hc] at h;exact⟨m,rfl,(Option.some.inj h).symm⟩
theorem MpV.look1 {P:Program} {T K E:TypeId} {w:World} {b n s:Nat} {f:Int→Option Value} (h:MpV P K w b n f s) (hk:P.underlying K=some (.int .i64)) (ht:P.underlying T=some (.map K E)) {z:Value} (hz:(zeroValue E).run P w= .ok z w) {k:Int} (hkk:okI k) :
 (Instr.lookup T (.map (some b)) (.int .i64 k) false).run P w= .ok ((f k).getD z) w:=by
 obtain⟨D,h,_,hat,hhas,_⟩:=h
 obtain⟨v,ps,hrun,hv⟩:=h.lookup (int_keyed hk) ht hz (show RV z=some (.held z,[]) from rfl) (keyOf_int_mk hk (okI_wf hkk))
 rw[hat k] at hv
 rw[hrun]
 cases hf:f k with
 | none=>rw[hf] at hv;simp[RV] at hv;rw[hv.1];rfl
 | some x=>rw[hf] at hv;simp[RV] at hv;rw[hv.1];rfl
theorem totB_le {q:Pc→Bool}:∀{ps:List Pc} {a b:Int},Chain a ps b→totB q ps≤b-a
 | [],a,b,h=>by unfold Chain at h;simp[totB];omega
 | p :: ps, a, b, h => by
   obtain⟨h1,h2,h3⟩:=h
   have:=totB_le (q:=q) h3
   simp only[totB]
   split <;> omega
theorem cnt_bd {ps:List Pc} {e x:Int} {k:Nat} {p:Pc} (hc:Chain 0 ps e) (hp:ps[k]?=some p):0≤(cntP (ps.take k) x).getD 0∧(cntP (ps.take k) x).getD 0≤p.fr∧0≤p.fr∧p.fr < p.to∧p.to≤e:=by
 have h1:=(hc.at_ hp).1
 have h2:=totB_le (q:=fun p=>p.ow == x) h1
 have h3:=totB_nonneg (q:=fun p=>p.ow == x) h1
 have h4:=hc.at_lt hp
 rw[cntP_getD]
 omega
set_option maxHeartbeats 4000000 in
set_option maxRecDepth 100000 in
theorem deShares_rents (days day:Int) (H A:Option Addr) (nh ch n c:Nat) (hs:List Us) (ds:List Dv) (w:World) (hro:rollsOk days hs=true) (hnh:nh=hs.length) (hxh:Rd w w.heap.size Us.cells H hs) (hA:Rd w w.heap.size Dv.cells A ds) (hn:n=ds.length) (hn6:n≤60) (hday:inB 0 100000 day=true)
 (hval:∀d∈ds,deOk days d []=true∧d.h=⟨none,0,0⟩∧0≤d.kind∧d.kind≤255) (hdist:∀(j k:Nat) (x y:Dv),j < k→ds[j]?=some x→ds[k]?=some y→x.id≠y.id) (hord:OrdOk ds) (hrun:RunOk (days*1440) day (hs.map pcOf) ds)
 (e:Int) (he:e≤23040) (hch:Chain 0 (runP ds (hs.map pcOf)) e) (hlen:(runP ds (hs.map pcOf)).length≤1000) (h1:1≤(runP ds (hs.map pcOf)).length) (hown:∀p∈runP ds (hs.map pcOf),99≤p.ow∧p.ow≤107) :
 Calls Tryz.prog 20 #[.agg #[.int .i64 days,.slice H nh ch],.slice A n c,.int .i64 day] w fun en w'=>∃v l,en= .returned (.tuple #[v,.int .i64 0])∧Own w' w.heap.size 99 2 Sp.cells v l∧ShareOf (runP ds (hs.map pcOf)) l∧Below w.heap.size w w':=by
 obtain⟨b3,w1,e3,ew1,hx3,hb1,hz3⟩:=mk_bx w #[.int .i64 days,.slice H nh ch] 58
 have HU:=hide (deuntil_rents days day H A nh ch n c hs ds w1 hro hnh (hxh.bel hb1) (hA.bel hb1) hn hn6 hday hval hdist hord hrun)
 obtain⟨q0,q1⟩:=hx3.at_.c2
 have HB1:=hide hb1;have H1:=hide h1;have HLN:=hide hlen;have HCH:=hide hch;have HOW:=hide hown
 clear hxh hA hx3 hb1 hz3 hro hnh hn hday hval hdist hord hrun h1 hlen hch hown
 go_enter Tryz.func20,Tryz.ntmps20
 go_upto_region 1 with fail
 rw[ew1.out,e3.out]
 clear ew1 e3
 go_wp2_with fail
 refine HU.out.mono ?_
 rintro en w5 ⟨b,bm,base,vp,rfl,hbs,bk5,hb5⟩
 obtain⟨ps,hps⟩:∃ps,ps=runP ds (hs.map pcOf):=⟨_,rfl⟩
 rw[←hps] at bk5 H1 HLN HCH HOW
 have HPS:=hide hps
 obtain⟨N,hN⟩:∃N,ps.length=N:=⟨_,rfl⟩
 obtain⟨g,cp,rfl⟩:=bk5.ow.some_ N hN (by have:=H1.out;omega)
 have HB5:=hide (HB1.out.trans (hb5.mono HB1.out.size))
 have HN:=hide hN;have Hbs:=hide hbs
 have hnn:1≤N∧N≤1000:=by have:=H1.out;have:=HLN.out;omega
 have hm3:=MpV.made w5 Tryz.prog 3
 obtain⟨w6,ew6⟩:∃w6,Hid (w5.alloc (.map #[] 0)=w6):=⟨_,hide rfl⟩
 have hb6:Below w5.heap.size w5 (w5.alloc (.map #[] 0)):=below_new _ _
 obtain⟨mb,emb⟩:∃mb,Hid (w5.heap.size=mb):=⟨_,hide rfl⟩
 rw[ew6.out,emb.out] at hm3
 rw[ew6.out] at hb6
 have HBK:=hide (bk5.bel hb6)
 have HB6:=hide (HB5.out.trans (hb6.mono HB5.out.size))
 have HM:=hide (show MpV Tryz.prog 3 w6 mb 0 (cntF (ps.take 0)) 0 from hm3)
 have hg:=bk5.ltv (g:=g) rfl
 have hlb:=bk5.ltb;have hlm:=bk5.ltm;have hgb:=bk5.hb;have hgm:=bk5.hm
 have hmb:w5.heap.size=mb:=emb.out
 have hmbl:=hm3.lt
 have hbmb:b < mb∧bm < mb∧g < mb:=by omega
 have hwm:w.heap.size≤mb:=by have:=HB5.out.size;omega
 have Hz:Hid (∀w:World,(zeroValue 3).run Tryz.prog w= .ok (.int .i64 0) w):=hide (fun w=>by kernel_rfl)
 have hs5:=HB5.out.size
 have hmm:=@run_makeMap Tryz.prog
 clear q0 q1 hb5 bk5 hN HU hm3 hb6 hps hmb
 go_upto_region 5 with fail
 rw[ew6.out,emb.out]
 clear hmm ew6 emb
 have y2:=HBK.out.bx.at_.2 2 _ rfl
 go_wp2_with fail
 clear y2
 go_loopw [32] (fun iv wr=>∃(k s:Nat),k≤N∧iv= .int .i64 k∧Hid (MpV Tryz.prog 3 wr mb k (cntF (ps.take k)) s)∧Hid (Kept (fun q=>q < mb) w6 wr)∧mb < wr.heap.size) (fun iv _=>N-(intOf iv).toNat)
 case atStart=>exact⟨0,0,by omega,rfl,HM,hide (Kept.refl _ _),hmbl⟩
 case round=>
  clear HM
  obtain⟨k,s,hk,rfl,hM,hK,hml⟩:=hrel
  obtain⟨wo,rfl⟩:∃wo,wo=wr:=⟨wr,rfl⟩
  by_cases hlt:k < N
  ·have hBk:=HBK.out.kept hK.out hbmb.1 hbmb.2.1 (fun q hq=>by have:=HBK.out.ltv hq;have:=(show g=q by injection hq);have:=hbmb.2.2;show q < mb;omega)
   obtain⟨bb,off,p,hA,_,hxp,d0,d1,d2,d3,d4⟩:=hBk.ow.rdS.pc (i:=k) (by have:=HN.out;omega)
   injection hA with hA
   injection hA with hA1 hA2
   subst hA1 hA2
   simp only[Nat.zero_add] at d0 d1 d2 d3 d4
   obtain⟨c0,c1,p0,p1,p2⟩:=cnt_bd (x:=p.ow) HCH.out hxp
   have how:=HOW.out p (List.mem_of_getElem? hxp)
   obtain⟨b12,w7,e12,ew7,hx12,hb7,hz12⟩:=mk_bx wo #[.int .i64 p.fr,.int .i64 p.to,.int .i64 p.ow,.int .i64 p.le,.int .i64 p.un] 156
   have hM7:=hM.out.bel hb7
   have hlk:=hM7.look1 (T:=97) Tryz.underlying3 Tryz.underlying97 (Hz.out w7) (k:=p.ow) ⟨by omega,by omega⟩
   obtain⟨old,hold⟩:∃old,old=(cntP (ps.take k) p.ow).getD 0:=⟨_,rfl⟩
   have hfo:(cntF (ps.take k) p.ow).getD (.int .i64 0)= .int .i64 old:=by rw[hold];unfold cntF;cases cntP (ps.take k) p.ow <;> rfl
   rw[hfo] at hlk
   rw[←hold] at c0 c1
   have hsn:cntF (ps.take (k+1))=upd (cntF (ps.take k)) p.ow (some (.int .i64 (old+(p.to-p.fr)))):=by rw[take_snoc hxp,cntF_snoc,hold]
   have HM7:=hide hM7;have Hsn:=hide hsn
   have HK7:=hide (hK.out.trans (Kept.all (fun q=>q < mb) hb7))
   have f1:IntKind.i64.wrap (p.to-p.fr)=p.to-p.fr:=wrapI (by omega)
   have f2:IntKind.i64.wrap (old+(p.to-p.fr))=old+(p.to-p.fr):=wrapI (by omega)
   have hkk:okI p.ow:=⟨by omega,by omega⟩
   obtain⟨q0,q1,q2,q3,q4⟩:=(show Bx w7 b12 p.cells from hx12).at_.c5
   have ij:(k:Int) < (N:Int):=by omega
   have hsz7:=hb7.size
   clear hBk hxp hM7 hold hfo hx12 hb7 hz12 hsn hM hK
   go_upto_region 8 with fail
   rw[ew7.out,e12.out]
   clear d0 d1 d2 d3 d4 ew7 e12
   go_wp2_with (at_mapUpdate;refine wpList_mapWriteV rfl (.tmp 36) (.tmp 38) (.tmp 47) rfl Tryz.underlying3 Tryz.underlying97 HM7.out (by omega) rfl p.ow rfl hkk (.int .i64 (old+(p.to-p.fr))) rfl ?_;intro w8 hM8 hg8;have HM8:=hide hM8;have HG8:=hide (Kept.grown hg8);clear hM8 hg8)
   have hs8:=HG8.out.size
   exact⟨⟨k+1,_,by omega,by go_num,by rw[Hsn.out];exact HM8,hide (HK7.out.trans (HG8.out.mono fun q _ hq e=>by injection e with e;omega)),by omega⟩,by simp[intOf];omega⟩
  ·obtain rfl:N=k:=by omega
   have hMf:=hM.out
   rw[List.take_of_length_le (by have:=HN.out;omega)] at hMf
   have HMf:=hide hMf
   have hB7:=HB6.out.trans (hK.out.below (B:=w.heap.size) (fun q hq=>by show q < mb;omega) HB6.out.size)
   have HB7:=hide hB7
   have HMr:=HMf
   clear hMf hM hB7 hK
   go_wp2_with (at_range;refine wpList_mapRangeV rfl (.tmp 49) rfl Tryz.underlying3 Tryz.underlying97 HMr.out rfl ?_;intro w4 hr4 hb4 hz4)
   go_frame
   obtain⟨r,hr⟩:∃r,r=wo.heap.size:=⟨_,rfl⟩
   rw[←hr] at hr4 hz4 ⊢
   have hB4:=hb4
   have hs4:=hb4.size
   have hwo:=HB7.out.size
   have Hr4:=hide hr4;have Hr:=hide hr
   clear hr4 hr hb4
   go_loopw [13] (fun h wr=>∃(left:Int→Bool) (cnt:Nat) (vh:Value) (l:List Sp),vh=h∧Hid (MpR Tryz.prog 3 wr mb r N (cntF ps) left cnt)∧Hid (∀j,left j=true→(cntF ps j).isSome=true)∧Hid (Own wr w4.heap.size 99 2 Sp.cells vh l)∧Hid (l.Pairwise (fun a b=>a.lo≠b.lo))∧Hid (∀s∈l,cntP ps s.lo=some s.hi∧left s.lo=false)∧Hid (∀x,(cntP ps x).isSome=true→left x=false→∃s∈l,s.lo=x)∧Hid (Below wo.heap.size wo wr)∧w4.heap.size≤wr.heap.size) (fun _ wr=>wr.rangeLeft mb r)
   case atStart=>
    refine⟨_,_,_,[],rfl,Hr4,hide (fun j h=>h),hide (Own.nil _ _ _ _ _),hide List.Pairwise.nil,hide (fun s hs=>by simp at hs),hide (fun x h1 h2=>?_),hide hB4,Nat.le_refl _⟩
    exfalso
    unfold cntF at h2
    cases hc:cntP ps x with
    | none=>rw[hc] at h1;cases h1
    | some m=>rw[hc] at h2;cases h2
   case round=>
    clear Hr4 hB4 HMr
    obtain⟨left,cnt,vh,l,rfl,HMR,Hleft,Hown,Hpw,Hin,Hcov,hb,hsz⟩:=hrel
    have hll:l.length≤9:=nodup_len (fun s:Sp=>s.lo) 9 99 Hpw.out (fun s hs=>by
     obtain⟨⟨p,hp1,hp2⟩,_⟩:=cntP_some (Hin.out s hs).1
     have:=HOW.out p hp1
     omega)
    have hrr:r < w4.heap.size:=by omega
    go_wp2_with (first | (at_next;go_loud (refine wpList_mapNextV rfl (.tmp 50) rfl Tryz.underlying3 rfl HMR.out ?_ ?_ Hleft.out);go_loud (rotate_left);go_loud (intro x cv w55 cnt5 hlx hfx hrg5 hlt5 hg5 hs5' hen5);go_loud (obtain⟨m,hm,hcv⟩:=cntF_inv hfx);go_loud (subst hcv);go_loud (have hk5:=Kept.grown hg5);go_loud (have hB5:=hide (hb.out.trans (hk5.below (fun b hb e=>by have:=Hr.out;simp at e;omega) hb.out.size)));go_loud (have hown5:=Hown.out.keptG hk5 (fun q hq e=>by have:=(Hown.out.blockG hq).1;simp at e;omega));go_loud (obtain⟨b60,w60,e60,ew60,hr60,hb60⟩:=mk_row (cells:=Sp.cells) w55 #[.int .i64 x,.int .i64 m] 99 [⟨x,m⟩] rfl);go_loud (have Hown8:=hide (hown5.bel hb60));go_loud (have Hr60:=hide hr60);go_loud (have hbs:w4.heap.size≤w60.heap.size:=by(have:=hb60.size;omega));go_loud (have Hrg5:=hide hrg5);go_loud (have Hm:=hide hm);go_loud (have Hlx:=hide hlx);go_loud (have Hs55:=hide hs5');go_loud (clear hrg5 hm hlx hr60 hown5 hfx hs5');go_loud (rotate_right);go_loud (intro hc0 hl0)) | (at_builtin;go_loud (rw[ew60.out,e60.out]);go_loud (refine wpList_app (v:=vh) (xs:=l) (ys:=[(⟨x,m⟩:Sp)]) (n:=1) el_has rfl (.tmp 56) (.tmp 60) rfl rfl Hown8.out rfl rfl Hr60.out (by omega) hbs ?_);intro vv wv hown1 hg1 hat1))
    rotate_left
    ·have hvlt:∀q,vh.ownBlock=some q→w4.heap.size≤q:=fun q hq=>(Hown8.out.blockG hq).1
     have hkg:=Kept.grown hg1
     have hr48:¬vh.ownBlock=some r:=fun e=>by have:=hvlt r e;omega
     have hm48:¬vh.ownBlock=some mb:=fun e=>by have:=hvlt mb e;omega
     have hB60:=hB5.out.trans (hb60.mono hB5.out.size)
     have hMn:=(Hrg5.out.keptR (Kept.all (fun _=>True) hb60) trivial trivial).keptR hkg (fun e=>hm48 e.symm) (fun e=>hr48 e.symm)
     refine⟨⟨_,cnt5,vv,_,rfl,hide hMn,hide (fun i hi=>Hleft.out i (by simp at hi;exact hi.1)),hide hown1,hide ?_,hide ?_,hide ?_,hide (hB60.trans (hkg.below (fun b hb e=>by have:=hvlt b e.symm;omega) hB60.size)),Nat.le_trans hbs hkg.size⟩,?_⟩
     ·refine List.pairwise_append.2 ⟨Hpw.out,by simp,fun s hs y hy=>?_⟩
      obtain rfl:=List.mem_singleton.1 hy
      have h1:=(Hin.out s hs).2
      intro e
      have e2:s.lo=x:=e
      rw[e2,Hlx.out] at h1
      cases h1
     ·intro s hs
      rcases List.mem_append.1 hs with hs | hs
      ·exact⟨(Hin.out s hs).1,by rw[(Hin.out s hs).2];rfl⟩
      ·obtain rfl:=List.mem_singleton.1 hs
       exact⟨Hm.out,by simp⟩
     ·intro y h1 h2
      by_cases e:y=x
      ·exact⟨⟨x,m⟩,by simp,e.symm⟩
      ·obtain⟨s,hs,h3⟩:=Hcov.out y h1 (by simpa[e] using h2)
       exact⟨s,by simp[hs],h3⟩
     ·rw[hMn.left_eq,HMR.out.left_eq]
      exact hlt5
    ·obtain⟨p0,hp0⟩:∃p,p∈ps:=⟨_,List.getElem_mem (show 0 < ps.length by have:=HN.out;omega)⟩
     have hs0:(cntP ps p0.ow).isSome=true:=by unfold cntP;rw[if_pos (List.any_eq_true.2 ⟨p0,hp0,by simp⟩)];rfl
     obtain⟨s0,hs0,_⟩:=Hcov.out _ hs0 (hl0 _)
     obtain⟨n',hn'⟩:∃n',l.length=n':=⟨_,rfl⟩
     have hn1:0 < n':=by rw[←hn'];exact List.length_pos_of_mem hs0
     obtain⟨gl,cl,rfl⟩:=Hown.out.some_ n' hn' hn1
     obtain⟨wv,rfl⟩:∃x,x=wr:=⟨wr,rfl⟩
     obtain⟨bb,w9,e9,ew9,hx9,hb9,hz9⟩:=mk_bx wv #[.func (.func 63) #[] #[]] 163
     have hgl:=Hown.out.blockG (g:=gl) rfl
     have HS:=hide (shordered_any gl n' cl w4.heap.size bb l w9 hn'.symm (by omega) (Hown.out.bel hb9) hx9.at_ (by have:=e9.out;omega) (by have:=hb9.size;omega))
     have HB9:=hide ((HB7.out.trans (hb.out.mono HB7.out.size)).trans (hb9.mono (HB7.out.trans (hb.out.mono HB7.out.size)).size))
     have hwq:w.heap.size≤wo.heap.size:=HB7.out.size
     have Hcv:=hide (show ∀x,(cntP ps x).isSome=true→∃s∈l,s.lo=x from fun x hx=>Hcov.out x hx (hl0 x))
     have Hn':=hide hn'
     clear hs0 hp0 hl0 hc0 hx9 hb9 hz9 Hcov HMR Hleft hn'
     go_wp2_with fail
     rw[ew9.out,e9.out]
     refine HS.out.mono ?_
     rintro en w10 ⟨rfl,ys,p1,p2,p3,p4⟩
     have P3:=hide p3;have P4:=hide p4
     have hyl:ys.length=n':=by rw[p1.length_eq,Hn'.out]
     have HSH:=hide (shares_of HCH.out p1 (by rw[hyl];exact p2) Hpw.out (fun s hs=>(Hin.out s hs).1) Hcv.out)
     clear p1 p2 p3 p4 HS hyl
     go_wp2_with fail
     go_returns
     refine⟨_,ys,rfl,P3.out.mono (by omega),by rw[←HPS.out];exact HSH.out,HB9.out.trans (P4.out.below (fun q hq e=>by omega) HB9.out.size)⟩
end Go.Proofs.YtiioegopckoldaaGreatDoor
namespace Go.Proofs.YtiioegopckoldaaGreatDoor
open Go.RowKit Go.Shelf
attribute [local go_sem] Oper.semAt_some
def u8i (x:Int):List Value:=[.int .u8 x]
theorem el_u8i:ElLaw Tryz.prog 74 5 1 1 u8i:=elLaw_of Tryz.underlying74 (z:= .int .u8 0) (by kernel_rfl) rfl (by omega) (fun _=>rfl) (by simp[u8i,Value.oneCell']) (by omega)
structure TwoC (w:World) (b o1 o2:Nat) (x y:Int):Prop where
 c1:w.cell? ⟨b,o1,none⟩=some (.int .i64 x)
 c2:w.cell? ⟨b,o2,none⟩=some (.int .i64 y)
 lt:b < w.heap.size
theorem TwoC.bel {w w':World} {b o1 o2:Nat} {x y:Int} (h:TwoC w b o1 o2 x y) (hb:Below w.heap.size w w'):w'.cell? ⟨b,o1,none⟩=some (.int .i64 x)∧w'.cell? ⟨b,o2,none⟩=some (.int .i64 y):=
 ⟨(hb.cell (p:=⟨b,o1,none⟩) h.lt).trans h.c1,(hb.cell (p:=⟨b,o2,none⟩) h.lt).trans h.c2⟩
end Go.Proofs.YtiioegopckoldaaGreatDoor
namespace Go.Proofs.YtiioegopckoldaaGreatDoor
open Go.RowKit Go.Shelf
set_option maxHeartbeats 8000000 in
set_option maxRecDepth 100000 in
theorem deRead_rents (days day:Int) (H A:Option Addr) (nh ch n c:Nat) (hs:List Us) (ds:List Dv) (w:World) (hro:rollsOk days hs=true) (hnh:nh=hs.length) (hxh:Rd w w.heap.size Us.cells H hs) (hA:Rd w w.heap.size Dv.cells A ds) (hn:n=ds.length) (hn6:n≤60)
 (hval:∀d∈ds,deOk days d []=true∧d.h=⟨none,0,0⟩∧0≤d.kind∧d.kind≤255) (hdist:∀(j k:Nat) (x y:Dv),j < k→ds[j]?=some x→ds[k]?=some y→x.id≠y.id) (hord:OrdOk ds) (hrun:RunOk (days*1440) day (hs.map pcOf) ds) :
 Calls Tryz.prog 18 #[.agg #[.int .i64 days,.slice H nh ch],.slice A n c] w fun e w'=>∃v1 v2,e= .returned (.tuple #[v1,v2,.int .i64 0])∧Own w' w.heap.size 73 9 Dv.cells v1 ds∧Own w' w.heap.size 5 1 u8i v2 (List.replicate n 0)∧Below w.heap.size w w':=by
 have hnh60:nh≤60∧1≤nh:=by
  have:=hro
  simp only[rollsOk,inB,Bool.and_eq_true,decide_eq_true_eq] at this
  omega
 have hchn:Chain 0 (hs.map pcOf) (days*1440):=by
  have:=hro
  simp only[rollsOk,Bool.and_eq_true] at this
  exact chain_of_rolls this.2.2
 obtain⟨b3,w1,e3,ew1,hx3,hb1,hz3⟩:=mk_bx w #[.int .i64 days,.slice H nh ch] 58
 have hx3:At w1 b3 [.int .i64 days,.slice H nh ch]:=hx3.at_
 have HR:=hide (deread_fresh days H A nh ch n c hs ds w1 hro hnh (by omega) (hxh.bel hb1) (hA.bel hb1) hn hn6 hval hdist hord)
 have HB1:=hide hb1;have HX1:=hide hx3;have Hxh:=hide (hxh.bel hb1);have Hn:=hide hn;have Hnh:=hide hnh;have Hrun:=hide hrun;have Hch:=hide hchn
 obtain⟨q0,q1⟩:=hx3.c2
 clear hxh hx3 hb1 hz3 hnh hro hA hn hval hdist hord hrun hchn
 go_enter Tryz.func18,Tryz.ntmps18
 go_upto_region 1 with fail
 rw[ew1.out,e3.out]
 clear ew1 e3
 go_wp2_with fail
 refine HR.out.mono ?_
 rintro e w2 ⟨v2,rfl,o2,hb2⟩
 have HO2:=hide o2
 obtain⟨A2,c2,rfl,r2⟩:=o2.rdn n Hn.out.symm
 have HB2:=hide (HB1.out.trans (hb2.mono HB1.out.size))
 have HX2:=hide (HX1.out.below hb2);have Hxh2:=hide (Hxh.out.bel hb2);have HA2:=hide r2
 have hs1:=HB1.out.size
 clear q0 q1 o2 r2 hb2 HR
 obtain⟨q0,q1⟩:=HX2.out.c2
 go_wp2_with fail
 refine(deopen_any days H nh ch hs w2 Hnh.out (by omega) Hxh2.out).mono ?_
 rintro e w3 ⟨b,bm,vp,rfl,bk3,hb3⟩
 have HBK:=hide (show Bk w3 b bm w2.heap.size days H nh ch vp (runP (ds.take 0) (hs.map pcOf)) (fun _=>none) 0 0 from bk3)
 have hs2:=HB2.out.size
 clear q0 q1 bk3
 go_wp2_with fail
 go_loopw [5,23] (fun yv iv wr=>∃(k:Nat) (vp v:Value),v=yv∧k≤n∧iv= .int .i64 k∧Hid (Bk wr b bm w2.heap.size days H nh ch vp (runP (ds.take k) (hs.map pcOf)) (fun _=>none) 0 0)∧Hid (Own wr w2.heap.size 5 1 u8i v (List.replicate k 0))∧Hid (∀g,v.ownBlock=some g→Bk.own b bm vp g)∧Hid (Below w2.heap.size w2 wr)) (fun _ iv _=>n-(intOf iv).toNat)
 case atStart=>exact⟨0,vp,_,rfl,by omega,rfl,HBK,hide (Own.nil _ _ _ _ _),hide (fun g hg=>by cases hg),hide hb3⟩
 case round=>
  obtain⟨k,vp,v,rfl,hk,rfl,hbk,ho,hsep,hB⟩:=hrel
  obtain⟨wo,rfl⟩:∃wo,wo=wr:=⟨wr,rfl⟩
  by_cases hlt:k < n
  ·obtain⟨bb,off,x,rfl,hBb,hxk,d0,d1,d2,d3,d4,d5,d6,d7,d8⟩:=(HA2.out.below hB.out).dv (i:=k) (by have:=Hn.out;omega)
   have hrk:=Hrun.out.at_ hxk
   have hnx:=runP_next (ps:=hs.map pcOf) hxk
   have hch':=runP_chain (ds.take k) Hch.out
   have hln:=runP_len Hch.out Hrun.out k (by have:=Hn.out;omega)
   obtain⟨b5,w5,e5,ew5,hx5,hb5,hz5⟩:=mk_bx wo #[.int .i64 x.id,.int .i64 x.day,.int .u8 x.kind,.int .i64 x.fr,.int .i64 x.to,.int .i64 x.tf,.int .i64 x.tt,.int .i64 x.un,.slice x.h.a x.h.n x.h.c] 73
   have HT:=hide (detry_rent b bm w2.heap.size days (days*1440) H nh ch vp (runP (ds.take k) (hs.map pcOf)) x w5 (hbk.out.bel hb5) (by rw[List.length_map] at hln;have:=Hnh.out;omega) hch' hrk.2)
   have HBK5:=hide (hbk.out.bel hb5)
   have HO5:=hide (ho.out.below hb5)
   have HB5:=hide (hB.out.trans (hb5.mono hB.out.size))
   have Hnx:=hide hnx
   obtain⟨x0,x1,x2,x3,x4,x5,x6,x7,x8⟩:=At.c9 (show At w5 b5 x.cells from hx5.at_)
   clear hx5 hb5 hz5 hxk hrk hnx hch' hln
   go_upto_region 8 with fail
   rw[ew5.out,e5.out]
   clear d0 d1 d2 d3 d4 d5 d6 d7 d8 ew5 e5
   go_wp2_with fail
   refine HT.out.mono ?_
   rintro e w6 ⟨rfl,vp',bk6,k6,l6⟩
   have HB6:=hide (HBK5.out.below HB5.out k6 (Nat.le_refl _) HB5.out.size)
   have HBK6:Hid (Bk w6 b bm w2.heap.size days H nh ch vp' (runP (ds.take (k+1)) (hs.map pcOf)) (fun _=>none) 0 0):=hide (by rw[Hnx.out];exact bk6)
   have HO6:=hide (HO5.out.keptG k6 (fun g hg=>hsep.out g hg))
   have HS6:Hid (∀g,v.ownBlock=some g→Bk.own b bm vp' g):=hide fun g hg=>by
    obtain⟨s1,s2,s3⟩:=hsep.out g hg
    refine⟨s1,s2,fun e=>?_⟩
    rcases l6 with l6 | ⟨q,l6,hq⟩
    ·exact s3 (l6 ▸ e)
    ·rw[l6] at e
     injection e with e
     have:=(HO5.out.blockG hg).2
     omega
   have hul:(List.replicate k (0:Int)).length+1≤1000000:=by rw[List.length_replicate];omega
   have hsz:=HB6.out.size
   clear bk6 k6 l6 x0 x1 x2 x3 x4 x5 x6 x7 x8
   go_wp2_with (at_builtin;refine wpList_app1l (v:=v) (xs:=List.replicate k (0:Int)) (base:=w2.heap.size) (k:=1) (bytes:=1) (E:=5) el_u8i rfl (.tmp 27) (.tmp 31) rfl rfl rfl HO6.out (0:Int) rfl hul hsz ?_;intro v' w10 o10 k10 hat;have O10:=hide o10;have K10:=hide k10;have HT10:=hide hat;clear o10 k10 hat)
   have HB10:=hide (HB6.out.trans (K10.out.below (fun b hb e=>by have:=(HO6.out.blockG e).1;omega) hsz))
   have HBK10:=hide (HBK6.out.kept K10.out (fun e=>(HS6.out b e).1 rfl) (fun e=>(HS6.out bm e).2.1 rfl) (fun g hg e=>(HS6.out g e).2.2 hg))
   have HS10:Hid (∀g,v'.ownBlock=some g→Bk.own b bm vp' g):=hide fun g hg=>by
    rcases HT10.out with h | ⟨q,h,hq⟩
    ·exact HS6.out g (h ▸ hg)
    ·rw[h] at hg
     injection hg with hg
     subst hg
     exact HBK6.out.off (.inl hq)
   exact⟨⟨k+1,vp',v',rfl,by omega,by go_num,HBK10,hide (by rw[List.replicate_succ'];exact O10.out),HS10,HB10⟩,by simp[intOf];omega⟩
  ·obtain rfl:n=k:=by omega
   have HF:=hide (HB2.out.trans (hB.out.mono HB2.out.size))
   have HV:=hide ((HO2.out.below hB.out).mono hs1)
   have HW:=hide (ho.out.mono hs2)
   go_wp2_with fail
   go_returns
   exact⟨_,_,rfl,HV.out,HW.out,HF.out⟩
end Go.Proofs.YtiioegopckoldaaGreatDoor
