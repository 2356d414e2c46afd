/- lemmas for agentWrites_holds: AGI. No conditions. -/
import Derived.Test.YtgfghffihjfbpaaGreatDoorK34
set_option linter.unusedVariables false
set_option linter.unusedSimpArgs false
namespace Go.Proofs.YtgfghffihjfbpaaGreatDoor
open Go.RowKit Go.Shelf
structure Rw where
 i:Nat
 kid:Kid
def Rw.cells (r:Rw):List Value:=[.string ⟨(letB r.i).toArray⟩,.string ⟨(worB r.i).toArray⟩,.slice r.kid.A r.kid.n r.kid.c]
def Rw.pair (r:Rw):Nat×List Int:=(r.i,r.kid.xs)
theorem Rw.len (r:Rw):r.cells.length=3:=rfl
theorem Rw.one (r:Rw):∀u∈r.cells,u.oneCell'=true:=by simp[Rw.cells,Value.oneCell']
theorem el_row:ElLaw Tryz.prog 70 74 3 56 Rw.cells:=elLaw_of Tryz.underlying70 (z:= .agg #[.string ⟨#[]⟩,.string ⟨#[]⟩,.slice none 0 0]) (by kernel_rfl) rfl (by omega) (fun _=>rfl) Rw.one (by omega)
theorem Rd.rw {w:World} {B:Nat} {A:Option Addr} {xs:List Rw} (h:Rd w B Rw.cells A xs) {i:Nat} (hi:i < xs.length) :
 ∃b off x,A=some ⟨b,off,none⟩∧b < B∧xs[i]?=some x∧w.cell? ⟨b,off+i*3,none⟩=some (.string ⟨(letB x.i).toArray⟩)∧w.cell? ⟨b,off+i*3+1,none⟩=some (.string ⟨(worB x.i).toArray⟩)∧w.cell? ⟨b,off+i*3+2,none⟩=some (.slice x.kid.A x.kid.n x.kid.c):=by
 obtain⟨b,off,e,hB,hc⟩:=h (by omega)
 have hx:xs[i]?=some xs[i]:=List.getElem?_eq_getElem hi
 exact⟨b,off,_,e,hB,hx,hc _ _ (flat_get Rw.len hx (j:=0) (by omega)),hc _ _ (flat_get Rw.len hx (j:=1) (by omega)),hc _ _ (flat_get Rw.len hx (j:=2) (by omega))⟩
set_option maxHeartbeats 4000000 in
set_option maxRecDepth 100000 in
theorem ar_Rows (b:Bo) (w:World) (hok:b.ok w) :
 Calls Tryz.prog 22 #[.agg #[.slice b.A1 b.n1 b.c1,.slice b.A2 b.n2 b.c2,.slice b.A3 b.n3 b.c3,.slice b.A4 b.n4 b.c4]] w fun e w'=>∃v rs,e= .returned v∧Hang w' w.heap.size 74 3 Rw.cells Rw.kid v rs∧rs.map Rw.pair=b.rows∧Below w.heap.size w w':=by
 obtain⟨b1,w1,e1,ew1,hx1,hb1,hz1⟩:=mk_bx w #[.slice b.A1 b.n1 b.c1,.slice b.A2 b.n2 b.c2,.slice b.A3 b.n3 b.c3,.slice b.A4 b.n4 b.c4] 27
 have HX1:=hide hx1;have HB1:=hide hb1;have Hz:=hide hb1.size
 have Hok:=hide (hok.bel hb1)
 have hsm:=Hok.out.sm
 clear hx1 hb1 hz1 hok
 go_enter Tryz.func22,Tryz.ntmps22
 go_upto_region 3 with fail
 rw[ew1.out,e1.out]
 have HH:=hide (Hang.nil w1 w1.heap.size 74 3 Rw.cells Rw.kid)
 have HM:=hide (show([]:List Rw).map Rw.pair=b.upto 0 from rfl)
 have HB:=hide (Below.refl w1.heap.size w1)
 clear ew1 e1
 go_loopw [3,4] (fun v iv wr=>∃(k:Nat) (rs:List Rw),k≤b.n1∧iv= .int .i64 k∧Hid (Hang wr w1.heap.size 74 3 Rw.cells Rw.kid v rs)∧Hid (rs.map Rw.pair=b.upto 0 ++ ((b.nums 0).take k).map fun l=>(0,l))∧Hid (Below w1.heap.size w1 wr)) (fun _ iv _=>b.n1-(intOf iv).toNat)
 case atStart=>exact⟨0,_,by omega,rfl,HH,hide (by rw[HM.out];simp),HB⟩
 case round=>
  clear HH HM HB
  obtain⟨k,rs,hk,rfl,hh,hm,hb⟩:=hrel
  obtain⟨v,rfl⟩:∃v,v=u3:=⟨_,rfl⟩
  obtain⟨wo,rfl⟩:∃wo,wo=wr:=⟨_,rfl⟩
  obtain⟨q0,q1,q2,q3⟩:=(HX1.out.bel hb.out).at_.c4
  by_cases hlt:k < b.n1
  ·obtain⟨bb,off,x,hA,hbz,hxk,d0,d1,d2,d3⟩:=(Hok.out.r1.below hb.out).sx (i:=k) (by have:=Hok.out.e1;omega)
   have ik:(k:Int) < (b.n1:Int):=by omega
   have hsz:=hb.out.size
   have hxn:(b.nums 0)[k]?=some x.nums:=by show(b.ss.map Sx.nums)[k]?=_;rw[List.getElem?_map,hxk];rfl
   have HS:=hide (show((b.nums 0).take (k+1)).map (fun l=>(0,l))=((b.nums 0).take k).map (fun l=>(0,l)) ++ [(0,x.nums)] by rw[take_snoc hxn,List.map_append];rfl)
   have H:=hide (rsx_any x wo)
   have hlk:=hide (show rs.length≤300 by
    have h:=congrArg List.length hm.out
    rw[List.length_map,List.length_append,List.length_map,List.length_take] at h
    have h1:=b.upto_succ 0
    have h2:=b.upto_le (i:=0+1) (by omega)
    have h3:=Hok.out.rows_le
    omega)
   have hlen:rs.length+1≤1000000:=by have:=hlk.out;omega
   clear hxk hxn
   rw[hA] at q0
   clear hA
   go_upto_region 5 with fail
   go_wp2_with (first | (go_at_call 53;refine H.out.mono ?_;rintro e w8 ⟨kd,rfl,ek,hkd,hb8⟩;have HB8:=hide hb8;have HK8:=hide hkd;have Hek:=hide ek;have hr8:=Rd.new (cells:=Rw.cells) w8 #[.string ⟨#[83]⟩,.string ⟨#[83,72,79,84]⟩,.slice kd.A kd.n kd.c] 74 [⟨0,kd⟩] rfl;clear hkd hb8 ek) | (at_builtin;refine wpList_app (v:=v) (xs:=rs) (ys:=[(⟨0,kd⟩:Rw)]) (n:=1) el_row rfl (.tmp 15) (.tmp 23) rfl rfl ((hh.out.own.bel HB8.out).alloc _) rfl rfl hr8 hlen (by simp;have:=HB8.out.size;omega) ?_;intro v' w' o' g' a';obtain⟨hq,hq2⟩:=hh.out.snoc (q:=(⟨0,kd⟩:Rw)) HB8.out hsz HK8.out g' o' a';have hq3:=hide (hb.out.trans hq2);have HQ:=hide hq;clear o' g' a' hq hq2))
   exact⟨⟨k+1,rs ++ [⟨0,kd⟩],by omega,by go_num,HQ,hide (by rw[HS.out,←List.append_assoc,←hm.out,List.map_append];unfold Rw.pair;rw[←Hek.out];rfl),hq3⟩,by simp[intOf];omega⟩
  ·have ik:¬(k:Int) < (b.n1:Int):=by omega
   have HH:=hh;have HB:=hb
   have HM:=hide (show rs.map Rw.pair=b.upto 1 by
    rw[hm.out,List.take_of_length_le (by show(b.ss.map Sx.nums).length≤_;rw[List.length_map];have:=Hok.out.e1;omega)];rfl)
   clear hh hb hm
   go_wp2_with fail
   clear ik q0 q1 q2 q3 hlt hk
   go_loopw [3,5] (fun v iv wr=>∃(k:Nat) (rs:List Rw),k≤b.n2∧iv= .int .i64 k∧Hid (Hang wr w1.heap.size 74 3 Rw.cells Rw.kid v rs)∧Hid (rs.map Rw.pair=b.upto 1 ++ ((b.nums 1).take k).map fun l=>(1,l))∧Hid (Below w1.heap.size w1 wr)) (fun _ iv _=>b.n2-(intOf iv).toNat)
   case atStart=>exact⟨0,_,by omega,rfl,HH,hide (by rw[HM.out];simp),HB⟩
   case round=>
    clear HH HM HB
    obtain⟨k,rs,hk,rfl,hh,hm,hb⟩:=hrel
    obtain⟨v,rfl⟩:∃v,v=u3:=⟨_,rfl⟩
    obtain⟨wo,rfl⟩:∃wo,wo=wr:=⟨_,rfl⟩
    obtain⟨q0,q1,q2,q3⟩:=(HX1.out.bel hb.out).at_.c4
    by_cases hlt:k < b.n2
    ·obtain⟨bb,off,x,hA,hbz,hxk,d0,d1,d2⟩:=(Hok.out.r2.below hb.out).mx (i:=k) (by have:=Hok.out.e2;omega)
     have ik:(k:Int) < (b.n2:Int):=by omega
     have hsz:=hb.out.size
     have hxn:(b.nums 1)[k]?=some x.nums:=by show(b.ms.map Mx.nums)[k]?=_;rw[List.getElem?_map,hxk];rfl
     have HS:=hide (show((b.nums 1).take (k+1)).map (fun l=>(1,l))=((b.nums 1).take k).map (fun l=>(1,l)) ++ [(1,x.nums)] by rw[take_snoc hxn,List.map_append];rfl)
     have H:=hide (rmx_any x wo)
     have hlk:=hide (show rs.length≤300 by
      have h:=congrArg List.length hm.out
      rw[List.length_map,List.length_append,List.length_map,List.length_take] at h
      have h1:=b.upto_succ 1
      have h2:=b.upto_le (i:=1+1) (by omega)
      have h3:=Hok.out.rows_le
      omega)
     have hlen:rs.length+1≤1000000:=by have:=hlk.out;omega
     clear hxk hxn
     rw[hA] at q1
     clear hA
     go_upto_region 9 with fail
     go_wp2_with (first | (go_at_call 54;refine H.out.mono ?_;rintro e w8 ⟨kd,rfl,ek,hkd,hb8⟩;have HB8:=hide hb8;have HK8:=hide hkd;have Hek:=hide ek;have hr8:=Rd.new (cells:=Rw.cells) w8 #[.string ⟨#[77]⟩,.string ⟨#[77,65,82,75]⟩,.slice kd.A kd.n kd.c] 74 [⟨1,kd⟩] rfl;clear hkd hb8 ek) | (at_builtin;refine wpList_app (v:=v) (xs:=rs) (ys:=[(⟨1,kd⟩:Rw)]) (n:=1) el_row rfl (.tmp 32) (.tmp 40) rfl rfl ((hh.out.own.bel HB8.out).alloc _) rfl rfl hr8 hlen (by simp;have:=HB8.out.size;omega) ?_;intro v' w' o' g' a';obtain⟨hq,hq2⟩:=hh.out.snoc (q:=(⟨1,kd⟩:Rw)) HB8.out hsz HK8.out g' o' a';have hq3:=hide (hb.out.trans hq2);have HQ:=hide hq;clear o' g' a' hq hq2))
     exact⟨⟨k+1,rs ++ [⟨1,kd⟩],by omega,by go_num,HQ,hide (by rw[HS.out,←List.append_assoc,←hm.out,List.map_append];unfold Rw.pair;rw[←Hek.out];rfl),hq3⟩,by simp[intOf];omega⟩
    ·have ik:¬(k:Int) < (b.n2:Int):=by omega
     have HH:=hh;have HB:=hb
     have HM:=hide (show rs.map Rw.pair=b.upto 2 by
      rw[hm.out,List.take_of_length_le (by show(b.ms.map Mx.nums).length≤_;rw[List.length_map];have:=Hok.out.e2;omega)];rfl)
     clear hh hb hm
     go_wp2_with fail
     clear ik q0 q1 q2 q3 hlt hk
     go_loopw [3,6] (fun v iv wr=>∃(k:Nat) (rs:List Rw),k≤b.n3∧iv= .int .i64 k∧Hid (Hang wr w1.heap.size 74 3 Rw.cells Rw.kid v rs)∧Hid (rs.map Rw.pair=b.upto 2 ++ ((b.nums 2).take k).map fun l=>(2,l))∧Hid (Below w1.heap.size w1 wr)) (fun _ iv _=>b.n3-(intOf iv).toNat)
     case atStart=>exact⟨0,_,by omega,rfl,HH,hide (by rw[HM.out];simp),HB⟩
     case round=>
      clear HH HM HB
      obtain⟨k,rs,hk,rfl,hh,hm,hb⟩:=hrel
      obtain⟨v,rfl⟩:∃v,v=u3:=⟨_,rfl⟩
      obtain⟨wo,rfl⟩:∃wo,wo=wr:=⟨_,rfl⟩
      obtain⟨q0,q1,q2,q3⟩:=(HX1.out.bel hb.out).at_.c4
      by_cases hlt:k < b.n3
      ·obtain⟨bb,off,x,hA,hbz,hxk,d0,d1,d2⟩:=(Hok.out.r3.below hb.out).mx (i:=k) (by have:=Hok.out.e3;omega)
       have ik:(k:Int) < (b.n3:Int):=by omega
       have hsz:=hb.out.size
       have hxn:(b.nums 2)[k]?=some x.nums:=by show(b.gs.map Mx.nums)[k]?=_;rw[List.getElem?_map,hxk];rfl
       have HS:=hide (show((b.nums 2).take (k+1)).map (fun l=>(2,l))=((b.nums 2).take k).map (fun l=>(2,l)) ++ [(2,x.nums)] by rw[take_snoc hxn,List.map_append];rfl)
       have H:=hide (rgx_any x wo)
       have hlk:=hide (show rs.length≤300 by
        have h:=congrArg List.length hm.out
        rw[List.length_map,List.length_append,List.length_map,List.length_take] at h
        have h1:=b.upto_succ 2
        have h2:=b.upto_le (i:=2+1) (by omega)
        have h3:=Hok.out.rows_le
        omega)
       have hlen:rs.length+1≤1000000:=by have:=hlk.out;omega
       clear hxk hxn
       rw[hA] at q2
       clear hA
       go_upto_region 13 with fail
       go_wp2_with (first | (go_at_call 55;refine H.out.mono ?_;rintro e w8 ⟨kd,rfl,ek,hkd,hb8⟩;have HB8:=hide hb8;have HK8:=hide hkd;have Hek:=hide ek;have hr8:=Rd.new (cells:=Rw.cells) w8 #[.string ⟨#[71]⟩,.string ⟨#[71,65,85,71,69]⟩,.slice kd.A kd.n kd.c] 74 [⟨2,kd⟩] rfl;clear hkd hb8 ek) | (at_builtin;refine wpList_app (v:=v) (xs:=rs) (ys:=[(⟨2,kd⟩:Rw)]) (n:=1) el_row rfl (.tmp 49) (.tmp 57) rfl rfl ((hh.out.own.bel HB8.out).alloc _) rfl rfl hr8 hlen (by simp;have:=HB8.out.size;omega) ?_;intro v' w' o' g' a';obtain⟨hq,hq2⟩:=hh.out.snoc (q:=(⟨2,kd⟩:Rw)) HB8.out hsz HK8.out g' o' a';have hq3:=hide (hb.out.trans hq2);have HQ:=hide hq;clear o' g' a' hq hq2))
       exact⟨⟨k+1,rs ++ [⟨2,kd⟩],by omega,by go_num,HQ,hide (by rw[HS.out,←List.append_assoc,←hm.out,List.map_append];unfold Rw.pair;rw[←Hek.out];rfl),hq3⟩,by simp[intOf];omega⟩
      ·have ik:¬(k:Int) < (b.n3:Int):=by omega
       have HH:=hh;have HB:=hb
       have HM:=hide (show rs.map Rw.pair=b.upto 3 by
        rw[hm.out,List.take_of_length_le (by show(b.gs.map Mx.nums).length≤_;rw[List.length_map];have:=Hok.out.e3;omega)];rfl)
       clear hh hb hm
       go_wp2_with fail
       clear ik q0 q1 q2 q3 hlt hk
       go_loopw [3,7] (fun v iv wr=>∃(k:Nat) (rs:List Rw),k≤b.n4∧iv= .int .i64 k∧Hid (Hang wr w1.heap.size 74 3 Rw.cells Rw.kid v rs)∧Hid (rs.map Rw.pair=b.upto 3 ++ ((b.nums 3).take k).map fun l=>(3,l))∧Hid (Below w1.heap.size w1 wr)) (fun _ iv _=>b.n4-(intOf iv).toNat)
       case atStart=>exact⟨0,_,by omega,rfl,HH,hide (by rw[HM.out];simp),HB⟩
       case round=>
        clear HH HM HB
        obtain⟨k,rs,hk,rfl,hh,hm,hb⟩:=hrel
        obtain⟨v,rfl⟩:∃v,v=u3:=⟨_,rfl⟩
        obtain⟨wo,rfl⟩:∃wo,wo=wr:=⟨_,rfl⟩
        obtain⟨q0,q1,q2,q3⟩:=(HX1.out.bel hb.out).at_.c4
        by_cases hlt:k < b.n4
        ·obtain⟨bb,off,x,hA,hbz,hxk,d0,d1,d2,d3,d4,d5,d6,d7,d8⟩:=(Hok.out.r4.below hb.out).dx (i:=k) (by have:=Hok.out.e4;omega)
         have ik:(k:Int) < (b.n4:Int):=by omega
         have hsz:=hb.out.size
         have hxn:(b.nums 3)[k]?=some x.nums:=by show(b.ds.map Dx.nums)[k]?=_;rw[List.getElem?_map,hxk];rfl
         have HS:=hide (show((b.nums 3).take (k+1)).map (fun l=>(3,l))=((b.nums 3).take k).map (fun l=>(3,l)) ++ [(3,x.nums)] by rw[take_snoc hxn,List.map_append];rfl)
         have H:=hide (rdx_any x wo ((Hok.out.rd x (List.mem_of_getElem? hxk)).bel hb.out))
         have hlk:=hide (show rs.length≤300 by
          have h:=congrArg List.length hm.out
          rw[List.length_map,List.length_append,List.length_map,List.length_take] at h
          have h1:=b.upto_succ 3
          have h2:=b.upto_le (i:=3+1) (by omega)
          have h3:=Hok.out.rows_le
          omega)
         have hlen:rs.length+1≤1000000:=by have:=hlk.out;omega
         clear hxk hxn
         rw[hA] at q3
         clear hA
         go_upto_region 17 with fail
         go_wp2_with (first | (go_at_call 56;refine H.out.mono ?_;rintro e w8 ⟨kd,rfl,ek,hkd,hb8⟩;have HB8:=hide hb8;have HK8:=hide hkd;have Hek:=hide ek;have hr8:=Rd.new (cells:=Rw.cells) w8 #[.string ⟨#[68]⟩,.string ⟨#[68,69,69,68]⟩,.slice kd.A kd.n kd.c] 74 [⟨3,kd⟩] rfl;clear hkd hb8 ek) | (at_builtin;refine wpList_app (v:=v) (xs:=rs) (ys:=[(⟨3,kd⟩:Rw)]) (n:=1) el_row rfl (.tmp 66) (.tmp 74) rfl rfl ((hh.out.own.bel HB8.out).alloc _) rfl rfl hr8 hlen (by simp;have:=HB8.out.size;omega) ?_;intro v' w' o' g' a';obtain⟨hq,hq2⟩:=hh.out.snoc (q:=(⟨3,kd⟩:Rw)) HB8.out hsz HK8.out g' o' a';have hq3:=hide (hb.out.trans hq2);have HQ:=hide hq;clear o' g' a' hq hq2))
         exact⟨⟨k+1,rs ++ [⟨3,kd⟩],by omega,by go_num,HQ,hide (by rw[HS.out,←List.append_assoc,←hm.out,List.map_append];unfold Rw.pair;rw[←Hek.out];rfl),hq3⟩,by simp[intOf];omega⟩
        ·have ik:¬(k:Int) < (b.n4:Int):=by omega
         have HH:=hh;have HB:=hb
         have HM:=hide (show rs.map Rw.pair=b.upto 4 by
          rw[hm.out,List.take_of_length_le (by show(b.ds.map Dx.nums).length≤_;rw[List.length_map];have:=Hok.out.e4;omega)];rfl)
         clear hh hb hm
         go_wp2_with fail
         clear ik q0 q1 q2 q3 hlt hk
         go_returns
         exact⟨_,rfl,rs,HH.out.mono Hz.out,HM.out,HB1.out.trans (HB.out.mono HB1.out.size)⟩
end Go.Proofs.YtgfghffihjfbpaaGreatDoor
