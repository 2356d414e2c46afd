/- lemmas for agentWrites_holds: AG9. No conditions. -/
import Derived.Test.YtgfghffihjfbpaaGreatDoorK14
set_option linter.unusedVariables false
set_option linter.unusedSimpArgs false
namespace Go.Proofs.YtgfghffihjfbpaaGreatDoor
open Go.RowKit Go.Shelf
def KidPost (xs:List Int) (w:World) (e:Ending) (w':World):Prop:=∃k:Kid,e= .returned (.slice k.A k.n k.c)∧k.xs=xs∧KidOk w' (fun b=>w.heap.size≤b) k∧Below w.heap.size w w'
theorem el_kid:ElLaw Tryz.prog 112 55 1 24 Kid.cells:=elLaw_of Tryz.underlying112 (z:= .slice none 0 0) (by kernel_rfl) rfl (by omega) (fun _=>rfl) Kid.one (by omega)
def NumsPost (xss:List (List Int)) (w:World) (e:Ending) (w':World):Prop:=∃v ks,e= .returned v∧Hang w' w.heap.size 55 1 Kid.cells id v ks∧ks.map Kid.xs=xss∧Below w.heap.size w w'
theorem Rd.sx {w:World} {B:Nat} {A:Option Addr} {xs:List Sx} (h:Rd w B Sx.cells A xs) {i:Nat} (hi:i < xs.length) :
 ∃b off x,A=some ⟨b,off,none⟩∧b < B∧xs[i]?=some x∧w.cell? ⟨b,off+i*4,none⟩=some (.int .i64 x.a)∧w.cell? ⟨b,off+i*4+1,none⟩=some (.int .i64 x.b)∧w.cell? ⟨b,off+i*4+2,none⟩=some (.int .i64 x.lo)∧w.cell? ⟨b,off+i*4+3,none⟩=some (.int .i64 x.hi):=by
 obtain⟨b,off,e,hB,hc⟩:=h (by omega)
 have hx:xs[i]?=some xs[i]:=List.getElem?_eq_getElem hi
 exact⟨b,off,_,e,hB,hx,hc _ _ (flat_get Sx.len hx (j:=0) (by omega)),hc _ _ (flat_get Sx.len hx (j:=1) (by omega)),hc _ _ (flat_get Sx.len hx (j:=2) (by omega)),hc _ _ (flat_get Sx.len hx (j:=3) (by omega))⟩
theorem Rd.mx {w:World} {B:Nat} {A:Option Addr} {xs:List Mx} (h:Rd w B Mx.cells A xs) {i:Nat} (hi:i < xs.length) :
 ∃b off x,A=some ⟨b,off,none⟩∧b < B∧xs[i]?=some x∧w.cell? ⟨b,off+i*3,none⟩=some (.int .i64 x.a)∧w.cell? ⟨b,off+i*3+1,none⟩=some (.int .i64 x.lo)∧w.cell? ⟨b,off+i*3+2,none⟩=some (.int .i64 x.hi):=by
 obtain⟨b,off,e,hB,hc⟩:=h (by omega)
 have hx:xs[i]?=some xs[i]:=List.getElem?_eq_getElem hi
 exact⟨b,off,_,e,hB,hx,hc _ _ (flat_get Mx.len hx (j:=0) (by omega)),hc _ _ (flat_get Mx.len hx (j:=1) (by omega)),hc _ _ (flat_get Mx.len hx (j:=2) (by omega))⟩
theorem Rd.dx {w:World} {B:Nat} {A:Option Addr} {xs:List Dx} (h:Rd w B Dx.cells A xs) {i:Nat} (hi:i < xs.length) :
 ∃b off x,A=some ⟨b,off,none⟩∧b < B∧xs[i]?=some x∧w.cell? ⟨b,off+i*9,none⟩=some (.int .i64 x.id)∧w.cell? ⟨b,off+i*9+1,none⟩=some (.int .i64 x.day)∧w.cell? ⟨b,off+i*9+2,none⟩=some (.int .u8 x.kind)∧w.cell? ⟨b,off+i*9+3,none⟩=some (.int .i64 x.fr)∧w.cell? ⟨b,off+i*9+4,none⟩=some (.int .i64 x.to)
  ∧w.cell? ⟨b,off+i*9+5,none⟩=some (.int .i64 x.tf)∧w.cell? ⟨b,off+i*9+6,none⟩=some (.int .i64 x.tt)∧w.cell? ⟨b,off+i*9+7,none⟩=some (.int .i64 x.un)∧w.cell? ⟨b,off+i*9+8,none⟩=some (.slice x.A x.n x.c):=by
 obtain⟨b,off,e,hB,hc⟩:=h (by omega)
 have hx:xs[i]?=some xs[i]:=List.getElem?_eq_getElem hi
 exact⟨b,off,_,e,hB,hx,hc _ _ (flat_get Dx.len hx (j:=0) (by omega)),hc _ _ (flat_get Dx.len hx (j:=1) (by omega)),hc _ _ (flat_get Dx.len hx (j:=2) (by omega)),hc _ _ (flat_get Dx.len hx (j:=3) (by omega)),hc _ _ (flat_get Dx.len hx (j:=4) (by omega)),hc _ _ (flat_get Dx.len hx (j:=5) (by omega)),hc _ _ (flat_get Dx.len hx (j:=6) (by omega)),hc _ _ (flat_get Dx.len hx (j:=7) (by omega)),hc _ _ (flat_get Dx.len hx (j:=8) (by omega))⟩
set_option maxHeartbeats 4000000 in
set_option maxRecDepth 100000 in
theorem nofS_any (f:FuncId) (A:Option Addr) (xs:List Sx) (n c:Nat) (w:World) (hn:n=xs.length) (hm:n≤1000) (hx:Rd w w.heap.size Sx.cells A xs) (eg:∀args w,(callFunc f args).run Tryz.prog w= .ok (.enter f args) w)
 (hf:∀x w',x∈xs→Below w.heap.size w w'→Calls Tryz.prog f #[.agg #[.int .i64 x.a,.int .i64 x.b,.int .i64 x.lo,.int .i64 x.hi]] w' (KidPost x.nums w')) :
 Calls Tryz.prog 63 #[.slice A n c,.func (.func f) #[] #[]] w (NumsPost (xs.map Sx.nums) w):=by
 have Hn:=hide hn;have Hx:=hide hx;have Hf:=hide hf
 clear hn hx hf
 go_enter Tryz.func63,Tryz.ntmps63
 go_wp2_with fail
 go_loopw [5,10] (fun v i wr=>∃(k:Nat) (ks:List Kid),k≤n∧i= .int .i64 k∧Hid (Hang wr w.heap.size 55 1 Kid.cells id v ks)∧Hid (ks.map Kid.xs=(xs.take k).map Sx.nums)∧Hid (Below w.heap.size w wr)) (fun _ i _=>n-(intOf i).toNat)
 case atStart=>exact⟨0,[],by omega,rfl,hide (Hang.nil _ _ _ _ _ _),hide (by simp),hide (Below.refl _ _)⟩
 case round=>
  obtain⟨k,ks,hk,rfl,hh,hks,hb⟩:=hrel
  obtain⟨v,rfl⟩:∃v,v=u5:=⟨_,rfl⟩
  obtain⟨wo,rfl⟩:∃wo,wo=wr:=⟨_,rfl⟩
  by_cases hlt:k < n
  ·obtain⟨b,off,x,rfl,hbz,hxk,d0,d1,d2,d3⟩:=(Hx.out.below hb.out).sx (i:=k) (by have:=Hn.out;omega)
   have ik:(k:Int) < (n:Int):=by omega
   have hsz:=hb.out.size
   have HS:=hide (show(xs.take (k+1)).map Sx.nums=(xs.take k).map Sx.nums ++ [x.nums] by rw[take_snoc hxk,List.map_append];rfl)
   obtain⟨b7,w7,e7,ew7,hx7,hb7,hz7⟩:=mk_bx wo #[.int .i64 x.a,.int .i64 x.b,.int .i64 x.lo,.int .i64 x.hi] 107
   have H:=hide (Hf.out x w7 (List.mem_of_getElem? hxk) (hb.out.trans (hb7.mono hsz)))
   have hlk:=hide (show ks.length=k by
    have h:=congrArg List.length hks.out
    rw[List.length_map,List.length_map,List.length_take,Nat.min_eq_left (by have:=Hn.out;omega)] at h
    exact h)
   have hlen:ks.length+1≤1000000:=by rw[hlk.out];omega
   have HB7:=hide hb7
   have Hx7:=hide hx7
   clear hxk hb7 hz7 hx7
   go_upto_region 5 with fail
   rw[ew7.out,e7.out]
   clear d0 d1 d2 d3
   obtain⟨d0,d1,d2,d3⟩:=Hx7.out.at_.c4
   go_wp2_with (first | (go_at_fn f;refine H.out.mono ?_;rintro e w8 ⟨kd,rfl,ek,hkd,hb8⟩;have HB8:=hide (HB7.out.trans (hb8.mono HB7.out.size));have HK8:=hide (hkd.mono (Z':=fun b=>wo.heap.size≤b) fun b _ h=>Nat.le_trans HB7.out.size h);have Hek:=hide ek;have hr8:=Rd.new (cells:=Kid.cells) w8 #[.slice kd.A kd.n kd.c] 55 [kd] rfl;have hs8:w.heap.size≤w8.heap.size:=Nat.le_trans hsz HB8.out.size;clear hkd hb8 ek) | (at_builtin;refine wpList_app (v:=v) (xs:=ks) (ys:=[kd]) (n:=1) el_kid rfl (.tmp 14) (.tmp 18) rfl rfl ((hh.out.own.bel HB8.out).alloc _) rfl rfl hr8 hlen (by simp;omega) ?_;intro v' w' o' g' a';obtain⟨hq,hq2⟩:=hh.out.snoc HB8.out hsz HK8.out g' o' a';have HQ:=hide hq;have HQ2:=hide hq2;clear o' g' a' hq hq2))
   exact⟨⟨k+1,ks ++ [kd],by omega,by go_num,HQ,hide (by rw[HS.out,List.map_append,hks.out,←Hek.out];rfl),hide (hb.out.trans HQ2.out)⟩,by simp[intOf];omega⟩
  ·obtain rfl:n=k:=by omega
   go_wp2_with fail
   go_returns
   refine⟨_,ks,rfl,hh.out,?_,hb.out⟩
   rw[hks.out,List.take_of_length_le (by rw[Hn.out];exact Nat.le_refl _)]
set_option maxHeartbeats 4000000 in
set_option maxRecDepth 100000 in
theorem nofM_any (f:FuncId) (A:Option Addr) (xs:List Mx) (n c:Nat) (w:World) (hn:n=xs.length) (hm:n≤1000) (hx:Rd w w.heap.size Mx.cells A xs) (eg:∀args w,(callFunc f args).run Tryz.prog w= .ok (.enter f args) w)
 (hf:∀x w',x∈xs→Below w.heap.size w w'→Calls Tryz.prog f #[.agg #[.int .i64 x.a,.int .i64 x.lo,.int .i64 x.hi]] w' (KidPost x.nums w')) :
 Calls Tryz.prog 68 #[.slice A n c,.func (.func f) #[] #[]] w (NumsPost (xs.map Mx.nums) w):=by
 have Hn:=hide hn;have Hx:=hide hx;have Hf:=hide hf
 clear hn hx hf
 go_enter Tryz.func68,Tryz.ntmps68
 go_wp2_with fail
 go_loopw [5,10] (fun v i wr=>∃(k:Nat) (ks:List Kid),k≤n∧i= .int .i64 k∧Hid (Hang wr w.heap.size 55 1 Kid.cells id v ks)∧Hid (ks.map Kid.xs=(xs.take k).map Mx.nums)∧Hid (Below w.heap.size w wr)) (fun _ i _=>n-(intOf i).toNat)
 case atStart=>exact⟨0,[],by omega,rfl,hide (Hang.nil _ _ _ _ _ _),hide (by simp),hide (Below.refl _ _)⟩
 case round=>
  obtain⟨k,ks,hk,rfl,hh,hks,hb⟩:=hrel
  obtain⟨v,rfl⟩:∃v,v=u5:=⟨_,rfl⟩
  obtain⟨wo,rfl⟩:∃wo,wo=wr:=⟨_,rfl⟩
  by_cases hlt:k < n
  ·obtain⟨b,off,x,rfl,hbz,hxk,d0,d1,d2⟩:=(Hx.out.below hb.out).mx (i:=k) (by have:=Hn.out;omega)
   have ik:(k:Int) < (n:Int):=by omega
   have hsz:=hb.out.size
   have HS:=hide (show(xs.take (k+1)).map Mx.nums=(xs.take k).map Mx.nums ++ [x.nums] by rw[take_snoc hxk,List.map_append];rfl)
   obtain⟨b7,w7,e7,ew7,hx7,hb7,hz7⟩:=mk_bx wo #[.int .i64 x.a,.int .i64 x.lo,.int .i64 x.hi] 109
   have H:=hide (Hf.out x w7 (List.mem_of_getElem? hxk) (hb.out.trans (hb7.mono hsz)))
   have hlk:=hide (show ks.length=k by
    have h:=congrArg List.length hks.out
    rw[List.length_map,List.length_map,List.length_take,Nat.min_eq_left (by have:=Hn.out;omega)] at h
    exact h)
   have hlen:ks.length+1≤1000000:=by rw[hlk.out];omega
   have HB7:=hide hb7
   have Hx7:=hide hx7
   clear hxk hb7 hz7 hx7
   go_upto_region 5 with fail
   rw[ew7.out,e7.out]
   clear d0 d1 d2
   obtain⟨d0,d1,d2⟩:=Hx7.out.at_.c3
   go_wp2_with (first | (go_at_fn f;refine H.out.mono ?_;rintro e w8 ⟨kd,rfl,ek,hkd,hb8⟩;have HB8:=hide (HB7.out.trans (hb8.mono HB7.out.size));have HK8:=hide (hkd.mono (Z':=fun b=>wo.heap.size≤b) fun b _ h=>Nat.le_trans HB7.out.size h);have Hek:=hide ek;have hr8:=Rd.new (cells:=Kid.cells) w8 #[.slice kd.A kd.n kd.c] 55 [kd] rfl;have hs8:w.heap.size≤w8.heap.size:=Nat.le_trans hsz HB8.out.size;clear hkd hb8 ek) | (at_builtin;refine wpList_app (v:=v) (xs:=ks) (ys:=[kd]) (n:=1) el_kid rfl (.tmp 14) (.tmp 18) rfl rfl ((hh.out.own.bel HB8.out).alloc _) rfl rfl hr8 hlen (by simp;omega) ?_;intro v' w' o' g' a';obtain⟨hq,hq2⟩:=hh.out.snoc HB8.out hsz HK8.out g' o' a';have HQ:=hide hq;have HQ2:=hide hq2;clear o' g' a' hq hq2))
   exact⟨⟨k+1,ks ++ [kd],by omega,by go_num,HQ,hide (by rw[HS.out,List.map_append,hks.out,←Hek.out];rfl),hide (hb.out.trans HQ2.out)⟩,by simp[intOf];omega⟩
  ·obtain rfl:n=k:=by omega
   go_wp2_with fail
   go_returns
   refine⟨_,ks,rfl,hh.out,?_,hb.out⟩
   rw[hks.out,List.take_of_length_le (by rw[Hn.out];exact Nat.le_refl _)]
set_option maxHeartbeats 4000000 in
set_option maxRecDepth 100000 in
theorem nofG_any (f:FuncId) (A:Option Addr) (xs:List Mx) (n c:Nat) (w:World) (hn:n=xs.length) (hm:n≤1000) (hx:Rd w w.heap.size Mx.cells A xs) (eg:∀args w,(callFunc f args).run Tryz.prog w= .ok (.enter f args) w)
 (hf:∀x w',x∈xs→Below w.heap.size w w'→Calls Tryz.prog f #[.agg #[.int .i64 x.a,.int .i64 x.lo,.int .i64 x.hi]] w' (KidPost x.nums w')) :
 Calls Tryz.prog 73 #[.slice A n c,.func (.func f) #[] #[]] w (NumsPost (xs.map Mx.nums) w):=by
 have Hn:=hide hn;have Hx:=hide hx;have Hf:=hide hf
 clear hn hx hf
 go_enter Tryz.func73,Tryz.ntmps73
 go_wp2_with fail
 go_loopw [5,10] (fun v i wr=>∃(k:Nat) (ks:List Kid),k≤n∧i= .int .i64 k∧Hid (Hang wr w.heap.size 55 1 Kid.cells id v ks)∧Hid (ks.map Kid.xs=(xs.take k).map Mx.nums)∧Hid (Below w.heap.size w wr)) (fun _ i _=>n-(intOf i).toNat)
 case atStart=>exact⟨0,[],by omega,rfl,hide (Hang.nil _ _ _ _ _ _),hide (by simp),hide (Below.refl _ _)⟩
 case round=>
  obtain⟨k,ks,hk,rfl,hh,hks,hb⟩:=hrel
  obtain⟨v,rfl⟩:∃v,v=u5:=⟨_,rfl⟩
  obtain⟨wo,rfl⟩:∃wo,wo=wr:=⟨_,rfl⟩
  by_cases hlt:k < n
  ·obtain⟨b,off,x,rfl,hbz,hxk,d0,d1,d2⟩:=(Hx.out.below hb.out).mx (i:=k) (by have:=Hn.out;omega)
   have ik:(k:Int) < (n:Int):=by omega
   have hsz:=hb.out.size
   have HS:=hide (show(xs.take (k+1)).map Mx.nums=(xs.take k).map Mx.nums ++ [x.nums] by rw[take_snoc hxk,List.map_append];rfl)
   obtain⟨b7,w7,e7,ew7,hx7,hb7,hz7⟩:=mk_bx wo #[.int .i64 x.a,.int .i64 x.lo,.int .i64 x.hi] 130
   have H:=hide (Hf.out x w7 (List.mem_of_getElem? hxk) (hb.out.trans (hb7.mono hsz)))
   have hlk:=hide (show ks.length=k by
    have h:=congrArg List.length hks.out
    rw[List.length_map,List.length_map,List.length_take,Nat.min_eq_left (by have:=Hn.out;omega)] at h
    exact h)
   have hlen:ks.length+1≤1000000:=by rw[hlk.out];omega
   have HB7:=hide hb7
   have Hx7:=hide hx7
   clear hxk hb7 hz7 hx7
   go_upto_region 5 with fail
   rw[ew7.out,e7.out]
   clear d0 d1 d2
   obtain⟨d0,d1,d2⟩:=Hx7.out.at_.c3
   go_wp2_with (first | (go_at_fn f;refine H.out.mono ?_;rintro e w8 ⟨kd,rfl,ek,hkd,hb8⟩;have HB8:=hide (HB7.out.trans (hb8.mono HB7.out.size));have HK8:=hide (hkd.mono (Z':=fun b=>wo.heap.size≤b) fun b _ h=>Nat.le_trans HB7.out.size h);have Hek:=hide ek;have hr8:=Rd.new (cells:=Kid.cells) w8 #[.slice kd.A kd.n kd.c] 55 [kd] rfl;have hs8:w.heap.size≤w8.heap.size:=Nat.le_trans hsz HB8.out.size;clear hkd hb8 ek) | (at_builtin;refine wpList_app (v:=v) (xs:=ks) (ys:=[kd]) (n:=1) el_kid rfl (.tmp 14) (.tmp 18) rfl rfl ((hh.out.own.bel HB8.out).alloc _) rfl rfl hr8 hlen (by simp;omega) ?_;intro v' w' o' g' a';obtain⟨hq,hq2⟩:=hh.out.snoc HB8.out hsz HK8.out g' o' a';have HQ:=hide hq;have HQ2:=hide hq2;clear o' g' a' hq hq2))
   exact⟨⟨k+1,ks ++ [kd],by omega,by go_num,HQ,hide (by rw[HS.out,List.map_append,hks.out,←Hek.out];rfl),hide (hb.out.trans HQ2.out)⟩,by simp[intOf];omega⟩
  ·obtain rfl:n=k:=by omega
   go_wp2_with fail
   go_returns
   refine⟨_,ks,rfl,hh.out,?_,hb.out⟩
   rw[hks.out,List.take_of_length_le (by rw[Hn.out];exact Nat.le_refl _)]
set_option maxHeartbeats 4000000 in
set_option maxRecDepth 100000 in
theorem nofD_any (f:FuncId) (A:Option Addr) (xs:List Dx) (n c:Nat) (w:World) (hn:n=xs.length) (hm:n≤1000) (hx:Rd w w.heap.size Dx.cells A xs) (eg:∀args w,(callFunc f args).run Tryz.prog w= .ok (.enter f args) w)
 (hf:∀x w',x∈xs→Below w.heap.size w w'→Calls Tryz.prog f #[.agg #[.int .i64 x.id,.int .i64 x.day,.int .u8 x.kind,.int .i64 x.fr,.int .i64 x.to,.int .i64 x.tf,.int .i64 x.tt,.int .i64 x.un,.slice x.A x.n x.c]] w' (KidPost x.nums w')) :
 Calls Tryz.prog 78 #[.slice A n c,.func (.func f) #[] #[]] w (NumsPost (xs.map Dx.nums) w):=by
 have Hn:=hide hn;have Hx:=hide hx;have Hf:=hide hf
 clear hn hx hf
 go_enter Tryz.func78,Tryz.ntmps78
 go_wp2_with fail
 go_loopw [5,10] (fun v i wr=>∃(k:Nat) (ks:List Kid),k≤n∧i= .int .i64 k∧Hid (Hang wr w.heap.size 55 1 Kid.cells id v ks)∧Hid (ks.map Kid.xs=(xs.take k).map Dx.nums)∧Hid (Below w.heap.size w wr)) (fun _ i _=>n-(intOf i).toNat)
 case atStart=>exact⟨0,[],by omega,rfl,hide (Hang.nil _ _ _ _ _ _),hide (by simp),hide (Below.refl _ _)⟩
 case round=>
  obtain⟨k,ks,hk,rfl,hh,hks,hb⟩:=hrel
  obtain⟨v,rfl⟩:∃v,v=u5:=⟨_,rfl⟩
  obtain⟨wo,rfl⟩:∃wo,wo=wr:=⟨_,rfl⟩
  by_cases hlt:k < n
  ·obtain⟨b,off,x,rfl,hbz,hxk,d0,d1,d2,d3,d4,d5,d6,d7,d8⟩:=(Hx.out.below hb.out).dx (i:=k) (by have:=Hn.out;omega)
   have ik:(k:Int) < (n:Int):=by omega
   have hsz:=hb.out.size
   have HS:=hide (show(xs.take (k+1)).map Dx.nums=(xs.take k).map Dx.nums ++ [x.nums] by rw[take_snoc hxk,List.map_append];rfl)
   obtain⟨b7,w7,e7,ew7,hx7,hb7,hz7⟩:=mk_bx wo #[.int .i64 x.id,.int .i64 x.day,.int .u8 x.kind,.int .i64 x.fr,.int .i64 x.to,.int .i64 x.tf,.int .i64 x.tt,.int .i64 x.un,.slice x.A x.n x.c] 54
   have H:=hide (Hf.out x w7 (List.mem_of_getElem? hxk) (hb.out.trans (hb7.mono hsz)))
   have hlk:=hide (show ks.length=k by
    have h:=congrArg List.length hks.out
    rw[List.length_map,List.length_map,List.length_take,Nat.min_eq_left (by have:=Hn.out;omega)] at h
    exact h)
   have hlen:ks.length+1≤1000000:=by rw[hlk.out];omega
   have HB7:=hide hb7
   have Hx7:=hide hx7
   clear hxk hb7 hz7 hx7
   go_upto_region 5 with fail
   rw[ew7.out,e7.out]
   clear d0 d1 d2 d3 d4 d5 d6 d7 d8
   obtain⟨d0,d1,d2,d3,d4,d5,d6,d7,d8⟩:=At.d9 Hx7.out.at_
   go_wp2_with (first | (go_at_fn f;refine H.out.mono ?_;rintro e w8 ⟨kd,rfl,ek,hkd,hb8⟩;have HB8:=hide (HB7.out.trans (hb8.mono HB7.out.size));have HK8:=hide (hkd.mono (Z':=fun b=>wo.heap.size≤b) fun b _ h=>Nat.le_trans HB7.out.size h);have Hek:=hide ek;have hr8:=Rd.new (cells:=Kid.cells) w8 #[.slice kd.A kd.n kd.c] 55 [kd] rfl;have hs8:w.heap.size≤w8.heap.size:=Nat.le_trans hsz HB8.out.size;clear hkd hb8 ek) | (at_builtin;refine wpList_app (v:=v) (xs:=ks) (ys:=[kd]) (n:=1) el_kid rfl (.tmp 14) (.tmp 18) rfl rfl ((hh.out.own.bel HB8.out).alloc _) rfl rfl hr8 hlen (by simp;omega) ?_;intro v' w' o' g' a';obtain⟨hq,hq2⟩:=hh.out.snoc HB8.out hsz HK8.out g' o' a';have HQ:=hide hq;have HQ2:=hide hq2;clear o' g' a' hq hq2))
   exact⟨⟨k+1,ks ++ [kd],by omega,by go_num,HQ,hide (by rw[HS.out,List.map_append,hks.out,←Hek.out];rfl),hide (hb.out.trans HQ2.out)⟩,by simp[intOf];omega⟩
  ·obtain rfl:n=k:=by omega
   go_wp2_with fail
   go_returns
   refine⟨_,ks,rfl,hh.out,?_,hb.out⟩
   rw[hks.out,List.take_of_length_le (by rw[Hn.out];exact Nat.le_refl _)]
end Go.Proofs.YtgfghffihjfbpaaGreatDoor
