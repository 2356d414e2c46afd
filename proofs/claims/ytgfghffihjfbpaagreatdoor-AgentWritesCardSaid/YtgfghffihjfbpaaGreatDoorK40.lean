/- lemmas for agentWrites_holds: LayA. No conditions. -/
import Derived.Test.YtgfghffihjfbpaaGreatDoorK02
import Derived.Test.YtgfghffihjfbpaaGreatDoorK21
import Derived.LaidMore
import Derived.LaidSub
import Derived.Lay
import Derived.SizedLaws
set_option linter.unusedVariables false
set_option linter.unusedSimpArgs false
namespace Go.Proofs.YtgfghffihjfbpaaGreatDoor
open Go.RowKit Go.Shelf Go.WideShapes Go.ChangeShapes Go.ChangeAt Go.Deep
abbrev laidW : List (String × DataW Unit) := [("math/bits.deBruijn32tab", Rows.laid_math_bits_deBruijn32tab), ("math/bits.deBruijn64tab", Rows.laid_math_bits_deBruijn64tab), ("internal/strconv.uint64pow10", Rows.laid_internal_strconv_uint64pow10)]
set_option maxRecDepth 100000 in
theorem tb_of_laid {W:World} (h:laidMetH Tryz.prog laidW W):Tb W:=by
 have h1 := h.filter (fun x => x.1 == "internal/strconv.uint64pow10")
 rw [show laidW.filter (fun x => x.1 == "internal/strconv.uint64pow10") = [("internal/strconv.uint64pow10", Rows.laid_internal_strconv_uint64pow10)] from rfl] at h1
 rw[MakeChecks.laidMetH_plain _ _ _ (by kernel_rfl)] at h1
 exact Lib.tabIs_of_head (g:=1) (t:=222) (n:=20) (by kernel_rfl) (by kernel_rfl) Tryz.underlying222 Tryz.underlying172 (by kernel_rfl) (by kernel_rfl) h1
set_option maxRecDepth 100000 in
theorem law_laidA (os:Os) (started:os.Started) (H:Type) (enc:TypeId×Value→H) {F:FuncId} {fn:Func} {s:ChangeSpec}
 (hfn:Tryz.prog.funcs[F]?=some fn) (noInit:Tryz.prog.inits.idxOf? F=none)
 (hspec:∀ds:List (DataW H),ds.length=fn.params.size→s.fn H ds={results:=[.lit (.bool true)],args:=ds }) (hvars:s.vars=[])
 (hbool:Tryz.prog.underlying 4=some .bool) (hres:fn.resultTypes= #[4])
 (hread:∀t∈fn.params.toList,Tryz.prog.readableRec t=true∧t < Tryz.prog.types.size)
 (witness:∃(w:World) (tape:Tape) (i:Input),w.os=os∧(w.forCall tape i).Shaped Tryz.checked.prog∧i.vars=[]∧Input.okWide Tryz.checked.prog (w.forCall tape i) .any w.heap.size F i∧
  ((s.pre enc Tryz.checked.prog fn [] false (w.forCall tape i).memory i.args∧laidMetH Tryz.checked.prog laidW (w.forCall tape i).memory)∧sizedMet enc Tryz.checked.prog fn (OpenSpec.ofChange s) false (w.forCall tape i).memory i.args)∧({}:Assume).holds Tryz.checked.prog (lone (Frame.enter Tryz.checked.prog F i.args .normal) [] (w.forCall tape i)))
 (walk:∀(W:World) (base:Nat) (args:Array Value) (ds:List (DataW H)) (ps:List MemPlace),(∀(j:Nat) t v,fn.params[j]?=some t→args[j]?=some v→Value.okWide Tryz.prog W .any base t v)→
  DataW.TrodAll enc Tryz.prog W 0 (fun _=>true) true fn.params.toList args.toList ds ps→(∀p∈ps,p.block < W.heap.size)→(DataW.weightsEach Tryz.prog fn.params.toList ds).all (·≤reachBytes)=true→Tb W→Calls Tryz.prog F args W fun e W'=>e= .returned (.bool true)∧Below W.heap.size W W') :
 ReturnsInHanded {} Tryz.checked os F .any (fun w args=>(s.pre enc Tryz.prog fn [] false w args∧laidMetH Tryz.prog laidW w)∧sizedMet enc Tryz.prog fn (OpenSpec.ofChange s) false w args) (s.post enc Tryz.prog fn false true false false):=by
 refine returnsInHanded_of_change_and (C:=Tryz.checked) (X:=fun w _=>laidMetH Tryz.prog laidW w) (fun _ _ _ hh h=>h.of_heap hh) Tryz.own started noInit hfn witness ?_
 intro W base args ds gs before hval hW _ hsz0 hL _
 have hvt:s.plain.varTypes Tryz.prog=[]:=by
  show s.vars.filterMap _=[]
  rw[hvars]
  rfl
 have hW':=hW
 obtain⟨p,q,hA0,hV,hbefore,hfz,hnd⟩:=hW
 have hA:DataW.TrodAll enc Tryz.prog W 0 (fun _=>true) true fn.params.toList args.toList ds p:=hA0
 rw[hvars] at hV
 obtain⟨rfl,rfl⟩:=trodVars_none hV
 have hsz:(DataW.weightsEach Tryz.prog fn.params.toList ds).all (·≤reachBytes)=true:=by
  have h1:(DataW.weightsEach Tryz.prog (fn.params.toList ++ s.plain.varTypes Tryz.prog) (ds ++ [])).all (·≤reachBytes)=true:=hsz0
  rw[hvt,List.append_nil,List.append_nil] at h1
  exact h1
 have hlen:ds.length=fn.params.size:=by
  have:∀(ts:List TypeId) (vs:List Value) (ds:List (DataW H)) (ps:List MemPlace),DataW.TrodAll enc Tryz.prog W 0 (fun _=>true) true ts vs ds ps→ds.length=ts.length:=by
   intro ts
   induction ts with
   | nil=>intro vs ds ps h;obtain⟨_,rfl,_⟩:=trodAll_nil h;rfl
   | cons t ts ih =>
     intro vs ds ps h
     obtain⟨v,vs',d,ds',p,q,rfl,rfl,rfl,hd,hr⟩:=trodAll_cons h
     simp[ih _ _ _ hr]
  simpa using this _ _ _ _ hA
 have hlt:∀x∈p,x.block < W.heap.size:=fun x hx=>hW'.lt x (by rw[hbefore];simp[hx])
 refine(walk W base args ds p hval hA hlt hsz (tb_of_laid hL)).mono fun e W' ⟨he,hb⟩=>?_
 subst he
 have e1:s.fn H (ds ++ [])={results:=[.lit (.bool true)],args:=ds }:=by rw[List.append_nil];exact hspec ds hlen
 have hbef:before=p:=by rw[hbefore];simp
 refine⟨_,rfl,post_of_below (pa:=p) (pv:=[]) (gs:=[]) hW' ?_ ?_ ?_ (by simp[hbef]) hb ?_⟩
 ·intro b sp hd
  rw[e1,hres]
  exact trodAll_mk1 (shut_bool hbool _)
 ·intro sp hsp
  rw[e1]
  exact trodAll_stays Tryz.laidOut hb hread hA hlt (fun x hx=>hsp x (by rw[hbef];exact hx))
 ·intro sp hsp
  rw[e1,hvars]
  rfl
 ·exact ok_one hres rfl (okWide_bool_mk hbool _)
end Go.Proofs.YtgfghffihjfbpaaGreatDoor
