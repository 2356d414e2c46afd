/- lemmas for topRented_holds: QCV. No conditions. -/
import Derived.Calls
set_option linter.unusedVariables false
set_option linter.unusedSimpArgs false
namespace Go.Proofs.YtiioegopckoldaaGreatDoor.CV
open Go
noncomputable section
inductive Tr (α:Type) where
 | nil
 | node (l:Tr α) (v:Option α) (r:Tr α)
def Tr.get {α:Type} (t:Tr α):Nat→Option α:=
 Tr.rec (motive:=fun _=>Nat→Option α) (fun _=>none) (fun _ v _ gl gr k=>Nat.rec (motive:=fun _=>Option α) v (fun j _=>Nat.rec (motive:=fun _=>Option α) (gl (Nat.div j 2)) (fun _ _=>gr (Nat.div j 2)) (Nat.mod j 2)) k) t
def Tr.setK {α β:Type} (d:Nat):Tr α→Nat→α→(Tr α→β)→β:=
 Nat.rec (motive:=fun _=>Tr α→Nat→α→(Tr α→β)→β) (fun _ _ _ K=>K .nil) (fun _ ih t k v K=>
  Tr.rec (motive:=fun _=>β)
   (Nat.rec (motive:=fun _=>β) (K (.node .nil (some v) .nil)) (fun j _=>Nat.rec (motive:=fun _=>β) (ih .nil (Nat.div j 2) v fun l=>K (.node l none .nil)) (fun _ _=>ih .nil (Nat.div j 2) v fun r=>K (.node .nil none r)) (Nat.mod j 2)) k)
   (fun l x r _ _=>Nat.rec (motive:=fun _=>β) (K (.node l (some v) r)) (fun j _=>Nat.rec (motive:=fun _=>β) (ih l (Nat.div j 2) v fun l=>K (.node l x r)) (fun _ _=>ih r (Nat.div j 2) v fun r=>K (.node l x r)) (Nat.mod j 2)) k) t) d
def Tr.delK {α β:Type}:Tr α→Nat→(Tr α→β)→β
 | .nil,_,K=>K .nil
 | .node l x r, k, K => match k with
   | 0=>K (.node l none r)
   | j + 1 => match j % 2 with
     | 0=>l.delK (j / 2) fun l=>K (.node l x r)
     | _=>r.delK (j / 2) fun r=>K (.node l x r)
def evens {α:Type}:List α→List α
 | []=>[]
 | [x]=>[x]
 | x :: _ :: l=>x :: evens l
def Tr.ofList {α:Type}:Nat→List α→Tr α
 | 0,_=> .nil
 | _,[]=> .nil
 | n+1,x :: xs=> .node (Tr.ofList n (evens xs)) (some x) (Tr.ofList n (evens xs.tail))
def CAP:Nat:=2 ^ 60
def DEP:Nat:=40
inductive CObj where
 | cells (c:Tr Value) (n:Nat) (t:TypeId)
 | rom (c:Tr Value) (n:Nat)
 | map (es:List MapEntry) (clock:Nat)
 | loop (st:LoopState) (pend:Option Code) (fn:FuncId) (tm:Tr Value) (nt:Nat) (params:Array Tmp) (assign body:Code) (df:Nat)
 | defd (ds:Option (List Deferred))
structure Ph where
 cm:Nat
 ls:List Nat
 fl:List Nat
 h:Option Nat
inductive CI where
 | it (x:Item)
 | ops (ops:Array Oper) (rest:List Oper)
 | dr (ops:Array Oper) (ls:List Nat) (ph:Ph) (phs:List Ph) (hp:Option Nat) (al:List (Nat×Nat))
 | drh (ops:Array Oper) (ph:Ph) (phs:List Ph) (hp:Option Nat) (al:List (Nat×Nat))
structure Fr where
 fn:FuncId
 tm:Tr Value
 nt:Nat
 todo:List CI
 defers:List Deferred
 mode:FrameMode
 kind:CallKind
 rnd:Option Nat
 nb:Nat
structure St where
 fr:Fr
 cs:List Fr
 H:Tr CObj
 nx:Nat
def okV:Nat→Value→Bool
 | 0,_=>false
 | n + 1, v => match v with
   | .bool _=>true
   | .int _ _=>true
   | .string _=>true
   | .pointer none=>true
   | .slice none 0 0=>true
   | .map none=>true
   | .nilFunc=>true
   | .nilIface=>true
   | .iface _ x=>okV n x
   | .agg cs=>cs.toList.all (okV n)
   | .tuple cs=>cs.toList.all (okV n)
   | _=>false
def OKD:Nat:=6
def natK {β:Type} (n:Nat) (K:Nat→β):β:=Nat.rec (motive:=fun _=>β) (K 0) (fun m _=>K (Nat.succ m)) n
def intK {β:Type} (n:Int) (K:Int→β):β:=match n with
 | .ofNat m=>natK m fun m=>K (.ofNat m)
 | .negSucc m=>natK m fun m=>K (.negSucc m)
mutual
def forceV {β:Type}:Value→(Value→β)→β
 | .int k n,K=>intK n fun n=>K (.int k n)
 | .bool b,K=>match b with | true=>K (.bool true) | false=>K (.bool false)
 | .slice a l c, K => natK l fun l => natK c fun c => (match a with
   | none=>K (.slice none l c)
   | some ⟨b,o,s⟩=>natK b fun b=>natK o fun o=>K (.slice (some ⟨b,o,s⟩) l c))
 | .pointer (some ⟨b,o,s⟩),K=>natK b fun b=>natK o fun o=>K (.pointer (some ⟨b,o,s⟩))
 | .agg ⟨l⟩,K=>forceL l fun l=>K (.agg ⟨l⟩)
 | .tuple ⟨l⟩,K=>forceL l fun l=>K (.tuple ⟨l⟩)
 | v,K=>K v
def forceL {β:Type}:List Value→(List Value→β)→β
 | [],K=>K []
 | v :: l,K=>forceV v fun v=>forceL l fun l=>K (v :: l)
end
def forceQ {β:Type} (v:Value) (K:Value→β):β:=match v with
 | .int k n=>intK n fun n=>K (.int k n)
 | .bool b=>(match b with | true=>K (.bool true) | false=>K (.bool false))
 | .pointer (some ⟨b,o,s⟩)=>natK b fun b=>natK o fun o=>K (.pointer (some ⟨b,o,s⟩))
 | v=>forceV v K
section
variable (P:Program) (G:Nat) (FJ:FuncId→Option Nat) (OV:FuncId→Option TypeId)
def ev (tm:Tr Value):Operand→Option Value
 | .tmp t=>tm.get t
 | .const v=>if okV OKD v then some v else none
 | .global g=>if g < G then some (.pointer (some ⟨g,0,none⟩)) else none
 | .func f=>some (.func (.func f) #[] #[])
def evs (e:Operand→Option Value):List Operand→Option (List Value)
 | []=>some []
 | x :: l => match e x with
   | none=>none
   | some v => match evs e l with
     | none=>none
     | some vs=>some (v :: vs)
def parts (e:Operand→Option Value):List (Nat×Operand)→Option (List (Nat×Value))
 | []=>some []
 | (i, x) :: l => match e x with
   | none=>none
   | some v => match parts e l with
     | none=>none
     | some vs=>some ((i,v) :: vs)
def zeroOf (t:TypeId):Option Value:=
 match P.info? t with
 | some i => match i.zero with
   | some z=>if okV OKD z then some z else none
   | none=>none
 | none=>none
def sizeC (t:TypeId):Option Nat:=match P.info? t with | some i=>some i.size | none=>none
def aggC (t:TypeId):Option Bool:=match P.underlying t with
 | some (.struct _)=>some true
 | some (.array _ _)=>some true
 | some _=>some false
 | none=>none
def mkCells (l:List Value) (t:TypeId):CObj:= .cells (Tr.ofList (l.length+1) l) l.length t
def cellsAt (c:Tr Value) (n:Nat):Nat→Nat→Option (List Value)
 | _,0=>some []
 | o, k + 1 => match Nat.blt o n with
   | false=>none
   | true => match c.get o with
     | none=>none
     | some v => match cellsAt c n (o + 1) k with
       | none=>none
       | some vs=>some (v :: vs)
def loadR (t:TypeId) (c:Tr Value) (n o:Nat):Option Value:=match aggC P t with
 | some true => (match sizeC P t with
   | some k => match cellsAt c n o k with
     | some l=>some (.agg ⟨l⟩)
     | none=>none
   | none=>none)
 | some false => (match Nat.blt o n with
   | true=>c.get o
   | false=>none)
 | none=>none
def loadC (H:Tr CObj) (t:TypeId) (b o:Nat):Option Value:=
 match H.get b with
 | some (.cells c n _)=>loadR P t c n o
 | some (.rom c n)=>loadR P t c n o
 | _=>none
def wrapF (k:IntKind) (n:Int):Int:=match k with
 | .i64 => (match n with
   | .ofNat m=>(match Nat.blt m (2 ^ 63) with | true=>n | false=>IntKind.wrap .i64 n)
   | .negSucc m=>(match Nat.blt m (2 ^ 63) with | true=>n | false=>IntKind.wrap .i64 n))
 | k=>k.wrap n
def ltI:Int→Int→Bool
 | .ofNat a,.ofNat b=>Nat.blt a b
 | .ofNat _,.negSucc _=>false
 | .negSucc _,.ofNat _=>true
 | .negSucc a,.negSucc b=>Nat.blt b a
def eqI:Int→Int→Bool
 | .ofNat a,.ofNat b=>Nat.beq a b
 | .negSucc a,.negSucc b=>Nat.beq a b
 | _,_=>false
def kindEq:IntKind→IntKind→Bool
 | .i8,.i8 | .i16,.i16 | .i32,.i32 | .i64,.i64 | .u8,.u8 | .u16,.u16 | .u32,.u32 | .u64,.u64=>true
 | _,_=>false
def bitC (op:BinOp) (k:IntKind) (a b:Int):Option Value:=match Op.intBits op k a b with
 | .pure v=>some v
 | _=>none
def intC (op:BinOp) (k:IntKind) (a b:Int):Option Value:=match op with
 | .add=>some (.int k (wrapF k (a+b)))
 | .sub=>some (.int k (wrapF k (a-b)))
 | .mul=>some (.int k (wrapF k (a*b)))
 | .quo=>(match eqI b 0 with | true=>none | false=>some (.int k (k.wrap (a.tdiv b))))
 | .rem=>(match eqI b 0 with | true=>none | false=>some (.int k (a.tmod b)))
 | .eql=>some (.bool (eqI a b))
 | .neq=>some (.bool (!eqI a b))
 | .lss=>some (.bool (ltI a b))
 | .leq=>some (.bool (!ltI b a))
 | .gtr=>some (.bool (ltI b a))
 | .geq=>some (.bool (!ltI a b))
 | .shl=>none
 | .shr=>none
 | op=>bitC op k a b
def runP {α:Type}:Nat→Sem α→Option α
 | 0,_=>none
 | _+1,.pure a=>some a
 | n+1,.program k=>runP n (k P)
 | _,_=>none
def RUN:Nat:=400
def okPair (a b:Value):Bool:=okV OKD a && okV OKD b
def anyBin (op:BinOp) (t:TypeId) (x y:Operand) (a b:Value):Option Value:=
 if okPair a b then(match runP P RUN (do eqGuard op t x y a b;binOp op t a b) with
  | some v=>if okV OKD v then some v else none
  | none=>none) else none
def nilC (t:TypeId) (a b:Value):Bool:=match P.underlying t with
 | some (.pointer _)=>(match a,b with | .pointer (some _),.pointer none=>true | .pointer none,.pointer (some _)=>true | _,_=>false)
 | some (.slice _)=>(match a,b with | .slice (some _) _ _,.slice none _ _=>true | .slice none _ _,.slice (some _) _ _=>true | _,_=>false)
 | some (.map _ _)=>(match a,b with | .map (some _),.map none=>true | .map none,.map (some _)=>true | _,_=>false)
 | some (.func _ _ _)=>(match a,b with | .func _ _ _,.nilFunc=>true | .nilFunc,.func _ _ _=>true | _,_=>false)
 | some (.interface _)=>(match a,b with | .iface _ _,.nilIface=>true | .nilIface,.iface _ _=>true | _,_=>false)
 | _=>false
def binC (op:BinOp) (t:TypeId) (x y:Operand) (a b:Value):Option Value:=
 match a,b with
 | .int k n, .int k' m => (match op with
   | .shl=>anyBin P op t x y (.int k n) (.int k' m)
   | .shr=>anyBin P op t x y (.int k n) (.int k' m)
   | op=>match kindEq k k' with | true=>intC op k n m | false=>none)
 | .int .i64 (.ofNat n), .complex .f32 m 0 => (match op, Nat.ble n m with
   | .gtr,true=>some (.bool false)
   | _,_=>none)
 | a, b => match nilC P t a b with
   | true=>(match op with | .eql=>some (.bool false) | .neq=>some (.bool true) | _=>none)
   | false=>anyBin P op t x y a b
def unC (op:UnOp) (a:Value):Option Value:=match op,a with
 | .not,.bool b=>some (.bool (match b with | true=>false | false=>true))
 | .neg,.int k n=>some (.int k (wrapF k (0-n)))
 | _,_=>none
def bytesC:List Value→Option (List UInt8)
 | []=>some []
 | .int .u8 n :: l=>(match bytesC l with | some bs=>some (UInt8.ofNat n.toNat :: bs) | none=>none)
 | _=>none
def convC (H:Tr CObj) (src dst:TypeId) (a:Value):Option Value:=match P.underlying src,P.underlying dst,a with
 | some _,some (.int k),.int _ n=>some (.int k (wrapF k n))
 | some (.slice e), some .string, .slice (some ⟨b, o, none⟩) l _ => (match P.underlying e, H.get b with
   | some (.int .u8), some (.cells c n _) => (match cellsAt c n o l with
     | some vs=>(match bytesC vs with | some bs=>some (.string ⟨⟨bs⟩⟩) | none=>none)
     | none=>none)
   | _,_=>none)
 | _,_,_=>none
def partC (t:TypeId) (cs:Array Value) (off:Nat):Option Value:=match aggC P t with
 | some true=>(match sizeC P t with | some n=>some (.agg (cs.extract off (off+n))) | none=>none)
 | some false=>cs[off]?
 | none=>none
def fieldsC (t:TypeId):Option (Array Field):=match P.underlying t with
 | some (.struct fs)=>some fs
 | _=>none
def placesC:List Field→Option (List (Nat×Nat))
 | []=>some []
 | f :: l => match sizeC P f.type with
   | none=>none
   | some s => match placesC l with
     | none=>none
     | some ps=>some ((f.offset,s) :: ps)
def buildC (t:TypeId) (ps:List (Nat×Value)):Option Value:=match zeroOf P t with
 | none=>none
 | some z => match P.underlying t with
   | some (.struct fs) => (match placesC P fs.toList with
     | none=>none
     | some pl => match Instr.fill (fun i => pl[i]?) z.cells ps with
       | none=>none
       | some cs=>some (.agg cs))
   | some (.array _ e) => (match sizeC P e with
     | none=>none
     | some s => match Instr.fill (fun i => some (i * s, s)) z.cells ps with
       | none=>none
       | some cs=>some (.agg cs))
   | _=>none
def buildSliceC (t:TypeId) (len:Nat) (ps:List (Nat×Value)):Option (Array Value×TypeId):=match P.underlying t with
 | some (.slice e) => (match sizeC P e with
   | none=>none
   | some s => match Nat.blt (2 ^ 24) (len * s) || !Nat.blt len CAP with
     | true=>none
     | false => match (match len * s with | 0 => some #[] | _ => (match zeroOf P e with | some z => some z.cells | none => none) : Option (Array Value)) with
       | none=>none
       | some zero => match Instr.fill (fun i => some (i * s, s)) ((Array.range (len * s)).map (zero[· % zero.size]!)) ps with
         | none=>none
         | some cs=>some (cs,e))
 | _=>none
def nat?:Value→Option Nat
 | .int _ (.ofNat n)=>some n
 | _=>none
def replicateL (z:List Value):Nat→List Value
 | 0=>[]
 | n+1=>z ++ replicateL z n
def makeSliceC (t:TypeId) (len cap:Nat):Option (CObj):=match P.underlying t with
 | some (.slice e) => (match P.info? e with
   | none=>none
   | some i => match Nat.ble len cap && Nat.blt (cap * i.bytes) (2 ^ 30) && Nat.blt cap (2 ^ 30) with
     | false=>none
     | true => match cap * i.size with
       | 0=>some (mkCells [] e)
       | _ => match zeroOf P e with
         | none=>none
         | some z => match Nat.beq z.cells.size i.size with
           | true=>some (mkCells (replicateL z.cells.toList cap) e)
           | false=>none)
 | _=>none
def optN (e:Operand→Option Value):Option Operand→Option (Option Nat)
 | none=>some none
 | some x => match e x with
   | some v=>(match nat? v with | some n=>some (some n) | none=>none)
   | none=>none
def lowC (c:Nat):Nat:=match Nat.blt c CAP with | true=>c | false=>c-CAP
def sliceD (s:Nat) (a:Option Addr) (cap l h:Nat) (hs:Bool) (mx:Option Nat):Option Value:=match mx with
 | some m=>if Nat.blt m CAP && Nat.ble l h && Nat.ble h m && Nat.ble m (lowC cap) && hs then
  some (.slice (if Nat.beq m l then a else a.map fun a=>⟨a.block,a.off+l*s,none⟩) (h-l) (m-l)) else none
 | none => if Nat.blt cap CAP then
    (if Nat.ble l h && Nat.ble h cap then some (.slice (if Nat.beq cap l then a else a.map fun a=>⟨a.block,a.off+l*s,none⟩) (h-l) (cap-l)) else none)
   else(if Nat.ble l h && Nat.ble h (lowC cap) && (Nat.blt l (lowC cap) || Nat.beq l 0) then some (.slice (a.map fun a=>⟨a.block,a.off+l*s,none⟩) (h-l) (cap-l)) else none)
def sliceC (s:Nat) (a:Option Addr) (len cap:Nat) (lo hi mx:Option Nat):Option Value:=sliceD s a cap (lo.getD 0) (hi.getD len) hi.isSome mx
def esOk (H:Tr CObj) (a:Option Addr) (c s:Nat):Bool:=match Nat.blt c CAP with
 | true=>true
 | false => match a with
   | none=>false
   | some ⟨b, _, _⟩ => match H.get b with
     | some (.cells _ _ t)=>(match sizeC P t with | some s'=>Nat.beq s s' | none=>false)
     | _=>false
def sliceOp (H:Tr CObj) (t:TypeId) (x:Value) (lo hi mx:Option Nat):Option Value:=match P.underlying t with
 | some (.array n e) => (match x, sizeC P e with
   | .pointer (some ⟨b,o,none⟩),some s=>(match Nat.blt n CAP with | true=>sliceC s (some ⟨b,o,none⟩) n n lo hi mx | false=>none)
   | _,_=>none)
 | some (.slice e) => (match x, sizeC P e with
   | .slice a l c,some s=>(match esOk P H a c s with | true=>sliceC s a l c lo hi mx | false=>none)
   | _,_=>none)
 | _=>none
def fieldAddrC (t:TypeId) (x:Value) (i:Nat):Option Value:=match P.underlying t,x with
 | some (.struct fs), .pointer (some ⟨b, o, none⟩) => (match fs[i]? with
   | some f => (match sizeC P f.type with
     | some (_+1)=>some (.pointer (some ⟨b,o+f.offset,none⟩))
     | _=>none)
   | none=>none)
 | _,_=>none
def indexAddrC (t:TypeId) (x i:Value):Option Value:=match nat? i with
 | none=>none
 | some i => match P.underlying t, x with
   | some (.array len e), .pointer (some ⟨b, o, none⟩) => (match Nat.blt i len, sizeC P e with
     | true,some s=>some (.pointer (some ⟨b,o+i*s,none⟩))
     | _,_=>none)
   | some (.slice e), .slice (some ⟨b, o, none⟩) len _ => (match Nat.blt i len, sizeC P e with
     | true,some s=>some (.pointer (some ⟨b,o+i*s,none⟩))
     | _,_=>none)
   | _,_=>none
def keyOk (t:TypeId):Bool:=match P.underlying t with
 | some (.int _)=>true
 | some .string=>true
 | _=>false
def findC (t:TypeId) (k:Value) (es:List MapEntry):Option (Option (Nat×Value)):=match P.underlying t with
 | some d=>(match keyOk P t && okV OKD k with | true=>Instr.findNow d k es 0 | false=>none)
 | none=>none
def lookupC (H:Tr CObj) (t:TypeId) (m k:Value) (ok:Bool):Option Value:=match P.underlying t with
 | some (.map kt et) => (match (match m with
    | .map none=>some []
    | .map (some r)=>(match H.get r with | some (.map es _)=>some es | _=>none)
    | _=>none:Option (List MapEntry)) with
   | none=>none
   | some es => match findC P kt k es with
     | none=>none
     | some (some (_,v))=>some (match ok with | true=> .tuple #[v,.bool true] | false=>v)
     | some none => match zeroOf P et with
       | none=>none
       | some z=>some (match ok with | true=> .tuple #[z,.bool false] | false=>z))
 | _=>none
def lenC (H:Tr CObj) (t:TypeId) (x:Value):Option Value:=match P.underlying t,x with
 | some .string,.string s=>some (goInt s.size)
 | some (.array n _),_=>some (goInt n)
 | some (.slice _),.slice _ n _=>some (goInt n)
 | some (.map _ _),.map none=>some (goInt 0)
 | some (.map _ _),.map (some r)=>(match H.get r with | some (.map es _)=>some (goInt es.length) | _=>none)
 | _,_=>none
def capC (t:TypeId) (x:Value):Option Value:=match P.underlying t,x with
 | some (.slice _),.slice _ _ n=>some (match Nat.blt n CAP with | true=>goInt n | false=> .complex .f32 (n-CAP) 0)
 | _,_=>none
def minL (k:IntKind):Int→List Value→Option Value
 | a,[]=>some (.int k a)
 | a,.int _ b :: l=>minL k (if ltI b a then b else a) l
 | _,_=>none
def maxL (k:IntKind):Int→List Value→Option Value
 | a,[]=>some (.int k a)
 | a,.int _ b :: l=>maxL k (if ltI a b then b else a) l
 | _,_=>none
def minC:List Value→Option Value
 | .int k a :: l=>minL k a l
 | _=>none
def maxC:List Value→Option Value
 | .int k a :: l=>maxL k a l
 | _=>none
def assertC (x:Value) (asserted:TypeId) (ok:Bool):Option Value:=match P.underlying asserted,x with
 | some (.interface _),_=>none
 | some _, .nilIface => (match ok, zeroOf P asserted with
   | true,some z=>some (.tuple #[z,.bool false])
   | _,_=>none)
 | some _, .iface t v => (match Nat.beq t asserted with
   | true=>some (match ok with | true=> .tuple #[v,.bool true] | false=>v)
   | false => match ok, zeroOf P asserted with
     | true,some z=>some (.tuple #[z,.bool false])
     | _,_=>none)
 | _,_=>none
def light (e:Operand→Option Value) (H:Tr CObj) (nx:Nat) (op:Op):Option (Value×Option CObj):=
 let ret (o:Option Value):Option (Value×Option CObj):=match o with | some v=>some (v,none) | none=>none
 let new (o:CObj):Option (Value×Option CObj):=some (.pointer (some ⟨nx,0,none⟩),some o)
 match op with
 | .move x=>ret (e x)
 | .pick c a b => (match e c with
   | some (.bool true)=>ret (e a)
   | some (.bool false)=>ret (e b)
   | _=>none)
 | .alloc t=>(match zeroOf P t with | some z=>new (mkCells z.cells.toList t) | none=>none)
 | .box t x=>(match e x with | some v=>new (mkCells v.cells.toList t) | none=>none)
 | .build t ps=>(match parts e ps.toList with | some ps=>ret (buildC P t ps) | none=>none)
 | .buildSlice t len ps => (match parts e ps.toList with
   | some ps => (match buildSliceC P t len ps with
     | some (cs,et)=>some (.slice (some ⟨nx,0,none⟩) len len,some (mkCells cs.toList et))
     | none=>none)
   | none=>none)
 | .load t a => (match e a with
   | some (.pointer (some ⟨b,o,none⟩))=>ret (loadC P H t b o)
   | _=>none)
 | .nilCheck x => (match e x with
   | some (.pointer (some a))=>ret (some (.pointer (some a)))
   | some (.func (.func f) a b)=>ret (some (.func (.func f) a b))
   | some (.func (.yield f) a b)=>ret (some (.func (.yield f) a b))
   | _=>none)
 | .binOp op t x y _ => (match e x, e y with
   | some a,some b=>ret (binC P op t x y a b)
   | _,_=>none)
 | .unOp op _ x=>(match e x with | some a=>ret (unC op a) | none=>none)
 | .convert s d x=>(match e x with | some a=>ret (convC P H s d a) | none=>none)
 | .makeInterface t x => (match e x, P.underlying t with
   | _,some (.interface _)=>none
   | some v,some _=>ret (some (.iface t v))
   | _,_=>none)
 | .makeFunc fn a b => (match fn with
   | .func f => (match evs e a.toList, evs e b.toList with
     | some a,some b=>ret (some (.func (.func f) ⟨a⟩ ⟨b⟩))
     | _,_=>none)
   | _=>none)
 | .makeMap _ none=>some (.map (some nx),some (.map [] 0))
 | .makeSlice t l c => (match e l, e c with
   | some l, some c => (match nat? l, nat? c with
     | some l, some c => (match makeSliceC P t l c with
       | some o=>some (.slice (some ⟨nx,0,none⟩) l c,some o)
       | none=>none)
     | _,_=>none)
   | _,_=>none)
 | .slice t x lo hi mx => (match e x, optN e lo, optN e hi, optN e mx with
   | some v,some lo,some hi,some mx=>ret (sliceOp P H t v lo hi mx)
   | _,_,_,_=>none)
 | .fieldAddr t x i=>(match e x with | some v=>ret (fieldAddrC P t v i) | none=>none)
 | .field t x i => (match e x, fieldsC P t with
   | some (.agg cs),some fs=>(match fs[i]? with | some f=>ret (partC P f.type cs f.offset) | none=>none)
   | _,_=>none)
 | .indexAddr t x i=>(match e x,e i with | some v,some i=>ret (indexAddrC P t v i) | _,_=>none)
 | .lookup t m k ok=>(match e m,e k with | some m,some k=>ret (lookupC P H t m k ok) | _,_=>none)
 | .typeAssert x _ t ok=>(match e x with | some v=>ret (assertC P v t ok) | none=>none)
 | .extract t i=>(match e t with | some (.tuple vs)=>ret vs[i]? | _=>none)
 | .call c => (match c.callee with
   | .builtin .len => (match c.argTypes[0]?, c.args[0]? with
     | some t,some x=>(match e x with | some v=>ret (lenC P H t v) | none=>none)
     | _,_=>none)
   | .builtin .cap => (match c.argTypes[0]?, c.args[0]? with
     | some t,some x=>(match e x with | some v=>ret (capC P t v) | none=>none)
     | _,_=>none)
   | .builtin .min=>(match evs e c.args.toList with | some l=>ret (minC l) | none=>none)
   | .builtin .max=>(match evs e c.args.toList with | some l=>ret (maxC l) | none=>none)
   | _=>none)
 | _=>none
def isLight:Op→Bool
 | .move _ | .pick .. | .alloc _ | .box .. | .build .. | .buildSlice .. | .load .. | .nilCheck _ | .binOp .. | .unOp .. | .convert .. | .makeInterface .. | .makeFunc .. | .makeMap .. | .makeSlice .. | .slice .. | .fieldAddr .. | .field .. | .indexAddr .. | .lookup .. | .typeAssert .. | .extract ..=>true
 | .call {callee:= .builtin .len,.. } | .call {callee:= .builtin .cap,.. } | .call {callee:= .builtin .min,.. } | .call {callee:= .builtin .max,.. }=>true
 | _=>false
def lightAt (ops:Array Oper) (i:Nat):Bool:=match ops[i]? with | some o=>isLight o.op | none=>false
def guardC (ops:Array Oper) (tm:Tr Value) (o:Oper):Option Bool:=match o.guard with
 | none=>some true
 | some (j, want) => match ops[j]? with
   | none=>some false
   | some oj => match oj.dst with
     | none=>some false
     | some d => match tm.get d with
       | none=>none
       | some (.bool b)=>some (match b,want with | true,true=>true | false,false=>true | _,_=>false)
       | some _=>some false
def putK {β:Type} (fr:Fr) (dst:Option Tmp) (v:Value) (K:Fr→Option β):Option β:=match dst with
 | none=>K fr
 | some d => match Nat.blt d fr.nt with
   | false=>none
   | true=>forceQ v fun v=>Tr.setK DEP fr.tm d v fun tm=>K {fr with tm }
def oneC:Value→Bool
 | .agg _=>false
 | .tuple _=>false
 | _=>true
def setCellsK {β:Type} (c:Tr Value) (n o:Nat):List Value→(Tr Value→Option β)→Option β
 | [],K=>K c
 | v :: l, K => match Nat.blt o n && oneC v with
   | false=>none
   | true=>forceQ v fun v=>Tr.setK DEP c o v fun c=>setCellsK c n (o+1) l K
def storeK {β:Type} (H:Tr CObj) (b o:Nat) (l:List Value) (K:Tr CObj→Option β):Option β:=match Nat.blt b G with
 | true=>none
 | false => match H.get b with
   | some (.cells c n t)=>setCellsK c n o l fun c=>Tr.setK DEP H b (.cells c n t) K
   | _=>none
def setMapK {β:Type} (H:Tr CObj) (t:TypeId) (m k v:Value) (K:Tr CObj→Option β):Option β:=match P.underlying t,m with
 | some (.map kt _), .map (some r) => (match Nat.blt r G with
   | true=>none
   | false => match H.get r with
     | some (.map es clock) => (match findC P kt k es with
       | none=>none
       | some (some (i,_))=>Tr.setK DEP H r (.map (es.modify i fun e=>{e with key:=k,val:=v }) clock) K
       | some none=>natK (clock+1) fun c=>Tr.setK DEP H r (.map (es ++ [{key:=k,val:=v,born:=clock }]) c) K)
     | _=>none)
 | _,_=>none
def srcC (H:Tr CObj) (s n:Nat):Value→Option (List Value)
 | .slice (some ⟨b, o, none⟩) _ _ => (match H.get b with
   | some (.cells c m _)=>cellsAt c m o (n*s)
   | _=>none)
 | .slice none _ _=>if Nat.beq n 0 then some [] else none
 | _=>none
def tailC (H:Tr CObj) (i:TypeInfo) (e t1:TypeId) (x:Value):Option (Nat×List Value):=match P.underlying t1,x with
 | some (.slice _), .slice xb n xc => (match srcC H i.size n (.slice xb n xc) with
   | some l=>some (n,l)
   | none=>none)
 | some (.int _),.int _ (.ofNat n)=>if Nat.blt n (2 ^ 20) && Nat.blt (n*i.bytes) (2 ^ 30) then
  (if Nat.beq (n*i.size) 0 then some (n,[]) else(match zeroOf P e with
   | some z=>if Nat.beq z.cells.size i.size then some (n,replicateL z.cells.toList n) else none
   | none=>none)) else none
 | _,_=>none
def placeK {β:Type} (H:Tr CObj) (base:Option Addr) (l n cap size:Nat) (new:List Value) (K:Value→Tr CObj→Option β):Option β:=match base with
 | none=>if new.isEmpty then K (.slice none (l+n) cap) H else none
 | some ⟨b, o, none⟩ => (match new with
   | []=>K (.slice (some ⟨b,o,none⟩) (l+n) cap) H
   | v :: new=>storeK G H b (o+l*size) (v :: new) fun H=>K (.slice (some ⟨b,o,none⟩) (l+n) cap) H)
 | _=>none
def growK {β:Type} (H:Tr CObj) (nx:Nat) (e:TypeId) (i:TypeInfo) (base:Option Addr) (l n cap:Nat) (new:List Value) (K:Value→Tr CObj→Nat→Option β):Option β:=
 match srcC H i.size l (.slice base l cap),zeroOf P e with
 | some old, some z => if Nat.blt (2 * (l + n) * i.bytes) (2 ^ 30) && Nat.blt (2 * (l + n)) (2 ^ 30) && Nat.beq z.cells.size i.size then
    (if Nat.blt cap CAP then Tr.setK DEP H nx (mkCells (old ++ new) e) fun H=>natK (nx+1) fun nx'=>K (.slice (some ⟨nx,0,none⟩) (l+n) (CAP+(l+n))) H nx'
    else match base with
     | some ⟨b, 0, none⟩ => (match H.get b with
       | some (.cells _ _ t) => if Nat.beq t e && Nat.ble G b && new.all oneC then
          H.delK b fun H=>Tr.setK DEP H nx (mkCells (old ++ new) e) fun H=>natK (nx+1) fun nx'=>K (.slice (some ⟨nx,0,none⟩) (l+n) (CAP+(l+n))) H nx'
         else none
       | _=>none)
     | _=>none)
   else none
 | _,_=>none
def appendK {β:Type} (H:Tr CObj) (nx:Nat) (t t1:TypeId) (s x:Value) (K:Value→Tr CObj→Nat→Option β):Option β:=
 match P.underlying t,s with
 | some (.slice e), .slice base l cap => (match P.info? e with
   | none=>none
   | some i => match tailC P H i e t1 x with
     | none=>none
     | some (n, new) => if Nat.ble (l + n) (lowC cap) then placeK G H base l n cap i.size new fun v H => K v H nx
       else growK P G H nx e i base l n cap new K)
 | _,_=>none
def copyK {β:Type} (H:Tr CObj) (t:TypeId) (d x:Value) (K:Value→Tr CObj→Option β):Option β:=
 match P.underlying t,d,x with
 | some (.slice e), .slice base l _, .slice xb n xc => (match sizeC P e with
   | none=>none
   | some s => match srcC H s (Nat.min n l) (.slice xb n xc), base with
     | some cells,some ⟨b,o,none⟩=>storeK G H b o cells fun H=>K (goInt (Nat.min n l:Nat)) H
     | some [],none=>K (goInt (Nat.min n l:Nat)) H
     | _,_=>none)
 | _,_,_=>none
def clearK {β:Type} (H:Tr CObj) (t:TypeId) (x:Value) (K:Tr CObj→Option β):Option β:=match P.underlying t,x with
 | some (.slice e), .slice (some ⟨b, o, none⟩) (n + 1) _ => (match zeroOf P e with
   | some z=>storeK G H b o (replicateL z.cells.toList (n+1)) K
   | none=>none)
 | some (.slice _),.slice none _ _=>K H
 | some (.slice _),.slice _ 0 _=>K H
 | _,_=>none
def enterC (f:FuncId) (args:List Value) (kind:CallKind) (nb:Nat):Option Fr:=match P.funcs[f]? with
 | none=>none
 | some fn => match fn.body with
   | none=>none
   | some c => match fn.name == "runtime.NumGoroutine" with
     | true=>none
     | false=>some {fn:=f,tm:=Tr.ofList (args.length+1) args,nt:=args.length+(fn.ntmps-args.length),todo:=[.it (.code c)],defers:=[],mode:= .run,kind,rnd:=none,nb }
def invokeC (t:Target) (args:List Value) (kind:CallKind) (H:Tr CObj) (nb:Nat):Option (Fr):=match t with
 | .fn (.func f) cap=>enterC P f (args ++ cap.toList) kind nb
 | .fn (.yield l) _ => (match H.get l with
   | some (.loop _ _ fn tm nt params assign body _) => (match Nat.beq args.length params.size, kind with
     | true,.normal=>(params.toList.zip args).foldlM (fun (fr:Fr) (p:Tmp×Value)=>putK fr (some p.1) p.2 some)
      {fn,tm,nt,todo:=[.it (.code assign),.it .beginRound,.it (.code body)],defers:=[],mode:= .run,kind,rnd:=some l,nb }
     | _,_=>none)
   | _=>none)
 | _=>none
def resolveC (e:Operand→Option Value) (c:Call):Option Deferred:=match c.callee with
 | .value f => (match e f, evs e c.args.toList with
   | some (.func fn first cap),some args=>some {target:= .fn fn cap,args:=⟨first.toList ++ args⟩ }
   | _,_=>none)
 | _=>none
def finishC {β:Type} (fr:Fr) (v:Value) (K:Fr→Option β):Option β:=match fr.todo with
 | .ops ops (o :: rest) :: k=>putK {fr with todo:= .ops ops rest :: k } o.dst v K
 | .drh ops ph (p :: phs) _ al :: k => (match ph.h with
   | some i => (match ops[i]? with
     | some o=>putK {fr with todo:= .dr ops p.ls p phs (some i) al :: k } o.dst v K
     | none=>none)
   | none=>none)
 | .it (.inRangeFunc l) :: k=>K {fr with todo:= .it (.endRangeFunc l) :: k }
 | .it .beginRound :: k=>K {fr with todo:=k }
 | _=>none
def dropC {β:Type} (ops:Array Oper):List Nat→Tr Value→(Tr Value→β)→β
 | [],tm,K=>K tm
 | i :: l, tm, K => match (ops[i]?).bind (·.dst) with
   | some d=>tm.delK d fun tm=>dropC ops l tm K
   | none=>dropC ops l tm K
def raiseC {β:Type} (fr:Fr) (chain:List PanicEntry) (K:Fr→Option β):Option β:=match fr.mode with
 | .panicking old=>K {fr with mode:= .panicking (chain ++ old) }
 | .returning=>K {fr with mode:= .panicking chain }
 | .run => match fr.todo with
   | .drh ops _ _ _ _ :: _=>dropC ops ((List.range ops.size).filter (lightAt ops)) fr.tm fun tm=>K {fr with tm,mode:= .panicking chain }
   | .dr .. :: _=>none
   | _=>K {fr with mode:= .panicking chain }
def exitC (id:Nat):List CI→Option (List CI)
 | []=>none
 | .it (.inBlock id') :: k=>(match Nat.beq id' id with | true=>some k | false=>exitC id k)
 | _ :: k=>exitC id k
def gotoC (l:Nat):List CI→Option (List CI)
 | []=>none
 | .it (.inScope body) :: k => (match findLabel body l with
   | some rest=>some (.it (.code rest) :: .it (.inScope body) :: k)
   | none=>gotoC l k)
 | _ :: k=>gotoC l k
def resC (H:Tr CObj) (tm:Tr Value):ResultVar→Option Value
 | .tmp t=>tm.get t
 | .cell a t => (match tm.get a with
   | some (.pointer (some ⟨b,o,none⟩))=>loadC P H t b o
   | _=>none)
def resultsC (H:Tr CObj) (tm:Tr Value):List ResultVar→Option (List Value)
 | []=>some []
 | r :: l => match resC P H tm r, resultsC H tm l with
   | some v,some vs=>some (v :: vs)
   | _,_=>none
def resultC (H:Tr CObj) (fr:Fr):Option Value:=match P.funcs[fr.fn]? with
 | none=>none
 | some fn => match resultsC P H fr.tm fn.results.toList with
   | none=>none
   | some [v]=>some v
   | some l=>some (.tuple ⟨l⟩)
def doReturnC {β:Type} (fr:Fr) (cs:List Fr) (v:Value) (H:Tr CObj) (nx:Nat) (K:St→Option β):Option β:=match cs with
 | []=>none
 | c :: cs => match fr.kind with
   | .normal=>(match c.mode with | .run=>finishC c v fun c=>K ⟨c,cs,H,nx⟩ | _=>none)
   | .deferred => (match c.mode with
     | .panicking ({ recovered := true, .. } :: older) => (match older.dropWhile (!·.goexit) with
       | []=>K ⟨{c with mode:= .returning },cs,H,nx⟩
       | _=>none)
     | .run=>none
     | _=>K ⟨c,cs,H,nx⟩)
   | _=>none
def leaveC {β:Type} (st:St) (jump:Option Code) (K:St→Option β):Option β:=match st.fr.rnd with
 | none => (match jump with
   | none=>K {st with fr:={st.fr with mode:= .returning } }
   | some .ret=>K {st with fr:={st.fr with mode:= .returning } }
   | _=>none)
 | some l => match st.H.get l with
   | some (.loop _ _ fn tm nt params assign body df) => (match Nat.blt l G, st.fr.kind with
     | false, .normal => Tr.setK DEP st.H l (.loop (if jump.isNone then .ready else .done) jump fn tm nt params assign body df) fun H =>
       doReturnC st.fr st.cs (.bool jump.isNone) H st.nx K
     | _,_=>none)
   | _=>none
def veqL (f:Value→Value→Bool):List Value→List Value→Bool
 | [],[]=>true
 | a :: l,b :: m=>f a b && veqL f l m
 | _,_=>false
def veq:Nat→Value→Value→Bool
 | 0,_,_=>false
 | n + 1, a, b => match a, b with
   | .bool a,.bool b=>(match a,b with | true,true=>true | false,false=>true | _,_=>false)
   | .int k a,.int j b=>kindEq k j && eqI a b
   | .string a,.string b=>a.data.toList == b.data.toList
   | .pointer none,.pointer none=>true
   | .pointer (some ⟨a,o,none⟩),.pointer (some ⟨b,p,none⟩)=>Nat.beq a b && Nat.beq o p
   | .slice none l c,.slice none m d=>Nat.beq l m && Nat.beq c d
   | .slice (some ⟨a,o,none⟩) l c,.slice (some ⟨b,p,none⟩) m d=>Nat.beq a b && Nat.beq o p && Nat.beq l m && Nat.beq c d
   | .map none,.map none=>true
   | .map (some a),.map (some b)=>Nat.beq a b
   | .nilFunc,.nilFunc=>true
   | .nilIface,.nilIface=>true
   | .iface t a,.iface u b=>Nat.beq t u && veq n a b
   | .agg a,.agg b=>veqL (veq n) a.toList b.toList
   | .tuple a,.tuple b=>veqL (veq n) a.toList b.toList
   | .func (.yield f) a b,.func (.yield g) c d=>Nat.beq f g && veqL (veq n) a.toList c.toList && veqL (veq n) b.toList d.toList
   | .func (.func f) a b,.func (.func g) c d=>Nat.beq f g && veqL (veq n) a.toList c.toList && veqL (veq n) b.toList d.toList
   | _,_=>false
def treq (f:Value→Value→Bool):Tr Value→Tr Value→Bool
 | .nil,.nil=>true
 | .node l v r, .node l' v' r' => treq f l l' && treq f r r' && (match v, v' with
   | none,none=>true
   | some a,some b=>f a b
   | _,_=>false)
 | _,_=>false
def obeq:CObj→CObj→Bool
 | .cells c n t,.cells c' n' t'=>treq (veq 8) c c' && Nat.beq n n' && Nat.beq t t'
 | .map [] a,.map [] b=>Nat.beq a b
 | _,_=>false
structure Out where
 v:Value
 H:Tr CObj
 nx:Nat
 fn:FuncId:=0
abbrev Sub:=Fr→Tr CObj→Nat→Option (List Out)
def extK {β:Type} (H:Tr CObj) (b o m:Nat) (K:Tr CObj→Option β):Option β:=match H.get b with
 | some (.cells c n t) => (match sizeC P t with
   | some s=>Tr.setK DEP H b (.cells c (max n (o+m*s)) t) K
   | none=>none)
 | _=>none
def gather (sub:Sub) (f:FuncId) (H:Tr CObj) (nx:Nat) (b o l lb k:Nat) (rest:List Value):Nat→Option (List Out)
 | 0=>some []
 | i + 1 => extK P H b o (lb + i) fun H' =>
   match enterC P f (.slice (some ⟨b,o,none⟩) l (match Nat.blt i k with | true=>lb+i | false=>CAP+(lb+i)) :: rest) .normal nx with
   | none=>none
   | some fr => match sub fr H' nx, gather sub f H nx b o l lb k rest i with
     | some a,some b=>some (a ++ b)
     | _,_=>none
def normC (N:Nat) (o:Out):Option Out:=match o.v with
 | .slice (some ⟨b, 0, none⟩) l c => (match o.H.get b with
   | some (.cells cs n t) => if Nat.ble G b && Nat.ble CAP c && Nat.ble l (c - CAP) then (match sizeC P t with
     | none=>none
     | some s => match cellsAt cs n 0 (l * s) with
       | none=>none
       | some vs=>some (o.H.delK b fun H=>Tr.setK DEP H N (mkCells vs t) fun H=>{v:= .slice (some ⟨N,0,none⟩) l (CAP+l),H,nx:=N+1 })) else none
   | _=>none)
 | _=>none
def interT:Tr CObj→Tr CObj→Tr CObj
 | .node l v r, .node l' v' r' => .node (interT l l') (match v, v' with
   | some o,some o'=>(match obeq o o' with | true=>some o | false=>none)
   | _,_=>none) (interT r r')
 | _,_=> .nil
def interAll:Out→List Out→Option Out
 | a,[]=>some a
 | a, b :: l => match veq 8 a.v b.v && Nat.beq a.nx b.nx with
   | true=>interAll {a with H:=interT a.H b.H } l
   | false=>none
def normAll (N:Nat):List Out→Option (List Out)
 | []=>some []
 | o :: l => match normC P G N o, normAll N l with
   | some o,some l=>some (o :: l)
   | _,_=>none
def joinC (outs:List Out):Option Out:=match normAll P G (outs.foldl (fun m o=>max m o.nx) 0) outs with
 | some (o :: l)=>interAll o l
 | _=>none
def overlapC (H:Tr CObj) (d:Deferred):Option Value:=match d.target,d.args.toList with
 | .fn (.func f) ⟨[]⟩, [.slice a la _, .slice b lb _] => (match OV f with
   | none=>none
   | some t => match P.underlying t with
     | some (.slice e) => (match sizeC P e, a, b with
       | some s, some ⟨x, i, none⟩, some ⟨y, j, none⟩ => (match Nat.beq la 0 || Nat.beq lb 0 || Nat.beq s 0 with
         | true=>some (.bool false)
         | false => match Nat.beq x y, H.get x, H.get y with
           | true,some (.cells _ _ _),some (.cells _ _ _)=>some (.bool (Nat.blt i (j+lb*s) && Nat.blt j (i+la*s)))
           | false,some (.cells _ _ _),some (.cells _ _ _)=>some (.bool false)
           | _,_,_=>none)
       | some _,none,_=>some (.bool false)
       | some _,_,none=>some (.bool false)
       | _,_,_=>none)
     | _=>none)
 | _,_=>none
def heavyK {β:Type} (sub:Sub) (st:St) (o:Oper) (K:St→Option β):Option β:=
 let e:=ev G st.fr.tm
 match o.op with
 | .assign x=>(match e x with | some v=>finishC st.fr v fun fr=>K {st with fr } | none=>none)
 | .store t a x => (match e a, e x with
   | some (.pointer (some ⟨b, off, none⟩)), some v => (match sizeC P t with
     | some n => (match Nat.beq v.cells.size n with
       | true=>storeK G st.H b off v.cells.toList fun H=>finishC st.fr undef fun fr=>K {st with fr,H }
       | false=>none)
     | none=>none)
   | _,_=>none)
 | .mapUpdate t m k x => (match e m, e k, e x with
   | some m,some k,some v=>setMapK P G st.H t m k v fun H=>finishC st.fr undef fun fr=>K {st with fr,H }
   | _,_,_=>none)
 | .insert t m k x => (match e m, e k, e x with
   | some m,some k,some v=>setMapK P G st.H t m k v fun H=>finishC st.fr undef fun fr=>K {st with fr,H }
   | _,_,_=>none)
 | .defer c => (match st.fr.rnd, resolveC e c with
   | none,some d=>finishC {st.fr with defers:=d :: st.fr.defers } undef fun fr=>K {st with fr }
   | _,_=>none)
 | .panic x => (match e x with
   | some (.iface t v)=>raiseC st.fr [{v:= .iface t v,recovered:=false }] fun fr=>K {st with fr }
   | _=>none)
 | .call c => (match c.callee with
   | .builtin .append => (match c.argTypes[0]?, c.argTypes[1]?, evs e c.args.toList with
     | some t,some t1,some [s,x]=>appendK P G st.H st.nx t t1 s x fun v H nx=>finishC st.fr v fun fr=>K {st with fr,H,nx }
     | _,_,_=>none)
   | .builtin .copy => (match c.argTypes[0]?, evs e c.args.toList with
     | some t,some [d,x]=>copyK P G st.H t d x fun v H=>finishC st.fr v fun fr=>K {st with fr,H }
     | _,_=>none)
   | .builtin .clear => (match c.argTypes[0]?, evs e c.args.toList with
     | some t,some [x]=>clearK P G st.H t x fun H=>finishC st.fr (.tuple #[]) fun fr=>K {st with fr,H }
     | _,_=>none)
   | .builtin .recover => (match st.fr.rnd, st.fr.kind, st.cs with
     | none, .deferred, c :: cs => (match c.mode with
       | .panicking ({ v, recovered := false, goexit := false } :: older) =>
         finishC st.fr v fun fr=>K {st with fr,cs:={c with mode:= .panicking ({v,recovered:=true } :: older) } :: cs }
       | _=>finishC st.fr .nilIface fun fr=>K {st with fr })
     | none,.normal,_=>finishC st.fr .nilIface fun fr=>K {st with fr }
     | _,_,_=>none)
   | .builtin _=>none
   | .invoke _ _=>none
   | .value _ => (match resolveC e c with
     | some d=>(match overlapC P OV st.H d with
     | some v=>finishC st.fr v fun fr=>K {st with fr }
     | none => match (match d.target with | .fn (.func f) cap => (match FJ f with | some k => some (f, cap, k) | none => none) | _ => none : Option (FuncId × Array Value × Nat)) with
       | none => (match invokeC P d.target d.args.toList .normal st.H st.nx with
         | some fr=>K {st with fr,cs:=st.fr :: st.cs }
         | none=>none)
       | some (f, cap, k) => match d.args.toList ++ cap.toList with
         | .slice (some ⟨b, o, none⟩) l c :: rest => (match Nat.blt c CAP with
           | true => (match enterC P f (.slice (some ⟨b, o, none⟩) l c :: rest) .normal st.nx with
             | some fr=>K {st with fr,cs:=st.fr :: st.cs }
             | none=>none)
           | false => if Nat.blt (c - CAP + k) CAP then (match gather P sub f st.H st.nx b o l (c - CAP) k rest (k + 1) with
             | none=>none
             | some outs => match joinC P G outs with
               | none=>none
               | some o=>natK o.nx fun nx=>finishC st.fr o.v fun fr=>K {st with fr,H:=o.H,nx }) else none)
         | [] => (match enterC P f [] .normal st.nx with
           | none=>none
           | some fr => match sub fr st.H st.nx with
             | some [o]=>natK o.nx fun nx=>finishC st.fr o.v fun fr=>K {st with fr,H:=o.H,nx }
             | _=>none)
         | _=>none)
     | none=>none))
 | _=>none
def lightK {β:Type} (st:St) (o:Oper) (K:Value→Tr CObj→Nat→Option β):Option β:=
 match light P (ev G st.fr.tm) st.H st.nx o.op with
 | none=>none
 | some (v,none)=>K v st.H st.nx
 | some (v,some ob)=>natK st.nx fun b=>Tr.setK DEP st.H b ob fun H=>natK (Nat.succ b) fun nx=>K v H nx
def depsOf (o:Oper):List Nat:=(o.after.toList.filter (Region.binds .any ·)).map (·.on)
def masksOf:List Oper→List Nat→List Nat
 | [],acc=>acc
 | o :: l,acc=>masksOf l (acc ++ [(depsOf o).foldl (fun m d=>m ||| acc.getD d 0) (2 ^ acc.length)])
def readsOf (ops:Array Oper) (o:Oper):List Tmp:=
 (o.op.operands.toList.filterMap fun | .tmp t=>some t | _=>none) ++
 (match o.guard with | some (j,_)=>((ops[j]?).bind (·.dst)).toList | none=>[])
def namesOf (ops:Array Oper) (o:Oper):List Tmp:=readsOf ops o ++ o.dst.toList
def namesOk (ops:Array Oper) (masks:List Nat):Bool:=
 (List.range ops.size).all fun i=>!lightAt ops i || match ops[i]? with
  | none=>true
  | some oi => match oi.dst with
    | none=>true
    | some d => !(readsOf ops oi).contains d && (List.range ops.size).all fun j => i == j || match ops[j]? with
      | none=>true
      | some o=>!(namesOf ops o).contains d || (masks.getD j 0).testBit i
def depsLow (ops:Array Oper):Bool:=(List.range ops.size).all fun i=>match ops[i]? with
 | none=>false
 | some o=>(depsOf o).all fun d=>Nat.blt d i
def phOk (ops:Array Oper) (masks:List Nat) (pm:Nat) (hp:Option Nat) (ph:Ph):Bool:=
 (List.range ops.size).all fun i=>
  (!pm.testBit i || ph.cm.testBit i) && (!ph.cm.testBit i || pm.testBit i || lightAt ops i) &&
  (ph.cm.testBit i || ph.h == some i || match ops[i]? with | none=>false | some o=>(depsOf o).any fun d=>!ph.cm.testBit d) &&
  (!ph.cm.testBit i || !lightAt ops i || ph.fl.contains i || match hp with | none=>false | some h=>(masks.getD h 0).testBit i) &&
  (!(ph.h == some i) || (!lightAt ops i && !ph.cm.testBit i)) &&
  (!ph.fl.contains i || lightAt ops i)
def phsOk (ops:Array Oper) (masks:List Nat):Nat→Option Nat→List Ph→Bool
 | _,_,[]=>false
 | pm, hp, ph :: phs => phOk ops masks pm hp ph && ph.fl.all (Nat.blt · ops.size) && ph.ls.all (fun j => lightAt ops j && !pm.testBit j) && match ph.h with
   | none=>phs.isEmpty
   | some h=>Nat.blt h ops.size && phsOk ops masks (ph.cm ||| 2 ^ h) (some h) phs
def stages (ops:Array Oper) (masks:List Nat):Nat→Nat→Option Nat→List Ph
 | 0,_,_=>[]
 | n + 1, pm, hp =>
   let(cm,ls):=(List.range ops.size).foldl (fun (acc:Nat×List Nat) i=>
    if !acc.1.testBit i && lightAt ops i && (match ops[i]? with | some o=>(depsOf o).all (acc.1.testBit ·) | none=>false) then(acc.1 ||| 2 ^ i,acc.2 ++ [i]) else acc) (pm,[])
   let fl:=(List.range ops.size).filter fun i=>cm.testBit i && lightAt ops i && !(match hp with | none=>false | some h=>(masks.getD h 0).testBit i)
   let h:=(List.range ops.size).find? fun i=>!cm.testBit i && !lightAt ops i && (match ops[i]? with | some o=>(depsOf o).all (cm.testBit ·) | none=>false)
   {cm,ls,fl,h } :: match h with
    | none=>[]
    | some h=>stages ops masks n (cm ||| 2 ^ h) (some h)
def planOf (ops:Array Oper):Option (List Ph):=
 let masks:=masksOf ops.toList []
 let phs:=stages ops masks (ops.size+1) 0 none
 if depsLow ops && namesOk ops masks && phsOk ops masks 0 none phs then some phs else none
def nameOf:Value→Option Nat
 | .pointer (some ⟨b,_,_⟩)=>some b
 | .slice (some ⟨b,_,_⟩) _ _=>some b
 | .map (some b)=>some b
 | _=>none
def again (ops:Array Oper) (tm:Tr Value) (H:Tr CObj) (al:List (Nat×Nat)) (i:Nat):Bool:=match ops[i]? with
 | none=>false
 | some o => match guardC ops tm o with
   | none=>false
   | some false => (match o.dst with
     | none=>true
     | some d=>match tm.get d with | some v=>veq 8 undef v | none=>false)
   | some true => match o.dst with
     | none=>(match light P (ev G tm) H 0 o.op with | some (_,none)=>true | _=>false)
     | some d => match tm.get d with
       | none=>false
       | some v => match light P (ev G tm) H ((nameOf v).getD 0) o.op with
         | none=>false
         | some (u,none)=>veq 8 u v
         | some (u, some ob) => veq 8 u v && match nameOf v with
           | none=>false
           | some b => al.any (fun p => Nat.beq p.1 i && Nat.beq p.2 b) && match H.get b with
             | none=>false
             | some ob'=>obeq ob ob'
def regionC {β:Type} (st:St) (ops:Array Oper) (draw:Bool) (k:List CI) (K:St→Option β):Option β:=match draw with
 | false=>K {st with fr:={st.fr with todo:= .ops ops ops.toList :: k } }
 | true => match planOf ops with
   | some (p :: phs)=>K {st with fr:={st.fr with todo:= .dr ops p.ls p phs none [] :: k } }
   | _=>none
def rangeFuncC {β:Type} (st:St) (f:Operand) (params:Array Tmp) (assign body:Code) (k:List CI) (K:St→Option β):Option β:=
 match ev G st.fr.tm f with
 | some (.func (.func fn) first cap) =>
   let go (H:Tr CObj) (nx:Nat) (df:Nat) (mark:List Deferred):Option β:=
    natK nx fun l=>Tr.setK DEP H l (.loop .ready none st.fr.fn st.fr.tm st.fr.nt params assign body df) fun H=>
     match enterC P fn ((first.toList ++ [.func (.yield l) #[] #[]]) ++ cap.toList) .normal (nx+1) with
     | some fr=>natK (nx+1) fun nx=>K ⟨fr,{st.fr with todo:= .it (.inRangeFunc l) :: k,defers:=mark ++ st.fr.defers } :: st.cs,H,nx⟩
     | none=>none
   (match st.fr.rnd with
   | some l => (match st.H.get l with
     | some (.loop _ _ _ _ _ _ _ _ df)=>go st.H st.nx df []
     | _=>none)
   | none=>natK st.nx fun b=>Tr.setK DEP st.H b (.defd (some [])) fun H=>natK (st.nx+1) fun nx=>go H nx b [{target:= .collected b,args:=#[] }])
 | _=>none
def codeC {β:Type} (st:St) (c:Code) (k:List CI) (K:St→Option β):Option β:=
 let to (todo:List CI):Option β:=K {st with fr:={st.fr with todo } }
 match c with
 | .skip=>to k
 | .label _=>to k
 | .seq a b=>to (.it (.code a) :: .it (.code b) :: k)
 | .cond c a b => (match ev G st.fr.tm c with
   | some (.bool true)=>to (.it (.code a) :: k)
   | some (.bool false)=>to (.it (.code b) :: k)
   | _=>none)
 | .block id b=>to (.it (.code b) :: .it (.inBlock id) :: k)
 | .loop b=>to (.it (.code b) :: .it (.inLoop b) :: k)
 | .scope b=>to (.it (.code b) :: .it (.inScope b) :: k)
 | .exit id => (match exitC id k with
   | some k=>to k
   | none=>leaveC G st (some (.exit id)) K)
 | .goto l => (match gotoC l k with
   | some k=>to k
   | none=>leaveC G st (some (.goto l)) K)
 | .ret=>leaveC G st (some .ret) K
 | .region _ ops draw=>regionC st ops draw k K
 | .rangeFunc f params assign body=>rangeFuncC P G st f params assign body k K
 | .refuse _=>none
def opC {β:Type} (sub:Sub) (st:St) (ops:Array Oper) (o:Oper) (K:St→Option β):Option β:=match guardC ops st.fr.tm o with
 | none=>none
 | some false=>finishC st.fr undef fun fr=>K {st with fr }
 | some true => match isLight o.op with
   | true=>lightK P G st o fun v H nx=>finishC st.fr v fun fr=>K {st with fr,H,nx }
   | false=>heavyK P G FJ OV sub st o K
def execC {β:Type} (sub:Sub) (st:St) (K:St→Option β):Option β:=match st.fr.todo with
 | []=>leaveC G st none K
 | .it (.code c) :: k=>codeC P G st c k K
 | .it (.inBlock _) :: k=>K {st with fr:={st.fr with todo:=k } }
 | .it (.inScope _) :: k=>K {st with fr:={st.fr with todo:=k } }
 | .it (.inLoop b) :: k=>K {st with fr:={st.fr with todo:= .it (.code b) :: .it (.inLoop b) :: k } }
 | .it .beginRound :: k => (match st.fr.rnd with
   | none=>none
   | some l => match st.H.get l with
     | some (.loop .ready pend fn tm nt params assign body df) => (match Nat.blt l G with
       | true=>none
       | false=>Tr.setK DEP st.H l (.loop .busy pend fn tm nt params assign body df) fun H=>K {st with H,fr:={st.fr with todo:=k } })
     | _=>none)
 | .it (.endRangeFunc l) :: k => (match st.H.get l with
   | some (.loop s pend fn tm nt params assign body df) => (match s, Nat.blt l G with
     | .busy,_=>none
     | _,true=>none
     | _, false => Tr.setK DEP st.H l (.loop .exhausted pend fn tm nt params assign body df) fun H =>
       K {st with H,fr:={st.fr with todo:=match pend with | some c=> .it (.code c) :: k | none=>k } })
   | _=>none)
 | .it _ :: _=>none
 | .ops _ [] :: k=>K {st with fr:={st.fr with todo:=k } }
 | .ops ops (o :: _) :: _=>opC P G FJ OV sub st ops o K
 | .dr ops (i :: ls) ph phs hp al :: k => (match ops[i]? with
   | none=>none
   | some o => match guardC ops st.fr.tm o with
     | none=>none
     | some false=>putK {st.fr with todo:= .dr ops ls ph phs hp al :: k } o.dst undef fun fr=>K {st with fr }
     | some true => match light P (ev G st.fr.tm) st.H st.nx o.op with
       | none=>none
       | some (v,none)=>putK {st.fr with todo:= .dr ops ls ph phs hp al :: k } o.dst v fun fr=>K {st with fr }
       | some (v, some ob) => natK st.nx fun b => Tr.setK DEP st.H b ob fun H => natK (Nat.succ b) fun nx =>
         putK {st.fr with todo:= .dr ops ls ph phs hp ((i,b) :: al) :: k } o.dst v fun fr=>K {st with fr,H,nx })
 | .dr ops [] ph phs hp al :: k => (match ph.fl.all (again P G ops st.fr.tm st.H al) with
   | false=>none
   | true => match ph.h with
     | none=>(match phs with | []=>K {st with fr:={st.fr with todo:=k } } | _=>none)
     | some i => match ops[i]?, phs with
       | some o, _ :: _ => (match guardC ops st.fr.tm o with
         | none=>none
         | some false=>finishC {st.fr with todo:= .drh ops ph phs hp al :: k } undef fun fr=>K {st with fr }
         | some true=>heavyK P G FJ OV sub {st with fr:={st.fr with todo:= .drh ops ph phs hp al :: k } } o K)
       | _,_=>none)
 | .drh .. :: _=>none
def unwindC {β:Type} (st:St) (K:St→Option β):Option β:=match st.fr.defers with
 | { target := .collected b, .. } :: ds => (match st.H.get b with
   | some (.defd (some l)) => (match Nat.blt b G with
     | true=>none
     | false=>Tr.setK DEP st.H b (.defd none) fun H=>K {st with H,fr:={st.fr with defers:=l ++ ds } })
   | _=>none)
 | d :: ds => (match invokeC P d.target d.args.toList .deferred st.H st.nx with
   | some fr=>K {st with fr,cs:={st.fr with defers:=ds } :: st.cs }
   | none=>none)
 | [] => match st.fr.mode with
   | .run=>none
   | .panicking chain => (match st.cs, P.funcs[st.fr.fn]? with
     | c :: cs,some _=>raiseC c chain fun fr=>K {st with fr,cs }
     | _,_=>none)
   | .returning => match resultC P st.H st.fr with
     | none=>none
     | some v=>doReturnC st.fr st.cs v st.H st.nx K
def stepC {β:Type} (sub:Sub) (st:St) (K:St→Option β):Option β:=match st.fr.mode with
 | .run=>execC P G FJ OV sub st K
 | _=>unwindC P G st K
def doneC (st:St):Option Value:=match st.cs,st.fr.mode,st.fr.defers,st.fr.kind with
 | [],.returning,[],.normal=>resultC P st.H st.fr
 | _,_,_,_=>none
def subC (KN:Fr→Tr CObj→Bool) (run:St→Option (List Out)):Sub:=fun fr H nx=>match KN fr H with
 | true=>some [{v:= .bool true,H,nx }]
 | false=>run ⟨fr,[],H,nx⟩
variable (KN:Fr→Tr CObj→Bool)
def runC:Nat→St→Option (List Out)
 | 0,_=>none
 | n + 1, st => match doneC P st with
   | some v=>some [{v,H:=st.H,nx:=st.nx,fn:=st.fr.fn }]
   | none=>stepC P G FJ OV (subC KN (runC n)) st (runC n)
end
end
end Go.Proofs.YtiioegopckoldaaGreatDoor.CV
