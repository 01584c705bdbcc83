import Derived.Test.YtljbhgpanekomaaGreatPiBase
import Derived.Calls
namespace PI
open Go
structure Env where
 P:Program
 inv:FuncId→Option Nat
 tinv:TypeId→Option Nat
 hs:List Tmp:=[]
 hf:List FuncId:=[]
 hv:List Tmp:=[]
 bT:Option TypeId:=none
 rs:List TypeId:=[]
 bf:List FuncId:=[]
 bv:List Tmp:=[]
 pt:List TypeId:=[]
 lps:List (Array Tmp×Nat×List Tmp):=[]
 sr:Bool:=false
 nl:Bool:=false
 ox:List (FuncId×Option Nat):=[]
 rf:List FuncId:=[]
 lf:List FuncId:=[]
 zd:List Tmp:=[]
 fr:List Tmp:=[]
 pa:List TypeId:=[]
 pz:List FuncId:=[]
 lv:Bool:=false
def KS (f:FuncId):List (FuncId×Option Nat)→Option (Option Nat)
 | []=>none
 | p::ps=>if p.1=f then some p.2 else KS f ps
def Ek:Value→Option PV
 | .bool b=>some (.bool b)
 | .int k n=>some (.int k n)
 | .string s=>some (.str s.data.toList)
 | .pointer none=>some .nilptr
 | .slice none 0 0=>some (.list true [])
 | .map none=>some (.map none)
 | .nilFunc=>some .nilfunc
 | .nilIface=>some .nilIface
 | _=>none
def C4:List Value→Option (List PV)
 | []=>some []
 | v::vs=>(Ek v).bind λp=>(C4 vs).map (p::·)
def El:Value→Option PV
 | .agg cs=>(C4 cs.toList).map .agg
 | v=>Ek v
def wW (P:Program) (t:TypeId):Bool:=
 match P.underlying t with
 | some (.struct _) | some (.array _ _)=>true
 | _=>false
def wI (P:Program) (t:TypeId):Option Nat:=
 match P.info? t with
 | some i=>if i.size=0∨(P.underlying t).isNone∨(wW P t=false∧i.size≠1) then none else some i.size
 | none=>none
def xE (P:Program) (t:TypeId):Option (List PV):=
 match P.info? t with
 | some i =>
   match i.zero with
   | some z=>(C4 z.cells.toList).bind λcs=>if cs.length=i.size∧i.size≠0 then some cs else none
   | none=>none
 | none=>none
def xB (t:Tmp):List Tmp→Nat→Option Nat
 | [],_=>none
 | x::xs,i=>if x=t then some i else xB t xs (i+1)
def Em (t:Tmp):List Oper→Nat→Option Nat
 | [],_=>none
 | o::os,i=>if o.dst=some t then some i else Em t os (i+1)
def PL:Value→Bool
 | .slice none 0 0=>true
 | _=>false
def cx (E:Env) (vs:List Tmp) (ops:List Oper):Operand→Option PX
 | .tmp t =>
   match xB t vs 0 with
   | some i=>some (.v i)
   | none=>(Em t ops 0).map .l
 | .const v=>if E.nl&&PL v then some (.c .nils) else(El v).map .c
 | .func f=>(E.inv f).map λk => .c (.func k [] [])
 | .global _=>none
def cxs (E:Env) (vs:List Tmp) (ops:List Oper):List Operand→Option (List PX)
 | []=>some []
 | x::xs=>(cx E vs ops x).bind λp=>(cxs E vs ops xs).map (p::·)
def cxo (E:Env) (vs:List Tmp) (ops:List Oper):Option Operand→Option (Option PX)
 | none=>some none
 | some x=>(cx E vs ops x).map some
def Ca (E:Env) (vs:List Tmp) (ops:List Oper) (place:Nat→Option (Nat×Nat)):List (Nat×Operand)→Option (List (Nat×Nat×PX))
 | []=>some []
 | (i,x)::r=>(place i).bind λp=>if p.2=0 then none else(cx E vs ops x).bind λpx=>(Ca E vs ops place r).map ((p.1,p.2,px)::·)
def Cz (E:Env) (vs:List Tmp) (ops:List Oper):List (Nat×Operand)→Option (List (Nat×PX))
 | []=>some []
 | (i,x)::r=>(cx E vs ops x).bind λpx=>(Cz E vs ops r).map ((i,px)::·)
def PM (vs:List Tmp) (ops:List Oper):Nat→Operand→Option Nat
 | 0,_=>none
 | f + 1, .tmp t =>
   match xB t vs 0 with
   | some i=>some i
   | none => match ops.find? (fun o => o.dst == some t) with
     | some o => match o.op with
       | .fieldAddr _ x _=>PM vs ops f x
       | _=>none
     | none=>none
 | _,_=>none
def CA:POp := .mov (.c .dead)
def c7o (ox:List (FuncId×Option Nat)) (t:Tmp) (o:Oper):Bool:=
 match o.op with
 | .call { callee := .value (.func f), args, .. } => match KS f ox with
   | some (some i) => match (args[i]? : Option Operand) with
     | some (.tmp u)=>u==t
     | _=>false
   | _=>false
 | .call { callee := .builtin .append, args, .. } => match (args[0]? : Option Operand) with
   | some (.tmp u)=>u==t
   | _=>false
 | .assign (.tmp u)=>u==t&&ox.any λp=>p.1==1000000
 | _=>false
def En (ox:List (FuncId×Option Nat)) (vs:List Tmp) (ops:List Oper) (d:Option Tmp):Bool:=
 match d with
 | some t=>(xB t vs 0).isNone&&ops.any (c7o ox t)
 | none=>false
def ekT (P:Program) (t:TypeId):Option EK:=
 match P.underlying t with
 | some .bool=>some .b
 | some (.int _)=>some .i
 | some .string=>some .s
 | _=>none
def eqFields (P:Program):List Field→Nat→Option (List EK)
 | [],_=>some []
 | f :: fs, off =>
   if f.offset=off∧f.name ≠ "_" ∧ wI P f.type=some 1∧wW P f.type=false then(ekT P f.type).bind λk=>(eqFields P fs (off+1)).map (k::·) else none
def eqT (P:Program) (t:TypeId):Option (Option (Bool×List EK)):=
 match P.underlying t with
 | some (.int _) | some .string=>some none
 | some .bool=>some (some (false,[.b]))
 | some (.struct fs) =>
   match eqFields P fs.toList 0 with
   | some ks=>if !P.stoodInHeld t && !P.eqGuardType P.depth t then some (some (true,ks)) else none
   | none=>none
 | _=>none
def wJ (vs:List Tmp):Option Tmp→PD
 | none => .n
 | some t => match xB t vs 0 with
   | some i => .v i
   | none => .l
def isVar:PD→Bool
 | .v _=>true
 | _=>false
def isN:PD→Bool
 | .n=>true
 | _=>false
def PN (E:Env) (vs:List Tmp) (ops:List Oper) (b:Builtin) (args:List Operand) (argTypes:List TypeId):Option POp:=
 match b,args,argTypes with
 | .len, [x], t :: _ =>
   match E.P.underlying t with
   | some .string=>(cx E vs ops x).map (.len true)
   | some (.slice _)=>(cx E vs ops x).map (.len false)
   | _=>none
 | .min,xs,_=>(cxs E vs ops xs).map (.minmax false)
 | .max,xs,_=>(cxs E vs ops xs).map (.minmax true)
 | .cap, [x], t :: _ =>
   match E.P.underlying t with
   | some (.slice _)=>(cx E vs ops x).map .cap
   | _=>none
 | .append, [s, x], [ts, tx] =>
   match E.P.underlying ts,E.P.underlying tx with
   | some (.slice e), some (.slice _) =>
     match wI E.P e,xE E.P e with
     | some size,some _=>(cx E vs ops s).bind λps=>(cx E vs ops x).map λpx => .append size (E.P.bytesOf e) ps px
     | _,_=>none
   | some (.slice e), some .string =>
     match E.P.underlying e,wI E.P e,xE E.P e,E.P.bytesOf e with
     | some (.int .u8),some 1,some _,1=>(cx E vs ops s).bind λps=>(cx E vs ops x).map λpx => .appstr ps px
     | _,_,_,_=>none
   | _,_=>none
 | _,_,_=>none
def KT (E:Env) (vs:List Tmp) (ops:List Oper):Nat→Operand→Bool
 | 0,_=>false
 | n + 1, .tmp t =>
   if (xB t vs 0).isSome then E.hs.contains t
   else match ops.find? (λo=>o.dst==some t) with
    | some o =>
      match o.op with
      | .move x | .assign x=>KT E vs ops n x
      | _=>false
    | none=>false
 | _,_=>false
def Eo (E:Env) (vs:List Tmp) (ops:List Oper):Nat→Operand→Bool
 | 0,_=>false
 | n + 1, .tmp t =>
   if (xB t vs 0).isSome then E.hs.contains t
   else match ops.find? (λo=>o.dst==some t) with
    | some o =>
      match o.op with
      | .fieldAddr _ x _=>Eo E vs ops n x
      | .indexAddr ty x _ => match E.P.underlying ty with
        | some (.slice _)=>E.rs.contains ty||KT E vs ops n x
        | _=>Eo E vs ops n x
      | .move x | .assign x | .nilCheck x=>Eo E vs ops n x
      | _=>true
    | none=>false
 | _,_=>false
def KU (E:Env) (vs:List Tmp) (ops:List Oper):Nat→Operand→Bool
 | 0,_=>false
 | n + 1, .tmp t =>
   if (xB t vs 0).isSome then false
   else match ops.find? (λo=>o.dst==some t) with
    | some o =>
      match o.op with
      | .fieldAddr _ x _=>KU E vs ops n x
      | .indexAddr ty x _ => match E.P.underlying ty with
        | some (.slice _) => !(E.rs.contains ty||KT E vs ops n x)
        | _=>KU E vs ops n x
      | _=>false
    | none=>false
 | _,_=>false
def PP:Fn→Option FuncId
 | .func f=>some f
 | _=>none
def C5 (P:Program) (t:TypeId):Option (Bool×List EK):=
 match ekT P t with
 | some k=>some (false,[k])
 | none => match eqT P t with
   | some (some (true,ks))=>some (true,ks)
   | _=>none
def Ep (P:Program) (t:TypeId):Option PV:=
 match P.info? t with
 | some i=>i.zero.bind El
 | none=>none
def KV (P:Program) (t:TypeId) (y:Operand):Option Nat:=
 match P.underlying t,y with
 | some (.slice _),.const (.slice none 0 0)=>some 0
 | some (.pointer _),.const (.pointer none)=>some 1
 | some (.map _ _),.const (.map none)=>some 2
 | some (.interface _),.const .nilIface=>some 4
 | _,_=>none
def F4:Operand→Operand→Bool
 | .tmp a,.tmp b=>a==b
 | .const (.int _ a),.const (.int _ b)=>a==b
 | _,_=>false
def mOf (E:Env) (name:String) (T:TypeId):Option (Nat×Option (Nat×Bool)):=
 match (E.P.info? T).bind (λi=>i.methods.find? (·.name==name)) with
 | some m => if m.path.isEmpty then
   match m.func,E.P.underlying T with
   | some (f,true),some (.pointer _)=>(E.inv f).map λk=>(k,none)
   | some (f,false),some (.pointer e)=>(E.inv f).bind λk=>(wI E.P e).map λn=>(k,some (n,wW E.P e))
   | _,_=>none
   else none
 | none=>none
def DD (E:Env) (name:String):List TypeId→List (Nat×Nat×Option (Nat×Bool))
 | []=>[]
 | T :: Ts => match xB T E.pt 0, mOf E name T with
   | some i,some r=>(i+1,r)::DD E name Ts
   | _,_=>DD E name Ts
def d4z (ops:List Oper) (t:Tmp):Bool:=ops.any λo=>match o.op with
 | .call { callee := .builtin .append, args, .. } => match args.toList with
   | [_,.tmp t']=>t'==t
   | _=>false
 | _=>false
def KW (E:Env) (vs:List Tmp) (ops:List Oper):Operand→Option Nat
 | .tmp t=>if E.fr.contains t then(match cx E vs ops (.tmp t) with | some (.l j)=>some j | _=>none) else none
 | _=>none
theorem c2l {E:Env} {vs:List Tmp} {ops:List Oper} {x:Operand} {j:Nat} (h:KW E vs ops x=some j):∃t,x = .tmp t∧cx E vs ops (.tmp t)=some (.l j):=by
 unfold KW at h
 split at h
 ·rename_i t
  split at h
  ·split at h
   ·rename_i j' hc
    simp only[aa] at h; subst h
    exact⟨t,rfl,hc⟩
   ·simp at h
  ·simp at h
 ·simp at h
def KX (E:Env) (vs:List Tmp) (ops:List Oper) (o:Oper):Option HOp:=
 let c:=cx E vs ops
 match o.op with
 | .alloc t=>if isN (wJ vs o.dst)||(isVar (wJ vs o.dst) && !E.hs.contains (o.dst.getD 0)) then none else if E.bT=some t then some .newbld else(xE E.P t).map .newobj
 | .box t x=>if isN (wJ vs o.dst)||(isVar (wJ vs o.dst) && !E.hs.contains (o.dst.getD 0)) then none else(wI E.P t).bind λn=>(c x).map λp => .boxobj n p
 | .load t a => if Eo E vs ops 64 a then (wI E.P t).bind fun n => (c a).map fun p => if En E.ox vs ops o.dst && !E.pa.isEmpty && !wW E.P t then .loadn p else .load n (wW E.P t) p (En E.ox vs ops o.dst)
   else if KU E vs ops 64 a then(wI E.P t).bind λn=>(c a).map λp => .loadc n (wW E.P t) p else none
 | .store t a x=>if o.dst=none∧Eo E vs ops 64 a then(wI E.P t).bind λn=>(c a).bind λpa=>(c x).map λpx=>if E.sr then .storer n (wW E.P t) pa px else .store n (wW E.P t) pa px else none
 | .indexAddr t x i =>
   match E.P.underlying t with
   | some (.array len e)=>if Eo E vs ops 64 x then(wI E.P e).bind λn=>(c x).bind λpx=>(c i).map λpi => .iaddr len n px pi else none
   | _=>none
 | .buildSlice t len parts =>
   if E.rs.contains t && !isN (wJ vs o.dst) && !d4z ops (o.dst.getD 0) then
    match E.P.underlying t with
    | some (.slice e) =>
      match wI E.P e,xE E.P e with
      | some size,some z=>if len*size≤16777216 then(Cz E vs ops parts.toList).map λps => .mkrow size (wW E.P e) (if wW E.P e then .agg z else z.headD .dead) len ps else none
      | _,_=>none
    | _=>none
   else none
 | .makeMap _ none=>if isN (wJ vs o.dst) then none else some .mkmap
 | .lookup t m k ok =>
   match E.P.underlying t with
   | some (.map kt e)=>(C5 E.P kt).bind λkk=>(Ep E.P e).bind λz=>(c m).bind λpm=>(c k).map λpk => .lookup ok (En E.ox vs ops o.dst) kk.1 kk.2 z pm pk
   | _=>none
 | .mapUpdate t m k v | .insert t m k v =>
   match E.P.underlying t with
   | some (.map kt _)=>if o.dst=none then(C5 E.P kt).bind λkk=>(c m).bind λpm=>(c k).bind λpk=>(c v).map λpv => .mset kk.1 kk.2 pm pk pv else none
   | _=>none
 | .binOp op t x y _=>if op = .eql∨op = .neq then(KV E.P t y).bind λk=>(c x).map λp => .isnil k (op == .neq) p else none
 | .nilCheck x=>(c x).map .nilchk
 | .makeSlice t l c' =>
   match E.P.underlying t with
   | some (.slice e) =>
     match wI E.P e,xE E.P e with
     | some size,some z=>if isN (wJ vs o.dst) || !F4 l c' then none else(c l).map λp=>if E.fr.contains (o.dst.getD 0) then .mkfresh size (wW E.P e) (E.P.bytesOf e) z p else .mkarr size (wW E.P e) (E.P.bytesOf e) z p
     | _,_=>none
   | _=>none
 | .range t x =>
   match E.P.underlying t with
   | some .string=>if isN (wJ vs o.dst) then none else(c x).map .range
   | _=>none
 | .next x true=>if isN (wJ vs o.dst) then none else(c x).map .next
 | .build t parts =>
   match E.P.underlying t with
   | some (.array _ e) =>
     match wI E.P e,xE E.P t with
     | some size,some z=>(Ca E vs ops (λi=>some (i*size,size)) parts.toList).map λps => .barr z ps
     | _,_=>none
   | some (.struct fs) =>
     let js:=parts.toList.filterMap λp=>KW E vs ops p.2
     if js.isEmpty then none else
     match fs.toList.mapM (λf=>(E.P.info? f.type).map λi=>(f.offset,i.size)),xE E.P t with
     | some places,some z=>(Ca E vs ops (places.toArray[·]?) parts.toList).map λps => .buildA js z ps
     | _,_=>none
   | _=>none
 | .index t x i =>
   match E.P.underlying t with
   | some (.array len e)=>(wI E.P e).bind λn=>(c x).bind λpx=>(c i).map λpi => .idxA len n (wW E.P e) px pi
   | _=>none
 | .makeFunc fn first captured=>if isN (wJ vs o.dst) then none else(PP fn).bind λf=>(E.inv f).bind λk=>(cxs E vs ops first.toList).bind λps=>(cxs E vs ops captured.toList).map λqs => .mkfunc k ps qs
 | .call { callee := .builtin .append, args, argTypes } =>
   match args.toList,argTypes.toList with
   | [s, x], [ts, tx] =>
     if E.rs.contains ts && !isN (wJ vs o.dst) && !E.pa.contains ts then
      match E.P.underlying ts,E.P.underlying tx with
      | some (.slice e), some (.slice _) =>
        match wI E.P e,xE E.P e with
        | some size,some _=>(c s).bind λps=>(c x).map λpx => .happ size (wW E.P e) (E.P.bytesOf e) ps px
        | _,_=>none
      | some (.slice e), some (.int _) =>
        match wI E.P e,xE E.P e with
        | some size,some z=>(c s).bind λps=>(c x).map λpx => .happz size (wW E.P e) (E.P.bytesOf e) z ps px
        | _,_=>none
      | _,_=>none
     else none
   | _,_=>none
 | .call { callee := .builtin .clear, args, argTypes } =>
   match args.toList,argTypes.toList with
   | [x], t :: _ => match E.P.underlying t with
     | some (.slice e)=>if isN (wJ vs o.dst) then(wI E.P e).bind λsize=>(xE E.P e).bind λ_=>(c x).map λpx => .clear size px else none
     | _=>none
   | _,_=>none
 | .call { callee := .builtin .len, args, argTypes } =>
   match args.toList,argTypes.toList with
   | [x], t :: _ => match E.P.underlying t with
     | some (.map _ _)=>if isN (wJ vs o.dst) then none else(c x).map .mlen
     | _=>none
   | _,_=>none
 | .call { callee := .value (.func f),args,.. }=>if E.hf.contains f||E.zd.contains (o.dst.getD 0) then(E.inv f).bind λk=>(cxs E vs ops args.toList).map λps=>if E.rf.contains f then .rcall k ps else if E.lf.contains f then .lcall k ps else if E.zd.contains (o.dst.getD 0) then .zcall k ps else .call k ps else none
 | .call { callee := .invoke x name,args,.. }=>(c x).bind λp=>(cxs E vs ops args.toList).map λps => .icall (DD E name E.pt) p ps
 | .call { callee := .value (.tmp t),args,.. }=>if E.hv.contains t then(c (.tmp t)).bind λp=>(cxs E vs ops args.toList).map λps => .callv p ps else none
 | _=>none
def cOp (E:Env) (vs:List Tmp) (ops:List Oper) (o:Oper):Option POp:=
 let c:=cx E vs ops
 match KX E vs ops o with
 | some h=>some (.h h)
 | none=>
 match o.op with
 | .move x=>(c x).map λp=>if En E.ox vs ops o.dst then .take p else .mov p
 | .assign x=>(c x).map .take
 | .pick x a b=>(c x).bind λpx=>(c a).bind λpa=>(c b).map λpb => .pick px pa pb
 | .alloc t=>if isVar (wJ vs o.dst) then(xE E.P t).map .newloc else none
 | .box t x=>if isVar (wJ vs o.dst) then(wI E.P t).bind λn=>(c x).map λp => .boxloc n p else none
 | .build t parts =>
   match E.P.underlying t,xE E.P t with
   | some (.struct fs), some z =>
     match fs.toList.mapM (λf=>(E.P.info? f.type).map λi=>(f.offset,i.size)) with
     | some places=>(Ca E vs ops (places.toArray[·]?) parts.toList).map λps => .build z ps
     | none=>none
   | _,_=>none
 | .buildSlice t len parts =>
   match E.P.underlying t with
   | some (.slice e) =>
     match wI E.P e,xE E.P e with
     | some size,some z=>if len*size≤16777216 then(Cz E vs ops parts.toList).map λps => .mkslice size (if wW E.P e then .agg z else z.headD .dead) len ps else none
     | _,_=>none
   | _=>none
 | .load t a => (wI E.P t).bind fun n => (c a).map fun p =>
   match (if E.lv && !En E.ox vs ops o.dst then PM vs ops 64 a else none) with
   | some s => .loadv s n (wW E.P t) p
   | none => .load n (wW E.P t) p (En E.ox vs ops o.dst)
 | .store t a x=>if o.dst=none then(wI E.P t).bind λn=>(c a).bind λpa=>(c x).map λpx => .store n (wW E.P t) pa px else none
 | .fieldAddr s x f =>
   match E.P.underlying s with
   | some (.struct fs) =>
     match fs[f]? with
     | some fd=>(wI E.P fd.type).bind λ_=>(c x).map λp => .faddr fd.offset p
     | none=>none
   | _=>none
 | .indexAddr t x i =>
   match E.P.underlying t with
   | some (.slice e)=>(wI E.P e).bind λn=>(c x).bind λpx=>(c i).map λpi => .iaddrS n px pi
   | some (.array len e)=>(wI E.P e).bind λn=>(c x).bind λpx=>(c i).map λpi => .iaddrA len n px pi
   | _=>none
 | .field t x f =>
   match E.P.underlying t with
   | some (.struct fs) =>
     match fs[f]? with
     | some fd=>(wI E.P fd.type).bind λn=>(c x).map λp => .field fd.offset n (wW E.P fd.type) p
     | none=>none
   | _=>none
 | .index t x i =>
   match E.P.underlying t with
   | some .string=>(c x).bind λpx=>(c i).map λpi => .indexStr px pi
   | _=>none
 | .slice t x lo hi none =>
   match E.P.underlying t with
   | some .string=>(c x).bind λpx=>(cxo E vs ops lo).bind λpl=>(cxo E vs ops hi).map λph => .slice true 1 px pl ph
   | some (.slice e)=>(wI E.P e).bind λn=>(c x).bind λpx=>(cxo E vs ops lo).bind λpl=>(cxo E vs ops hi).map λph => .slice false n px pl ph
   | some (.array n e) =>
     match wI E.P e,wW E.P e,lo,hi with
     | some 1,false,none,none=>(c x).map (.sliceLoc n)
     | _,_,_,_=>none
   | _=>none
 | .binOp op t x y _ =>
   if op = .eql∨op = .neq then
    match eqT E.P t with
    | some (some (agg,ks))=>(c x).bind λpx=>(c y).map λpy => .eq (op == .neq) agg ks px py
    | some none=>(c x).bind λpx=>(c y).map λpy => .bin op px py
    | none=>none
   else(c x).bind λpx=>(c y).map λpy => .bin op px py
 | .unOp op _ x=>(c x).map λp => .un op p
 | .convert src dst x =>
   match E.P.underlying src,E.P.underlying dst with
   | some (.int _),some (.int k)=>(c x).map λp => .convInt k p
   | some .string,some .string=>(c x).map .movs
   | some .string, some (.slice e) => match E.P.underlying e with
     | some (.int .u8)=>if isN (wJ vs o.dst) then none else(c x).map .s2b
     | _=>none
   | some (.slice e), some .string => match E.P.underlying e with
     | some (.int .u8)=>(c x).map .b2s
     | _=>none
   | _,_=>none
 | .makeInterface t x => match E.P.underlying t with
   | some (.interface _)=>none
   | some _=>(xB t E.pt 0).bind λi=>(c x).map λp => .ifc true (i+1) p
   | none=>none
 | .typeAssert x _ t false => match E.P.underlying t with
   | some (.interface _)=>none
   | some _=>(xB t E.pt 0).bind λi=>(c x).map λp => .ifc false (i+1) p
   | none=>none
 | .extract x i=>(c x).map λp => .extract i p
 | .call { callee := .builtin b,args,argTypes }=>if isN (wJ vs o.dst) then none else PN E vs ops b args.toList argTypes.toList
 | .call { callee := .value (.func f), args, .. } => (E.inv f).bind fun k => (cxs E vs ops args.toList).map fun ps => match KS f E.ox with
   | some own=>if isN (wJ vs o.dst) then CA else .pcallx k ps own
   | none=>if E.pz.contains f then .pzcall k ps else .pcall k ps
 | .call { callee := .value (.tmp t),args,.. }=>(c (.tmp t)).bind λp=>(cxs E vs ops args.toList).map λps => .callv p ps
 | _=>none
def PQ (E:Env) (vs:List Tmp) (ops:List Oper):Option (Nat×Bool)→Option (Option (PX×Bool))
 | none=>some none
 | some (j, want) =>
   match ops[j]? with
   | some o => match o.dst with
     | some t=>(cx E vs ops (.tmp t)).map λp=>some (p,want)
     | none=>none
   | none=>none
def AE:PC := .branch [] (.c .dead) .skip .skip
def DA (E:Env) (vs:List Tmp) (ops:List Oper) (o:Oper):Option PO:=
 (PQ E vs ops o.guard).map λg=>{ dst:=wJ vs o.dst,op:=(cOp E vs ops o).getD CA,guard:=g }
def isB (o:PO):Bool:=
 match o.op with
 | .h (.bcall ..) | .h (.bcallv ..)=>true
 | _=>false
def F5 (E:Env) (vs:List Tmp) (ops:List Oper) (o:Oper):Option PO:=(DA E vs ops o).bind λp=>if isB p then none else some p
def F3 (E:Env) (vs:List Tmp) (ops:List Oper) (o:Oper):Option PO:=
 match o with
 | { dst, op := .call { callee := .value (.func f), args, .. }, guard := none, .. } =>
   if E.bf.contains f then(E.inv f).bind λk=>(cxs E vs ops args.toList).map λps=>{ dst:=wJ vs dst,op := .h (.bcall k ps) } else F5 E vs ops o
 | { dst, op := .call { callee := .value (.tmp t), args, .. }, guard := none, .. } =>
   if E.bv.contains t then(cx E vs ops (.tmp t)).bind λp=>(cxs E vs ops args.toList).map λps=>{ dst:=wJ vs dst,op := .h (.bcallv p ps) } else F5 E vs ops o
 | _=>F5 E vs ops o
def FY (E:Env) (vs:List Tmp) (ops:List Oper):List Oper→Option (List PO)
 | []=>some []
 | o::os=>(F3 E vs ops o).bind λp=>(FY E vs ops os).map (p::·)
def Pv (E:Env) (ops:List Oper):Bool:=ops.any λo=>
 match o.op with
 | .call { callee := .value (.func f),.. }=>E.bf.contains f
 | .call { callee := .value (.tmp t),.. }=>E.bv.contains t
 | _=>false
def Cx (E:Env) (vs:List Tmp) (ops:List Oper):List Oper→Option (List PO)
 | []=>some []
 | o::os=>(DA E vs ops o).bind λp=>(Cx E vs ops os).map (p::·)
def CZ (vs:List Tmp):List Oper→Bool
 | []=>true
 | o::os=>(match o.dst with | some t=>(xB t vs 0).isSome||os.all (λp=>p.dst != some t) | none=>true)&&CZ vs os
def xb:HOp→List PX
 | .isnil _ _ x | .nilchk x | .loadc _ _ x=>[x]
 | .barr _ ps=>ps.map (·.2.2)
 | .idxA _ _ _ x i=>[x,i]
 | .newobj _ | .newbld | .mkmap=>[]
 | .boxobj _ x | .load _ _ x _ | .mlen x | .mkarr _ _ _ _ x | .range x | .next x=>[x]
 | .clear _ x=>[x]
 | .mkrow _ _ _ _ ps=>ps.map (·.2)
 | .mkfresh _ _ _ _ x | .loadn x=>[x]
 | .buildA js _ ps=>js.map .l++ps.map (·.2.2)
 | .happ _ _ _ a x | .happz _ _ _ _ a x | .store _ _ a x | .storer _ _ a x | .iaddr _ _ a x | .lookup _ _ _ _ _ a x=>[a,x]
 | .mset _ _ m k v=>[m,k,v]
 | .mkfunc _ a b=>a++b
 | .call _ xs | .bcall _ xs | .rcall _ xs | .lcall _ xs | .zcall _ xs=>xs
 | .callv x xs | .bcallv x xs | .icall _ x xs=>x::xs
def wN:POp→List PX
 | .h o=>xb o
 | .mov x | .movs x | .take x | .faddr _ x | .field _ _ _ x | .sliceLoc _ x | .un _ x | .convInt _ x | .ifc _ _ x | .extract _ x | .len _ x | .cap x | .boxloc _ x | .b2s x | .s2b x=>[x]
 | .pick c a b=>[c,a,b]
 | .newloc _=>[]
 | .build _ ps=>ps.map (·.2.2)
 | .mkslice _ _ _ ps=>ps.map (·.2)
 | .load _ _ a _=>[a]
 | .loadv s _ _ a=>[a,.v s]
 | .store _ _ a x | .iaddrS _ a x | .iaddrA _ _ a x | .indexStr a x | .bin _ a x | .eq _ _ _ a x | .append _ _ a x | .appstr a x=>[a,x]
 | .slice _ _ x lo hi=>x::(lo.toList++hi.toList)
 | .minmax _ xs | .pcall _ xs | .pcallx _ xs _ | .pzcall _ xs=>xs
 | .callv x xs=>x::xs
end PI
