import Derived.Test.YtljbhgpanekomaaGreatDoorPiBase
import Derived.Calls
namespace PI
open Go
structure Env where
 P:Program
 inv:FuncId→Option Nat
 tinv:TypeId→Option Nat
 hs:List Tmp:=[]
 hf:List FuncId:=[]
 hv:List Tmp:=[]
 bT:Option TypeId:=none
 rs:List TypeId:=[]
 bf:List FuncId:=[]
 bv:List Tmp:=[]
 pt:List TypeId:=[]
 lps:List (Array Tmp×Nat×List Tmp):=[]
 sr:Bool:=false
 nl:Bool:=false
 ox:List (FuncId×Option Nat):=[]
 rf:List FuncId:=[]
 lf:List FuncId:=[]
 lv:Bool:=false
def Ih (f:FuncId):List (FuncId×Option Nat)→Option (Option Nat)
 | []=>none
 | p::ps=>if p.1=f then some p.2 else Ih f ps
def DC:Value→Option PV
 | .bool b=>some (.bool b)
 | .int k n=>some (.int k n)
 | .string s=>some (.str s.data.toList)
 | .pointer none=>some .nilptr
 | .slice none 0 0=>some (.list true [])
 | .map none=>some (.map none)
 | .nilFunc=>some .nilfunc
 | .nilIface=>some .nilIface
 | _=>none
def CE:List Value→Option (List PV)
 | []=>some []
 | v::vs=>(DC v).bind λp=>(CE vs).map (p::·)
def DD:Value→Option PV
 | .agg cs=>(CE cs.toList).map .agg
 | v=>DC v
def xi (P:Program) (t:TypeId):Bool:=
 match P.underlying t with
 | some (.struct _) | some (.array _ _)=>true
 | _=>false
def wP (P:Program) (t:TypeId):Option Nat:=
 match P.info? t with
 | some i=>if i.size=0∨(P.underlying t).isNone∨(xi P t=false∧i.size≠1) then none else some i.size
 | none=>none
def yf (P:Program) (t:TypeId):Option (List PV):=
 match P.info? t with
 | some i =>
   match i.zero with
   | some z=>(CE z.cells.toList).bind λcs=>if cs.length=i.size∧i.size≠0 then some cs else none
   | none=>none
 | none=>none
def x5 (t:Tmp):List Tmp→Nat→Option Nat
 | [],_=>none
 | x::xs,i=>if x=t then some i else x5 t xs (i+1)
def EF (t:Tmp):List Oper→Nat→Option Nat
 | [],_=>none
 | o::os,i=>if o.dst=some t then some i else EF t os (i+1)
def Lo:Value→Bool
 | .slice none 0 0=>true
 | _=>false
def cx (E:Env) (vs:List Tmp) (ops:List Oper):Operand→Option PX
 | .tmp t =>
   match x5 t vs 0 with
   | some i=>some (.v i)
   | none=>(EF t ops 0).map .l
 | .const v=>if E.nl&&Lo v then some (.c .nils) else(DD v).map .c
 | .func f=>(E.inv f).map λk => .c (.func k [] [])
 | .global _=>none
def cxs (E:Env) (vs:List Tmp) (ops:List Oper):List Operand→Option (List PX)
 | []=>some []
 | x::xs=>(cx E vs ops x).bind λp=>(cxs E vs ops xs).map (p::·)
def cxo (E:Env) (vs:List Tmp) (ops:List Oper):Option Operand→Option (Option PX)
 | none=>some none
 | some x=>(cx E vs ops x).map some
def CF (E:Env) (vs:List Tmp) (ops:List Oper) (place:Nat→Option (Nat×Nat)):List (Nat×Operand)→Option (List (Nat×Nat×PX))
 | []=>some []
 | (i,x)::r=>(place i).bind λp=>if p.2=0 then none else(cx E vs ops x).bind λpx=>(CF E vs ops place r).map ((p.1,p.2,px)::·)
def DE (E:Env) (vs:List Tmp) (ops:List Oper):List (Nat×Operand)→Option (List (Nat×PX))
 | []=>some []
 | (i,x)::r=>(cx E vs ops x).bind λpx=>(DE E vs ops r).map ((i,px)::·)
def Lp (vs:List Tmp) (ops:List Oper):Nat→Operand→Option Nat
 | 0,_=>none
 | f + 1, .tmp t =>
   match x5 t vs 0 with
   | some i=>some i
   | none => match ops.find? (fun o => o.dst == some t) with
     | some o => match o.op with
       | .fieldAddr _ x _=>Lp vs ops f x
       | _=>none
     | none=>none
 | _,_=>none
def Cb:POp := .mov (.c .dead)
def c4y (ox:List (FuncId×Option Nat)) (t:Tmp) (o:Oper):Bool:=
 match o.op with
 | .call { callee := .value (.func f), args, .. } => match Ih f ox with
   | some (some i) => match (args[i]? : Option Operand) with
     | some (.tmp u)=>u==t
     | _=>false
   | _=>false
 | .call { callee := .builtin .append, args, .. } => match (args[0]? : Option Operand) with
   | some (.tmp u)=>u==t
   | _=>false
 | .assign (.tmp u)=>u==t&&ox.any λp=>p.1==1000000
 | _=>false
def EG (ox:List (FuncId×Option Nat)) (vs:List Tmp) (ops:List Oper) (d:Option Tmp):Bool:=
 match d with
 | some t=>(x5 t vs 0).isNone&&ops.any (c4y ox t)
 | none=>false
def ekT (P:Program) (t:TypeId):Option EK:=
 match P.underlying t with
 | some .bool=>some .b
 | some (.int _)=>some .i
 | some .string=>some .s
 | _=>none
def eqFields (P:Program):List Field→Nat→Option (List EK)
 | [],_=>some []
 | f :: fs, off =>
   if f.offset=off∧f.name ≠ "_" ∧ wP P f.type=some 1∧xi P f.type=false then(ekT P f.type).bind λk=>(eqFields P fs (off+1)).map (k::·) else none
def eqT (P:Program) (t:TypeId):Option (Option (Bool×List EK)):=
 match P.underlying t with
 | some (.int _) | some .string=>some none
 | some .bool=>some (some (false,[.b]))
 | some (.struct fs) =>
   match eqFields P fs.toList 0 with
   | some ks=>if !P.stoodInHeld t && !P.eqGuardType P.depth t then some (some (true,ks)) else none
   | none=>none
 | _=>none
def wO (vs:List Tmp):Option Tmp→PD
 | none => .n
 | some t => match x5 t vs 0 with
   | some i => .v i
   | none => .l
def Cc:PD→Bool
 | .v _=>true
 | _=>false
def isN:PD→Bool
 | .n=>true
 | _=>false
def Lq (E:Env) (vs:List Tmp) (ops:List Oper) (b:Builtin) (args:List Operand) (argTypes:List TypeId):Option POp:=
 match b,args,argTypes with
 | .len, [x], t :: _ =>
   match E.P.underlying t with
   | some .string=>(cx E vs ops x).map (.len true)
   | some (.slice _)=>(cx E vs ops x).map (.len false)
   | _=>none
 | .min,xs,_=>(cxs E vs ops xs).map (.minmax false)
 | .max,xs,_=>(cxs E vs ops xs).map (.minmax true)
 | .cap, [x], t :: _ =>
   match E.P.underlying t with
   | some (.slice _)=>(cx E vs ops x).map .cap
   | _=>none
 | .append, [s, x], [ts, tx] =>
   match E.P.underlying ts,E.P.underlying tx with
   | some (.slice e), some (.slice _) =>
     match wP E.P e,yf E.P e with
     | some size,some _=>(cx E vs ops s).bind λps=>(cx E vs ops x).map λpx => .append size (E.P.bytesOf e) ps px
     | _,_=>none
   | some (.slice e), some .string =>
     match E.P.underlying e,wP E.P e,yf E.P e,E.P.bytesOf e with
     | some (.int .u8),some 1,some _,1=>(cx E vs ops s).bind λps=>(cx E vs ops x).map λpx => .appstr ps px
     | _,_,_,_=>none
   | _,_=>none
 | _,_,_=>none
def Ii (E:Env) (vs:List Tmp) (ops:List Oper):Nat→Operand→Bool
 | 0,_=>false
 | n + 1, .tmp t =>
   if (x5 t vs 0).isSome then E.hs.contains t
   else match ops.find? (λo=>o.dst==some t) with
    | some o =>
      match o.op with
      | .move x | .assign x=>Ii E vs ops n x
      | _=>false
    | none=>false
 | _,_=>false
def DG (E:Env) (vs:List Tmp) (ops:List Oper):Nat→Operand→Bool
 | 0,_=>false
 | n + 1, .tmp t =>
   if (x5 t vs 0).isSome then E.hs.contains t
   else match ops.find? (λo=>o.dst==some t) with
    | some o =>
      match o.op with
      | .fieldAddr _ x _=>DG E vs ops n x
      | .indexAddr ty x _ => match E.P.underlying ty with
        | some (.slice _)=>E.rs.contains ty||Ii E vs ops n x
        | _=>DG E vs ops n x
      | .move x | .assign x | .nilCheck x=>DG E vs ops n x
      | _=>true
    | none=>false
 | _,_=>false
def Ij (E:Env) (vs:List Tmp) (ops:List Oper):Nat→Operand→Bool
 | 0,_=>false
 | n + 1, .tmp t =>
   if (x5 t vs 0).isSome then false
   else match ops.find? (λo=>o.dst==some t) with
    | some o =>
      match o.op with
      | .fieldAddr _ x _=>Ij E vs ops n x
      | .indexAddr ty x _ => match E.P.underlying ty with
        | some (.slice _) => !(E.rs.contains ty||Ii E vs ops n x)
        | _=>Ij E vs ops n x
      | _=>false
    | none=>false
 | _,_=>false
def Lr:Fn→Option FuncId
 | .func f=>some f
 | _=>none
def CG (P:Program) (t:TypeId):Option (Bool×List EK):=
 match ekT P t with
 | some k=>some (false,[k])
 | none => match eqT P t with
   | some (some (true,ks))=>some (true,ks)
   | _=>none
def DH (P:Program) (t:TypeId):Option PV:=
 match P.info? t with
 | some i=>i.zero.bind DD
 | none=>none
def Ik (P:Program) (t:TypeId) (y:Operand):Option Nat:=
 match P.underlying t,y with
 | some (.slice _),.const (.slice none 0 0)=>some 0
 | some (.pointer _),.const (.pointer none)=>some 1
 | some (.map _ _),.const (.map none)=>some 2
 | some (.interface _),.const .nilIface=>some 4
 | _,_=>none
def F7:Operand→Operand→Bool
 | .tmp a,.tmp b=>a==b
 | .const (.int _ a),.const (.int _ b)=>a==b
 | _,_=>false
def Il (E:Env) (vs:List Tmp) (ops:List Oper) (o:Oper):Option HOp:=
 let c:=cx E vs ops
 match o.op with
 | .alloc t=>if isN (wO vs o.dst)||(Cc (wO vs o.dst) && !E.hs.contains (o.dst.getD 0)) then none else if E.bT=some t then some .newbld else(yf E.P t).map .newobj
 | .box t x=>if isN (wO vs o.dst)||(Cc (wO vs o.dst) && !E.hs.contains (o.dst.getD 0)) then none else(wP E.P t).bind λn=>(c x).map λp => .boxobj n p
 | .load t a => if DG E vs ops 64 a then (wP E.P t).bind fun n => (c a).map fun p => .load n (xi E.P t) p (EG E.ox vs ops o.dst)
   else if Ij E vs ops 64 a then(wP E.P t).bind λn=>(c a).map λp => .loadc n (xi E.P t) p else none
 | .store t a x=>if o.dst=none∧DG E vs ops 64 a then(wP E.P t).bind λn=>(c a).bind λpa=>(c x).map λpx=>if E.sr then .storer n (xi E.P t) pa px else .store n (xi E.P t) pa px else none
 | .indexAddr t x i =>
   match E.P.underlying t with
   | some (.array len e)=>if DG E vs ops 64 x then(wP E.P e).bind λn=>(c x).bind λpx=>(c i).map λpi => .iaddr len n px pi else none
   | _=>none
 | .makeMap _ none=>if isN (wO vs o.dst) then none else some .mkmap
 | .lookup t m k ok =>
   match E.P.underlying t with
   | some (.map kt e)=>(CG E.P kt).bind λkk=>(DH E.P e).bind λz=>(c m).bind λpm=>(c k).map λpk => .lookup ok (EG E.ox vs ops o.dst) kk.1 kk.2 z pm pk
   | _=>none
 | .mapUpdate t m k v | .insert t m k v =>
   match E.P.underlying t with
   | some (.map kt _)=>if o.dst=none then(CG E.P kt).bind λkk=>(c m).bind λpm=>(c k).bind λpk=>(c v).map λpv => .mset kk.1 kk.2 pm pk pv else none
   | _=>none
 | .binOp op t x y _=>if op = .eql∨op = .neq then(Ik E.P t y).bind λk=>(c x).map λp => .isnil k (op == .neq) p else none
 | .nilCheck x=>(c x).map .nilchk
 | .makeSlice t l c' =>
   match E.P.underlying t with
   | some (.slice e) =>
     match wP E.P e,yf E.P e with
     | some size,some z=>if isN (wO vs o.dst) || !F7 l c' then none else(c l).map λp => .mkarr size (xi E.P e) (E.P.bytesOf e) z p
     | _,_=>none
   | _=>none
 | .range t x =>
   match E.P.underlying t with
   | some .string=>if isN (wO vs o.dst) then none else(c x).map .range
   | _=>none
 | .next x true=>if isN (wO vs o.dst) then none else(c x).map .next
 | .build t parts =>
   match E.P.underlying t with
   | some (.array _ e) =>
     match wP E.P e,yf E.P t with
     | some size,some z=>(CF E vs ops (λi=>some (i*size,size)) parts.toList).map λps => .barr z ps
     | _,_=>none
   | _=>none
 | .index t x i =>
   match E.P.underlying t with
   | some (.array len e)=>(wP E.P e).bind λn=>(c x).bind λpx=>(c i).map λpi => .idxA len n (xi E.P e) px pi
   | _=>none
 | .makeFunc fn first captured=>if isN (wO vs o.dst) then none else(Lr fn).bind λf=>(E.inv f).bind λk=>(cxs E vs ops first.toList).bind λps=>(cxs E vs ops captured.toList).map λqs => .mkfunc k ps qs
 | .call { callee := .builtin .append, args, argTypes } =>
   match args.toList,argTypes.toList with
   | [s, x], [ts, tx] =>
     if E.rs.contains ts && !isN (wO vs o.dst) then
      match E.P.underlying ts,E.P.underlying tx with
      | some (.slice e), some (.slice _) =>
        match wP E.P e,yf E.P e with
        | some size,some _=>(c s).bind λps=>(c x).map λpx => .happ size (xi E.P e) (E.P.bytesOf e) ps px
        | _,_=>none
      | some (.slice e), some (.int _) =>
        match wP E.P e,yf E.P e with
        | some size,some z=>(c s).bind λps=>(c x).map λpx => .happz size (xi E.P e) (E.P.bytesOf e) z ps px
        | _,_=>none
      | _,_=>none
     else none
   | _,_=>none
 | .call { callee := .builtin .clear, args, argTypes } =>
   match args.toList,argTypes.toList with
   | [x], t :: _ => match E.P.underlying t with
     | some (.slice e)=>if isN (wO vs o.dst) then(wP E.P e).bind λsize=>(yf E.P e).bind λ_=>(c x).map λpx => .clear size px else none
     | _=>none
   | _,_=>none
 | .call { callee := .builtin .len, args, argTypes } =>
   match args.toList,argTypes.toList with
   | [x], t :: _ => match E.P.underlying t with
     | some (.map _ _)=>if isN (wO vs o.dst) then none else(c x).map .mlen
     | _=>none
   | _,_=>none
 | .call { callee := .value (.func f),args,.. }=>if E.hf.contains f then(E.inv f).bind λk=>(cxs E vs ops args.toList).map λps=>if E.rf.contains f then .rcall k ps else if E.lf.contains f then .lcall k ps else .call k ps else none
 | .call { callee := .value (.tmp t),args,.. }=>if E.hv.contains t then(c (.tmp t)).bind λp=>(cxs E vs ops args.toList).map λps => .callv p ps else none
 | _=>none
def cOp (E:Env) (vs:List Tmp) (ops:List Oper) (o:Oper):Option POp:=
 let c:=cx E vs ops
 match Il E vs ops o with
 | some h=>some (.h h)
 | none=>
 match o.op with
 | .move x=>(c x).map λp=>if EG E.ox vs ops o.dst then .take p else .mov p
 | .assign x=>(c x).map .take
 | .pick x a b=>(c x).bind λpx=>(c a).bind λpa=>(c b).map λpb => .pick px pa pb
 | .alloc t=>if Cc (wO vs o.dst) then(yf E.P t).map .newloc else none
 | .box t x=>if Cc (wO vs o.dst) then(wP E.P t).bind λn=>(c x).map λp => .boxloc n p else none
 | .build t parts =>
   match E.P.underlying t,yf E.P t with
   | some (.struct fs), some z =>
     match fs.toList.mapM (λf=>(E.P.info? f.type).map λi=>(f.offset,i.size)) with
     | some places=>(CF E vs ops (places.toArray[·]?) parts.toList).map λps => .build z ps
     | none=>none
   | _,_=>none
 | .buildSlice t len parts =>
   match E.P.underlying t with
   | some (.slice e) =>
     match wP E.P e,yf E.P e with
     | some size,some z=>if len*size≤16777216 then(DE E vs ops parts.toList).map λps => .mkslice size (if xi E.P e then .agg z else z.headD .dead) len ps else none
     | _,_=>none
   | _=>none
 | .load t a => (wP E.P t).bind fun n => (c a).map fun p =>
   match (if E.lv && !EG E.ox vs ops o.dst then Lp vs ops 64 a else none) with
   | some s => .loadv s n (xi E.P t) p
   | none => .load n (xi E.P t) p (EG E.ox vs ops o.dst)
 | .store t a x=>if o.dst=none then(wP E.P t).bind λn=>(c a).bind λpa=>(c x).map λpx => .store n (xi E.P t) pa px else none
 | .fieldAddr s x f =>
   match E.P.underlying s with
   | some (.struct fs) =>
     match fs[f]? with
     | some fd=>(wP E.P fd.type).bind λ_=>(c x).map λp => .faddr fd.offset p
     | none=>none
   | _=>none
 | .indexAddr t x i =>
   match E.P.underlying t with
   | some (.slice e)=>(wP E.P e).bind λn=>(c x).bind λpx=>(c i).map λpi => .iaddrS n px pi
   | some (.array len e)=>(wP E.P e).bind λn=>(c x).bind λpx=>(c i).map λpi => .iaddrA len n px pi
   | _=>none
 | .field t x f =>
   match E.P.underlying t with
   | some (.struct fs) =>
     match fs[f]? with
     | some fd=>(wP E.P fd.type).bind λn=>(c x).map λp => .field fd.offset n (xi E.P fd.type) p
     | none=>none
   | _=>none
 | .index t x i =>
   match E.P.underlying t with
   | some .string=>(c x).bind λpx=>(c i).map λpi => .indexStr px pi
   | _=>none
 | .slice t x lo hi none =>
   match E.P.underlying t with
   | some .string=>(c x).bind λpx=>(cxo E vs ops lo).bind λpl=>(cxo E vs ops hi).map λph => .slice true 1 px pl ph
   | some (.slice e)=>(wP E.P e).bind λn=>(c x).bind λpx=>(cxo E vs ops lo).bind λpl=>(cxo E vs ops hi).map λph => .slice false n px pl ph
   | some (.array n e) =>
     match wP E.P e,xi E.P e,lo,hi with
     | some 1,false,none,none=>(c x).map (.sliceLoc n)
     | _,_,_,_=>none
   | _=>none
 | .binOp op t x y _ =>
   if op = .eql∨op = .neq then
    match eqT E.P t with
    | some (some (agg,ks))=>(c x).bind λpx=>(c y).map λpy => .eq (op == .neq) agg ks px py
    | some none=>(c x).bind λpx=>(c y).map λpy => .bin op px py
    | none=>none
   else(c x).bind λpx=>(c y).map λpy => .bin op px py
 | .unOp op _ x=>(c x).map λp => .un op p
 | .convert src dst x =>
   match E.P.underlying src,E.P.underlying dst with
   | some (.int _),some (.int k)=>(c x).map λp => .convInt k p
   | some .string,some .string=>(c x).map .movs
   | some .string, some (.slice e) => match E.P.underlying e with
     | some (.int .u8)=>if isN (wO vs o.dst) then none else(c x).map .s2b
     | _=>none
   | some (.slice e), some .string => match E.P.underlying e with
     | some (.int .u8)=>(c x).map .b2s
     | _=>none
   | _,_=>none
 | .extract x i=>(c x).map λp => .extract i p
 | .call { callee := .builtin b,args,argTypes }=>if isN (wO vs o.dst) then none else Lq E vs ops b args.toList argTypes.toList
 | .call { callee := .value (.func f), args, .. } => (E.inv f).bind fun k => (cxs E vs ops args.toList).map fun ps => match Ih f E.ox with
   | some own=>if isN (wO vs o.dst) then Cb else .pcallx k ps own
   | none => .pcall k ps
 | .call { callee := .value (.tmp t),args,.. }=>(c (.tmp t)).bind λp=>(cxs E vs ops args.toList).map λps => .callv p ps
 | _=>none
def Ls (E:Env) (vs:List Tmp) (ops:List Oper):Option (Nat×Bool)→Option (Option (PX×Bool))
 | none=>some none
 | some (j, want) =>
   match ops[j]? with
   | some o => match o.dst with
     | some t=>(cx E vs ops (.tmp t)).map λp=>some (p,want)
     | none=>none
   | none=>none
def Ag:PC := .branch [] (.c .dead) .skip .skip
def CY (E:Env) (vs:List Tmp) (ops:List Oper) (o:Oper):Option PO:=
 (Ls E vs ops o.guard).map λg=>{ dst:=wO vs o.dst,op:=(cOp E vs ops o).getD Cb,guard:=g }
def isB (o:PO):Bool:=
 match o.op with
 | .h (.bcall ..) | .h (.bcallv ..)=>true
 | _=>false
def EH (E:Env) (vs:List Tmp) (ops:List Oper) (o:Oper):Option PO:=(CY E vs ops o).bind λp=>if isB p then none else some p
def EE (E:Env) (vs:List Tmp) (ops:List Oper) (o:Oper):Option PO:=
 match o with
 | { dst, op := .call { callee := .value (.func f), args, .. }, guard := none, .. } =>
   if E.bf.contains f then(E.inv f).bind λk=>(cxs E vs ops args.toList).map λps=>{ dst:=wO vs dst,op := .h (.bcall k ps) } else EH E vs ops o
 | { dst, op := .call { callee := .value (.tmp t), args, .. }, guard := none, .. } =>
   if E.bv.contains t then(cx E vs ops (.tmp t)).bind λp=>(cxs E vs ops args.toList).map λps=>{ dst:=wO vs dst,op := .h (.bcallv p ps) } else EH E vs ops o
 | _=>EH E vs ops o
def Ez (E:Env) (vs:List Tmp) (ops:List Oper):List Oper→Option (List PO)
 | []=>some []
 | o::os=>(EE E vs ops o).bind λp=>(Ez E vs ops os).map (p::·)
def Lc (E:Env) (ops:List Oper):Bool:=ops.any λo=>
 match o.op with
 | .call { callee := .value (.func f),.. }=>E.bf.contains f
 | .call { callee := .value (.tmp t),.. }=>E.bv.contains t
 | _=>false
def B9 (E:Env) (vs:List Tmp) (ops:List Oper):List Oper→Option (List PO)
 | []=>some []
 | o::os=>(CY E vs ops o).bind λp=>(B9 E vs ops os).map (p::·)
def Cz (vs:List Tmp):List Oper→Bool
 | []=>true
 | o::os=>(match o.dst with | some t=>(x5 t vs 0).isSome||os.all (λp=>p.dst != some t) | none=>true)&&Cz vs os
def xw:HOp→List PX
 | .isnil _ _ x | .nilchk x | .loadc _ _ x=>[x]
 | .barr _ ps=>ps.map (·.2.2)
 | .idxA _ _ _ x i=>[x,i]
 | .newobj _ | .newbld | .mkmap=>[]
 | .boxobj _ x | .load _ _ x _ | .mlen x | .mkarr _ _ _ _ x | .range x | .next x=>[x]
 | .clear _ x=>[x]
 | .happ _ _ _ a x | .happz _ _ _ _ a x | .store _ _ a x | .storer _ _ a x | .iaddr _ _ a x | .lookup _ _ _ _ _ a x=>[a,x]
 | .mset _ _ m k v=>[m,k,v]
 | .mkfunc _ a b=>a++b
 | .call _ xs | .bcall _ xs | .rcall _ xs | .lcall _ xs=>xs
 | .callv x xs | .bcallv x xs=>x::xs
def wQ:POp→List PX
 | .h o=>xw o
 | .mov x | .movs x | .take x | .faddr _ x | .field _ _ _ x | .sliceLoc _ x | .un _ x | .convInt _ x | .extract _ x | .len _ x | .cap x | .boxloc _ x | .b2s x | .s2b x=>[x]
 | .pick c a b=>[c,a,b]
 | .newloc _=>[]
 | .build _ ps=>ps.map (·.2.2)
 | .mkslice _ _ _ ps=>ps.map (·.2)
 | .load _ _ a _=>[a]
 | .loadv s _ _ a=>[a,.v s]
 | .store _ _ a x | .iaddrS _ a x | .iaddrA _ _ a x | .indexStr a x | .bin _ a x | .eq _ _ _ a x | .append _ _ a x | .appstr a x=>[a,x]
 | .slice _ _ x lo hi=>x::(lo.toList++hi.toList)
 | .minmax _ xs | .pcall _ xs | .pcallx _ xs _=>xs
 | .callv x xs=>x::xs
end PI
