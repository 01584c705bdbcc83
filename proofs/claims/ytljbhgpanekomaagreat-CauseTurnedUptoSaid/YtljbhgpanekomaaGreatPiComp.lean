import Derived.Test.YtljbhgpanekomaaGreatPiBase
import Derived.Calls
import Derived.Below
import Derived.Lib.Builder
import Derived.Lib.UnsafeStr
import Derived.Deep.AppendSrc
import Derived.Laws.CopyRow
import Derived.Laws.Build
import Derived.Laws.Tables
import Derived.ProofKit
import Derived.Laws.StructEq
import Derived.Laws.BytesArg
import Derived.Lib.ConvBytes
import Derived.MapKept
set_option linter.unusedSectionVars false
namespace PI
open Go
structure Env where
 P:Program
 inv:FuncId→Option Nat
 tinv:TypeId→Option Nat
 hs:List Tmp:=[]
 hf:List FuncId:=[]
 hv:List Tmp:=[]
 bT:Option TypeId:=none
 rs:List TypeId:=[]
 bf:List FuncId:=[]
 bv:List Tmp:=[]
 pt:List TypeId:=[]
 lps:List (Array Tmp×Nat×List Tmp):=[]
 sr:Bool:=false
 nl:Bool:=false
 ox:List (FuncId×Option Nat):=[]
 rf:List FuncId:=[]
 zd:List Tmp:=[]
 fr:List Tmp:=[]
 pa:List TypeId:=[]
 pz:List FuncId:=[]
def NH (f:FuncId):List (FuncId×Option Nat)→Option (Option Nat)
 | []=>none
 | p::ps=>if p.1=f then some p.2 else NH f ps
def Gj:Value→Option PV
 | .bool b=>some (.bool b)
 | .int k n=>some (.int k n)
 | .string s=>some (.str s.data.toList)
 | .pointer none=>some .nilptr
 | .slice none 0 0=>some (.list true [])
 | .map none=>some (.map none)
 | .nilFunc=>some .nilfunc
 | .nilIface=>some .nilIface
 | _=>none
def E7:List Value→Option (List PV)
 | []=>some []
 | v::vs=>(Gj v).bind λp=>(E7 vs).map (p::·)
def Gk:Value→Option PV
 | .agg cs=>(E7 cs.toList).map .agg
 | v=>Gj v
def yY (P:Program) (t:TypeId):Bool:=
 match P.underlying t with
 | some (.struct _) | some (.array _ _)=>true
 | _=>false
def yN (P:Program) (t:TypeId):Option Nat:=
 match P.info? t with
 | some i=>if i.size=0∨(P.underlying t).isNone∨(yY P t=false∧i.size≠1) then none else some i.size
 | none=>none
def zV (P:Program) (t:TypeId):Option (List PV):=
 match P.info? t with
 | some i =>
   match i.zero with
   | some z=>(E7 z.cells.toList).bind λcs=>if cs.length=i.size∧i.size≠0 then some cs else none
   | none=>none
 | none=>none
def zG (t:Tmp):List Tmp→Nat→Option Nat
 | [],_=>none
 | x::xs,i=>if x=t then some i else zG t xs (i+1)
def Gl (t:Tmp):List Oper→Nat→Option Nat
 | [],_=>none
 | o::os,i=>if o.dst=some t then some i else Gl t os (i+1)
def S6:Value→Bool
 | .slice none 0 0=>true
 | _=>false
def cx (E:Env) (vs:List Tmp) (ops:List Oper):Operand→Option PX
 | .tmp t =>
   match zG t vs 0 with
   | some i=>some (.v i)
   | none=>(Gl t ops 0).map .l
 | .const v=>if E.nl&&S6 v then some (.c .nils) else(Gk v).map .c
 | .func f=>(E.inv f).map λk => .c (.func k [] [])
 | .global _=>none
def cxs (E:Env) (vs:List Tmp) (ops:List Oper):List Operand→Option (List PX)
 | []=>some []
 | x::xs=>(cx E vs ops x).bind λp=>(cxs E vs ops xs).map (p::·)
def cxo (E:Env) (vs:List Tmp) (ops:List Oper):Option Operand→Option (Option PX)
 | none=>some none
 | some x=>(cx E vs ops x).map some
def E8 (E:Env) (vs:List Tmp) (ops:List Oper) (place:Nat→Option (Nat×Nat)):List (Nat×Operand)→Option (List (Nat×Nat×PX))
 | []=>some []
 | (i,x)::r=>(place i).bind λp=>if p.2=0 then none else(cx E vs ops x).bind λpx=>(E8 E vs ops place r).map ((p.1,p.2,px)::·)
def Et (E:Env) (vs:List Tmp) (ops:List Oper):List (Nat×Operand)→Option (List (Nat×PX))
 | []=>some []
 | (i,x)::r=>(cx E vs ops x).bind λpx=>(Et E vs ops r).map ((i,px)::·)
def Eu:POp := .mov (.c .dead)
def c8t (ox:List (FuncId×Option Nat)) (t:Tmp) (o:Oper):Bool:=
 match o.op with
 | .call { callee := .value (.func f), args, .. } => match NH f ox with
   | some (some i) => match (args[i]? : Option Operand) with
     | some (.tmp u)=>u==t
     | _=>false
   | _=>false
 | .call { callee := .builtin .append, args, .. } => match (args[0]? : Option Operand) with
   | some (.tmp u)=>u==t
   | _=>false
 | .assign (.tmp u)=>u==t&&ox.any λp=>p.1==1000000
 | _=>false
def Im (ox:List (FuncId×Option Nat)) (vs:List Tmp) (ops:List Oper) (d:Option Tmp):Bool:=
 match d with
 | some t=>(zG t vs 0).isNone&&ops.any (c8t ox t)
 | none=>false
def ekT (P:Program) (t:TypeId):Option EK:=
 match P.underlying t with
 | some .bool=>some .b
 | some (.int _)=>some .i
 | some .string=>some .s
 | _=>none
def eqFields (P:Program):List Field→Nat→Option (List EK)
 | [],_=>some []
 | f :: fs, off =>
   if f.offset=off∧f.name ≠ "_" ∧ yN P f.type=some 1∧yY P f.type=false then(ekT P f.type).bind λk=>(eqFields P fs (off+1)).map (k::·) else none
def eqT (P:Program) (t:TypeId):Option (Option (Bool×List EK)):=
 match P.underlying t with
 | some (.int _) | some .string=>some none
 | some .bool=>some (some (false,[.b]))
 | some (.struct fs) =>
   match eqFields P fs.toList 0 with
   | some ks=>if !P.stoodInHeld t && !P.eqGuardType P.depth t then some (some (true,ks)) else none
   | none=>none
 | _=>none
def yF (vs:List Tmp):Option Tmp→PD
 | none => .n
 | some t => match zG t vs 0 with
   | some i => .v i
   | none => .l
def isVar:PD→Bool
 | .v _=>true
 | _=>false
def isN:PD→Bool
 | .n=>true
 | _=>false
def S7 (E:Env) (vs:List Tmp) (ops:List Oper) (b:Builtin) (args:List Operand) (argTypes:List TypeId):Option POp:=
 match b,args,argTypes with
 | .len, [x], t :: _ =>
   match E.P.underlying t with
   | some .string=>(cx E vs ops x).map (.len true)
   | some (.slice _)=>(cx E vs ops x).map (.len false)
   | _=>none
 | .min,xs,_=>(cxs E vs ops xs).map (.minmax false)
 | .max,xs,_=>(cxs E vs ops xs).map (.minmax true)
 | .cap, [x], t :: _ =>
   match E.P.underlying t with
   | some (.slice _)=>(cx E vs ops x).map .cap
   | _=>none
 | .append, [s, x], [ts, tx] =>
   match E.P.underlying ts,E.P.underlying tx with
   | some (.slice e), some (.slice _) =>
     match yN E.P e,zV E.P e with
     | some size,some _=>(cx E vs ops s).bind λps=>(cx E vs ops x).map λpx => .append size (E.P.bytesOf e) ps px
     | _,_=>none
   | _,_=>none
 | _,_,_=>none
def NI (E:Env) (vs:List Tmp) (ops:List Oper):Nat→Operand→Bool
 | 0,_=>false
 | n + 1, .tmp t =>
   if (zG t vs 0).isSome then E.hs.contains t
   else match ops.find? (λo=>o.dst==some t) with
    | some o =>
      match o.op with
      | .move x | .assign x=>NI E vs ops n x
      | _=>false
    | none=>false
 | _,_=>false
def Io (E:Env) (vs:List Tmp) (ops:List Oper):Nat→Operand→Bool
 | 0,_=>false
 | n + 1, .tmp t =>
   if (zG t vs 0).isSome then E.hs.contains t
   else match ops.find? (λo=>o.dst==some t) with
    | some o =>
      match o.op with
      | .fieldAddr _ x _=>Io E vs ops n x
      | .indexAddr ty x _ => match E.P.underlying ty with
        | some (.slice _)=>E.rs.contains ty||NI E vs ops n x
        | _=>Io E vs ops n x
      | .move x | .assign x | .nilCheck x=>Io E vs ops n x
      | _=>true
    | none=>false
 | _,_=>false
def NJ (E:Env) (vs:List Tmp) (ops:List Oper):Nat→Operand→Bool
 | 0,_=>false
 | n + 1, .tmp t =>
   if (zG t vs 0).isSome then false
   else match ops.find? (λo=>o.dst==some t) with
    | some o =>
      match o.op with
      | .fieldAddr _ x _=>NJ E vs ops n x
      | .indexAddr ty x _ => match E.P.underlying ty with
        | some (.slice _) => !(E.rs.contains ty||NI E vs ops n x)
        | _=>NJ E vs ops n x
      | _=>false
    | none=>false
 | _,_=>false
def S8:Fn→Option FuncId
 | .func f=>some f
 | _=>none
def E9 (P:Program) (t:TypeId):Option (Bool×List EK):=
 match ekT P t with
 | some k=>some (false,[k])
 | none => match eqT P t with
   | some (some (true,ks))=>some (true,ks)
   | _=>none
def Gm (P:Program) (t:TypeId):Option PV:=
 match P.info? t with
 | some i=>i.zero.bind Gk
 | none=>none
def NK (P:Program) (t:TypeId) (y:Operand):Option Nat:=
 match P.underlying t,y with
 | some (.slice _),.const (.slice none 0 0)=>some 0
 | some (.pointer _),.const (.pointer none)=>some 1
 | some (.map _ _),.const (.map none)=>some 2
 | some (.interface _),.const .nilIface=>some 4
 | _,_=>none
def Ip:Operand→Operand→Bool
 | .tmp a,.tmp b=>a==b
 | .const (.int _ a),.const (.int _ b)=>a==b
 | _,_=>false
def mOf (E:Env) (name:String) (T:TypeId):Option (Nat×Option (Nat×Bool)):=
 match (E.P.info? T).bind (λi=>i.methods.find? (·.name==name)) with
 | some m => if m.path.isEmpty then
   match m.func,E.P.underlying T with
   | some (f,true),some (.pointer _)=>(E.inv f).map λk=>(k,none)
   | some (f,false),some (.pointer e)=>(E.inv f).bind λk=>(yN E.P e).map λn=>(k,some (n,yY E.P e))
   | _,_=>none
   else none
 | none=>none
def FH (E:Env) (name:String):List TypeId→List (Nat×Nat×Option (Nat×Bool))
 | []=>[]
 | T :: Ts => match zG T E.pt 0, mOf E name T with
   | some i,some r=>(i+1,r)::FH E name Ts
   | _,_=>FH E name Ts
def d5B (ops:List Oper) (t:Tmp):Bool:=ops.any λo=>match o.op with
 | .call { callee := .builtin .append, args, .. } => match args.toList with
   | [_,.tmp t']=>t'==t
   | _=>false
 | _=>false
def NL (E:Env) (vs:List Tmp) (ops:List Oper):Operand→Option Nat
 | .tmp t=>if E.fr.contains t then(match cx E vs ops (.tmp t) with | some (.l j)=>some j | _=>none) else none
 | _=>none
theorem c3q {E:Env} {vs:List Tmp} {ops:List Oper} {x:Operand} {j:Nat} (h:NL E vs ops x=some j):∃t,x = .tmp t∧cx E vs ops (.tmp t)=some (.l j):=by
 unfold NL at h
 split at h
 ·rename_i t
  split at h
  ·split at h
   ·rename_i j' hc
    simp only[aa] at h; subst h
    exact⟨t,rfl,hc⟩
   ·simp at h
  ·simp at h
 ·simp at h
def NM (E:Env) (vs:List Tmp) (ops:List Oper) (o:Oper):Option HOp:=
 let c:=cx E vs ops
 match o.op with
 | .alloc t=>if isN (yF vs o.dst)||(isVar (yF vs o.dst) && !E.hs.contains (o.dst.getD 0)) then none else(zV E.P t).map .newobj
 | .box t x=>if isN (yF vs o.dst)||(isVar (yF vs o.dst) && !E.hs.contains (o.dst.getD 0)) then none else(yN E.P t).bind λn=>(c x).map λp => .boxobj n p
 | .load t a => if Io E vs ops 64 a then (yN E.P t).bind fun n => (c a).map fun p => if Im E.ox vs ops o.dst && !E.pa.isEmpty && !yY E.P t then .loadn p else .load n (yY E.P t) p (Im E.ox vs ops o.dst)
   else if NJ E vs ops 64 a then(yN E.P t).bind λn=>(c a).map λp => .loadc n (yY E.P t) p else none
 | .store t a x=>if o.dst=none∧Io E vs ops 64 a then(yN E.P t).bind λn=>(c a).bind λpa=>(c x).map λpx=>if E.sr then .storer n (yY E.P t) pa px else .store n (yY E.P t) pa px else none
 | .buildSlice t len parts =>
   if E.rs.contains t && !isN (yF vs o.dst) && !d5B ops (o.dst.getD 0) then
    match E.P.underlying t with
    | some (.slice e) =>
      match yN E.P e,zV E.P e with
      | some size,some z=>if len*size≤16777216 then(Et E vs ops parts.toList).map λps => .mkrow size (yY E.P e) (if yY E.P e then .agg z else z.headD .dead) len ps else none
      | _,_=>none
    | _=>none
   else none
 | .makeMap _ none=>if isN (yF vs o.dst) then none else some .mkmap
 | .lookup t m k ok =>
   match E.P.underlying t with
   | some (.map kt e)=>(E9 E.P kt).bind λkk=>(Gm E.P e).bind λz=>(c m).bind λpm=>(c k).map λpk => .lookup ok (Im E.ox vs ops o.dst) kk.1 kk.2 z pm pk
   | _=>none
 | .mapUpdate t m k v | .insert t m k v =>
   match E.P.underlying t with
   | some (.map kt _)=>if o.dst=none then(E9 E.P kt).bind λkk=>(c m).bind λpm=>(c k).bind λpk=>(c v).map λpv => .mset kk.1 kk.2 pm pk pv else none
   | _=>none
 | .binOp op t x y _=>if op = .eql∨op = .neq then(NK E.P t y).bind λk=>(c x).map λp => .isnil k (op == .neq) p else none
 | .nilCheck x=>(c x).map .nilchk
 | .makeSlice t l c' =>
   match E.P.underlying t with
   | some (.slice e) =>
     match yN E.P e,zV E.P e with
     | some size,some z=>if isN (yF vs o.dst) || !Ip l c' then none else(c l).map λp=>if E.fr.contains (o.dst.getD 0) then .mkfresh size (yY E.P e) (E.P.bytesOf e) z p else .mkarr size (yY E.P e) (E.P.bytesOf e) z p
     | _,_=>none
   | _=>none
 | .build t parts =>
   match E.P.underlying t with
   | some (.struct fs) =>
     let js:=parts.toList.filterMap λp=>NL E vs ops p.2
     if js.isEmpty then none else
     match fs.toList.mapM (λf=>(E.P.info? f.type).map λi=>(f.offset,i.size)),zV E.P t with
     | some places,some z=>(E8 E vs ops (places.toArray[·]?) parts.toList).map λps => .buildA js z ps
     | _,_=>none
   | _=>none
 | .makeFunc fn first captured=>if isN (yF vs o.dst) then none else(S8 fn).bind λf=>(E.inv f).bind λk=>(cxs E vs ops first.toList).bind λps=>(cxs E vs ops captured.toList).map λqs => .mkfunc k ps qs
 | .call { callee := .builtin .append, args, argTypes } =>
   match args.toList,argTypes.toList with
   | [s, x], [ts, tx] =>
     if E.rs.contains ts && !isN (yF vs o.dst) && !E.pa.contains ts then
      match E.P.underlying ts,E.P.underlying tx with
      | some (.slice e), some (.slice _) =>
        match yN E.P e,zV E.P e with
        | some size,some _=>(c s).bind λps=>(c x).map λpx => .happ size (yY E.P e) (E.P.bytesOf e) ps px
        | _,_=>none
      | some (.slice e), some (.int _) =>
        match yN E.P e,zV E.P e with
        | some size,some z=>(c s).bind λps=>(c x).map λpx => .happz size (yY E.P e) (E.P.bytesOf e) z ps px
        | _,_=>none
      | _,_=>none
     else none
   | _,_=>none
 | .call { callee := .builtin .clear, args, argTypes } =>
   match args.toList,argTypes.toList with
   | [x], t :: _ => match E.P.underlying t with
     | some (.slice e)=>if isN (yF vs o.dst) then(yN E.P e).bind λsize=>(zV E.P e).bind λ_=>(c x).map λpx => .clear size px else none
     | _=>none
   | _,_=>none
 | .call { callee := .value (.func f),args,.. }=>if E.hf.contains f||E.zd.contains (o.dst.getD 0) then(E.inv f).bind λk=>(cxs E vs ops args.toList).map λps=>if E.rf.contains f then .rcall k ps else if E.zd.contains (o.dst.getD 0) then .zcall k ps else .call k ps else none
 | .call { callee := .invoke x name,args,.. }=>(c x).bind λp=>(cxs E vs ops args.toList).map λps => .icall (FH E name E.pt) p ps
 | .call { callee := .value (.tmp t),args,.. }=>if E.hv.contains t then(c (.tmp t)).bind λp=>(cxs E vs ops args.toList).map λps => .callv p ps else none
 | _=>none
def cOp (E:Env) (vs:List Tmp) (ops:List Oper) (o:Oper):Option POp:=
 let c:=cx E vs ops
 match NM E vs ops o with
 | some h=>some (.h h)
 | none=>
 match o.op with
 | .move x=>(c x).map λp=>if Im E.ox vs ops o.dst then .take p else .mov p
 | .assign x=>(c x).map .take
 | .pick x a b=>(c x).bind λpx=>(c a).bind λpa=>(c b).map λpb => .pick px pa pb
 | .alloc t=>if isVar (yF vs o.dst) then(zV E.P t).map .newloc else none
 | .box t x=>if isVar (yF vs o.dst) then(yN E.P t).bind λn=>(c x).map λp => .boxloc n p else none
 | .build t parts =>
   match E.P.underlying t,zV E.P t with
   | some (.struct fs), some z =>
     match fs.toList.mapM (λf=>(E.P.info? f.type).map λi=>(f.offset,i.size)) with
     | some places=>(E8 E vs ops (places.toArray[·]?) parts.toList).map λps => .build z ps
     | none=>none
   | _,_=>none
 | .buildSlice t len parts =>
   match E.P.underlying t with
   | some (.slice e) =>
     match yN E.P e,zV E.P e with
     | some size,some z=>if len*size≤16777216 then(Et E vs ops parts.toList).map λps => .mkslice size (if yY E.P e then .agg z else z.headD .dead) len ps else none
     | _,_=>none
   | _=>none
 | .load t a=>(yN E.P t).bind λn=>(c a).map λp => .load n (yY E.P t) p (Im E.ox vs ops o.dst)
 | .store t a x=>if o.dst=none then(yN E.P t).bind λn=>(c a).bind λpa=>(c x).map λpx => .store n (yY E.P t) pa px else none
 | .fieldAddr s x f =>
   match E.P.underlying s with
   | some (.struct fs) =>
     match fs[f]? with
     | some fd=>(yN E.P fd.type).bind λ_=>(c x).map λp => .faddr fd.offset p
     | none=>none
   | _=>none
 | .indexAddr t x i =>
   match E.P.underlying t with
   | some (.slice e)=>(yN E.P e).bind λn=>(c x).bind λpx=>(c i).map λpi => .iaddrS n px pi
   | _=>none
 | .index t x i =>
   match E.P.underlying t with
   | some .string=>(c x).bind λpx=>(c i).map λpi => .indexStr px pi
   | _=>none
 | .slice t x lo hi none =>
   match E.P.underlying t with
   | some .string=>(c x).bind λpx=>(cxo E vs ops lo).bind λpl=>(cxo E vs ops hi).map λph => .slice true 1 px pl ph
   | some (.slice e)=>(yN E.P e).bind λn=>(c x).bind λpx=>(cxo E vs ops lo).bind λpl=>(cxo E vs ops hi).map λph => .slice false n px pl ph
   | _=>none
 | .binOp op t x y _ =>
   if op = .eql∨op = .neq then
    match eqT E.P t with
    | some (some (agg,ks))=>(c x).bind λpx=>(c y).map λpy => .eq (op == .neq) agg ks px py
    | some none=>(c x).bind λpx=>(c y).map λpy => .bin op px py
    | none=>none
   else(c x).bind λpx=>(c y).map λpy => .bin op px py
 | .unOp op _ x=>(c x).map λp => .un op p
 | .convert src dst x =>
   match E.P.underlying src,E.P.underlying dst with
   | some (.int _),some (.int k)=>(c x).map λp => .convInt k p
   | _,_=>none
 | .makeInterface t x => match E.P.underlying t with
   | some (.interface _)=>none
   | some _=>(zG t E.pt 0).bind λi=>(c x).map λp => .ifc true (i+1) p
   | none=>none
 | .typeAssert x _ t false => match E.P.underlying t with
   | some (.interface _)=>none
   | some _=>(zG t E.pt 0).bind λi=>(c x).map λp => .ifc false (i+1) p
   | none=>none
 | .extract x i=>(c x).map λp => .extract i p
 | .call { callee := .builtin b,args,argTypes }=>if isN (yF vs o.dst) then none else S7 E vs ops b args.toList argTypes.toList
 | .call { callee := .value (.func f), args, .. } => (E.inv f).bind fun k => (cxs E vs ops args.toList).map fun ps => match NH f E.ox with
   | some own=>if isN (yF vs o.dst) then Eu else .pcallx k ps own
   | none=>if E.pz.contains f then .pzcall k ps else .pcall k ps
 | .call { callee := .value (.tmp t),args,.. }=>(c (.tmp t)).bind λp=>(cxs E vs ops args.toList).map λps => .callv p ps
 | _=>none
def S9 (E:Env) (vs:List Tmp) (ops:List Oper):Option (Nat×Bool)→Option (Option (PX×Bool))
 | none=>some none
 | some (j, want) =>
   match ops[j]? with
   | some o => match o.dst with
     | some t=>(cx E vs ops (.tmp t)).map λp=>some (p,want)
     | none=>none
   | none=>none
def Ci:PC := .branch [] (.c .dead) .skip .skip
def FE (E:Env) (vs:List Tmp) (ops:List Oper) (o:Oper):Option PO:=
 (S9 E vs ops o.guard).map λg=>{ dst:=yF vs o.dst,op:=(cOp E vs ops o).getD Eu,guard:=g }
def isB (o:PO):Bool:=
 match o.op with
 | .h (.bcall ..) | .h (.bcallv ..)=>true
 | _=>false
def Iq (E:Env) (vs:List Tmp) (ops:List Oper) (o:Oper):Option PO:=(FE E vs ops o).bind λp=>if isB p then none else some p
def Il (E:Env) (vs:List Tmp) (ops:List Oper) (o:Oper):Option PO:=
 match o with
 | { dst, op := .call { callee := .value (.func f), args, .. }, guard := none, .. } =>
   if E.bf.contains f then(E.inv f).bind λk=>(cxs E vs ops args.toList).map λps=>{ dst:=yF vs dst,op := .h (.bcall k ps) } else Iq E vs ops o
 | { dst, op := .call { callee := .value (.tmp t), args, .. }, guard := none, .. } =>
   if E.bv.contains t then(cx E vs ops (.tmp t)).bind λp=>(cxs E vs ops args.toList).map λps=>{ dst:=yF vs dst,op := .h (.bcallv p ps) } else Iq E vs ops o
 | _=>Iq E vs ops o
def Ig (E:Env) (vs:List Tmp) (ops:List Oper):List Oper→Option (List PO)
 | []=>some []
 | o::os=>(Il E vs ops o).bind λp=>(Ig E vs ops os).map (p::·)
def ST (E:Env) (ops:List Oper):Bool:=ops.any λo=>
 match o.op with
 | .call { callee := .value (.func f),.. }=>E.bf.contains f
 | .call { callee := .value (.tmp t),.. }=>E.bv.contains t
 | _=>false
def Er (E:Env) (vs:List Tmp) (ops:List Oper):List Oper→Option (List PO)
 | []=>some []
 | o::os=>(FE E vs ops o).bind λp=>(Er E vs ops os).map (p::·)
def E2 (vs:List Tmp):List Oper→Bool
 | []=>true
 | o::os=>(match o.dst with | some t=>(zG t vs 0).isSome||os.all (λp=>p.dst != some t) | none=>true)&&E2 vs os
def zC:HOp→List PX
 | .isnil _ _ x | .nilchk x | .loadc _ _ x=>[x]
 | .newobj _ | .mkmap=>[]
 | .boxobj _ x | .load _ _ x _ | .mkarr _ _ _ _ x=>[x]
 | .clear _ x=>[x]
 | .mkrow _ _ _ _ ps=>ps.map (·.2)
 | .mkfresh _ _ _ _ x | .loadn x=>[x]
 | .buildA js _ ps=>js.map .l++ps.map (·.2.2)
 | .happ _ _ _ a x | .happz _ _ _ _ a x | .store _ _ a x | .storer _ _ a x | .lookup _ _ _ _ _ a x=>[a,x]
 | .mset _ _ m k v=>[m,k,v]
 | .mkfunc _ a b=>a++b
 | .call _ xs | .bcall _ xs | .rcall _ xs | .zcall _ xs=>xs
 | .callv x xs | .bcallv x xs | .icall _ x xs=>x::xs
def yQ:POp→List PX
 | .h o=>zC o
 | .mov x | .take x | .faddr _ x | .un _ x | .convInt _ x | .ifc _ _ x | .extract _ x | .len _ x | .cap x | .boxloc _ x=>[x]
 | .pick c a b=>[c,a,b]
 | .newloc _=>[]
 | .build _ ps=>ps.map (·.2.2)
 | .mkslice _ _ _ ps=>ps.map (·.2)
 | .load _ _ a _=>[a]
 | .store _ _ a x | .iaddrS _ a x | .indexStr a x | .bin _ a x | .eq _ _ _ a x | .append _ _ a x=>[a,x]
 | .slice _ _ x lo hi=>x::(lo.toList++hi.toList)
 | .minmax _ xs | .pcall _ xs | .pcallx _ xs _ | .pzcall _ xs=>xs
 | .callv x xs=>x::xs
end PI
set_option linter.unusedSimpArgs false
set_option linter.unusedVariables false
namespace PI
def yR:POp→Nat
 | .h (.buildA ..) | .h (.store ..) | .h (.mset ..) | .h (.bcall ..) | .h (.bcallv ..)=>2
 | .h (.mkfunc _ a b)=>if (a++b).isEmpty then 0 else 4
 | .load _ _ _ tk=>if tk then 3 else 1
 | .store .. | .newloc _ | .boxloc .. => 2
 | _=>0
def Ap:POp→Nat
 | .h (.newobj ..) | .h (.boxobj ..) | .h (.mkarr ..) | .h (.mkrow ..) | .h (.buildA ..) | .h (.loadn ..) | .h .mkmap | .h (.call ..) | .h (.callv ..) | .h (.zcall ..) | .h (.icall ..) | .h (.bcall ..) | .h (.bcallv ..) | .h (.happ ..) | .h (.happz ..) | .h (.clear ..) | .h (.store ..) | .h (.storer ..) | .h (.mset ..)=>2
 | .h (.load _ _ _ tk)=>if tk then 2 else 1
 | .h (.lookup _ tk _ _ _ _ _)=>if tk then 2 else 1
 | .h (.rcall ..)=>1
 | _=>0
def Fb:POp→List PX
 | .h (.mkfunc _ a b)=>a++b
 | _=>[]
def A9:POp→List PX
 | .take x=>[x]
 | .append _ _ s _=>[s]
 | .h (.happ _ _ _ s _)=>[s]
 | .pcallx _ xs (some i)=>xs[i]?.toList
 | _=>[]
def AU:PX→PX→Bool
 | .v i,.v j=>i==j
 | .l i,.l j=>i==j
 | _,_=>false
def isX (d:PD) (j:Nat) (x:PX):Bool:=
 match d with
 | .v i=>AU (.v i) x
 | .l=>AU (.l j) x
 | .n=>false
def Cm (p:PO):List PX:=(match p.guard with | some (x,_)=>[x] | none=>[])++yQ p.op
def isV:PD→Bool
 | .v _=>true
 | _=>false
def Ge (j:Nat) (p q:PO):Bool:=(Cm q).all (λx => !isX p.dst j x)&&(!isV p.dst||yR q.op==0)
def FK (d d':PD):Bool:=
 match d,d' with
 | .v i,.v j=>i==j
 | _,_=>false
def Kj (jp:Nat) (p:PO) (jq:Nat) (q:PO):Bool:=
 yR p.op != 2&&yR q.op != 2 && !(yR p.op==3&&yR q.op==3) && !(yR p.op==4&&yR q.op != 0) && !(yR q.op==4&&yR p.op != 0) &&
 !(Ap p.op==2&&Ap q.op != 0) && !(Ap q.op==2&&Ap p.op != 0)&&(Fb p.op).all (λx => !(Cm q).any (AU x))&&(Fb q.op).all (λx => !(Cm p).any (AU x))&&Ge jp p q&&Ge jq q p && !FK p.dst q.dst&&(A9 p.op).all (λx => !(A9 q.op).any (AU x))
def vw:PV→PV
 | .list _ es => .list false es
 | .loc g _ => .loc g []
 | v=>v
theorem N5 (v:PV):cp v=cp (vw v):=by cases v<;>rfl
inductive Dm where
 | none
 | src (x:PX)
 | cell (s off:Nat)
 | heap (h:List PObj)
 | shut (xs:List PX)
def DY (off:Nat):PV→PV
 | .loc g cs => .loc g (cs.modify off dem)
 | v=>v
def DZ:PV→PV
 | .loc _ cs => .cptr (cs.map dem)
 | v=>v
def AV (x:PX) (st:St):St:=
 match x with
 | .v i=>{ st with vars:=st.vars.modify i DZ }
 | _=>st
def Aq:List PX→St→St
 | [],st=>st
 | x::xs,st=>Aq xs (AV x st)
def Dm.app:Dm→St→St
 | .heap h,st=>{ st with heap:=h }
 | .shut xs,st=>Aq xs st
 | .none,st=>st
 | .src (.v i),st=>{ st with vars:=st.vars.modify i dem }
 | .src (.l j),st=>{ st with locs:=st.locs.modify j dem }
 | .src (.c _),st=>st
 | .cell s off,st=>{ st with vars:=st.vars.modify s (DY off) }
def Dr (exact:Bool) (st st':St):Prop:=
 ∀(s g:Nat) (cs:List PV),st.vars[s]? = some (.loc g cs)→∃cs',st'.vars[s]? = some (.loc g cs')∧cs'.map dem=cs.map dem∧(exact=true→cs'=cs)
structure Sim (o:POp) (rs:List PX) (st st':St):Prop where
 reads:∀x∈rs,(raw st x).map vw=(raw st' x).map vw
 takes:∀x∈A9 o,∀es,raw st x=some (.list true es)↔raw st' x=some (.list true es)
 mem:1≤yR o→Dr (yR o==3) st st'
 heap:1≤Ap o→st'.heap=st.heap
section
variable {o:POp} {rs:List PX} {st st':St}
theorem Sim.rd (h:Sim o rs st st') {x:PX} (hx:x∈rs):rd st x=rd st' x:=by
 have:=h.reads x hx
 unfold PI.rd
 cases h1:raw st x<;>cases h2:raw st' x<;>simp[h1,h2] at this ⊢
 grind [N5]
theorem Sim.rdInt (h:Sim o rs st st') {x:PX} (hx:x∈rs):rdInt st x=rdInt st' x:=by
 unfold PI.rdInt; rw[h.rd hx]
theorem N6 (h:Sim o rs st st') {x:PX} (hx:x∈rs) (hm:1≤Ap o):b2U st x=b2U st' x:=by
 unfold PI.b2U
 rw[h.rd hx]
 unfold yC
 rw[h.heap hm]
def N7 (x:PX) (r:Option PV):Option PV:=
 match x,r with
 | .v i,some (.loc g _)=>some (.lptr i g 0)
 | _,some (.lptr s g off)=>some (.lptr s g off)
 | _,some v=>cp v
 | _,none=>none
theorem Kl (st:St) (x:PX):addr st x=N7 x (raw st x):=rfl
theorem c3y (x:PX) (v:PV):N7 x (some v)=N7 x (some (vw v)):=by
 cases v<;>cases x<;>rfl
theorem Sim.addr (h:Sim o rs st st') {x:PX} (hx:x∈rs):addr st x=addr st' x:=by
 have:=h.reads x hx
 rw[Kl,Kl]
 cases h1:raw st x<;>cases h2:raw st' x<;>simp[h1,h2] at this ⊢
 grind [c3y]
theorem Sim.rdAll (h:Sim o rs st st'):∀{xs:List PX},(∀x∈xs,x∈rs)→rdAll st xs=rdAll st' xs
 | [],_=>rfl
 | x :: xs, hx => by
   simp only[PI.rdAll]
   rw[h.rd (hx x (by simp)),h.rdAll (xs:=xs) (λy hy=>hx y (by simp[hy]))]
theorem Sim.rdParts (h:Sim o rs st st'):∀{xs:List (Nat×Nat×PX)},(∀x∈xs,x.2.2∈rs)→rdParts st xs=rdParts st' xs
 | [],_=>rfl
 | (a, b, x) :: xs, hx => by
   simp only[PI.rdParts]
   rw[h.rd (hx (a,b,x) (by simp)),h.rdParts (xs:=xs) (λy hy=>hx y (by simp[hy]))]
theorem Sim.rdElems (h:Sim o rs st st'):∀{xs:List (Nat×PX)},(∀x∈xs,x.2∈rs)→rdElems st xs=rdElems st' xs
 | [],_=>rfl
 | (a, x) :: xs, hx => by
   simp only[PI.rdElems]
   rw[h.rd (hx (a,x) (by simp)),h.rdElems (xs:=xs) (λy hy=>hx y (by simp[hy]))]
theorem Sim.bound (h:Sim o rs st st') {x:Option PX} (hx:∀y∈x.toList,y∈rs) (d m:Nat):bound st x d m=bound st' x d m:=by
 cases x with
 | none=>rfl
 | some y=>simp only[PI.bound]; rw[h.rdInt (hx y (by simp))]
theorem Gw {l:List PV} {i:Nat} {v:PV} (h:l[i]? = some v) (f:PV→PV):l.modify i f=l.set i (f v):=by
 apply bK
 grind
theorem N8 {l:List PV} {i:Nat} {f:PV→PV} (h:∀v,l[i]? = some v→f v=v):l.modify i f=l:=by
 apply bK
 grind
theorem N9 {x:PX} {u:PV} {st1:St} (h:tk st x=some (u,st1)):st1=(Dm.src x).app st∧∀st',(raw st x).map vw=(raw st' x).map vw→(∀es,raw st x=some (.list true es)↔raw st' x=some (.list true es))→tk st' x=some (u,(Dm.src x).app st'):=by
 have app_own:∀(st:St) (es:List PV),raw st x=some (.list true es)→D8 st x (.list false es)=(Dm.src x).app st:=by
  intro st es hr
  cases x with
  | v i=>simp only[Dm.app]; rw[Gw hr]; rfl
  | l i=>simp only[Dm.app]; rw[Gw hr]; rfl
  | c p=>rfl
 have app_id:∀(st:St),(∀v,raw st x=some v→dem v=v)→(Dm.src x).app st=st:=by
  intro st hv
  cases x with
  | v i=>simp only[Dm.app]; rw[N8 hv]
  | l i=>simp only[Dm.app]; rw[N8 hv]
  | c p=>rfl
 have dem_id:∀v:PV,(∀es,v≠.list true es)→dem v=v:=by
  intro v hv
  cases v<;>try rfl
  rename_i own es
  cases own with
  | true=>simp_all
  | false=>rfl
 unfold tk at h
 split at h
 ·grind [Option.some.injEq,Prod.mk.injEq,tk]
 ·simp only[ab,ac] at h
  obtain⟨r,ft,rfl,rfl⟩:=h
  refine⟨(app_id _ (λv' ev=>by simp_all)).symm,?_⟩
  intro st' h1 h2
  cases hv:raw st' x with
  | none=>simp_all
  | some v' =>
    have gc:cp v'=some r:=by grind [N5]
    simp_all [tk]
 grind
theorem Ty {size:Nat} {agg:Bool} {cs cs':List PV} {off:Nat} (h:cs'.map dem=cs.map dem):yh size agg cs off=yh size agg cs' off:=by
 have hl:cs'.length=cs.length:=by simpa using aI List.length h
 unfold yh
 split
 ·simp_all
 ·have hg:(cs[off]?).map dem=(cs'[off]?).map dem:=by
   have:=aI (λl=>l[off]?) h
   grind
  cases h1:cs[off]? with
  | none=>grind
  | some v => cases h2 : cs'[off]? with
    | none=>simp_all
    | some v' =>
      have:∀x,cp x=cp (dem x):=λx=>by cases x<;>rfl
      grind
def B6 (o:POp) (d:Dm):Prop:=
 match d with
 | .none=>True
 | .src x=>x∈A9 o
 | .cell _ _=>yR o=3
 | .heap _=>Ap o=2
 | .shut xs=>yR o=4∧xs=Fb o
theorem Oa:∀{xs:List PX} {st st1:St} {us:List PV},zW st xs=some (us,st1)→st1=Aq xs st ∧
  ∀st',(∀x∈xs,(raw st x).map vw=(raw st' x).map vw)→Dr false st st'→zW st' xs=some (us,Aq xs st')
 | [], st, st1, us, h => by
   simp only[zW,aa,ac] at h
   obtain⟨rfl,rfl⟩:=h
   exact ⟨rfl,λst' _ _=>rfl⟩
 | x :: xs, st, st1, us, h => by
   simp only[zW,aj,ab,ac] at h
   obtain⟨⟨v,st2⟩,h1,⟨q,st3⟩,h2,rfl,rfl⟩:=h
   obtain⟨i1,i2⟩:=Oa h2
   have one:st2=AV x st∧∀st',(raw st x).map vw=(raw st' x).map vw→Dr false st st'→By st' x=some (v,AV x st'):=by
    by_cases ll:∃i g cs,x = .v i∧raw st x=some (.loc g cs)
    ·obtain⟨i,g,cs,rfl,hr⟩:=ll
     simp only[By,hr,aa,ac] at h1
     obtain⟨rfl,rfl⟩:=h1
     have gL  := hr
     refine⟨by simp only[AV]; rw[Gw gL]; rfl,?_⟩
     intro st' _ hl
     obtain⟨cs',e1,e2,_⟩:=hl i g cs gL
     simp_all [raw,By,AV,Gw,DZ]
    ·have fS  := λi g cs e h=>ll ⟨i,g,cs,e,h⟩
     have gc:∀st:St,(∀i g cs,x = .v i→raw st x=some (.loc g cs)→False)→By st x=(rd st x).map (·,st):=by
      intro st hn
      unfold By
      split
      ·rename_i i g cs h; exact absurd h (λh=>hn i g cs rfl h)
      ·rfl
     rw[gc st fS] at h1
     simp only[ab,ac] at h1
     obtain⟨r,hr,rfl,rfl⟩:=h1
     have jh:∀st:St,(∀i g cs,x = .v i→st.vars[i]?≠some (.loc g cs))→AV x st=st:=by
      intro st hn
      cases x with
      | v i =>
        simp only[AV]
        rw[N8]
        intro u hu
        cases u<;>first|rfl|simp_all
      | l i=>rfl
      | c p=>rfl
     refine⟨(jh st (λi g cs e h=>fS i g cs e (by rw[e]; exact h))).symm,?_⟩
     intro st' hv hl
     have qJ:∀i g cs,x = .v i→st'.vars[i]?≠some (.loc g cs):=by
      intro i g cs e h
      subst e
      have h':raw st' (.v i)=some (.loc g cs):=h
      rw[h'] at hv
      cases hq:raw st (.v i) with
      | none=>simp_all
      | some u =>
        rw[hq] at hv
        simp only[aH,aa] at hv
        cases u<;>simp[vw] at hv
        simp_all
     have ml:rd st' x=some r:=by
      unfold rd at hr ⊢
      cases h3:raw st x<;>cases h4:raw st' x<;>simp[h3,h4] at hv hr ⊢
      grind [N5]
     rw[jh st' qJ,gc st' (λi g cs e h=>qJ i g cs e (by rw[e] at h; exact h))]
     simp[ml]
   obtain⟨o1,o2⟩:=one
   subst o1
   refine⟨i1,?_⟩
   intro st' hv hl
   have vv:=o2 st' (hv x (bS ..)) hl
   have iV:∀y∈xs,(raw (AV x st) y).map vw=(raw (AV x st') y).map vw:=by
    intro y hy
    have gU:=hv y (bl _ hy)
    cases x with
    | l i=>exact gU
    | c p=>exact gU
    | v i =>
      cases y with
      | l k=>exact gU
      | c p=>rfl
      | v k =>
        simp only[AV,raw,bm] at gU ⊢
        by_cases j5:i=k
        ·subst j5
         cases h3:st.vars[i]? with
         | none=>grind
         | some u =>
           rw[h3] at gU
           cases h4:st'.vars[i]? with
           | none=>simp_all
           | some u' =>
             rw[h4] at gU
             simp only[aH,aa] at gU
             simp only[if_true,Option.map_eq_map,aH,aa]
             cases u with
             | loc g cs =>
               obtain⟨cs',e1,e2,_⟩:=hl i g cs h3
               grind [DZ]
             | _=>cases u'<;>simp[vw] at gU<;>simp_all [DZ,vw]
        simp_all
   have eK:Dr false (AV x st) (AV x st'):=by
    cases x with
    | l i=>exact hl
    | c p=>exact hl
    | v i =>
      intro s g cs hs
      simp only[AV,bm] at hs ⊢
      by_cases vz:i=s
      ·subst vz
       cases h3:st.vars[i]? with
       | none=>simp_all
       | some u=>rw[h3] at hs; cases u<;>simp[DZ] at hs
      ·simp only[vz] at hs ⊢
       cases h3:st.vars[s]? with
       | none=>simp_all
       | some u =>
         rw[h3] at hs
         simp at hs; subst hs
         obtain⟨cs',e1,e2,e3⟩:=hl s g cs h3
         simp_all
   simp_all [zW,Aq]
theorem b7Q:∀(a b:List PX) (st:St),Aq (a++b) st=Aq b (Aq a st)
 | [],_,_=>rfl
 | x::a,b,st=>by simp_all [Aq,b7Q]
theorem Ob:∀{a b:List PX} {st:St},zW st (a++b)=(zW st a).bind λf=>(zW f.2 b).map λc=>(f.1++c.1,c.2)
 | [],b,st=>by simp_all [zW]
 | x :: a, b, st => by
   simp only[aK,zW,Ob (a:=a)]
   cases By st x with
   | none=>rfl
   | some r =>
     simp only[aw]
     cases zW r.2 a with
     | none=>rfl
     | some f =>
       simp only[aw,aH]
       cases zW f.2 b<;>rfl
theorem c3z {cf:yg} {k:Nat} {a b:List PX} {u:PV} {st st1:St} (h:x9 cf (.mkfunc k a b) st=some (u,st1)):
  st1=Aq (a++b) st∧∀st',(∀x∈a++b,(raw st x).map vw=(raw st' x).map vw)→Dr false st st'→x9 cf (.mkfunc k a b) st'=some (u,Aq (a++b) st'):=by
 simp only[x9,aj,ab] at h
 obtain⟨⟨f,st2⟩,h1,⟨c,st3⟩,h2,rfl,rfl⟩:=h
 have rT:zW st (a++b)=some (f++c,st3):=by simp_all [Ob]
 obtain⟨e1,e2⟩:=Oa rT
 obtain⟨e3,e4⟩:=Oa h1
 refine⟨e1,?_⟩
 intro st' hv hl
 have g2:=e2 st' hv hl
 rw[Ob,(e4 st' (λx hx=>hv x (bU _ hx)) hl)] at g2
 simp only[aw,ab] at g2
 grind [List.append_cancel_left,x9]
theorem d2e {cf:yg} {u:PV} {st1:St} (hm:yR o≠2) (dy:∀x∈yQ o,x∈rs) (h:opv cf o st=some (u,st1)):
  ∃d:Dm,st1=d.app st∧B6 o d∧∀st',Sim o rs st st'→opv cf o st'=some (u,d.app st'):=by
 have pure:st1=st→(∀st',Sim o rs st st'→opv cf o st'=(opv cf o st).map λr=>(r.1,st'))→∃d:Dm,st1=d.app st∧B6 o d∧∀st',Sim o rs st st'→opv cf o st'=some (u,d.app st'):=by
  intro e hs
  refine⟨.none,e,trivial,?_⟩
  intro st' dR
  rw[hs st' dR,h]; rfl
 cases o with
 | h o =>
   have et:Ap (.h o)=2→(∀st',st'.heap=st.heap→(∀x∈zC o,rd st x=rd st' x)→(∀x∈zC o,addr st x=addr st' x)→x9 cf o st'=(x9 cf o st).map λr=>(r.1,{ st' with heap:=r.2.heap }))→(∀u st1,x9 cf o st=some (u,st1)→st1={ st with heap:=st1.heap }) →
     ∃d:Dm,st1=d.app st∧B6 (.h o) d∧∀st',Sim (.h o) rs st st'→opv cf (.h o) st'=some (u,d.app st'):=by
    intro h2 hs he
    have h':x9 cf o st=some (u,st1):=h
    refine⟨.heap st1.heap,he _ _ h',h2,?_⟩
    intro st' dR
    show x9 cf o st'=_
    rw[hs st' (dR.heap (by omega)) (λx hx=>dR.rd (dy x hx)) (λx hx=>dR.addr (dy x hx)),h']
    rfl
   have gE:(∀u st1,x9 cf o st=some (u,st1)→st1=st)→(∀st',(1≤Ap (.h o)→st'.heap=st.heap)→(∀x∈zC o,rd st x=rd st' x)→(∀x∈zC o,addr st x=addr st' x)→x9 cf o st'=(x9 cf o st).map λr=>(r.1,st')) →
     ∃d:Dm,st1=d.app st∧B6 (.h o) d∧∀st',Sim (.h o) rs st st'→opv cf (.h o) st'=some (u,d.app st'):=by
    intro e hs
    refine pure (e _ _ h) ?_
    intro st' dR
    exact hs st' dR.heap (λx hx=>dR.rd (dy x hx)) (λx hx=>dR.addr (dy x hx))
   have rdI:∀{st st':St} {x:PX},rd st x=rd st' x→rdInt st x=rdInt st' x:=by grind [PI.rdInt]
   have rdA:∀{st st':St} {xs:List PX},(∀x∈xs,rd st x=rd st' x)→rdAll st xs=rdAll st' xs:=by
    intro st st' xs
    induction xs<;>grind [PI.rdAll]
   cases o with
   | happ size agg by' a x =>
     have h':x9 cf (.happ size agg by' a x) st=some (u,st1):=h
     simp only[x9] at h'
     split at h'
     ·rename_i xs n sz ag len hx oO
      have key:∀st',Sim (.h (.happ size agg by' a x)) rs st st'→b2U st' x=some xs∧raw st' a=some (.rowp n sz ag len)∧st'.heap=st.heap:=by
       intro st' dR
       refine⟨by grind [N6,yQ,zC,Ap],?_,dR.heap (by simp[Ap])⟩
       have:=dR.reads a (dy a (by simp[yQ,zC]))
       rw[oO] at this
       cases gL:raw st' a with
       | none=>rw[gL] at this; simp at this
       | some v' =>
         rw[gL] at this
         cases v'<;>simp[vw] at this
         grind
      split at h'
      ·rename_i cs dO
       split at h'
       ·rename_i hc
        simp only[aa,ac] at h'
        obtain⟨rfl,rfl⟩:=h'
        refine⟨.heap _,rfl,rfl,?_⟩
        intro st' dR
        obtain⟨k1,k2,k3⟩:=key st' dR
        simp only[opv,x9,k1,k2,k3,dO]
        rw[ai hc]
        rfl
       ·simp at h'
      ·simp at h'
     ·rename_i xs hx oO
      have key:∀st',Sim (.h (.happ size agg by' a x)) rs st st'→b2U st' x=some xs∧raw st' a=some (.list true [])∧st'.heap=st.heap:=by
       intro st' dR
       exact ⟨by grind [N6,yQ,zC,Ap],(dR.takes a (by simp[A9]) []).1 oO,dR.heap (by simp[Ap])⟩
      split at h'
      ·rename_i jz
       simp only[aa,ac] at h'
       obtain⟨rfl,rfl⟩:=h'
       refine⟨.heap st.heap,rfl,rfl,?_⟩
       intro st' dR
       obtain⟨k1,k2,k3⟩:=key st' dR
       simp only[opv,x9,k1,k2,k3]
       rw[ai jz]
       simp only[Dm.app,← k3]
      ·rename_i jz
       split at h'
       ·rename_i hc
        simp only[aa,ac] at h'
        obtain⟨rfl,rfl⟩:=h'
        refine⟨.heap _,rfl,rfl,?_⟩
        intro st' dR
        obtain⟨k1,k2,k3⟩:=key st' dR
        simp only[opv,x9,k1,k2,k3]
        rw[ae jz,ai hc]
        rfl
       ·simp at h'
     ·rename_i xs hx oO
      have key:∀st',Sim (.h (.happ size agg by' a x)) rs st st'→b2U st' x=some xs∧raw st' a=some .nils∧st'.heap=st.heap:=by
       intro st' dR
       refine⟨by grind [N6,yQ,zC,Ap],?_,dR.heap (by simp[Ap])⟩
       have:=dR.reads a (dy a (by simp[yQ,zC]))
       rw[oO] at this
       cases gL:raw st' a with
       | none=>rw[gL] at this; simp at this
       | some v' =>
         rw[gL] at this
         cases v'<;>simp[vw] at this
         rfl
      split at h'
      ·rename_i jz
       simp only[aa,ac] at h'
       obtain⟨rfl,rfl⟩:=h'
       refine⟨.heap st.heap,rfl,rfl,?_⟩
       intro st' dR
       obtain⟨k1,k2,k3⟩:=key st' dR
       simp only[opv,x9,k1,k2,k3]
       rw[ai jz]
       simp only[Dm.app,← k3]
      ·rename_i jz
       split at h'
       ·rename_i hc
        simp only[aa,ac] at h'
        obtain⟨rfl,rfl⟩:=h'
        refine⟨.heap _,rfl,rfl,?_⟩
        intro st' dR
        obtain⟨k1,k2,k3⟩:=key st' dR
        simp only[opv,x9,k1,k2,k3]
        rw[ae jz,ai hc]
        rfl
       ·simp at h'
     ·simp at h'
   | happz size agg by' z a x =>
     refine et rfl (λst' hh hr _ =>?_) (λu st1 h =>?_)
     ·simp only[x9,hh,← rdI (hr x (by simp[zC])),← hr a (by simp[zC])]
      (repeat' split)<;>rfl
     grind [x9]
   | clear size x =>
     refine et rfl (λst' hh hr _ =>?_) (λu st1 h =>?_)
     ·simp only[x9,hh,← hr x (by simp[zC])]
      (repeat' split)<;>rfl
     grind [x9]
   | mkarr size agg by' z x =>
     refine et rfl (λst' hh hr _ =>?_) (λu st1 h =>?_)
     ·simp only[x9,hh,← rdI (hr x (by simp[zC]))]
      (repeat' split)<;>rfl
     grind [x9]
   | storer size agg a x =>
     refine et rfl (λst' hh hr ha =>?_) (λu st1 h =>?_)
     ·have hg:∀n,yC st' n=yC st n:=λn=>by unfold yC; rw[hh]
      simp only[x9,← ha a (by simp[zC]),← hr x (by simp[zC]),hg]
      split
      ·rename_i n off v _ _
       split
       ·rfl
       ·cases yC st n with
        | none=>rfl
        | some cs =>
          simp only[aw]
          cases yB size agg cs off v<;>grind [yB,yw]
      ·rfl
     ·simp only[x9] at h
      split at h
      ·split at h
       ·simp at h
       ·simp only[aj,ab,ac] at h
        obtain⟨_,_,_,_,_,e⟩:=h
        rw[← e]; rfl
      ·simp at h
   | store size agg a x=>simp[yR] at hm
   | mset kagg ks m k v=>simp[yR] at hm
   | mkfunc k a b =>
     obtain⟨e1,e2⟩:=c3z (st:=st) (by simpa[opv] using h)
     by_cases qK:(a++b).isEmpty=true
     ·have rT:a++b=[]:=by simpa using qK
      rw[rT] at e1 e2
      refine⟨.none,e1,trivial,?_⟩
      intro st' hs
      have:a=[]∧b=[]:=by simpa using rT
      obtain⟨rfl,rfl⟩:=this
      have h':x9 cf (.mkfunc k [] []) st=some (u,st1):=h
      simp only[x9,zW,aw,aH,aa,ac] at h'
      obtain⟨rfl,_⟩:=h'
      rfl
     ·have vA:yR (.h (.mkfunc k a b))=4:=by simp only[yR,qK,if_false]; rfl
      refine⟨.shut (a++b),e1,⟨vA,rfl⟩,?_⟩
      intro st' hs
      have hl:=hs.mem (by omega)
      rw[vA] at hl
      exact e2 st' (λx hx=>hs.reads x (dy x hx)) hl
   | newobj z=>exact et rfl (λst' hh _ _=>by simp only[x9,hh]; rfl) (λu st1 h=>by grind [x9,Option.some.injEq,Prod.mk.injEq])
   | mkmap=>exact et rfl (λst' hh _ _=>by simp only[x9,hh]; rfl) (λu st1 h=>by grind [x9,Option.some.injEq,Prod.mk.injEq])
   | buildA js z ps=>simp[yR] at hm
   | mkfresh size agg by' z x =>
     refine gE (λu st1 h =>?_) (λst' _ hr _ =>?_)
     ·grind [x9]
     ·simp only[x9,← rdI (hr x (by simp[zC]))]
      (repeat' split)<;>rfl
   | loadn x =>
     refine et rfl (λst' hh hr ha =>?_) (λu st1 h =>?_)
     ·simp only[x9,yC,yw,hh,← ha x (by simp[zC])]
      cases addr st x with
      | none=>rfl
      | some v =>
        cases v<;>try rfl
        rename_i n off
        simp only
        cases st.heap[n]? with
        | none=>rfl
        | some ob =>
          cases ob<;>try rfl
          rename_i cs
          simp only[aw]
          cases cs[off]? with
          | none=>rfl
          | some y =>
            cases y<;>try rfl
            ·grind
            ·simp only[aH,← hh]
     ·simp only[x9] at h
      split at h
      ·simp only[aj] at h
       obtain⟨cs,_,h⟩:=h
       split at h
       ·simp only[aa,ac] at h; rw[← h.2]; rfl
       ·simp only[aa,ac] at h; rw[← h.2]
       ·simp at h
      ·simp at h
   | mkrow size agg z len ps =>
     refine et rfl (λst' hh hr _ =>?_) (λu st1 h =>?_)
     ·have key:∀ps:List (Nat×PX),(∀x∈ps.map (·.2),rd st x=rd st' x)→rdElems st ps=rdElems st' ps:=by
       intro ps
       induction ps<;>grind [PI.rdElems]
      have e:=key ps (λx hx=>hr x (by simpa[zC] using hx))
      simp only[x9,hh,← e,aO]
      rfl
     grind [x9,Option.map_eq_some_iff,Prod.mk.injEq]
   | boxobj n x =>
     refine et rfl (λst' hh hr _ =>?_) (λu st1 h =>?_)
     ·simp only[x9,hh,← hr x (by simp[zC])]
      (repeat' split)<;>rfl
     grind [x9]
   | zcall k args =>
     refine et rfl (λst' hh hr _ =>?_) (λu st1 h =>?_)
     ·have e:rdAll st args=rdAll st' args:=rdA hr
      simp only[x9,hh,← e]
      cases rdAll st args with
      | none=>rfl
      | some vs =>
        simp only[aw]
        split
        ·cases cf k (BL st.heap vs) []<;>simp
        ·rfl
     ·simp only[x9,aj] at h
      grind [Option.bind_eq_some_iff,Option.some.injEq,Prod.mk.injEq]
   | call k args =>
     refine et rfl (λst' hh hr _ =>?_) (λu st1 h =>?_)
     ·have e:rdAll st args=rdAll st' args:=rdA hr
      simp only[x9,hh,← e]
      cases rdAll st args with
      | none=>rfl
      | some vs=>simp only[aw,aO]; rfl
     ·simp only[x9,aj,ab,ac] at h
      grind
   | rcall k args =>
     refine gE (λu st1 h =>?_) (λst' hh hr _ =>?_)
     ·simp only[x9,aj,same] at h
      grind
     ·have e:rdAll st args=rdAll st' args:=rdA hr
      simp only[x9,hh (by simp[Ap]),← e]
      cases rdAll st args with
      | none=>rfl
      | some vs =>
        simp only[aw]
        cases cf k vs st.heap<;>grind [same,Ap]
   | icall tab x args =>
     have key:∀st':St,st'.heap=st.heap→∀y,BU st' tab y=BU st tab y:=by
      intro st' hh y
      unfold BU
      split
      ·simp only[CH,yC,hh]
      ·rfl
     refine et rfl (λst' hh hr _ =>?_) (λu st1 h =>?_)
     ·have e:=rdA (xs:=args) (st':=st') (λy hy=>hr y (by simp only[zC]; exact bl _ hy))
      simp only[x9,hh,key st' hh,← hr x (by simp[zC]),← e]
      cases BU st tab (rd st x) with
      | none=>rfl
      | some m =>
        simp only[aw]
        cases rdAll st args with
        | none=>rfl
        | some vs=>simp only[aw,aO]; rfl
     ·simp only[x9,aj,ab,ac] at h
      grind
   | bcall k args=>simp[opv,x9] at h
   | bcallv x args=>simp[opv,x9] at h
   | callv x args =>
     refine et rfl (λst' hh hr _ =>?_) (λu st1 h =>?_)
     ·have e:=rdA (xs:=args) (st':=st') (λy hy=>hr y (by simp only[zC]; exact bl _ hy))
      simp only[x9,hh,← hr x (by simp[zC]),← e]
      split
      ·simp only[aO]; rfl
      ·rfl
     ·simp only[x9] at h
      grind [Option.map_eq_some_iff,Prod.mk.injEq]
   | isnil kd neg x =>
     refine gE (λu st1 h =>?_) (λst' _ hr _ =>?_)
     ·grind [x9,Option.map_eq_some_iff,Prod.mk.injEq]
     ·simp only[x9,← hr x (by simp[zC]),aO]; rfl
   | nilchk x =>
     refine gE (λu st1 h =>?_) (λst' _ _ ha =>?_)
     ·grind [x9]
     ·simp only[x9,← ha x (by simp[zC])]
      (repeat' split)<;>rfl
   | loadc size agg a =>
     refine gE (λu st1 h =>?_) (λst' _ hr _ =>?_)
     ·simp only[x9] at h
      grind [Option.map_eq_some_iff,Prod.mk.injEq]
     ·simp only[x9,← hr a (by simp[zC])]
      split
      ·simp only[aO]; rfl
      ·rfl
   | load size agg a tkn =>
     by_cases d9:tkn=true
     ·subst d9
      refine et rfl (λst' hh _ ha =>?_) (λu st1 h =>?_)
      ·simp only[x9,← ha a (by simp[zC]),yC,hh,yw]
       split
       ·cases yh size agg _ 0<;>simp<;>rw[← hh]
       ·split
        ·simp only[aw]
         split
         ·simp[hh]
         ·cases yh size agg _ _<;>simp<;>rw[← hh]
        ·rfl
       ·rfl
      ·simp only[x9] at h
       split at h
       ·simp only[ab,ac] at h
        obtain⟨_,_,_,e⟩:=h; rw[← e]
       ·simp only[aj] at h
        obtain⟨cs,_,h⟩:=h
        split at h
        ·simp only[aa,ac] at h; rw[← h.2]; rfl
        ·simp only[ab,ac] at h
         obtain⟨_,_,_,e⟩:=h; rw[← e]
       ·simp at h
     ·have oq:tkn=false:=by simpa using d9
      subst oq
      refine gE (λu st1 h =>?_) (λst' hh _ ha =>?_)
      ·simp only[x9] at h
       split at h<;>grind [Option.map_eq_some_iff,Prod.mk.injEq,Option.bind_eq_some_iff]
      ·simp only[x9,← ha a (by simp[zC]),yC,hh (by simp[Ap]),cd]
       split
       ·simp only[aO]; rfl
       ·split
        ·simp only[aw,aO]; rfl
        ·rfl
       ·rfl
   | lookup ok tkn kagg ks zero m x =>
     by_cases d9:tkn=true
     ·subst d9
      refine et rfl (λst' hh hr _ =>?_) (λu st1 h =>?_)
      ·have oQ:∀n,zi st' n=zi st n:=λn=>by unfold zi; rw[hh]
       simp only[x9,← hr m (by simp[zC]),← hr x (by simp[zC]),oQ,hh,yw]
       split
       ·rename_i n k _ _
        cases zi st n with
        | none=>rfl
        | some es =>
          simp only[aw]
          cases zu kagg ks k es 0 with
          | none=>rfl
          | some r =>
            cases r with
            | none=>simp; rw[← hh]
            | some iv =>
              simp only[aw]
              split
              ·simp
              ·simp; rw[← hh]
       ·rfl
      ·simp only[x9] at h
       split at h
       ·simp only[aj] at h
        obtain⟨es,_,r,_,h⟩:=h
        split at h
        ·split at h
         ·simp only[aa,ac] at h; rw[← h.2]; rfl
         ·simp only[aa,ac] at h; rw[← h.2]
        ·simp only[aa,ac] at h; rw[← h.2]
       ·simp at h
     ·have oq:tkn=false:=by simpa using d9
      subst oq
      refine gE (λu st1 h =>?_) (λst' hh hr _ =>?_)
      ·simp only[x9] at h
       split at h<;>grind [Option.bind_eq_some_iff]
      ·have oQ:∀n,zi st' n=zi st n:=λn=>by unfold zi; rw[hh (by simp[Ap])]
       simp only[x9,← hr m (by simp[zC]),← hr x (by simp[zC]),oQ,cd]
       split
       ·rename_i n k _ _
        cases zi st n with
        | none=>rfl
        | some es =>
          simp only[aw]
          cases zu kagg ks k es 0<;>grind
       ·rfl
 | store size agg a x=>simp[yR] at hm
 | newloc z=>simp[yR] at hm
 | boxloc n x=>simp[yR] at hm
 | take x =>
   obtain⟨h1,h2⟩:=N9 (st:=st) (by simpa[opv] using h)
   refine⟨.src x,h1,by simp[B6,A9],?_⟩
   intro st' hs
   simpa[opv] using h2 st' (hs.reads x (dy x (by simp[yQ]))) (hs.takes x (by simp[A9]))
 | append size bytes s x =>
   simp only[opv] at h
   split at h
   ·rename_i xs es st2 hr ht
    split at h
    ·rename_i hc
     simp only[aa,ac] at h
     obtain⟨rfl,rfl⟩:=h
     obtain⟨h1,h2⟩:=N9 ht
     refine⟨.src s,h1,by simp[B6,A9],?_⟩
     intro st' hs
     have mf:=h2 st' (hs.reads s (dy s (by simp[yQ]))) (hs.takes s (by simp[A9]))
     have gL:(rd st' x).bind Dv=some xs:=by rw[← hs.rd (dy x (by simp[yQ]))]; exact hr
     simp only[opv,gL,mf,ai hc]
    ·simp at h
   ·simp at h
 | load size agg a tkn =>
   simp only[opv] at h
   have ha:∀st',Sim (.load size agg a tkn) rs st st'→addr st' a=addr st a:=λst' hs=>(hs.addr (dy a (by simp[yQ]))).symm
   split at h
   ·rename_i cs dV
    refine pure (by grind [Option.map_eq_some_iff,Prod.mk.injEq]) ?_
    intro st' hs
    simp only[opv,ha st' hs,dV,aO]
    rfl
   ·rename_i s g off dV
    split at h
    ·rename_i g' cs hv
     split at h
     ·rename_i hg
      subst hg
      split at h
      ·rename_i es d9 hcell
       simp only[aa,ac] at h
       obtain⟨rfl,rfl⟩:=h
       simp only[ao,bD] at d9
       have app:∀st:St,st.vars[s]? = some (.loc g cs)→{ st with vars:=st.vars.set s (.loc g (cs.set off (.list false es))) }=(Dm.cell s off).app st:=by
        intro st hv
        simp only[Dm.app]
        rw[Gw hv]
        simp only[DY]
        rw[Gw hcell]
        rfl
       refine⟨.cell s off,app st hv,by simp[B6,yR,d9.1],?_⟩
       intro st' hs
       obtain⟨cs',h1,_,h3⟩:=hs.mem (by simp[yR,d9.1]) s g cs hv
       simp_all [yR,opv,if_true,Bool.not_false,Bool.and_self]
      ·rename_i fS
       refine pure (by grind [Option.map_eq_some_iff,Prod.mk.injEq]) ?_
       intro st' hs
       obtain⟨cs',h1,h2,h3⟩:=hs.mem (by simp[yR]; split<;>omega) s g cs hv
       simp only[opv,ha st' hs,dV,h1,hv,if_true]
       have tR:=Ty (size:=size) (agg:=agg) (off:=off) h2
       cases ot:tkn with
       | false=>simp[ot,← tR]; rfl
       | true =>
         have:cs'=cs:=h3 (by simp[yR,ot])
         subst this
         subst ot
         split
         ·simp_all
         ·simp; rfl
     ·simp at h
    ·simp at h
   ·simp at h
 | mov x =>
   refine pure (by simp only[opv,ab,ac] at h; obtain⟨_,_,_,e⟩:=h; exact e.symm) ?_
   intro st' hs
   simp only[opv,← hs.rd (dy x (by simp[yQ])),aO]; rfl
 | pick c x y =>
   refine pure (by simp only[opv] at h; split at h<;>simp at h; obtain⟨_,_,_,e⟩:=h; exact e.symm) ?_
   intro st' hs
   simp only[opv,← hs.rd (dy c (by simp[yQ])),← hs.rd (dy x (by simp[yQ])),← hs.rd (dy y (by simp[yQ]))]
   split
   ·rename_i t _
    cases t
    ·simp only[aL,if_false,← hs.rd (dy y (by simp[yQ])),aO]; rfl
    ·simp only[if_true,← hs.rd (dy x (by simp[yQ])),aO]; rfl
   ·rfl
 | build z ps =>
   refine pure (by simp only[opv,ab,ac] at h; obtain⟨_,_,_,e⟩:=h; exact e.symm) ?_
   intro st' hs
   simp only[opv,← hs.rdParts (xs:=ps) (λx hx=>dy _ (by simp only[yQ]; exact List.mem_map_of_mem hx)),aO]; rfl
 | mkslice size z len ps =>
   refine pure (by simp only[opv,ab,ac] at h; obtain⟨_,_,_,e⟩:=h; exact e.symm) ?_
   intro st' hs
   simp only[opv,← hs.rdElems (xs:=ps) (λx hx=>dy _ (by simp only[yQ]; exact List.mem_map_of_mem hx)),aO]; rfl
 | faddr off x =>
   refine pure (by simp only[opv] at h; split at h<;>simp at h<;>exact h.2.symm) ?_
   intro st' hs
   simp only[opv,← hs.addr (dy x (by simp[yQ]))]
   split<;>rfl
 | iaddrS size x i =>
   refine pure (by simp only[opv] at h; grind) ?_
   intro st' hs
   simp only[opv,← hs.rd (dy x (by simp[yQ])),← hs.rdInt (dy i (by simp[yQ]))]
   (repeat' split)<;>rfl
 | indexStr x i =>
   refine pure (by simp only[opv] at h; grind) ?_
   intro st' hs
   simp only[opv,← hs.rd (dy x (by simp[yQ])),← hs.rdInt (dy i (by simp[yQ]))]
   (repeat' split)<;>rfl
 | slice str size x lo hi =>
   have mD:∀y∈lo.toList,y∈rs:=λy hy=>dy y (by simp_all [yQ,aA,ay])
   have xu:∀y∈hi.toList,y∈rs:=λy hy=>dy y (by simp_all [yQ,aA,ay])
   refine pure (by
    simp only[opv] at h
    split at h
    ·grind [Option.bind_eq_some_iff,Option.map_eq_some_iff,Prod.mk.injEq]
    ·split at h
     ·simp only[aj,ab,ac] at h
      obtain⟨_,_,_,_,_,e⟩:=h; exact e.symm
     ·simp at h
    ·simp only[aj,ab,ac] at h
     obtain⟨_,_,_,_,_,e⟩:=h; exact e.symm
    ·split at h
     ·simp only[aj,ab,ac] at h
      obtain⟨_,_,_,_,_,e⟩:=h; exact e.symm
     ·simp at h
    ·simp at h) ?_
   intro st' hs
   simp only[opv,← hs.rd (dy x (by simp[yQ])),← hs.bound mD,← hs.bound xu]
   split
   ·simp only[Option.map_bind,Function.comp_def,aO]
   ·split
    ·simp only[Option.map_bind,Function.comp_def,aO]
    ·rfl
   ·simp only[Option.map_bind,Function.comp_def,aO]
   ·split
    ·simp only[Option.map_bind,Function.comp_def,aO]
    ·rfl
   ·rfl
 | bin op x y =>
   refine pure (by simp only[opv] at h; split at h<;>simp at h; obtain⟨_,_,_,e⟩:=h; exact e.symm) ?_
   intro st' hs
   simp only[opv,← hs.rd (dy x (by simp[yQ])),← hs.rd (dy y (by simp[yQ]))]
   split
   ·simp only[aO]; rfl
   ·rfl
 | eq neg agg ks x y =>
   refine pure (by
    simp only[opv] at h
    grind [Option.map_eq_some_iff,Prod.mk.injEq]) ?_
   intro st' hs
   simp only[opv,← hs.rd (dy x (by simp[yQ])),← hs.rd (dy y (by simp[yQ]))]
   split
   ·simp only[aO]; rfl
   ·rfl
 | un op x =>
   refine pure (by simp only[opv] at h; split at h<;>simp at h; obtain⟨_,_,_,e⟩:=h; exact e.symm) ?_
   intro st' hs
   simp only[opv,← hs.rd (dy x (by simp[yQ]))]
   split
   ·simp only[aO]; rfl
   ·rfl
 | convInt k x =>
   refine pure (by simp only[opv,ab,ac] at h; obtain⟨_,_,_,e⟩:=h; exact e.symm) ?_
   intro st' hs
   simp only[opv,← hs.rdInt (dy x (by simp[yQ])),aO]; rfl
 | ifc mk t x =>
   refine pure (by
    simp only[opv] at h
    grind) ?_
   intro st' hs
   simp only[opv,← hs.rd (dy x (by simp[yQ]))]
   grind
 | extract i x =>
   refine pure (by
    simp only[opv] at h
    grind [Option.map_eq_some_iff,Prod.mk.injEq]) ?_
   intro st' hs
   simp only[opv,← hs.rd (dy x (by simp[yQ]))]
   split
   ·simp only[aO]; rfl
   ·rfl
 | len str x =>
   refine pure (by simp only[opv] at h; split at h<;>simp at h<;>exact h.2.symm) ?_
   intro st' hs
   simp only[opv,← hs.rd (dy x (by simp[yQ]))]
   split<;>rfl
 | cap x =>
   refine pure (by simp only[opv] at h; split at h<;>simp at h<;>exact h.2.symm) ?_
   intro st' hs
   simp only[opv,← hs.rd (dy x (by simp[yQ]))]
   split<;>rfl
 | minmax mx xs =>
   refine pure (by simp only[opv] at h; split at h<;>simp at h; obtain⟨_,_,_,e⟩:=h; exact e.symm) ?_
   intro st' hs
   simp only[opv,← hs.rdAll (xs:=xs) (λx hx=>dy x (by simpa[yQ] using hx))]
   split
   ·simp only[aO]; rfl
   ·rfl
 | pcall k xs =>
   refine pure (by simp only[opv] at h; grind) ?_
   intro st' hs
   simp only[opv,← hs.rdAll (xs:=xs) (λx hx=>dy x (by simpa[yQ] using hx))]
   (repeat' split)<;>rfl
 | pzcall k xs =>
   refine pure (by simp only[opv] at h; grind) ?_
   intro st' hs
   simp only[opv,← hs.rdAll (xs:=xs) (λx hx=>dy x (by simpa[yQ] using hx))]
   (repeat' split)<;>rfl
 | pcallx k xs own =>
   cases own with
   | none =>
     refine pure (by simp only[opv] at h; grind) ?_
     intro st' hs
     simp only[opv,← hs.rdAll (xs:=xs) (λx hx=>dy x (by simpa[yQ] using hx))]
     (repeat' split)<;>rfl
   | some i =>
     simp only[opv] at h
     split at h
     ·rename_i v st2 us ht eF
      split at h
      ·rename_i cX
       split at h
       ·rename_i r h' hc
        split at h
        ·rename_i hr
         simp only[aa,ac] at h
         obtain⟨rfl,rfl⟩:=h
         simp only[aj] at ht
         obtain⟨x,hx,ht⟩:=ht
         have xw:x∈xs:=ax hx
         obtain⟨h1,h2⟩:=N9 ht
         refine⟨.src x,h1,by simp[B6,A9,hx],?_⟩
         intro st' hs
         have mf:=h2 st' (hs.reads x (dy x (by simpa[yQ] using xw))) (hs.takes x (by simp[A9,hx]))
         simp only[opv,hx,aw,mf,← hs.rdAll (xs:=xs) (λx hx=>dy x (by simpa[yQ] using hx)),eF,ai cX,hc,ai hr]
        ·simp at h
       ·simp at h
      ·simp at h
     ·simp at h
 | callv x xs =>
   refine pure (by simp only[opv] at h; grind) ?_
   intro st' hs
   simp only[opv,← hs.rd (dy x (by simp[yQ])),← hs.rdAll (xs:=xs) (λy hy=>dy y (by simp only[yQ]; exact bl _ hy))]
   (repeat' split)<;>rfl
end
end PI
namespace PI
open Go (IntKind BinOp UnOp Value Addr World Obj Program FuncId TypeId Act Operand undef)
structure YL where
 fn:FuncId
 params:Array Go.Tmp
 assign:Go.Code
 body:Go.Code
 vars:List Go.Tmp
 nt:Nat
structure Nm where
 fn:Nat→FuncId
 ty:Nat→TypeId
 tabs:List (Nat×Nat×Value):=[]
 rows:List (Nat×TypeId×Nat):=[]
 bT:TypeId:=0
 bE:TypeId:=0
 yl:Nat→Option YL:=λ_=>none
inductive Key where
 | var (i:Nat)
 | loc (j:Nat)
 | vcell (i k:Nat)
 | hobj (n:Nat)
 | hcell (n k:Nat)
 deriving DecidableEq
structure GS where
 fix:Nat→Nat→Prop
 heap:Nat→Option Nat
 box:Nat→Option Nat
 ow:Nat→Option Key
 df:List Go.Deferred:=[]
def Bj (w:World) (b:Nat):Option (FuncId×Array Value×Array Go.Tmp×Go.Code×Go.Code):=
 match w.heap[b]? with
 | some (.loop r)=>some (r.fn,r.tmps,r.params,r.assign,r.body)
 | _=>none
def ShapeLe (w w':World):Prop:=(∀(b:Nat) (s:TypeId×Nat),w.shape? b=some s→w'.shape? b=some s)∧∀b s,Bj w b=some s→Bj w' b=some s
theorem ShapeLe.refl (w:World):ShapeLe w w:=⟨λ_ _ h=>h,λ_ _ h=>h⟩
theorem ShapeLe.trans {a b c:World} (h:ShapeLe a b) (k:ShapeLe b c):ShapeLe a c:=⟨λx s hx=>k.1 x s (h.1 x s hx),λx s hx=>k.2 x s (h.2 x s hx)⟩
theorem T4 {w:World} {b:Nat} {s} (h:Bj w b=some s):b<w.heap.size:=by
 unfold Bj at h
 split at h
 ·rename_i h1; exact(aZ.1 h1).1
 ·simp at h
theorem Oo {w:World} {b:Nat} {cs T fz} (h:w.heap[b]? = some (.cells cs T fz)):Bj w b=none:=by
 unfold Bj; rw[h]
theorem T5 {w:World} {b:Nat} {s:TypeId×Nat} (h:w.shape? b=some s):b<w.heap.size:=by
 unfold World.shape? at h
 split at h
 ·rename_i h1; exact(aZ.1 h1).1
 ·simp at h
theorem ShapeLe.same {w w':World} (h:∀k,k<w.heap.size→w'.heap[k]? = w.heap[k]?):ShapeLe w w':=by
 refine⟨?_,?_⟩
 ·intro b s hb
  have:=h b (T5 hb)
  unfold World.shape? at hb ⊢
  rw[this]; exact hb
 ·intro b s hb
  have:=h b (T4 hb)
  unfold Bj at hb ⊢
  rw[this]; exact hb
theorem ShapeLe.one {w w':World} (x:Nat) (h:∀k,k<w.heap.size→k≠x→w'.heap[k]? = w.heap[k]?) (hx:∀s,w.shape? x=some s→w'.shape? x=some s) (hl:∀s,Bj w x=some s→Bj w' x=some s):ShapeLe w w':=by
 refine⟨?_,?_⟩
 ·intro b s hb
  by_cases he:b=x
  ·subst he; exact hx s hb
  ·have:=h b (T5 hb) he
   unfold World.shape? at hb ⊢
   rw[this]; exact hb
 ·intro b s hb
  by_cases he:b=x
  ·subst he; exact hl s hb
  ·have:=h b (T4 hb) he
   unfold Bj at hb ⊢
   rw[this]; exact hb
inductive VR (N:Nm) (w:World) (fix:Nat→Nat→Prop) (hp:Nat→Option Nat):Value→PV→Prop where
 | bool (b:Bool):VR N w fix hp (.bool b) (.bool b)
 | int (k:IntKind) (n:Int):VR N w fix hp (.int k n) (.int k n)
 | str (s:ByteArray):VR N w fix hp (.string s) (.str s.data.toList)
 | nils (own:Bool):VR N w fix hp (.slice none 0 0) (.list own [])
 | void (own:Bool) (a:Addr) (cap:Nat):VR N w fix hp (.slice (some a) 0 cap) (.list own [])
 | nils':VR N w fix hp (.slice none 0 0) .nils
 | void' (a:Addr) (cap:Nat):VR N w fix hp (.slice (some a) 0 cap) .void
 | list (own : Bool) (b off len cap sz : Nat) (es : List PV) (cv : Nat → Value) (cS : es.length = len) (db : len ≤ cap)
   (dc:∀e∈es,e.cells.length=sz) (cY:∀e∈es,∀x∈e.cells,x.flat=true)
   (hcell:∀k,k<len*sz→w.cell? ⟨b,off+k,none⟩=some (cv k)∧fix b (off+k))
   (cZ:∀(i:Nat) (e:PV),es[i]? = some e→∀(j:Nat) (x:PV),e.cells[j]? = some x→VR N w fix hp (cv (i*sz+j)) x):
   VR N w fix hp (.slice (some ⟨b,off,none⟩) len cap) (.list own es)
 | agg (cs : Array Value) (ps : List PV) (cS : cs.size = ps.length) (cY : ∀ x ∈ ps, x.flat = true)
   (fg:∀(i:Nat) (c:Value) (es:List PV),cs[i]? = some c→ps[i]? = some (.list true es)→c = .slice none 0 0)
   (cZ:∀(i:Nat) (c:Value) (p:PV),cs[i]? = some c→ps[i]? = some p→VR N w fix hp c p):VR N w fix hp (.agg cs) (.agg ps)
 | tuple (cs : Array Value) (ps : List PV) (cS : cs.size = ps.length)
   (cZ:∀(i:Nat) (c:Value) (p:PV),cs[i]? = some c→ps[i]? = some p→VR N w fix hp c p):VR N w fix hp (.tuple cs) (.tuple ps)
 | nilptr:VR N w fix hp (.pointer none) .nilptr
 | cptr (b off : Nat) (ps : List PV) (cv : Nat → Value) (cY : ∀ x ∈ ps, x.flat = true)
   (hcell:∀k,k<ps.length→w.cell? ⟨b,off+k,none⟩=some (cv k)∧fix b (off+k))
   (cZ:∀(k:Nat) (x:PV),ps[k]? = some x→VR N w fix hp (cv k) x):VR N w fix hp (.pointer (some ⟨b,off,none⟩)) (.cptr ps)
 | ptr (n off b:Nat) (h:hp n=some b):VR N w fix hp (.pointer (some ⟨b,off,none⟩)) (.ptr n off)
 | rowp (n sz:Nat) (agg:Bool) (len b cap:Nat) (h:hp n=some b) (db:len≤cap) (ec:∃T m,w.shape? b=some (T,m)∧cap*sz≤m):VR N w fix hp (.slice (some ⟨b,0,none⟩) len cap) (.rowp n sz agg len)
 | rows (n sz:Nat) (agg:Bool) (off len b o cap m:Nat) (T:TypeId) (h:hp n=some b) (db:len≤cap) (ho:len=0∨o=off*sz) (ec:w.shape? b=some (T,m)) (hm:(off+len)*sz≤m):VR N w fix hp (.slice (some ⟨b,o,none⟩) len cap) (.rows n sz agg off len)
 | mapn:VR N w fix hp (.map none) (.map none)
 | map (n b:Nat) (h:hp n=some b):VR N w fix hp (.map (some b)) (.map (some n))
 | func (k : Nat) (fs cs : Array Value) (pf pc : List PV) (h0 : N.yl k = none) (h1 : fs.size = pf.length) (h2 : cs.size = pc.length)
   (hf:∀(i:Nat) (c:Value) (p:PV),fs[i]? = some c→pf[i]? = some p→VR N w fix hp c p)
   (hc:∀(i:Nat) (c:Value) (p:PV),cs[i]? = some c→pc[i]? = some p→VR N w fix hp c p):
   VR N w fix hp (.func (.func (N.fn k)) fs cs) (.func k pf pc)
 | yield (k n l : Nat) (y : YL) (tmps : Array Value) (caps : List PV) (h0 : N.yl k = some y) (hl : hp n = some l) (hr : Bj w l = some (y.fn, tmps, y.params, y.assign, y.body)) (cS : caps.length = y.vars.length) (dc : y.nt ≤ tmps.size)
   (hc:∀(i:Nat) (t:Go.Tmp) (p:PV),y.vars[i]? = some t→caps[i]? = some p→VR N w fix hp (tmps.getD t undef) p):
   VR N w fix hp (.func (.yield l) #[] #[]) (.func k (.ptr n 0::caps) [])
 | nilfunc:VR N w fix hp .nilFunc .nilfunc
 | iface (t:Nat) (v:Value) (p:PV) (h:VR N w fix hp v p):VR N w fix hp (.iface (N.ty t) v) (.iface t p)
 | nilIface:VR N w fix hp .nilIface .nilIface
theorem VR.mono {N:Nm} {w w':World} {fix fix':Nat→Nat→Prop} {hp fk:Nat→Option Nat} {v:Value} {p:PV} (h:VR N w fix hp v p)
  (hf:∀b o,fix b o→fix' b o∧w'.cell? ⟨b,o,none⟩=w.cell? ⟨b,o,none⟩) (hh:∀n b,hp n=some b→fk n=some b) (hs:ShapeLe w w'):
  VR N w' fix' fk v p:=by
 induction h with
 | bool b=>exact .bool b
 | int k n=>exact .int k n
 | str s=>exact .str s
 | nils own=>exact .nils own
 | void own a cap=>exact .void own a cap
 | nils'=>exact .nils'
 | void' a cap=>exact .void' a cap
 | list own b off len cap sz es cv cS db dc cY hcell _ ih =>
   exact .list own b off len cap sz es cv cS db dc cY (λk hk=>⟨(hf _ _ (hcell k hk).2).2.trans (hcell k hk).1,(hf _ _ (hcell k hk).2).1⟩) ih
 | agg cs ps cS cY fg _ ih=>exact .agg cs ps cS cY fg ih
 | tuple cs ps cS _ ih=>exact .tuple cs ps cS ih
 | nilptr=>exact .nilptr
 | cptr b off ps cv cY hcell _ ih =>
   exact .cptr b off ps cv cY (λk hk=>⟨(hf _ _ (hcell k hk).2).2.trans (hcell k hk).1,(hf _ _ (hcell k hk).2).1⟩) ih
 | ptr n off b h=>exact .ptr n off b (hh _ _ h)
 | rowp n sz agg len b cap h db ec=>exact .rowp n sz agg len b cap (hh _ _ h) db (let ⟨T,m,h1,h2⟩:=ec; ⟨T,m,hs.1 _ _ h1,h2⟩)
 | rows n sz agg off len b o cap m T h db ho ec hm=>exact .rows n sz agg off len b o cap m T (hh _ _ h) db ho (hs.1 _ _ ec) hm
 | mapn=>exact .mapn
 | map n b h=>exact .map n b (hh _ _ h)
 | func k fs cs pf pc h0 h1 h2 _ _ ihf ihc=>exact .func k fs cs pf pc h0 h1 h2 ihf ihc
 | yield k n l y tmps caps h0 hl hr cS dc hc ih=>exact .yield k n l y tmps caps h0 (hh _ _ hl) (hs.2 _ _ hr) cS dc ih
 | nilfunc=>exact .nilfunc
 | iface t v p _ ih=>exact .iface t v p ih
 | nilIface=>exact .nilIface
theorem VR.dem {N:Nm} {w:World} {fix:Nat→Nat→Prop} {hp:Nat→Option Nat} {v:Value} {p:PV} (h:VR N w fix hp v p):
  VR N w fix hp v (dem p):=by
 cases h with
 | nils own=>exact .nils false
 | void own a cap=>exact .void false a cap
 | nils'=>exact .nils'
 | void' a cap=>exact .void' a cap
 | list own b off len cap sz es cv cS db dc cY hcell cZ=>exact .list false b off len cap sz es cv cS db dc cY hcell cZ
 | bool b=>exact .bool b
 | int k n=>exact .int k n
 | str s=>exact .str s
 | agg cs ps cS cY fg cZ=>exact .agg cs ps cS cY fg cZ
 | tuple cs ps cS cZ=>exact .tuple cs ps cS cZ
 | nilptr=>exact .nilptr
 | cptr b off ps cv cY hcell cZ=>exact .cptr b off ps cv cY hcell cZ
 | ptr n off b h=>exact .ptr n off b h
 | rowp n sz agg len b cap h db ec=>exact .rowp n sz agg len b cap h db ec
 | rows n sz agg off len b o cap m T h db ho ec hm=>exact .rows n sz agg off len b o cap m T h db ho ec hm
 | mapn=>exact .mapn
 | map n b h=>exact .map n b h
 | func k fs cs pf pc h0 h1 h2 hf hc=>exact .func k fs cs pf pc h0 h1 h2 hf hc
 | yield k n l y tmps caps h0 hl hr cS dc hc=>exact .yield k n l y tmps caps h0 hl hr cS dc hc
 | nilfunc=>exact .nilfunc
 | iface t v p h=>exact .iface t v p h
 | nilIface=>exact .nilIface
theorem VR.row {N:Nm} {w:World} {fix:Nat→Nat→Prop} {hp:Nat→Option Nat} {v:Value} {p:PV} {es:List PV} (h:VR N w fix hp v p) (hr:Dv p=some es):VR N w fix hp v (.list false es):=by
 unfold Dv at hr
 split at hr<;>simp at hr
 ·subst hr; exact h.dem
 ·subst hr; cases h; exact .nils false
 ·subst hr; cases h; exact .void false _ _
theorem VR.vague {N:Nm} {w:World} {fix:Nat→Nat→Prop} {hp:Nat→Option Nat} {v:Value} {p:PV} (h:VR N w fix hp v p) (hv:PI.vague p=true):VR N w fix hp v .nils∨VR N w fix hp v .void:=by
 unfold PI.vague at hv
 split at hv
 ·cases h with
  | nils _=>exact .inl .nils'
  | void _ a cap=>exact .inr (.void' a cap)
  | list _ b off len cap sz _ cv cS _ _ _ _ _ =>
    simp at cS
    subst cS
    exact .inr (.void' _ cap)
 ·simp at hv
theorem Gz (p:PV):(dem p).flat=p.flat:=by cases p<;>rfl
theorem VR.cells {N:Nm} {w:World} {fix:Nat→Nat→Prop} {hp:Nat→Option Nat} {v:Value} {p:PV} (h:VR N w fix hp v p) (pZ:p.cells≠[]):
  v.cells.size=p.cells.length∧(∀x∈p.cells,x.flat=true)∧∀(i:Nat) (c:Value) (x:PV),v.cells[i]? = some c→p.cells[i]? = some x→VR N w fix hp c x:=by
 have one:∀(v:Value) (p:PV),VR N w fix hp v p→p.flat=true→v.cells = #[v]→p.cells=[p] →
   v.cells.size=p.cells.length∧(∀x∈p.cells,x.flat=true)∧∀(i:Nat) (c:Value) (x:PV),v.cells[i]? = some c→p.cells[i]? = some x→VR N w fix hp c x:=by
  intro v p h hf hv hp
  rw[hv,hp]
  refine⟨rfl,by simpa using hf,?_⟩
  intro i c x hc hx
  cases i with
  | zero=>simp at hc hx; subst hc hx; exact h
  | succ i=>simp at hx
 cases h with
 | agg cs ps cS cY _ cZ=>exact⟨cS,cY,cZ⟩
 | tuple cs ps cS cZ=>exact absurd rfl pZ
 | bool b=>exact one _ _ (.bool b) rfl rfl rfl
 | int k n=>exact one _ _ (.int k n) rfl rfl rfl
 | str s=>exact one _ _ (.str s) rfl rfl rfl
 | nils own=>exact one _ _ (.nils own) rfl rfl rfl
 | void own a cap=>exact one _ _ (.void own a cap) rfl rfl rfl
 | nils'=>exact one _ _ .nils' rfl rfl rfl
 | void' a cap=>exact one _ _ (.void' a cap) rfl rfl rfl
 | list own b off len cap sz es cv cS db dc cY hcell cZ=>exact one _ _ (.list own b off len cap sz es cv cS db dc cY hcell cZ) rfl rfl rfl
 | nilptr=>exact one _ _ .nilptr rfl rfl rfl
 | cptr b off ps cv cY hcell cZ=>exact one _ _ (.cptr b off ps cv cY hcell cZ) rfl rfl rfl
 | ptr n off b h=>exact one _ _ (.ptr n off b h) rfl rfl rfl
 | rowp n sz agg len b cap h db ec=>exact one _ _ (.rowp n sz agg len b cap h db ec) rfl rfl rfl
 | rows n sz agg off len b o cap m T h db ho ec hm=>exact one _ _ (.rows n sz agg off len b o cap m T h db ho ec hm) rfl rfl rfl
 | mapn=>exact one _ _ .mapn rfl rfl rfl
 | map n b h=>exact one _ _ (.map n b h) rfl rfl rfl
 | func k fs cs pf pc h0 h1 h2 hf hc=>exact one _ _ (.func k fs cs pf pc h0 h1 h2 hf hc) rfl rfl rfl
 | yield k n l y tmps caps h0 hl hr cS dc hc=>exact one _ _ (.yield k n l y tmps caps h0 hl hr cS dc hc) rfl rfl rfl
 | nilfunc=>exact one _ _ .nilfunc rfl rfl rfl
 | iface t v p h=>exact one _ _ (.iface t v p h) rfl rfl rfl
 | nilIface=>exact one _ _ .nilIface rfl rfl rfl
def oneCell:Value→Bool
 | .agg _ | .tuple _=>false
 | _=>true
theorem VR.oneCell {N:Nm} {w:World} {fix:Nat→Nat→Prop} {hp:Nat→Option Nat} {v:Value} {p:PV} (h:VR N w fix hp v p) (hf:p.flat=true):oneCell v=true:=by
 cases h<;>first|rfl|simp[PV.flat] at hf
def Live (w:World) (b:Nat) (cs:Array Value) (T:TypeId):Prop:=∃fz:Nat×Nat,w.heap[b]? = some (.cells cs T fz)∧∀o,o<cs.size→¬(fz.1≤o∧o<fz.2)
theorem Live.of {w:World} {b:Nat} {cs:Array Value} {T:TypeId} (h:w.heap[b]? = some (.cells cs T (0,0))):Live w b cs T:=⟨(0,0),h,λo _ h=>by simp at h⟩
theorem Live.same {w w':World} {b:Nat} {cs:Array Value} {T:TypeId} (h:Live w b cs T) (e:w'.heap[b]? = w.heap[b]?):Live w' b cs T:=let ⟨fz,h1,h2⟩:=h; ⟨fz,e.trans h1,h2⟩
def Room (w:World) (G:GS) (key:Key) (v:Value) (es:List PV):Prop:=
 match v with
 | .slice (some a) len cap => cap = len ∨
   (G.ow a.block=some key∧∃sz cs T,(∀e∈es,e.cells.length=sz)∧Live w a.block cs T∧a.off+cap*sz≤cs.size ∧
    0<len∧∀o,a.off+len*sz≤o→¬G.fix a.block o)
 | _=>True
def CR (N:Nm) (w:World) (G:GS) (key:Key) (v:Value) (p:PV):Prop:=
 VR N w G.fix G.heap v p∧p.flat=true∧match p with
 | .list true es=>Room w G key v es
 | _=>True
def SR (N:Nm) (w:World) (G:GS) (key:Key) (v:Value) (p:PV):Prop:=
 match p with
 | .dead=>True
 | .loc g cs => ∃ b i, key = .var i ∧ v = .pointer (some ⟨b, 0, none⟩) ∧ G.box g = some b ∧ G.ow b = some key ∧ (∀ o, ¬ G.fix b o) ∧
   ∃cv T,w.heap[b]? = some (.cells cv T (0,0))∧cv.size=cs.length∧∀(k:Nat) (c:Value) (x:PV),cv[k]? = some c→cs[k]? = some x→CR N w G (.vcell i k) c x
 | .lptr _ g off=>∃b,v = .pointer (some ⟨b,off,none⟩)∧G.box g=some b
 | .fresh sz agg len cs => ∃ b, v = .slice (some ⟨b, 0, none⟩) len len ∧ G.ow b = some key ∧ (∀ o, ¬ G.fix b o) ∧
   ∃cv T,w.heap[b]? = some (.cells cv T (0,0))∧cs.length≤cv.size∧len*sz≤cv.size∧∀(k:Nat) (c:Value) (x:PV),cv[k]? = some c→cs[k]? = some x→VR N w G.fix G.heap c x∧x.flat=true∧∀es,x≠.list true es
 | .list true es=>VR N w G.fix G.heap v (.list true es)∧Room w G key v es
 | p=>VR N w G.fix G.heap v p
structure Ext (w:World) (G:GS) (w':World) (G':GS):Prop where
 os:w'.os=w.os
 tape:w'.tape=w.tape
 output:w'.output=w.output
 size:w.heap.size≤w'.heap.size
 same:∀b,b<w.heap.size→G.ow b=none→w'.heap[b]? = w.heap[b]?
 fix:∀b o,G.fix b o→G'.fix b o∧w'.cell? ⟨b,o,none⟩=w.cell? ⟨b,o,none⟩
 newfix:∀b o,G'.fix b o→G.fix b o∨w.heap.size≤b∨G.ow b≠none
 own:∀b,G'.ow b≠none→w.heap.size≤b∨G.ow b≠none
 heap:∀n b,G.heap n=some b→G'.heap n=some b
 shape:ShapeLe w w'
 df:G'.df=G.df
theorem Ext.refl (w:World) (G:GS):Ext w G w G:=⟨rfl,rfl,rfl,an _,λ_ _ _=>rfl,λ_ _ h=>⟨h,rfl⟩,λ_ _ h => .inl h,λ_ h => .inr h,λ_ _ h=>h,ShapeLe.refl w,rfl⟩
theorem Ext.trans {a b c:World} {A B C:GS} (h:Ext a A b B) (k:Ext b B c C):Ext a A c C:=by
 refine⟨k.os.trans h.os,k.tape.trans h.tape,k.output.trans h.output,aD h.size k.size,?_,?_,?_,?_,λn x hx=>k.heap _ _ (h.heap _ _ hx),h.shape.trans k.shape,k.df.trans h.df⟩
 ·intro x hx ho
  have hB:B.ow x=none:=by
   cases hb:B.ow x with
   | none=>rfl
   | some y =>
     rcases h.own x (by simp[hb]) with h1|h1
     ·omega
     ·exact absurd ho h1
  exact(k.same x (aT hx h.size) hB).trans (h.same x hx ho)
 ·intro x o hf
  have h1:=h.fix x o hf
  have h2:=k.fix x o h1.1
  exact⟨h2.1,h2.2.trans h1.2⟩
 ·intro x o hf
  rcases k.newfix x o hf with h1|h1|h1
  ·exact h.newfix x o h1
  ·exact .inr (.inl (aD h.size h1))
  ·rcases h.own x h1 with h2|h2
   ·exact .inr (.inl h2)
   ·exact .inr (.inr h2)
 ·intro x hx
  rcases k.own x hx with h1|h1
  ·exact .inl (aD h.size h1)
  ·exact h.own x h1
theorem VR.ext {N:Nm} {w w':World} {G G':GS} {v:Value} {p:PV} (h:VR N w G.fix G.heap v p) (e:Ext w G w' G'):VR N w' G'.fix G'.heap v p:=
 h.mono e.fix e.heap e.shape
def zo (K:Key→Prop) (w:World) (G:GS) (w':World) (G':GS):Prop:=
 (∀b k,G.ow b=some k→¬K k→G'.ow b=some k∧w'.heap[b]? = w.heap[b]?∧∀o,G'.fix b o→G.fix b o)∧∀g b,G.box g=some b→G'.box g=some b
theorem Room.keep {w w':World} {G G':GS} {K:Key→Prop} {key:Key} {v:Value} {es:List PV} (h:Room w G key v es) (hk:zo K w G w' G') (hn:¬K key):Room w' G' key v es:=by
 unfold Room at *
 split at h
 ·rename_i a len cap
  rcases h with h|⟨ho,sz,cs,T,h1,h2,h3,h4,h5⟩
  ·exact .inl h
  ·obtain⟨k1,k2,k3⟩:=hk.1 _ _ ho hn
   exact .inr ⟨k1,sz,cs,T,h1,h2.same k2,h3,h4,λo fX hf=>h5 o fX (k3 o hf)⟩
 ·trivial
theorem CR.keep {N:Nm} {w w':World} {G G':GS} {K:Key→Prop} {key:Key} {v:Value} {p:PV} (h:CR N w G key v p) (e:Ext w G w' G') (hk:zo K w G w' G') (hn:¬K key):CR N w' G' key v p:=by
 obtain⟨h1,h2,h3⟩:=h
 refine⟨h1.ext e,h2,?_⟩
 split at h3
 ·exact Room.keep h3 hk hn
 ·trivial
theorem SR.keep {N:Nm} {w w':World} {G G':GS} {K:Key→Prop} {key:Key} {v:Value} {p:PV} (h:SR N w G key v p) (e:Ext w G w' G') (hk:zo K w G w' G') (hn:¬K key)
  (hc:∀i k,key = .var i→¬K (.vcell i k)):SR N w' G' key v p:=by
 unfold SR at *
 split at h
 ·trivial
 ·obtain⟨b,i,gS,hv,hb,ho,hf,cv,T,h1,h2,h3⟩:=h
  obtain⟨k1,k2,k3⟩:=hk.1 _ _ ho hn
  exact⟨b,i,gS,hv,hk.2 _ _ hb,k1,λo iy=>hf o (k3 o iy),cv,T,k2.trans h1,h2,λk c x dN hx=>(h3 k c x dN hx).keep e hk (hc i k gS)⟩
 ·obtain⟨b,h1,h2⟩:=h
  exact⟨b,h1,hk.2 _ _ h2⟩
 ·obtain⟨b,hv,ho,hf,cv,T,h1,h2,h4,h3⟩:=h
  obtain⟨k1,k2,k3⟩:=hk.1 _ _ ho hn
  exact⟨b,hv,k1,λo iy=>hf o (k3 o iy),cv,T,k2.trans h1,h2,h4,λk c x dN hx=>⟨(h3 k c x dN hx).1.ext e,(h3 k c x dN hx).2⟩⟩
 ·exact⟨h.1.ext e,Room.keep h.2 hk hn⟩
 ·exact h.ext e
def MR (N:Nm) (w:World) (G:GS) (key:Key) (v:Value) (p:PV):Prop:=
 VR N w G.fix G.heap v p∧match p with
 | .list true es=>Room w G key v es
 | _=>True
theorem MR.keep {N:Nm} {w w':World} {G G':GS} {K:Key→Prop} {key:Key} {v:Value} {p:PV} (h:MR N w G key v p) (e:Ext w G w' G') (hk:zo K w G w' G') (hn:¬K key):MR N w' G' key v p:=by
 obtain⟨h1,h3⟩:=h
 refine⟨h1.ext e,?_⟩
 split at h3
 ·exact Room.keep h3 hk hn
 ·trivial
def ObjR (N:Nm) (w:World) (G:GS) (n b:Nat):PObj→Prop
 | .cells cs=>(∀o,¬G.fix b o)∧∃cv T,w.heap[b]? = some (.cells cv T (0,0))∧cs.length≤cv.size∧∀(k:Nat) (c:Value) (x:PV),cv[k]? = some c→cs[k]? = some x→CR N w G (.hcell n k) c x
 | .map es => ∃ mes clock, w.heap[b]? = some (.map mes clock) ∧ mes.size = es.length ∧ (∀ (i : Nat) (e : Go.MapEntry), mes[i]? = some e → e.born < clock) ∧
   (∀(i i':Nat) (e e':Go.MapEntry),mes[i]? = some e→mes[i']? = some e'→e.born=e'.born→i=i') ∧
   ∀(i:Nat) (e:Go.MapEntry) (p:PV×PV),mes[i]? = some e→es[i]? = some p→VR N w G.fix G.heap e.key p.1∧MR N w G (.hcell n i) e.val p.2
 | .gone=>True
 | .loop ready=>(∀o,¬G.fix b o)∧∃r:Go.Loop,w.heap[b]? = some (.loop r)∧r.pending=none∧r.state=(if ready then .ready else .busy)
 | .over id=>(∀o,¬G.fix b o)∧∃r:Go.Loop,w.heap[b]? = some (.loop r)∧r.pending=some (match id with | none => .ret | some i => .exit i)∧r.state = .done
theorem ObjR.keep {N:Nm} {w w':World} {G G':GS} {K:Key→Prop} {n b:Nat} {ob:PObj} (h:ObjR N w G n b ob) (ho:G.ow b=some (.hobj n)) (e:Ext w G w' G') (hk:zo K w G w' G') (h1:¬K (.hobj n))
  (h2:∀k,¬K (.hcell n k)):ObjR N w' G' n b ob:=by
 obtain⟨_,k2,k3⟩:=hk.1 _ _ ho h1
 cases ob with
 | cells cs =>
   obtain⟨f,cv,T,a1,a2,a3⟩:=h
   exact⟨λo hf=>f o (k3 o hf),cv,T,k2.trans a1,a2,λk c x hc hx=>(a3 k c x hc hx).keep e hk (h2 k)⟩
 | map es =>
   obtain⟨mes,clock,a1,a2,a3,a4,a5⟩:=h
   exact⟨mes,clock,k2.trans a1,a2,a3,a4,λi en p hi hp=>⟨(a5 i en p hi hp).1.ext e,(a5 i en p hi hp).2.keep e hk (h2 i)⟩⟩
 | gone=>trivial
 | loop ready =>
   obtain⟨f,r,a1,a2⟩:=h
   exact⟨λo hf=>f o (k3 o hf),r,k2.trans a1,a2⟩
 | over id =>
   obtain⟨f,r,a1,a2⟩:=h
   exact⟨λo hf=>f o (k3 o hf),r,k2.trans a1,a2⟩
def Tab (N:Nm) (w:World) (fix:Nat→Nat→Prop):Prop:=(∀t∈N.tabs,fix t.1 t.2.1∧w.cell? ⟨t.1,t.2.1,none⟩=some t.2.2)∧∀r∈N.rows,w.shape? r.1=some r.2
theorem Tab.ext {N:Nm} {w w':World} {G G':GS} (h:Tab N w G.fix) (e:Ext w G w' G'):Tab N w' G'.fix:=
 ⟨λt ht=>⟨(e.fix _ _ (h.1 t ht).1).1,(e.fix _ _ (h.1 t ht).1).2.trans (h.1 t ht).2⟩,λr hr=>e.shape.1 _ _ (h.2 r hr)⟩
def HR (N:Nm) (w:World) (G:GS) (heap:List PObj):Prop:=
 (∀(n:Nat) (ob:PObj),heap[n]? = some ob→ob = .gone∨∃b,G.heap n=some b∧G.ow b=some (.hobj n)∧ObjR N w G n b ob)∧Tab N w G.fix
def Key.isH:Key→Bool
 | .hobj _ | .hcell _ _=>true
 | _=>false
theorem HR.keep {N:Nm} {w w':World} {G G':GS} {K:Key→Prop} {heap:List PObj} (h:HR N w G heap) (e:Ext w G w' G') (hk:zo K w G w' G') (hn:∀k,k.isH=true→¬K k):HR N w' G' heap:=by
 refine⟨?_,h.2.ext e⟩
 intro n ob dO
 rcases h.1 n ob dO with rfl|⟨b,h1,h2,h3⟩
 ·exact .inl rfl
 exact .inr ⟨b,e.heap _ _ h1,(hk.1 _ _ h2 (hn _ rfl)).1,h3.keep h2 e hk (hn _ rfl) (λk=>hn _ rfl)⟩
theorem HR.keepBut {N:Nm} {w w':World} {G G':GS} {K:Key→Prop} {heap:List PObj} {m:Nat} {ob':PObj} (h:HR N w G heap) (e:Ext w G w' G') (hk:zo K w G w' G')
  (hn:∀n k,n≠m→¬K (.hobj n)∧¬K (.hcell n k)) (hm:m<heap.length→ob' = .gone∨∃b,G'.heap m=some b∧G'.ow b=some (.hobj m)∧ObjR N w' G' m b ob'):HR N w' G' (heap.set m ob'):=by
 refine⟨?_,h.2.ext e⟩
 intro n ob dO
 rw[aU] at dO
 split at dO
 ·rename_i nR
  subst nR
  split at dO
  ·rename_i cV
   simp at dO; subst dO
   exact hm cV
  ·simp at dO
 ·rename_i nR
  rcases h.1 n ob dO with rfl|⟨b,h1,h2,h3⟩
  ·exact .inl rfl
  have da:n≠m:=λe=>nR e.symm
  exact .inr ⟨b,e.heap _ _ h1,(hk.1 _ _ h2 (hn n 0 da).1).1,h3.keep h2 e hk (hn n 0 da).1 (λk=>(hn n k da).2)⟩
theorem HR.push {N:Nm} {w w':World} {G G':GS} {K:Key→Prop} {heap:List PObj} {ob':PObj} (h:HR N w G heap) (e:Ext w G w' G') (hk:zo K w G w' G')
  (hn:∀n k,n<heap.length→heap[n]? = some .gone∨(¬K (.hobj n)∧¬K (.hcell n k))) (hm:ob' = .gone∨∃b,G'.heap heap.length=some b∧G'.ow b=some (.hobj heap.length)∧ObjR N w' G' heap.length b ob'):HR N w' G' (heap++[ob']):=by
 refine⟨?_,h.2.ext e⟩
 intro n ob dO
 by_cases cV:n<heap.length
 ·rw[al cV] at dO
  rcases h.1 n ob dO with rfl|⟨b,h1,h2,h3⟩
  ·exact .inl rfl
  by_cases hg:ob = .gone
  ·exact .inl hg
  have gI:∀k,¬K (.hobj n)∧¬K (.hcell n k):=λk=>(hn n k cV).resolve_left λe=>hg (by rw[dO] at e; simpa using e)
  exact .inr ⟨b,e.heap _ _ h1,(hk.1 _ _ h2 (gI 0).1).1,h3.keep h2 e hk (gI 0).1 (λk=>(gI k).2)⟩
 ·rw[aq (by omega)] at dO
  have:n - heap.length=0:=by
   cases hx:n - heap.length with
   | zero=>rfl
   | succ k=>rw[hx] at dO; simp at dO
  rw[this] at dO
  simp at dO
  subst dO
  have gI:n=heap.length:=by omega
  subst gI
  exact hm
end PI
namespace PI
open Go
structure FI (N:Nm) (w:World) (G:GS) (st:St) (a:Act) (vs:List Tmp) (lm:Nat→Option Tmp):Prop where
 len:st.vars.length=vs.length
 var:∀(i:Nat) (t:Tmp) (u:PV),vs[i]? = some t→st.vars[i]? = some u→SR N w G (.var i) (a.eval (.tmp t)) u
 loc:∀(j:Nat) (t:Tmp) (u:PV),lm j=some t→st.locs[j]? = some u→SR N w G (.loc j) (a.eval (.tmp t)) u
 tv:∀(i:Nat) (t:Tmp),vs[i]? = some t→t<a.tmps.size
 tl:∀(j:Nat) (t:Tmp),lm j=some t→t<a.tmps.size
 defers:a.defers=G.df
 gen:∀g b,G.box g=some b→g<st.gen
 owlt:∀b k,G.ow b=some k→b<w.heap.size
 fixlt:∀b o,G.fix b o→b<w.heap.size
 heap:HR N w G st.heap
 hdom:∀n b,G.heap n=some b→n<st.heap.length
structure Names (vs:List Tmp) (lm:Nat→Option Tmp):Prop where
 vnd:∀(i i':Nat) (t:Tmp),vs[i]? = some t→vs[i']? = some t→i=i'
 sep:∀(j:Nat) (t:Tmp) (i:Nat),lm j=some t→vs[i]?≠some t
 lnd:∀(j j':Nat) (t:Tmp),lm j=some t→lm j'=some t→j=j'
def x7 (vs:List Tmp) (ops:List Oper) (j:Nat):Option Tmp:=
 match ops[j]? with
 | some o => match o.dst with
   | some t=>if (zG t vs 0).isSome then none else some t
   | none=>none
 | none=>none
structure EnvOk (E:Env) (N:Nm):Prop where
 fn:∀f k,E.inv f=some k→N.fn k=f
 yl:∀f k,E.inv f=some k→N.yl k=none
 pt:∀T i,zG T E.pt 0=some i→N.ty (i+1)=T
 bt:∀t,E.bT=some t→N.bT=t∧∃i,E.P.info? t=some i∧i.zero=some (.agg #[.pointer none,.slice none 0 0])
theorem II {w:World} {b:Nat} {cv:Array Value} {T:TypeId} {fz:Nat×Nat} (hh:w.heap[b]? = some (.cells cv T fz)) (NR:Array Value) (hs:NR.size=cv.size):ShapeLe w (w.setRow b NR):=
 .one b (λk _ hk=>setRow_other w b k _ hk) (λs hx=>by
  simp only[World.shape?,hh] at hx
  simp only[World.shape?,setRow_heap w b cv NR T fz hh,hs]
  exact hx) (λs hx=>by grind [Oo])
theorem Ui {N:Nm} {w:World} {fix:Nat→Nat→Prop} {hp:Nat→Option Nat} {v:Value} {p:PV} (h:Gj v=some p):
  VR N w fix hp v p∧p.flat=true:=by
 unfold Gj at h
 split at h<;>simp at h<;>subst h<;>refine⟨?_,rfl⟩<;>constructor
theorem OA {N:Nm} {w:World} {fix:Nat→Nat→Prop} {hp:Nat→Option Nat}:∀{vs:List Value} {ps:List PV},E7 vs=some ps →
  vs.length=ps.length∧(∀p∈ps,p.flat=true)∧∀(i:Nat) (v:Value) (p:PV),vs[i]? = some v→ps[i]? = some p→VR N w fix hp v p
 | [],ps,h=>by simp_all [E7]
 | v :: vs, ps, h => by
   simp only[E7,aj,ab] at h
   obtain⟨p,iE,qs,hq,rfl⟩:=h
   obtain⟨h1,h2,h3⟩:=OA (N:=N) (w:=w) (fix:=fix) (hp:=hp) hq
   have hv:=Ui (N:=N) (w:=w) (fix:=fix) (hp:=hp) iE
   grind
theorem GD:∀{vs:List Value} {ps:List PV},E7 vs=some ps→∀(i:Nat) (v:Value) (es:List PV),vs[i]? = some v→ps[i]? = some (.list true es)→v = .slice none 0 0
 | [],ps,h,i,v,es,h1,_=>by simp at h1
 | x :: xs, ps, h, i, v, es, h1, h2 => by
   simp only[E7,aj,ab] at h
   obtain⟨p,iE,qs,hq,rfl⟩:=h
   cases i with
   | zero =>
     simp at h1 h2; subst h1 h2
     unfold Gj at iE
     split at iE<;>simp at iE
     rfl
   | succ i=>exact GD hq i v es (by simpa using h1) (by simpa using h2)
theorem Uj {N:Nm} {w:World} {fix:Nat→Nat→Prop} {hp:Nat→Option Nat} {v:Value} {p:PV} (h:Gk v=some p):
  VR N w fix hp v p:=by
 unfold Gk at h
 split at h
 ·rename_i cs
  simp only[ab] at h
  obtain⟨ps,h1,rfl⟩:=h
  obtain⟨a,b,c⟩:=OA (N:=N) (w:=w) (fix:=fix) (hp:=hp) h1
  exact .agg cs ps (by omega) b (λi x es hx hy=>GD h1 i x es (by simp_all) hy) (λi x y hx hy=>c i x y (by simp_all) hy)
 grind [Ui]
theorem OB {v:Value} {p:PV} (h:Gk v=some p):(∃es,p = .list true es∧v = .slice none 0 0)∨cp p=some p:=by
 unfold Gk at h
 split at h
 ·simp only[ab] at h
  obtain⟨ps,_,rfl⟩:=h
  exact .inr rfl
 ·unfold Gj at h
  split at h<;>simp at h<;>subst h<;>first|exact .inr rfl|simp
theorem Ep {t:Tmp}:∀{vs:List Tmp} {n i:Nat},zG t vs n=some i→n≤i∧vs[i - n]? = some t
 | [],n,i,h=>by simp[zG] at h
 | x :: xs, n, i, h => by
   simp only[zG] at h
   split at h
   ·simp_all
   ·obtain⟨h1,h2⟩:=Ep h
    grind
theorem OC {t:Tmp}:∀{ops:List Oper} {n j:Nat},Gl t ops n=some j→n≤j∧∃o,ops[j - n]? = some o∧o.dst=some t
 | [],n,j,h=>by simp[Gl] at h
 | o :: os, n, j, h => by
   simp only[Gl] at h
   split at h
   ·simp_all
   ·obtain⟨h1,o',h2,h3⟩:=OC h
    grind
def BH:PX→Key
 | .v i => .var i
 | .l j => .loc j
 | .c _ => .loc 0
section
variable {E:Env} {N:Nm} {w:World} {G:GS} {st:St} {a:Act} {vs:List Tmp} {ops:List Oper}
theorem SR.of_pure {key:Key} {v:Value} {u:PV} (h:VR N w G.fix G.heap v u) (hu:cp u=some u):SR N w G key v u:=by
 unfold SR
 grind [cp]
theorem SR.read {key:Key} {v:Value} {u r:PV} (h:SR N w G key v u) (hr:cp u=some r):VR N w G.fix G.heap v r∧cp r=some r:=by
 unfold SR at h
 split at h
 ·simp[cp] at hr
 ·simp[cp] at hr
 ·simp[cp] at hr
 ·simp[cp] at hr
 ·simp[cp] at hr; subst hr; exact⟨h.1.dem,rfl⟩
 ·have:r=dem u∧cp r=some r:=by
   cases u<;>simp[cp] at hr<;>subst hr<;>exact⟨rfl,rfl⟩
  rw[this.1]
  exact⟨h.dem,this.1▸this.2⟩
theorem D3 (hE:EnvOk E N) {x:Operand} {px:PX} {u:PV} (hc:cx E vs ops x=some px) (hf:FI N w G st a vs (x7 vs ops)) (hr:raw st px=some u):
  SR N w G (BH px) (a.eval x) u:=by
 cases x with
 | tmp t =>
   simp only[cx] at hc
   split at hc
   ·rename_i i hi
    simp at hc; subst hc
    obtain⟨_,h2⟩:=Ep hi
    exact hf.var i t u (by omega) hr
   ·simp only[ab] at hc
    obtain⟨j,hj,rfl⟩:=hc
    obtain⟨_,o,h2,h3⟩:=OC hj
    refine hf.loc j t u ?_ hr
    simp_all [x7]
 | const v =>
   simp only[cx] at hc
   split at hc
   ·simp only[aa] at hc
    subst hc
    simp only[raw,aa] at hr
    subst hr
    have jy:v = .slice none 0 0:=by
     grind [S6]
    subst jy
    exact SR.of_pure .nils' rfl
   simp only[ab] at hc
   obtain⟨p,hp,rfl⟩:=hc
   simp only[raw,aa] at hr
   subst hr
   have hv:=Uj (N:=N) (w:=w) (fix:=G.fix) (hp:=G.heap) hp
   rcases OB hp with⟨es,rfl,rfl⟩|h
   ·exact⟨hv,trivial⟩
   ·exact SR.of_pure hv h
 | global g=>simp[cx] at hc
 | func f =>
   simp only[cx,ab] at hc
   obtain⟨k,hk,rfl⟩:=hc
   simp only[raw,aa] at hr
   subst hr
   have:=hE.fn _ _ hk
   subst this
   exact .func k #[] #[] [] [] (hE.yl _ _ hk) rfl rfl (by simp) (by simp)
theorem yH (hE:EnvOk E N) {x:Operand} {px:PX} {u:PV} (hc:cx E vs ops x=some px) (hf:FI N w G st a vs (x7 vs ops)) (hr:rd st px=some u):
  VR N w G.fix G.heap (a.eval x) u∧cp u=some u:=by
 simp only[rd,aj] at hr
 obtain⟨r,h1,h2⟩:=hr
 exact(D3 hE hc hf h1).read h2
theorem Ex (hE:EnvOk E N) {x:Operand} {px:PX} {n:Int} (hc:cx E vs ops x=some px) (hf:FI N w G st a vs (x7 vs ops)) (hr:rdInt st px=some n):
  ∃k,a.eval x = .int k n:=by
 unfold rdInt at hr
 split at hr
 ·rename_i k m hm
  simp at hr; subst hr
  have:=(yH hE hc hf hm).1
  generalize a.eval x=y at this
  cases this
  simp
 grind
theorem Ck (hE:EnvOk E N) (hf:FI N w G st a vs (x7 vs ops)):∀{xs:List Operand} {pxs:List PX} {us:List PV},cxs E vs ops xs=some pxs→rdAll st pxs=some us →
  xs.length=us.length∧∀(i:Nat) (x:Operand) (u:PV),xs[i]? = some x→us[i]? = some u→VR N w G.fix G.heap (a.eval x) u∧cp u=some u
 | [], pxs, us, hc, hr => by
   simp_all [cxs,rdAll]
 | x :: xs, pxs, us, hc, hr => by
   simp only[cxs,aj,ab] at hc
   obtain⟨p,hp,ps,fo,rfl⟩:=hc
   simp only[rdAll,aj,ab] at hr
   obtain⟨u,hu,us',eF,rfl⟩:=hr
   obtain⟨h1,h2⟩:=Ck hE hf fo eF
   refine⟨by simp[h1],?_⟩
   intro i y v hy hv
   cases i with
   | zero=>simp at hy hv; subst hy hv; exact yH hE hp hf hu
   | succ i=>exact h2 i y v (by simpa using hy) (by simpa using hv)
theorem D4 (hE:EnvOk E N) {x:Operand} {px:PX} {u:PV} (hc:cx E vs ops x=some px) (hf:FI N w G st a vs (x7 vs ops)) (hr:addr st px=some u):
  (∃s g off b,u = .lptr s g off∧a.eval x = .pointer (some ⟨b,off,none⟩)∧G.box g=some b)∨(VR N w G.fix G.heap (a.eval x) u∧cp u=some u):=by
 unfold addr at hr
 split at hr
 ·rename_i i g cs gF
  have:=D3 hE hc hf gF
  grind [SR,BH]
 ·rename_i s g off gF
  have:=D3 hE hc hf gF
  grind [SR]
 ·rename_i v _ _ gF
  exact .inr ((D3 hE hc hf gF).read hr)
 grind
end
def Ai (d:PD) (j:Nat):Key:=
 match d with
 | .v i => .var i
 | _ => .loc j
def OD (vs:List Tmp) (lm:Nat→Option Tmp) (j:Nat) (d:PD) (dst:Option Tmp):Prop:=
 match d with
 | .v i=>∃t,dst=some t∧vs[i]? = some t
 | .l=>∃t,dst=some t∧lm j=some t
 | .n=>dst=none
theorem Ff (a:Act) (d t:Tmp) (v:Value) (hd:d<a.tmps.size):(a.put (some d) v).eval (.tmp t)=if t=d then v else a.eval (.tmp t):=by
 simp only[Act.put,Act.eval,aV]
 grind
theorem FI.put {N:Nm} {w:World} {G:GS} {st:St} {a:Act} {vs:List Tmp} {lm:Nat→Option Tmp} {j:Nat} {d:PD} {dst:Option Tmp} {v:Value} {u:PV}
  (h:FI N w G st a vs lm) (nm:Names vs lm) (hd:OD vs lm j d dst) (hs:SR N w G (Ai d j) v u):FI N w G (put st j d u) (a.put dst v) vs lm:=by
 cases d with
 | n =>
   subst hd
   exact h
 | v i =>
   obtain⟨t,rfl,ht⟩:=hd
   have dc:=h.tv i t ht
   refine⟨by simp[PI.put,h.len],?_,?_,?_,?_,h.defers,h.gen,h.owlt,h.fixlt,h.heap,h.hdom⟩
   ·intro i' t' u' h1 h2
    rw[Ff _ _ _ _ dc]
    simp only[PI.put,aU] at h2
    by_cases hi:i=i'
    ·subst hi
     have:t'=t:=by simp_all
     subst this
     split at h2
     ·split at h2
      ·simp at h2; subst h2; simp only ; exact hs
      grind
     omega
    ·rw[ae hi] at h2
     have da:t'≠t:=λe=>hi (nm.vnd i i' t ht (e▸h1))
     rw[ae da]
     exact h.var i' t' u' h1 h2
   ·intro j' t' u' h1 h2
    rw[Ff _ _ _ _ dc,ae (λe:t'=t=>nm.sep j' t' i h1 (e▸ht))]
    exact h.loc j' t' u' h1 h2
   ·intro i' t' h1; simpa[Act.put] using h.tv i' t' h1
   ·intro j' t' h1; simpa[Act.put] using h.tl j' t' h1
 | l =>
   obtain⟨t,rfl,ht⟩:=hd
   have dc:=h.tl j t ht
   refine⟨h.len,?_,?_,?_,?_,h.defers,h.gen,h.owlt,h.fixlt,h.heap,h.hdom⟩
   ·intro i' t' u' h1 h2
    rw[Ff _ _ _ _ dc,ae (λe:t'=t=>nm.sep j t i' ht (e▸h1))]
    exact h.var i' t' u' h1 h2
   ·intro j' t' u' h1 h2
    rw[Ff _ _ _ _ dc]
    simp only[PI.put,aU] at h2
    by_cases hj:j=j'
    ·subst hj
     have:t'=t:=by simp_all
     subst this
     split at h2
     ·split at h2
      ·simp at h2; subst h2; simp only ; exact hs
      grind
     omega
    ·rw[ae hj] at h2
     have da:t'≠t:=λe=>hj (nm.lnd j j' t ht (e▸h1))
     rw[ae da]
     exact h.loc j' t' u' h1 h2
   ·intro i' t' h1; simpa[Act.put] using h.tv i' t' h1
   ·intro j' t' h1; simpa[Act.put] using h.tl j' t' h1
theorem FI.ext {N:Nm} {w w':World} {G G':GS} {st:St} {a:Act} {vs:List Tmp} {lm:Nat→Option Tmp} (h:FI N w G st a vs lm) (e:Ext w G w' G')
  (hk:zo (λ_=>False) w G w' G') (hg:∀g b,G'.box g=some b→g<st.gen) (ho:∀b k,G'.ow b=some k→b<w'.heap.size) (hx:∀b o,G'.fix b o→b<w'.heap.size) (hh:G'.heap=G.heap:=by rfl):
  FI N w' G' st a vs lm:=
 ⟨h.len,λi t u h1 h2=>(h.var i t u h1 h2).keep e hk (λh=>h) (λ_ _ _ h=>h),λj t u h1 h2=>(h.loc j t u h1 h2).keep e hk (λh=>h) (λ_ _ _ h=>h),h.tv,h.tl,(h.defers.trans e.df.symm),hg,ho,hx,h.heap.keep e hk (λ_ _ h=>h),by rw[hh]; exact h.hdom⟩
theorem BJ {vs:List Tmp} {ops:List Oper} {j:Nat} {o:Oper} (ho:ops[j]? = some o):OD vs (x7 vs ops) j (yF vs o.dst) o.dst:=by
 unfold yF
 split
 ·assumption
 ·rename_i t h
  cases hi:zG t vs 0 with
  | some i =>
    obtain⟨_,h2⟩:=Ep hi
    exact⟨t,h,by omega⟩
  | none=>exact⟨t,h,by grind [x7]⟩
theorem BK (a:Act) (d:Option Tmp) (v:Value):(a.put d v).tmps.size=a.tmps.size:=by
 cases d<;>simp[Act.put]
theorem yJ {P:Program} {N:Nm} {w:World} {G:GS} {st:St} {a:Act} {vs:List Tmp} {ops:List Oper} {j:Nat} {o:Oper} {v:Value} {u:PV} {next:Act→World→Prop}
  {Q:Exit→Act→World→Prop} (nm:Names vs (x7 vs ops)) (ho:ops[j]? = some o) (hf:FI N w G st a vs (x7 vs ops)) (cT:(execOp a.eval o).run P w = .ok (.value v) w)
  (hs:SR N w G (Ai (yF vs o.dst) j) v u) (hk:∀a' w' G',FI N w' G' (put st j (yF vs o.dst) u) a' vs (x7 vs ops)→Ext w G w' G'→a'.tmps.size=a.tmps.size→next a' w'):o.wp P a w next Q:=by
 unfold Oper.wp
 rw[cT]
 exact hk _ _ _ (hf.put nm (BJ ho) hs) (Ext.refl _ _) (BK _ _ _)
theorem OE (s:ByteArray):s.toList=s.data.toList:=ByteArray.toList_eq s
section
variable {E:Env} {N:Nm} {w:World} {G:GS} {st:St} {a:Act} {vs:List Tmp} {ops:List Oper} {P:Program}
theorem Ev {t:TypeId} {n:Nat} (h:yN P t=some n):yY P t=false→n=1:=by
 intro ha
 unfold yN at h
 split at h
 ·split at h
  ·simp at h
  ·rename_i hn
   simp only[not_or,not_and,Decidable.not_not] at hn
   simp at h; subst h
   exact hn.2.2 ha
 ·simp at h
theorem A8 {t:TypeId} {n:Nat} (h:yN P t=some n):∃i d,P.info? t=some i∧i.size=n∧n≠0∧P.underlying t=some d:=by
 unfold yN at h
 split at h
 ·rename_i i hi
  split at h
  ·simp at h
  ·rename_i hn
   simp at h; subst h
   simp only[not_or] at hn
   obtain⟨pp,rq,_⟩:=hn
   cases hu:P.underlying t with
   | none=>simp[hu] at rq
   | some d=>exact⟨i,d,hi,rfl,pp,rfl⟩
 ·simp at h
theorem Cn {t:TypeId} {n:Nat} (h:yN P t=some n) (w:World):(Go.sizeOf t).run P w = .ok n w:=by
 obtain⟨i,d,hi,rfl,_,_⟩:=A8 h
 simp[Go.sizeOf,typeInfo,hi]
theorem GE {t:TypeId} {n:Nat} (h:yN P t=some n) (w:World):(isAgg t).run P w = .ok (yY P t) w:=by
 obtain⟨i,d,_,_,_,hd⟩:=A8 h
 simp only[isAgg,Sem.run_bind,run_underlying hd,Result.andThen_ok,yY,hd]
 cases d<;>rfl
theorem B5 (b off n:Nat):(⟨b,off,none⟩:Addr).add n=⟨b,off+n,none⟩:=Addr.add_lit b off n
theorem Gq {t:TypeId} {n:Nat} (h:yN P t=some n) (b off:Nat) (cs:List Value) (hl:n≤cs.length)
  (hc:∀j v,cs[j]? = some v→w.cell? ⟨b,off+j,none⟩=some v):
  (loadVar t ⟨b,off,none⟩).run P w = .ok (if yY P t then .agg (cs.take n).toArray else cs.headD undef) w:=by
 obtain⟨i,d,hi,hn,eW,hd⟩:=A8 h
 have xE:(cs.take n).length=n:=by simp[hl]
 have mX:=run_loadCells_list (P:=P) w ⟨b,off,none⟩ (cs.take n) (λj v hv=>by
  rw[B5]
  refine hc j v ?_
  rw[aW] at hv
  split at hv
  ·exact hv
  ·cases hv)
 rw[xE] at mX
 unfold loadVar
 simp only[Sem.run_bind,GE h,Result.andThen_ok,Sem.run_ite]
 by_cases ha:yY P t=true
 ·simp[ha,Cn h,mX]
 ·simp only[Bool.not_eq_true] at ha
  cases cs with
  | nil=>simp at hl; omega
  | cons c cs =>
    have:=hc 0 c rfl
    simp only[bw] at this
    simp[ha,this]
def CellsR (N:Nm) (w:World) (fix:Nat→Nat→Prop) (hp:Nat→Option Nat) (cs:List Value) (ps:List PV):Prop:=
 cs.length=ps.length∧(∀x∈ps,x.flat=true)∧∀(i:Nat) (c:Value) (x:PV),cs[i]? = some c→ps[i]? = some x→VR N w fix hp c x
theorem CellsR.dem {fix:Nat→Nat→Prop} {hp:Nat→Option Nat} {cs:List Value} {ps:List PV} (h:CellsR N w fix hp cs ps):CellsR N w fix hp cs (ps.map dem):=by
 refine⟨by simpa using h.1,?_,?_⟩
 ·intro x hx
  obtain⟨y,hy,rfl⟩:=bc.1 hx
  rw[Gz]; exact h.2.1 y hy
 ·intro i c x hc hx
  simp only[aF,ab] at hx
  obtain⟨y,hy,rfl⟩:=hx
  exact(h.2.2 i c y hc hy).dem
theorem CellsR.take {fix:Nat→Nat→Prop} {hp:Nat→Option Nat} {cs:List Value} {ps:List PV} (h:CellsR N w fix hp cs ps) (n:Nat):CellsR N w fix hp (cs.take n) (ps.take n):=by
 refine⟨by simp[h.1],λx hx=>h.2.1 x (List.mem_of_mem_take hx),?_⟩
 intro i c x hc hx
 rw[aW] at hc hx
 split at hc
 ·rename_i hi; rw[ai hi] at hx; exact h.2.2 i c x hc hx
 ·cases hc
theorem CellsR.drop {fix:Nat→Nat→Prop} {hp:Nat→Option Nat} {cs:List Value} {ps:List PV} (h:CellsR N w fix hp cs ps) (n:Nat):CellsR N w fix hp (cs.drop n) (ps.drop n):=by
 refine⟨by simp[h.1],λx hx=>h.2.1 x (cI hx),?_⟩
 intro i c x hc hx
 rw[bi] at hc hx
 exact h.2.2 _ c x hc hx
theorem CellsR.append {fix:Nat→Nat→Prop} {hp:Nat→Option Nat} {cs ds:List Value} {ps qs:List PV} (h:CellsR N w fix hp cs ps) (k:CellsR N w fix hp ds qs):
  CellsR N w fix hp (cs++ds) (ps++qs):=by
 refine⟨by simp[h.1,k.1],?_,?_⟩
 ·intro x hx
  rcases ay.1 hx with hx|hx
  ·exact h.2.1 x hx
  ·exact k.2.1 x hx
 ·intro i c x hc hx
  by_cases hi:i<cs.length
  ·rw[al hi] at hc
   rw[al (h.1▸hi)] at hx
   exact h.2.2 i c x hc hx
  ·rw[aq (by omega)] at hc
   rw[aq (by have:=h.1; omega),← h.1] at hx
   exact k.2.2 _ c x hc hx
def OwnNil (cs:List Value) (ps:List PV):Prop:=∀(i:Nat) (c:Value) (es:List PV),cs[i]? = some c→ps[i]? = some (.list true es)→c = .slice none 0 0
theorem OwnNil.dem (cs:List Value) (ps:List PV):OwnNil cs (ps.map PI.dem):=by
 intro i c es _ h
 simp only[aF,ab] at h
 obtain⟨q,_,hq⟩:=h
 cases q<;>simp[PI.dem] at hq
theorem OwnNil.take {cs:List Value} {ps:List PV} (h:OwnNil cs ps) (n:Nat):OwnNil (cs.take n) (ps.take n):=by
 intro i c es hc hx
 rw[aW] at hc hx
 split at hc
 ·rename_i hi; rw[ai hi] at hx; exact h i c es hc hx
 ·cases hc
theorem OwnNil.drop {cs:List Value} {ps:List PV} (h:OwnNil cs ps) (n:Nat):OwnNil (cs.drop n) (ps.drop n):=by
 intro i c es hc hx
 rw[bi] at hc hx
 exact h _ c es hc hx
theorem OwnNil.append {cs ds:List Value} {ps qs:List PV} (hl:cs.length=ps.length) (h:OwnNil cs ps) (k:OwnNil ds qs):OwnNil (cs++ds) (ps++qs):=by
 intro i c es hc hx
 by_cases hi:i<cs.length
 ·rw[al hi] at hc
  rw[al (hl▸hi)] at hx
  exact h i c es hc hx
 ·rw[aq (by omega)] at hc
  rw[aq (by omega),← hl] at hx
  exact k _ c es hc hx
theorem CellsR.agg {fix:Nat→Nat→Prop} {hp:Nat→Option Nat} {cs:List Value} {ps:List PV} (h:CellsR N w fix hp cs ps) (ho:OwnNil cs ps):VR N w fix hp (.agg cs.toArray) (.agg ps):=
 .agg cs.toArray ps (by simpa using h.1) h.2.1 (λi c es hc hp=>ho i c es (by simpa using hc) hp) (λi c p hc hp=>h.2.2 i c p (by simpa using hc) hp)
theorem CellsR.of_agg {fix:Nat→Nat→Prop} {hp:Nat→Option Nat} {v:Value} {ps:List PV} (h:VR N w fix hp v (.agg ps)):∃cs:Array Value,v = .agg cs∧CellsR N w fix hp cs.toList ps:=by
 cases h with
 | agg cs _ cS cY _ cZ=>exact⟨cs,rfl,by simpa using cS,cY,λi c p hc hp=>cZ i c p (by simpa using hc) hp⟩
theorem OwnNil.of_agg {fix:Nat→Nat→Prop} {hp:Nat→Option Nat} {cs:Array Value} {ps:List PV} (h:VR N w fix hp (.agg cs) (.agg ps)):OwnNil cs.toList ps:=by
 cases h with
 | agg _ _ cS cY fg cZ=>exact λi c es hc hp=>fg i c es (by simpa using hc) hp
theorem CellsR.of_cells {fix:Nat→Nat→Prop} {hp:Nat→Option Nat} {v:Value} {p:PV} (h:VR N w fix hp v p) (h0:p.cells≠[]):CellsR N w fix hp v.cells.toList p.cells:=by
 obtain⟨h1,h2,h3⟩:=h.cells h0
 exact⟨by simpa using h1,h2,λi c x hc hx=>h3 i c x (by simpa using hc) hx⟩
theorem Gp {fix:Nat→Nat→Prop} {hp:Nat→Option Nat} {size:Nat} {agg:Bool} {ps:List PV} {off:Nat} {u:PV} {cs:List Value} (h:CellsR N w fix hp cs ps)
  (hl:yh size agg ps off=some u) (hs:size≠0) (h1:agg=false→size=1):
  off+size≤cs.length∧VR N w fix hp (if agg then .agg ((cs.drop off).take size).toArray else(cs.drop off).headD undef) u∧cp u=some u:=by
 unfold yh at hl
 cases agg with
 | true =>
   simp only[if_true] at hl
   split at hl
   ·rename_i ez
    simp only[aa] at hl; subst hl
    refine⟨by rw[h.1]; exact ez,?_,rfl⟩
    rw[ai rfl]
    exact(((h.drop off).take size).dem).agg (OwnNil.dem _ _)
   ·simp at hl
 | false =>
   have eY:=h1 rfl
   subst eY
   simp only[aL,if_false] at hl
   split at hl
   ·rename_i v hv
    have cV:off<ps.length:=(ah.1 hv).1
    have eC:off<cs.length:=by rw[h.1]; exact cV
    refine⟨by omega,?_⟩
    have cZ:=h.2.2 off cs[off] v (am eC) hv
    have hd:(cs.drop off).headD undef=cs[off]:=by rw[a8 eC]; rfl
    simp only[aL,if_false,hd]
    unfold cp at hl
    split at hl<;>simp at hl<;>subst hl
    ·exact⟨cZ.dem,rfl⟩
    ·refine⟨cZ,?_⟩
     clear hv hd
     generalize cs[off]=c at cZ
     cases cZ<;>first|rfl|simp_all
   ·simp at hl
theorem SR.lptr {key:Key} {s g off b:Nat} {v:Value} (hv:v = .pointer (some ⟨b,off,none⟩)) (hb:G.box g=some b):SR N w G key v (.lptr s g off):=⟨b,hv,hb⟩
variable {o:Oper} {j:Nat} {next:Act→World→Prop} {Q:Exit→Act→World→Prop} {u:PV} {st1:St}
abbrev yz (N:Nm) (w:World) (G:GS) (a:Act) (st1:St) (u:PV) (vs:List Tmp) (ops:List Oper) (j:Nat) (o:Oper) (next:Act→World→Prop):Prop:=
 ∀a' w' G',FI N w' G' (put st1 j (yF vs o.dst) u) a' vs (x7 vs ops)→Ext w G w' G'→a'.tmps.size=a.tmps.size→next a' w'
theorem c31 (hE:EnvOk E N) (nm:Names vs (x7 vs ops)) (ho:ops[j]? = some o) (hf:FI N w G st a vs (x7 vs ops)) {x:Operand} {p:PX} (hx:(execOp a.eval o).run P w = .ok (.value (a.eval x)) w)
  (hc:cx E vs ops x=some p) (hs:(rd st p).map (·,st)=some (u,st1)) (hk:yz N w G a st1 u vs ops j o next):o.wp P a w next Q:=by
 simp only[ab,ac] at hs
 obtain⟨r,hr,rfl,rfl⟩:=hs
 obtain⟨h1,h2⟩:=yH hE hc hf hr
 exact yJ nm ho hf hx (SR.of_pure h1 h2) hk
theorem c1X (hE:EnvOk E N) (nm:Names vs (x7 vs ops)) (ho:ops[j]? = some o) (hf:FI N w G st a vs (x7 vs ops)) {c x y:Operand} {pc px py:PX} (cW:o.op = .pick c x y)
  (hc:cx E vs ops c=some pc) (hx:cx E vs ops x=some px) (hy:cx E vs ops y=some py) {cf:yg} (hs:opv cf (.pick pc px py) st=some (u,st1)) (hk:yz N w G a st1 u vs ops j o next):o.wp P a w next Q:=by
 simp only[opv] at hs
 split at hs
 ·rename_i t ht
  simp only[ab,ac] at hs
  obtain⟨r,hr,rfl,rfl⟩:=hs
  have hb:=(yH hE hc hf ht).1
  have nj:a.eval c = .bool t:=by generalize a.eval c=z at hb; cases hb; rfl
  cases t with
  | true =>
    obtain⟨h1,h2⟩:=yH hE hx hf hr
    exact yJ nm ho hf (by simp[execOp,cW,nj,asBool]) (SR.of_pure h1 h2) hk
  | false =>
    obtain⟨h1,h2⟩:=yH hE hy hf hr
    exact yJ nm ho hf (by simp[execOp,cW,nj,asBool]) (SR.of_pure h1 h2) hk
 ·simp at hs
theorem b9J (hE:EnvOk E N) (nm:Names vs (x7 vs ops)) (ho:ops[j]? = some o) (hf:FI N w G st a vs (x7 vs ops)) {s:TypeId} {x:Operand} {f:Nat} {px:PX} {fs:Array Field} {fd:Field} {n:Nat} (cW:o.op = .fieldAddr s x f)
  (hu:P.underlying s=some (.struct fs)) (mR:fs[f]? = some fd) (hn:yN P fd.type=some n) (hx:cx E vs ops x=some px) {cf:yg} (hs:opv cf (.faddr fd.offset px) st=some (u,st1)) (hk:yz N w G a st1 u vs ops j o next):o.wp P a w next Q:=by
 have eW:n≠0:=by obtain⟨_,_,_,_,h,_⟩:=A8 hn; exact h
 have run:∀b off,a.eval x = .pointer (some ⟨b,off,none⟩)→(execOp a.eval o).run P w = .ok (.value (.pointer (some ⟨b,off+fd.offset,none⟩))) w:=by
  intro b off h
  simp[execOp,cW,h,Instr.fieldAt,run_underlying hu,mR,Instr.sureAddr,fieldPlace,Cn hn,eW,B5]
 simp only[opv] at hs
 split at hs
 ·rename_i cs ha
  simp only[aa,ac] at hs
  obtain⟨rfl,rfl⟩:=hs
  rcases D4 hE hx hf ha with⟨_,_,_,_,h,_⟩|⟨h,_⟩
  ·simp at h
  ·generalize hv:a.eval x=v at h
   cases h with
   | cptr b off _ cv cY hcell cZ =>
     refine yJ nm ho hf (run b off hv) (SR.of_pure ?_ rfl) hk
     refine .cptr b (off+fd.offset) _ (λk=>cv (fd.offset+k)) (λy hy=>cY y (cI hy)) ?_ ?_
     ·intro k hk
      have:=hcell (fd.offset+k) (by simp at hk; omega)
      simpa[cB] using this
     ·intro k y hy
      rw[bi] at hy
      exact cZ _ _ hy
 ·rename_i s' g off ha
  simp only[aa,ac] at hs
  obtain⟨rfl,rfl⟩:=hs
  rcases D4 hE hx hf ha with⟨_,_,_,b,h,hv,hb⟩|⟨_,h⟩
  ·simp at h
   obtain⟨rfl,rfl,rfl⟩:=h
   exact yJ nm ho hf (run b _ hv) (SR.lptr rfl hb) hk
  ·simp[cp] at h
 ·rename_i n' off ha
  simp only[aa,ac] at hs
  obtain⟨rfl,rfl⟩:=hs
  rcases D4 hE hx hf ha with⟨_,_,_,_,h,_⟩|⟨h,_⟩
  ·simp at h
  ·generalize hv:a.eval x=v at h
   cases h with
   | ptr _ _ b hb=>exact yJ nm ho hf (run b off hv) (SR.of_pure (.ptr _ _ b hb) rfl) hk
 ·simp at hs
theorem b79 (hE:EnvOk E N) (nm:Names vs (x7 vs ops)) (ho:ops[j]? = some o) (hf:FI N w G st a vs (x7 vs ops)) {t e:TypeId} {x i:Operand} {px pi:PX} {n:Nat} (cW:o.op = .indexAddr t x i)
  (hu:P.underlying t=some (.slice e)) (hn:yN P e=some n) (hx:cx E vs ops x=some px) (hi:cx E vs ops i=some pi) {cf:yg} (hs:opv cf (.iaddrS n px pi) st=some (u,st1)) (hk:yz N w G a st1 u vs ops j o next):o.wp P a w next Q:=by
 simp only[opv] at hs
 split at hs
 ·rename_i own es m ga hm
  split at hs
  ·rename_i iX
   split at hs
   ·rename_i y hy
    split at hs
    ·rename_i qH
     simp only[aa,ac] at hs
     obtain⟨rfl,rfl⟩:=hs
     have h:=(yH hE hx hf ga).1
     obtain⟨k,j5⟩:=Ex hE hi hf hm
     have cV:m.toNat<es.length:=(ah.1 hy).1
     generalize hv:a.eval x=v at h
     cases h with
     | nils=>simp at cV
     | void=>simp at cV
     | list _ b off len cap sz _ cv cS db dc cY hcell cZ =>
       have dT:y∈es:=ax hy
       have oB:sz=n:=by rw[← dc y dT]; exact qH
       subst oB
       have cT:(execOp a.eval o).run P w = .ok (.value (.pointer (some ⟨b,off+m.toNat*sz,none⟩))) w:=by
        have h1:m<len:=by omega
        simp[execOp,cW,hv,j5,Instr.indexAt,asIntOf,run_underlying hu,iX,h1,Cn hn,B5]
       refine yJ nm ho hf cT (SR.of_pure ?_ rfl) hk
       refine .cptr b _ _ (λk=>cv (m.toNat*sz+k)) (cY y dT) ?_ ?_
       ·intro k hk
        rw[qH] at hk
        have hb:m.toNat*sz+k<len*sz:=by
         have:(m.toNat+1)*sz≤len*sz:=bq _ (by omega)
         rw[aQ] at this; omega
        have:=hcell _ hb
        simpa[cB] using this
       ·intro k z hz
        exact cZ _ _ hy _ _ hz
    ·simp at hs
   ·simp at hs
  ·simp at hs
 ·rename_i r sz agg len m ga hm
  split at hs
  ·rename_i hc
   obtain⟨rfl,iX,cV⟩:=hc
   simp only[aa,ac] at hs
   obtain⟨rfl,rfl⟩:=hs
   have h:=(yH hE hx hf ga).1
   obtain⟨k,j5⟩:=Ex hE hi hf hm
   generalize hv:a.eval x=v at h
   cases h with
   | rowp _ _ _ _ b cap hb db ec =>
     have cT:(execOp a.eval o).run P w = .ok (.value (.pointer (some ⟨b,0+m.toNat*sz,none⟩))) w:=by
      simp[execOp,cW,hv,j5,Instr.indexAt,asIntOf,run_underlying hu,iX,cV,Cn hn,B5]
     rw[aS] at cT
     exact yJ nm ho hf cT (SR.of_pure (.ptr _ _ b hb) rfl) hk
  ·simp at hs
 ·rename_i r sz agg off len m ga hm
  split at hs
  ·rename_i hc
   obtain⟨rfl,iX,cV⟩:=hc
   simp only[aa,ac] at hs
   obtain⟨rfl,rfl⟩:=hs
   have h:=(yH hE hx hf ga).1
   obtain⟨k,j5⟩:=Ex hE hi hf hm
   generalize hv:a.eval x=v at h
   cases h with
   | rows _ _ _ _ _ b o' cap m' T hb db rV ec kC =>
     have eA:o'=off*sz:=rV.resolve_left (by omega)
     have cT:(execOp a.eval o).run P w = .ok (.value (.pointer (some ⟨b,o'+m.toNat*sz,none⟩))) w:=by
      simp[execOp,cW,hv,j5,Instr.indexAt,asIntOf,run_underlying hu,iX,cV,Cn hn,B5]
     rw[eA,← aQ] at cT
     exact yJ nm ho hf cT (SR.of_pure (.ptr _ _ b hb) rfl) hk
  ·simp at hs
 ·simp at hs
theorem OF {t:TypeId} {n:Nat} (hn:yN P t=some n) {v:Value} {cs:List PV} {u:PV} (h:VR N w G.fix G.heap v (.cptr cs))
  (hl:yh n (yY P t) cs 0=some u):∃r,(Instr.loadAt t v).run P w = .ok r w∧VR N w G.fix G.heap r u∧cp u=some u:=by
 cases h with
 | cptr b off _ cv cY hcell cZ =>
   have eW:n≠0:=by obtain⟨_,_,_,_,h,_⟩:=A8 hn; exact h
   let ds:List Value:=(List.range cs.length).map cv
   have hR:CellsR N w G.fix G.heap ds cs:=by
    refine⟨by simp[ds],cY,?_⟩
    intro i c x hc hx
    have hi:i<cs.length:=(ah.1 hx).1
    simp[ds,hi] at hc
    subst hc
    exact cZ i x hx
   obtain⟨h1,h2,h3⟩:=Gp hR hl eW (Ev hn)
   refine⟨_,?_,h2,h3⟩
   have:=Gq (w:=w) hn b off ds (by simpa using h1) (λj v hv=>by
    have hj:j<cs.length:=by have:=(ah.1 hv).1; simpa[ds] using this
    simp[ds,hj] at hv
    subst hv
    exact(hcell j hj).1)
   simpa[Instr.loadAt,Instr.sureAddr] using this
theorem b4O (hE:EnvOk E N) (nm:Names vs (x7 vs ops)) (ho:ops[j]? = some o) (hf:FI N w G st a vs (x7 vs ops)) {t:TypeId} {x i:Operand} {px pi:PX} (cW:o.op = .index t x i)
  (hu:P.underlying t=some .string) (hx:cx E vs ops x=some px) (hi:cx E vs ops i=some pi) {cf:yg} (hs:opv cf (.indexStr px pi) st=some (u,st1)) (hk:yz N w G a st1 u vs ops j o next):o.wp P a w next Q:=by
 simp only[opv] at hs
 split at hs
 ·rename_i s m ga hm
  split at hs
  ·rename_i iX
   split at hs
   ·rename_i y hy
    simp only[aa,ac] at hs
    obtain⟨rfl,rfl⟩:=hs
    have h:=(yH hE hx hf ga).1
    obtain⟨k,j5⟩:=Ex hE hi hf hm
    generalize hv:a.eval x=v at h
    cases h with
    | str s =>
      have gU:s[m.toNat]? = some y:=by
       have cV:m.toNat<s.data.toList.length:=(ah.1 hy).1
       have eC:m.toNat<s.size:=by rw[bp] at cV; exact cV
       rw[getElem?_pos s m.toNat eC]
       rw[am cV] at hy
       simp only[aa] at hy ⊢
       rw[← hy]; rfl
      refine yJ nm ho hf ?_ (SR.of_pure (.int _ _) rfl) hk
      simp only[execOp,cW,hv,j5,Instr.index,asIntOf,Sem.run_bind,Sem.run_pure,run_underlying hu,Result.andThen_ok,iX,if_true,gU]
   ·simp at hs
  ·simp at hs
 ·simp at hs
end
end PI
set_option linter.unusedSimpArgs false
set_option linter.unusedVariables false
namespace PI
open Go
section
variable {E:Env} {N:Nm} {w:World} {G:GS} {st:St} {a:Act} {vs:List Tmp} {ops:List Oper} {P:Program}
variable {o:Oper} {j:Nat} {next:Act→World→Prop} {Q:Exit→Act→World→Prop} {u:PV} {st1:St}
theorem b8a {op:BinOp} {t:TypeId} {k:IntKind} {x y:Int} (h:GM op k x y=some u):∃v,(binOp op t (.int k x) (.int k y)).run P w = .ok v w∧VR N w G.fix G.heap v u∧cp u=some u:=by
 cases op<;>simp only[GM] at h
 case quo=>
  split at h
  ·simp at h
  ·rename_i h0
   simp at h; subst h
   exact⟨_,by simp[binOp,Op.intDiv,h0],.int _ _,rfl⟩
 case rem=>
  split at h
  ·simp at h
  ·rename_i h0
   simp at h; subst h
   exact⟨_,by simp[binOp,Op.intDiv,h0],.int _ _,rfl⟩
 all_goals first
  | (simp at h; done)
  | (simp only [aa] at h; subst h
     first
      | exact⟨_,by simp only[binOp,Op.intArith,ne_eq,bA,if_false]; rfl,.int _ _,rfl⟩
      | exact⟨_,by simp only[binOp,Op.intBits,ne_eq,bA,if_false]; rfl,.int _ _,rfl⟩
      | exact⟨_,by simp only[binOp,Op.intCmp,ne_eq,bA,if_false]; rfl,.bool _,rfl⟩)
theorem b8b {op:BinOp} {t:TypeId} {x y:ByteArray} (h:GN op x.data.toList y.data.toList=some u):
  ∃v,(binOp op t (.string x) (.string y)).run P w = .ok v w∧VR N w G.fix G.heap v u∧cp u=some u:=by
 cases op<;>simp only[GN] at h
 case add=>
  split at h
  ·rename_i hl
   simp only[aa] at h; subst h
   have h1:¬((x.size+y.size:Nat):Int)>IntKind.i64.max:=by
    have hx:x.data.toList.length=x.size:=bp
    have hy:y.data.toList.length=y.size:=bp
    rw[IntKind.max_i64]; omega
   refine⟨.string (x++y),by simp only[binOp,Op.stringOp,ae h1]; rfl,?_,rfl⟩
   have:(x++y).data.toList=x.data.toList++y.data.toList:=by simp
   rw[← this]
   exact .str _
  ·simp at h
 all_goals first
  | (simp at h; done)
  | (simp only [aa] at h; subst h
     exact⟨_,by simp only[binOp,Op.stringOp,OE]; rfl,.bool _,rfl⟩)
theorem Ul {op:BinOp} {t:TypeId} {k k':IntKind} {x y:Int} (cW:op = .shl∨op = .shr) (h:C8 op (.int k x) (.int k' y)=some u):
  ∃v,(binOp op t (.int k x) (.int k' y)).run P w = .ok v w∧VR N w G.fix G.heap v u∧cp u=some u:=by
 rcases cW with rfl|rfl<;>simp only[C8] at h
 ·split at h
  ·simp at h
  ·rename_i h0
   simp only[aa] at h; subst h
   exact⟨_,by simp only[binOp,Op.shift,ae h0]; rfl,.int _ _,rfl⟩
 ·split at h
  ·simp at h
  ·rename_i h0
   simp only[aa] at h; subst h
   exact⟨_,by simp only[binOp,Op.shift,ae h0]; rfl,.int _ _,rfl⟩
theorem c1Y {op:BinOp} {t:TypeId} {vx vy:Value} {x y:PV} (hx:VR N w G.fix G.heap vx x) (hy:VR N w G.fix G.heap vy y) (h:C8 op x y=some u) (ox oy:Operand):
  ∃v,(do eqGuard op t ox oy vx vy; binOp op t vx vy:Sem Value).run P w = .ok v w∧VR N w G.fix G.heap v u∧cp u=some u:=by
 have key:(∃v,(binOp op t vx vy).run P w = .ok v w∧VR N w G.fix G.heap v u∧cp u=some u)∧(eqGuard op t ox oy vx vy).run P w = .ok () w:=by
  unfold C8 at h
  split at h
  ·rename_i k m k' m'
   cases hx; cases hy
   refine⟨?_,by cases op<;>simp[eqGuard]⟩
   split at h
   ·exact Ul (.inl rfl) (by simpa[C8] using h)
   ·exact Ul (.inr rfl) (by simpa[C8] using h)
   ·split at h
    ·subst_vars
     exact b8a h
    ·simp at h
  ·rename_i s s'
   cases hx; cases hy
   exact⟨b8b h,by cases op<;>simp[eqGuard]⟩
  ·simp at h
 obtain⟨⟨v,h1,h2,h3⟩,h4⟩:=key
 exact⟨v,by simp[h4,h1],h2,h3⟩
theorem Um (hE:EnvOk E N) (nm:Names vs (x7 vs ops)) (ho:ops[j]? = some o) (hf:FI N w G st a vs (x7 vs ops)) {op:BinOp} {t t':TypeId} {x y:Operand} {px py:PX} (cW:o.op = .binOp op t x y t')
  (hx:cx E vs ops x=some px) (hy:cx E vs ops y=some py) {cf:yg} (hs:opv cf (.bin op px py) st=some (u,st1)) (hk:yz N w G a st1 u vs ops j o next):o.wp P a w next Q:=by
 simp only[opv] at hs
 split at hs
 ·rename_i p q hp hq
  simp only[ab,ac] at hs
  obtain⟨r,hr,rfl,rfl⟩:=hs
  obtain⟨v,h1,h2,h3⟩:=c1Y (t:=t) (P:=P) (yH hE hx hf hp).1 (yH hE hy hf hq).1 hr x y
  refine yJ nm ho hf ?_ (SR.of_pure h2 h3) hk
  simp only[execOp,cW,Sem.run_bind,h1,Result.andThen_ok,Sem.run_pure]
 ·simp at hs
theorem Un {d:Nat} {t:TypeId} {k:EK} {vx vy:Value} {x y:PV} {b:Bool} (hx:VR N w G.fix G.heap vx x) (hy:VR N w G.fix G.heap vy y) (h:Bm k x y=some b) (ht:ekT P t=some k):
  (Op.equalIn (d+1) t vx vy).run P w = .ok b w:=by
 unfold ekT at ht
 unfold Bm at h
 split at h
 ·cases hx; cases hy
  simp only[aa] at h; subst h
  split at ht<;>simp at ht
  exact run_equalIn_bool' w d t _ _ (by assumption)
 ·cases hx; cases hy
  split at h
  ·subst_vars
   simp only[aa] at h; subst h
   split at ht<;>simp at ht
   exact run_equalIn_int w d t _ _ _ _ (by assumption)
  ·simp at h
 ·cases hx; cases hy
  simp only[aa] at h; subst h
  split at ht<;>simp at ht
  rw[run_equalIn_string w d t _ _ (by assumption),OE,OE]
 ·simp at h
theorem OG {d:Nat} {cs ds:Array Value} {ps qs:List PV} (hc:CellsR N w G.fix G.heap cs.toList ps) (hd:CellsR N w G.fix G.heap ds.toList qs):∀{fs:List Field} {off:Nat} {ks:List EK} {b:Bool},
  eqFields P fs off=some ks→A5 ks (ps.drop off) (qs.drop off)=some b→(Op.eqFields (d+1) cs ds fs).run P w = .ok b w
 | [], off, ks, b, hk, h => by
   simp[eqFields] at hk; subst hk
   unfold A5 at h
   split at h<;>simp_all [Op.eqFields]
 | f :: fs, off, ks, b, hk, h => by
   simp only[eqFields] at hk
   split at hk
   ·rename_i cX
    obtain⟨h1,h2,h3,h4⟩:=cX
    simp only[aj,ab] at hk
    obtain⟨k,eV,ks',em,rfl⟩:=hk
    unfold A5 at h
    split at h
    ·rename_i heq _ _; simp at heq
    ·rename_i k' ks'' x xs y ys fF jz qU
     simp only[bJ] at fF
     obtain⟨rfl,rfl⟩:=fF
     simp only[aj,ab] at h
     obtain⟨b1,eP,b2,dE,rfl⟩:=h
     have mW:ps[off]? = some x:=by
      have:=aI List.head? jz; simpa[List.head?_drop] using this
     have vE:qs[off]? = some y:=by
      have:=aI List.head? qU; simpa[List.head?_drop] using this
     have nf:off<cs.size:=by have:=(ah.1 mW).1; have:=hc.1; simp at this; omega
     have sV:off<ds.size:=by have:=(ah.1 vE).1; have:=hd.1; simp at this; omega
     have lx:∀(zs:Array Value) (hz:off<zs.size),(part f.type zs f.offset).run P w = .ok zs[off] w:=by
      intro zs hz
      simp[part,GE h3,h4,h1,hz]
     have hx:=hc.2.2 off cs[off] x (by simp[nf]) mW
     have hy:=hd.2.2 off ds[off] y (by simp[sV]) vE
     have uh:ps.drop (off+1)=xs:=by have:=aI List.tail jz; simpa[List.tail_drop] using this
     have ui:qs.drop (off+1)=ys:=by have:=aI List.tail qU; simpa[List.tail_drop] using this
     have ih:=OG (d:=d) hc hd (fs:=fs) (off:=off+1) em (by rw[uh,ui]; exact dE)
     simp only[Op.eqFields,h2,ne_eq,cH,if_true,Sem.run_bind,lx cs nf,lx ds sV,Result.andThen_ok,Un hx hy eP eV,Sem.run_ite]
     cases b1 with
     | true=>simpa using ih
     | false=>simp
    ·simp at h
   ·simp at hk
theorem c6c (hE:EnvOk E N) (hP:E.P=P) (nm:Names vs (x7 vs ops)) (ho:ops[j]? = some o) (hf:FI N w G st a vs (x7 vs ops)) {op:BinOp} {t t':TypeId} {x y:Operand} {px py:PX} {agg:Bool} {ks:List EK} (cW:o.op = .binOp op t x y t')
  (il:op = .eql∨op = .neq) (ht:eqT P t=some (some (agg,ks))) (hx:cx E vs ops x=some px) (hy:cx E vs ops y=some py) {cf:yg} (hs:opv cf (.eq (op == .neq) agg ks px py) st=some (u,st1))
  (hk:yz N w G a st1 u vs ops j o next):o.wp P a w next Q:=by
 simp only[opv] at hs
 split at hs
 ·rename_i p q hp hq
  simp only[ab,ac] at hs
  obtain⟨b,hb,rfl,rfl⟩:=hs
  have fp:=(yH hE hx hf hp).1
  have gU:=(yH hE hy hf hq).1
  have key:∀vx vy,VR N w G.fix G.heap vx p→VR N w G.fix G.heap vy q→(do eqGuard op t x y vx vy; binOp op t vx vy:Sem Value).run P w = .ok (.bool (if op == .neq then !b else b)) w:=by
   intro vx vy iM uj
   unfold eqT at ht
   split at ht
   ·simp at ht
   ·simp at ht
   ·rename_i hu
    simp only[aa,ac] at ht
    obtain⟨rfl,rfl⟩:=ht
    simp only[peq,aL,if_false] at hb
    have he:=Un (P:=P) (d:=9999) (t:=t) iM uj hb (by simp[ekT,hu])
    have:∃c d,p = .bool c∧q = .bool d:=by
     cases p<;>cases q<;>simp[Bm] at hb
     exact⟨_,_,rfl,rfl⟩
    obtain⟨c,d,rfl,rfl⟩:=this
    cases iM; cases uj
    rcases il with rfl|rfl<;>simp[eqGuard,binOp,Op.equal,Op.maxDepth,he]
   ·rename_i fs hu
    split at ht
    ·rename_i ks' i8
     split at ht
     ·rename_i cX
      simp only[aa,ac] at ht
      obtain⟨rfl,rfl⟩:=ht
      simp only[ao,bD] at cX
      simp only[peq,if_true] at hb
      split at hb
      ·obtain⟨cs,rfl,hc⟩:=CellsR.of_agg iM
       obtain⟨ds,rfl,hd⟩:=CellsR.of_agg uj
       have oR:P.fieldsOf t=fs:=by simp[Program.fieldsOf,hu]
       have h1:=run_equalIn_struct (P:=P) w 9999 t cs ds (by rw[oR]; exact hu) cX.1
       rw[oR,OG hc hd i8 (by simpa using hb)] at h1
       rcases il with rfl|rfl
       ·simp only[Sem.run_bind,run_eqGuard_agg w _ t x y cs ds cX.2,Result.andThen_ok,run_eql_struct,h1]; rfl
       ·simp only[Sem.run_bind,run_eqGuard_agg w _ t x y cs ds cX.2,Result.andThen_ok,run_neq_struct,h1]; rfl
      ·simp at hb
     ·simp at ht
    ·simp at ht
   ·simp at ht
  refine yJ nm ho hf ?_ (SR.of_pure (.bool _) rfl) hk
  simp only[execOp,cW,Sem.run_bind,key _ _ fp gU,Result.andThen_ok,Sem.run_pure]
 ·simp at hs
theorem VR.cp_dem3 {N:Nm} {w:World} {fix:Nat→Nat→Prop} {hp:Nat→Option Nat} {v:Value} {p:PV} (h:VR N w fix hp v p):cp (PI.dem p)=some (PI.dem p):=by
 cases h<;>rfl
theorem c6d (hE:EnvOk E N) (nm:Names vs (x7 vs ops)) (ho:ops[j]? = some o) (hf:FI N w G st a vs (x7 vs ops)) {op:UnOp} {t:TypeId} {x:Operand} {px:PX} (cW:o.op = .unOp op t x)
  (hx:cx E vs ops x=some px) {cf:yg} (hs:opv cf (.un op px) st=some (u,st1)) (hk:yz N w G a st1 u vs ops j o next):o.wp P a w next Q:=by
 simp only[opv] at hs
 split at hs
 ·rename_i p hp
  simp only[ab,ac] at hs
  obtain⟨r,hr,rfl,rfl⟩:=hs
  have h:=(yH hE hx hf hp).1
  generalize hv:a.eval x=v at h
  unfold unv at hr
  split at hr
  ·cases h
   simp only[aa] at hr; subst hr
   exact yJ nm ho hf (by simp[execOp,cW,hv,Op.unary]) (SR.of_pure (.bool _) rfl) hk
  ·cases h
   simp only[aa] at hr; subst hr
   exact yJ nm ho hf (by simp only[execOp,cW,hv,Op.unary,Op.intArith]; rfl) (SR.of_pure (.int _ _) rfl) hk
  ·simp at hr
 ·simp at hs
theorem b6s (hE:EnvOk E N) (nm:Names vs (x7 vs ops)) (ho:ops[j]? = some o) (hf:FI N w G st a vs (x7 vs ops)) {s t:TypeId} {k k':IntKind} {x:Operand} {px:PX} (cW:o.op = .convert s t x)
  (hu:P.underlying s=some (.int k')) (ij:P.underlying t=some (.int k)) (hx:cx E vs ops x=some px) {cf:yg} (hs:opv cf (.convInt k px) st=some (u,st1)) (hk:yz N w G a st1 u vs ops j o next):o.wp P a w next Q:=by
 simp only[opv,ab,ac] at hs
 obtain⟨n,hn,rfl,rfl⟩:=hs
 obtain⟨k1,hv⟩:=Ex hE hx hf hn
 refine yJ nm ho hf ?_ (SR.of_pure (.int _ _) rfl) hk
 simp[execOp,cW,hv,convert,run_underlying hu,run_underlying ij,Conv.intToInt]
theorem c1Z (hE:EnvOk E N) (nm:Names vs (x7 vs ops)) (ho:ops[j]? = some o) (hf:FI N w G st a vs (x7 vs ops)) {t:TypeId} {d:TypeDesc} {i:Nat} {x:Operand} {px:PX} (cW:o.op = .makeInterface t x)
  (hu:P.underlying t=some d) (hd:∀m,d≠.interface m) (hi:zG t E.pt 0=some i) (hx:cx E vs ops x=some px) {cf:yg} (hs:opv cf (.ifc true (i+1) px) st=some (u,st1)) (hk:yz N w G a st1 u vs ops j o next):o.wp P a w next Q:=by
 simp only[opv] at hs
 split at hs
 ·rename_i v _ hp
  simp only[aa,ac] at hs
  obtain⟨rfl,rfl⟩:=hs
  have h:=(yH hE hx hf hp).1
  have ht:=hE.pt t i hi
  refine yJ (v := .iface t (a.eval x)) nm ho hf ?_ (SR.of_pure ?_ rfl) hk
  ·have:(Instr.makeInterface t (a.eval x)).run P w = .ok (.iface t (a.eval x)) w:=by
    simp only[Instr.makeInterface,Sem.run_bind,run_underlying hu,Result.andThen_ok]
    cases d<;>first|exact absurd rfl (hd _)|rfl
   simp[execOp,cW,this]
  ·rw[← ht]; exact .iface _ _ _ h
 ·rename_i e _; simp at e
 ·simp at hs
theorem c10 (hE:EnvOk E N) (nm:Names vs (x7 vs ops)) (ho:ops[j]? = some o) (hf:FI N w G st a vs (x7 vs ops)) {t t':TypeId} {d:TypeDesc} {i:Nat} {x:Operand} {px:PX} (cW:o.op = .typeAssert x t' t false)
  (hu:P.underlying t=some d) (hd:∀m,d≠.interface m) (hi:zG t E.pt 0=some i) (hx:cx E vs ops x=some px) {cf:yg} (hs:opv cf (.ifc false (i+1) px) st=some (u,st1)) (hk:yz N w G a st1 u vs ops j o next):o.wp P a w next Q:=by
 simp only[opv] at hs
 split at hs
 ·rename_i e _; simp at e
 ·rename_i n v _ hp
  split at hs
  ·rename_i hn
   simp only[aa,ac] at hs
   obtain⟨rfl,rfl⟩:=hs
   have h:=(yH hE hx hf hp).1
   have ht:=hE.pt t i hi
   generalize hv:a.eval x=z at h
   cases h with
   | iface _ v0 _ h =>
     subst hn
     refine yJ (v:=v0) nm ho hf ?_ (SR.of_pure h.dem h.cp_dem3) hk
     have:(Instr.typeAssert (.iface (N.ty (i+1)) v0) t' t false).run P w = .ok v0 w:=by
      rw[ht]
      simp only[Instr.typeAssert,Sem.run_bind,run_underlying hu,Result.andThen_ok]
      cases d<;>first|exact absurd rfl (hd _)|simp
     simp[execOp,cW,hv,this]
  ·simp at hs
 ·simp at hs
theorem b6t (hE:EnvOk E N) (nm:Names vs (x7 vs ops)) (ho:ops[j]? = some o) (hf:FI N w G st a vs (x7 vs ops)) {i:Nat} {x:Operand} {px:PX} (cW:o.op = .extract x i)
  (hx:cx E vs ops x=some px) {cf:yg} (hs:opv cf (.extract i px) st=some (u,st1)) (hk:yz N w G a st1 u vs ops j o next):o.wp P a w next Q:=by
 simp only[opv] at hs
 split at hs
 ·rename_i ps hp
  simp only[ab,aj,ac] at hs
  obtain⟨r,⟨p,iE,nJ⟩,rfl,rfl⟩:=hs
  have h:=(yH hE hx hf hp).1
  generalize hv:a.eval x=v at h
  cases h with
  | tuple cs _ cS cZ =>
    have hi:i<cs.size:=by have:=(ah.1 iE).1; omega
    have gt:=cZ i cs[i] p (by simp[hi]) iE
    have hd:VR N w G.fix G.heap cs[i] r∧cp r=some r:=by
     unfold cp at nJ
     split at nJ<;>simp at nJ<;>subst nJ
     ·exact⟨gt.dem,rfl⟩
     ·refine⟨gt,?_⟩
      clear iE
      generalize cs[i]=c at gt
      cases gt<;>first|rfl|simp_all
    exact yJ nm ho hf (by simp[execOp,cW,hv,Instr.extract,hi]) (SR.of_pure hd.1 hd.2) hk
 ·simp at hs
theorem Uo (hE:EnvOk E N) (nm:Names vs (x7 vs ops)) (ho:ops[j]? = some o) (hf:FI N w G st a vs (x7 vs ops)) {t:TypeId} {ts:Array TypeId} {x:Operand} {px:PX} {str:Bool} (cW:o.op = .call { callee := .builtin .len,args := #[x],argTypes:=ts })
  (h0:ts[0]? = some t) (hu:if str then P.underlying t=some .string else ∃e,P.underlying t=some (.slice e)) (hx:cx E vs ops x=some px) {cf:yg} (hs:opv cf (.len str px) st=some (u,st1)) (hk:yz N w G a st1 u vs ops j o next):o.wp P a w next Q:=by
 simp only[opv] at hs
 split at hs
 ·rename_i s hp
  simp only[aa,ac] at hs
  obtain⟨rfl,rfl⟩:=hs
  have h:=(yH hE hx hf hp).1
  simp only[if_true] at hu
  generalize hv:a.eval x=v at h
  cases h with
  | str s =>
    have hl:s.data.toList.length=s.size:=bp
    refine yJ nm ho hf ?_ (SR.of_pure (.int _ _) rfl) hk
    rw[hl]
    simp only[execOp,cW,resolve,Sem.run_bind,Sem.run_pure,Result.andThen_ok,invoke,builtin,Builtin.len_,h0,List.map_toArray,az,bB,hv,bZ,List.getElem?_cons_zero,run_underlying hu,goInt]
 ·rename_i b es hp
  simp only[aa,ac] at hs
  obtain⟨rfl,rfl⟩:=hs
  have h:=(yH hE hx hf hp).1
  simp only[aL,if_false] at hu
  obtain⟨e,ij⟩:=hu
  generalize hv:a.eval x=v at h
  cases h with
  | nils =>
    refine yJ nm ho hf ?_ (SR.of_pure (.int _ _) rfl) hk
    simp[execOp,cW,hv,resolve,invoke,builtin,Builtin.len_,h0,run_underlying ij,goInt]
  | void =>
    refine yJ nm ho hf ?_ (SR.of_pure (.int _ _) rfl) hk
    simp[execOp,cW,hv,resolve,invoke,builtin,Builtin.len_,h0,run_underlying ij,goInt]
  | list _ b off len cap sz _ cv cS =>
    refine yJ nm ho hf ?_ (SR.of_pure (.int _ _) rfl) hk
    simp[execOp,cW,hv,resolve,invoke,builtin,Builtin.len_,h0,run_underlying ij,goInt,cS]
 ·rename_i m sz agg n hp
  simp only[aa,ac] at hs
  obtain⟨rfl,rfl⟩:=hs
  have h:=(yH hE hx hf hp).1
  simp only[aL,if_false] at hu
  obtain⟨e,ij⟩:=hu
  generalize hv:a.eval x=v at h
  cases h with
  | rowp _ _ _ _ b cap hb db ec =>
    refine yJ nm ho hf ?_ (SR.of_pure (.int _ _) rfl) hk
    simp[execOp,cW,hv,resolve,invoke,builtin,Builtin.len_,h0,run_underlying ij,goInt]
 ·rename_i m sz agg off n hp
  simp only[aa,ac] at hs
  obtain⟨rfl,rfl⟩:=hs
  have h:=(yH hE hx hf hp).1
  simp only[aL,if_false] at hu
  obtain⟨e,ij⟩:=hu
  generalize hv:a.eval x=v at h
  cases h with
  | rows _ _ _ _ _ b o' cap m' T hb db rV ec kC =>
    refine yJ nm ho hf ?_ (SR.of_pure (.int _ _) rfl) hk
    simp[execOp,cW,hv,resolve,invoke,builtin,Builtin.len_,h0,run_underlying ij,goInt]
 ·rename_i hp
  simp only[aa,ac] at hs
  obtain⟨rfl,rfl⟩:=hs
  have h:=(yH hE hx hf hp).1
  simp only[aL,if_false] at hu
  obtain⟨e,ij⟩:=hu
  generalize hv:a.eval x=v at h
  cases h with
  | nils' =>
    refine yJ nm ho hf ?_ (SR.of_pure (.int _ _) rfl) hk
    simp[execOp,cW,hv,resolve,invoke,builtin,Builtin.len_,h0,run_underlying ij,goInt]
 ·rename_i hp
  simp only[aa,ac] at hs
  obtain⟨rfl,rfl⟩:=hs
  have h:=(yH hE hx hf hp).1
  simp only[aL,if_false] at hu
  obtain⟨e,ij⟩:=hu
  generalize hv:a.eval x=v at h
  cases h with
  | void' =>
    refine yJ nm ho hf ?_ (SR.of_pure (.int _ _) rfl) hk
    simp[execOp,cW,hv,resolve,invoke,builtin,Builtin.len_,h0,run_underlying ij,goInt]
 ·simp at hs
theorem c32 (hE:EnvOk E N) (nm:Names vs (x7 vs ops)) (ho:ops[j]? = some o) (hf:FI N w G st a vs (x7 vs ops)) {t e:TypeId} {ts:Array TypeId} {x:Operand} {px:PX}
  (cW:o.op = .call { callee := .builtin .cap,args := #[x],argTypes:=ts }) (h0:ts[0]? = some t) (hu:P.underlying t=some (.slice e)) (hx:cx E vs ops x=some px) {cf:yg} (hs:opv cf (.cap px) st=some (u,st1)) (hk:yz N w G a st1 u vs ops j o next):o.wp P a w next Q:=by
 simp only[opv] at hs
 split at hs
 ·rename_i hp
  simp only[aa,ac] at hs
  obtain⟨rfl,rfl⟩:=hs
  have h:=(yH hE hx hf hp).1
  generalize hv:a.eval x=v at h
  cases h with
  | nils' =>
    refine yJ nm ho hf ?_ (SR.of_pure (.int _ _) rfl) hk
    simp[execOp,cW,hv,resolve,invoke,builtin,Builtin.cap_,h0,run_underlying hu,goInt]
 ·simp at hs
end
section
variable {E:Env} {N:Nm} {w:World} {G:GS} {st:St} {a:Act} {vs:List Tmp} {ops:List Oper} {P:Program}
variable {o:Oper} {j:Nat} {next:Act→World→Prop} {Q:Exit→Act→World→Prop} {u:PV} {st1:St}
theorem Kx {n:Int} {y:Nat} {k:IntKind} (h0:0≤n) (h1:n≤y) (c:BoundsCode):(Instr.sliceBound (.int k n) y c).run P w = .ok n.toNat w:=by
 simp[Instr.sliceBound,asIntOf,h0,h1]
theorem Up (hE:EnvOk E N) (hf:FI N w G st a vs (x7 vs ops)) {x:Option Operand} {px:Option PX} {dflt most r:Nat} (hc:cxo E vs ops x=some px) (hr:bound st px dflt most=some r):
  (x=none∧r=dflt)∨∃y k n,x=some y∧a.eval y = .int k n∧0≤n∧n≤most∧r=n.toNat:=by
 cases x with
 | none=>simp[cxo] at hc; subst hc; simp[bound] at hr; exact .inl ⟨rfl,hr.symm⟩
 | some y =>
   simp only[cxo,ab] at hc
   obtain⟨p,hp,rfl⟩:=hc
   simp only[bound] at hr
   split at hr
   ·rename_i n hn
    split at hr
    ·rename_i hb
     simp at hr
     obtain⟨k,hk⟩:=Ex hE hp hf hn
     exact .inr ⟨y,k,n,rfl,hk,hb.1,hb.2,hr.symm⟩
    ·simp at hr
   ·simp at hr
theorem GF (hE:EnvOk E N) (hf:FI N w G st a vs (x7 vs ops)) {lo hi:Option Operand} {pl ph:Option PX} {isSlice:Bool} {len cap l h:Nat} (db:len≤cap)
  (hl:cxo E vs ops lo=some pl) (hh:cxo E vs ops hi=some ph) (h1:bound st ph len len=some h) (h2:bound st pl 0 h=some l):
  (Instr.sliceBounds isSlice len cap (lo.map a.eval) (hi.map a.eval) none).run P w = .ok (l,h,cap) w∧l≤h∧h≤len:=by
 have hH:=Up hE hf hh h1
 have hL:=Up hE hf hl h2
 have jS:h≤len:=by rcases hH with⟨_,rfl⟩|⟨_,_,n,_,_,_,_,rfl⟩<;>omega
 have pu:l≤h:=by rcases hL with⟨_,rfl⟩|⟨_,_,n,_,_,_,_,rfl⟩<;>omega
 refine⟨?_,pu,jS⟩
 rcases hH with⟨rfl,so⟩|⟨y,k,n,rfl,hy,eW,pp,so⟩<;>rcases hL with⟨rfl,ft⟩|⟨y',k',n',rfl,gU,qV,qW,ft⟩<;>subst so<;>subst ft
 ·simp[Instr.sliceBounds]
 ·simp[Instr.sliceBounds,gU,Kx qV qW]
 ·simp[Instr.sliceBounds,hy,Kx (P:=P) (w:=w) eW (show n≤(cap:Int) by omega)]
 ·simp[Instr.sliceBounds,hy,gU,Kx (P:=P) (w:=w) eW (show n≤(cap:Int) by omega),Kx (P:=P) (w:=w) qV qW]
theorem b8e (s:ByteArray) (l h:Nat):(s.extract l h).data.toList=(s.data.toList.take h).drop l:=by
 simp[ByteArray.data_extract,List.drop_take]
theorem b8f (hE:EnvOk E N) (nm:Names vs (x7 vs ops)) (ho:ops[j]? = some o) (hf:FI N w G st a vs (x7 vs ops)) {t:TypeId} {x:Operand} {lo hi:Option Operand} {px:PX} {pl ph:Option PX} {size:Nat} (cW:o.op = .slice t x lo hi none)
  (hu:P.underlying t=some .string) (hx:cx E vs ops x=some px) (hl:cxo E vs ops lo=some pl) (hh:cxo E vs ops hi=some ph) {cf:yg} (hs:opv cf (.slice true size px pl ph) st=some (u,st1))
  (hk:yz N w G a st1 u vs ops j o next):o.wp P a w next Q:=by
 simp only[opv] at hs
 split at hs
 ·rename_i s hp
  simp only[aj,ab,ac] at hs
  obtain⟨h,h1,l,h2,rfl,rfl⟩:=hs
  have ev:=(yH hE hx hf hp).1
  generalize hv:a.eval x=v at ev
  cases ev with
  | str s =>
    have dc:s.data.toList.length=s.size:=bp
    rw[dc] at h1
    obtain⟨hb,_,_⟩:=GF (P:=P) (isSlice:=false) hE hf (an s.size) hl hh h1 h2
    refine yJ nm ho hf (v := .string (s.extract l h)) ?_ (SR.of_pure ?_ rfl) hk
    ·simp[execOp,cW,hv,Instr.sliceAt,Instr.slice,run_underlying hu,hb]
    ·rw[← b8e]; exact .str _
 ·rename_i heq _; simp at heq
 ·rename_i heq _; simp at heq
 ·rename_i heq _; simp at heq
 ·simp at hs
theorem b8g (hE:EnvOk E N) (nm:Names vs (x7 vs ops)) (ho:ops[j]? = some o) (hf:FI N w G st a vs (x7 vs ops)) {t e:TypeId} {x:Operand} {lo hi:Option Operand} {px:PX} {pl ph:Option PX} {size:Nat} (cW:o.op = .slice t x lo hi none)
  (hu:P.underlying t=some (.slice e)) (hn:yN P e=some size) (hx:cx E vs ops x=some px) (hl:cxo E vs ops lo=some pl) (hh:cxo E vs ops hi=some ph) {cf:yg} (hs:opv cf (.slice false size px pl ph) st=some (u,st1))
  (hk:yz N w G a st1 u vs ops j o next):o.wp P a w next Q:=by
 simp only[opv] at hs
 split at hs
 ·rename_i heq _; simp at heq
 ·rename_i own es _ hp
  split at hs
  ·rename_i jL
   simp only[aj,ab,ac] at hs
   obtain⟨h,h1,l,h2,rfl,rfl⟩:=hs
   have ev:=(yH hE hx hf hp).1
   generalize hv:a.eval x=v at ev
   cases ev with
   | nils =>
     obtain⟨hb,pu,jS⟩:=GF (P:=P) (isSlice:=true) hE hf (an 0) hl hh h1 h2
     simp at jS; subst jS
     have:l=0:=by omega
     subst this
     refine yJ nm ho hf (v := .slice none 0 0) ?_ (SR.of_pure (.nils false) rfl) hk
     simp[execOp,cW,hv,Instr.sliceAt,Instr.slice,run_underlying hu,hb,Cn hn]
   | void _ ad cap =>
     obtain⟨hb,pu,jS⟩:=GF (P:=P) (isSlice:=true) hE hf (bG cap) hl hh h1 h2
     simp at jS; subst jS
     have:l=0:=by omega
     subst this
     refine yJ nm ho hf (v := .slice (some ad) 0 cap) ?_ (SR.of_pure (.void false ad cap) rfl) hk
     have hz:(if cap=0 then some ad else some ad)=some ad:=by split<;>rfl
     simp[execOp,cW,hv,Instr.sliceAt,Instr.slice,run_underlying hu,hb,Cn hn,Addr.add_zero']
   | list _ b off len cap sz _ cv cS db dc cY hcell cZ =>
     subst cS
     obtain⟨hb,pu,jS⟩:=GF (P:=P) (isSlice:=true) hE hf db hl hh h1 h2
     have cT:(execOp a.eval o).run P w = .ok (.value (.slice (some (if cap=l then⟨b,off,none⟩ else⟨b,off+l*size,none⟩)) (h - l) (cap - l))) w:=by
      by_cases hc:cap=l
      ·rw[ai hc]
       simp only[execOp,cW,hv,Instr.sliceAt,Instr.slice,Sem.run_bind,run_underlying hu,Result.andThen_ok,hb,Cn hn,ai hc,Sem.run_pure,b9]
      ·rw[ae hc]
       simp only[execOp,cW,hv,Instr.sliceAt,Instr.slice,Sem.run_bind,run_underlying hu,Result.andThen_ok,hb,Cn hn,ae hc,Sem.run_pure,b9,aH,B5]
     refine yJ nm ho hf cT (SR.of_pure ?_ rfl) hk
     have iN:((es.take h).drop l).length=h - l:=by simp; omega
     have yC:∀(i:Nat) (y:PV),((es.take h).drop l)[i]? = some y→es[l+i]? = some y:=by
      intro i y hy
      rw[bi,aW] at hy
      split at hy
      ·exact hy
      ·cases hy
     have dT:∀y∈(es.take h).drop l,y∈es:=λy hy=>List.mem_of_mem_take (cI hy)
     by_cases hc:cap=l
     ·have he:(es.take h).drop l=[]:=bC.1 (by rw[iN]; omega)
      rw[ai hc,he]
      have:h - l=0:=by omega
      rw[this]
      exact .list false b off 0 _ 0 [] cv rfl (bG _) (by simp) (by simp) (by simp) (by simp)
     ·rw[ae hc]
      by_cases hz:h - l=0
      ·have he:(es.take h).drop l=[]:=bC.1 (by rw[iN]; omega)
       rw[he,hz]
       exact .list false b _ 0 _ 0 [] cv rfl (bG _) (by simp) (by simp) (by simp) (by simp)
      ·have oB:sz=size:=by
        cases es with
        | nil=>simp at jS; omega
        | cons y ys =>
          have:=dc y (by simp)
          simp[yU] at jL
          omega
       subst oB
       refine .list false b _ (h - l) _ sz _ (λk=>cv (l*sz+k)) iN (by omega) (λy hy=>dc y (dT y hy)) (λy hy=>cY y (dT y hy)) ?_ ?_
       ·intro k hk
        have cV:l*sz+k<es.length*sz:=by
         have h3:(l+(h - l))*sz≤es.length*sz:=bq _ (by omega)
         rw[aQ] at h3; omega
        have:=hcell _ cV
        simpa[cB] using this
       ·intro i y hy j' z iH
        have:=cZ (l+i) y (yC i y hy) j' z iH
        simpa[aQ,cB] using this
  ·simp at hs
 ·rename_i _ hp
  simp only[aj,ab,ac] at hs
  obtain⟨h,h1,l,h2,rfl,rfl⟩:=hs
  have ev:=(yH hE hx hf hp).1
  generalize hv:a.eval x=v at ev
  cases ev with
  | nils' =>
    obtain⟨hb,pu,jS⟩:=GF (P:=P) (isSlice:=true) hE hf (an 0) hl hh h1 h2
    have:h=0:=by omega
    subst this
    have:l=0:=by omega
    subst this
    refine yJ nm ho hf (v := .slice none 0 0) ?_ (SR.of_pure .nils' rfl) hk
    simp[execOp,cW,hv,Instr.sliceAt,Instr.slice,run_underlying hu,hb,Cn hn]
 ·rename_i n sz agg len _ hp
  split at hs
  ·rename_i dc
   subst dc
   simp only[aj,ab,ac] at hs
   obtain⟨h,h1,l,h2,rfl,rfl⟩:=hs
   have ev:=(yH hE hx hf hp).1
   generalize hv:a.eval x=v at ev
   cases ev with
   | rowp _ _ _ _ b cap ji db ec =>
     obtain⟨T,m,eY,kl⟩:=ec
     obtain⟨hb,pu,jS⟩:=GF (P:=P) (isSlice:=true) hE hf db hl hh h1 h2
     have cT:(execOp a.eval o).run P w = .ok (.value (.slice (some (if cap=l then⟨b,0,none⟩ else⟨b,0+l*sz,none⟩)) (h - l) (cap - l))) w:=by
      by_cases hc:cap=l
      ·rw[ai hc]
       simp only[execOp,cW,hv,Instr.sliceAt,Instr.slice,Sem.run_bind,run_underlying hu,Result.andThen_ok,hb,Cn hn,ai hc,Sem.run_pure,b9]
      ·rw[ae hc]
       simp only[execOp,cW,hv,Instr.sliceAt,Instr.slice,Sem.run_bind,run_underlying hu,Result.andThen_ok,hb,Cn hn,ae hc,Sem.run_pure,b9,aH,B5]
     have xF:h*sz≤cap*sz:=bq _ (by omega)
     by_cases jF:l=0
     ·subst jF
      rw[ai rfl] at hk
      have he:(if cap=0 then(⟨b,0,none⟩:Addr) else⟨b,0+0*sz,none⟩)=⟨b,0,none⟩:=by split<;>simp
      rw[he,Nat.sub_zero,Nat.sub_zero] at cT
      exact yJ nm ho hf cT (SR.of_pure (.rowp _ _ _ _ b cap ji (by omega) ⟨T,m,eY,kl⟩) rfl) hk
     ·rw[ae jF] at hk
      have fN:(l+(h - l))*sz≤m:=by rw[show l+(h - l)=h by omega]; omega
      by_cases hc:cap=l
      ·rw[ai hc] at cT
       exact yJ nm ho hf cT (SR.of_pure (.rows _ _ _ _ _ b 0 _ m T ji (by omega) (.inl (by omega)) eY fN) rfl) hk
      ·rw[ae hc] at cT
       exact yJ nm ho hf cT (SR.of_pure (.rows _ _ _ _ _ b _ _ m T ji (by omega) (.inr (by rw[aS])) eY fN) rfl) hk
  ·simp at hs
 ·simp at hs
theorem Uq {mx:Bool}:∀{ps:List PV} {vals:List Value} {p:PV} {v:Value},VR N w G.fix G.heap v p→vals.length=ps.length →
  (∀(i:Nat) (x:Value) (q:PV),vals[i]? = some x→ps[i]? = some q→VR N w G.fix G.heap x q)→cp p=some p→Ez mx p ps=some u →
  ∃r,(vals.foldlM (if mx then Builtin.max2 else Builtin.min2) v).run P w = .ok r w∧VR N w G.fix G.heap r u∧cp u=some u
 | [], vals, p, v, hv, hl, _, gc, hm => by
   have:vals=[]:=by simpa using hl
   subst this
   simp[Ez] at hm; subst hm
   exact⟨v,by simp,hv,gc⟩
 | q :: ps, vals, p, v, hv, hl, hr, gc, hm => by
   cases vals with
   | nil=>simp at hl
   | cons x vals =>
     unfold Ez at hm
     split at hm
     ·simp_all
     ·rename_i k m k' m' r heq
      simp only[bJ] at heq
      obtain⟨rfl,rfl⟩:=heq
      split at hm
      ·subst_vars
       have hx:=hr 0 x _ rfl rfl
       cases hv; cases hx
       obtain⟨r,h1,h2,h3⟩:=Uq (mx:=mx) (vals:=vals) (VR.int _ (if mx then(if m'>m then m' else m) else(if m'<m then m' else m))) (by simpa using hl)
        (λi y z hy hz=>hr (i+1) y z (by simpa using hy) (by simpa using hz)) rfl hm
       refine⟨r,?_,h2,h3⟩
       cases mx<;>simpa[Builtin.max2,Builtin.min2] using h1
      ·simp at hm
     ·simp at hm
theorem Ur (hE:EnvOk E N) (nm:Names vs (x7 vs ops)) (ho:ops[j]? = some o) (hf:FI N w G st a vs (x7 vs ops)) {mx:Bool} {xs:Array Operand} {ts:Array TypeId} {pxs:List PX}
  (cW:o.op = .call { callee := .builtin (if mx then .max else .min),args:=xs,argTypes:=ts }) (hx:cxs E vs ops xs.toList=some pxs) {cf:yg} (hs:opv cf (.minmax mx pxs) st=some (u,st1))
  (hk:yz N w G a st1 u vs ops j o next):o.wp P a w next Q:=by
 simp only[opv] at hs
 split at hs
 ·rename_i p ps hp
  simp only[ab,ac] at hs
  obtain⟨r,hr,rfl,rfl⟩:=hs
  obtain⟨h1,h2⟩:=Ck hE hf hx hp
  cases jz:xs.toList with
  | nil=>simp[jz] at h1
  | cons y ys =>
    rw[jz] at h1 h2
    have h0:=h2 0 y p rfl rfl
    obtain⟨v,jo,iV,xG⟩:=Uq (P:=P) (vals:=ys.map a.eval) h0.1 (by simpa using h1) (by
     intro i x q fp hq
     simp only[aF,ab] at fp
     obtain⟨z,hz,rfl⟩:=fp
     exact(h2 (i+1) z q (by simpa using hz) (by simpa using hq)).1) h0.2 hr
    refine yJ nm ho hf (v:=v) ?_ (SR.of_pure iV xG) hk
    cases mx
    ·simp only[aL,if_false] at cW jo
     simp[execOp,cW,resolve,invoke,builtin,Builtin.min_,jz,jo]
    ·simp only[if_true] at cW jo
     simp[execOp,cW,resolve,invoke,builtin,Builtin.max_,jz,jo]
 ·simp at hs
theorem OH (off:Nat):∀(vc:List Value) (n:Nat) (cs:Array Value) (k:Nat),off+n+vc.length≤cs.size →
  ((vc.zipIdx n).foldl (λ(cs:Array Value) (x:Value×Nat)=>cs.setIfInBounds (off+x.2) x.1) cs)[k]? = if off+n≤k∧k<off+n+vc.length then vc[k - (off+n)]? else cs[k]?
 | [],n,cs,k,_=>by simp; omega
 | v :: vc, n, cs, k, hn => by
   simp only[aB] at hn
   simp only[List.zipIdx_cons,cD]
   rw[OH off vc (n+1) _ k (by simp; omega)]
   simp only[aB]
   by_cases h1:k=off+n
   ·subst h1
    rw[ae (by omega),ai (by omega)]
    simp[bx]
    omega
   ·by_cases h2:off+n≤k∧k<off+n+(vc.length+1)
    ·rw[ai (by omega),ai h2]
     rw[show k - (off+n)=(k - (off+(n+1)))+1 by omega]
     simp
    ·rw[ae (by omega),ae h2]
     simp[bx,Ne.symm h1]
theorem OJ (off:Nat) (vc:Array Value) (cs:Array Value) (h:off+vc.size≤cs.size):
  (vc.zipIdx.foldl (λ(cs:Array Value) (x:Value×Nat)=>cs.setIfInBounds (off+x.2) x.1) cs).toList=cs.toList.take off++(vc.toList++cs.toList.drop (off+vc.size)):=by
 apply bK
 intro k
 have hg:=OH off vc.toList 0 cs k (by simpa using h)
 have he:vc.zipIdx.foldl (λ(cs:Array Value) (x:Value×Nat)=>cs.setIfInBounds (off+x.2) x.1) cs=(vc.toList.zipIdx 0).foldl (λ(cs:Array Value) (x:Value×Nat)=>cs.setIfInBounds (off+x.2) x.1) cs:=by
  rw[← Array.foldl_toList]; simp
 rw[he,ci,hg]
 simp only[bw,bp]
 by_cases h1:k<off
 ·rw[ae (by omega),al (by simp; omega),aW,ai h1,ci]
 ·rw[aq (by simp; omega)]
  have uk:(cs.toList.take off).length=off:=by simp; omega
  rw[uk]
  by_cases h2:k<off+vc.size
  ·rw[ai ⟨by omega,h2⟩,al (by simp; omega)]
  ·rw[ae (by omega),aq (by simp; omega),bi,ci]
   congr 1
   simp; omega
theorem Us (hE:EnvOk E N) (hf:FI N w G st a vs (x7 vs ops)) {place:Nat→Option (Nat×Nat)}:∀{parts:List (Nat×Operand)} {ps:List (Nat×Nat×PX)} {qs:List (Nat×Nat×PV)} {zs rs:List PV} {cs:Array Value},
  E8 E vs ops place parts=some ps→rdParts st ps=some qs→B7 zs qs=some rs→CellsR N w G.fix G.heap cs.toList zs →
  OwnNil cs.toList zs→∃ds,Instr.fill place cs (parts.map λ(i,x)=>(i,a.eval x))=some ds∧CellsR N w G.fix G.heap ds.toList rs∧OwnNil ds.toList rs
 | [], ps, qs, zs, rs, cs, hc, hr, yw, hR, hO => by
   simp[E8] at hc; subst hc
   simp[rdParts] at hr; subst hr
   simp[B7] at yw; subst yw
   exact⟨cs,rfl,hR,hO⟩
 | (i, x) :: parts, ps, qs, zs, rs, cs, hc, hr, yw, hR, hO => by
   simp only[E8,aj] at hc
   obtain⟨p,hp,hc⟩:=hc
   split at hc
   ·simp at hc
   ·rename_i pZ
    simp only[aj,ab] at hc
    obtain⟨px,gj,ps',fo,rfl⟩:=hc
    simp only[rdParts,aj,ab] at hr
    obtain⟨v,hv,qs',lZ,rfl⟩:=hr
    simp only[B7] at yw
    split at yw
    ·rename_i cX
     have cZ:=(yH hE gj hf hv).1
     have dB:=CellsR.of_cells cZ (by intro e; rw[e] at cX; simp at cX; omega)
     have dc:(a.eval x).cells.size=p.2:=by have:=dB.1; simp at this; omega
     have ez:p.1+(a.eval x).cells.size≤cs.size:=by have:=hR.1; simp at this; omega
     have ee:CellsR N w G.fix G.heap ((a.eval x).cells.zipIdx.foldl (λ(cs:Array Value) (y:Value×Nat)=>cs.setIfInBounds (p.1+y.2) y.1) cs).toList (zs.take p.1++(v.cells.map dem++zs.drop (p.1+p.2))):=by
      rw[OJ _ _ _ ez,dc]
      exact(hR.take _).append (dB.dem.append (hR.drop _))
     have qX:OwnNil ((a.eval x).cells.zipIdx.foldl (λ(cs:Array Value) (y:Value×Nat)=>cs.setIfInBounds (p.1+y.2) y.1) cs).toList (zs.take p.1++(v.cells.map dem++zs.drop (p.1+p.2))):=by
      rw[OJ _ _ _ ez,dc]
      refine(hO.take _).append ?_ ((OwnNil.dem _ _).append ?_ (hO.drop _))
      ·have:=hR.1; simp at this ⊢; omega
      ·have:=dB.1; simpa using this
     obtain⟨ds,h1,h2⟩:=Us hE hf fo lZ yw ee qX
     refine⟨ds,?_,h2⟩
     simp only[az,Instr.fill,hp]
     rw[ae (by simp[dc]; omega)]
     exact h1
    ·simp at yw
theorem D5 {fix:Nat→Nat→Prop} {hp:Nat→Option Nat} {t:TypeId} {z:List PV} (h:zV P t=some z):
  ∃i zv,P.info? t=some i∧i.zero=some zv∧i.size≠0∧z.length=i.size∧CellsR N w fix hp zv.cells.toList z∧OwnNil zv.cells.toList z:=by
 unfold zV at h
 split at h
 ·rename_i i hi
  split at h
  ·rename_i zv hz
   simp only[aj] at h
   obtain⟨cs,dS,h⟩:=h
   split at h
   ·rename_i cX
    simp at h; subst h
    obtain⟨h1,h2,h3⟩:=OA (N:=N) (w:=w) (fix:=fix) (hp:=hp) dS
    exact⟨i,zv,hi,hz,cX.2,cX.1,⟨h1,h2,h3⟩,λk c es hc he=>GD dS k c es hc he⟩
   ·simp at h
  ·simp at h
 ·simp at h
theorem Ut (hE:EnvOk E N) (nm:Names vs (x7 vs ops)) (ho:ops[j]? = some o) (hf:FI N w G st a vs (x7 vs ops)) {t:TypeId} {parts:Array (Nat×Operand)} {fs:Array Field} {places:List (Nat×Nat)} {z:List PV} {ps:List (Nat×Nat×PX)}
  (cW:o.op = .build t parts) (hu:P.underlying t=some (.struct fs)) (hz:zV P t=some z) (fH:fs.toList.mapM (λf=>(P.info? f.type).map λi=>(f.offset,i.size))=some places)
  (hc:E8 E vs ops (places.toArray[·]?) parts.toList=some ps) {cf:yg} (hs:opv cf (.build z ps) st=some (u,st1)) (hk:yz N w G a st1 u vs ops j o next):o.wp P a w next Q:=by
 simp only[opv,ab,aj,ac] at hs
 obtain⟨rs,⟨qs,hq,yw⟩,rfl,rfl⟩:=hs
 obtain⟨i,zv,hi,jN,_,_,hR,hO⟩:=D5 (N:=N) (w:=w) (fix:=G.fix) (hp:=G.heap) hz
 obtain⟨ds,h1,h2,h3⟩:=Us hE hf hc hq yw hR hO
 refine yJ nm ho hf (v := .agg ds) ?_ (SR.of_pure (by simpa using h2.agg h3) rfl) hk
 have hb:P.built t (parts.map λ(i,x)=>(i,a.eval x)).toList=some ds:=by
  simp only[Program.built,hi,hu,jN,fH]
  simpa using h1
 simp[execOp,cW,run_build w t _ ds hb]
end
def GS.give (G:GS) (b:Nat) (k:Key):GS:={ G with ow:=λx=>if x=b then some k else G.ow x }
section
variable {E:Env} {N:Nm} {w:World} {G:GS} {st:St} {a:Act} {vs:List Tmp} {ops:List Oper} {P:Program}
variable {o:Oper} {j:Nat} {next:Act→World→Prop} {Q:Exit→Act→World→Prop} {u:PV} {st1:St}
theorem FI.src (hf:FI N w G st a vs (x7 vs ops)) {px:PX} {es:List PV} {G':GS} {w':World} (gj:∀p,px≠.c p) (hr:raw st px=some (.list true es))
  (e:Ext w G w' G') (hk:zo (λk=>k=BH px) w G w' G') (hg:∀g b,G'.box g=some b→g<st.gen) (ho:∀b k,G'.ow b=some k→b<w'.heap.size) (hx:∀b o,G'.fix b o→b<w'.heap.size) (hh:G'.heap=G.heap):
  FI N w' G' (D8 st px (.list false es)) a vs (x7 vs ops):=by
 cases px with
 | c p=>exact absurd rfl (gj p)
 | v i =>
   refine⟨by simp[D8,hf.len],?_,?_,hf.tv,hf.tl,(hf.defers.trans e.df.symm),hg,ho,hx,hf.heap.keep e hk (by intro k hk e; subst e; simp[BH,Key.isH] at hk),by rw[hh]; exact hf.hdom⟩
   ·intro i' t u h1 h2
    simp only[D8,aU] at h2
    split at h2
    ·rename_i hi
     subst hi
     split at h2
     ·simp at h2; subst h2
      exact((hf.var i t _ h1 hr).1.dem).ext e
     ·simp at h2
    ·rename_i hi
     exact(hf.var i' t u h1 h2).keep e hk (by simp[BH]; omega) (by simp[BH])
   ·intro i' t u h1 h2
    exact(hf.loc i' t u h1 h2).keep e hk (by simp[BH]) (by simp[BH])
 | l i =>
   refine⟨hf.len,?_,?_,hf.tv,hf.tl,(hf.defers.trans e.df.symm),hg,ho,hx,hf.heap.keep e hk (by intro k hk e; subst e; simp[BH,Key.isH] at hk),by rw[hh]; exact hf.hdom⟩
   ·intro i' t u h1 h2
    exact(hf.var i' t u h1 h2).keep e hk (by simp[BH]) (by simp[BH])
   ·intro i' t u h1 h2
    simp only[D8,aU] at h2
    split at h2
    ·rename_i hi
     subst hi
     split at h2
     ·simp at h2; subst h2
      exact((hf.loc i t _ h1 hr).1.dem).ext e
     ·simp at h2
    ·rename_i hi
     exact(hf.loc i' t u h1 h2).keep e hk (by simp[BH]; omega) (by simp[BH])
theorem Ky (b:Nat) (k:Key) (h:b<w.heap.size→G.ow b≠none):Ext w G w (G.give b k):=by
 refine⟨rfl,rfl,rfl,an _,λ_ _ _=>rfl,λ_ _ h=>⟨h,rfl⟩,λ_ _ h => .inl h,?_,λ_ _ h=>h,ShapeLe.refl w,rfl⟩
 intro x hx
 simp only[GS.give] at hx
 split at hx
 ·rename_i ik
  subst ik
  by_cases cV:x<w.heap.size
  ·exact .inr (h cV)
  ·exact .inl (by omega)
 ·exact .inr hx
theorem Kz (b:Nat) (k:Key) {K:Key→Prop} (h:∀k',G.ow b=some k'→K k'):zo K w G w (G.give b k):=by
 refine⟨?_,λ_ _ h=>h⟩
 intro x k' hx hn
 refine⟨?_,rfl,λ_ h=>h⟩
 simp only[GS.give]
 split
 ·rename_i ik
  subst ik
  exact absurd (h k' hx) hn
 ·exact hx
theorem Room.give {key key':Key} {v:Value} {es:List PV} (h:Room w G key v es):
  ∃G',(G'=G∨∃b,G.ow b=some key∧G'=G.give b key')∧Room w G' key' v es:=by
 unfold Room at h
 split at h
 ·rename_i a len cap
  rcases h with h|⟨ho,sz,cs,T,h1,h2,h3,h4,h5⟩
  ·exact⟨G,.inl rfl,.inl h⟩
  ·exact⟨G.give a.block key',.inr ⟨_,ho,rfl⟩,.inr ⟨by simp[GS.give],sz,cs,T,h1,h2,h3,h4,h5⟩⟩
 ·rename_i hx
  refine⟨G,.inl rfl,?_⟩
  unfold Room
  split
  ·rename_i a len cap; exact absurd rfl (hx _ _ _)
  ·trivial
def KA (w:World) (G:GS) (key:Key) (v:Value):PV→Prop
 | .list true es=>Room w G key v es
 | u=>cp u=some u
theorem GG (hE:EnvOk E N) {x:Operand} {px:PX} (hc:cx E vs ops x=some px) (hf:FI N w G st a vs (x7 vs ops)) (ht:tk st px=some (u,st1)) (key:Key):
  ∃ G', FI N w G' st1 a vs (x7 vs ops) ∧ Ext w G w G' ∧ G'.box = G.box ∧ G'.fix = G.fix ∧ G'.heap = G.heap ∧ VR N w G.fix G.heap (a.eval x) u ∧
    KA w G' key (a.eval x) u∧(∀b,G'.ow b=G.ow b∨(G.ow b=some (BH px)∧G'.ow b=some key))∧st1.gen=st.gen∧st1.heap=st.heap:=by
 unfold tk at ht
 split at ht
 ·rename_i es hr
  simp only[aa,ac] at ht
  obtain⟨rfl,rfl⟩:=ht
  have hs:=D3 hE hc hf hr
  obtain⟨hv,dD⟩:=hs
  by_cases gj:∃p,px = .c p
  ·obtain⟨p,rfl⟩:=gj
   simp only[raw,aa] at hr
   subst hr
   refine⟨G,hf,Ext.refl _ _,rfl,rfl,rfl,hv,?_,λ_ => .inl rfl,rfl,rfl⟩
   cases x with
   | tmp t=>simp only[cx] at hc; split at hc<;>simp at hc
   | const v =>
     simp only[cx] at hc
     split at hc
     ·simp at hc
     simp only[ab] at hc
     obtain⟨q,hq,vF⟩:=hc
     simp at vF; subst vF
     rcases OB hq with⟨es',_,rfl⟩|h
     ·exact True.intro
     ·simp[cp] at h
   | global g=>simp[cx] at hc
   | func f =>
     simp only[cx,ab] at hc
     obtain⟨k,_,hk⟩:=hc
     simp at hk
  ·obtain⟨G',hG,fP⟩:=dD.give (key':=key)
   have hg:G'.box=G.box∧G'.fix=G.fix∧G'.heap=G.heap:=by
    rcases hG with rfl|⟨b,_,rfl⟩<;>exact⟨rfl,rfl,rfl⟩
   have cR:Ext w G w G':=by
    rcases hG with rfl|⟨b,hb,rfl⟩
    ·exact Ext.refl _ _
    ·exact Ky b key (λ_=>by simp[hb])
   have cU:zo (λk=>k=BH px) w G w G':=by
    rcases hG with rfl|⟨b,hb,rfl⟩
    ·exact⟨λb k h _=>⟨h,rfl,λ_ h=>h⟩,λ_ _ h=>h⟩
    ·exact Kz b key (λk' dq=>by rw[hb] at dq; simpa using dq.symm)
   have how:∀b,G'.ow b=G.ow b∨(G.ow b=some (BH px)∧G'.ow b=some key):=by
    intro b
    rcases hG with rfl|⟨b',hb,rfl⟩
    ·exact .inl rfl
    ·simp only[GS.give]
     split
     ·subst_vars; exact .inr ⟨hb,rfl⟩
     ·exact .inl rfl
   refine⟨G',?_,cR,hg.1,hg.2.1,hg.2.2,hv,fP,how,?_,?_⟩
   ·refine hf.src (λp hp=>gj ⟨p,hp⟩) hr cR cU (by rw[hg.1]; exact hf.gen) ?_ (by rw[hg.2.1]; exact hf.fixlt) hg.2.2
    intro b k hb
    rcases how b with h|⟨h,_⟩
    ·exact hf.owlt b k (h▸hb)
    ·exact hf.owlt b _ h
   ·cases px<;>rfl
   ·cases px<;>rfl
 ·rename_i v xH hr
  simp only[ab,ac] at ht
  obtain⟨r,ft,rfl,rfl⟩:=ht
  obtain⟨h1,h2⟩:=(D3 hE hc hf hr).read ft
  refine⟨G,hf,Ext.refl _ _,rfl,rfl,rfl,h1,?_,λ_ => .inl rfl,rfl,rfl⟩
  unfold KA
  split
  ·simp[cp] at h2
  ·exact h2
 ·simp at ht
theorem SR.of_taken {key:Key} {v:Value} {u:PV} (h:VR N w G.fix G.heap v u) (hm:KA w G key v u):SR N w G key v u:=by
 unfold KA at hm
 split at hm
 ·exact⟨h,hm⟩
 ·exact SR.of_pure h hm
theorem Uu (hE:EnvOk E N) (nm:Names vs (x7 vs ops)) (ho:ops[j]? = some o) (hf:FI N w G st a vs (x7 vs ops)) {x:Operand} {px:PX} (hx:(execOp a.eval o).run P w = .ok (.value (a.eval x)) w)
  (hc:cx E vs ops x=some px) (hs:tk st px=some (u,st1)) (hk:yz N w G a st1 u vs ops j o next):o.wp P a w next Q:=by
 obtain⟨G',h1,h2,h3,h4,h5,h6,h7,_⟩:=GG hE hc hf hs (Ai (yF vs o.dst) j)
 unfold Oper.wp
 rw[hx]
 refine hk _ _ G' (h1.put nm (BJ ho) (SR.of_taken ?_ h7)) h2 (BK _ _ _)
 rw[h4,h5]; exact h6
theorem Fa {w:World} {ob:Obj} {b o:Nat} (h:b<w.heap.size):(w.alloc ob).cell? ⟨b,o,none⟩=w.cell? ⟨b,o,none⟩:=World.cell?_alloc_lt w ob _ h
theorem Ax {w:World} {ob:Obj} {b:Nat} (h:b<w.heap.size):(w.alloc ob).heap[b]? = w.heap[b]? := by
 simp only[World.alloc,Array.getElem?_push]
 rw[ae (by omega)]
theorem C3 {w:World} {ob:Obj}:(w.alloc ob).heap[w.heap.size]? = some ob:=by unfold World.alloc; simp only[Array.getElem?_push_size]
theorem Uv (nm:Names vs (x7 vs ops)) (ho:ops[j]? = some o) (hf:FI N w G st a vs (x7 vs ops)) {cs:Array Value} {ps:List PV} {T:TypeId} {i:Nat} (hd:yF vs o.dst = .v i)
  (cT:(execOp a.eval o).run P w = .ok (.value (.pointer (some ⟨w.heap.size,0,none⟩))) (w.alloc (.cells cs T)))
  (hR:∀(k:Nat) (c:Value) (x:PV),cs[k]? = some c→ps[k]? = some x→VR N w G.fix G.heap c x∧x.flat=true∧(∀es,x = .list true es→c = .slice none 0 0)) (hl:cs.size=ps.length)
  (hk:yz N w G a { st with gen:=st.gen+1 } (.loc st.gen ps) vs ops j o next):o.wp P a w next Q:=by
 unfold Oper.wp
 rw[cT]
 have xI:G.ow w.heap.size=none:=by
  cases h:G.ow w.heap.size with
  | none=>rfl
  | some k=>have:=hf.owlt _ _ h; omega
 have gg:∀o,¬G.fix w.heap.size o:=λo h=>by have:=hf.fixlt _ _ h; omega
 let G':GS:={ G with ow:=λx=>if x=w.heap.size then some (.var i) else G.ow x,box:=λg=>if g=st.gen then some w.heap.size else G.box g }
 have cR:Ext w G (w.alloc (.cells cs T)) G':=by
  refine⟨rfl,rfl,rfl,by simp,λb hb _=>Ax hb,λb o h=>⟨h,Fa (hf.fixlt _ _ h)⟩,λ_ _ h => .inl h,?_,λ_ _ h=>h,.same λk hk=>Ax hk,rfl⟩
  intro b hb
  by_cases cV:b<w.heap.size
  ·refine .inr ?_
   simp only[G'] at hb
   rw[ae (by omega)] at hb
   exact hb
  ·exact .inl (by omega)
 have cU:zo (λ_=>False) w G (w.alloc (.cells cs T)) G':=by
  refine⟨?_,?_⟩
  ·intro b k hb _
   have cV:=hf.owlt _ _ hb
   refine⟨?_,Ax cV,λ_ h=>h⟩
   simp only[G']
   rw[ae (by omega)]; exact hb
  ·intro g b hb
   have:=hf.gen _ _ hb
   simp only[G']
   rw[ae (by omega)]; exact hb
 have dt:FI N (w.alloc (.cells cs T)) G' { st with gen:=st.gen+1 } a vs (x7 vs ops):=by
  refine⟨hf.len,λi t u h1 h2=>(hf.var i t u h1 h2).keep cR cU (λh=>h) (λ_ _ _ h=>h),λj t u h1 h2=>(hf.loc j t u h1 h2).keep cR cU (λh=>h) (λ_ _ _ h=>h),hf.tv,hf.tl,hf.defers,?_,?_,?_,hf.heap.keep cR cU (λ_ _ h=>h),hf.hdom⟩
  ·intro g b hb
   simp only[G'] at hb
   split at hb
   ·simp; omega
   ·have:=hf.gen _ _ hb; simp; omega
  ·intro b k hb
   simp only[G'] at hb
   split at hb
   ·simp; omega
   ·have:=hf.owlt _ _ hb; simp; omega
  ·intro b o h; have:=hf.fixlt _ _ h; simp; omega
 refine hk _ _ G' (dt.put nm (BJ ho) ?_) cR (BK _ _ _)
 rw[hd]
 refine⟨w.heap.size,i,rfl,rfl,by simp[G'],by simp[G',Ai],gg,cs,T,C3,hl,?_⟩
 intro k c x hc hx
 obtain⟨h1,h2,h3⟩:=hR k c x hc hx
 refine⟨h1.ext cR,h2,?_⟩
 split
 ·rename_i es
  have:=h3 es rfl
  subst this
  trivial
 ·trivial
theorem Uw {d:PD} (h:isVar d=true):∃i,d = .v i:=by
 cases d with
 | v i=>exact⟨i,rfl⟩
 | l=>simp[isVar] at h
 | n=>simp[isVar] at h
theorem b8i (nm:Names vs (x7 vs ops)) (ho:ops[j]? = some o) (hf:FI N w G st a vs (x7 vs ops)) {t:TypeId} {z:List PV} (cW:o.op = .alloc t) (hz:zV P t=some z) (hd:isVar (yF vs o.dst)=true) {cf:yg}
  (hs:opv cf (.newloc z) st=some (u,st1)) (hk:yz N w G a st1 u vs ops j o next):o.wp P a w next Q:=by
 simp only[opv,aa,ac] at hs
 obtain⟨rfl,rfl⟩:=hs
 obtain⟨i,hi⟩:=Uw hd
 obtain⟨ti,zv,h1,h2,h3,h4,h5,_⟩:=D5 (N:=N) (w:=w) (fix:=G.fix) (hp:=G.heap) hz
 refine Uv (cs:=zv.cells) (ps:=z) (T:=t) nm ho hf hi ?_ ?_ ?_ hk
 ·simp[execOp,cW,Instr.alloc,zeroValue,typeInfo,h1,h2,newVar,newRow]
 ·intro k c x hc hx
  refine⟨h5.2.2 k c x (by simpa using hc) hx,h5.2.1 x (ax hx),?_⟩
  rintro es rfl
  unfold zV at hz
  simp only[h1,h2,aj] at hz
  obtain⟨cs',dS,hz⟩:=hz
  split at hz
  ·simp at hz; subst hz
   exact GD dS k c es (by simpa using hc) hx
  ·simp at hz
 ·have:=h5.1; simpa using this
theorem b8j (hE:EnvOk E N) (nm:Names vs (x7 vs ops)) (ho:ops[j]? = some o) (hf:FI N w G st a vs (x7 vs ops)) {t:TypeId} {n:Nat} {x:Operand} {px:PX} (cW:o.op = .box t x) (hn:yN P t=some n) (hx:cx E vs ops x=some px)
  (hd:isVar (yF vs o.dst)=true) {cf:yg} (hs:opv cf (.boxloc n px) st=some (u,st1)) (hk:yz N w G a st1 u vs ops j o next):o.wp P a w next Q:=by
 simp only[opv] at hs
 split at hs
 ·rename_i p hp
  split at hs
  ·rename_i hl
   simp only[aa,ac] at hs
   obtain⟨rfl,rfl⟩:=hs
   obtain⟨i,hi⟩:=Uw hd
   obtain⟨_,_,_,_,eW,_⟩:=A8 hn
   have hv:=(yH hE hx hf hp).1
   have dB:=(CellsR.of_cells hv (by intro e; rw[e] at hl; simp at hl; omega)).dem
   refine Uv (cs:=(a.eval x).cells) (ps:=p.cells.map dem) (T:=t) nm ho hf hi ?_ ?_ ?_ hk
   ·simp[execOp,cW,Instr.box,newVar,newRow]
   ·intro k c y hc hy
    refine⟨dB.2.2 k c y (by simpa using hc) hy,dB.2.1 y (ax hy),?_⟩
    rintro es rfl
    simp only[aF,ab] at hy
    obtain⟨q,_,hq⟩:=hy
    cases q<;>simp[dem] at hq
   ·have:=dB.1; simpa using this
  ·simp at hs
 ·simp at hs
end
section
variable {E:Env} {N:Nm} {w:World} {G:GS} {st:St} {a:Act} {vs:List Tmp} {ops:List Oper} {P:Program}
variable {o:Oper} {j:Nat} {next:Act→World→Prop} {Q:Exit→Act→World→Prop} {u:PV} {st1:St}
def GI (N:Nm) (w:World) (fix:Nat→Nat→Prop) (hp:Nat→Option Nat) (size:Nat) (cs:Array Value) (es:List PV):Prop:=
 cs.size=es.length*size∧∀(i:Nat) (e:PV),es[i]? = some e→e.cells.length=size∧(∀x∈e.cells,x.flat=true) ∧
  ∀(k:Nat) (c:Value) (x:PV),cs[i*size+k]? = some c→e.cells[k]? = some x→VR N w fix hp c x
theorem KB {i n k size:Nat} (hi:i<n) (hk:k<size):i*size+k<n*size:=by
 have:(i+1)*size≤n*size:=bq _ hi
 rw[aQ] at this; omega
theorem c13 (v:PV):(AK v).cells=v.cells.map PI.dem:=by
 cases v<;>rfl
theorem Ux (hE:EnvOk E N) (hf:FI N w G st a vs (x7 vs ops)) {size:Nat} (fV:size≠0):∀{parts:List (Nat×Operand)} {ps:List (Nat×PX)} {qs:List (Nat×PV)} {zs rs:List PV} {cs:Array Value},
  Et E vs ops parts=some ps→rdElems st ps=some qs→B8 size zs qs=some rs→GI N w G.fix G.heap size cs zs →
  ∃ds,Instr.fill (λi=>some (i*size,size)) cs (parts.map λ(i,x)=>(i,a.eval x))=some ds∧GI N w G.fix G.heap size ds rs∧rs.length=zs.length
 | [], ps, qs, zs, rs, cs, hc, hr, yw, hR => by
   simp[Et] at hc; subst hc
   simp[rdElems] at hr; subst hr
   simp[B8] at yw; subst yw
   exact⟨cs,rfl,hR,rfl⟩
 | (i, x) :: parts, ps, qs, zs, rs, cs, hc, hr, yw, hR => by
   simp only[Et,aj,ab] at hc
   obtain⟨px,gj,ps',fo,rfl⟩:=hc
   simp only[rdElems,aj,ab] at hr
   obtain⟨v,hv,qs',lZ,rfl⟩:=hr
   simp only[B8] at yw
   split at yw
   ·rename_i cX
    have cZ:=(yH hE gj hf hv).1
    have dB:=CellsR.of_cells cZ (by intro e; rw[e] at cX; simp at cX; omega)
    have dc:(a.eval x).cells.size=size:=by have:=dB.1; simp at this; omega
    have ez:i*size+(a.eval x).cells.size≤cs.size:=by
     rw[hR.1,dc]
     have:(i+1)*size≤zs.length*size:=bq _ cX.2
     rw[aQ] at this; omega
    have ee:GI N w G.fix G.heap size ((a.eval x).cells.zipIdx.foldl (λ(cs:Array Value) (y:Value×Nat)=>cs.setIfInBounds (i*size+y.2) y.1) cs) (zs.set i (AK v)):=by
     have hl:=OJ (i*size) (a.eval x).cells cs ez
     have yC:∀k,((a.eval x).cells.zipIdx.foldl (λ(cs:Array Value) (y:Value×Nat)=>cs.setIfInBounds (i*size+y.2) y.1) cs)[k]? = if i*size≤k∧k<i*size+size then(a.eval x).cells[k - i*size]? else cs[k]? := by
      intro k
      have hg:=OH (i*size) (a.eval x).cells.toList 0 cs k (by simpa using ez)
      have he:(a.eval x).cells.zipIdx.foldl (λ(cs:Array Value) (y:Value×Nat)=>cs.setIfInBounds (i*size+y.2) y.1) cs=((a.eval x).cells.toList.zipIdx 0).foldl (λ(cs:Array Value) (y:Value×Nat)=>cs.setIfInBounds (i*size+y.2) y.1) cs:=by
       rw[← Array.foldl_toList]; simp
      rw[he,hg]
      simp[dc]
     refine⟨?_,?_⟩
     ·have:=aI List.length hl
      rw[bp,ap,ap,aY,cg,bp,bp] at this
      rw[ba,← hR.1,this]
      omega
     ·intro i' e' fL
      rw[aU] at fL
      split at fL
      ·rename_i oh
       subst oh
       rw[ai cX.2] at fL
       simp at fL; subst fL
       rw[c13]
       refine⟨by rw[aG]; exact cX.1,dB.dem.2.1,?_⟩
       intro k c y hc hy
       have hk:k<size:=by have:=(ah.1 hy).1; rw[aG] at this; omega
       rw[yC,ai ⟨by omega,by omega⟩,show i*size+k - i*size=k by omega] at hc
       exact dB.dem.2.2 k c y (by simpa using hc) hy
      ·rename_i oh
       obtain⟨h1,h2,h3⟩:=hR.2 i' e' fL
       refine⟨h1,h2,?_⟩
       intro k c y hc hy
       have hk:k<size:=by have:=(ah.1 hy).1; omega
       have lW:¬(i*size≤i'*size+k∧i'*size+k<i*size+size):=by
        rintro⟨ha,hb⟩
        rcases Nat.lt_or_gt_of_ne oh with h|h
        ·have:(i+1)*size≤i'*size:=bq _ h
         rw[aQ] at this; omega
        ·have:(i'+1)*size≤i*size:=bq _ h
         rw[aQ] at this; omega
       rw[yC,ae lW] at hc
       exact h3 k c y hc hy
    obtain⟨ds,h1,h2,h3⟩:=Ux hE hf fV fo lZ yw ee
    refine⟨ds,?_,h2,by rw[h3,ba]⟩
    simp only[az,Instr.fill]
    rw[ae (by simp[dc]; omega)]
    exact h1
   ·simp at yw
theorem c33 (nm:Names vs (x7 vs ops)) (ho:ops[j]? = some o) (hf:FI N w G st a vs (x7 vs ops)) {cs:Array Value} {es:List PV} {T:TypeId} {size:Nat} (hR:GI N w G.fix G.heap size cs es)
  (cT:(execOp a.eval o).run P w = .ok (.value (.slice (some ⟨w.heap.size,0,none⟩) es.length es.length)) (w.alloc (.cells cs T)))
  (hk:yz N w G a st (.list true es) vs ops j o next):o.wp P a w next Q:=by
 unfold Oper.wp
 rw[cT]
 have gg:∀o,¬G.fix w.heap.size o:=λo h=>by have:=hf.fixlt _ _ h; omega
 let G':GS:={ G with fix:=λb o=>G.fix b o∨b=w.heap.size }
 have cR:Ext w G (w.alloc (.cells cs T)) G':=by
  refine⟨rfl,rfl,rfl,by simp,λb hb _=>Ax hb,λb o h=>⟨.inl h,Fa (hf.fixlt _ _ h)⟩,?_,λ_ h => .inr h,λ_ _ h=>h,.same λk hk=>Ax hk,rfl⟩
  rintro b o (h|h)
  ·exact .inl h
  ·exact .inr (.inl (by omega))
 have cU:zo (λ_=>False) w G (w.alloc (.cells cs T)) G':=by
  refine⟨?_,λ_ _ h=>h⟩
  intro b k hb _
  have cV:=hf.owlt _ _ hb
  refine⟨hb,Ax cV,?_⟩
  rintro o (h|h)
  ·exact h
  ·omega
 have dt:=hf.ext (G':=G') cR cU hf.gen (λb k hb=>by have:=hf.owlt b k hb; simp; omega) (by
  rintro b o (h|h)
  ·have:=hf.fixlt _ _ h; simp; omega
  ·simp; omega)
 refine hk _ _ G' (dt.put nm (BJ ho) ⟨?_,.inl rfl⟩) cR (BK _ _ _)
 refine .list true w.heap.size 0 es.length es.length size es (λk=>cs.getD k undef) rfl (an _) ?_ ?_ ?_ ?_
 ·intro e he
  obtain⟨i,hi⟩:=bj.1 he
  exact(hR.2 i e hi).1
 ·intro e he
  obtain⟨i,hi⟩:=bj.1 he
  exact(hR.2 i e hi).2.1
 ·intro k hk
  rw[← hR.1] at hk
  refine⟨?_,.inr rfl⟩
  rw[aS,World.cell?_alloc_new]
  simp[hk]
 ·intro i e he k x hx
  obtain⟨h1,h2,h3⟩:=hR.2 i e he
  have hk:k<size:=by have:=(ah.1 hx).1; omega
  have hi:i<es.length:=(ah.1 he).1
  have cV:i*size+k<cs.size:=by rw[hR.1]; exact KB hi hk
  have:=h3 k cs[i*size+k] x (by simp[cV]) hx
  simp only[aV,cQ cV,Option.getD_some]
  exact this.ext cR
theorem Uy (hE:EnvOk E N) (hf:FI N w G st a vs (x7 vs ops)) {t e:TypeId} {len size:Nat} {parts:Array (Nat×Operand)} {z:List PV} {ps:List (Nat×PX)} {qs:List (Nat×PV)} {rs:List PV}
  (cW:o.op = .buildSlice t len parts) (hu:P.underlying t=some (.slice e)) (hn:yN P e=some size) (hz:zV P e=some z) (cS:len*size≤16777216) (hc:Et E vs ops parts.toList=some ps)
  (hq:rdElems st ps=some qs) (yw:B8 size (List.replicate len (if yY P e then .agg z else z.headD .dead)) qs=some rs):
  ∃ds,GI N w G.fix G.heap size ds rs∧(execOp a.eval o).run P w = .ok (.value (.slice (some ⟨w.heap.size,0,none⟩) rs.length rs.length)) (w.alloc (.cells ds e)):=by
 obtain⟨ti,zv,h1,h2,h3,h4,h5,_⟩:=D5 (N:=N) (w:=w) (fix:=G.fix) (hp:=G.heap) hz
 obtain⟨ti',d,iU,xJ,fV,hd⟩:=A8 hn
 have mO:ti'=ti:=by rw[h1] at iU; simpa using iU.symm
 subst mO
 have ia:zv.cells.size=size:=by have:=h5.1; simp at this; omega
 have xK:(if yY P e then PV.agg z else z.headD .dead).cells=z:=by
  split
  ·rfl
  ·rename_i fW
   have eY:=Ev hn (by simpa using fW)
   match z,h4 with
   | [],h=>simp at h; omega
   | [p], _ =>
     have:=h5.2.1 p (by simp)
     cases p<;>first|rfl|simp[PV.flat] at this
   | _::_::_,h=>simp at h; omega
 let cs0:Array Value:=(Array.range (len*size)).map (zv.cells[· % zv.cells.size]!)
 have xM:GI N w G.fix G.heap size cs0 (List.replicate len (if yY P e then PV.agg z else z.headD .dead)):=by
  refine⟨by simp[cs0],?_⟩
  intro i x hx
  have fp:=cu.symm.trans hx
  split at fp
  ·rename_i hi
   simp only[aa] at fp
   rw[← fp,xK]
   refine⟨by omega,h5.2.1,?_⟩
   intro k c y fc hy
   have hk:k<size:=by have:=(ah.1 hy).1; omega
   have cV:i*size+k<len*size:=KB hi hk
   have iL:(i*size+k) % size=k:=by
    rw[Nat.add_comm,cC,Nat.add_mul_mod_self_left]; exact Nat.mod_eq_of_lt hk
   simp only[cs0,cA,Array.getElem?_range,cV,if_true,aH,aa,ia,iL] at fc
   have dq:k<zv.cells.size:=by omega
   rw[getElem!_pos zv.cells k dq] at fc
   exact h5.2.2 k c y (by rw[← fc]; simp[dq]) hy
  ·simp at fp
 obtain⟨ds,mY,hR,iN⟩:=Ux hE hf fV hc hq yw xM
 have hl:rs.length=len:=by simpa using iN
 refine⟨ds,hR,?_⟩
 rw[hl]
 have ul:¬(len*size>2 ^ 24):=by
  have:(2:Nat) ^ 24=16777216:=by decide
  omega
 have fH:(parts.map λ(i,x)=>(i,a.eval x)).toList=parts.toList.map λ(i,x)=>(i,a.eval x):=by simp
 have xO:(Instr.buildSlice t len (parts.map λ(i,x)=>(i,a.eval x))).run P w = .ok (.slice (some ⟨w.heap.size,0,none⟩) len len) (w.alloc (.cells ds e)):=by
  unfold Instr.buildSlice
  simp only[Sem.run_bind,run_underlying hu,Result.andThen_ok,Cn hn,ae ul]
  by_cases h0:len*size=0
  ·have jV:(Array.range (len*size)).map ((#[]:Array Value)[· % (#[]:Array Value).size]!)=cs0:=by simp[h0,cs0]
   simp only[ai h0,Sem.run_bind,Sem.run_pure,Result.andThen_ok,jV,fH,mY]
   simp[newRow]
  ·simp only[ae h0,Sem.run_bind,Sem.run_pure,Result.andThen_ok,zeroValue,typeInfo,run_program,h1,h2,fH]
   have:Instr.fill (λi=>some (i*size,size)) ((Array.range (len*size)).map (zv.cells[· % zv.cells.size]!)) (parts.toList.map λ(i,x)=>(i,a.eval x))=some ds:=mY
   rw[this]
   simp[newRow]
 simp[execOp,cW,xO]
theorem b6v (hE:EnvOk E N) (nm:Names vs (x7 vs ops)) (ho:ops[j]? = some o) (hf:FI N w G st a vs (x7 vs ops)) {t e:TypeId} {len size:Nat} {parts:Array (Nat×Operand)} {z:List PV} {ps:List (Nat×PX)}
  (cW:o.op = .buildSlice t len parts) (hu:P.underlying t=some (.slice e)) (hn:yN P e=some size) (hz:zV P e=some z) (cS:len*size≤16777216) (hc:Et E vs ops parts.toList=some ps) {cf:yg}
  (hs:opv cf (.mkslice size (if yY P e then .agg z else z.headD .dead) len ps) st=some (u,st1)) (hk:yz N w G a st1 u vs ops j o next):o.wp P a w next Q:=by
 simp only[opv,ab,aj,ac] at hs
 obtain⟨rs,⟨qs,hq,yw⟩,rfl,rfl⟩:=hs
 obtain⟨ds,hR,cT⟩:=Uy hE hf cW hu hn hz cS hc hq yw
 exact c33 nm ho hf hR cT hk
end
section
variable {E:Env} {N:Nm} {w:World} {G:GS} {st:St} {a:Act} {vs:List Tmp} {ops:List Oper} {P:Program}
variable {o:Oper} {j:Nat} {next:Act→World→Prop} {Q:Exit→Act→World→Prop} {u:PV} {st1:St}
theorem OL (hf:FI N w G st a vs (x7 vs ops)) {s g b:Nat} {cs:List PV} (hv:st.vars[s]? = some (.loc g cs)) (hb:G.box g=some b):
  ∃ t, vs[s]? = some t ∧ a.eval (.tmp t) = .pointer (some ⟨b, 0, none⟩) ∧ G.ow b = some (.var s) ∧ (∀ o, ¬ G.fix b o) ∧
    ∃cv T,w.heap[b]? = some (.cells cv T (0,0))∧cv.size=cs.length∧∀(k:Nat) (c:Value) (x:PV),cv[k]? = some c→cs[k]? = some x→CR N w G (.vcell s k) c x:=by
 have hs:s<vs.length:=by rw[← hf.len]; exact(ah.1 hv).1
 have h:=hf.var s vs[s] _ (am hs) hv
 obtain⟨b',i,hk,h1,h2,h3,h4,h5⟩:=h
 have hi:i=s:=by simpa using hk.symm
 subst hi
 have:b'=b:=by rw[hb] at h2; simpa using h2.symm
 subst this
 exact⟨vs[i],am hs,h1,h3,h4,h5⟩
theorem Te {b:Nat} {cv:Array Value} {T:TypeId} {cs:List PV} {s:Nat} (hh:w.heap[b]? = some (.cells cv T (0,0))) (hl:cv.size=cs.length)
  (hc:∀(k:Nat) (c:Value) (x:PV),cv[k]? = some c→cs[k]? = some x→CR N w G (.vcell s k) c x):
  CellsR N w G.fix G.heap cv.toList cs∧∀(k:Nat) (v:Value),cv.toList[k]? = some v→w.cell? ⟨b,k,none⟩=some v:=by
 refine⟨⟨by simpa using hl,?_,λi c x h1 h2=>(hc i c x (by simpa using h1) h2).1⟩,?_⟩
 ·intro x hx
  obtain⟨i,hi⟩:=bj.1 hx
  have cV:i<cv.size:=by have:=(ah.1 hi).1; omega
  exact(hc i cv[i] x (by simp[cV]) hi).2.1
 ·intro k v hv
  simp only[ci] at hv
  simp[World.cell?,hh,hv]
theorem c34 (hf:FI N w G st a vs (x7 vs ops)) {t:TypeId} {n s g off b:Nat} {cs:List PV} {v:Value} (hn:yN P t=some n) (hv:v = .pointer (some ⟨b,off,none⟩)) (hb:G.box g=some b)
  (hs:st.vars[s]? = some (.loc g cs)) (hl:yh n (yY P t) cs off=some u):∃r,(Instr.loadAt t v).run P w = .ok r w∧VR N w G.fix G.heap r u∧cp u=some u:=by
 obtain⟨_,_,_,_,_,cv,T,h1,h2,h3⟩:=OL hf hs hb
 obtain⟨hR,hcell⟩:=Te h1 h2 h3
 have eW:n≠0:=by obtain⟨_,_,_,_,h,_⟩:=A8 hn; exact h
 obtain⟨k1,k2,k3⟩:=Gp hR hl eW (Ev hn)
 refine⟨_,?_,k2,k3⟩
 subst hv
 have:=Gq (w:=w) hn b off (cv.toList.drop off) (by simp at k1 ⊢; omega) (λj v hv=>by
  rw[bi] at hv
  exact hcell _ _ hv)
 simpa[Instr.loadAt,Instr.sureAddr] using this
theorem c14 (hE:EnvOk E N) (nm:Names vs (x7 vs ops)) (ho:ops[j]? = some o) (hf:FI N w G st a vs (x7 vs ops)) {t:TypeId} {n:Nat} {x:Operand} {px:PX} {tk:Bool} (cW:o.op = .load t x) (hn:yN P t=some n)
  (hx:cx E vs ops x=some px) {cf:yg} (hs:opv cf (.load n (yY P t) px tk) st=some (u,st1)) (hk:yz N w G a st1 u vs ops j o next):o.wp P a w next Q:=by
 have plain:∀r,(Instr.loadAt t (a.eval x)).run P w = .ok r w→(execOp a.eval o).run P w = .ok (.value r) w:=by
  intro r hr
  simp[execOp,cW,hr]
 simp only[opv] at hs
 split at hs
 ·rename_i cs ha
  simp only[ab,ac] at hs
  obtain⟨r,hr,rfl,rfl⟩:=hs
  rcases D4 hE hx hf ha with⟨_,_,_,_,h,_⟩|⟨h,_⟩
  ·simp at h
  ·obtain⟨r',h1,h2,h3⟩:=OF (P:=P) hn h hr
   exact yJ nm ho hf (plain _ h1) (SR.of_pure h2 h3) hk
 ·rename_i s g off ha
  rcases D4 hE hx hf ha with⟨_,_,_,b,h,hv,hb⟩|⟨_,h⟩
  ·simp only[PV.lptr.injEq] at h
   obtain⟨rfl,rfl,rfl⟩:=h
   split at hs
   ·rename_i g' cs kj
    split at hs
    ·rename_i iz
     subst iz
     split at hs
     ·rename_i es d9 hcell
      simp only[aa,ac] at hs
      obtain⟨rfl,rfl⟩:=hs
      simp only[ao,bD] at d9
      obtain⟨tt,rW,lY,pA,i7,cv,T,hh,hl,hc⟩:=OL hf kj hb
      have cV:off<cv.size:=by have:=(ah.1 hcell).1; omega
      obtain⟨cZ,_,dD⟩:=hc off cv[off] _ (by simp[cV]) hcell
      obtain⟨G',hG,fP⟩:=Room.give (key':=Ai (yF vs o.dst) j) dD
      have iz:G'.box=G.box∧G'.fix=G.fix∧G'.heap=G.heap:=by
       rcases hG with rfl|⟨b,_,rfl⟩<;>exact⟨rfl,rfl,rfl⟩
      have cR:Ext w G w G':=by
       rcases hG with rfl|⟨b,hb,rfl⟩
       ·exact Ext.refl _ _
       ·exact Ky b _ (λ_=>by simp[hb])
      have cU:zo (λk=>k = .vcell s off) w G w G':=by
       rcases hG with rfl|⟨b,hb,rfl⟩
       ·exact⟨λb k h _=>⟨h,rfl,λ_ h=>h⟩,λ_ _ h=>h⟩
       ·exact Kz b _ (λk' dq=>by rw[hb] at dq; simpa using dq.symm)
      have dt:FI N w G' { st with vars:=st.vars.set s (.loc g (cs.set off (.list false es))) } a vs (x7 vs ops):=by
       refine⟨by simp[hf.len],?_,λi t' u' h1 h2=>(hf.loc i t' u' h1 h2).keep cR cU (by simp) (by simp),hf.tv,hf.tl,(hf.defers.trans cR.df.symm),by rw[iz.1]; exact hf.gen,?_,by rw[iz.2.1]; exact hf.fixlt,hf.heap.keep cR cU (by rintro k hk rfl; simp[Key.isH] at hk),by rw[iz.2.2]; exact hf.hdom⟩
       ·intro i t' u' h1 h2
        simp only[aU] at h2
        split at h2
        ·rename_i hi
         subst hi
         split at h2
         ·simp at h2; subst h2
          have:t'=tt:=by rw[rW] at h1; simpa using h1.symm
          subst this
          obtain⟨eJ,_,_⟩:=cU.1 _ _ pA (by simp)
          refine⟨b,s,rfl,lY,by rw[iz.1]; exact hb,eJ,by rw[iz.2.1]; exact i7,cv,T,hh,by simp[hl],?_⟩
          intro k c y dN hy
          rw[aU] at hy
          split at hy
          ·rename_i em
           subst em
           split at hy
           ·simp at hy; subst hy
            have:c=cv[off]:=by simp[cV] at dN; exact dN.symm
            subst this
            refine⟨(cZ.dem).ext cR,rfl,trivial⟩
           ·simp at hy
          ·rename_i em
           exact(hc k c y dN hy).keep cR cU (by simp; omega)
         ·simp at h2
        ·rename_i hi
         exact(hf.var i t' u' h1 h2).keep cR cU (by simp) (by simp; intro i' k iU e; omega)
       ·intro b' k di
        rcases hG with rfl|⟨b2,dE,rfl⟩
        ·exact hf.owlt _ _ di
        ·simp only[GS.give] at di
         split at di
         ·subst_vars; exact hf.owlt _ _ dE
         ·exact hf.owlt _ _ di
      unfold Oper.wp
      have cT:(Instr.loadAt t (a.eval x)).run P w = .ok cv[off] w:=by
       have dA:w.cell? ⟨b,off,none⟩=some cv[off]:=by simp[World.cell?,hh,cV]
       rw[hv]
       simp[Instr.loadAt,Instr.sureAddr,loadVar,GE hn,d9.2,dA]
      rw[plain _ cT]
      exact hk _ _ G' (dt.put nm (BJ ho) ⟨cZ.ext cR,fP⟩) cR (BK _ _ _)
     ·simp only[ab,ac] at hs
      obtain⟨r,hr,rfl,rfl⟩:=hs
      obtain⟨r',h1,h2,h3⟩:=c34 (P:=P) hf hn hv hb kj hr
      exact yJ nm ho hf (plain _ h1) (SR.of_pure h2 h3) hk
    ·simp at hs
   ·simp at hs
  ·simp[cp] at h
 ·simp at hs
theorem b9K (hE:EnvOk E N) (nm:Names vs (x7 vs ops)) (ho:ops[j]? = some o) (hf:FI N w G st a vs (x7 vs ops)) {t:TypeId} {n:Nat} {x y:Operand} {px py:PX} (cW:o.op = .store t x y) (eI:o.dst=none) (hn:yN P t=some n)
  (hx:cx E vs ops x=some px) (hy:cx E vs ops y=some py) {cf:yg} (hs:opv cf (.store n (yY P t) px py) st=some (u,st1)) (hk:yz N w G a st1 u vs ops j o next):o.wp P a w next Q:=by
 simp only[opv] at hs
 split at hs
 ·rename_i s g off v st' ha d9
  rcases D4 hE hx hf ha with⟨_,_,_,b,h,hv,hb⟩|⟨_,h⟩
  ·simp only[PV.lptr.injEq] at h
   obtain⟨rfl,rfl,rfl⟩:=h
   obtain⟨G1,dt,dZ,iO,fY,ei,cZ,fQ,_,_,_⟩:=GG hE hy hf d9 (.vcell s off)
   split at hs
   ·rename_i g' cs kj
    split at hs
    ·rename_i iz
     subst iz
     simp only[ab,ac] at hs
     obtain⟨cs',dn,rfl,rfl⟩:=hs
     obtain⟨tt,rW,lY,pA,i7,cv,T,hh,hl,hc⟩:=OL dt kj (by rw[iO]; exact hb)
     have eW:n≠0:=by obtain⟨_,_,_,_,h,_⟩:=A8 hn; exact h
     have key:∃nc:List Value,(a.eval y).cells.toList=nc∧nc.length=n∧off+n≤cv.size∧(∀c∈nc,c.oneCell'=true)∧cs'.length=cs.length ∧
       ∀ (k : Nat) (c : Value) (z : PV), (cv.toList.take off ++ nc ++ cv.toList.drop (off + n))[k]? = some c → cs'[k]? = some z →
         (cv[k]? = some c∧cs[k]? = some z)∨(VR N w G.fix G.heap c z∧z.flat=true∧∀es,z = .list true es→(k=off∧Room w G1 (.vcell s off) c es)∨c = .slice none 0 0):=by
      unfold yB at dn
      split at dn
      ·rename_i iP
       split at dn
       ·rename_i ws
        split at dn
        ·rename_i cX
         simp only[aa] at dn; subst dn
         obtain⟨ca,oj,hR⟩:=CellsR.of_agg cZ
         have hO:OwnNil ca.toList ws:=OwnNil.of_agg (oj▸cZ)
         have dA:(a.eval y).cells.toList=ca.toList:=by rw[oj]; rfl
         have cS:ca.toList.length=n:=by have:=hR.1; omega
         refine⟨ca.toList,dA,cS,by omega,?_,by simp; omega,?_⟩
         ·intro c gH
          obtain⟨i,hi⟩:=bj.1 gH
          have cV:i<ws.length:=by have:=(ah.1 hi).1; have:=hR.1; omega
          have h1:=hR.2.2 i c ws[i] hi (am cV)
          have h2:=h1.oneCell (hR.2.1 _ (ak cV))
          cases c<;>first|rfl|simp[oneCell] at h2
         ·intro k c z dN hz
          rw[aN] at dN
          have fX:(cv.toList.take off).length=off:=by simp; omega
          have ly:(cs.take off).length=off:=by simp; omega
          by_cases h1:k<off
          ·rw[al (by omega),aW,ai h1] at dN
           rw[al (by omega),aW,ai h1] at hz
           exact .inl ⟨by simpa using dN,hz⟩
          ·rw[aq (by omega),fX] at dN
           rw[aq (by omega),ly] at hz
           by_cases h2:k<off+n
           ·rw[al (by omega)] at dN
            rw[al (by omega)] at hz
            refine .inr ⟨hR.2.2 _ c z dN hz,hR.2.1 z (ax hz),?_⟩
            rintro es rfl
            exact .inr (hO _ c es dN hz)
           ·rw[aq (by omega),bi,cS] at dN
            rw[aq (by omega),bi,cX.1] at hz
            rw[show off+n+(k - off - n)=k by omega] at dN hz
            exact .inl ⟨by simpa using dN,hz⟩
        ·simp at dn
       ·simp at dn
      ·rename_i iP
       have pp:=Ev hn (by simpa using iP)
       subst pp
       split at dn
       ·rename_i cX
        simp only[aa] at dn; subst dn
        have h1:=cZ.oneCell cX.2
        have dA:(a.eval y).cells.toList=[a.eval y]:=by
         generalize a.eval y=q at h1
         cases q<;>first|rfl|simp[oneCell] at h1
        refine⟨[a.eval y],dA,rfl,by omega,?_,by simp,?_⟩
        ·intro c gH
         simp at gH; subst gH
         generalize a.eval y=q at h1
         cases q<;>first|rfl|simp[oneCell] at h1
        ·intro k c z dN hz
         rw[aN] at dN
         have fX:(cv.toList.take off).length=off:=by simp; omega
         rw[aU] at hz
         split at hz
         ·rename_i jU
          subst jU
          split at hz
          ·simp at hz; subst hz
           rw[aq (by omega),fX] at dN
           simp at dN; subst dN
           refine .inr ⟨cZ,cX.2,?_⟩
           rintro es rfl
           exact .inl ⟨rfl,fQ⟩
          ·simp at hz
         ·rename_i jU
          refine .inl ⟨?_,hz⟩
          by_cases h1:k<off
          ·rw[al (by omega),aW,ai h1] at dN
           simpa using dN
          ·rw[aq (by omega),fX,aq (by simp; omega),bi] at dN
           simp only[cL] at dN
           rw[show off+1+(k - off - 1)=k by omega] at dN
           simpa using dN
       ·simp at dn
     obtain⟨nc,ja,cS,im,kM,um,dB⟩:=key
     have cT:(execOp a.eval o).run P w = .ok .skip (w.setRow b (cv.toList.take off++nc++cv.toList.drop (off+n)).toArray):=by
      have dn:=run_storeCells_at P b off T nc 0 cv w hh (by simp; omega) kM
      simp only[bw,cS] at dn
      have dc:(a.eval y).cells.size=n:=by rw[← cS,← ja]; simp
      simp[execOp,cW,Instr.storeAt,hv,Instr.sureAddr,storeVar,Cn hn,dc,ja,dn]
     unfold Oper.wp
     rw[cT]
     have gf:b<w.heap.size:=dt.owlt _ _ pA
     have dj:∀x,x≠b→(w.setRow b (cv.toList.take off++nc++cv.toList.drop (off+n)).toArray).heap[x]? = w.heap[x]? := λx hx=>setRow_other w b x _ hx
     have dP:Ext w G1 (w.setRow b (cv.toList.take off++nc++cv.toList.drop (off+n)).toArray) G1:=by
      refine⟨rfl,rfl,rfl,by simp[World.setRow],?_,?_,λ_ _ h => .inl h,λ_ h => .inr h,λ_ _ h=>h,II hh _ ?_,rfl⟩
      rotate_left 2
      ·simp; omega
      ·intro x _ li
       exact dj x (by rintro rfl; rw[pA] at li; simp at li)
      ·intro x o' gx
       refine⟨gx,?_⟩
       have ik:x≠b:=by rintro rfl; exact i7 _ gx
       simp only[World.cell?,dj x ik]
     have dM:zo (λk=>k = .var s) w G1 (w.setRow b (cv.toList.take off++nc++cv.toList.drop (off+n)).toArray) G1:=by
      refine⟨?_,λ_ _ h=>h⟩
      intro x k jO iS
      refine⟨jO,dj x ?_,λ_ h=>h⟩
      rintro rfl
      rw[pA] at jO
      simp at jO
      exact iS jO.symm
     have jm:FI N (w.setRow b (cv.toList.take off++nc++cv.toList.drop (off+n)).toArray) G1 { st' with vars:=st'.vars.set s (.loc g cs') } a vs (x7 vs ops):=by
      refine⟨by simp[dt.len],?_,λi t' u' h1 h2=>(dt.loc i t' u' h1 h2).keep dP dM (by simp) (by simp),dt.tv,dt.tl,dt.defers,dt.gen,?_,?_,dt.heap.keep dP dM (by rintro k hk rfl; simp[Key.isH] at hk),dt.hdom⟩
      ·intro i t' u' h1 h2
       simp only[aU] at h2
       split at h2
       ·rename_i hi
        subst hi
        split at h2
        ·simp at h2; subst h2
         have:t'=tt:=by rw[rW] at h1; simpa using h1.symm
         subst this
         refine⟨b,s,rfl,lY,by rw[iO]; exact hb,pA,i7,_,T,setRow_heap w b cv _ T (0,0) hh,?_,?_⟩
         ·simp; omega
         ·intro k c z dN hz
          rcases dB k c z (by simpa using dN) hz with⟨k1,k2⟩|⟨k1,k2,k3⟩
          ·exact(hc k c z k1 k2).keep dP dM (by simp)
          ·refine⟨(fY▸ei▸k1:VR N w G1.fix G1.heap c z).ext dP,k2,?_⟩
           split
           ·rename_i es
            rcases k3 es rfl with⟨e1,e2⟩|e
            ·subst e1
             exact e2.keep dM (by simp)
            ·subst e; trivial
           ·trivial
        ·simp at h2
       ·rename_i hi
        exact(dt.var i t' u' h1 h2).keep dP dM (by simp; omega) (by simp)
      ·intro x k hx; simpa[World.setRow] using dt.owlt x k hx
      ·intro x o' hx; simpa[World.setRow] using dt.fixlt x o' hx
     have gB:a.put o.dst undef=a:=by simp[eI,Act.put]
     have hd:yF vs o.dst = .n:=by simp[eI,yF]
     show next (a.put o.dst undef) _
     rw[gB]
     refine hk _ _ G1 ?_ (dZ.trans dP) rfl
     rw[hd]
     exact jm
    ·simp at hs
   ·simp at hs
  ·simp[cp] at h
 ·simp at hs
end
theorem FI.extDst {N:Nm} {w w':World} {G G':GS} {st:St} {a:Act} {vs:List Tmp} {lm:Nat→Option Tmp} {j:Nat} {d:PD} {dst:Option Tmp} {v:Value} {u:PV}
  (h:FI N w G st a vs lm) (nm:Names vs lm) (hd:OD vs lm j d dst) (dm:d≠.n) (e:Ext w G w' G') (hk:zo (λk=>k=Ai d j) w G w' G')
  (hg:∀g b,G'.box g=some b→g<st.gen) (ho:∀b k,G'.ow b=some k→b<w'.heap.size) (hx:∀b o,G'.fix b o→b<w'.heap.size) (hh:G'.heap=G.heap) (hs:SR N w' G' (Ai d j) v u):
  FI N w' G' (PI.put st j d u) (a.put dst v) vs lm:=by
 cases d with
 | n=>exact absurd rfl dm
 | v i =>
   obtain⟨t,rfl,ht⟩:=hd
   have dc:=h.tv i t ht
   refine⟨by simp[PI.put,h.len],?_,?_,?_,?_,(h.defers.trans e.df.symm),hg,ho,hx,h.heap.keep e hk (by intro k hk e; subst e; simp[Ai,Key.isH] at hk),by rw[hh]; exact h.hdom⟩
   ·intro i' t' u' h1 h2
    rw[Ff _ _ _ _ dc]
    simp only[PI.put,aU] at h2
    by_cases hi:i=i'
    ·subst hi
     have:t'=t:=by rw[ht] at h1; simpa using h1.symm
     subst this
     split at h2
     ·split at h2
      ·simp at h2; subst h2; simp only[if_true]; exact hs
      ·simp at h2
     ·exact absurd rfl ‹_›
    ·rw[ae hi] at h2
     have da:t'≠t:=λe=>hi (nm.vnd i i' t ht (e▸h1))
     rw[ae da]
     exact(h.var i' t' u' h1 h2).keep e hk (by simp[Ai]; omega) (by simp[Ai])
   ·intro j' t' u' h1 h2
    rw[Ff _ _ _ _ dc,ae (λe:t'=t=>nm.sep j' t' i h1 (e▸ht))]
    exact(h.loc j' t' u' h1 h2).keep e hk (by simp[Ai]) (by simp)
   ·intro i' t' h1; simpa[Act.put] using h.tv i' t' h1
   ·intro j' t' h1; simpa[Act.put] using h.tl j' t' h1
 | l =>
   obtain⟨t,rfl,ht⟩:=hd
   have dc:=h.tl j t ht
   refine⟨h.len,?_,?_,?_,?_,(h.defers.trans e.df.symm),hg,ho,hx,h.heap.keep e hk (by intro k hk e; subst e; simp[Ai,Key.isH] at hk),by rw[hh]; exact h.hdom⟩
   ·intro i' t' u' h1 h2
    rw[Ff _ _ _ _ dc,ae (λe:t'=t=>nm.sep j t i' ht (e▸h1))]
    exact(h.var i' t' u' h1 h2).keep e hk (by simp[Ai]) (by simp[Ai])
   ·intro j' t' u' h1 h2
    rw[Ff _ _ _ _ dc]
    simp only[PI.put,aU] at h2
    by_cases hj:j=j'
    ·subst hj
     have:t'=t:=by rw[ht] at h1; simpa using h1.symm
     subst this
     split at h2
     ·split at h2
      ·simp at h2; subst h2; simp only[if_true]; exact hs
      ·simp at h2
     ·exact absurd rfl ‹_›
    ·rw[ae hj] at h2
     have da:t'≠t:=λe=>hj (nm.lnd j j' t ht (e▸h1))
     rw[ae da]
     exact(h.loc j' t' u' h1 h2).keep e hk (by simp[Ai]; omega) (by simp)
   ·intro i' t' h1; simpa[Act.put] using h.tv i' t' h1
   ·intro j' t' h1; simpa[Act.put] using h.tl j' t' h1
theorem SR.own {N:Nm} {w:World} {G:GS} {key:Key} {v:Value} {es:List PV} (h:VR N w G.fix G.heap v (.list true es)) (hr:Room w G key v es):SR N w G key v (.list true es):=⟨h,hr⟩
structure ListR (N:Nm) (w:World) (fix:Nat→Nat→Prop) (hp:Nat→Option Nat) (size:Nat) (news:List Value) (es:List PV):Prop where
 len:news.length=es.length*size
 sz:∀e∈es,e.cells.length=size
 flat:∀e∈es,∀x∈e.cells,x.flat=true
 vr:∀(i:Nat) (e:PV),es[i]? = some e→∀(k:Nat) (c:Value) (x:PV),news[i*size+k]? = some c→e.cells[k]? = some x→VR N w fix hp c x
section
variable {E:Env} {N:Nm} {w:World} {G:GS} {st:St} {a:Act} {vs:List Tmp} {ops:List Oper} {P:Program}
variable {o:Oper} {j:Nat} {next:Act→World→Prop} {Q:Exit→Act→World→Prop} {u:PV} {st1:St}
theorem ListR.append {fix:Nat→Nat→Prop} {hp:Nat→Option Nat} {size:Nat} {xs ys:List Value} {es fs:List PV} (h:ListR N w fix hp size xs es) (k:ListR N w fix hp size ys fs) (hs:size≠0):
  ListR N w fix hp size (xs++ys) (es++fs):=by
 refine⟨by simp[h.len,k.len,aQ],?_,?_,?_⟩
 ·intro e he; rcases ay.1 he with he|he
  ·exact h.sz e he
  ·exact k.sz e he
 ·intro e he; rcases ay.1 he with he|he
  ·exact h.flat e he
  ·exact k.flat e he
 ·intro i e he m c x hc hx
  by_cases hi:i<es.length
  ·rw[al hi] at he
   have hm:m<size:=by have:=(ah.1 hx).1; have:=h.sz e (ax he); omega
   rw[al (by rw[h.len]; exact KB hi hm)] at hc
   exact h.vr i e he m c x hc hx
  ·rw[aq (by omega)] at he
   have nx:xs.length≤i*size+m:=by
    rw[h.len]
    have:es.length*size≤i*size:=bq _ (by omega)
    omega
   rw[aq nx,h.len] at hc
   refine k.vr _ e he m c x ?_ hx
   rw[show (i - es.length)*size+m=i*size+m - es.length*size by
    rw[Nat.sub_mul]
    have:es.length*size≤i*size:=bq _ (by omega)
    omega]
   exact hc
theorem ListR.mono {w':World} {fix fix':Nat→Nat→Prop} {hp fk:Nat→Option Nat} {size:Nat} {xs:List Value} {es:List PV} (h:ListR N w fix hp size xs es)
  (hf:∀b o,fix b o→fix' b o∧w'.cell? ⟨b,o,none⟩=w.cell? ⟨b,o,none⟩) (hh:∀n b,hp n=some b→fk n=some b) (hs:ShapeLe w w'):ListR N w' fix' fk size xs es:=
 ⟨h.len,h.sz,h.flat,λi e he k c x hc hx=>(h.vr i e he k c x hc hx).mono hf hh hs⟩
theorem ListR.one {fix:Nat→Nat→Prop} {hp:Nat→Option Nat} {size:Nat} {xs:List Value} {es:List PV} (h:ListR N w fix hp size xs es) (hs:size≠0):∀c∈xs,c.oneCell'=true:=by
 intro c hc
 obtain⟨m,hm⟩:=bj.1 hc
 have cV:m<es.length*size:=by have:=(ah.1 hm).1; rw[h.len] at this; exact this
 have hi:m / size<es.length:=by rw[Nat.div_lt_iff_lt_mul (by omega)]; exact cV
 have hk:m % size<size:=bP _ (by omega)
 have he:=am hi
 have dT:=ax he
 have eO:m % size<(es[m / size]).cells.length:=by rw[h.sz _ dT]; exact hk
 have hx:=am eO
 have xP:m / size*size+m % size=m:=by rw[cC]; exact Nat.div_add_mod m size
 have h1:=(h.vr _ _ he _ c _ (by rw[xP]; exact hm) hx).oneCell (h.flat _ dT _ (ax hx))
 cases c<;>first|rfl|simp[oneCell] at h1
theorem OM {fix:Nat→Nat→Prop} {hp:Nat→Option Nat} {size:Nat} {v:Value} {own:Bool} {es:List PV} (h:VR N w fix hp v (.list own es)) (hh:yU size es=true):
  ∃ news, ListR N w fix hp size news es ∧ ((v = .slice none 0 0 ∧ es = [] ∧ news = []) ∨ (∃ ad cap, v = .slice (some ad) 0 cap ∧ es = [] ∧ news = []) ∨
    ∃b off cap,v = .slice (some ⟨b,off,none⟩) es.length cap∧es.length≤cap∧∀(j:Nat) (u:Value),news[j]? = some u→w.cell? ⟨b,off+j,none⟩=some u∧fix b (off+j)):=by
 cases h with
 | nils=>exact⟨[],⟨by simp,by simp,by simp,by simp⟩,.inl ⟨rfl,rfl,rfl⟩⟩
 | void _ ad cap=>exact⟨[],⟨by simp,by simp,by simp,by simp⟩,.inr (.inl ⟨ad,cap,rfl,rfl,rfl⟩)⟩
 | list _ b off len cap sz _ cv cS db dc cY hcell cZ =>
   subst cS
   by_cases h0:es=[]
   ·subst h0
    exact⟨[],⟨by simp,by simp,by simp,by simp⟩,.inr (.inr ⟨b,off,cap,rfl,db,by simp⟩)⟩
   ·have hs:sz=size:=by
     cases es with
     | nil=>exact absurd rfl h0
     | cons y ys =>
       have:=dc y (by simp)
       simp[yU] at hh
       omega
    subst hs
    refine⟨(List.range (es.length*sz)).map cv,⟨by simp,dc,cY,?_⟩,.inr (.inr ⟨b,off,cap,rfl,db,?_⟩)⟩
    ·intro i e he k c x hc hx
     simp only[aF,ab] at hc
     obtain⟨m,hm,rfl⟩:=hc
     have:m=i*sz+k:=by
      have:=(ah.1 hm)
      obtain⟨h1,h2⟩:=this
      simp at h2; exact h2.symm
     subst this
     exact cZ i e he k x hx
    ·intro j u hu
     simp only[aF,ab] at hu
     obtain⟨m,hm,rfl⟩:=hu
     have kC:m=j∧j<es.length*sz:=by
      obtain⟨h1,h2⟩:=ah.1 hm
      simp at h1 h2; exact⟨h2.symm,h1⟩
     obtain⟨rfl,cV⟩:=kC
     exact hcell m cV
theorem Uz {fix:Nat→Nat→Prop} {hp:Nat→Option Nat} {size b off cap:Nat} {own:Bool} {es:List PV} {news:List Value} (h:ListR N w fix hp size news es) (db:es.length≤cap)
  (hc:∀(j:Nat) (u:Value),news[j]? = some u→w.cell? ⟨b,off+j,none⟩=some u∧fix b (off+j)):VR N w fix hp (.slice (some ⟨b,off,none⟩) es.length cap) (.list own es):=by
 refine .list own b off es.length cap size es (λk=>news.getD k undef) rfl db h.sz h.flat ?_ ?_
 ·intro k hk
  have cV:k<news.length:=by rw[h.len]; exact hk
  have:=hc k news[k] (am cV)
  simpa[List.getD,am cV] using this
 ·intro i e he k x hx
  have hk:k<size:=by have:=(ah.1 hx).1; have:=h.sz e (ax he); omega
  have hi:i<es.length:=(ah.1 he).1
  have cV:i*size+k<news.length:=by rw[h.len]; exact KB hi hk
  have:=h.vr i e he k news[i*size+k] x (am cV) hx
  simpa[List.getD,am cV] using this
theorem KC (P:Program) (g o:Nat) (t:TypeId) (fz:Nat×Nat):∀(vs:List Value) (i:Nat) (cur:Array Value) (w:World),w.heap[g]? = some (.cells cur t fz)→(∀o,o<cur.size→¬(fz.1≤o∧o<fz.2))→o+i+vs.length≤cur.size→(∀v∈vs,v.oneCell'=true) →
  (storeCells ⟨g,o,none⟩ vs i).run P w = .ok () (w.setRow g (cur.toList.take (o+i)++vs++cur.toList.drop (o+i+vs.length)).toArray)
 | [], i, cur, w, hg, _, _, _ => by
   simp only[storeCells,be,bo,bw,bR,Array.toArray_toList]
   rw[setRow_self w g cur t fz hg]
   rfl
 | v :: rest, i, cur, w, hg, hz, hl, h1 => by
   have hi:o+i<cur.size:=by simp at hl; omega
   have dV:(⟨g,o,none⟩:Addr).add i=⟨g,o+i,none⟩:=by unfold Addr.add; split<;>simp_all
   have hcell:w.cell? ⟨g,o+i,none⟩=some cur[o+i]:=by simp[World.cell?,hg,hi]
   have uq:w.frozen? ⟨g,o+i,none⟩=false:=by
    have:=hz _ hi
    obtain⟨lo,iU⟩:=fz
    simp only at this
    simp only[World.frozen?,hg,Bool.and_eq_false_iff,cm]
    omega
   have dn:(store ((⟨g,o,none⟩:Addr).add i) v).run P w = .ok () (w.setRow g (cur.setIfInBounds (o+i) v)):=by
    rw[dV,run_store P w _ v _ (h1 v (by simp)),hcell]
    simp[uq,setCell_eq_setRow w g (o+i) cur t fz v hg]
   have ih:=KC P g o t fz rest (i+1) (cur.setIfInBounds (o+i) v) (w.setRow g (cur.setIfInBounds (o+i) v)) (setRow_heap w g cur _ t _ hg) (by simpa using hz) (by simp at hl ⊢; omega) (λx hx=>h1 x (by simp[hx]))
   simp only[storeCells,Sem.run_bind,dn,Result.andThen_ok,ih,setRow_setRow]
   congr 3
   have e:=list_seg_step cur.toList (o+i) v rest (by simp at hl ⊢; omega)
   simpa[Array.toList_setIfInBounds,cB] using e
theorem b9L (hE:EnvOk E N) (nm:Names vs (x7 vs ops)) (ho:ops[j]? = some o) (hf:FI N w G st a vs (x7 vs ops)) {ts tx e:TypeId} {size:Nat} {z:List PV} {s x:Operand} {ps:PX}
  (cW:o.op = .call { callee := .builtin .append,args := #[s,x],argTypes := #[ts,tx] }) (eI:yF vs o.dst≠.n) (ff:P.underlying ts=some (.slice e)) (hn:yN P e=some size) (hz:zV P e=some z)
  (jf:cx E vs ops s=some ps) {es xs:List PV} {st':St} (d9:tk st ps=some (.list true es,st')) (ie:yU size es=true) (cS:es.length+xs.length≤9223372036854775807) (eT:(es.length+xs.length)*P.bytesOf e≤140737488355328)
  {news:List Value} (fT:ListR N w G.fix G.heap size news xs) (dU:Src P size tx (a.eval x) xs.length news w)
  (hk:yz N w G a st' (.list true (es++xs)) vs ops j o next):o.wp P a w next Q:=by
 obtain⟨i,d,hi,gG,fV,hd⟩:=A8 hn
 obtain⟨i2,zv,eH,jN,_,ka,gz,_⟩:=D5 (N:=N) (w:=w) (fix:=G.fix) (hp:=G.heap) hz
 have:i2=i:=by rw[hi] at eH; simpa using eH.symm
 subst this
 subst gG
 have ia:zv.cells.size=i2.size:=by have:=gz.1; simp at this; omega
 have gX:P.bytesOf e=i2.bytes:=by simp[Program.bytesOf,hi]
 rw[gX] at eT
 obtain⟨G1,dt,dZ,iO,fY,ei,cZ,fQ,_,xR,_⟩:=GG hE jf hf d9 (Ai (yF vs o.dst) j)
 obtain⟨olds,qY,dS⟩:=OM cZ ie
 have dD:Room w G1 (Ai (yF vs o.dst) j) (a.eval s) es:=fQ
 have ip:∀v w',(Builtin.append_ #[ts,tx] o.type #[a.eval s,a.eval x]).run P w = .ok v w'→(execOp a.eval o).run P w = .ok (.value v) w':=by
  intro v w' hr
  simp[execOp,cW,resolve,invoke,builtin,hr]
 have qZ:ListR N w G1.fix G1.heap i2.size news xs:=by rw[fY,ei]; exact fT
 have q6:ListR N w G1.fix G1.heap i2.size olds es:=by rw[fY,ei]; exact qY
 have oD:VR N w G1.fix G1.heap (a.eval s) (.list true es):=by rw[fY,ei]; exact cZ
 have finish:∀(v:Value) (w':World) (G':GS),(Builtin.append_ #[ts,tx] o.type #[a.eval s,a.eval x]).run P w = .ok v w'→Ext w G1 w' G'→zo (λk=>k=Ai (yF vs o.dst) j) w G1 w' G' →
   (∀g b,G'.box g=some b→G1.box g=some b)→(∀b k,G'.ow b=some k→b<w'.heap.size)→(∀b o,G'.fix b o→b<w'.heap.size)→G'.heap=G1.heap→VR N w' G'.fix G'.heap v (.list true (es++xs))→Room w' G' (Ai (yF vs o.dst) j) v (es++xs) →
   o.wp P a w next Q:=by
  intro v w' G' hr cR cU it how gx hh hv q7
  unfold Oper.wp
  rw[ip v w' hr]
  refine hk _ _ G' (dt.extDst nm (BJ ho) eI cR cU ?_ how gx hh (SR.own hv q7)) (dZ.trans cR) (BK _ _ _)
  intro g b hb
  exact dt.gen g b (it g b hb)
 by_cases jP:∃base cap,a.eval s = .slice base es.length cap∧cap<es.length+xs.length
 ·
  obtain⟨base,cap,hv,db⟩:=jP
  have ke:(Builtin.firstCells i2.size es.length (.slice base es.length cap)).run P w.drew = .ok olds.toArray w.drew:=by
   rcases dS with⟨h1,h2,h3⟩|⟨ad,cap',h1,h2,h3⟩|⟨b,off,cap',h1,h2,h3⟩
   ·rw[hv] at h1; simp at h1
    obtain⟨rfl,_,rfl⟩:=h1
    subst h3
    exact run_firstCells_none w.drew _ _ _ _
   ·rw[hv] at h1; simp at h1
    obtain⟨rfl,_,rfl⟩:=h1
    subst h3
    rw[h2]
    exact run_firstCells_some w.drew _ _ _ _ _ [] (by simp) (by simp)
   ·rw[hv] at h1; simp at h1
    obtain⟨rfl,rfl⟩:=h1
    exact run_firstCells_some w.drew _ _ _ _ _ olds qY.len (λj u hu=>by rw[B5]; exact(h3 j u hu).1)
  have im:Builtin.nextslicecap (es.length+xs.length) cap*i2.bytes≤281474976710656:=by
   exact growslice_fits db eT
  have cT:=run_append_grow_src (P:=P) w ts tx o.type e i2 zv ff hi jN base es.length cap olds ke (a.eval x) xs.length news dU db (by omega) im
  rw[← hv] at cT
  have gg:∀o,¬G1.fix w.heap.size o:=λo h=>by have:=dt.fixlt _ _ h; omega
  have ja:=grownCap_ge w (es.length+xs.length) cap e
  let CS:Array Value:=(olds++news).toArray++Builtin.zeroCells zv.cells (grownCap w (es.length+xs.length) cap e - (es.length+xs.length))
  let G':GS:={ G1 with fix:=λb o=>G1.fix b o∨(b=w.heap.size∧o<(es.length+xs.length)*i2.size),ow:=λb=>if b=w.heap.size then some (Ai (yF vs o.dst) j) else G1.ow b }
  have hR:=q6.append qZ fV
  have ur:CS.size=grownCap w (es.length+xs.length) cap e*i2.size:=by
   simp only[CS,cM,cj,size_zeroCells,ia,hR.len,ap]
   rw[Nat.sub_mul]
   have:(es.length+xs.length)*i2.size≤grownCap w (es.length+xs.length) cap e*i2.size:=bq _ ja
   omega
  have cR:Ext w G1 (w.drew.alloc (.cells CS e)) G':=by
   refine⟨rfl,rfl,rfl,by simp,λb hb _=>Ax (w:=w.drew) hb,λb o h=>⟨.inl h,Fa (w:=w.drew) (dt.fixlt _ _ h)⟩,?_,?_,λ_ _ h=>h,.same λk hk=>Ax (w:=w.drew) hk,rfl⟩
   ·rintro b o (h|h)
    ·exact .inl h
    ·exact .inr (.inl (by omega))
   ·intro b hb
    simp only[G'] at hb
    split at hb
    ·exact .inl (by omega)
    ·exact .inr hb
  refine finish _ _ G' cT cR ?_ (λ_ _ h=>h) ?_ ?_ rfl ?_ ?_
  ·refine⟨?_,λ_ _ h=>h⟩
   intro b k hb _
   have cV:=dt.owlt _ _ hb
   refine⟨?_,Ax (w:=w.drew) cV,?_⟩
   ·simp only[G']; rw[ae (by omega)]; exact hb
   ·rintro o (h|h)
    ·exact h
    ·omega
  ·intro b k hb
   simp only[G'] at hb
   split at hb
   ·simp; omega
   ·have:=dt.owlt _ _ hb; simp; omega
  ·rintro b o (h|h)
   ·have:=dt.fixlt _ _ h; simp; omega
   ·simp; omega
  ·have ej:(es++xs).length=es.length+xs.length:=by simp
   have eM:VR N (w.drew.alloc (.cells CS e)) G'.fix G'.heap (.slice (some ⟨w.heap.size,0,none⟩) (es++xs).length (grownCap w (es.length+xs.length) cap e)) (.list true (es++xs)) := ?_
   ·rw[ej] at eM; exact eM
   refine Uz (hR.mono cR.fix cR.heap cR.shape) (by rw[ej]; exact ja) ?_
   intro j' u' hu
   have cV:j'<(olds++news).length:=(ah.1 hu).1
   refine⟨?_,.inr ⟨rfl,by rw[hR.len,ej] at cV; omega⟩⟩
   rw[aS]
   have:=World.cell?_alloc_new w.drew CS e j'
   refine this.trans ?_
   simp only[CS]
   rw[bY (by simpa using cV)]
   simpa using hu
  ·refine .inr ⟨by simp[G'],i2.size,CS,e,hR.sz,.of (C3 (w:=w.drew)),by rw[ur]; simp,by omega,?_⟩
   rintro o' eA (h|h)
   ·exact gg _ h
   ·simp at eA; omega
 ·
  have lf:∃base cap,a.eval s = .slice base es.length cap:=by
   rcases dS with⟨h1,h2,_⟩|⟨ad,cap,h1,h2,_⟩|⟨b,off,cap,h1,_⟩
   ·exact⟨none,0,by rw[h1,h2]; rfl⟩
   ·exact⟨some ad,cap,by rw[h1,h2]; rfl⟩
   ·exact⟨_,cap,h1⟩
  obtain⟨base,cap,hv⟩:=lf
  have ez:es.length+xs.length≤cap:=by
   rcases Nat.lt_or_ge cap (es.length+xs.length) with h|h
   ·exact absurd ⟨base,cap,hv,h⟩ jP
   ·exact h
  by_cases gy:xs=[]
  ·subst gy
   have jy:news=[]:=by have:=fT.len; simpa using this
   subst jy
   have cT:(Builtin.append_ #[ts,tx] o.type #[a.eval s,a.eval x]).run P w = .ok (a.eval s) w:=by
    rw[hv]
    have ut:es.length≤cap:=by simpa using ez
    have jF:(Builtin.lenOf (a.eval x)).run P w = .ok 0 w:=by simpa using dU.len w
    have jV:(Builtin.firstCells i2.size 0 (a.eval x)).run P w = .ok #[] w:=by simpa using dU.cells
    rcases dU.kind with⟨e'',dq⟩|dq <;>
     cases base<;>simp[Builtin.append_,run_underlying ff,run_underlying dq,Go.sizeOf,typeInfo,hi,jF,ut,jV,storeCells]
   refine finish _ w G1 cT (Ext.refl _ _) ⟨λb k h _=>⟨h,rfl,λ_ h=>h⟩,λ_ _ h=>h⟩ (λ_ _ h=>h) dt.owlt dt.fixlt rfl (by simpa using oD) (by simpa using dD)
  ·
   have vu:0<xs.length:=bI.2 gy
   rcases dS with⟨h1,h2,_⟩|⟨ad,cap',h1,h2,_⟩|⟨b,off,cap',h1,h2,h3⟩
   ·rw[hv] at h1; simp at h1; omega
   ·have uu:base=some ad∧cap=cap':=by rw[hv,h2] at h1; simpa using h1
    obtain⟨rfl,rfl⟩:=uu
    rw[hv] at dD
    rw[h2] at dD ez
    rcases dD with dD|⟨_,_,_,_,_,_,_,dr,_⟩
    ·simp at ez dD; omega
    ·simp at dr
   ·have uu:base=some ⟨b,off,none⟩∧cap=cap':=by rw[hv] at h1; simpa using h1
    obtain⟨rfl,rfl⟩:=uu
    rw[hv] at dD
    rcases dD with dD|⟨how,sz,cur,T,dc,⟨fz,d7,oE⟩,im,dr,dH⟩
    ·omega
    ·have uv:sz=i2.size:=by
      cases es with
      | nil=>simp at dr
      | cons y ys=>have:=dc y (by simp); have:=qY.sz y (by simp); omega
     subst uv
     simp only at how d7 im dH oE
     have uw:off+es.length*i2.size+news.length≤cur.size:=by
      rw[fT.len]
      have:(es.length+xs.length)*i2.size≤cap*i2.size:=bq _ ez
      rw[aQ] at this; omega
     let NR:Array Value:=(cur.toList.take (off+es.length*i2.size)++news++cur.toList.drop (off+es.length*i2.size+news.length)).toArray
     have cT:(Builtin.append_ #[ts,tx] o.type #[a.eval s,a.eval x]).run P w = .ok (.slice (some ⟨b,off,none⟩) (es.length+xs.length) cap) (w.setRow b NR):=by
      have dn:=KC P b (off+es.length*i2.size) T fz news 0 cur w d7 oE (by simpa using uw) (fT.one fV)
      simp only[bw] at dn
      rw[hv]
      rcases dU.kind with⟨e'',dq⟩|dq <;>
       simp[Builtin.append_,run_underlying ff,run_underlying dq,Go.sizeOf,typeInfo,hi,dU.len,ez,dU.cells,B5,dn,NR]
     have gf:b<w.heap.size:=dt.owlt _ _ how
     have dj:∀x,x≠b→(w.setRow b NR).heap[x]? = w.heap[x]? := λx hx=>setRow_other w b x _ hx
     let G':GS:={ G1 with fix:=λb' o=>G1.fix b' o∨(b'=b∧off+es.length*i2.size≤o∧o<off+(es.length+xs.length)*i2.size) }
     have kg:NR.size=cur.size:=by simp only[NR,cj,ap,aY,cg,bp]; omega
     have tG:∀k,k<off+es.length*i2.size→NR[k]? = cur[k]? := by
      intro k hk
      simp only[NR,bZ,aN]
      rw[al (by simp; omega),aW,ai hk]
      simp
     have ux:∀k,k<news.length→NR[off+es.length*i2.size+k]? = news[k]? := by
      intro k hk
      have hl:(cur.toList.take (off+es.length*i2.size)).length=off+es.length*i2.size:=by simp; omega
      simp only[NR,bZ,aN]
      rw[aq (by omega),hl,al (by omega)]
      congr 1; omega
     have lz:∀k,(w.setRow b NR).cell? ⟨b,k,none⟩=NR[k]? := λk=>cell_setRow_same w b k cur NR T fz d7
     have cR:Ext w G1 (w.setRow b NR) G':=by
      refine⟨rfl,rfl,rfl,by simp[World.setRow],?_,?_,?_,λ_ h => .inr h,λ_ _ h=>h,II d7 _ kg,rfl⟩
      ·intro y _ jX
       exact dj y (by rintro rfl; rw[how] at jX; simp at jX)
      ·intro y o' gx
       refine⟨.inl gx,?_⟩
       by_cases jQ:y=b
       ·subst jQ
        have cV:o'<off+es.length*i2.size:=by
         rcases Nat.lt_or_ge o' (off+es.length*i2.size) with h|h
         ·exact h
         ·exact absurd gx (dH o' h)
        rw[lz,tG o' cV]
        simp[World.cell?,d7]
       ·simp only[World.cell?,dj y jQ]
      ·rintro y o' (h|h)
       ·exact .inl h
       ·exact .inr (.inr (by rw[h.1,how]; simp))
     refine finish _ _ G' cT cR ?_ (λ_ _ h=>h) (λy k hy=>by simpa[World.setRow] using dt.owlt y k hy) ?_ rfl ?_ ?_
     ·refine⟨?_,λ_ _ h=>h⟩
      intro y k hy iS
      have jQ:y≠b:=by rintro rfl; rw[how] at hy; simp at hy; exact iS hy.symm
      refine⟨hy,dj y jQ,?_⟩
      rintro o' (h|h)
      ·exact h
      ·exact absurd h.1 jQ
     ·rintro y o' (h|h)
      ·simpa[World.setRow] using dt.fixlt _ _ h
      ·simp[World.setRow]; omega
     ·have ej:(es++xs).length=es.length+xs.length:=by simp
      rw[← ej]
      refine Uz ((q6.append qZ fV).mono cR.fix cR.heap cR.shape) (by rw[ej]; exact ez) ?_
      intro k u' hu
      by_cases eV:k<olds.length
      ·rw[al eV] at hu
       obtain⟨c1,c2⟩:=h3 k u' hu
       have:=cR.fix b (off+k) (by rw[fY]; exact c2)
       exact⟨this.2.trans c1,this.1⟩
      ·rw[aq (by omega)] at hu
       have cV:k - olds.length<news.length:=(ah.1 hu).1
       have he:off+k=off+es.length*i2.size+(k - olds.length):=by have:=qY.len; omega
       refine⟨?_,.inr ⟨rfl,?_,?_⟩⟩
       ·rw[lz,he,ux _ cV]; exact hu
       ·rw[he]; omega
       ·rw[he,aQ]; have:=fT.len; omega
     ·refine .inr ⟨how,i2.size,NR,T,?_,⟨fz,setRow_heap w b cur NR T fz d7,λo ho=>oE o (by rw[← kg]; exact ho)⟩,?_,by omega,?_⟩
      ·intro y hy
       rcases ay.1 hy with hy|hy
       ·exact qY.sz y hy
       ·exact fT.sz y hy
      ·simp only[NR,cj,ap,aY,cg,bp]; omega
      ·rintro o' eA (h|h)
       ·refine dH o' ?_ h
        simp only[ap,aQ] at eA
        omega
       ·simp only[ap,aQ] at eA
        have:=h.2.2
        rw[aQ] at this
        omega
theorem b8l (hE:EnvOk E N) (nm:Names vs (x7 vs ops)) (ho:ops[j]? = some o) (hf:FI N w G st a vs (x7 vs ops)) {ts tx e e':TypeId} {size:Nat} {z:List PV} {s x:Operand} {ps px:PX}
  (cW:o.op = .call { callee := .builtin .append,args := #[s,x],argTypes := #[ts,tx] }) (eI:yF vs o.dst≠.n) (ff:P.underlying ts=some (.slice e)) (ii:P.underlying tx=some (.slice e')) (hn:yN P e=some size) (hz:zV P e=some z)
  (jf:cx E vs ops s=some ps) (hx:cx E vs ops x=some px) {cf:yg} (hs:opv cf (.append size (P.bytesOf e) ps px) st=some (u,st1)) (hk:yz N w G a st1 u vs ops j o next):o.wp P a w next Q:=by
 simp only[opv] at hs
 split at hs
 ·rename_i xs es st' q8 d9
  split at hs
  ·rename_i cX
   obtain⟨ie,fR,lA⟩:=cX
   have cS:es.length+xs.length≤9223372036854775807:=by rcases lA with⟨h,_⟩|⟨h,_⟩<;>omega
   have eT:(es.length+xs.length)*P.bytesOf e≤140737488355328:=by
    rcases lA with⟨h,h'⟩|⟨_,h⟩
    ·exact aD (Nat.mul_le_mul h h') (by decide)
    ·exact h
   simp only[aa,ac] at hs
   obtain⟨rfl,rfl⟩:=hs
   simp only[aj] at q8
   obtain⟨px0,ml,gP⟩:=q8
   have iM:=(yH hE hx hf ml).1.row gP
   obtain⟨news,fT,q9⟩:=OM iM fR
   obtain⟨_,_,_,_,fV,_⟩:=A8 hn
   have dU:Src P size tx (a.eval x) xs.length news w:=by
    rcases q9 with⟨h1,h2,h3⟩|⟨ad,cap,h1,h2,h3⟩|⟨b,off,cap,h1,h2,h3⟩
    ·rw[h1,h2,h3]; exact Src.ofNil w ii 0
    ·rw[h1,h2,h3]; exact Src.ofSlice w ii ad 0 cap [] (by simp) (by simp) (by simp)
    ·rw[h1]
     exact Src.ofSlice w ii ⟨b,off,none⟩ xs.length cap news fT.len (λj u hu=>by rw[B5]; exact(h3 j u hu).1) (fT.one fV)
   exact b9L hE nm ho hf cW eI ff hn hz jf d9 ie cS eT fT dU hk
  ·simp at hs
 ·simp at hs
end
section
variable {E:Env} {N:Nm} {w:World} {G:GS} {st:St} {a:Act} {vs:List Tmp} {ops:List Oper} {P:Program}
variable {o:Oper} {j:Nat} {next:Act→World→Prop} {Q:Exit→Act→World→Prop} {u:PV} {st1:St}
def GS.more (G:GS) (b n:Nat):GS:={ G with ow:=λx=>if x=b then some (.hobj n) else G.ow x,heap:=λm=>if m=n then some b else G.heap m }
theorem IJ (nm:Names vs (x7 vs ops)) (ho:ops[j]? = some o) (hf:FI N w G st a vs (x7 vs ops)) {ob:PObj} {mob:Obj} {v:Value} {u:PV}
  (cT:(execOp a.eval o).run P w = .ok (.value v) (w.alloc mob)) (hv:∀G',G'=G.more w.heap.size st.heap.length→SR N (w.alloc mob) G' (Ai (yF vs o.dst) j) v u)
  (hR:∀G',G'=G.more w.heap.size st.heap.length→Ext w G (w.alloc mob) G'→ObjR N (w.alloc mob) G' st.heap.length w.heap.size ob)
  (hk:yz N w G a { st with heap:=st.heap++[ob] } u vs ops j o next):o.wp P a w next Q:=by
 unfold Oper.wp
 rw[cT]
 let G':GS:=G.more w.heap.size st.heap.length
 have cR:Ext w G (w.alloc mob) G':=by
  refine⟨rfl,rfl,rfl,by simp,λb hb _=>Ax hb,λb o h=>⟨h,Fa (hf.fixlt _ _ h)⟩,λ_ _ h => .inl h,?_,?_,.same λk hk=>Ax hk,rfl⟩
  ·intro b hb
   by_cases cV:b<w.heap.size
   ·refine .inr ?_
    simp only[G',GS.more] at hb
    rw[ae (by omega)] at hb
    exact hb
   ·exact .inl (by omega)
  ·intro n b h
   have:=hf.hdom _ _ h
   simp only[G',GS.more]
   rw[ae (by omega)]; exact h
 have cU:zo (λ_=>False) w G (w.alloc mob) G':=by
  refine⟨?_,λ_ _ h=>h⟩
  intro b k hb _
  have cV:=hf.owlt _ _ hb
  refine⟨?_,Ax cV,λ_ h=>h⟩
  simp only[G',GS.more]
  rw[ae (by omega)]; exact hb
 have dt:FI N (w.alloc mob) G' { st with heap:=st.heap++[ob] } a vs (x7 vs ops):=by
  refine⟨hf.len,λi t u h1 h2=>(hf.var i t u h1 h2).keep cR cU (λh=>h) (λ_ _ _ h=>h),λj t u h1 h2=>(hf.loc j t u h1 h2).keep cR cU (λh=>h) (λ_ _ _ h=>h),hf.tv,hf.tl,hf.defers,hf.gen,?_,?_,?_,?_⟩
  ·intro b k hb
   simp only[G',GS.more] at hb
   split at hb
   ·simp; omega
   ·have:=hf.owlt _ _ hb; simp; omega
  ·intro b o h; have:=hf.fixlt _ _ h; simp; omega
  ·exact hf.heap.push cR cU (λ_ _ _ => .inr ⟨λh=>h,λh=>h⟩) (.inr ⟨w.heap.size,by simp[G',GS.more],by simp[G',GS.more],hR G' rfl cR⟩)
  ·intro n b h
   simp only[G',GS.more] at h
   simp only[ap,cL]
   split at h
   ·omega
   ·have:=hf.hdom _ _ h; omega
 exact hk _ _ G' (dt.put nm (BJ ho) (hv _ rfl)) cR (BK _ _ _)
theorem KG (hf:FI N w G st a vs (x7 vs ops)) {cs:Array Value} {ps:List PV} {T:TypeId}
  (hR:∀(k:Nat) (c:Value) (x:PV),cs[k]? = some c→ps[k]? = some x→VR N w G.fix G.heap c x∧x.flat=true∧(∀es,x = .list true es→c = .slice none 0 0)) (hl:cs.size=ps.length)
  {G':GS} (hG:G'=G.more w.heap.size st.heap.length) (cR:Ext w G (w.alloc (.cells cs T)) G'):ObjR N (w.alloc (.cells cs T)) G' st.heap.length w.heap.size (.cells ps):=by
 subst hG
 have gg:∀o,¬G.fix w.heap.size o:=λo h=>by have:=hf.fixlt _ _ h; omega
 refine⟨gg,cs,T,C3,Nat.le_of_eq hl.symm,?_⟩
 intro k c x hc hx
 obtain⟨h1,h2,h3⟩:=hR k c x hc hx
 refine⟨h1.ext cR,h2,?_⟩
 split
 ·rename_i es
  have:=h3 es rfl
  subst this
  trivial
 ·trivial
theorem b8r (nm:Names vs (x7 vs ops)) (ho:ops[j]? = some o) (hf:FI N w G st a vs (x7 vs ops)) {t:TypeId} {z:List PV} (cW:o.op = .alloc t) (hz:zV P t=some z) {cf:yg}
  (hs:x9 cf (.newobj z) st=some (u,st1)) (hk:yz N w G a st1 u vs ops j o next):o.wp P a w next Q:=by
 simp only[x9,aa,ac] at hs
 obtain⟨rfl,rfl⟩:=hs
 obtain⟨ti,zv,h1,h2,h3,h4,h5,_⟩:=D5 (N:=N) (w:=w) (fix:=G.fix) (hp:=G.heap) hz
 refine IJ (mob := .cells zv.cells t) (v := .pointer (some ⟨w.heap.size,0,none⟩)) nm ho hf ?_ ?_ (λG' hG cR=>KG hf ?_ ?_ hG cR) hk
 ·simp[execOp,cW,Instr.alloc,zeroValue,typeInfo,h1,h2,newVar,newRow]
 ·rintro G' rfl
  exact .ptr _ _ w.heap.size (by simp[GS.more])
 ·intro k c x hc hx
  refine⟨h5.2.2 k c x (by simpa using hc) hx,h5.2.1 x (ax hx),?_⟩
  rintro es rfl
  unfold zV at hz
  simp only[h1,h2,aj] at hz
  obtain⟨cs',dS,hz⟩:=hz
  split at hz
  ·simp at hz; subst hz
   exact GD dS k c es (by simpa using hc) hx
  ·simp at hz
 ·have:=h5.1; simpa using this
theorem b8s (hE:EnvOk E N) (nm:Names vs (x7 vs ops)) (ho:ops[j]? = some o) (hf:FI N w G st a vs (x7 vs ops)) {t:TypeId} {n:Nat} {x:Operand} {px:PX} (cW:o.op = .box t x) (hn:yN P t=some n) (hx:cx E vs ops x=some px)
  {cf:yg} (hs:x9 cf (.boxobj n px) st=some (u,st1)) (hk:yz N w G a st1 u vs ops j o next):o.wp P a w next Q:=by
 simp only[x9] at hs
 split at hs
 ·rename_i p hp
  split at hs
  ·rename_i hl
   simp only[aa,ac] at hs
   obtain⟨rfl,rfl⟩:=hs
   obtain⟨_,_,_,_,eW,_⟩:=A8 hn
   have hv:=(yH hE hx hf hp).1
   have dB:=(CellsR.of_cells hv (by intro e; rw[e] at hl; simp at hl; omega))
   refine IJ (mob := .cells (a.eval x).cells t) (v := .pointer (some ⟨w.heap.size,0,none⟩)) nm ho hf ?_ ?_ (λG' hG cR=>KG hf ?_ ?_ hG cR) hk
   ·simp[execOp,cW,Instr.box,newVar,newRow]
   ·rintro G' rfl
    exact .ptr _ _ w.heap.size (by simp[GS.more])
   ·intro k c y hc hy
    refine⟨dB.2.2 k c y (by simpa using hc) hy,dB.2.1 y (ax hy),?_⟩
    rintro es rfl
    have fS:∀es,p≠.list true es:=by
     rintro es rfl
     unfold rd at hp
     cases h1:raw st px with
     | none=>rw[h1] at hp; simp at hp
     | some q=>rw[h1] at hp; cases q<;>simp[cp] at hp
    generalize a.eval x=v at hv hc
    cases hv with
    | agg cs ps cS cY fg hcell=>exact fg k c es hc hy
    | _ =>
      exfalso
      cases k with
      | succ k=>simp[PV.cells] at hy
      | zero =>
        simp[PV.cells] at hy
        try (obtain⟨rfl,rfl⟩:=hy; exact fS _ rfl)
        try (subst hy; exact fS _ rfl)
   ·have:=dB.1; simpa using this
  ·simp at hs
 ·simp at hs
theorem b9S (nm:Names vs (x7 vs ops)) (ho:ops[j]? = some o) (hf:FI N w G st a vs (x7 vs ops)) {t:TypeId} (cW:o.op = .makeMap t none) {cf:yg}
  (hs:x9 cf .mkmap st=some (u,st1)) (hk:yz N w G a st1 u vs ops j o next):o.wp P a w next Q:=by
 simp only[x9,aa,ac] at hs
 obtain⟨rfl,rfl⟩:=hs
 refine IJ (mob := .map #[] 0) (v := .map (some w.heap.size)) nm ho hf ?_ ?_ ?_ hk
 ·simp[execOp,cW,Instr.makeMap]
 ·rintro G' rfl
  exact .map _ w.heap.size (by simp[GS.more])
 ·rintro G' rfl cR
  exact⟨#[],0,C3,rfl,by simp,by simp,by simp⟩
theorem FQ (hf:FI N w G st a vs (x7 vs ops)) {n b:Nat} {cs:List PV} (hg:yC st n=some cs) (hb:G.heap n=some b):
  G.ow b=some (.hobj n)∧(∀o,¬G.fix b o)∧∃cv T,w.heap[b]? = some (.cells cv T (0,0))∧cs.length≤cv.size∧∀(k:Nat) (c:Value) (x:PV),cv[k]? = some c→cs[k]? = some x→CR N w G (.hcell n k) c x:=by
 unfold yC at hg
 split at hg
 ·rename_i cs' hn
  simp at hg; subst hg
  rcases hf.heap.1 n _ hn with e|⟨b',h1,h2,h3,h4⟩
  ·simp at e
  have:b'=b:=by rw[hb] at h1; simpa using h1.symm
  subst this
  exact⟨h2,h3,h4⟩
 ·simp at hg
theorem NQ {b n:Nat} {cv:Array Value} {T:TypeId} {cs:List PV} (hh:w.heap[b]? = some (.cells cv T (0,0))) (hl:cs.length≤cv.size)
  (hc:∀(k:Nat) (c:Value) (x:PV),cv[k]? = some c→cs[k]? = some x→CR N w G (.hcell n k) c x):
  CellsR N w G.fix G.heap (cv.toList.take cs.length) cs∧∀(k:Nat) (v:Value),(cv.toList.take cs.length)[k]? = some v→w.cell? ⟨b,k,none⟩=some v:=by
 have get:∀(k:Nat) (v:Value),(cv.toList.take cs.length)[k]? = some v→cv[k]? = some v:=by
  intro k v hv
  rw[aW] at hv
  split at hv
  ·simpa using hv
  ·simp at hv
 refine⟨⟨by simp; omega,?_,λi c x h1 h2=>(hc i c x (get i c h1) h2).1⟩,?_⟩
 ·intro x hx
  obtain⟨i,hi⟩:=bj.1 hx
  have cV:i<cv.size:=by have:=(ah.1 hi).1; omega
  exact(hc i cv[i] x (by simp[cV]) hi).2.1
 ·intro k v hv
  simp[World.cell?,hh,get k v hv]
theorem KH (hE:EnvOk E N) {x:Operand} {px:PX} {n off:Nat} (hc:cx E vs ops x=some px) (hf:FI N w G st a vs (x7 vs ops)) (hr:addr st px=some (.ptr n off)):
  ∃b,a.eval x = .pointer (some ⟨b,off,none⟩)∧G.heap n=some b:=by
 rcases D4 hE hc hf hr with⟨_,_,_,_,h,_⟩|⟨h,_⟩
 ·simp at h
 ·generalize a.eval x=v at h
  cases h with
  | ptr _ _ b hb=>exact⟨b,rfl,hb⟩
theorem UF (hE:EnvOk E N) (nm:Names vs (x7 vs ops)) (ho:ops[j]? = some o) (hf:FI N w G st a vs (x7 vs ops)) {t:TypeId} {n:Nat} {x:Operand} {px:PX} {tk:Bool} (cW:o.op = .load t x) (hn:yN P t=some n)
  (hx:cx E vs ops x=some px) {cf:yg} (hs:x9 cf (.load n (yY P t) px tk) st=some (u,st1)) (hk:yz N w G a st1 u vs ops j o next):o.wp P a w next Q:=by
 have plain:∀r,(Instr.loadAt t (a.eval x)).run P w = .ok r w→(execOp a.eval o).run P w = .ok (.value r) w:=by
  intro r hr
  simp[execOp,cW,hr]
 have eW:n≠0:=by obtain⟨_,_,_,_,h,_⟩:=A8 hn; exact h
 simp only[x9] at hs
 split at hs
 ·rename_i cs ha
  simp only[ab,ac] at hs
  obtain⟨r,hr,rfl,rfl⟩:=hs
  rcases D4 hE hx hf ha with⟨_,_,_,_,h,_⟩|⟨h,_⟩
  ·simp at h
  ·obtain⟨r',h1,h2,h3⟩:=OF (P:=P) hn h hr
   exact yJ nm ho hf (plain _ h1) (SR.of_pure h2 h3) hk
 ·rename_i m off ha
  obtain⟨b,hv,hb⟩:=KH hE hx hf ha
  simp only[aj] at hs
  obtain⟨cs,hg,hs⟩:=hs
  obtain⟨eJ,gM,cv,T,hh,hl,hc⟩:=FQ hf hg hb
  split at hs
  ·rename_i es d9 hcell
   simp only[aa,ac] at hs
   obtain⟨rfl,rfl⟩:=hs
   simp only[ao,bD] at d9
   have cV:off<cv.size:=by have:=(ah.1 hcell).1; omega
   obtain⟨cZ,_,dD⟩:=hc off cv[off] _ (by simp[cV]) hcell
   obtain⟨G',hG,fP⟩:=Room.give (key':=Ai (yF vs o.dst) j) dD
   have iz:G'.box=G.box∧G'.fix=G.fix∧G'.heap=G.heap:=by
    rcases hG with rfl|⟨b,_,rfl⟩<;>exact⟨rfl,rfl,rfl⟩
   have cR:Ext w G w G':=by
    rcases hG with rfl|⟨b,hb,rfl⟩
    ·exact Ext.refl _ _
    ·exact Ky b _ (λ_=>by simp[hb])
   have cU:zo (λk=>k = .hcell m off) w G w G':=by
    rcases hG with rfl|⟨b,hb,rfl⟩
    ·exact⟨λb k h _=>⟨h,rfl,λ_ h=>h⟩,λ_ _ h=>h⟩
    ·exact Kz b _ (λk' dq=>by rw[hb] at dq; simpa using dq.symm)
   have dt:FI N w G' (yw st m (.cells (cs.set off (.list false es)))) a vs (x7 vs ops):=by
    refine⟨hf.len,λi t' u' h1 h2=>(hf.var i t' u' h1 h2).keep cR cU (by simp) (by simp),λi t' u' h1 h2=>(hf.loc i t' u' h1 h2).keep cR cU (by simp) (by simp),hf.tv,hf.tl,(hf.defers.trans cR.df.symm),by rw[iz.1]; exact hf.gen,?_,by rw[iz.2.1]; exact hf.fixlt,?_,?_⟩
    ·intro b' k di
     rcases hG with rfl|⟨b2,dE,rfl⟩
     ·exact hf.owlt _ _ di
     ·simp only[GS.give] at di
      split at di
      ·subst_vars; exact hf.owlt _ _ dE
      ·exact hf.owlt _ _ di
    ·refine hf.heap.keepBut cR cU (λn k da=>⟨by simp,by simp; omega⟩) (λ_ =>?_)
     refine .inr ⟨b,cR.heap _ _ hb,(cU.1 _ _ eJ (by simp)).1,by rw[iz.2.1]; exact gM,cv,T,hh,by simp[hl],?_⟩
     intro k c y dN hy
     rw[aU] at hy
     split at hy
     ·rename_i em
      subst em
      split at hy
      ·simp at hy; subst hy
       have:c=cv[off]:=by simp[cV] at dN; exact dN.symm
       subst this
       exact⟨(cZ.dem).ext cR,rfl,trivial⟩
      ·simp at hy
     ·rename_i em
      exact(hc k c y dN hy).keep cR cU (by simp; omega)
    ·rw[iz.2.2]; simp only[yw,ba]; exact hf.hdom
   unfold Oper.wp
   have cT:(Instr.loadAt t (a.eval x)).run P w = .ok cv[off] w:=by
    have dA:w.cell? ⟨b,off,none⟩=some cv[off]:=by simp[World.cell?,hh,cV]
    rw[hv]
    simp[Instr.loadAt,Instr.sureAddr,loadVar,GE hn,d9.2,dA]
   rw[plain _ cT]
   exact hk _ _ G' (dt.put nm (BJ ho) ⟨cZ.ext cR,fP⟩) cR (BK _ _ _)
  ·simp only[ab,ac] at hs
   obtain⟨r,hr,rfl,rfl⟩:=hs
   obtain⟨hR,hcell⟩:=NQ hh hl hc
   obtain⟨k1,k2,k3⟩:=Gp hR hr eW (Ev hn)
   have:=Gq (w:=w) hn b off ((cv.toList.take cs.length).drop off) (by simp at k1 ⊢; omega) (λj v hv=>by
    rw[bi] at hv
    exact hcell _ _ hv)
   refine yJ nm ho hf (plain _ ?_) (SR.of_pure k2 k3) hk
   rw[hv]
   simpa[Instr.loadAt,Instr.sureAddr] using this
 ·simp at hs
theorem b4r {n off:Nat} {t:TypeId} {cv:Array Value} {cs cs':List PV} {v:PV} {val:Value} (hl:cs.length≤cv.size) (hn:yN P t=some n) (dn:yB n (yY P t) cs off v=some cs') (cZ:VR N w G.fix G.heap val v):
  ∃ nc : List Value, val.cells.toList = nc ∧ nc.length = n ∧ off + n ≤ cv.size ∧ (∀ c ∈ nc, c.oneCell' = true) ∧ cs'.length = cs.length ∧
    ∀ (k : Nat) (c : Value) (z : PV), (cv.toList.take off ++ nc ++ cv.toList.drop (off + n))[k]? = some c → cs'[k]? = some z →
      (cv[k]? = some c∧cs[k]? = some z)∨(VR N w G.fix G.heap c z∧z.flat=true∧∀es,z = .list true es→(k=off∧c=val∧v = .list true es)∨c = .slice none 0 0):=by
 unfold yB at dn
 split at dn
 ·rename_i iP
  split at dn
  ·rename_i ws
   split at dn
   ·rename_i cX
    simp only[aa] at dn; subst dn
    obtain⟨ca,oj,hR⟩:=CellsR.of_agg cZ
    have hO:OwnNil ca.toList ws:=OwnNil.of_agg (oj▸cZ)
    have dA:val.cells.toList=ca.toList:=by rw[oj]; rfl
    have cS:ca.toList.length=n:=by have:=hR.1; omega
    refine⟨ca.toList,dA,cS,by omega,?_,by simp; omega,?_⟩
    ·intro c gH
     obtain⟨i,hi⟩:=bj.1 gH
     have cV:i<ws.length:=by have:=(ah.1 hi).1; have:=hR.1; omega
     have h1:=hR.2.2 i c ws[i] hi (am cV)
     have h2:=h1.oneCell (hR.2.1 _ (ak cV))
     cases c<;>first|rfl|simp[oneCell] at h2
    ·intro k c z dN hz
     rw[aN] at dN
     have fX:(cv.toList.take off).length=off:=by simp; omega
     have ly:(cs.take off).length=off:=by simp; omega
     by_cases h1:k<off
     ·rw[al (by omega),aW,ai h1] at dN
      rw[al (by omega),aW,ai h1] at hz
      exact .inl ⟨by simpa using dN,hz⟩
     ·rw[aq (by omega),fX] at dN
      rw[aq (by omega),ly] at hz
      by_cases h2:k<off+n
      ·rw[al (by omega)] at dN
       rw[al (by omega)] at hz
       refine .inr ⟨hR.2.2 _ c z dN hz,hR.2.1 z (ax hz),?_⟩
       rintro es rfl
       exact .inr (hO _ c es dN hz)
      ·rw[aq (by omega),bi,cS] at dN
       rw[aq (by omega),bi,cX.1] at hz
       rw[show off+n+(k - off - n)=k by omega] at dN hz
       exact .inl ⟨by simpa using dN,hz⟩
   ·simp at dn
  ·simp at dn
 ·rename_i iP
  have pp:=Ev hn (by simpa using iP)
  subst pp
  split at dn
  ·rename_i cX
   simp only[aa] at dn; subst dn
   have h1:=cZ.oneCell cX.2
   have dA:val.cells.toList=[val]:=by
    cases val<;>first|rfl|simp[oneCell] at h1
   refine⟨[val],dA,rfl,by omega,?_,by simp,?_⟩
   ·intro c gH
    simp at gH; subst gH
    cases c<;>first|rfl|simp[oneCell] at h1
   ·intro k c z dN hz
    rw[aN] at dN
    have fX:(cv.toList.take off).length=off:=by simp; omega
    rw[aU] at hz
    split at hz
    ·rename_i jU
     subst jU
     split at hz
     ·simp at hz; subst hz
      rw[aq (by omega),fX] at dN
      simp at dN; subst dN
      exact .inr ⟨cZ,cX.2,λes e => .inl ⟨rfl,rfl,e⟩⟩
     ·simp at hz
    ·rename_i jU
     refine .inl ⟨?_,hz⟩
     by_cases h1:k<off
     ·rw[al (by omega),aW,ai h1] at dN
      simpa using dN
     ·rw[aq (by omega),fX,aq (by simp; omega),bi] at dN
      simp only[cL] at dN
      rw[show off+1+(k - off - 1)=k by omega] at dN
      simpa using dN
  ·simp at dn
theorem UG (hE:EnvOk E N) (nm:Names vs (x7 vs ops)) (ho:ops[j]? = some o) (hf:FI N w G st a vs (x7 vs ops)) {t:TypeId} {n:Nat} {x y:Operand} {px py:PX} (cW:o.op = .store t x y) (eI:o.dst=none) (hn:yN P t=some n)
  (hx:cx E vs ops x=some px) (hy:cx E vs ops y=some py) {cf:yg} (hs:x9 cf (.store n (yY P t) px py) st=some (u,st1)) (hk:yz N w G a st1 u vs ops j o next):o.wp P a w next Q:=by
 simp only[x9] at hs
 split at hs
 ·rename_i m off v st' ha d9
  obtain⟨b,hv,hb⟩:=KH hE hx hf ha
  obtain⟨G1,dt,dZ,iO,fY,ei,cZ,fQ,_,_,_⟩:=GG hE hy hf d9 (.hcell m off)
  simp only[aj,ab,ac] at hs
  obtain⟨cs,hg,cs',dn,rfl,rfl⟩:=hs
  have eP:G1.heap m=some b:=by rw[ei]; exact hb
  obtain⟨eJ,gM,cv,T,hh,hl,hc⟩:=FQ dt hg eP
  obtain⟨nc,ja,cS,im,kM,um,dB⟩:=b4r hl hn dn cZ
  have cT:(execOp a.eval o).run P w = .ok .skip (w.setRow b (cv.toList.take off++nc++cv.toList.drop (off+n)).toArray):=by
   have dn:=run_storeCells_at P b off T nc 0 cv w hh (by simp; omega) kM
   simp only[bw,cS] at dn
   have dc:(a.eval y).cells.size=n:=by rw[← cS,← ja]; simp
   simp[execOp,cW,Instr.storeAt,hv,Instr.sureAddr,storeVar,Cn hn,dc,ja,dn]
  unfold Oper.wp
  rw[cT]
  have gf:b<w.heap.size:=dt.owlt _ _ eJ
  have dj:∀x,x≠b→(w.setRow b (cv.toList.take off++nc++cv.toList.drop (off+n)).toArray).heap[x]? = w.heap[x]? := λx hx=>setRow_other w b x _ hx
  have dP:Ext w G1 (w.setRow b (cv.toList.take off++nc++cv.toList.drop (off+n)).toArray) G1:=by
   refine⟨rfl,rfl,rfl,by simp[World.setRow],?_,?_,λ_ _ h => .inl h,λ_ h => .inr h,λ_ _ h=>h,II hh _ (by simp; omega),rfl⟩
   ·intro x _ li
    exact dj x (by rintro rfl; rw[eJ] at li; simp at li)
   ·intro x o' gx
    refine⟨gx,?_⟩
    have ik:x≠b:=by rintro rfl; exact gM _ gx
    simp only[World.cell?,dj x ik]
  have dM:zo (λk=>k = .hobj m) w G1 (w.setRow b (cv.toList.take off++nc++cv.toList.drop (off+n)).toArray) G1:=by
   refine⟨?_,λ_ _ h=>h⟩
   intro x k jO iS
   refine⟨jO,dj x ?_,λ_ h=>h⟩
   rintro rfl
   rw[eJ] at jO
   simp at jO
   exact iS jO.symm
  have jm:FI N (w.setRow b (cv.toList.take off++nc++cv.toList.drop (off+n)).toArray) G1 (yw st' m (.cells cs')) a vs (x7 vs ops):=by
   refine⟨dt.len,λi t' u' h1 h2=>(dt.var i t' u' h1 h2).keep dP dM (by simp) (by simp),λi t' u' h1 h2=>(dt.loc i t' u' h1 h2).keep dP dM (by simp) (by simp),dt.tv,dt.tl,dt.defers,dt.gen,?_,?_,?_,?_⟩
   ·intro x k hx; simpa[World.setRow] using dt.owlt x k hx
   ·intro x o' hx; simpa[World.setRow] using dt.fixlt x o' hx
   ·refine dt.heap.keepBut dP dM (λn k da=>⟨by simp; omega,by simp⟩) (λ_ =>?_)
    refine .inr ⟨b,eP,eJ,gM,_,T,setRow_heap w b cv _ T (0,0) hh,?_,?_⟩
    ·simp; omega
    ·intro k c z dN hz
     rcases dB k c z (by simpa using dN) hz with⟨k1,k2⟩|⟨k1,k2,k3⟩
     ·exact(hc k c z k1 k2).keep dP dM (by simp)
     ·refine⟨(fY▸ei▸k1:VR N w G1.fix G1.heap c z).ext dP,k2,?_⟩
      split
      ·rename_i es
       rcases k3 es rfl with⟨e1,e2,e3⟩|e
       ·subst e1 e2 e3
        have hr:Room w G1 (.hcell m k) (a.eval y) es:=fQ
        exact hr.keep dM (by simp)
       ·subst e; trivial
      ·trivial
   ·simp only[yw,ba]; exact dt.hdom
  have gB:a.put o.dst undef=a:=by simp[eI,Act.put]
  have hd:yF vs o.dst = .n:=by simp[eI,yF]
  show next (a.put o.dst undef) _
  rw[gB]
  refine hk _ _ G1 ?_ (dZ.trans dP) rfl
  rw[hd]
  exact jm
 ·simp at hs
theorem b6D (hE:EnvOk E N) (nm:Names vs (x7 vs ops)) (ho:ops[j]? = some o) (hf:FI N w G st a vs (x7 vs ops)) {t:TypeId} {n:Nat} {x y:Operand} {px py:PX} (cW:o.op = .store t x y) (eI:o.dst=none) (hn:yN P t=some n)
  (hx:cx E vs ops x=some px) (hy:cx E vs ops y=some py) {cf:yg} (hs:x9 cf (.storer n (yY P t) px py) st=some (u,st1)) (hk:yz N w G a st1 u vs ops j o next):o.wp P a w next Q:=by
 refine UG hE nm ho hf cW eI hn hx hy (cf:=cf) ?_ hk
 simp only[x9] at hs ⊢
 split at hs
 ·rename_i m off v ha hr
  split at hs
  ·simp at hs
  ·rename_i hl
   have d9:tk st py=some (v,st):=by
    unfold tk
    simp only[rd,aj] at hr
    obtain⟨r,h1,h2⟩:=hr
    rw[h1]
    cases r<;>simp[cp] at h2<;>subst h2<;>first|rfl|simp[Ay] at hl
   simp only[ha,d9]
   exact hs
 ·simp at hs
end
end PI
set_option linter.unusedSimpArgs false
set_option linter.unusedVariables false
namespace PI
open Go Go.MapKept
section
variable {E:Env} {N:Nm} {w:World} {G:GS} {st:St} {a:Act} {vs:List Tmp} {ops:List Oper} {P:Program}
variable {o:Oper} {j:Nat} {next:Act→World→Prop} {Q:Exit→Act→World→Prop} {u:PV} {st1:St}
theorem UL (s t:ByteArray):(s==t)=(s.data.toList==t.data.toList):=by
 rw[aR,MapKept.bytes_beq,br]
 constructor
 ·simp_all
 ·intro h
  obtain⟨⟨s⟩⟩:=s
  simp_all
theorem c19 {kt:TypeId} {d:TypeDesc} {kk:EK} {fix:Nat→Nat→Prop} {hp:Nat→Option Nat} {vx vy:Value} {x y:PV} {b:Bool} (hd:P.underlying kt=some d) (hk:ekT P kt=some kk) (hx:VR N w fix hp vx x) (hy:VR N w fix hp vy y) (h:Bm kk x y=some b):
  Instr.sameNow d vx vy=some b:=by
 unfold ekT at hk
 rw[hd] at hk
 unfold Bm at h
 split at h
 ·cases hx; cases hy
  simp only[aa] at h; subst h
  split at hk<;>simp at hk
  rename_i kz
  simp at kz; subst kz
  rfl
 ·cases hx; cases hy
  grind [Option.some.injEq,Instr.sameNow]
 ·cases hx; cases hy
  grind [Option.some.injEq,Instr.sameNow,UL]
 grind
theorem UM {fix:Nat→Nat→Prop} {hp:Nat→Option Nat} {kk:EK} {vx vy:Value} {x y:PV} (hx:VR N w fix hp vx x) (hy:VR N w fix hp vy y) (h:Bm kk x y=some true) (n:Nat):Instr.sameBits n vy vx=true:=by
 unfold Bm at h
 split at h
 ·cases hx; cases hy
  simp_all [Instr.sameBits]
 ·cases hx; cases hy
  simp_all [Instr.sameBits]
 ·cases hx with
  | str s =>
    cases hy<;>simp_all [UL,Instr.sameBits]
 grind
theorem UN {kt:TypeId} {d:TypeDesc} {kk:EK} {fix:Nat→Nat→Prop} {hp:Nat→Option Nat} {kv:Value} {kp:PV} (hd:P.underlying kt=some d) (hk:ekT P kt=some kk) (kh:VR N w fix hp kv kp):
  ∀{mes:List MapEntry} {es:List (PV×PV)} {i:Nat} {r:Option (Nat×PV)},mes.length=es.length→(∀(i:Nat) (e:MapEntry) (p:PV×PV),mes[i]? = some e→es[i]? = some p→VR N w fix hp e.key p.1) →
  zu false [kk] kp es i=some r →
  (r=none∧Instr.findNow d kv mes i=some none)∨(∃n v e p1,r=some (i+n,v)∧Instr.findNow d kv mes i=some (some (i+n,e.val))∧mes[n]? = some e∧es[n]? = some (p1,v)∧Bm kk kp p1=some true)
 | [], [], i, r, _, _, h => by
   simp[zu] at h; subst h
   exact .inl ⟨rfl,rfl⟩
 | e :: mes, p :: es, i, r, hl, hv, h => by
   simp only[zu,aj] at h
   obtain⟨b,hb,h⟩:=h
   have hs:=c19 hd hk kh (hv 0 e p rfl rfl) hb
   cases b with
   | true =>
     simp at h; subst h
     exact .inr ⟨0,p.2,e,p.1,rfl,by simp[Instr.findNow,hs],rfl,rfl,hb⟩
   | false =>
     rcases UN hd hk kh (mes:=mes) (es:=es) (by simp_all) (λi e p h1 h2=>hv (i+1) e p (by simp_all) (by simp_all)) h with⟨h1,h2⟩ | ⟨n,v,e',p1,h1,h2,h3,h4,h5⟩
     ·simp_all [Instr.findNow]
     ·exact .inr ⟨n+1,v,e',p1,by grind,by grind [Instr.findNow],by simp_all,by simp_all,h5⟩
 | [],_::_,_,_,hl,_,_=>by simp at hl
 | _::_,[],_,_,hl,_,_=>by simp at hl
theorem b6E {kt:TypeId} {kk:EK} (hk:ekT P kt=some kk) (b:Bool) (v:Value):(Instr.checkKey b 10000 kt v).run P w = .ok () w:=by
 unfold ekT at hk
 unfold Instr.checkKey
 split at hk<;>simp_all [run_underlying]
theorem UO {kt:TypeId} {kk:Bool×List EK} (h:E9 P kt=some kk):(∃k,ekT P kt=some k∧kk=(false,[k])) ∨
  ∃fs,P.underlying kt=some (.struct fs)∧eqFields P fs.toList 0=some kk.2∧kk.1=true∧P.stoodInHeld kt=false:=by
 unfold E9 at h
 split at h
 ·simp_all
 ·split at h
  ·rename_i ks i8
   simp only[aa] at h
   subst h
   unfold eqT at i8
   split at i8
   ·grind
   ·grind
   ·simp at i8
   ·rename_i fs hu
    split at i8
    ·rename_i ks' uA
     split at i8
     ·rename_i cX
      simp only[aa,ac,true_and] at i8
      subst i8
      simp only[ao,bD] at cX
      exact .inr ⟨fs,hu,uA,rfl,cX.1⟩
     ·simp at i8
    ·simp at i8
   ·simp at i8
  grind
theorem UP:∀{fs:List Field} {off:Nat} {ks:List EK},eqFields P fs off=some ks→ks.length=fs.length∧∀f∈fs,∃i,off≤i∧i<off+fs.length∧f.offset=i∧f.name ≠ "_" ∧ yN P f.type=some 1∧yY P f.type=false∧∃k,ekT P f.type=some k
 | [],off,ks,h=>by simp_all [eqFields]
 | f :: fs, off, ks, h => by
   simp only[eqFields] at h
   split at h
   ·simp only[aj,ab] at h
    obtain⟨k,hk,ks',i8,rfl⟩:=h
    obtain⟨h1,h2⟩:=UP i8
    refine⟨by simp[h1],?_⟩
    intro g hg
    rcases aA.1 hg with rfl|hg
    ·simp_all
    ·obtain⟨i,a1,a2,a3⟩:=h2 g hg
     exact⟨i,by omega,by simp; omega,a3⟩
   grind
theorem KI:∀{ks:List EK} {xs ys:List PV} {b:Bool},A5 ks xs ys=some b→xs.length=ks.length∧ys.length=ks.length
 | [],xs,ys,b,h=>by grind [A5]
 | k :: ks, xs, ys, b, h => by
   cases xs with
   | nil=>simp[A5] at h
   | cons x xs =>
     cases ys with
     | nil=>simp[A5] at h
     | cons y ys =>
       simp only[A5,aj,ab] at h
       obtain⟨_,_,_,h2,_⟩:=h
       obtain⟨a1,a2⟩:=KI h2
       simp[a1,a2]
theorem UQ {ks:List EK} {kp:PV} {es:List (PV×PV)} {i:Nat} {r} (h:zu true ks kp es i=some r):∃cs,kp = .agg cs∧cs.length=ks.length:=by
 cases es with
 | nil =>
   grind [zu.eq_def,reduceCtorEq]
 | cons e es =>
   simp only[zu,aj] at h
   obtain⟨b,hb,_⟩:=h
   simp only[peq] at hb
   grind [KI]
theorem KJ {kt:TypeId} {kk:Bool×List EK} {G:GS} {kv:Value} {kp:PV} (hk:E9 P kt=some kk) (kh:VR N w G.fix G.heap kv kp) {es:List (PV×PV)} {i:Nat} {r} (h:zu kk.1 kk.2 kp es i=some r) (b:Bool):(Instr.checkKey b 10000 kt kv).run P w = .ok () w:=by
 rcases UO hk with⟨k,dq,rfl⟩|⟨fs,hu,hf,h1,_⟩
 ·grind [b6E]
 ·rw[h1] at h
  obtain⟨cs,rfl,hl⟩:=UQ h
  obtain⟨vs,rfl,hc⟩:=CellsR.of_agg kh
  obtain⟨e1,e2⟩:=UP hf
  have dc:vs.size=fs.size:=by have:=hc.1; simp_all
  have key:∀(l:List Field),(∀f∈l,f∈fs.toList)→((do for f in l do if f.name ≠ "_" then Instr.checkKey b 9999 f.type (← part f.type vs f.offset)):Sem Unit).run P w = .ok () w:=by
   intro l
   induction l with
   | nil=>simp
   | cons f l ih =>
     intro hl
     obtain⟨i,a1,a2,a3,a4,a5,a6,k,a7⟩:=e2 f (hl f (by simp))
     have cV:i<vs.size:=by simp_all
     have lx:(part f.type vs f.offset).run P w = .ok vs[i] w:=by
      simp_all [part,GE]
     have lE:(Instr.checkKey b 9999 f.type vs[i]).run P w = .ok () w:=by
      unfold ekT at a7
      unfold Instr.checkKey
      split at a7<;>simp_all [run_underlying]
     simp_all
  unfold Instr.checkKey
  simp only[Sem.run_bind,run_underlying hu,Result.andThen_ok,← Array.forIn_toList]
  grind [Sem.run_bind]
theorem c2a {ks:List EK}:∀{xs ys:List PV} {cs ds:List Value},A5 ks xs ys=some true→cs.length=xs.length→ds.length=ys.length→∀{fix:Nat→Nat→Prop} {hp:Nat→Option Nat},(∀(i:Nat) (v:Value) (p:PV),cs[i]? = some v→xs[i]? = some p→VR N w fix hp v p) →
  (∀(i:Nat) (v:Value) (p:PV),ds[i]? = some v→ys[i]? = some p→VR N w fix hp v p)→∀n,((ds.zip cs).all λ(x,y)=>Instr.sameBits n x y)=true:=by
 induction ks with
 | nil =>
   intro xs ys cs ds h h1 h2 fix hp hx hy n
   obtain⟨a1,a2⟩:=KI h
   simp_all
 | cons k ks ih =>
   intro xs ys cs ds h h1 h2 fix hp hx hy n
   cases xs with
   | nil=>simp[A5] at h
   | cons x xs =>
     cases ys with
     | nil=>simp[A5] at h
     | cons y ys =>
       simp only[A5,aj,ab] at h
       obtain⟨b1,eP,b2,dE,hb⟩:=h
       simp only[ao] at hb
       obtain⟨rfl,rfl⟩:=hb
       cases cs with
       | nil=>simp
       | cons c cs =>
         cases ds with
         | nil=>rfl
         | cons d ds =>
           simp only[List.zip_cons_cons,List.all_cons,ao]
           exact⟨UM (hx 0 c x rfl rfl) (hy 0 d y rfl rfl) eP n,ih dE (by simp_all) (by simp_all) (λi v p a b=>hx (i+1) v p (by grind) (by grind)) (λi v p a b=>hy (i+1) v p (by grind) (by grind)) n⟩
theorem c2b {kk:Bool×List EK} {G:GS} {vx vy:Value} {x y:PV} (hx:VR N w G.fix G.heap vx x) (hy:VR N w G.fix G.heap vy y) (h:peq kk.1 kk.2 x y=some true) (n:Nat):Instr.sameBits (n+1) vy vx=true:=by
 unfold peq at h
 split at h
 ·split at h
  ·obtain⟨cs,rfl,hc⟩:=CellsR.of_agg hx
   obtain⟨ds,rfl,hd⟩:=CellsR.of_agg hy
   obtain⟨a1,a2⟩:=KI h
   have h1:=hc.1
   have h2:=hd.1
   simp only[Instr.sameBits,ao]
   refine⟨by simp_all,c2a h (by omega) (by omega) (λi v p a b=>hc.2.2 i v p (by omega) b) (λi v p a b=>hd.2.2 i v p (by omega) b) n⟩
  grind
 grind [UM]
theorem OX {kt:TypeId} {kk:Bool×List EK} {G:GS} {kv:Value} {kp:PV} (hk:E9 P kt=some kk) (kh:VR N w G.fix G.heap kv kp) {mes:List MapEntry} {es:List (PV×PV)} {r:Option (Nat×PV)} (hl:mes.length=es.length)
  (hv:∀(i:Nat) (e:MapEntry) (p:PV×PV),mes[i]? = some e→es[i]? = some p→VR N w G.fix G.heap e.key p.1) (h:zu kk.1 kk.2 kp es 0=some r):
  (r=none∧(Instr.findKey kt kv mes).run P w = .ok none w)∨(∃n v e p1,r=some (n,v)∧(Instr.findKey kt kv mes).run P w = .ok (some (n,e.val)) w∧mes[n]? = some e∧es[n]? = some (p1,v)∧peq kk.1 kk.2 kp p1=some true):=by
 rcases UO hk with⟨k,dq,rfl⟩|⟨fs,hu,hf,h1,dn⟩
 ·obtain⟨d,hd⟩:∃d,P.underlying kt=some d:=by
   grind [ekT]
  rcases UN hd dq kh hl hv h with⟨a1,a2⟩|⟨n,v,e,p1,a1,a2,a3,a4,a5⟩
  ·simp_all [run_findKey]
  ·simp only[aS] at a1 a2
   exact .inr ⟨n,v,e,p1,a1,run_findKey hd a2,a3,a4,by assumption⟩
 ·simp only[h1] at h ⊢
  have ask:∀(mes:List MapEntry) (es:List (PV×PV)) (i:Nat) (r:Option (Nat×PV)),mes.length=es.length→(∀(i:Nat) (e:MapEntry) (p:PV×PV),mes[i]? = some e→es[i]? = some p→VR N w G.fix G.heap e.key p.1)→zu true kk.2 kp es i=some r →
    (r=none∧(Instr.findAsking kt kv mes i).run P w = .ok none w)∨(∃n v e p1,r=some (i+n,v)∧(Instr.findAsking kt kv mes i).run P w = .ok (some (i+n,e.val)) w∧mes[n]? = some e∧es[n]? = some (p1,v)∧peq true kk.2 kp p1=some true):=by
   intro mes
   induction mes with
   | nil =>
     intro es i r hl hv h
     cases es with
     | cons _ _=>simp at hl
     | nil =>
       obtain⟨cs,rfl,cS⟩:=UQ h
       rw[zu.eq_def] at h
       simp only[cS,if_true,aa] at h
       subst h
       exact .inl ⟨rfl,by simp[Instr.findAsking]⟩
   | cons e mes ih =>
     intro es i r hl hv h
     cases es with
     | nil=>simp at hl
     | cons p es =>
       simp only[zu,aj] at h
       obtain⟨b,hb,h⟩:=h
       have ji:=hb
       simp only[peq,if_true] at hb
       split at hb
       ·rename_i ys qU _
        have vH:=hv 0 e p rfl rfl
        rw[qU] at vH
        clear qU
        obtain⟨cs,rfl,hc⟩:=CellsR.of_agg kh
        obtain⟨ds,vm,hd⟩:=CellsR.of_agg vH
        have oR:P.fieldsOf kt=fs:=by simp[Program.fieldsOf,hu]
        have heq:=run_equalIn_struct (P:=P) w 9999 kt cs ds (by simp_all) dn
        rw[oR,OG hc hd hf (by simpa using hb)] at heq
        have re:(Op.equal kt (.agg cs) e.key).run P w = .ok b w:=by
         simp_all [Op.equal,Op.maxDepth]
        cases b with
        | true =>
          simp at h; subst h
          exact .inr ⟨0,p.2,e,p.1,rfl,by simp[Instr.findAsking,re],rfl,rfl,ji⟩
        | false =>
          simp at h
          rcases ih es (i+1) r (by simp_all) (λi e p a b=>hv (i+1) e p (by grind) (by grind)) h with⟨a1,a2⟩ | ⟨n,v,e',p1,a1,a2,a3,a4,a5⟩
          ·simp_all [Instr.findAsking]
          ·exact .inr ⟨n+1,v,e',p1,by grind,by simp[Instr.findAsking,re,a2]; omega,by simp_all,by simp_all,a5⟩
       grind
  have pC:(Instr.findKey kt kv mes).run P w=(Instr.findAsking kt kv mes 0).run P w:=by
   unfold Instr.findKey
   simp only[Sem.run_bind,run_underlying hu]
   cases mes<;>rfl
  grind
theorem T3 {fix:Nat→Nat→Prop} {hp:Nat→Option Nat} {t:TypeId} {z:PV} (h:Gm P t=some z):∃zv,(zeroValue t).run P w = .ok zv w∧VR N w fix hp zv z∧((∃es,z = .list true es∧zv = .slice none 0 0)∨cp z=some z):=by
 unfold Gm at h
 split at h
 ·rename_i i hi
  simp only[aj] at h
  obtain⟨zv,h1,h2⟩:=h
  exact⟨zv,by simp[zeroValue,typeInfo,hi,h1],Uj h2,OB h2⟩
 grind
theorem VR.cp_dem' {fix:Nat→Nat→Prop} {hp:Nat→Option Nat} {v:Value} {p:PV} (h:VR N w fix hp v p):cp (PI.dem p)=some (PI.dem p):=by
 cases h<;>rfl
theorem UR (hf:FI N w G st a vs (x7 vs ops)) {n b:Nat} {es:List (PV×PV)} (hg:zi st (some n)=some es) (hb:G.heap n=some b):
  G.ow b=some (.hobj n)∧st.heap[n]? = some (.map es)∧ObjR N w G n b (.map es):=by
 unfold zi at hg
 simp only at hg
 split at hg
 ·rename_i es' hn
  rcases hf.heap.1 n _ hn with e|⟨b',h1,h2,h3⟩<;>simp_all
 grind
theorem MR.read {key:Key} {v:Value} {p:PV} (h:MR N w G key v p):VR N w G.fix G.heap v (dem p):=h.1.dem
theorem b8v (hE:EnvOk E N) (nm:Names vs (x7 vs ops)) (ho:ops[j]? = some o) (hf:FI N w G st a vs (x7 vs ops)) {t kt e:TypeId} {m x:Operand} {ok:Bool} {kk:Bool×List EK} {z:PV} {pm px:PX} {tk:Bool}
  (cW:o.op = .lookup t m x ok) (hu:P.underlying t=some (.map kt e)) (fF:E9 P kt=some kk) (hz:Gm P e=some z) (hm:cx E vs ops m=some pm) (hx:cx E vs ops x=some px) {cf:yg}
  (hs:x9 cf (.lookup ok tk kk.1 kk.2 z pm px) st=some (u,st1)) (hk:yz N w G a st1 u vs ops j o next):o.wp P a w next Q:=by
 obtain⟨zv,fA,fl,md⟩:=T3 (P:=P) (N:=N) (w:=w) (fix:=G.fix) (hp:=G.heap) hz
 simp only[x9] at hs
 split at hs
 ·rename_i n k q7 uB
  have kh:=(yH hE hx hf uB).1
  have oI:=(yH hE hm hf q7).1
  simp only[aj] at hs
  obtain⟨es,hg,r,ge,hs⟩:=hs
  have run:∀(mes:Array MapEntry) (r':Option (Nat×Value)),(a.eval m = .map none∧mes = #[]∨∃b clock,a.eval m = .map (some b)∧w.heap[b]? = some (.map mes clock))→(Instr.findKey kt (a.eval x) mes.toList).run P w = .ok r' w →
    (execOp a.eval o).run P w = .ok (.value (if ok then .tuple #[(r'.map Prod.snd).getD zv,.bool r'.isSome] else(r'.map Prod.snd).getD zv)) w:=by
   intro mes r' h1 h2
   have pC:=h2
   rcases h1 with⟨h1,rfl⟩|⟨b,clock,h1,h3⟩
   ·simp only[execOp,cW,Instr.lookup,Sem.run_bind,run_underlying hu,Result.andThen_ok,h1,Sem.run_pure,KJ fF kh ge,pC]
    cases r'<;>simp_all
   ·simp only[execOp,cW,Instr.lookup,Sem.run_bind,run_underlying hu,Result.andThen_ok,h1,run_getObj_map h3,Sem.run_pure,KJ fF kh ge,pC]
    cases r'<;>simp_all
  generalize m6:a.eval m=mv at oI run
  cases oI with
  | mapn =>
    simp only[zi,aa] at hg
    subst hg
    have h0:=OX (P:=P) fF kh (mes:=[]) (es:=[]) rfl (by simp) ge
    have lL:r=none∧(Instr.findKey kt (a.eval x) []).run P w = .ok none w:=by
     simp_all
    obtain⟨rfl,fK⟩:=lL
    simp only[aa,ac] at hs
    obtain⟨rfl,rfl⟩:=hs
    have cT:=run #[] none (.inl ⟨rfl,rfl⟩) fK
    simp only[b9,Option.getD_none,Option.isSome_none] at cT
    cases ok with
    | true =>
      refine yJ nm ho hf cT (SR.of_pure (.tuple _ _ rfl ?_) rfl) hk
      intro i c p hc hp
      match i,hc,hp with
      | 0,hc,hp=>simp_all
      | 1,hc,hp=>simp at hc hp; subst hc hp; exact .bool _
    | false =>
      refine yJ nm ho hf cT ?_ hk
      rcases md with⟨es,rfl,rfl⟩|h
      ·exact⟨fl,trivial⟩
      grind [SR.of_pure]
  | map n b hb =>
    obtain⟨eJ,ug,hobj⟩:=UR hf hg hb
    obtain⟨mes,clock,a1,a2,a3,a4,a5⟩:=hobj
    have hK:(Value.map (some b) = .map none∧mes = #[])∨∃b' clock,Value.map (some b) = .map (some b')∧w.heap[b']? = some (.map mes clock) := .inr ⟨b,clock,rfl,a1⟩
    rcases OX fF kh (mes:=mes.toList) (es:=es) (by omega) (λi e p h1 h2=>(a5 i e p (by grind) h2).1) ge with⟨rfl,h2⟩ | ⟨i,v,en,p1,rfl,h2,h3,h4,_⟩
    ·have cT:=run mes none hK h2
     simp only[aa,ac] at hs
     obtain⟨rfl,rfl⟩:=hs
     simp only[b9,Option.getD_none,Option.isSome_none] at cT
     cases ok with
     | true =>
       refine yJ nm ho hf cT (SR.of_pure (.tuple _ _ rfl ?_) rfl) hk
       intro i c p hc hp
       match i,hc,hp with
       | 0,hc,hp=>grind
       | 1,hc,hp=>simp at hc hp; subst hc hp; exact .bool _
     | false =>
       refine yJ nm ho hf cT ?_ hk
       rcases md with⟨es,rfl,rfl⟩|h
       ·exact⟨fl,trivial⟩
       grind [SR.of_pure]
    ·have cT:=run mes _ hK h2
     have mw:=(a5 i en (p1,v) (by grind) h4).2
     simp only[aH,Option.getD_some,Option.isSome_some] at cT
     simp only at hs
     split at hs
     ·
      rename_i d9
      simp only[ao,bD] at d9
      obtain⟨⟨_,de⟩,fg⟩:=d9
      subst de
      have:∃l,v = .list true l:=by
       unfold IM at fg
       grind
      obtain⟨l,rfl⟩:=this
      simp only[aa,ac] at hs
      obtain⟨rfl,rfl⟩:=hs
      obtain⟨cZ,dD⟩:=mw
      obtain⟨G',hG,fP⟩:=Room.give (key':=Ai (yF vs o.dst) j) dD
      have iz:G'.box=G.box∧G'.fix=G.fix∧G'.heap=G.heap:=by
       rcases hG with rfl|⟨b,_,rfl⟩<;>exact⟨rfl,rfl,rfl⟩
      have cR:Ext w G w G':=by
       grind [Ext.refl,Ky]
      have cU:zo (λk=>k = .hcell n i) w G w G':=by
       rcases hG with rfl|⟨b,hb,rfl⟩
       ·exact⟨λb k h _=>⟨h,rfl,λ_ h=>h⟩,λ_ _ h=>h⟩
       grind [Kz]
      have dt:FI N w G' (yw st n (.map (es.modify i λe=>(e.1,dem e.2)))) a vs (x7 vs ops):=by
       refine⟨hf.len,λi' t' u' h1 h2=>(hf.var i' t' u' h1 h2).keep cR cU (by simp) (by simp),λi' t' u' h1 h2=>(hf.loc i' t' u' h1 h2).keep cR cU (by simp) (by simp),hf.tv,hf.tl,(hf.defers.trans cR.df.symm),by rw[iz.1]; exact hf.gen,?_,by rw[iz.2.1]; exact hf.fixlt,?_,?_⟩
       ·intro b' k di
        rcases hG with rfl|⟨b2,dE,rfl⟩
        ·exact hf.owlt _ _ di
        ·simp only[GS.give] at di
         split at di
         ·subst_vars; exact hf.owlt _ _ dE
         ·exact hf.owlt _ _ di
       ·refine hf.heap.keepBut cR cU (λn' k da=>⟨by simp,by simp; omega⟩) (λ_ =>?_)
        refine .inr ⟨b,cR.heap _ _ hb,(cU.1 _ _ eJ (by simp)).1,mes,clock,a1,by grind,a3,a4,?_⟩
        intro i' e' p' fL fk
        rw[bm] at fk
        by_cases oh:i=i'
        ·subst oh
         rw[h4] at fk
         simp at fk; subst fk
         have:e'=en:=by grind
         subst this
         obtain⟨b1,b2⟩:=a5 i e' (p1,.list true l) fL h4
         exact⟨b1.ext cR,(b2.1.dem).ext cR,trivial⟩
        ·simp only[oh] at fk
         have hp'':es[i']? = some p':=by grind
         obtain⟨b1,b2⟩:=a5 i' e' p' fL hp''
         exact⟨b1.ext cR,b2.keep cR cU (by simp; omega)⟩
       ·rw[iz.2.2]; simp only[yw,ba]; exact hf.hdom
      unfold Oper.wp
      rw[cT]
      exact hk _ _ G' (dt.put nm (BJ ho) ⟨cZ.ext cR,fP⟩) cR (BK _ _ _)
     ·simp only[aa] at hs
      obtain⟨rfl,rfl⟩:=hs
      have qy  := mw.1.dem
      cases ok with
      | true =>
        refine yJ nm ho hf cT (SR.of_pure (.tuple _ _ rfl ?_) rfl) hk
        intro i c p hc hp
        match i,hc,hp with
        | 0,hc,hp=>grind
        | 1,hc,hp=>simp at hc hp; subst hc hp; exact .bool _
      | false=>exact yJ nm ho hf cT (SR.of_pure qy mw.1.cp_dem') hk
 grind
theorem c39 {b:Nat} (hb:b<w.heap.size) (ke:∃mes clock,w.heap[b]? = some (.map mes clock)) (gx:G.ow b≠none) (mes':Array MapEntry) (clock':Nat):
  let w'  := { w with heap:=w.heap.setIfInBounds b (.map mes' clock') }
  Ext w G w' G∧w'.heap[b]? = some (.map mes' clock')∧∀x,x≠b→w'.heap[x]? = w.heap[x]? := by
 intro w'
 have dz:∀x,x≠b→w'.heap[x]? = w.heap[x]? := λx hx=>by grind
 have ee:w'.heap[b]? = some (.map mes' clock'):=by grind
 refine⟨⟨rfl,rfl,rfl,by simp[w'],?_,?_,λ_ _ h => .inl h,λ_ h => .inr h,λ_ _ h=>h,.one b (λk _ hk=>dz k hk) (λs hx=>by grind [World.shape?]) (λs hx=>by grind [Bj]),rfl⟩,ee,dz⟩<;>grind [World.cell?]
theorem UH (hE:EnvOk E N) (nm:Names vs (x7 vs ops)) (ho:ops[j]? = some o) (hf:FI N w G st a vs (x7 vs ops)) {t kt e:TypeId} {m x y:Operand} {kk:Bool×List EK} {pm px py:PX}
  (cW:o.op = .mapUpdate t m x y∨o.op = .insert t m x y) (eI:o.dst=none) (hu:P.underlying t=some (.map kt e)) (fF:E9 P kt=some kk) (hm:cx E vs ops m=some pm) (hx:cx E vs ops x=some px) (hy:cx E vs ops y=some py) {cf:yg}
  (hs:x9 cf (.mset kk.1 kk.2 pm px py) st=some (u,st1)) (hk:yz N w G a st1 u vs ops j o next):o.wp P a w next Q:=by
 simp only[x9] at hs
 split at hs
 ·rename_i n k v st' q7 uB d9
  have kh:=(yH hE hx hf uB).1
  have oI:=(yH hE hm hf q7).1
  simp only[aj,ab] at hs
  obtain⟨es,hg,r,ge,hs⟩:=hs
  generalize m6:a.eval m=mv at oI
  cases oI with
  | map _ b hb =>
    let idx  := match r with | some (i,_)=>i | none=>es.length
    obtain⟨G1,dt,dZ,iO,fY,ei,cZ,fQ,_,_,_⟩:=GG hE hy hf d9 (.hcell n idx)
    have eP:G1.heap n=some b:=by simp_all
    obtain⟨eJ,ug,hobj⟩:=UR dt hg eP
    obtain⟨mes,clock,a1,a2,a3,a4,a5⟩:=hobj
    have mz:VR N w G1.fix G1.heap (a.eval x) k:=by grind
    have oD:VR N w G1.fix G1.heap (a.eval y) v:=by grind
    have uC:MR N w G1 (.hcell n idx) (a.eval y) v:=by
     refine⟨oD,?_⟩
     split
     ·exact fQ
     ·trivial
    have gB:a.put o.dst undef=a:=by simp[eI,Act.put]
    have dm:yF vs o.dst = .n:=by simp[eI,yF]
    have finish:∀(mes':Array MapEntry) (clock':Nat) (es':List (PV×PV)),(execOp a.eval o).run P w = .ok .skip { w with heap:=w.heap.setIfInBounds b (.map mes' clock') }→mes'.size=es'.length →
      (∀(i:Nat) (e:MapEntry),mes'[i]? = some e→e.born<clock')→(∀(i i':Nat) (e e':MapEntry),mes'[i]? = some e→mes'[i']? = some e'→e.born=e'.born→i=i') →
      (∀(i:Nat) (e:MapEntry) (p:PV×PV),mes'[i]? = some e→es'[i]? = some p→VR N w G1.fix G1.heap e.key p.1∧MR N w G1 (.hcell n i) e.val p.2)→u = .dead→st1=yw st' n (.map es')→o.wp P a w next Q:=by
     intro mes' clock' es' cT b2 b3 b4 b5 ij kJ
     subst ij kJ
     obtain⟨dP,ee,dj⟩:=c39 (G:=G1) (dt.owlt _ _ eJ) ⟨mes,clock,a1⟩ (by grind) mes' clock'
     unfold Oper.wp
     rw[cT]
     have dM:zo (λk=>k = .hobj n) w G1 { w with heap:=w.heap.setIfInBounds b (.map mes' clock') } G1:=by
      refine⟨?_,λ_ _ h=>h⟩
      grind
     have jm:FI N { w with heap:=w.heap.setIfInBounds b (.map mes' clock') } G1 (yw st' n (.map es')) a vs (x7 vs ops):=by
      refine⟨dt.len,λi t' u' h1 h2=>(dt.var i t' u' h1 h2).keep dP dM (by simp) (by simp),λi t' u' h1 h2=>(dt.loc i t' u' h1 h2).keep dP dM (by simp) (by simp),dt.tv,dt.tl,dt.defers,dt.gen,?_,?_,?_,?_⟩
      ·intro x k hx; simpa using dt.owlt x k hx
      ·intro x o' hx; simpa using dt.fixlt x o' hx
      ·refine dt.heap.keepBut dP dM (λn' k da=>⟨by simp; omega,by simp⟩) (λ_ =>?_)
       refine .inr ⟨b,eP,eJ,mes',clock',ee,b2,b3,b4,?_⟩
       intro i en p hi hp
       obtain⟨c1,c2⟩:=b5 i en p hi hp
       exact⟨c1.ext dP,c2.keep dP dM (by simp)⟩
      ·simp only[yw,ba]; exact dt.hdom
     show next (a.put o.dst undef) _
     rw[gB]
     refine hk _ _ G1 ?_ (dZ.trans dP) rfl
     rw[dm]
     exact jm
    have ip:∀w',(Instr.mapUpdate t (.map (some b)) (a.eval x) (a.eval y)).run P w = .ok () w'→(execOp a.eval o).run P w = .ok .skip w':=by
     intro w' h
     rcases cW with cW|cW<;>simp[execOp,cW,m6,h]
    rcases OX fF mz (mes:=mes.toList) (es:=es) (by omega) (λi e p h1 h2=>(a5 i e p (by grind) h2).1) ge with⟨rfl,h2⟩ | ⟨i,v',en,p1,rfl,h2,h3,h4,h5⟩
    ·
     simp only[ac] at hs
     obtain⟨rfl,rfl⟩:=hs
     refine finish (mes.push { key:=a.eval x,val:=a.eval y,born:=clock }) (clock+1) (es++[(k,v)]) (ip _ ?_) (by simp[a2]) ?_ ?_ ?_ rfl rfl
     ·simp only[Instr.mapUpdate,Sem.run_bind,run_underlying hu,Result.andThen_ok,run_getObj_map a1,KJ fF mz ge,h2,run_setObj_map _ a1]
     ·grind
     ·grind
     ·intro i e' p fL hp
      rw[Array.getElem?_push] at fL
      split at fL
      ·grind
      grind
    ·
     simp only[ac] at hs
     obtain⟨rfl,rfl⟩:=hs
     have mh:idx=i:=by rfl
     rw[mh] at uC
     have cV:i<mes.size:=by grind
     have lG:mes[i]? = some en:=by grind
     refine finish (mes.modify i λe=>{ e with key:=a.eval x,val:=a.eval y }) clock (es.set i (k,v)) (ip _ ?_) (by simp[a2]) ?_ ?_ ?_ rfl rfl
     ·simp only[Instr.mapUpdate,Sem.run_bind,run_underlying hu,Result.andThen_ok,run_getObj_map a1,KJ fF mz ge,h2,lG,aH,Option.getD_some,Instr.keyThatStays,(c2b mz (a5 i en (p1,v') lG h4).1 h5 9999),if_true,Sem.run_pure,run_setObj_map _ a1]
     ·grind
     ·grind
     ·intro i' e' p fL hp
      grind
 grind
theorem c2c (hE:EnvOk E N) {x:Operand} {px:PX} (hc:cx E vs ops x=some px) (hf:FI N w G st a vs (x7 vs ops)) (ht:By st px=some (u,st1)):
  ∃G',FI N w G' st1 a vs (x7 vs ops)∧Ext w G w G'∧VR N w G'.fix G'.heap (a.eval x) u:=by
 by_cases ll:∃i g cs,px = .v i∧raw st px=some (.loc g cs)
 ·obtain⟨i,g,cs,rfl,hr⟩:=ll
  simp only[By,hr] at ht
  obtain⟨rfl,rfl⟩:=ht
  obtain⟨b,i',hk,hv,hb,ho,rS,cv,T,hh,hl,jn⟩:=(D3 hE hc hf hr)
  simp only[BH,Key.var.injEq] at hk
  subst hk
  have gf:=hf.owlt _ _ ho
  let G'  := { G with fix:=λb' o=>G.fix b' o∨(b'=b∧o<cs.length),ow:=λb'=>if b'=b then none else G.ow b' }
  have cR:Ext w G w G':=by
   refine⟨rfl,rfl,rfl,an _,λ_ _ _=>rfl,λ_ _ h=>⟨.inl h,rfl⟩,?_,?_,λ_ _ h=>h,ShapeLe.refl w,rfl⟩<;>grind
  have cU:zo (λk=>k = .var i) w G w G':=by
   refine⟨?_,λ_ _ h=>h⟩
   grind [BH,absurd]
  have cZ:VR N w G'.fix G'.heap (a.eval x) (.cptr (cs.map dem)):=by
   rw[hv]
   refine .cptr b 0 (cs.map dem) (λk=>cv.getD k undef) ?_ ?_ ?_
   ·intro y hy
    obtain⟨z,hz,rfl⟩:=bc.1 hy
    obtain⟨k,hk⟩:=bj.1 hz
    have cV:k<cv.size:=by grind
    rw[Gz]
    exact(jn k cv[k] z (by simp ) hk).2.1
   ·intro k hk
    simp only[aG] at hk
    have cV:k<cv.size:=by omega
    refine⟨?_,.inr ⟨rfl,by omega⟩⟩
    simp[World.cell?,hh,cV]
   ·intro k y hy
    simp only[aF,ab] at hy
    obtain⟨z,hz,rfl⟩:=hy
    have cV:k<cv.size:=by grind
    have:=(jn k cv[k] z (by simp ) hz).1
    simp only[aV,cQ cV]
    exact this.dem.ext cR
  have hx:∃t,vs[i]? = some t∧a.eval (.tmp t)=a.eval x:=by
   cases x with
   | tmp t =>
     simp only[cx] at hc
     split at hc
     ·rename_i i2 hi
      simp at hc; subst hc
      obtain⟨_,h2⟩:=Ep hi
      simp_all
     ·simp at hc
   | const v=>simp only[cx] at hc; split at hc<;>simp at hc
   | global g=>simp[cx] at hc
   | func f=>simp[cx] at hc
  obtain⟨tx,rW,lY⟩:=hx
  refine⟨G',?_,cR,cZ⟩
  refine⟨by simp[hf.len],?_,λj' t' u' h1 h2=>(hf.loc j' t' u' h1 h2).keep cR cU (by simp) (by simp),hf.tv,hf.tl,hf.defers,hf.gen,?_,?_,hf.heap.keep cR cU (by grind [Key.isH]),hf.hdom⟩
  ·intro i' t' u' h1 h2
   simp only[aU] at h2
   split at h2
   ·split at h2
    ·simp at h2; subst h2
     have:t'=tx:=by simp_all
     subst this
     exact SR.of_pure (lY▸cZ) rfl
    grind
   ·exact(hf.var i' t' u' h1 h2).keep cR cU (by simp; omega) (by simp)
  ·intro b' k h
   simp only[G'] at h
   split at h
   ·simp at h
   ·exact hf.owlt _ _ h
  ·rintro b' o (h|⟨rfl,_⟩)
   ·exact hf.fixlt _ _ h
   omega
 ·have gc:By st px=(rd st px).map (·,st):=by
   unfold By
   split
   ·rename_i i g cs h; exact absurd ⟨i,g,cs,rfl,h⟩ ll
   ·rfl
  grind [Option.map_eq_some_iff,Prod.mk.injEq,Ext.refl,yH]
theorem OY (hE:EnvOk E N):∀{xs:List Operand} {pxs:List PX} {G:GS} {st st1:St} {us:List PV},cxs E vs ops xs=some pxs→FI N w G st a vs (x7 vs ops)→zW st pxs=some (us,st1) →
  ∃G',FI N w G' st1 a vs (x7 vs ops)∧Ext w G w G'∧xs.length=us.length∧∀(i:Nat) (x:Operand) (u:PV),xs[i]? = some x→us[i]? = some u→VR N w G'.fix G'.heap (a.eval x) u
 | [], pxs, G, st, st1, us, hc, hf, h => by
   grind [cxs,zW,Option.some.injEq,Prod.mk.injEq,Ext.refl]
 | x :: xs, pxs, G, st, st1, us, hc, hf, h => by
   simp only[cxs,aj,ab] at hc
   obtain⟨p,hp,ps,fo,rfl⟩:=hc
   simp only[zW,aj,ab] at h
   obtain⟨⟨v,st2⟩,h1,⟨q,st3⟩,h2,rfl,rfl⟩:=h
   obtain⟨G1,f1,e1,v1⟩:=c2c hE hp hf h1
   obtain⟨G2,f2,e2,l2,v2⟩:=OY hE fo f1 h2
   refine⟨G2,f2,e1.trans e2,by simp[l2],?_⟩
   intro i y z hy hz
   cases i with
   | zero=>simp at hy hz; subst hy hz; exact v1.ext e2
   | succ i=>grind
theorem b8w (hE:EnvOk E N) (nm:Names vs (x7 vs ops)) (ho:ops[j]? = some o) (hf:FI N w G st a vs (x7 vs ops)) {f:FuncId} {k:Nat} {xs ys:Array Operand} {ps qs:List PX} (cW:o.op = .makeFunc (.func f) xs ys) (dq:E.inv f=some k)
  (hx:cxs E vs ops xs.toList=some ps) (hy:cxs E vs ops ys.toList=some qs) {cf:yg} (hs:x9 cf (.mkfunc k ps qs) st=some (u,st1)) (hk:yz N w G a st1 u vs ops j o next):o.wp P a w next Q:=by
 simp only[x9,aj,ab] at hs
 obtain⟨⟨us,st2⟩,h1,⟨zs,st3⟩,h2,rfl,rfl⟩:=hs
 obtain⟨G1,f1,e1,l1,v1⟩:=OY hE hx hf h1
 obtain⟨G2,f2,e2,l2,v2⟩:=OY hE hy f1 h2
 have fK:=hE.fn _ _ dq
 unfold Oper.wp
 have cT:(execOp a.eval o).run P w = .ok (.value (.func (.func f) (xs.map a.eval) (ys.map a.eval))) w:=by
  simp[execOp,cW,Instr.makeFunc]
 rw[cT]
 refine hk _ _ G2 (f2.put nm (BJ ho) (SR.of_pure ?_ rfl)) (e1.trans e2) (BK _ _ _)
 subst fK
 refine .func k _ _ us zs (hE.yl _ _ dq) (by simp_all) (by simp_all) ?_ ?_
 ·intro i c p hc hp
  simp only[cA,ab] at hc
  obtain⟨x,fp,rfl⟩:=hc
  exact(v1 i x p (by simp_all) hp).ext e2
 grind
theorem KK {t:TypeId} {v c:Value} {b:Bool} (h:(Op.equalIn 10000 t v c).run P w = .ok b w) (op:BinOp) (cW:op = .eql∨op = .neq) (x y:Operand)
  (hg:(eqGuard op t x y v c).run P w = .ok () w) (eP:binOp .eql t v c=(do let r←Op.equal t v c; pure (.bool r))) (dE:binOp .neq t v c=(do let r←Op.equal t v c; pure (.bool !r))):
  (do eqGuard op t x y v c; binOp op t v c:Sem Value).run P w = .ok (.bool (if op == .neq then !b else b)) w:=by
 have h':(Op.equal t v c).run P w = .ok b w:=h
 grind [Sem.run_bind,Result.andThen_ok,Sem.run_pure]
theorem c4a {t e:TypeId} (hu:P.underlying t=some (.slice e)) (ad:Option Addr) (l c:Nat):(Op.equalIn 10000 t (.slice ad l c) (.slice none 0 0)).run P w = .ok ad.isNone w:=by
 unfold Op.equalIn
 simp only[Sem.run_bind,run_underlying hu]
 cases ad<;>rfl
theorem c9o {t e:TypeId} (hu:P.underlying t=some (.pointer e)) (ad:Option Addr):(Op.equalIn 10000 t (.pointer ad) (.pointer none)).run P w = .ok ad.isNone w:=by
 unfold Op.equalIn
 simp only[Sem.run_bind,run_underlying hu]
 cases ad<;>rfl
theorem c9p {t k e:TypeId} (hu:P.underlying t=some (.map k e)) (r:Option Nat):(Op.equalIn 10000 t (.map r) (.map none)).run P w = .ok r.isNone w:=by
 unfold Op.equalIn
 simp only[Sem.run_bind,run_underlying hu]
 cases r<;>rfl
theorem c4b {t:TypeId} {ms:Array (String×TypeId)} (hu:P.underlying t=some (.interface ms)) (v:Value) (b:Bool) (h:(v = .nilIface∧b=true)∨(∃t' x,v = .iface t' x)∧b=false):(Op.equalIn 10000 t v .nilIface).run P w = .ok b w:=by
 unfold Op.equalIn
 simp only[Sem.run_bind,run_underlying hu]
 rcases h with⟨rfl,rfl⟩|⟨⟨t',x,rfl⟩,rfl⟩<;>rfl
theorem b9T (hE:EnvOk E N) (nm:Names vs (x7 vs ops)) (ho:ops[j]? = some o) (hf:FI N w G st a vs (x7 vs ops)) {op:BinOp} {t t':TypeId} {x y:Operand} {px:PX} {kd:Nat} (cW:o.op = .binOp op t x y t')
  (il:op = .eql∨op = .neq) (ht:NK P t y=some kd) (hx:cx E vs ops x=some px) {cf:yg} (hs:x9 cf (.isnil kd (op == .neq) px) st=some (u,st1)) (hk:yz N w G a st1 u vs ops j o next):o.wp P a w next Q:=by
 simp only[x9,ab,aj] at hs
 obtain⟨b,⟨p,hp,hb⟩,rfl,rfl⟩:=hs
 have hv:=(yH hE hx hf hp).1
 refine yJ nm ho hf ?_ (SR.of_pure (.bool _) rfl) hk
 have jC:∀v c:Value,(∀cs,v≠.agg cs)→v≠.nilIface→(eqGuard op t x y v c).run P w = .ok () w:=by
  intro v c h1 h2
  rcases il with rfl|rfl<;>cases v<;>cases c<;>first|rfl|simp_all|simp_all
 have key:(do eqGuard op t x y (a.eval x) (a.eval y); binOp op t (a.eval x) (a.eval y):Sem Value).run P w = .ok (.bool (if op == .neq then !b else b)) w:=by
  unfold NK at ht
  split at ht<;>simp only[aa,reduceCtorEq] at ht<;>subst ht
  ·rename_i hu
   have du:∃ad l c,a.eval x = .slice ad l c∧ad.isNone=b:=by
    generalize a.eval x=v at hv
    unfold EA at hb
    split at hb<;>simp only[aa,reduceCtorEq] at hb<;>subst hb<;>(try (rename_i h0; simp at h0))<;>cases hv<;>first|simp|simp_all
   obtain⟨ad,l,c,fp,rfl⟩:=du
   rw[fp]
   exact KK (c4a hu ad l c) op il x _ (jC _ _ (by simp) (by simp)) rfl rfl
  ·rename_i hu
   have du:∃ad,a.eval x = .pointer ad∧ad.isNone=b:=by
    generalize a.eval x=v at hv
    unfold EA at hb
    split at hb<;>simp only[aa,reduceCtorEq] at hb<;>subst hb<;>(try (rename_i h0; simp at h0))<;>cases hv<;>exact⟨_,rfl,rfl⟩
   obtain⟨ad,fp,rfl⟩:=du
   rw[fp]
   exact KK (c9o hu ad) op il x _ (jC _ _ (by simp) (by simp)) rfl rfl
  ·rename_i hu
   have du:∃ad,a.eval x = .map ad∧ad.isNone=b:=by
    generalize a.eval x=v at hv
    unfold EA at hb
    split at hb<;>simp only[aa,reduceCtorEq] at hb<;>subst hb<;>(try (rename_i h0; simp at h0))<;>cases hv<;>exact⟨_,rfl,rfl⟩
   obtain⟨ad,fp,rfl⟩:=du
   rw[fp]
   exact KK (c9p hu ad) op il x _ (jC _ _ (by simp) (by simp)) rfl rfl
  ·rename_i hu
   have du:(a.eval x = .nilIface∧b=true)∨(∃t' z,a.eval x = .iface t' z)∧b=false:=by
    generalize a.eval x=v at hv
    unfold EA at hb
    split at hb<;>simp only[aa,reduceCtorEq] at hb<;>subst hb<;>(try (rename_i h0; simp at h0))<;>cases hv<;>first|simp|simp
   have hg:(eqGuard op t x (.const .nilIface) (a.eval x) .nilIface).run P w = .ok () w:=by
    rcases du with⟨h,_⟩|⟨⟨t',z,h⟩,_⟩<;>rw[h]<;>rcases il with rfl|rfl<;>simp[eqGuard]
   refine KK (c4b (P:=P) (w:=w) hu _ _ du) op il x _ hg ?_ ?_<;>(rcases du with⟨h,_⟩|⟨⟨t',z,h⟩,_⟩<;>rw[h]<;>rfl)
 grind [execOp,Sem.run_bind,Result.andThen_ok,Sem.run_pure]
theorem b9U (hE:EnvOk E N) (nm:Names vs (x7 vs ops)) (ho:ops[j]? = some o) (hf:FI N w G st a vs (x7 vs ops)) {t:TypeId} {n:Nat} {x:Operand} {px:PX} (cW:o.op = .load t x) (hn:yN P t=some n)
  (hx:cx E vs ops x=some px) {cf:yg} (hs:x9 cf (.loadc n (yY P t) px) st=some (u,st1)) (hk:yz N w G a st1 u vs ops j o next):o.wp P a w next Q:=by
 simp only[x9] at hs
 split at hs
 ·rename_i cs ha
  simp only[ab] at hs
  obtain⟨r,hr,rfl,rfl⟩:=hs
  obtain⟨r',h1,h2,h3⟩:=OF (P:=P) hn (yH hE hx hf ha).1 hr
  exact yJ nm ho hf (by simp[execOp,cW,h1]) (SR.of_pure h2 h3) hk
 grind
theorem b8x (hE:EnvOk E N) (nm:Names vs (x7 vs ops)) (ho:ops[j]? = some o) (hf:FI N w G st a vs (x7 vs ops)) {x:Operand} {px:PX} (cW:o.op = .nilCheck x)
  (hx:cx E vs ops x=some px) {cf:yg} (hs:x9 cf (.nilchk px) st=some (u,st1)) (hk:yz N w G a st1 u vs ops j o next):o.wp P a w next Q:=by
 have run:∀ad,a.eval x = .pointer (some ad)→(execOp a.eval o).run P w = .ok (.value (.pointer (some ad))) w:=by
  simp_all [execOp]
 simp only[x9] at hs
 split at hs
 ·rename_i n off ha
  obtain⟨rfl,rfl⟩:=hs
  obtain⟨b,hv,hb⟩:=KH hE hx hf ha
  exact yJ nm ho hf (run _ hv) (SR.of_pure (.ptr _ _ b hb) rfl) hk
 ·rename_i cs ha
  obtain⟨rfl,rfl⟩:=hs
  rcases D4 hE hx hf ha with⟨_,_,_,_,h,_⟩|⟨h,_⟩
  ·simp at h
  ·generalize hv:a.eval x=v at h
   have h':=h
   cases h with
   | cptr b off _ cv _ _ _=>exact yJ nm ho hf (run _ hv) (SR.of_pure h' rfl) hk
 ·rename_i s g off ha
  obtain⟨rfl,rfl⟩:=hs
  rcases D4 hE hx hf ha with⟨_,_,_,b,h,hv,hb⟩|⟨_,h⟩
  ·obtain⟨rfl,rfl,rfl⟩:=h
   exact yJ nm ho hf (run _ hv) (SR.lptr rfl hb) hk
  ·simp[cp] at h
 grind
end
end PI
