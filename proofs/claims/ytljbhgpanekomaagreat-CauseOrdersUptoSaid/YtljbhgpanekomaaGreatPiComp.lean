import Derived.Test.YtljbhgpanekomaaGreatPiBase
import Derived.Calls
import Derived.Below
import Derived.Lib.Builder
import Derived.Lib.UnsafeStr
import Derived.Deep.AppendSrc
import Derived.Laws.CopyRow
import Derived.Laws.Build
import Derived.Laws.Tables
import Derived.ProofKit
import Derived.Laws.StructEq
import Derived.Laws.BytesArg
import Derived.Lib.ConvBytes
import Derived.MapKept
set_option linter.unusedSectionVars false
namespace PI
open Go
structure Env where
 P:Program
 inv:FuncId→Option Nat
 tinv:TypeId→Option Nat
 hs:List Tmp:=[]
 hf:List FuncId:=[]
 hv:List Tmp:=[]
 bT:Option TypeId:=none
 rs:List TypeId:=[]
 bf:List FuncId:=[]
 bv:List Tmp:=[]
 pt:List TypeId:=[]
 lps:List (Array Tmp×Nat×List Tmp):=[]
 sr:Bool:=false
 nl:Bool:=false
 ox:List (FuncId×Option Nat):=[]
 rf:List FuncId:=[]
 zd:List Tmp:=[]
 fr:List Tmp:=[]
 pa:List TypeId:=[]
 pz:List FuncId:=[]
def NN (f:FuncId):List (FuncId×Option Nat)→Option (Option Nat)
 | []=>none
 | p::ps=>if p.1=f then some p.2 else NN f ps
def Gt:Value→Option PV
 | .bool b=>some (.bool b)
 | .int k n=>some (.int k n)
 | .string s=>some (.str s.data.toList)
 | .pointer none=>some .nilptr
 | .slice none 0 0=>some (.list true [])
 | .map none=>some (.map none)
 | .nilFunc=>some .nilfunc
 | .nilIface=>some .nilIface
 | _=>none
def E6:List Value→Option (List PV)
 | []=>some []
 | v::vs=>(Gt v).bind λp=>(E6 vs).map (p::·)
def Gu:Value→Option PV
 | .agg cs=>(E6 cs.toList).map .agg
 | v=>Gt v
def zl (P:Program) (t:TypeId):Bool:=
 match P.underlying t with
 | some (.struct _) | some (.array _ _)=>true
 | _=>false
def yX (P:Program) (t:TypeId):Option Nat:=
 match P.info? t with
 | some i=>if i.size=0∨(P.underlying t).isNone∨(zl P t=false∧i.size≠1) then none else some i.size
 | none=>none
def Ac (P:Program) (t:TypeId):Option (List PV):=
 match P.info? t with
 | some i =>
   match i.zero with
   | some z=>(E6 z.cells.toList).bind λcs=>if cs.length=i.size∧i.size≠0 then some cs else none
   | none=>none
 | none=>none
def zQ (t:Tmp):List Tmp→Nat→Option Nat
 | [],_=>none
 | x::xs,i=>if x=t then some i else zQ t xs (i+1)
def Gv (t:Tmp):List Oper→Nat→Option Nat
 | [],_=>none
 | o::os,i=>if o.dst=some t then some i else Gv t os (i+1)
def SJ:Value→Bool
 | .slice none 0 0=>true
 | _=>false
def cx (E:Env) (vs:List Tmp) (ops:List Oper):Operand→Option PX
 | .tmp t =>
   match zQ t vs 0 with
   | some i=>some (.v i)
   | none=>(Gv t ops 0).map .l
 | .const v=>if E.nl&&SJ v then some (.c .nils) else(Gu v).map .c
 | .func f=>(E.inv f).map λk => .c (.func k [] [])
 | .global _=>none
def cxs (E:Env) (vs:List Tmp) (ops:List Oper):List Operand→Option (List PX)
 | []=>some []
 | x::xs=>(cx E vs ops x).bind λp=>(cxs E vs ops xs).map (p::·)
def cxo (E:Env) (vs:List Tmp) (ops:List Oper):Option Operand→Option (Option PX)
 | none=>some none
 | some x=>(cx E vs ops x).map some
def E7 (E:Env) (vs:List Tmp) (ops:List Oper) (Bc:Nat→Option (Nat×Nat)):List (Nat×Operand)→Option (List (Nat×Nat×PX))
 | []=>some []
 | (i,x)::r=>(Bc i).bind λp=>if p.2=0 then none else(cx E vs ops x).bind λpx=>(E7 E vs ops Bc r).map ((p.1,p.2,px)::·)
def EB (E:Env) (vs:List Tmp) (ops:List Oper):List (Nat×Operand)→Option (List (Nat×PX))
 | []=>some []
 | (i,x)::r=>(cx E vs ops x).bind λpx=>(EB E vs ops r).map ((i,px)::·)
def EC:POp := .mov (.c .dead)
def c7r (ox:List (FuncId×Option Nat)) (t:Tmp) (o:Oper):Bool:=
 match o.op with
 | .call { callee := .value (.func f), args, .. } => match NN f ox with
   | some (some i) => match (args[i]? : Option Operand) with
     | some (.tmp u)=>u==t
     | _=>false
   | _=>false
 | .call { callee := .builtin .append, args, .. } => match (args[0]? : Option Operand) with
   | some (.tmp u)=>u==t
   | _=>false
 | .assign (.tmp u)=>u==t&&ox.any λp=>p.1==1000000
 | _=>false
def Is (ox:List (FuncId×Option Nat)) (vs:List Tmp) (ops:List Oper) (d:Option Tmp):Bool:=
 match d with
 | some t=>(zQ t vs 0).isNone&&ops.any (c7r ox t)
 | none=>false
def ekT (P:Program) (t:TypeId):Option EK:=
 match P.underlying t with
 | some .bool=>some .b
 | some (.int _)=>some .i
 | some .string=>some .s
 | _=>none
def eqFields (P:Program):List Field→Nat→Option (List EK)
 | [],_=>some []
 | f :: fs, off =>
   if f.offset=off∧f.name ≠ "_" ∧ yX P f.type=some 1∧zl P f.type=false then(ekT P f.type).bind λk=>(eqFields P fs (off+1)).map (k::·) else none
def eqT (P:Program) (t:TypeId):Option (Option (Bool×List EK)):=
 match P.underlying t with
 | some (.int _) | some .string=>some none
 | some .bool=>some (some (false,[.b]))
 | some (.struct fs) =>
   match eqFields P fs.toList 0 with
   | some ks=>if !P.stoodInHeld t && !P.eqGuardType P.depth t then some (some (true,ks)) else none
   | none=>none
 | _=>none
def yR (vs:List Tmp):Option Tmp→PD
 | none => .n
 | some t => match zQ t vs 0 with
   | some i => .v i
   | none => .l
def isVar:PD→Bool
 | .v _=>true
 | _=>false
def isN:PD→Bool
 | .n=>true
 | _=>false
def SK (E:Env) (vs:List Tmp) (ops:List Oper) (b:Builtin) (args:List Operand) (argTypes:List TypeId):Option POp:=
 match b,args,argTypes with
 | .len, [x], t :: _ =>
   match E.P.underlying t with
   | some .string=>(cx E vs ops x).map (.len true)
   | some (.slice _)=>(cx E vs ops x).map (.len false)
   | _=>none
 | .min,xs,_=>(cxs E vs ops xs).map (.minmax false)
 | .max,xs,_=>(cxs E vs ops xs).map (.minmax true)
 | .cap, [x], t :: _ =>
   match E.P.underlying t with
   | some (.slice _)=>(cx E vs ops x).map .cap
   | _=>none
 | .append, [s, x], [ts, tx] =>
   match E.P.underlying ts,E.P.underlying tx with
   | some (.slice e), some (.slice _) =>
     match yX E.P e,Ac E.P e with
     | some size,some _=>(cx E vs ops s).bind λps=>(cx E vs ops x).map λpx => .append size (E.P.bytesOf e) ps px
     | _,_=>none
   | _,_=>none
 | _,_,_=>none
def NO (E:Env) (vs:List Tmp) (ops:List Oper):Nat→Operand→Bool
 | 0,_=>false
 | n + 1, .tmp t =>
   if (zQ t vs 0).isSome then E.hs.contains t
   else match ops.find? (λo=>o.dst==some t) with
    | some o =>
      match o.op with
      | .move x | .assign x=>NO E vs ops n x
      | _=>false
    | none=>false
 | _,_=>false
def It (E:Env) (vs:List Tmp) (ops:List Oper):Nat→Operand→Bool
 | 0,_=>false
 | n + 1, .tmp t =>
   if (zQ t vs 0).isSome then E.hs.contains t
   else match ops.find? (λo=>o.dst==some t) with
    | some o =>
      match o.op with
      | .fieldAddr _ x _=>It E vs ops n x
      | .indexAddr ty x _ => match E.P.underlying ty with
        | some (.slice _)=>E.rs.contains ty||NO E vs ops n x
        | _=>It E vs ops n x
      | .move x | .assign x | .nilCheck x=>It E vs ops n x
      | _=>true
    | none=>false
 | _,_=>false
def NP (E:Env) (vs:List Tmp) (ops:List Oper):Nat→Operand→Bool
 | 0,_=>false
 | n + 1, .tmp t =>
   if (zQ t vs 0).isSome then false
   else match ops.find? (λo=>o.dst==some t) with
    | some o =>
      match o.op with
      | .fieldAddr _ x _=>NP E vs ops n x
      | .indexAddr ty x _ => match E.P.underlying ty with
        | some (.slice _) => !(E.rs.contains ty||NO E vs ops n x)
        | _=>NP E vs ops n x
      | _=>false
    | none=>false
 | _,_=>false
def SL:Fn→Option FuncId
 | .func f=>some f
 | _=>none
def E8 (P:Program) (t:TypeId):Option (Bool×List EK):=
 match ekT P t with
 | some k=>some (false,[k])
 | none => match eqT P t with
   | some (some (true,ks))=>some (true,ks)
   | _=>none
def Gw (P:Program) (t:TypeId):Option PV:=
 match P.info? t with
 | some i=>i.zero.bind Gu
 | none=>none
def NQ (P:Program) (t:TypeId) (y:Operand):Option Nat:=
 match P.underlying t,y with
 | some (.slice _),.const (.slice none 0 0)=>some 0
 | some (.pointer _),.const (.pointer none)=>some 1
 | some (.map _ _),.const (.map none)=>some 2
 | some (.interface _),.const .nilIface=>some 4
 | _,_=>none
def Iu:Operand→Operand→Bool
 | .tmp a,.tmp b=>a==b
 | .const (.int _ a),.const (.int _ b)=>a==b
 | _,_=>false
def mOf (E:Env) (name:String) (T:TypeId):Option (Nat×Option (Nat×Bool)):=
 match (E.P.info? T).bind (λi=>i.methods.find? (·.name==name)) with
 | some m => if m.path.isEmpty then
   match m.func,E.P.underlying T with
   | some (f,true),some (.pointer _)=>(E.inv f).map λk=>(k,none)
   | some (f,false),some (.pointer e)=>(E.inv f).bind λk=>(yX E.P e).map λn=>(k,some (n,zl E.P e))
   | _,_=>none
   else none
 | none=>none
def FL (E:Env) (name:String):List TypeId→List (Nat×Nat×Option (Nat×Bool))
 | []=>[]
 | T :: Ts => match zQ T E.pt 0, mOf E name T with
   | some i,some r=>(i+1,r)::FL E name Ts
   | _,_=>FL E name Ts
def d4w (ops:List Oper) (t:Tmp):Bool:=ops.any λo=>match o.op with
 | .call { callee := .builtin .append, args, .. } => match args.toList with
   | [_,.tmp t']=>t'==t
   | _=>false
 | _=>false
def NT (E:Env) (vs:List Tmp) (ops:List Oper):Operand→Option Nat
 | .tmp t=>if E.fr.contains t then(match cx E vs ops (.tmp t) with | some (.l j)=>some j | _=>none) else none
 | _=>none
theorem c2A {E:Env} {vs:List Tmp} {ops:List Oper} {x:Operand} {j:Nat} (h:NT E vs ops x=some j):∃t,x = .tmp t∧cx E vs ops (.tmp t)=some (.l j):=by
 unfold NT at h
 split at h
 ·rename_i t
  split at h
  ·split at h
   ·rename_i j' hc
    simp only[aa] at h; subst h
    exact⟨t,rfl,hc⟩
   ·simp at h
  ·simp at h
 ·simp at h
def NU (E:Env) (vs:List Tmp) (ops:List Oper) (o:Oper):Option HOp:=
 let c:=cx E vs ops
 match o.op with
 | .alloc t=>if isN (yR vs o.dst)||(isVar (yR vs o.dst) && !E.hs.contains (o.dst.getD 0)) then none else(Ac E.P t).map .newobj
 | .box t x=>if isN (yR vs o.dst)||(isVar (yR vs o.dst) && !E.hs.contains (o.dst.getD 0)) then none else(yX E.P t).bind λn=>(c x).map λp => .boxobj n p
 | .load t a => if It E vs ops 64 a then (yX E.P t).bind fun n => (c a).map fun p => if Is E.ox vs ops o.dst && !E.pa.isEmpty && !zl E.P t then .loadn p else .load n (zl E.P t) p (Is E.ox vs ops o.dst)
   else if NP E vs ops 64 a then(yX E.P t).bind λn=>(c a).map λp => .loadc n (zl E.P t) p else none
 | .store t a x=>if o.dst=none∧It E vs ops 64 a then(yX E.P t).bind λn=>(c a).bind λpa=>(c x).map λpx=>if E.sr then .storer n (zl E.P t) pa px else .store n (zl E.P t) pa px else none
 | .buildSlice t len parts =>
   if E.rs.contains t && !isN (yR vs o.dst) && !d4w ops (o.dst.getD 0) then
    match E.P.underlying t with
    | some (.slice e) =>
      match yX E.P e,Ac E.P e with
      | some size,some z=>if len*size≤16777216 then(EB E vs ops parts.toList).map λps => .mkrow size (zl E.P e) (if zl E.P e then .agg z else z.headD .dead) len ps else none
      | _,_=>none
    | _=>none
   else none
 | .makeMap _ none=>if isN (yR vs o.dst) then none else some .mkmap
 | .lookup t m k ok =>
   match E.P.underlying t with
   | some (.map kt e)=>(E8 E.P kt).bind λkk=>(Gw E.P e).bind λz=>(c m).bind λpm=>(c k).map λpk => .lookup ok (Is E.ox vs ops o.dst) kk.1 kk.2 z pm pk
   | _=>none
 | .mapUpdate t m k v | .insert t m k v =>
   match E.P.underlying t with
   | some (.map kt _)=>if o.dst=none then(E8 E.P kt).bind λkk=>(c m).bind λpm=>(c k).bind λpk=>(c v).map λpv => .mset kk.1 kk.2 pm pk pv else none
   | _=>none
 | .binOp op t x y _=>if op = .eql∨op = .neq then(NQ E.P t y).bind λk=>(c x).map λp => .isnil k (op == .neq) p else none
 | .nilCheck x=>(c x).map .nilchk
 | .makeSlice t l c' =>
   match E.P.underlying t with
   | some (.slice e) =>
     match yX E.P e,Ac E.P e with
     | some size,some z=>if isN (yR vs o.dst) || !Iu l c' then none else(c l).map λp=>if E.fr.contains (o.dst.getD 0) then .mkfresh size (zl E.P e) (E.P.bytesOf e) z p else .mkarr size (zl E.P e) (E.P.bytesOf e) z p
     | _,_=>none
   | _=>none
 | .build t parts =>
   match E.P.underlying t with
   | some (.struct fs) =>
     let js:=parts.toList.filterMap λp=>NT E vs ops p.2
     if js.isEmpty then none else
     match fs.toList.mapM (λf=>(E.P.info? f.type).map λi=>(f.offset,i.size)),Ac E.P t with
     | some places,some z=>(E7 E vs ops (places.toArray[·]?) parts.toList).map λps => .buildA js z ps
     | _,_=>none
   | _=>none
 | .makeFunc fn first captured=>if isN (yR vs o.dst) then none else(SL fn).bind λf=>(E.inv f).bind λk=>(cxs E vs ops first.toList).bind λps=>(cxs E vs ops captured.toList).map λqs => .mkfunc k ps qs
 | .call { callee := .builtin .append, args, argTypes } =>
   match args.toList,argTypes.toList with
   | [s, x], [ts, tx] =>
     if E.rs.contains ts && !isN (yR vs o.dst) && !E.pa.contains ts then
      match E.P.underlying ts,E.P.underlying tx with
      | some (.slice e), some (.slice _) =>
        match yX E.P e,Ac E.P e with
        | some size,some _=>(c s).bind λps=>(c x).map λpx => .happ size (zl E.P e) (E.P.bytesOf e) ps px
        | _,_=>none
      | some (.slice e), some (.int _) =>
        match yX E.P e,Ac E.P e with
        | some size,some z=>(c s).bind λps=>(c x).map λpx => .happz size (zl E.P e) (E.P.bytesOf e) z ps px
        | _,_=>none
      | _,_=>none
     else none
   | _,_=>none
 | .call { callee := .builtin .clear, args, argTypes } =>
   match args.toList,argTypes.toList with
   | [x], t :: _ => match E.P.underlying t with
     | some (.slice e)=>if isN (yR vs o.dst) then(yX E.P e).bind λsize=>(Ac E.P e).bind λ_=>(c x).map λpx => .clear size px else none
     | _=>none
   | _,_=>none
 | .call { callee := .value (.func f),args,.. }=>if E.hf.contains f||E.zd.contains (o.dst.getD 0) then(E.inv f).bind λk=>(cxs E vs ops args.toList).map λps=>if E.rf.contains f then .rcall k ps else if E.zd.contains (o.dst.getD 0) then .zcall k ps else .call k ps else none
 | .call { callee := .invoke x name,args,.. }=>(c x).bind λp=>(cxs E vs ops args.toList).map λps => .icall (FL E name E.pt) p ps
 | .call { callee := .value (.tmp t),args,.. }=>if E.hv.contains t then(c (.tmp t)).bind λp=>(cxs E vs ops args.toList).map λps => .callv p ps else none
 | _=>none
def cOp (E:Env) (vs:List Tmp) (ops:List Oper) (o:Oper):Option POp:=
 let c:=cx E vs ops
 match NU E vs ops o with
 | some h=>some (.h h)
 | none=>
 match o.op with
 | .move x=>(c x).map λp=>if Is E.ox vs ops o.dst then .take p else .mov p
 | .assign x=>(c x).map .take
 | .pick x a b=>(c x).bind λpx=>(c a).bind λpa=>(c b).map λpb => .pick px pa pb
 | .alloc t=>if isVar (yR vs o.dst) then(Ac E.P t).map .newloc else none
 | .box t x=>if isVar (yR vs o.dst) then(yX E.P t).bind λn=>(c x).map λp => .boxloc n p else none
 | .build t parts =>
   match E.P.underlying t,Ac E.P t with
   | some (.struct fs), some z =>
     match fs.toList.mapM (λf=>(E.P.info? f.type).map λi=>(f.offset,i.size)) with
     | some places=>(E7 E vs ops (places.toArray[·]?) parts.toList).map λps => .build z ps
     | none=>none
   | _,_=>none
 | .buildSlice t len parts =>
   match E.P.underlying t with
   | some (.slice e) =>
     match yX E.P e,Ac E.P e with
     | some size,some z=>if len*size≤16777216 then(EB E vs ops parts.toList).map λps => .mkslice size (if zl E.P e then .agg z else z.headD .dead) len ps else none
     | _,_=>none
   | _=>none
 | .load t a=>(yX E.P t).bind λn=>(c a).map λp => .load n (zl E.P t) p (Is E.ox vs ops o.dst)
 | .store t a x=>if o.dst=none then(yX E.P t).bind λn=>(c a).bind λpa=>(c x).map λpx => .store n (zl E.P t) pa px else none
 | .fieldAddr s x f =>
   match E.P.underlying s with
   | some (.struct fs) =>
     match fs[f]? with
     | some fd=>(yX E.P fd.type).bind λ_=>(c x).map λp => .faddr fd.offset p
     | none=>none
   | _=>none
 | .indexAddr t x i =>
   match E.P.underlying t with
   | some (.slice e)=>(yX E.P e).bind λn=>(c x).bind λpx=>(c i).map λpi => .iaddrS n px pi
   | _=>none
 | .index t x i =>
   match E.P.underlying t with
   | some .string=>(c x).bind λpx=>(c i).map λpi => .indexStr px pi
   | _=>none
 | .slice t x lo hi none =>
   match E.P.underlying t with
   | some .string=>(c x).bind λpx=>(cxo E vs ops lo).bind λpl=>(cxo E vs ops hi).map λph => .slice true 1 px pl ph
   | some (.slice e)=>(yX E.P e).bind λn=>(c x).bind λpx=>(cxo E vs ops lo).bind λpl=>(cxo E vs ops hi).map λph => .slice false n px pl ph
   | _=>none
 | .binOp op t x y _ =>
   if op = .eql∨op = .neq then
    match eqT E.P t with
    | some (some (agg,ks))=>(c x).bind λpx=>(c y).map λpy => .eq (op == .neq) agg ks px py
    | some none=>(c x).bind λpx=>(c y).map λpy => .bin op px py
    | none=>none
   else(c x).bind λpx=>(c y).map λpy => .bin op px py
 | .unOp op _ x=>(c x).map λp => .un op p
 | .convert src dst x =>
   match E.P.underlying src,E.P.underlying dst with
   | some (.int _),some (.int k)=>(c x).map λp => .convInt k p
   | _,_=>none
 | .makeInterface t x => match E.P.underlying t with
   | some (.interface _)=>none
   | some _=>(zQ t E.pt 0).bind λi=>(c x).map λp => .ifc true (i+1) p
   | none=>none
 | .typeAssert x _ t false => match E.P.underlying t with
   | some (.interface _)=>none
   | some _=>(zQ t E.pt 0).bind λi=>(c x).map λp => .ifc false (i+1) p
   | none=>none
 | .extract x i=>(c x).map λp => .extract i p
 | .call { callee := .builtin b,args,argTypes }=>if isN (yR vs o.dst) then none else SK E vs ops b args.toList argTypes.toList
 | .call { callee := .value (.func f), args, .. } => (E.inv f).bind fun k => (cxs E vs ops args.toList).map fun ps => match NN f E.ox with
   | some own=>if isN (yR vs o.dst) then EC else .pcallx k ps own
   | none=>if E.pz.contains f then .pzcall k ps else .pcall k ps
 | .call { callee := .value (.tmp t),args,.. }=>(c (.tmp t)).bind λp=>(cxs E vs ops args.toList).map λps => .callv p ps
 | _=>none
def SM (E:Env) (vs:List Tmp) (ops:List Oper):Option (Nat×Bool)→Option (Option (PX×Bool))
 | none=>some none
 | some (j, want) =>
   match ops[j]? with
   | some o => match o.dst with
     | some t=>(cx E vs ops (.tmp t)).map λp=>some (p,want)
     | none=>none
   | none=>none
def Cp:PC := .branch [] (.c .dead) .skip .skip
def FH (E:Env) (vs:List Tmp) (ops:List Oper) (o:Oper):Option PO:=
 (SM E vs ops o.guard).map λg=>{ dst:=yR vs o.dst,op:=(cOp E vs ops o).getD EC,guard:=g }
def isB (o:PO):Bool:=
 match o.op with
 | .h (.bcall ..) | .h (.bcallv ..)=>true
 | _=>false
def Iv (E:Env) (vs:List Tmp) (ops:List Oper) (o:Oper):Option PO:=(FH E vs ops o).bind λp=>if isB p then none else some p
def Ir (E:Env) (vs:List Tmp) (ops:List Oper) (o:Oper):Option PO:=
 match o with
 | { dst, op := .call { callee := .value (.func f), args, .. }, guard := none, .. } =>
   if E.bf.contains f then(E.inv f).bind λk=>(cxs E vs ops args.toList).map λps=>{ dst:=yR vs dst,op := .h (.bcall k ps) } else Iv E vs ops o
 | { dst, op := .call { callee := .value (.tmp t), args, .. }, guard := none, .. } =>
   if E.bv.contains t then(cx E vs ops (.tmp t)).bind λp=>(cxs E vs ops args.toList).map λps=>{ dst:=yR vs dst,op := .h (.bcallv p ps) } else Iv E vs ops o
 | _=>Iv E vs ops o
def Il (E:Env) (vs:List Tmp) (ops:List Oper):List Oper→Option (List PO)
 | []=>some []
 | o::os=>(Ir E vs ops o).bind λp=>(Il E vs ops os).map (p::·)
def Sw (E:Env) (ops:List Oper):Bool:=ops.any λo=>
 match o.op with
 | .call { callee := .value (.func f),.. }=>E.bf.contains f
 | .call { callee := .value (.tmp t),.. }=>E.bv.contains t
 | _=>false
def Ez (E:Env) (vs:List Tmp) (ops:List Oper):List Oper→Option (List PO)
 | []=>some []
 | o::os=>(FH E vs ops o).bind λp=>(Ez E vs ops os).map (p::·)
def E1 (vs:List Tmp):List Oper→Bool
 | []=>true
 | o::os=>(match o.dst with | some t=>(zQ t vs 0).isSome||os.all (λp=>p.dst != some t) | none=>true)&&E1 vs os
def zN:HOp→List PX
 | .isnil _ _ x | .nilchk x | .loadc _ _ x=>[x]
 | .newobj _ | .mkmap=>[]
 | .boxobj _ x | .load _ _ x _ | .mkarr _ _ _ _ x=>[x]
 | .clear _ x=>[x]
 | .mkrow _ _ _ _ ps=>ps.map (·.2)
 | .mkfresh _ _ _ _ x | .loadn x=>[x]
 | .buildA js _ ps=>js.map .l++ps.map (·.2.2)
 | .happ _ _ _ a x | .happz _ _ _ _ a x | .store _ _ a x | .storer _ _ a x | .lookup _ _ _ _ _ a x=>[a,x]
 | .mset _ _ m k v=>[m,k,v]
 | .mkfunc _ a b=>a++b
 | .call _ xs | .bcall _ xs | .rcall _ xs | .zcall _ xs=>xs
 | .callv x xs | .bcallv x xs | .icall _ x xs=>x::xs
def ze:POp→List PX
 | .h o=>zN o
 | .mov x | .take x | .faddr _ x | .un _ x | .convInt _ x | .ifc _ _ x | .extract _ x | .len _ x | .cap x | .boxloc _ x=>[x]
 | .pick c a b=>[c,a,b]
 | .newloc _=>[]
 | .build _ ps=>ps.map (·.2.2)
 | .mkslice _ _ _ ps=>ps.map (·.2)
 | .load _ _ a _=>[a]
 | .store _ _ a x | .iaddrS _ a x | .indexStr a x | .bin _ a x | .eq _ _ _ a x | .append _ _ a x=>[a,x]
 | .slice _ _ x lo hi=>x::(lo.toList++hi.toList)
 | .minmax _ xs | .pcall _ xs | .pcallx _ xs _ | .pzcall _ xs=>xs
 | .callv x xs=>x::xs
end PI
set_option linter.unusedSimpArgs false
set_option linter.unusedVariables false
namespace PI
def zf:POp→Nat
 | .h (.buildA ..) | .h (.store ..) | .h (.mset ..) | .h (.bcall ..) | .h (.bcallv ..)=>2
 | .h (.mkfunc _ a b)=>if (a++b).isEmpty then 0 else 4
 | .load _ _ _ tk=>if tk then 3 else 1
 | .store .. | .newloc _ | .boxloc .. => 2
 | _=>0
def Av:POp→Nat
 | .h (.newobj ..) | .h (.boxobj ..) | .h (.mkarr ..) | .h (.mkrow ..) | .h (.buildA ..) | .h (.loadn ..) | .h .mkmap | .h (.call ..) | .h (.callv ..) | .h (.zcall ..) | .h (.icall ..) | .h (.bcall ..) | .h (.bcallv ..) | .h (.happ ..) | .h (.happz ..) | .h (.clear ..) | .h (.store ..) | .h (.storer ..) | .h (.mset ..)=>2
 | .h (.load _ _ _ tk)=>if tk then 2 else 1
 | .h (.lookup _ tk _ _ _ _ _)=>if tk then 2 else 1
 | .h (.rcall ..)=>1
 | _=>0
def Fa:POp→List PX
 | .h (.mkfunc _ a b)=>a++b
 | _=>[]
def Bf:POp→List PX
 | .take x=>[x]
 | .append _ _ s _=>[s]
 | .h (.happ _ _ _ s _)=>[s]
 | .pcallx _ xs (some i)=>xs[i]?.toList
 | _=>[]
def AW:PX→PX→Bool
 | .v i,.v j=>i==j
 | .l i,.l j=>i==j
 | _,_=>false
def isX (d:PD) (j:Nat) (x:PX):Bool:=
 match d with
 | .v i=>AW (.v i) x
 | .l=>AW (.l j) x
 | .n=>false
def Cs (p:PO):List PX:=(match p.guard with | some (x,_)=>[x] | none=>[])++ze p.op
def isV:PD→Bool
 | .v _=>true
 | _=>false
def Gn (j:Nat) (p q:PO):Bool:=(Cs q).all (λx => !isX p.dst j x)&&(!isV p.dst||zf q.op==0)
def FN (d d':PD):Bool:=
 match d,d' with
 | .v i,.v j=>i==j
 | _,_=>false
def Ki (jp:Nat) (p:PO) (jq:Nat) (q:PO):Bool:=
 zf p.op != 2&&zf q.op != 2 && !(zf p.op==3&&zf q.op==3) && !(zf p.op==4&&zf q.op != 0) && !(zf q.op==4&&zf p.op != 0) &&
 !(Av p.op==2&&Av q.op != 0) && !(Av q.op==2&&Av p.op != 0)&&(Fa p.op).all (λx => !(Cs q).any (AW x))&&(Fa q.op).all (λx => !(Cs p).any (AW x))&&Gn jp p q&&Gn jq q p && !FN p.dst q.dst&&(Bf p.op).all (λx => !(Bf q.op).any (AW x))
def vw:PV→PV
 | .list _ es => .list false es
 | .loc g _ => .loc g []
 | v=>v
theorem GF (v:PV):cp v=cp (vw v):=by cases v<;>rfl
inductive Dm where
 | none
 | src (x:PX)
 | cell (s off:Nat)
 | heap (h:List PObj)
 | shut (xs:List PX)
def D8 (off:Nat):PV→PV
 | .loc g cs => .loc g (cs.modify off dem)
 | v=>v
def D9:PV→PV
 | .loc _ cs => .cptr (cs.map dem)
 | v=>v
def AX (x:PX) (st:St):St:=
 match x with
 | .v i=>{ st with vars:=st.vars.modify i D9 }
 | _=>st
def Aw:List PX→St→St
 | [],st=>st
 | x::xs,st=>Aw xs (AX x st)
def Dm.app:Dm→St→St
 | .heap h,st=>{ st with heap:=h }
 | .shut xs,st=>Aw xs st
 | .none,st=>st
 | .src (.v i),st=>{ st with vars:=st.vars.modify i dem }
 | .src (.l j),st=>{ st with locs:=st.locs.modify j dem }
 | .src (.c _),st=>st
 | .cell s off,st=>{ st with vars:=st.vars.modify s (D8 off) }
def DE (exact:Bool) (st st':St):Prop:=
 ∀(s g:Nat) (cs:List PV),st.vars[s]? = some (.loc g cs)→∃cs',st'.vars[s]? = some (.loc g cs')∧cs'.map dem=cs.map dem∧(exact=true→cs'=cs)
structure Sim (o:POp) (rs:List PX) (st st':St):Prop where
 reads:∀x∈rs,(raw st x).map vw=(raw st' x).map vw
 takes:∀x∈Bf o,∀es,raw st x=some (.list true es)↔raw st' x=some (.list true es)
 mem:1≤zf o→DE (zf o==3) st st'
 heap:1≤Av o→st'.heap=st.heap
section
variable {o:POp} {rs:List PX} {st st':St}
theorem Sim.rd (h:Sim o rs st st') {x:PX} (hx:x∈rs):rd st x=rd st' x:=by
 have:=h.reads x hx
 unfold PI.rd
 cases h1:raw st x<;>cases h2:raw st' x<;>simp[h1,h2] at this ⊢
 rw[GF,this,← GF]
theorem Sim.rdInt (h:Sim o rs st st') {x:PX} (hx:x∈rs):rdInt st x=rdInt st' x:=by
 unfold PI.rdInt; rw[h.rd hx]
theorem Ob (h:Sim o rs st st') {x:PX} (hx:x∈rs) (hm:1≤Av o):b2G st x=b2G st' x:=by
 unfold PI.b2G
 rw[h.rd hx]
 unfold yN
 rw[h.heap hm]
def Oc (x:PX) (r:Option PV):Option PV:=
 match x,r with
 | .v i,some (.loc g _)=>some (.lptr i g 0)
 | _,some (.lptr s g off)=>some (.lptr s g off)
 | _,some v=>cp v
 | _,none=>none
theorem Kk (st:St) (x:PX):addr st x=Oc x (raw st x):=rfl
theorem Tc (x:PX) (v:PV):Oc x (some v)=Oc x (some (vw v)):=by
 cases v<;>cases x<;>rfl
theorem Sim.addr (h:Sim o rs st st') {x:PX} (hx:x∈rs):addr st x=addr st' x:=by
 have:=h.reads x hx
 rw[Kk,Kk]
 cases h1:raw st x<;>cases h2:raw st' x<;>simp[h1,h2] at this ⊢
 rw[Tc,this,← Tc]
theorem Sim.rdAll (h:Sim o rs st st'):∀{xs:List PX},(∀x∈xs,x∈rs)→rdAll st xs=rdAll st' xs
 | [],_=>rfl
 | x :: xs, hx => by
   simp only[PI.rdAll]
   rw[h.rd (hx x (by simp)),h.rdAll (xs:=xs) (λy hy=>hx y (by simp[hy]))]
theorem Sim.rdParts (h:Sim o rs st st'):∀{xs:List (Nat×Nat×PX)},(∀x∈xs,x.2.2∈rs)→rdParts st xs=rdParts st' xs
 | [],_=>rfl
 | (a, b, x) :: xs, hx => by
   simp only[PI.rdParts]
   rw[h.rd (hx (a,b,x) (by simp)),h.rdParts (xs:=xs) (λy hy=>hx y (by simp[hy]))]
theorem Sim.rdElems (h:Sim o rs st st'):∀{xs:List (Nat×PX)},(∀x∈xs,x.2∈rs)→rdElems st xs=rdElems st' xs
 | [],_=>rfl
 | (a, x) :: xs, hx => by
   simp only[PI.rdElems]
   rw[h.rd (hx (a,x) (by simp)),h.rdElems (xs:=xs) (λy hy=>hx y (by simp[hy]))]
theorem Sim.bound (h:Sim o rs st st') {x:Option PX} (hx:∀y∈x.toList,y∈rs) (d m:Nat):bound st x d m=bound st' x d m:=by
 cases x with
 | none=>rfl
 | some y=>simp only[PI.bound]; rw[h.rdInt (hx y (by simp))]
theorem GG {l:List PV} {i:Nat} {v:PV} (h:l[i]? = some v) (f:PV→PV):l.modify i f=l.set i (f v):=by
 apply bO
 intro k
 rw[bk,aO]
 by_cases hk:i=k
 ·subst hk
  obtain⟨dc,rfl⟩:=ah.1 h
  simp[dc]
 ·simp[hk]
theorem Od {l:List PV} {i:Nat} {f:PV→PV} (h:∀v,l[i]? = some v→f v=v):l.modify i f=l:=by
 apply bO
 intro k
 rw[bk]
 by_cases hk:i=k
 ·subst hk
  cases hv:l[i]? with
  | none=>simp
  | some v=>simp[h v hv]
 ·simp[hk]
theorem Oe {x:PX} {u:PV} {st1:St} (h:tk st x=some (u,st1)):st1=(Dm.src x).app st∧∀st',(raw st x).map vw=(raw st' x).map vw→(∀es,raw st x=some (.list true es)↔raw st' x=some (.list true es))→tk st' x=some (u,(Dm.src x).app st'):=by
 have app_own:∀(st:St) (es:List PV),raw st x=some (.list true es)→Dk st x (.list false es)=(Dm.src x).app st:=by
  intro st es hr
  cases x with
  | v i=>simp only[Dk,Dm.app]; rw[GG hr]; rfl
  | l i=>simp only[Dk,Dm.app]; rw[GG hr]; rfl
  | c p=>rfl
 have app_id:∀(st:St),(∀v,raw st x=some v→dem v=v)→(Dm.src x).app st=st:=by
  intro st hv
  cases x with
  | v i=>simp only[Dm.app]; rw[Od hv]
  | l i=>simp only[Dm.app]; rw[Od hv]
  | c p=>rfl
 have dem_id:∀v:PV,(∀es,v≠.list true es)→dem v=v:=by
  intro v hv
  cases v<;>try rfl
  rename_i own es
  cases own with
  | true=>exact absurd rfl (hv es)
  | false=>rfl
 unfold tk at h
 split at h
 ·rename_i es hr
  simp only[aa,ac] at h
  obtain⟨rfl,rfl⟩:=h
  refine⟨app_own st es hr,?_⟩
  intro st' _ h2
  have gc:=(h2 es).1 hr
  unfold tk
  rw[gc]
  simp only[aa,ac,true_and]
  exact app_own st' es gc
 ·rename_i v oK hr
  simp only[ab,ac] at h
  obtain⟨r,fG,rfl,rfl⟩:=h
  refine⟨(app_id _ (λv' ea=>by rw[hr] at ea; simp at ea; subst ea; exact dem_id _ oK)).symm,?_⟩
  intro st' h1 h2
  have qT:∀es,raw st' x≠some (.list true es):=λes e=>by
   have:=(h2 es).2 e
   rw[hr] at this; simp at this; exact oK es this
  cases hv:raw st' x with
  | none=>rw[hr,hv] at h1; simp at h1
  | some v' =>
    have xE:vw v=vw v':=by rw[hr,hv] at h1; simpa using h1
    have gb:cp v'=some r:=by rw[GF,← xE,← GF]; exact fG
    have dh:∀es,v'≠.list true es:=λes e=>qT es (by rw[hv,e])
    have iX:=app_id st' (λv2 gV=>by rw[hv] at gV; simp at gV; subst gV; exact dem_id _ dh)
    unfold tk
    rw[hv]
    split
    ·rename_i es he; simp at he; exact absurd he (dh es)
    ·rename_i v2 _ he
     simp at he; subst he
     simp[gb,iX]
    ·rename_i he; simp at he
 ·simp at h
theorem Td {size:Nat} {agg:Bool} {cs cs':List PV} {off:Nat} (h:cs'.map dem=cs.map dem):yu size agg cs off=yu size agg cs' off:=by
 have hl:cs'.length=cs.length:=by simpa using aL List.length h
 unfold yu
 rw[hl]
 split
 ·split
  ·congr 2
   have:=aL (λl=>(l.drop off).take size) h
   simpa using this.symm
  ·rfl
 ·have hg:(cs[off]?).map dem=(cs'[off]?).map dem:=by
   have:=aL (λl=>l[off]?) h
   simpa using this.symm
  cases h1:cs[off]? with
  | none => cases h2 : cs'[off]? with
    | none=>rfl
    | some v=>rw[h1,h2] at hg; simp at hg
  | some v => cases h2 : cs'[off]? with
    | none=>rw[h1,h2] at hg; simp at hg
    | some v' =>
      rw[h1,h2] at hg
      simp at hg
      have:∀x,cp x=cp (dem x):=λx=>by cases x<;>rfl
      simp only
      rw[this v,hg,← this v']
def Ca (o:POp) (d:Dm):Prop:=
 match d with
 | .none=>True
 | .src x=>x∈Bf o
 | .cell _ _=>zf o=3
 | .heap _=>Av o=2
 | .shut xs=>zf o=4∧xs=Fa o
theorem Of:∀{xs:List PX} {st st1:St} {us:List PV},z8 st xs=some (us,st1)→st1=Aw xs st ∧
  ∀st',(∀x∈xs,(raw st x).map vw=(raw st' x).map vw)→DE false st st'→z8 st' xs=some (us,Aw xs st')
 | [], st, st1, us, h => by
   simp only[z8,aa,ac] at h
   obtain⟨rfl,rfl⟩:=h
   exact ⟨rfl,λst' _ _=>rfl⟩
 | x :: xs, st, st1, us, h => by
   simp only[z8,aj,ab,ac] at h
   obtain⟨⟨v,st2⟩,h1,⟨q,st3⟩,h2,rfl,rfl⟩:=h
   obtain⟨i1,i2⟩:=Of h2
   have one:st2=AX x st∧∀st',(raw st x).map vw=(raw st' x).map vw→DE false st st'→Bz st' x=some (v,AX x st'):=by
    by_cases lM:∃i g cs,x = .v i∧raw st x=some (.loc g cs)
    ·obtain⟨i,g,cs,rfl,hr⟩:=lM
     simp only[Bz,hr,aa,ac] at h1
     obtain⟨rfl,rfl⟩:=h1
     have gc:st.vars[i]? = some (.loc g cs):=hr
     refine⟨by simp only[AX]; rw[GG gc]; rfl,?_⟩
     intro st' _ hl
     obtain⟨cs',e1,e2,_⟩:=hl i g cs gc
     have e1':raw st' (.v i)=some (.loc g cs'):=e1
     unfold Bz
     rw[e1']
     simp only[AX]
     rw[GG e1]
     simp only[D9,e2]
    ·have fY:∀i g cs,x = .v i→raw st x=some (.loc g cs)→False:=λi g cs e h=>lM ⟨i,g,cs,e,h⟩
     have gb:∀st:St,(∀i g cs,x = .v i→raw st x=some (.loc g cs)→False)→Bz st x=(rd st x).map (·,st):=by
      intro st hn
      unfold Bz
      split
      ·rename_i i g cs h; exact absurd h (λh=>hn i g cs rfl h)
      ·rfl
     rw[gb st fY] at h1
     simp only[ab,ac] at h1
     obtain⟨r,hr,rfl,rfl⟩:=h1
     have iX:∀st:St,(∀i g cs,x = .v i→st.vars[i]?≠some (.loc g cs))→AX x st=st:=by
      intro st hn
      cases x with
      | v i =>
        simp only[AX]
        rw[Od]
        intro u hu
        cases u<;>first|rfl|exact absurd hu (hn i _ _ rfl)
      | l i=>rfl
      | c p=>rfl
     refine⟨(iX st (λi g cs e h=>fY i g cs e (by rw[e]; exact h))).symm,?_⟩
     intro st' hv hl
     have qU:∀i g cs,x = .v i→st'.vars[i]?≠some (.loc g cs):=by
      intro i g cs e h
      subst e
      have h':raw st' (.v i)=some (.loc g cs):=h
      rw[h'] at hv
      cases hq:raw st (.v i) with
      | none=>rw[hq] at hv; simp at hv
      | some u =>
        rw[hq] at hv
        simp only[aC,aa] at hv
        cases u<;>simp[vw] at hv
        exact fY i _ _ rfl hq
     have mO:rd st' x=some r:=by
      unfold rd at hr ⊢
      cases h3:raw st x<;>cases h4:raw st' x<;>simp[h3,h4] at hv hr ⊢
      rw[GF,← hv,← GF]; exact hr
     rw[iX st' qU,gb st' (λi g cs e h=>qU i g cs e (by rw[e] at h; exact h))]
     simp[mO]
   obtain⟨o1,o2⟩:=one
   subst o1
   refine⟨i1,?_⟩
   intro st' hv hl
   have qV:=o2 st' (hv x (bZ ..)) hl
   have gV:∀y∈xs,(raw (AX x st) y).map vw=(raw (AX x st') y).map vw:=by
    intro y hy
    have gu:=hv y (bo _ hy)
    cases x with
    | l i=>exact gu
    | c p=>exact gu
    | v i =>
      cases y with
      | l k=>exact gu
      | c p=>rfl
      | v k =>
        simp only[AX,raw,bk] at gu ⊢
        by_cases jY:i=k
        ·subst jY
         cases h3:st.vars[i]? with
         | none=>rw[h3] at gu; cases h4:st'.vars[i]?<;>simp[h4] at gu ⊢
         | some u =>
           rw[h3] at gu
           cases h4:st'.vars[i]? with
           | none=>rw[h4] at gu; simp at gu
           | some u' =>
             rw[h4] at gu
             simp only[aC,aa] at gu
             simp only[if_true,cS,aC,aa]
             cases u with
             | loc g cs =>
               obtain⟨cs',e1,e2,_⟩:=hl i g cs h3
               rw[h4] at e1
               simp at e1; subst e1
               simp[D9,e2]
             | _=>cases u'<;>simp[vw] at gu<;>simp_all [D9,vw]
        ·simp only[jY,if_false]
         cases h3:st.vars[k]?<;>cases h4:st'.vars[k]?<;>simp[h3,h4] at gu ⊢
         exact gu
   have eJ:DE false (AX x st) (AX x st'):=by
    cases x with
    | l i=>exact hl
    | c p=>exact hl
    | v i =>
      intro s g cs hs
      simp only[AX,bk] at hs ⊢
      by_cases vK:i=s
      ·subst vK
       cases h3:st.vars[i]? with
       | none=>rw[h3] at hs; simp at hs
       | some u=>rw[h3] at hs; cases u<;>simp[D9] at hs
      ·simp only[vK,if_false] at hs ⊢
       cases h3:st.vars[s]? with
       | none=>rw[h3] at hs; simp at hs
       | some u =>
         rw[h3] at hs
         simp at hs; subst hs
         obtain⟨cs',e1,e2,e3⟩:=hl s g cs h3
         exact ⟨cs',by simp[e1],e2,e3⟩
   have:=i2 _ gV eJ
   simp only[z8,qV,ar,this,aC,Aw]
theorem b7m:∀(a b:List PX) (st:St),Aw (a++b) st=Aw b (Aw a st)
 | [],_,_=>rfl
 | x::a,b,st=>by simp only[aK,Aw]; exact b7m a b _
theorem Og:∀{a b:List PX} {st:St},z8 st (a++b)=(z8 st a).bind λf=>(z8 f.2 b).map λc=>(f.1++c.1,c.2)
 | [],b,st=>by simp only[be,z8,ar]; cases z8 st b<;>rfl
 | x :: a, b, st => by
   simp only[aK,z8,Og (a:=a)]
   cases Bz st x with
   | none=>rfl
   | some r =>
     simp only[ar]
     cases z8 r.2 a with
     | none=>rfl
     | some f =>
       simp only[ar,aC]
       cases z8 f.2 b<;>rfl
theorem c2I {cf:yt} {k:Nat} {a b:List PX} {u:PV} {st st1:St} (h:yo cf (.mkfunc k a b) st=some (u,st1)):
  st1=Aw (a++b) st∧∀st',(∀x∈a++b,(raw st x).map vw=(raw st' x).map vw)→DE false st st'→yo cf (.mkfunc k a b) st'=some (u,Aw (a++b) st'):=by
 simp only[yo,aj,ab,ac] at h
 obtain⟨⟨f,st2⟩,h1,⟨c,st3⟩,h2,rfl,rfl⟩:=h
 have r9:z8 st (a++b)=some (f++c,st3):=by rw[Og,h1]; simp[h2]
 obtain⟨e1,e2⟩:=Of r9
 obtain⟨e3,e4⟩:=Of h1
 refine⟨e1,?_⟩
 intro st' hv hl
 have g1:=e4 st' (λx hx=>hv x (b9 _ hx)) hl
 have g2:=e2 st' hv hl
 rw[Og,g1] at g2
 simp only[ar,ab,ac] at g2
 obtain⟨⟨c',st4⟩,g3,g4,g5⟩:=g2
 have hc:c'=c:=List.append_cancel_left g4
 subst hc
 simp only[yo,g1,ar,g3,aC]
 simp only at g5
 rw[g5]
theorem d08 {cf:yt} {u:PV} {st1:St} (hm:zf o≠2) (dC:∀x∈ze o,x∈rs) (h:opv cf o st=some (u,st1)):
  ∃d:Dm,st1=d.app st∧Ca o d∧∀st',Sim o rs st st'→opv cf o st'=some (u,d.app st'):=by
 have pure:st1=st→(∀st',Sim o rs st st'→opv cf o st'=(opv cf o st).map λr=>(r.1,st'))→∃d:Dm,st1=d.app st∧Ca o d∧∀st',Sim o rs st st'→opv cf o st'=some (u,d.app st'):=by
  intro e hs
  refine⟨.none,e,trivial,?_⟩
  intro st' dV
  rw[hs st' dV,h]; rfl
 cases o with
 | h o =>
   have eD:Av (.h o)=2→(∀st',st'.heap=st.heap→(∀x∈zN o,rd st x=rd st' x)→(∀x∈zN o,addr st x=addr st' x)→yo cf o st'=(yo cf o st).map λr=>(r.1,{ st' with heap:=r.2.heap }))→(∀u st1,yo cf o st=some (u,st1)→st1={ st with heap:=st1.heap }) →
     ∃d:Dm,st1=d.app st∧Ca (.h o) d∧∀st',Sim (.h o) rs st st'→opv cf (.h o) st'=some (u,d.app st'):=by
    intro h2 hs he
    have h':yo cf o st=some (u,st1):=h
    refine⟨.heap st1.heap,he _ _ h',h2,?_⟩
    intro st' dV
    show yo cf o st'=_
    rw[hs st' (dV.heap (by omega)) (λx hx=>dV.rd (dC x hx)) (λx hx=>dV.addr (dC x hx)),h']
    rfl
   have gM:(∀u st1,yo cf o st=some (u,st1)→st1=st)→(∀st',(1≤Av (.h o)→st'.heap=st.heap)→(∀x∈zN o,rd st x=rd st' x)→(∀x∈zN o,addr st x=addr st' x)→yo cf o st'=(yo cf o st).map λr=>(r.1,st')) →
     ∃d:Dm,st1=d.app st∧Ca (.h o) d∧∀st',Sim (.h o) rs st st'→opv cf (.h o) st'=some (u,d.app st'):=by
    intro e hs
    refine pure (e _ _ h) ?_
    intro st' dV
    exact hs st' dV.heap (λx hx=>dV.rd (dC x hx)) (λx hx=>dV.addr (dC x hx))
   have rdI:∀{st st':St} {x:PX},rd st x=rd st' x→rdInt st x=rdInt st' x:=by intro st st' x hx; unfold PI.rdInt; rw[hx]
   have rdA:∀{st st':St} {xs:List PX},(∀x∈xs,rd st x=rd st' x)→rdAll st xs=rdAll st' xs:=by
    intro st st' xs
    induction xs with
    | nil=>intro _; rfl
    | cons x xs ih=>intro hx; simp only[PI.rdAll]; rw[hx x (by simp),ih (λy hy=>hx y (by simp[hy]))]
   cases o with
   | happ size agg by' a x =>
     have h':yo cf (.happ size agg by' a x) st=some (u,st1):=h
     simp only[yo] at h'
     split at h'
     ·rename_i xs n sz ag len hx pe
      have key:∀st',Sim (.h (.happ size agg by' a x)) rs st st'→b2G st' x=some xs∧raw st' a=some (.rowp n sz ag len)∧st'.heap=st.heap:=by
       intro st' dV
       refine⟨by rw[← hx]; exact (Ob dV (dC x (by simp[ze,zN])) (by simp[Av])).symm,?_,dV.heap (by simp[Av])⟩
       have:=dV.reads a (dC a (by simp[ze,zN]))
       rw[pe] at this
       cases gc:raw st' a with
       | none=>rw[gc] at this; simp at this
       | some v' =>
         rw[gc] at this
         cases v'<;>simp[vw] at this
         obtain⟨rfl,rfl,rfl,rfl⟩:=this
         rfl
      split at h'
      ·rename_i cs dU
       split at h'
       ·rename_i hc
        simp only[aa,ac] at h'
        obtain⟨rfl,rfl⟩:=h'
        refine⟨.heap _,rfl,rfl,?_⟩
        intro st' dV
        obtain⟨k1,k2,k3⟩:=key st' dV
        simp only[opv,yo,k1,k2,k3,dU]
        rw[af hc]
        rfl
       ·simp at h'
      ·simp at h'
     ·rename_i xs hx pe
      have key:∀st',Sim (.h (.happ size agg by' a x)) rs st st'→b2G st' x=some xs∧raw st' a=some (.list true [])∧st'.heap=st.heap:=by
       intro st' dV
       exact ⟨by rw[← hx]; exact (Ob dV (dC x (by simp[ze,zN])) (by simp[Av])).symm,(dV.takes a (by simp[Bf]) []).1 pe,dV.heap (by simp[Av])⟩
      split at h'
      ·rename_i jM
       simp only[aa,ac] at h'
       obtain⟨rfl,rfl⟩:=h'
       refine⟨.heap st.heap,rfl,rfl,?_⟩
       intro st' dV
       obtain⟨k1,k2,k3⟩:=key st' dV
       simp only[opv,yo,k1,k2,k3]
       rw[af jM]
       simp only[Dm.app,← k3]
      ·rename_i jM
       split at h'
       ·rename_i hc
        simp only[aa,ac] at h'
        obtain⟨rfl,rfl⟩:=h'
        refine⟨.heap _,rfl,rfl,?_⟩
        intro st' dV
        obtain⟨k1,k2,k3⟩:=key st' dV
        simp only[opv,yo,k1,k2,k3]
        rw[ae jM,af hc]
        rfl
       ·simp at h'
     ·rename_i xs hx pe
      have key:∀st',Sim (.h (.happ size agg by' a x)) rs st st'→b2G st' x=some xs∧raw st' a=some .nils∧st'.heap=st.heap:=by
       intro st' dV
       refine⟨by rw[← hx]; exact (Ob dV (dC x (by simp[ze,zN])) (by simp[Av])).symm,?_,dV.heap (by simp[Av])⟩
       have:=dV.reads a (dC a (by simp[ze,zN]))
       rw[pe] at this
       cases gc:raw st' a with
       | none=>rw[gc] at this; simp at this
       | some v' =>
         rw[gc] at this
         cases v'<;>simp[vw] at this
         rfl
      split at h'
      ·rename_i jM
       simp only[aa,ac] at h'
       obtain⟨rfl,rfl⟩:=h'
       refine⟨.heap st.heap,rfl,rfl,?_⟩
       intro st' dV
       obtain⟨k1,k2,k3⟩:=key st' dV
       simp only[opv,yo,k1,k2,k3]
       rw[af jM]
       simp only[Dm.app,← k3]
      ·rename_i jM
       split at h'
       ·rename_i hc
        simp only[aa,ac] at h'
        obtain⟨rfl,rfl⟩:=h'
        refine⟨.heap _,rfl,rfl,?_⟩
        intro st' dV
        obtain⟨k1,k2,k3⟩:=key st' dV
        simp only[opv,yo,k1,k2,k3]
        rw[ae jM,af hc]
        rfl
       ·simp at h'
     ·simp at h'
   | happz size agg by' z a x =>
     refine eD rfl (λst' hh hr _ =>?_) (λu st1 h =>?_)
     ·simp only[yo,hh,← rdI (hr x (by simp[zN])),← hr a (by simp[zN])]
      (repeat' split)<;>rfl
     ·simp only[yo] at h
      (repeat' split at h)<;>simp at h
      rw[← h.2]
   | clear size x =>
     refine eD rfl (λst' hh hr _ =>?_) (λu st1 h =>?_)
     ·simp only[yo,hh,← hr x (by simp[zN])]
      (repeat' split)<;>rfl
     ·simp only[yo] at h
      (repeat' split at h)<;>simp at h
      rw[← h.2]
   | mkarr size agg by' z x =>
     refine eD rfl (λst' hh hr _ =>?_) (λu st1 h =>?_)
     ·simp only[yo,hh,← rdI (hr x (by simp[zN]))]
      (repeat' split)<;>rfl
     ·simp only[yo] at h
      (repeat' split at h)<;>simp at h
      rw[← h.2]
   | storer size agg a x =>
     refine eD rfl (λst' hh hr ha =>?_) (λu st1 h =>?_)
     ·have hg:∀n,yN st' n=yN st n:=λn=>by unfold yN; rw[hh]
      simp only[yo,← ha a (by simp[zN]),← hr x (by simp[zN]),hg]
      split
      ·rename_i n off v _ _
       split
       ·rfl
       ·cases yN st n with
        | none=>rfl
        | some cs =>
          simp only[ar]
          cases yM size agg cs off v with
          | none=>rfl
          | some cs'=>simp only[aC,yH,hh]
      ·rfl
     ·simp only[yo] at h
      split at h
      ·split at h
       ·simp at h
       ·simp only[aj,ab,ac] at h
        obtain⟨_,_,_,_,_,e⟩:=h
        rw[← e]; rfl
      ·simp at h
   | store size agg a x=>simp[zf] at hm
   | mset kagg ks m k v=>simp[zf] at hm
   | mkfunc k a b =>
     obtain⟨e1,e2⟩:=c2I (st:=st) (by simpa[opv] using h)
     by_cases qW:(a++b).isEmpty=true
     ·have r9:a++b=[]:=by simpa using qW
      rw[r9] at e1 e2
      refine⟨.none,e1,trivial,?_⟩
      intro st' hs
      have:a=[]∧b=[]:=by simpa using r9
      obtain⟨rfl,rfl⟩:=this
      have h':yo cf (.mkfunc k [] []) st=some (u,st1):=h
      simp only[yo,z8,ar,aC,aa,ac] at h'
      obtain⟨rfl,_⟩:=h'
      rfl
     ·have vL:zf (.h (.mkfunc k a b))=4:=by simp only[zf,qW,if_false]; rfl
      refine⟨.shut (a++b),e1,⟨vL,rfl⟩,?_⟩
      intro st' hs
      have hl:=hs.mem (by omega)
      rw[vL] at hl
      exact e2 st' (λx hx=>hs.reads x (dC x hx)) hl
   | newobj z=>exact eD rfl (λst' hh _ _=>by simp only[yo,hh]; rfl) (λu st1 h=>by simp only[yo,aa,ac] at h; rw[← h.2])
   | mkmap=>exact eD rfl (λst' hh _ _=>by simp only[yo,hh]; rfl) (λu st1 h=>by simp only[yo,aa,ac] at h; rw[← h.2])
   | buildA js z ps=>simp[zf] at hm
   | mkfresh size agg by' z x =>
     refine gM (λu st1 h =>?_) (λst' _ hr _ =>?_)
     ·simp only[yo] at h
      (repeat' split at h)<;>simp at h
      exact h.2.symm
     ·simp only[yo,← rdI (hr x (by simp[zN]))]
      (repeat' split)<;>rfl
   | loadn x =>
     refine eD rfl (λst' hh hr ha =>?_) (λu st1 h =>?_)
     ·simp only[yo,yN,yH,hh,← ha x (by simp[zN])]
      cases addr st x with
      | none=>rfl
      | some v =>
        cases v<;>try rfl
        rename_i n off
        simp only
        cases st.heap[n]? with
        | none=>rfl
        | some ob =>
          cases ob<;>try rfl
          rename_i cs
          simp only[ar]
          cases cs[off]? with
          | none=>rfl
          | some y =>
            cases y<;>try rfl
            ·rename_i b es
             cases b<;>rfl
            ·simp only[aC,← hh]
     ·simp only[yo] at h
      split at h
      ·simp only[aj] at h
       obtain⟨cs,_,h⟩:=h
       split at h
       ·simp only[aa,ac] at h; rw[← h.2]; rfl
       ·simp only[aa,ac] at h; rw[← h.2]
       ·simp at h
      ·simp at h
   | mkrow size agg z len ps =>
     refine eD rfl (λst' hh hr _ =>?_) (λu st1 h =>?_)
     ·have key:∀ps:List (Nat×PX),(∀x∈ps.map (·.2),rd st x=rd st' x)→rdElems st ps=rdElems st' ps:=by
       intro ps
       induction ps with
       | nil=>intro _; rfl
       | cons q ps ih =>
         intro hq
         obtain⟨a,x⟩:=q
         simp only[PI.rdElems]
         rw[hq x (by simp),ih (λy hy=>hq y (by simp only[aA,az]; exact .inr hy))]
      have e:=key ps (λx hx=>hr x (by simpa[zN] using hx))
      simp only[yo,hh,← e,aR]
      rfl
     ·simp only[yo,ab,ac] at h
      obtain⟨_,_,_,e⟩:=h
      rw[← e]
   | boxobj n x =>
     refine eD rfl (λst' hh hr _ =>?_) (λu st1 h =>?_)
     ·simp only[yo,hh,← hr x (by simp[zN])]
      (repeat' split)<;>rfl
     ·simp only[yo] at h
      (repeat' split at h)<;>simp at h
      rw[← h.2]
   | zcall k args =>
     refine eD rfl (λst' hh hr _ =>?_) (λu st1 h =>?_)
     ·have e:rdAll st args=rdAll st' args:=rdA hr
      simp only[yo,hh,← e]
      cases rdAll st args with
      | none=>rfl
      | some vs =>
        simp only[ar]
        split
        ·cases cf k (BK st.heap vs) [] with
         | none=>rfl
         | some r=>simp only[ar]; split<;>rfl
        ·rfl
     ·simp only[yo,aj] at h
      obtain⟨vs,_,h⟩:=h
      split at h
      ·simp only[aj] at h
       obtain⟨r,_,h⟩:=h
       split at h
       ·simp only[aa,ac] at h; rw[← h.2]
       ·simp at h
      ·simp at h
   | call k args =>
     refine eD rfl (λst' hh hr _ =>?_) (λu st1 h =>?_)
     ·have e:rdAll st args=rdAll st' args:=rdA hr
      simp only[yo,hh,← e]
      cases rdAll st args with
      | none=>rfl
      | some vs=>simp only[ar,aR]; rfl
     ·simp only[yo,aj,ab,ac] at h
      obtain⟨_,_,_,_,_,e⟩:=h
      rw[← e]
   | rcall k args =>
     refine gM (λu st1 h =>?_) (λst' hh hr _ =>?_)
     ·simp only[yo,aj,same] at h
      obtain⟨_,_,_,_,e⟩:=h
      split at e
      ·simp only[aa,ac] at e; exact e.2.symm
      ·simp at e
     ·have e:rdAll st args=rdAll st' args:=rdA hr
      simp only[yo,hh (by simp[Av]),← e]
      cases rdAll st args with
      | none=>rfl
      | some vs =>
        simp only[ar]
        cases cf k vs st.heap with
        | none=>rfl
        | some r =>
          simp only[ar,same,hh (by simp[Av])]
          by_cases he:r.2=st.heap
          ·rw[af he,af he]; rfl
          ·rw[ae he,ae he]; rfl
   | icall tab x args =>
     have key:∀st':St,st'.heap=st.heap→∀y,BV st' tab y=BV st tab y:=by
      intro st' hh y
      unfold BV
      split
      ·simp only[CJ,yN,hh]
      ·rfl
     refine eD rfl (λst' hh hr _ =>?_) (λu st1 h =>?_)
     ·have e:=rdA (xs:=args) (st':=st') (λy hy=>hr y (by simp only[zN]; exact bo _ hy))
      simp only[yo,hh,key st' hh,← hr x (by simp[zN]),← e]
      cases BV st tab (rd st x) with
      | none=>rfl
      | some m =>
        simp only[ar]
        cases rdAll st args with
        | none=>rfl
        | some vs=>simp only[ar,aR]; rfl
     ·simp only[yo,aj,ab,ac] at h
      obtain⟨_,_,_,_,_,_,_,e⟩:=h
      rw[← e]
   | bcall k args=>simp[opv,yo] at h
   | bcallv x args=>simp[opv,yo] at h
   | callv x args =>
     refine eD rfl (λst' hh hr _ =>?_) (λu st1 h =>?_)
     ·have e:=rdA (xs:=args) (st':=st') (λy hy=>hr y (by simp only[zN]; exact bo _ hy))
      simp only[yo,hh,← hr x (by simp[zN]),← e]
      split
      ·simp only[aR]; rfl
      ·rfl
     ·simp only[yo] at h
      split at h
      ·simp only[ab,ac] at h
       obtain⟨_,_,_,e⟩:=h
       rw[← e]
      ·simp at h
   | isnil kd neg x =>
     refine gM (λu st1 h =>?_) (λst' _ hr _ =>?_)
     ·simp only[yo,ab,ac] at h
      obtain⟨_,_,_,e⟩:=h; exact e.symm
     ·simp only[yo,← hr x (by simp[zN]),aR]; rfl
   | nilchk x =>
     refine gM (λu st1 h =>?_) (λst' _ _ ha =>?_)
     ·simp only[yo] at h
      (repeat' split at h)<;>simp at h<;>exact h.2.symm
     ·simp only[yo,← ha x (by simp[zN])]
      (repeat' split)<;>rfl
   | loadc size agg a =>
     refine gM (λu st1 h =>?_) (λst' _ hr _ =>?_)
     ·simp only[yo] at h
      split at h
      ·simp only[ab,ac] at h
       obtain⟨_,_,_,e⟩:=h; exact e.symm
      ·simp at h
     ·simp only[yo,← hr a (by simp[zN])]
      split
      ·simp only[aR]; rfl
      ·rfl
   | load size agg a tkn =>
     by_cases ee:tkn=true
     ·subst ee
      refine eD rfl (λst' hh _ ha =>?_) (λu st1 h =>?_)
      ·simp only[yo,← ha a (by simp[zN]),yN,hh,yH]
       split
       ·cases yu size agg _ 0<;>simp<;>rw[← hh]
       ·split
        ·simp only[ar]
         split
         ·simp[hh]
         ·cases yu size agg _ _<;>simp<;>rw[← hh]
        ·rfl
       ·rfl
      ·simp only[yo] at h
       split at h
       ·simp only[ab,ac] at h
        obtain⟨_,_,_,e⟩:=h; rw[← e]
       ·simp only[aj] at h
        obtain⟨cs,_,h⟩:=h
        split at h
        ·simp only[aa,ac] at h; rw[← h.2]; rfl
        ·simp only[ab,ac] at h
         obtain⟨_,_,_,e⟩:=h; rw[← e]
       ·simp at h
     ·have oL:tkn=false:=by simpa using ee
      subst oL
      refine gM (λu st1 h =>?_) (λst' hh _ ha =>?_)
      ·simp only[yo] at h
       split at h
       ·simp only[ab,ac] at h
        obtain⟨_,_,_,e⟩:=h; exact e.symm
       ·simp only[aj,bP] at h
        obtain⟨cs,_,h⟩:=h
        simp only[ab,ac] at h
        obtain⟨_,_,_,e⟩:=h; exact e.symm
       ·simp at h
      ·simp only[yo,← ha a (by simp[zN]),yN,hh (by simp[Av]),bP]
       split
       ·simp only[aR]; rfl
       ·split
        ·simp only[ar,aR]; rfl
        ·rfl
       ·rfl
   | lookup ok tkn kagg ks zero m x =>
     by_cases ee:tkn=true
     ·subst ee
      refine eD rfl (λst' hh hr _ =>?_) (λu st1 h =>?_)
      ·have pn:∀n,zo st' n=zo st n:=λn=>by unfold zo; rw[hh]
       simp only[yo,← hr m (by simp[zN]),← hr x (by simp[zN]),pn,hh,yH]
       split
       ·rename_i n k _ _
        cases zo st n with
        | none=>rfl
        | some es =>
          simp only[ar]
          cases zG kagg ks k es 0 with
          | none=>rfl
          | some r =>
            cases r with
            | none=>simp; rw[← hh]
            | some iv =>
              simp only[ar]
              split
              ·simp
              ·simp; rw[← hh]
       ·rfl
      ·simp only[yo] at h
       split at h
       ·simp only[aj] at h
        obtain⟨es,_,r,_,h⟩:=h
        split at h
        ·split at h
         ·simp only[aa,ac] at h; rw[← h.2]; rfl
         ·simp only[aa,ac] at h; rw[← h.2]
        ·simp only[aa,ac] at h; rw[← h.2]
       ·simp at h
     ·have oL:tkn=false:=by simpa using ee
      subst oL
      refine gM (λu st1 h =>?_) (λst' hh hr _ =>?_)
      ·simp only[yo] at h
       split at h
       ·simp only[aj,bP] at h
        obtain⟨es,_,r,_,h⟩:=h
        split at h
        ·simp at h; exact h.2.symm
        ·simp at h; exact h.2.symm
       ·simp at h
      ·have pn:∀n,zo st' n=zo st n:=λn=>by unfold zo; rw[hh (by simp[Av])]
       simp only[yo,← hr m (by simp[zN]),← hr x (by simp[zN]),pn,bP]
       split
       ·rename_i n k _ _
        cases zo st n with
        | none=>rfl
        | some es =>
          simp only[ar]
          cases zG kagg ks k es 0 with
          | none=>rfl
          | some r=>cases r<;>rfl
       ·rfl
 | store size agg a x=>simp[zf] at hm
 | newloc z=>simp[zf] at hm
 | boxloc n x=>simp[zf] at hm
 | take x =>
   obtain⟨h1,h2⟩:=Oe (st:=st) (by simpa[opv] using h)
   refine⟨.src x,h1,by simp[Ca,Bf],?_⟩
   intro st' hs
   simpa[opv] using h2 st' (hs.reads x (dC x (by simp[ze]))) (hs.takes x (by simp[Bf]))
 | append size bytes s x =>
   simp only[opv] at h
   split at h
   ·rename_i xs es st2 hr ht
    split at h
    ·rename_i hc
     simp only[aa,ac] at h
     obtain⟨rfl,rfl⟩:=h
     obtain⟨h1,h2⟩:=Oe ht
     refine⟨.src s,h1,by simp[Ca,Bf],?_⟩
     intro st' hs
     have mL:=h2 st' (hs.reads s (dC s (by simp[ze]))) (hs.takes s (by simp[Bf]))
     have gc:(rd st' x).bind DK=some xs:=by rw[← hs.rd (dC x (by simp[ze]))]; exact hr
     simp only[opv,gc,mL,af hc]
    ·simp at h
   ·simp at h
 | load size agg a tkn =>
   simp only[opv] at h
   have ha:∀st',Sim (.load size agg a tkn) rs st st'→addr st' a=addr st a:=λst' hs=>(hs.addr (dC a (by simp[ze]))).symm
   split at h
   ·rename_i cs eb
    refine pure (by simp only[ab,ac] at h; obtain⟨_,_,_,e⟩:=h; exact e.symm) ?_
    intro st' hs
    simp only[opv,ha st' hs,eb,aR]
    rfl
   ·rename_i s g off eb
    split at h
    ·rename_i g' cs hv
     split at h
     ·rename_i hg
      subst hg
      split at h
      ·rename_i es ee hcell
       simp only[aa,ac] at h
       obtain⟨rfl,rfl⟩:=h
       simp only[ap,bG] at ee
       have app:∀st:St,st.vars[s]? = some (.loc g cs)→{ st with vars:=st.vars.set s (.loc g (cs.set off (.list false es))) }=(Dm.cell s off).app st:=by
        intro st hv
        simp only[Dm.app]
        rw[GG hv]
        simp only[D8]
        rw[GG hcell]
        rfl
       refine⟨.cell s off,app st hv,by simp[Ca,zf,ee.1],?_⟩
       intro st' hs
       obtain⟨cs',h1,_,h3⟩:=hs.mem (by simp[zf,ee.1]) s g cs hv
       have:cs'=cs:=h3 (by simp[zf,ee.1])
       subst this
       simp only[opv,ha st' hs,eb,h1,if_true,ee.1,ee.2,Bool.not_false,Bool.and_self,hcell]
       rw[app st' h1]
      ·rename_i fY
       refine pure (by simp only[ab,ac] at h; obtain⟨_,_,_,e⟩:=h; exact e.symm) ?_
       intro st' hs
       obtain⟨cs',h1,h2,h3⟩:=hs.mem (by simp[zf]; split<;>omega) s g cs hv
       simp only[opv,ha st' hs,eb,h1,hv,if_true]
       have uh:=Td (size:=size) (agg:=agg) (off:=off) h2
       cases oM:tkn with
       | false=>simp[oM,← uh]; rfl
       | true =>
         have:cs'=cs:=h3 (by simp[zf,oM])
         subst this
         subst oM
         split
         ·rename_i es' hb kQ
          exact absurd kQ (by
           intro kQ
           exact fY es' hb kQ)
         ·simp; rfl
     ·simp at h
    ·simp at h
   ·simp at h
 | mov x =>
   refine pure (by simp only[opv,ab,ac] at h; obtain⟨_,_,_,e⟩:=h; exact e.symm) ?_
   intro st' hs
   simp only[opv,← hs.rd (dC x (by simp[ze])),aR]; rfl
 | pick c x y =>
   refine pure (by simp only[opv] at h; split at h<;>simp at h; obtain⟨_,_,_,e⟩:=h; exact e.symm) ?_
   intro st' hs
   simp only[opv,← hs.rd (dC c (by simp[ze])),← hs.rd (dC x (by simp[ze])),← hs.rd (dC y (by simp[ze]))]
   split
   ·rename_i t _
    cases t
    ·simp only[aJ,if_false,← hs.rd (dC y (by simp[ze])),aR]; rfl
    ·simp only[if_true,← hs.rd (dC x (by simp[ze])),aR]; rfl
   ·rfl
 | build z ps =>
   refine pure (by simp only[opv,ab,ac] at h; obtain⟨_,_,_,e⟩:=h; exact e.symm) ?_
   intro st' hs
   simp only[opv,← hs.rdParts (xs:=ps) (λx hx=>dC _ (by simp only[ze]; exact List.mem_map_of_mem hx)),aR]; rfl
 | mkslice size z len ps =>
   refine pure (by simp only[opv,ab,ac] at h; obtain⟨_,_,_,e⟩:=h; exact e.symm) ?_
   intro st' hs
   simp only[opv,← hs.rdElems (xs:=ps) (λx hx=>dC _ (by simp only[ze]; exact List.mem_map_of_mem hx)),aR]; rfl
 | faddr off x =>
   refine pure (by simp only[opv] at h; split at h<;>simp at h<;>exact h.2.symm) ?_
   intro st' hs
   simp only[opv,← hs.addr (dC x (by simp[ze]))]
   split<;>rfl
 | iaddrS size x i =>
   refine pure (by simp only[opv] at h; (repeat' split at h)<;>simp at h<;>exact h.2.symm) ?_
   intro st' hs
   simp only[opv,← hs.rd (dC x (by simp[ze])),← hs.rdInt (dC i (by simp[ze]))]
   (repeat' split)<;>rfl
 | indexStr x i =>
   refine pure (by simp only[opv] at h; (repeat' split at h)<;>simp at h; exact h.2.symm) ?_
   intro st' hs
   simp only[opv,← hs.rd (dC x (by simp[ze])),← hs.rdInt (dC i (by simp[ze]))]
   (repeat' split)<;>rfl
 | slice str size x lo hi =>
   have mX:∀y∈lo.toList,y∈rs:=λy hy=>dC y (by simp only[ze,az,aw]; exact .inr (.inl hy))
   have xF:∀y∈hi.toList,y∈rs:=λy hy=>dC y (by simp only[ze,az,aw]; exact .inr (.inr hy))
   refine pure (by
    simp only[opv] at h
    split at h
    ·simp only[aj,ab,ac] at h
     obtain⟨_,_,_,_,_,e⟩:=h; exact e.symm
    ·split at h
     ·simp only[aj,ab,ac] at h
      obtain⟨_,_,_,_,_,e⟩:=h; exact e.symm
     ·simp at h
    ·simp only[aj,ab,ac] at h
     obtain⟨_,_,_,_,_,e⟩:=h; exact e.symm
    ·split at h
     ·simp only[aj,ab,ac] at h
      obtain⟨_,_,_,_,_,e⟩:=h; exact e.symm
     ·simp at h
    ·simp at h) ?_
   intro st' hs
   simp only[opv,← hs.rd (dC x (by simp[ze])),← hs.bound mX,← hs.bound xF]
   split
   ·simp only[Option.map_bind,Function.comp_def,aR]
   ·split
    ·simp only[Option.map_bind,Function.comp_def,aR]
    ·rfl
   ·simp only[Option.map_bind,Function.comp_def,aR]
   ·split
    ·simp only[Option.map_bind,Function.comp_def,aR]
    ·rfl
   ·rfl
 | bin op x y =>
   refine pure (by simp only[opv] at h; split at h<;>simp at h; obtain⟨_,_,_,e⟩:=h; exact e.symm) ?_
   intro st' hs
   simp only[opv,← hs.rd (dC x (by simp[ze])),← hs.rd (dC y (by simp[ze]))]
   split
   ·simp only[aR]; rfl
   ·rfl
 | eq neg agg ks x y =>
   refine pure (by
    simp only[opv] at h
    split at h
    ·simp only[ab,ac] at h
     obtain⟨_,_,_,e⟩:=h; exact e.symm
    ·simp at h) ?_
   intro st' hs
   simp only[opv,← hs.rd (dC x (by simp[ze])),← hs.rd (dC y (by simp[ze]))]
   split
   ·simp only[aR]; rfl
   ·rfl
 | un op x =>
   refine pure (by simp only[opv] at h; split at h<;>simp at h; obtain⟨_,_,_,e⟩:=h; exact e.symm) ?_
   intro st' hs
   simp only[opv,← hs.rd (dC x (by simp[ze]))]
   split
   ·simp only[aR]; rfl
   ·rfl
 | convInt k x =>
   refine pure (by simp only[opv,ab,ac] at h; obtain⟨_,_,_,e⟩:=h; exact e.symm) ?_
   intro st' hs
   simp only[opv,← hs.rdInt (dC x (by simp[ze])),aR]; rfl
 | ifc mk t x =>
   refine pure (by
    simp only[opv] at h
    split at h
    ·simp only[aa,ac] at h; exact h.2.symm
    ·split at h
     ·simp only[aa,ac] at h; exact h.2.symm
     ·simp at h
    ·simp at h) ?_
   intro st' hs
   simp only[opv,← hs.rd (dC x (by simp[ze]))]
   cases mk<;>cases rd st x with
   | none=>rfl
   | some v =>
     first
     | rfl
     | (cases v<;>first | rfl | (simp only; split<;>rfl))
 | extract i x =>
   refine pure (by
    simp only[opv] at h
    split at h
    ·simp only[ab,ac] at h
     obtain⟨_,_,_,e⟩:=h; exact e.symm
    ·simp at h) ?_
   intro st' hs
   simp only[opv,← hs.rd (dC x (by simp[ze]))]
   split
   ·simp only[aR]; rfl
   ·rfl
 | len str x =>
   refine pure (by simp only[opv] at h; split at h<;>simp at h<;>exact h.2.symm) ?_
   intro st' hs
   simp only[opv,← hs.rd (dC x (by simp[ze]))]
   split<;>rfl
 | cap x =>
   refine pure (by simp only[opv] at h; split at h<;>simp at h<;>exact h.2.symm) ?_
   intro st' hs
   simp only[opv,← hs.rd (dC x (by simp[ze]))]
   split<;>rfl
 | minmax mx xs =>
   refine pure (by simp only[opv] at h; split at h<;>simp at h; obtain⟨_,_,_,e⟩:=h; exact e.symm) ?_
   intro st' hs
   simp only[opv,← hs.rdAll (xs:=xs) (λx hx=>dC x (by simpa[ze] using hx))]
   split
   ·simp only[aR]; rfl
   ·rfl
 | pcall k xs =>
   refine pure (by simp only[opv] at h; (repeat' split at h)<;>simp at h; exact h.2.symm) ?_
   intro st' hs
   simp only[opv,← hs.rdAll (xs:=xs) (λx hx=>dC x (by simpa[ze] using hx))]
   (repeat' split)<;>rfl
 | pzcall k xs =>
   refine pure (by simp only[opv] at h; (repeat' split at h)<;>simp at h; exact h.2.symm) ?_
   intro st' hs
   simp only[opv,← hs.rdAll (xs:=xs) (λx hx=>dC x (by simpa[ze] using hx))]
   (repeat' split)<;>rfl
 | pcallx k xs own =>
   cases own with
   | none =>
     refine pure (by simp only[opv] at h; (repeat' split at h)<;>simp at h; exact h.2.symm) ?_
     intro st' hs
     simp only[opv,← hs.rdAll (xs:=xs) (λx hx=>dC x (by simpa[ze] using hx))]
     (repeat' split)<;>rfl
   | some i =>
     simp only[opv] at h
     split at h
     ·rename_i v st2 us ht eV
      split at h
      ·rename_i de
       split at h
       ·rename_i r h' hc
        split at h
        ·rename_i hr
         simp only[aa,ac] at h
         obtain⟨rfl,rfl⟩:=h
         simp only[aj] at ht
         obtain⟨x,hx,ht⟩:=ht
         have xG:x∈xs:=ax hx
         obtain⟨h1,h2⟩:=Oe ht
         refine⟨.src x,h1,by simp[Ca,Bf,hx],?_⟩
         intro st' hs
         have mL:=h2 st' (hs.reads x (dC x (by simpa[ze] using xG))) (hs.takes x (by simp[Bf,hx]))
         simp only[opv,hx,ar,mL,← hs.rdAll (xs:=xs) (λx hx=>dC x (by simpa[ze] using hx)),eV,af de,hc,af hr]
        ·simp at h
       ·simp at h
      ·simp at h
     ·simp at h
 | callv x xs =>
   refine pure (by simp only[opv] at h; (repeat' split at h)<;>simp at h; exact h.2.symm) ?_
   intro st' hs
   simp only[opv,← hs.rd (dC x (by simp[ze])),← hs.rdAll (xs:=xs) (λy hy=>dC y (by simp only[ze]; exact bo _ hy))]
   (repeat' split)<;>rfl
end
end PI
namespace PI
open Go (IntKind BinOp UnOp Value Addr World Obj Program FuncId TypeId Act Operand undef)
structure YL where
 fn:FuncId
 params:Array Go.Tmp
 assign:Go.Code
 body:Go.Code
 vars:List Go.Tmp
 nt:Nat
structure Nm where
 fn:Nat→FuncId
 ty:Nat→TypeId
 tabs:List (Nat×Nat×Value):=[]
 rows:List (Nat×TypeId×Nat):=[]
 bT:TypeId:=0
 bE:TypeId:=0
 yl:Nat→Option YL:=λ_=>none
inductive Key where
 | var (i:Nat)
 | loc (j:Nat)
 | vcell (i k:Nat)
 | hobj (n:Nat)
 | hcell (n k:Nat)
 deriving DecidableEq
structure GS where
 fix:Nat→Nat→Prop
 heap:Nat→Option Nat
 box:Nat→Option Nat
 ow:Nat→Option Key
 df:List Go.Deferred:=[]
def Bd (w:World) (b:Nat):Option (FuncId×Array Value×Array Go.Tmp×Go.Code×Go.Code):=
 match w.heap[b]? with
 | some (.loop r)=>some (r.fn,r.tmps,r.params,r.assign,r.body)
 | _=>none
def ShapeLe (w w':World):Prop:=(∀(b:Nat) (s:TypeId×Nat),w.shape? b=some s→w'.shape? b=some s)∧∀b s,Bd w b=some s→Bd w' b=some s
theorem ShapeLe.refl (w:World):ShapeLe w w:=⟨λ_ _ h=>h,λ_ _ h=>h⟩
theorem ShapeLe.trans {a b c:World} (h:ShapeLe a b) (k:ShapeLe b c):ShapeLe a c:=⟨λx s hx=>k.1 x s (h.1 x s hx),λx s hx=>k.2 x s (h.2 x s hx)⟩
theorem TH {w:World} {b:Nat} {s} (h:Bd w b=some s):b<w.heap.size:=by
 unfold Bd at h
 split at h
 ·rename_i h1; exact(aX.1 h1).1
 ·simp at h
theorem Ow {w:World} {b:Nat} {cs T fz} (h:w.heap[b]? = some (.cells cs T fz)):Bd w b=none:=by
 unfold Bd; rw[h]
theorem TJ {w:World} {b:Nat} {s:TypeId×Nat} (h:w.shape? b=some s):b<w.heap.size:=by
 unfold World.shape? at h
 split at h
 ·rename_i h1; exact(aX.1 h1).1
 ·simp at h
theorem ShapeLe.same {w w':World} (h:∀k,k<w.heap.size→w'.heap[k]? = w.heap[k]?):ShapeLe w w':=by
 refine⟨?_,?_⟩
 ·intro b s hb
  have:=h b (TJ hb)
  unfold World.shape? at hb ⊢
  rw[this]; exact hb
 ·intro b s hb
  have:=h b (TH hb)
  unfold Bd at hb ⊢
  rw[this]; exact hb
theorem ShapeLe.one {w w':World} (x:Nat) (h:∀k,k<w.heap.size→k≠x→w'.heap[k]? = w.heap[k]?) (hx:∀s,w.shape? x=some s→w'.shape? x=some s) (hl:∀s,Bd w x=some s→Bd w' x=some s):ShapeLe w w':=by
 refine⟨?_,?_⟩
 ·intro b s hb
  by_cases he:b=x
  ·subst he; exact hx s hb
  ·have:=h b (TJ hb) he
   unfold World.shape? at hb ⊢
   rw[this]; exact hb
 ·intro b s hb
  by_cases he:b=x
  ·subst he; exact hl s hb
  ·have:=h b (TH hb) he
   unfold Bd at hb ⊢
   rw[this]; exact hb
inductive VR (N:Nm) (w:World) (fix:Nat→Nat→Prop) (hp:Nat→Option Nat):Value→PV→Prop where
 | bool (b:Bool):VR N w fix hp (.bool b) (.bool b)
 | int (k:IntKind) (n:Int):VR N w fix hp (.int k n) (.int k n)
 | str (s:ByteArray):VR N w fix hp (.string s) (.str s.data.toList)
 | nils (own:Bool):VR N w fix hp (.slice none 0 0) (.list own [])
 | void (own:Bool) (a:Addr) (cap:Nat):VR N w fix hp (.slice (some a) 0 cap) (.list own [])
 | nils':VR N w fix hp (.slice none 0 0) .nils
 | void' (a:Addr) (cap:Nat):VR N w fix hp (.slice (some a) 0 cap) .void
 | list (own : Bool) (b off len cap sz : Nat) (es : List PV) (cv : Nat → Value) (cY : es.length = len) (dl : len ≤ cap)
   (dj:∀e∈es,e.cells.length=sz) (dg:∀e∈es,∀x∈e.cells,x.flat=true)
   (hcell:∀k,k<len*sz→w.cell? ⟨b,off+k,none⟩=some (cv k)∧fix b (off+k))
   (di:∀(i:Nat) (e:PV),es[i]? = some e→∀(j:Nat) (x:PV),e.cells[j]? = some x→VR N w fix hp (cv (i*sz+j)) x):
   VR N w fix hp (.slice (some ⟨b,off,none⟩) len cap) (.list own es)
 | agg (cs : Array Value) (ps : List PV) (cY : cs.size = ps.length) (dg : ∀ x ∈ ps, x.flat = true)
   (eM:∀(i:Nat) (c:Value) (es:List PV),cs[i]? = some c→ps[i]? = some (.list true es)→c = .slice none 0 0)
   (di:∀(i:Nat) (c:Value) (p:PV),cs[i]? = some c→ps[i]? = some p→VR N w fix hp c p):VR N w fix hp (.agg cs) (.agg ps)
 | tuple (cs : Array Value) (ps : List PV) (cY : cs.size = ps.length)
   (di:∀(i:Nat) (c:Value) (p:PV),cs[i]? = some c→ps[i]? = some p→VR N w fix hp c p):VR N w fix hp (.tuple cs) (.tuple ps)
 | nilptr:VR N w fix hp (.pointer none) .nilptr
 | cptr (b off : Nat) (ps : List PV) (cv : Nat → Value) (dg : ∀ x ∈ ps, x.flat = true)
   (hcell:∀k,k<ps.length→w.cell? ⟨b,off+k,none⟩=some (cv k)∧fix b (off+k))
   (di:∀(k:Nat) (x:PV),ps[k]? = some x→VR N w fix hp (cv k) x):VR N w fix hp (.pointer (some ⟨b,off,none⟩)) (.cptr ps)
 | ptr (n off b:Nat) (h:hp n=some b):VR N w fix hp (.pointer (some ⟨b,off,none⟩)) (.ptr n off)
 | rowp (n sz:Nat) (agg:Bool) (len b cap:Nat) (h:hp n=some b) (dl:len≤cap) (ep:∃T m,w.shape? b=some (T,m)∧cap*sz≤m):VR N w fix hp (.slice (some ⟨b,0,none⟩) len cap) (.rowp n sz agg len)
 | rows (n sz:Nat) (agg:Bool) (off len b o cap m:Nat) (T:TypeId) (h:hp n=some b) (dl:len≤cap) (ho:len=0∨o=off*sz) (ep:w.shape? b=some (T,m)) (hm:(off+len)*sz≤m):VR N w fix hp (.slice (some ⟨b,o,none⟩) len cap) (.rows n sz agg off len)
 | mapn:VR N w fix hp (.map none) (.map none)
 | map (n b:Nat) (h:hp n=some b):VR N w fix hp (.map (some b)) (.map (some n))
 | func (k : Nat) (fs cs : Array Value) (pf pc : List PV) (h0 : N.yl k = none) (h1 : fs.size = pf.length) (h2 : cs.size = pc.length)
   (hf:∀(i:Nat) (c:Value) (p:PV),fs[i]? = some c→pf[i]? = some p→VR N w fix hp c p)
   (hc:∀(i:Nat) (c:Value) (p:PV),cs[i]? = some c→pc[i]? = some p→VR N w fix hp c p):
   VR N w fix hp (.func (.func (N.fn k)) fs cs) (.func k pf pc)
 | yield (k n l : Nat) (y : YL) (tmps : Array Value) (caps : List PV) (h0 : N.yl k = some y) (hl : hp n = some l) (hr : Bd w l = some (y.fn, tmps, y.params, y.assign, y.body)) (cY : caps.length = y.vars.length) (dj : y.nt ≤ tmps.size)
   (hc:∀(i:Nat) (t:Go.Tmp) (p:PV),y.vars[i]? = some t→caps[i]? = some p→VR N w fix hp (tmps.getD t undef) p):
   VR N w fix hp (.func (.yield l) #[] #[]) (.func k (.ptr n 0::caps) [])
 | nilfunc:VR N w fix hp .nilFunc .nilfunc
 | iface (t:Nat) (v:Value) (p:PV) (h:VR N w fix hp v p):VR N w fix hp (.iface (N.ty t) v) (.iface t p)
 | nilIface:VR N w fix hp .nilIface .nilIface
theorem VR.mono {N:Nm} {w w':World} {fix fix':Nat→Nat→Prop} {hp fB:Nat→Option Nat} {v:Value} {p:PV} (h:VR N w fix hp v p)
  (hf:∀b o,fix b o→fix' b o∧w'.cell? ⟨b,o,none⟩=w.cell? ⟨b,o,none⟩) (hh:∀n b,hp n=some b→fB n=some b) (hs:ShapeLe w w'):
  VR N w' fix' fB v p:=by
 induction h with
 | bool b=>exact .bool b
 | int k n=>exact .int k n
 | str s=>exact .str s
 | nils own=>exact .nils own
 | void own a cap=>exact .void own a cap
 | nils'=>exact .nils'
 | void' a cap=>exact .void' a cap
 | list own b off len cap sz es cv cY dl dj dg hcell _ ih =>
   exact .list own b off len cap sz es cv cY dl dj dg (λk hk=>⟨(hf _ _ (hcell k hk).2).2.trans (hcell k hk).1,(hf _ _ (hcell k hk).2).1⟩) ih
 | agg cs ps cY dg eM _ ih=>exact .agg cs ps cY dg eM ih
 | tuple cs ps cY _ ih=>exact .tuple cs ps cY ih
 | nilptr=>exact .nilptr
 | cptr b off ps cv dg hcell _ ih =>
   exact .cptr b off ps cv dg (λk hk=>⟨(hf _ _ (hcell k hk).2).2.trans (hcell k hk).1,(hf _ _ (hcell k hk).2).1⟩) ih
 | ptr n off b h=>exact .ptr n off b (hh _ _ h)
 | rowp n sz agg len b cap h dl ep=>exact .rowp n sz agg len b cap (hh _ _ h) dl (let ⟨T,m,h1,h2⟩:=ep; ⟨T,m,hs.1 _ _ h1,h2⟩)
 | rows n sz agg off len b o cap m T h dl ho ep hm=>exact .rows n sz agg off len b o cap m T (hh _ _ h) dl ho (hs.1 _ _ ep) hm
 | mapn=>exact .mapn
 | map n b h=>exact .map n b (hh _ _ h)
 | func k fs cs pf pc h0 h1 h2 _ _ ihf ihc=>exact .func k fs cs pf pc h0 h1 h2 ihf ihc
 | yield k n l y tmps caps h0 hl hr cY dj hc ih=>exact .yield k n l y tmps caps h0 (hh _ _ hl) (hs.2 _ _ hr) cY dj ih
 | nilfunc=>exact .nilfunc
 | iface t v p _ ih=>exact .iface t v p ih
 | nilIface=>exact .nilIface
theorem VR.dem {N:Nm} {w:World} {fix:Nat→Nat→Prop} {hp:Nat→Option Nat} {v:Value} {p:PV} (h:VR N w fix hp v p):
  VR N w fix hp v (dem p):=by
 cases h with
 | nils own=>exact .nils false
 | void own a cap=>exact .void false a cap
 | nils'=>exact .nils'
 | void' a cap=>exact .void' a cap
 | list own b off len cap sz es cv cY dl dj dg hcell di=>exact .list false b off len cap sz es cv cY dl dj dg hcell di
 | bool b=>exact .bool b
 | int k n=>exact .int k n
 | str s=>exact .str s
 | agg cs ps cY dg eM di=>exact .agg cs ps cY dg eM di
 | tuple cs ps cY di=>exact .tuple cs ps cY di
 | nilptr=>exact .nilptr
 | cptr b off ps cv dg hcell di=>exact .cptr b off ps cv dg hcell di
 | ptr n off b h=>exact .ptr n off b h
 | rowp n sz agg len b cap h dl ep=>exact .rowp n sz agg len b cap h dl ep
 | rows n sz agg off len b o cap m T h dl ho ep hm=>exact .rows n sz agg off len b o cap m T h dl ho ep hm
 | mapn=>exact .mapn
 | map n b h=>exact .map n b h
 | func k fs cs pf pc h0 h1 h2 hf hc=>exact .func k fs cs pf pc h0 h1 h2 hf hc
 | yield k n l y tmps caps h0 hl hr cY dj hc=>exact .yield k n l y tmps caps h0 hl hr cY dj hc
 | nilfunc=>exact .nilfunc
 | iface t v p h=>exact .iface t v p h
 | nilIface=>exact .nilIface
theorem VR.row {N:Nm} {w:World} {fix:Nat→Nat→Prop} {hp:Nat→Option Nat} {v:Value} {p:PV} {es:List PV} (h:VR N w fix hp v p) (hr:DK p=some es):VR N w fix hp v (.list false es):=by
 unfold DK at hr
 split at hr<;>simp at hr
 ·subst hr; exact h.dem
 ·subst hr; cases h; exact .nils false
 ·subst hr; cases h; exact .void false _ _
theorem VR.vague {N:Nm} {w:World} {fix:Nat→Nat→Prop} {hp:Nat→Option Nat} {v:Value} {p:PV} (h:VR N w fix hp v p) (hv:PI.vague p=true):VR N w fix hp v .nils∨VR N w fix hp v .void:=by
 unfold PI.vague at hv
 split at hv
 ·cases h with
  | nils _=>exact .inl .nils'
  | void _ a cap=>exact .inr (.void' a cap)
  | list _ b off len cap sz _ cv cY _ _ _ _ _ =>
    simp at cY
    subst cY
    exact .inr (.void' _ cap)
 ·simp at hv
theorem GK (p:PV):(dem p).flat=p.flat:=by cases p<;>rfl
theorem VR.cells {N:Nm} {w:World} {fix:Nat→Nat→Prop} {hp:Nat→Option Nat} {v:Value} {p:PV} (h:VR N w fix hp v p) (qk:p.cells≠[]):
  v.cells.size=p.cells.length∧(∀x∈p.cells,x.flat=true)∧∀(i:Nat) (c:Value) (x:PV),v.cells[i]? = some c→p.cells[i]? = some x→VR N w fix hp c x:=by
 have one:∀(v:Value) (p:PV),VR N w fix hp v p→p.flat=true→v.cells = #[v]→p.cells=[p] →
   v.cells.size=p.cells.length∧(∀x∈p.cells,x.flat=true)∧∀(i:Nat) (c:Value) (x:PV),v.cells[i]? = some c→p.cells[i]? = some x→VR N w fix hp c x:=by
  intro v p h hf hv hp
  rw[hv,hp]
  refine⟨rfl,by simpa using hf,?_⟩
  intro i c x hc hx
  cases i with
  | zero=>simp at hc hx; subst hc hx; exact h
  | succ i=>simp at hx
 cases h with
 | agg cs ps cY dg _ di=>exact⟨cY,dg,di⟩
 | tuple cs ps cY di=>exact absurd rfl qk
 | bool b=>exact one _ _ (.bool b) rfl rfl rfl
 | int k n=>exact one _ _ (.int k n) rfl rfl rfl
 | str s=>exact one _ _ (.str s) rfl rfl rfl
 | nils own=>exact one _ _ (.nils own) rfl rfl rfl
 | void own a cap=>exact one _ _ (.void own a cap) rfl rfl rfl
 | nils'=>exact one _ _ .nils' rfl rfl rfl
 | void' a cap=>exact one _ _ (.void' a cap) rfl rfl rfl
 | list own b off len cap sz es cv cY dl dj dg hcell di=>exact one _ _ (.list own b off len cap sz es cv cY dl dj dg hcell di) rfl rfl rfl
 | nilptr=>exact one _ _ .nilptr rfl rfl rfl
 | cptr b off ps cv dg hcell di=>exact one _ _ (.cptr b off ps cv dg hcell di) rfl rfl rfl
 | ptr n off b h=>exact one _ _ (.ptr n off b h) rfl rfl rfl
 | rowp n sz agg len b cap h dl ep=>exact one _ _ (.rowp n sz agg len b cap h dl ep) rfl rfl rfl
 | rows n sz agg off len b o cap m T h dl ho ep hm=>exact one _ _ (.rows n sz agg off len b o cap m T h dl ho ep hm) rfl rfl rfl
 | mapn=>exact one _ _ .mapn rfl rfl rfl
 | map n b h=>exact one _ _ (.map n b h) rfl rfl rfl
 | func k fs cs pf pc h0 h1 h2 hf hc=>exact one _ _ (.func k fs cs pf pc h0 h1 h2 hf hc) rfl rfl rfl
 | yield k n l y tmps caps h0 hl hr cY dj hc=>exact one _ _ (.yield k n l y tmps caps h0 hl hr cY dj hc) rfl rfl rfl
 | nilfunc=>exact one _ _ .nilfunc rfl rfl rfl
 | iface t v p h=>exact one _ _ (.iface t v p h) rfl rfl rfl
 | nilIface=>exact one _ _ .nilIface rfl rfl rfl
def oneCell:Value→Bool
 | .agg _ | .tuple _=>false
 | _=>true
theorem VR.oneCell {N:Nm} {w:World} {fix:Nat→Nat→Prop} {hp:Nat→Option Nat} {v:Value} {p:PV} (h:VR N w fix hp v p) (hf:p.flat=true):oneCell v=true:=by
 cases h<;>first|rfl|simp[PV.flat] at hf
def Live (w:World) (b:Nat) (cs:Array Value) (T:TypeId):Prop:=∃fz:Nat×Nat,w.heap[b]? = some (.cells cs T fz)∧∀o,o<cs.size→¬(fz.1≤o∧o<fz.2)
theorem Live.of {w:World} {b:Nat} {cs:Array Value} {T:TypeId} (h:w.heap[b]? = some (.cells cs T (0,0))):Live w b cs T:=⟨(0,0),h,λo _ h=>by simp at h⟩
theorem Live.same {w w':World} {b:Nat} {cs:Array Value} {T:TypeId} (h:Live w b cs T) (e:w'.heap[b]? = w.heap[b]?):Live w' b cs T:=let ⟨fz,h1,h2⟩:=h; ⟨fz,e.trans h1,h2⟩
def Room (w:World) (G:GS) (key:Key) (v:Value) (es:List PV):Prop:=
 match v with
 | .slice (some a) len cap => cap = len ∨
   (G.ow a.block=some key∧∃sz cs T,(∀e∈es,e.cells.length=sz)∧Live w a.block cs T∧a.off+cap*sz≤cs.size ∧
    0<len∧∀o,a.off+len*sz≤o→¬G.fix a.block o)
 | _=>True
def CR (N:Nm) (w:World) (G:GS) (key:Key) (v:Value) (p:PV):Prop:=
 VR N w G.fix G.heap v p∧p.flat=true∧match p with
 | .list true es=>Room w G key v es
 | _=>True
def SR (N:Nm) (w:World) (G:GS) (key:Key) (v:Value) (p:PV):Prop:=
 match p with
 | .dead=>True
 | .loc g cs => ∃ b i, key = .var i ∧ v = .pointer (some ⟨b, 0, none⟩) ∧ G.box g = some b ∧ G.ow b = some key ∧ (∀ o, ¬ G.fix b o) ∧
   ∃cv T,w.heap[b]? = some (.cells cv T (0,0))∧cv.size=cs.length∧∀(k:Nat) (c:Value) (x:PV),cv[k]? = some c→cs[k]? = some x→CR N w G (.vcell i k) c x
 | .lptr _ g off=>∃b,v = .pointer (some ⟨b,off,none⟩)∧G.box g=some b
 | .fresh sz agg len cs => ∃ b, v = .slice (some ⟨b, 0, none⟩) len len ∧ G.ow b = some key ∧ (∀ o, ¬ G.fix b o) ∧
   ∃cv T,w.heap[b]? = some (.cells cv T (0,0))∧cs.length≤cv.size∧len*sz≤cv.size∧∀(k:Nat) (c:Value) (x:PV),cv[k]? = some c→cs[k]? = some x→VR N w G.fix G.heap c x∧x.flat=true∧∀es,x≠.list true es
 | .list true es=>VR N w G.fix G.heap v (.list true es)∧Room w G key v es
 | p=>VR N w G.fix G.heap v p
structure Ext (w:World) (G:GS) (w':World) (G':GS):Prop where
 os:w'.os=w.os
 tape:w'.tape=w.tape
 output:w'.output=w.output
 size:w.heap.size≤w'.heap.size
 same:∀b,b<w.heap.size→G.ow b=none→w'.heap[b]? = w.heap[b]?
 fix:∀b o,G.fix b o→G'.fix b o∧w'.cell? ⟨b,o,none⟩=w.cell? ⟨b,o,none⟩
 newfix:∀b o,G'.fix b o→G.fix b o∨w.heap.size≤b∨G.ow b≠none
 own:∀b,G'.ow b≠none→w.heap.size≤b∨G.ow b≠none
 heap:∀n b,G.heap n=some b→G'.heap n=some b
 shape:ShapeLe w w'
 df:G'.df=G.df
theorem Ext.refl (w:World) (G:GS):Ext w G w G:=⟨rfl,rfl,rfl,am _,λ_ _ _=>rfl,λ_ _ h=>⟨h,rfl⟩,λ_ _ h => .inl h,λ_ h => .inr h,λ_ _ h=>h,ShapeLe.refl w,rfl⟩
theorem Ext.trans {a b c:World} {A B C:GS} (h:Ext a A b B) (k:Ext b B c C):Ext a A c C:=by
 refine⟨k.os.trans h.os,k.tape.trans h.tape,k.output.trans h.output,aH h.size k.size,?_,?_,?_,?_,λn x hx=>k.heap _ _ (h.heap _ _ hx),h.shape.trans k.shape,k.df.trans h.df⟩
 ·intro x hx ho
  have hB:B.ow x=none:=by
   cases hb:B.ow x with
   | none=>rfl
   | some y =>
     rcases h.own x (by simp[hb]) with h1|h1
     ·omega
     ·exact absurd ho h1
  exact(k.same x (aP hx h.size) hB).trans (h.same x hx ho)
 ·intro x o hf
  have h1:=h.fix x o hf
  have h2:=k.fix x o h1.1
  exact⟨h2.1,h2.2.trans h1.2⟩
 ·intro x o hf
  rcases k.newfix x o hf with h1|h1|h1
  ·exact h.newfix x o h1
  ·exact .inr (.inl (aH h.size h1))
  ·rcases h.own x h1 with h2|h2
   ·exact .inr (.inl h2)
   ·exact .inr (.inr h2)
 ·intro x hx
  rcases k.own x hx with h1|h1
  ·exact .inl (aH h.size h1)
  ·exact h.own x h1
theorem VR.ext {N:Nm} {w w':World} {G G':GS} {v:Value} {p:PV} (h:VR N w G.fix G.heap v p) (e:Ext w G w' G'):VR N w' G'.fix G'.heap v p:=
 h.mono e.fix e.heap e.shape
def zu (K:Key→Prop) (w:World) (G:GS) (w':World) (G':GS):Prop:=
 (∀b k,G.ow b=some k→¬K k→G'.ow b=some k∧w'.heap[b]? = w.heap[b]?∧∀o,G'.fix b o→G.fix b o)∧∀g b,G.box g=some b→G'.box g=some b
theorem Room.keep {w w':World} {G G':GS} {K:Key→Prop} {key:Key} {v:Value} {es:List PV} (h:Room w G key v es) (hk:zu K w G w' G') (hn:¬K key):Room w' G' key v es:=by
 unfold Room at *
 split at h
 ·rename_i a len cap
  rcases h with h|⟨ho,sz,cs,T,h1,h2,h3,h4,h5⟩
  ·exact .inl h
  ·obtain⟨k1,k2,k3⟩:=hk.1 _ _ ho hn
   exact .inr ⟨k1,sz,cs,T,h1,h2.same k2,h3,h4,λo gj hf=>h5 o gj (k3 o hf)⟩
 ·trivial
theorem CR.keep {N:Nm} {w w':World} {G G':GS} {K:Key→Prop} {key:Key} {v:Value} {p:PV} (h:CR N w G key v p) (e:Ext w G w' G') (hk:zu K w G w' G') (hn:¬K key):CR N w' G' key v p:=by
 obtain⟨h1,h2,h3⟩:=h
 refine⟨h1.ext e,h2,?_⟩
 split at h3
 ·exact Room.keep h3 hk hn
 ·trivial
theorem SR.keep {N:Nm} {w w':World} {G G':GS} {K:Key→Prop} {key:Key} {v:Value} {p:PV} (h:SR N w G key v p) (e:Ext w G w' G') (hk:zu K w G w' G') (hn:¬K key)
  (hc:∀i k,key = .var i→¬K (.vcell i k)):SR N w' G' key v p:=by
 unfold SR at *
 split at h
 ·trivial
 ·obtain⟨b,i,hU,hv,hb,ho,hf,cv,T,h1,h2,h3⟩:=h
  obtain⟨k1,k2,k3⟩:=hk.1 _ _ ho hn
  exact⟨b,i,hU,hv,hk.2 _ _ hb,k1,λo iP=>hf o (k3 o iP),cv,T,k2.trans h1,h2,λk c x dY hx=>(h3 k c x dY hx).keep e hk (hc i k hU)⟩
 ·obtain⟨b,h1,h2⟩:=h
  exact⟨b,h1,hk.2 _ _ h2⟩
 ·obtain⟨b,hv,ho,hf,cv,T,h1,h2,h4,h3⟩:=h
  obtain⟨k1,k2,k3⟩:=hk.1 _ _ ho hn
  exact⟨b,hv,k1,λo iP=>hf o (k3 o iP),cv,T,k2.trans h1,h2,h4,λk c x dY hx=>⟨(h3 k c x dY hx).1.ext e,(h3 k c x dY hx).2⟩⟩
 ·exact⟨h.1.ext e,Room.keep h.2 hk hn⟩
 ·exact h.ext e
def MR (N:Nm) (w:World) (G:GS) (key:Key) (v:Value) (p:PV):Prop:=
 VR N w G.fix G.heap v p∧match p with
 | .list true es=>Room w G key v es
 | _=>True
theorem MR.keep {N:Nm} {w w':World} {G G':GS} {K:Key→Prop} {key:Key} {v:Value} {p:PV} (h:MR N w G key v p) (e:Ext w G w' G') (hk:zu K w G w' G') (hn:¬K key):MR N w' G' key v p:=by
 obtain⟨h1,h3⟩:=h
 refine⟨h1.ext e,?_⟩
 split at h3
 ·exact Room.keep h3 hk hn
 ·trivial
def ObjR (N:Nm) (w:World) (G:GS) (n b:Nat):PObj→Prop
 | .cells cs=>(∀o,¬G.fix b o)∧∃cv T,w.heap[b]? = some (.cells cv T (0,0))∧cs.length≤cv.size∧∀(k:Nat) (c:Value) (x:PV),cv[k]? = some c→cs[k]? = some x→CR N w G (.hcell n k) c x
 | .map es => ∃ mes clock, w.heap[b]? = some (.map mes clock) ∧ mes.size = es.length ∧ (∀ (i : Nat) (e : Go.MapEntry), mes[i]? = some e → e.born < clock) ∧
   (∀(i i':Nat) (e e':Go.MapEntry),mes[i]? = some e→mes[i']? = some e'→e.born=e'.born→i=i') ∧
   ∀(i:Nat) (e:Go.MapEntry) (p:PV×PV),mes[i]? = some e→es[i]? = some p→VR N w G.fix G.heap e.key p.1∧MR N w G (.hcell n i) e.val p.2
 | .gone=>True
 | .loop ready=>(∀o,¬G.fix b o)∧∃r:Go.Loop,w.heap[b]? = some (.loop r)∧r.pending=none∧r.state=(if ready then .ready else .busy)
 | .over id=>(∀o,¬G.fix b o)∧∃r:Go.Loop,w.heap[b]? = some (.loop r)∧r.pending=some (match id with | none => .ret | some i => .exit i)∧r.state = .done
theorem ObjR.keep {N:Nm} {w w':World} {G G':GS} {K:Key→Prop} {n b:Nat} {ob:PObj} (h:ObjR N w G n b ob) (ho:G.ow b=some (.hobj n)) (e:Ext w G w' G') (hk:zu K w G w' G') (h1:¬K (.hobj n))
  (h2:∀k,¬K (.hcell n k)):ObjR N w' G' n b ob:=by
 obtain⟨_,k2,k3⟩:=hk.1 _ _ ho h1
 cases ob with
 | cells cs =>
   obtain⟨f,cv,T,a1,a2,a3⟩:=h
   exact⟨λo hf=>f o (k3 o hf),cv,T,k2.trans a1,a2,λk c x hc hx=>(a3 k c x hc hx).keep e hk (h2 k)⟩
 | map es =>
   obtain⟨mes,clock,a1,a2,a3,a4,a5⟩:=h
   exact⟨mes,clock,k2.trans a1,a2,a3,a4,λi en p hi hp=>⟨(a5 i en p hi hp).1.ext e,(a5 i en p hi hp).2.keep e hk (h2 i)⟩⟩
 | gone=>trivial
 | loop ready =>
   obtain⟨f,r,a1,a2⟩:=h
   exact⟨λo hf=>f o (k3 o hf),r,k2.trans a1,a2⟩
 | over id =>
   obtain⟨f,r,a1,a2⟩:=h
   exact⟨λo hf=>f o (k3 o hf),r,k2.trans a1,a2⟩
def Tab (N:Nm) (w:World) (fix:Nat→Nat→Prop):Prop:=(∀t∈N.tabs,fix t.1 t.2.1∧w.cell? ⟨t.1,t.2.1,none⟩=some t.2.2)∧∀r∈N.rows,w.shape? r.1=some r.2
theorem Tab.ext {N:Nm} {w w':World} {G G':GS} (h:Tab N w G.fix) (e:Ext w G w' G'):Tab N w' G'.fix:=
 ⟨λt ht=>⟨(e.fix _ _ (h.1 t ht).1).1,(e.fix _ _ (h.1 t ht).1).2.trans (h.1 t ht).2⟩,λr hr=>e.shape.1 _ _ (h.2 r hr)⟩
def HR (N:Nm) (w:World) (G:GS) (heap:List PObj):Prop:=
 (∀(n:Nat) (ob:PObj),heap[n]? = some ob→ob = .gone∨∃b,G.heap n=some b∧G.ow b=some (.hobj n)∧ObjR N w G n b ob)∧Tab N w G.fix
def Key.isH:Key→Bool
 | .hobj _ | .hcell _ _=>true
 | _=>false
theorem HR.keep {N:Nm} {w w':World} {G G':GS} {K:Key→Prop} {heap:List PObj} (h:HR N w G heap) (e:Ext w G w' G') (hk:zu K w G w' G') (hn:∀k,k.isH=true→¬K k):HR N w' G' heap:=by
 refine⟨?_,h.2.ext e⟩
 intro n ob dU
 rcases h.1 n ob dU with rfl|⟨b,h1,h2,h3⟩
 ·exact .inl rfl
 exact .inr ⟨b,e.heap _ _ h1,(hk.1 _ _ h2 (hn _ rfl)).1,h3.keep h2 e hk (hn _ rfl) (λk=>hn _ rfl)⟩
theorem HR.keepBut {N:Nm} {w w':World} {G G':GS} {K:Key→Prop} {heap:List PObj} {m:Nat} {ob':PObj} (h:HR N w G heap) (e:Ext w G w' G') (hk:zu K w G w' G')
  (hn:∀n k,n≠m→¬K (.hobj n)∧¬K (.hcell n k)) (hm:m<heap.length→ob' = .gone∨∃b,G'.heap m=some b∧G'.ow b=some (.hobj m)∧ObjR N w' G' m b ob'):HR N w' G' (heap.set m ob'):=by
 refine⟨?_,h.2.ext e⟩
 intro n ob dU
 rw[aO] at dU
 split at dU
 ·rename_i oq
  subst oq
  split at dU
  ·rename_i dc
   simp at dU; subst dU
   exact hm dc
  ·simp at dU
 ·rename_i oq
  rcases h.1 n ob dU with rfl|⟨b,h1,h2,h3⟩
  ·exact .inl rfl
  have dh:n≠m:=λe=>oq e.symm
  exact .inr ⟨b,e.heap _ _ h1,(hk.1 _ _ h2 (hn n 0 dh).1).1,h3.keep h2 e hk (hn n 0 dh).1 (λk=>(hn n k dh).2)⟩
theorem HR.push {N:Nm} {w w':World} {G G':GS} {K:Key→Prop} {heap:List PObj} {ob':PObj} (h:HR N w G heap) (e:Ext w G w' G') (hk:zu K w G w' G')
  (hn:∀n k,n<heap.length→heap[n]? = some .gone∨(¬K (.hobj n)∧¬K (.hcell n k))) (hm:ob' = .gone∨∃b,G'.heap heap.length=some b∧G'.ow b=some (.hobj heap.length)∧ObjR N w' G' heap.length b ob'):HR N w' G' (heap++[ob']):=by
 refine⟨?_,h.2.ext e⟩
 intro n ob dU
 by_cases dc:n<heap.length
 ·rw[al dc] at dU
  rcases h.1 n ob dU with rfl|⟨b,h1,h2,h3⟩
  ·exact .inl rfl
  by_cases hg:ob = .gone
  ·exact .inl hg
  have ig:∀k,¬K (.hobj n)∧¬K (.hcell n k):=λk=>(hn n k dc).resolve_left λe=>hg (by rw[dU] at e; simpa using e)
  exact .inr ⟨b,e.heap _ _ h1,(hk.1 _ _ h2 (ig 0).1).1,h3.keep h2 e hk (ig 0).1 (λk=>(ig k).2)⟩
 ·rw[aq (by omega)] at dU
  have:n - heap.length=0:=by
   cases hx:n - heap.length with
   | zero=>rfl
   | succ k=>rw[hx] at dU; simp at dU
  rw[this] at dU
  simp at dU
  subst dU
  have ig:n=heap.length:=by omega
  subst ig
  exact hm
end PI
namespace PI
open Go
structure FI (N:Nm) (w:World) (G:GS) (st:St) (a:Act) (vs:List Tmp) (lm:Nat→Option Tmp):Prop where
 len:st.vars.length=vs.length
 var:∀(i:Nat) (t:Tmp) (u:PV),vs[i]? = some t→st.vars[i]? = some u→SR N w G (.var i) (a.eval (.tmp t)) u
 loc:∀(j:Nat) (t:Tmp) (u:PV),lm j=some t→st.locs[j]? = some u→SR N w G (.loc j) (a.eval (.tmp t)) u
 tv:∀(i:Nat) (t:Tmp),vs[i]? = some t→t<a.tmps.size
 tl:∀(j:Nat) (t:Tmp),lm j=some t→t<a.tmps.size
 defers:a.defers=G.df
 gen:∀g b,G.box g=some b→g<st.gen
 owlt:∀b k,G.ow b=some k→b<w.heap.size
 fixlt:∀b o,G.fix b o→b<w.heap.size
 heap:HR N w G st.heap
 hdom:∀n b,G.heap n=some b→n<st.heap.length
structure Names (vs:List Tmp) (lm:Nat→Option Tmp):Prop where
 vnd:∀(i i':Nat) (t:Tmp),vs[i]? = some t→vs[i']? = some t→i=i'
 sep:∀(j:Nat) (t:Tmp) (i:Nat),lm j=some t→vs[i]?≠some t
 lnd:∀(j j':Nat) (t:Tmp),lm j=some t→lm j'=some t→j=j'
def yk (vs:List Tmp) (ops:List Oper) (j:Nat):Option Tmp:=
 match ops[j]? with
 | some o => match o.dst with
   | some t=>if (zQ t vs 0).isSome then none else some t
   | none=>none
 | none=>none
structure EnvOk (E:Env) (N:Nm):Prop where
 fn:∀f k,E.inv f=some k→N.fn k=f
 yl:∀f k,E.inv f=some k→N.yl k=none
 pt:∀T i,zQ T E.pt 0=some i→N.ty (i+1)=T
 bt:∀t,E.bT=some t→N.bT=t∧∃i,E.P.info? t=some i∧i.zero=some (.agg #[.pointer none,.slice none 0 0])
theorem IN {w:World} {b:Nat} {cv:Array Value} {T:TypeId} {fz:Nat×Nat} (hh:w.heap[b]? = some (.cells cv T fz)) (NR:Array Value) (hs:NR.size=cv.size):ShapeLe w (w.setRow b NR):=
 .one b (λk _ hk=>setRow_other w b k _ hk) (λs hx=>by
  simp only[World.shape?,hh] at hx
  simp only[World.shape?,setRow_heap w b cv NR T fz hh,hs]
  exact hx) (λs hx=>by rw[Ow hh] at hx; simp at hx)
theorem TX {N:Nm} {w:World} {fix:Nat→Nat→Prop} {hp:Nat→Option Nat} {v:Value} {p:PV} (h:Gt v=some p):
  VR N w fix hp v p∧p.flat=true:=by
 unfold Gt at h
 split at h<;>simp at h<;>subst h<;>refine⟨?_,rfl⟩<;>constructor
theorem OF {N:Nm} {w:World} {fix:Nat→Nat→Prop} {hp:Nat→Option Nat}:∀{vs:List Value} {ps:List PV},E6 vs=some ps →
  vs.length=ps.length∧(∀p∈ps,p.flat=true)∧∀(i:Nat) (v:Value) (p:PV),vs[i]? = some v→ps[i]? = some p→VR N w fix hp v p
 | [],ps,h=>by simp[E6] at h; subst h; simp
 | v :: vs, ps, h => by
   simp only[E6,aj,ab] at h
   obtain⟨p,gW,qs,hq,rfl⟩:=h
   obtain⟨h1,h2,h3⟩:=OF (N:=N) (w:=w) (fix:=fix) (hp:=hp) hq
   have hv:=TX (N:=N) (w:=w) (fix:=fix) (hp:=hp) gW
   refine⟨by simp[h1],by simpa using⟨hv.2,h2⟩,?_⟩
   intro i x y hx hy
   cases i with
   | zero=>simp at hx hy; subst hx hy; exact hv.1
   | succ i=>exact h3 i x y (by simpa using hx) (by simpa using hy)
theorem GO:∀{vs:List Value} {ps:List PV},E6 vs=some ps→∀(i:Nat) (v:Value) (es:List PV),vs[i]? = some v→ps[i]? = some (.list true es)→v = .slice none 0 0
 | [],ps,h,i,v,es,h1,_=>by simp at h1
 | x :: xs, ps, h, i, v, es, h1, h2 => by
   simp only[E6,aj,ab] at h
   obtain⟨p,gW,qs,hq,rfl⟩:=h
   cases i with
   | zero =>
     simp at h1 h2; subst h1 h2
     unfold Gt at gW
     split at gW<;>simp at gW
     rfl
   | succ i=>exact GO hq i v es (by simpa using h1) (by simpa using h2)
theorem TY {N:Nm} {w:World} {fix:Nat→Nat→Prop} {hp:Nat→Option Nat} {v:Value} {p:PV} (h:Gu v=some p):
  VR N w fix hp v p:=by
 unfold Gu at h
 split at h
 ·rename_i cs
  simp only[ab] at h
  obtain⟨ps,h1,rfl⟩:=h
  obtain⟨a,b,c⟩:=OF (N:=N) (w:=w) (fix:=fix) (hp:=hp) h1
  exact .agg cs ps (by simpa using a) b (λi x es hx hy=>GO h1 i x es (by simpa using hx) hy) (λi x y hx hy=>c i x y (by simpa using hx) hy)
 ·exact(TX h).1
theorem OG {v:Value} {p:PV} (h:Gu v=some p):(∃es,p = .list true es∧v = .slice none 0 0)∨cp p=some p:=by
 unfold Gu at h
 split at h
 ·simp only[ab] at h
  obtain⟨ps,_,rfl⟩:=h
  exact .inr rfl
 ·unfold Gt at h
  split at h<;>simp at h<;>subst h<;>first|exact .inr rfl|exact .inl ⟨_,rfl,rfl⟩
theorem Ey {t:Tmp}:∀{vs:List Tmp} {n i:Nat},zQ t vs n=some i→n≤i∧vs[i - n]? = some t
 | [],n,i,h=>by simp[zQ] at h
 | x :: xs, n, i, h => by
   simp only[zQ] at h
   split at h
   ·simp at h; subst h; subst_vars; simp
   ·obtain⟨h1,h2⟩:=Ey h
    refine⟨by omega,?_⟩
    rw[show i - n=(i - (n+1))+1 by omega]
    simpa using h2
theorem OH {t:Tmp}:∀{ops:List Oper} {n j:Nat},Gv t ops n=some j→n≤j∧∃o,ops[j - n]? = some o∧o.dst=some t
 | [],n,j,h=>by simp[Gv] at h
 | o :: os, n, j, h => by
   simp only[Gv] at h
   split at h
   ·simp at h; subst h; exact⟨am _,o,by simp,by assumption⟩
   ·obtain⟨h1,o',h2,h3⟩:=OH h
    refine⟨by omega,o',?_,h3⟩
    rw[show j - n=(j - (n+1))+1 by omega]
    simpa using h2
def Bn:PX→Key
 | .v i => .var i
 | .l j => .loc j
 | .c _ => .loc 0
section
variable {E:Env} {N:Nm} {w:World} {G:GS} {st:St} {a:Act} {vs:List Tmp} {ops:List Oper}
theorem SR.of_pure {key:Key} {v:Value} {u:PV} (h:VR N w G.fix G.heap v u) (hu:cp u=some u):SR N w G key v u:=by
 unfold SR
 split<;>first|trivial|(simp[cp] at hu; done)|exact h
theorem SR.read {key:Key} {v:Value} {u r:PV} (h:SR N w G key v u) (hr:cp u=some r):VR N w G.fix G.heap v r∧cp r=some r:=by
 unfold SR at h
 split at h
 ·simp[cp] at hr
 ·simp[cp] at hr
 ·simp[cp] at hr
 ·simp[cp] at hr
 ·simp[cp] at hr; subst hr; exact⟨h.1.dem,rfl⟩
 ·have:r=dem u∧cp r=some r:=by
   clear h
   cases u<;>simp[cp] at hr<;>subst hr<;>exact⟨rfl,rfl⟩
  rw[this.1]
  exact⟨h.dem,this.1▸this.2⟩
theorem Ed (hE:EnvOk E N) {x:Operand} {px:PX} {u:PV} (hc:cx E vs ops x=some px) (hf:FI N w G st a vs (yk vs ops)) (hr:raw st px=some u):
  SR N w G (Bn px) (a.eval x) u:=by
 cases x with
 | tmp t =>
   simp only[cx] at hc
   split at hc
   ·rename_i i hi
    simp at hc; subst hc
    obtain⟨_,h2⟩:=Ey hi
    exact hf.var i t u (by simpa using h2) hr
   ·rename_i hn
    simp only[ab] at hc
    obtain⟨j,hj,rfl⟩:=hc
    obtain⟨_,o,h2,h3⟩:=OH hj
    refine hf.loc j t u ?_ hr
    simp only[Nat.sub_zero] at h2
    simp[yk,h2,h3,hn]
 | const v =>
   simp only[cx] at hc
   split at hc
   ·rename_i fA
    simp only[aa] at hc
    subst hc
    simp only[raw,aa] at hr
    subst hr
    have jL:v = .slice none 0 0:=by
     simp only[ap] at fA
     have:=fA.2
     unfold SJ at this
     split at this
     ·rfl
     ·simp at this
    subst jL
    exact SR.of_pure .nils' rfl
   simp only[ab] at hc
   obtain⟨p,hp,rfl⟩:=hc
   simp only[raw,aa] at hr
   subst hr
   have hv:=TY (N:=N) (w:=w) (fix:=G.fix) (hp:=G.heap) hp
   rcases OG hp with⟨es,rfl,rfl⟩|h
   ·exact⟨hv,trivial⟩
   ·exact SR.of_pure hv h
 | global g=>simp[cx] at hc
 | func f =>
   simp only[cx,ab] at hc
   obtain⟨k,hk,rfl⟩:=hc
   simp only[raw,aa] at hr
   subst hr
   refine SR.of_pure ?_ rfl
   have jU:=hE.yl _ _ hk
   have:=hE.fn _ _ hk
   subst this
   exact .func k #[] #[] [] [] jU rfl rfl (by simp) (by simp)
theorem yT (hE:EnvOk E N) {x:Operand} {px:PX} {u:PV} (hc:cx E vs ops x=some px) (hf:FI N w G st a vs (yk vs ops)) (hr:rd st px=some u):
  VR N w G.fix G.heap (a.eval x) u∧cp u=some u:=by
 simp only[rd,aj] at hr
 obtain⟨r,h1,h2⟩:=hr
 exact(Ed hE hc hf h1).read h2
theorem EF (hE:EnvOk E N) {x:Operand} {px:PX} {n:Int} (hc:cx E vs ops x=some px) (hf:FI N w G st a vs (yk vs ops)) (hr:rdInt st px=some n):
  ∃k,a.eval x = .int k n:=by
 unfold rdInt at hr
 split at hr
 ·rename_i k m hm
  simp at hr; subst hr
  have:=(yT hE hc hf hm).1
  generalize a.eval x=y at this
  cases this
  exact⟨_,rfl⟩
 ·simp at hr
theorem Cr (hE:EnvOk E N) (hf:FI N w G st a vs (yk vs ops)):∀{xs:List Operand} {pxs:List PX} {us:List PV},cxs E vs ops xs=some pxs→rdAll st pxs=some us →
  xs.length=us.length∧∀(i:Nat) (x:Operand) (u:PV),xs[i]? = some x→us[i]? = some u→VR N w G.fix G.heap (a.eval x) u∧cp u=some u
 | [], pxs, us, hc, hr => by
   simp[cxs] at hc; subst hc
   simp[rdAll] at hr; subst hr; simp
 | x :: xs, pxs, us, hc, hr => by
   simp only[cxs,aj,ab] at hc
   obtain⟨p,hp,ps,ey,rfl⟩:=hc
   simp only[rdAll,aj,ab] at hr
   obtain⟨u,hu,us',eV,rfl⟩:=hr
   obtain⟨h1,h2⟩:=Cr hE hf ey eV
   refine⟨by simp[h1],?_⟩
   intro i y v hy hv
   cases i with
   | zero=>simp at hy hv; subst hy hv; exact yT hE hp hf hu
   | succ i=>exact h2 i y v (by simpa using hy) (by simpa using hv)
theorem Ee (hE:EnvOk E N) {x:Operand} {px:PX} {u:PV} (hc:cx E vs ops x=some px) (hf:FI N w G st a vs (yk vs ops)) (hr:addr st px=some u):
  (∃s g off b,u = .lptr s g off∧a.eval x = .pointer (some ⟨b,off,none⟩)∧G.box g=some b)∨(VR N w G.fix G.heap (a.eval x) u∧cp u=some u):=by
 unfold addr at hr
 split at hr
 ·rename_i i g cs gN
  simp at hr; subst hr
  have:=Ed hE hc hf gN
  simp only[SR,Bn] at this
  obtain⟨b,i',hk,hv,hb,_⟩:=this
  exact .inl ⟨i,g,0,b,rfl,hv,hb⟩
 ·rename_i s g off gN
  simp at hr; subst hr
  have:=Ed hE hc hf gN
  simp only[SR] at this
  obtain⟨b,hv,hb⟩:=this
  exact .inl ⟨s,g,off,b,rfl,hv,hb⟩
 ·rename_i v _ _ gN
  exact .inr ((Ed hE hc hf gN).read hr)
 ·simp at hr
end
def An (d:PD) (j:Nat):Key:=
 match d with
 | .v i => .var i
 | _ => .loc j
def Kx (vs:List Tmp) (lm:Nat→Option Tmp) (j:Nat) (d:PD) (dst:Option Tmp):Prop:=
 match d with
 | .v i=>∃t,dst=some t∧vs[i]? = some t
 | .l=>∃t,dst=some t∧lm j=some t
 | .n=>dst=none
theorem Fe (a:Act) (d t:Tmp) (v:Value) (hd:d<a.tmps.size):(a.put (some d) v).eval (.tmp t)=if t=d then v else a.eval (.tmp t):=by
 simp only[Act.put,Act.eval,aV,bi]
 by_cases h:t=d
 ·subst h; simp[hd]
 ·simp[h,Ne.symm h]
theorem FI.put {N:Nm} {w:World} {G:GS} {st:St} {a:Act} {vs:List Tmp} {lm:Nat→Option Tmp} {j:Nat} {d:PD} {dst:Option Tmp} {v:Value} {u:PV}
  (h:FI N w G st a vs lm) (nm:Names vs lm) (hd:Kx vs lm j d dst) (hs:SR N w G (An d j) v u):FI N w G (put st j d u) (a.put dst v) vs lm:=by
 cases d with
 | n =>
   simp only[Kx] at hd; subst hd
   exact h
 | v i =>
   obtain⟨t,rfl,ht⟩:=hd
   have dj:=h.tv i t ht
   refine⟨by simp[PI.put,h.len],?_,?_,?_,?_,h.defers,h.gen,h.owlt,h.fixlt,h.heap,h.hdom⟩
   ·intro i' t' u' h1 h2
    rw[Fe _ _ _ _ dj]
    simp only[PI.put,aO] at h2
    by_cases hi:i=i'
    ·subst hi
     have:t'=t:=by rw[ht] at h1; simpa using h1.symm
     subst this
     split at h2
     ·split at h2
      ·simp at h2; subst h2; simp only[if_true]; exact hs
      ·simp at h2
     ·exact absurd rfl ‹_›
    ·rw[ae hi] at h2
     have dh:t'≠t:=λe=>hi (nm.vnd i i' t ht (e▸h1))
     rw[ae dh]
     exact h.var i' t' u' h1 h2
   ·intro j' t' u' h1 h2
    rw[Fe _ _ _ _ dj,ae (λe:t'=t=>nm.sep j' t' i h1 (e▸ht))]
    exact h.loc j' t' u' h1 h2
   ·intro i' t' h1; simpa[Act.put] using h.tv i' t' h1
   ·intro j' t' h1; simpa[Act.put] using h.tl j' t' h1
 | l =>
   obtain⟨t,rfl,ht⟩:=hd
   have dj:=h.tl j t ht
   refine⟨h.len,?_,?_,?_,?_,h.defers,h.gen,h.owlt,h.fixlt,h.heap,h.hdom⟩
   ·intro i' t' u' h1 h2
    rw[Fe _ _ _ _ dj,ae (λe:t'=t=>nm.sep j t i' ht (e▸h1))]
    exact h.var i' t' u' h1 h2
   ·intro j' t' u' h1 h2
    rw[Fe _ _ _ _ dj]
    simp only[PI.put,aO] at h2
    by_cases hj:j=j'
    ·subst hj
     have:t'=t:=by rw[ht] at h1; simpa using h1.symm
     subst this
     split at h2
     ·split at h2
      ·simp at h2; subst h2; simp only[if_true]; exact hs
      ·simp at h2
     ·exact absurd rfl ‹_›
    ·rw[ae hj] at h2
     have dh:t'≠t:=λe=>hj (nm.lnd j j' t ht (e▸h1))
     rw[ae dh]
     exact h.loc j' t' u' h1 h2
   ·intro i' t' h1; simpa[Act.put] using h.tv i' t' h1
   ·intro j' t' h1; simpa[Act.put] using h.tl j' t' h1
theorem FI.ext {N:Nm} {w w':World} {G G':GS} {st:St} {a:Act} {vs:List Tmp} {lm:Nat→Option Tmp} (h:FI N w G st a vs lm) (e:Ext w G w' G')
  (hk:zu (λ_=>False) w G w' G') (hg:∀g b,G'.box g=some b→g<st.gen) (ho:∀b k,G'.ow b=some k→b<w'.heap.size) (hx:∀b o,G'.fix b o→b<w'.heap.size) (hh:G'.heap=G.heap:=by rfl):
  FI N w' G' st a vs lm:=
 ⟨h.len,λi t u h1 h2=>(h.var i t u h1 h2).keep e hk (λh=>h) (λ_ _ _ h=>h),λj t u h1 h2=>(h.loc j t u h1 h2).keep e hk (λh=>h) (λ_ _ _ h=>h),h.tv,h.tl,(h.defers.trans e.df.symm),hg,ho,hx,h.heap.keep e hk (λ_ _ h=>h),by rw[hh]; exact h.hdom⟩
theorem BH {vs:List Tmp} {ops:List Oper} {j:Nat} {o:Oper} (ho:ops[j]? = some o):Kx vs (yk vs ops) j (yR vs o.dst) o.dst:=by
 unfold yR
 split
 ·rename_i h; exact h
 ·rename_i t h
  cases hi:zQ t vs 0 with
  | some i =>
    obtain⟨_,h2⟩:=Ey hi
    exact⟨t,h,by simpa using h2⟩
  | none=>exact⟨t,h,by simp[yk,ho,h,hi]⟩
theorem BJ (a:Act) (d:Option Tmp) (v:Value):(a.put d v).tmps.size=a.tmps.size:=by
 cases d<;>simp[Act.put]
theorem yV {P:Program} {N:Nm} {w:World} {G:GS} {st:St} {a:Act} {vs:List Tmp} {ops:List Oper} {j:Nat} {o:Oper} {v:Value} {u:PV} {next:Act→World→Prop}
  {Q:Exit→Act→World→Prop} (nm:Names vs (yk vs ops)) (ho:ops[j]? = some o) (hf:FI N w G st a vs (yk vs ops)) (da:(execOp a.eval o).run P w = .ok (.value v) w)
  (hs:SR N w G (An (yR vs o.dst) j) v u) (hk:∀a' w' G',FI N w' G' (put st j (yR vs o.dst) u) a' vs (yk vs ops)→Ext w G w' G'→a'.tmps.size=a.tmps.size→next a' w'):o.wp P a w next Q:=by
 unfold Oper.wp
 rw[da]
 exact hk _ _ _ (hf.put nm (BH ho) hs) (Ext.refl _ _) (BJ _ _ _)
theorem OJ (s:ByteArray):s.toList=s.data.toList:=ByteArray.toList_eq s
section
variable {E:Env} {N:Nm} {w:World} {G:GS} {st:St} {a:Act} {vs:List Tmp} {ops:List Oper} {P:Program}
theorem ED {t:TypeId} {n:Nat} (h:yX P t=some n):zl P t=false→n=1:=by
 intro ha
 unfold yX at h
 split at h
 ·split at h
  ·simp at h
  ·rename_i hn
   simp only[not_or,not_and,Decidable.not_not] at hn
   simp at h; subst h
   exact hn.2.2 ha
 ·simp at h
theorem Be {t:TypeId} {n:Nat} (h:yX P t=some n):∃i d,P.info? t=some i∧i.size=n∧n≠0∧P.underlying t=some d:=by
 unfold yX at h
 split at h
 ·rename_i i hi
  split at h
  ·simp at h
  ·rename_i hn
   simp at h; subst h
   simp only[not_or] at hn
   obtain⟨pN,rJ,_⟩:=hn
   cases hu:P.underlying t with
   | none=>simp[hu] at rJ
   | some d=>exact⟨i,d,hi,rfl,pN,rfl⟩
 ·simp at h
theorem Ct {t:TypeId} {n:Nat} (h:yX P t=some n) (w:World):(Go.sizeOf t).run P w = .ok n w:=by
 obtain⟨i,d,hi,rfl,_,_⟩:=Be h
 simp[Go.sizeOf,typeInfo,hi]
theorem GP {t:TypeId} {n:Nat} (h:yX P t=some n) (w:World):(isAgg t).run P w = .ok (zl P t) w:=by
 obtain⟨i,d,_,_,_,hd⟩:=Be h
 simp only[isAgg,Sem.run_bind,run_underlying hd,Result.andThen_ok,zl,hd]
 cases d<;>rfl
theorem B9 (b off n:Nat):(⟨b,off,none⟩:Addr).add n=⟨b,off+n,none⟩:=Addr.add_lit b off n
theorem Gz {t:TypeId} {n:Nat} (h:yX P t=some n) (b off:Nat) (cs:List Value) (hl:n≤cs.length)
  (hc:∀j v,cs[j]? = some v→w.cell? ⟨b,off+j,none⟩=some v):
  (loadVar t ⟨b,off,none⟩).run P w = .ok (if zl P t then .agg (cs.take n).toArray else cs.headD undef) w:=by
 obtain⟨i,d,hi,hn,eY,hd⟩:=Be h
 have xP:(cs.take n).length=n:=by simp[hl]
 have nq:=run_loadCells_list (P:=P) w ⟨b,off,none⟩ (cs.take n) (λj v hv=>by
  rw[B9]
  refine hc j v ?_
  rw[aY] at hv
  split at hv
  ·exact hv
  ·cases hv)
 rw[xP] at nq
 unfold loadVar
 simp only[Sem.run_bind,GP h,Result.andThen_ok,Sem.run_ite]
 by_cases ha:zl P t=true
 ·simp[ha,Ct h,nq]
 ·simp only[Bool.not_eq_true] at ha
  cases cs with
  | nil=>simp at hl; omega
  | cons c cs =>
    have:=hc 0 c rfl
    simp only[bx] at this
    simp[ha,this]
def CellsR (N:Nm) (w:World) (fix:Nat→Nat→Prop) (hp:Nat→Option Nat) (cs:List Value) (ps:List PV):Prop:=
 cs.length=ps.length∧(∀x∈ps,x.flat=true)∧∀(i:Nat) (c:Value) (x:PV),cs[i]? = some c→ps[i]? = some x→VR N w fix hp c x
theorem CellsR.dem {fix:Nat→Nat→Prop} {hp:Nat→Option Nat} {cs:List Value} {ps:List PV} (h:CellsR N w fix hp cs ps):CellsR N w fix hp cs (ps.map dem):=by
 refine⟨by simpa using h.1,?_,?_⟩
 ·intro x hx
  obtain⟨y,hy,rfl⟩:=bh.1 hx
  rw[GK]; exact h.2.1 y hy
 ·intro i c x hc hx
  simp only[aF,ab] at hx
  obtain⟨y,hy,rfl⟩:=hx
  exact(h.2.2 i c y hc hy).dem
theorem CellsR.take {fix:Nat→Nat→Prop} {hp:Nat→Option Nat} {cs:List Value} {ps:List PV} (h:CellsR N w fix hp cs ps) (n:Nat):CellsR N w fix hp (cs.take n) (ps.take n):=by
 refine⟨by simp[h.1],λx hx=>h.2.1 x (List.mem_of_mem_take hx),?_⟩
 intro i c x hc hx
 rw[aY] at hc hx
 split at hc
 ·rename_i hi; rw[af hi] at hx; exact h.2.2 i c x hc hx
 ·cases hc
theorem CellsR.drop {fix:Nat→Nat→Prop} {hp:Nat→Option Nat} {cs:List Value} {ps:List PV} (h:CellsR N w fix hp cs ps) (n:Nat):CellsR N w fix hp (cs.drop n) (ps.drop n):=by
 refine⟨by simp[h.1],λx hx=>h.2.1 x (cM hx),?_⟩
 intro i c x hc hx
 rw[bc] at hc hx
 exact h.2.2 _ c x hc hx
theorem CellsR.append {fix:Nat→Nat→Prop} {hp:Nat→Option Nat} {cs ds:List Value} {ps qs:List PV} (h:CellsR N w fix hp cs ps) (k:CellsR N w fix hp ds qs):
  CellsR N w fix hp (cs++ds) (ps++qs):=by
 refine⟨by simp[h.1,k.1],?_,?_⟩
 ·intro x hx
  rcases aw.1 hx with hx|hx
  ·exact h.2.1 x hx
  ·exact k.2.1 x hx
 ·intro i c x hc hx
  by_cases hi:i<cs.length
  ·rw[al hi] at hc
   rw[al (h.1▸hi)] at hx
   exact h.2.2 i c x hc hx
  ·rw[aq (by omega)] at hc
   rw[aq (by have:=h.1; omega),← h.1] at hx
   exact k.2.2 _ c x hc hx
def OwnNil (cs:List Value) (ps:List PV):Prop:=∀(i:Nat) (c:Value) (es:List PV),cs[i]? = some c→ps[i]? = some (.list true es)→c = .slice none 0 0
theorem OwnNil.dem (cs:List Value) (ps:List PV):OwnNil cs (ps.map PI.dem):=by
 intro i c es _ h
 simp only[aF,ab] at h
 obtain⟨q,_,hq⟩:=h
 cases q<;>simp[PI.dem] at hq
theorem OwnNil.take {cs:List Value} {ps:List PV} (h:OwnNil cs ps) (n:Nat):OwnNil (cs.take n) (ps.take n):=by
 intro i c es hc hx
 rw[aY] at hc hx
 split at hc
 ·rename_i hi; rw[af hi] at hx; exact h i c es hc hx
 ·cases hc
theorem OwnNil.drop {cs:List Value} {ps:List PV} (h:OwnNil cs ps) (n:Nat):OwnNil (cs.drop n) (ps.drop n):=by
 intro i c es hc hx
 rw[bc] at hc hx
 exact h _ c es hc hx
theorem OwnNil.append {cs ds:List Value} {ps qs:List PV} (hl:cs.length=ps.length) (h:OwnNil cs ps) (k:OwnNil ds qs):OwnNil (cs++ds) (ps++qs):=by
 intro i c es hc hx
 by_cases hi:i<cs.length
 ·rw[al hi] at hc
  rw[al (hl▸hi)] at hx
  exact h i c es hc hx
 ·rw[aq (by omega)] at hc
  rw[aq (by omega),← hl] at hx
  exact k _ c es hc hx
theorem CellsR.agg {fix:Nat→Nat→Prop} {hp:Nat→Option Nat} {cs:List Value} {ps:List PV} (h:CellsR N w fix hp cs ps) (ho:OwnNil cs ps):VR N w fix hp (.agg cs.toArray) (.agg ps):=
 .agg cs.toArray ps (by simpa using h.1) h.2.1 (λi c es hc hp=>ho i c es (by simpa using hc) hp) (λi c p hc hp=>h.2.2 i c p (by simpa using hc) hp)
theorem CellsR.of_agg {fix:Nat→Nat→Prop} {hp:Nat→Option Nat} {v:Value} {ps:List PV} (h:VR N w fix hp v (.agg ps)):∃cs:Array Value,v = .agg cs∧CellsR N w fix hp cs.toList ps:=by
 cases h with
 | agg cs _ cY dg _ di=>exact⟨cs,rfl,by simpa using cY,dg,λi c p hc hp=>di i c p (by simpa using hc) hp⟩
theorem OwnNil.of_agg {fix:Nat→Nat→Prop} {hp:Nat→Option Nat} {cs:Array Value} {ps:List PV} (h:VR N w fix hp (.agg cs) (.agg ps)):OwnNil cs.toList ps:=by
 cases h with
 | agg _ _ cY dg eM di=>exact λi c es hc hp=>eM i c es (by simpa using hc) hp
theorem CellsR.of_cells {fix:Nat→Nat→Prop} {hp:Nat→Option Nat} {v:Value} {p:PV} (h:VR N w fix hp v p) (h0:p.cells≠[]):CellsR N w fix hp v.cells.toList p.cells:=by
 obtain⟨h1,h2,h3⟩:=h.cells h0
 exact⟨by simpa using h1,h2,λi c x hc hx=>h3 i c x (by simpa using hc) hx⟩
theorem Gy {fix:Nat→Nat→Prop} {hp:Nat→Option Nat} {size:Nat} {agg:Bool} {ps:List PV} {off:Nat} {u:PV} {cs:List Value} (h:CellsR N w fix hp cs ps)
  (hl:yu size agg ps off=some u) (hs:size≠0) (h1:agg=false→size=1):
  off+size≤cs.length∧VR N w fix hp (if agg then .agg ((cs.drop off).take size).toArray else(cs.drop off).headD undef) u∧cp u=some u:=by
 unfold yu at hl
 cases agg with
 | true =>
   simp only[if_true] at hl
   split at hl
   ·rename_i eF
    simp only[aa] at hl; subst hl
    refine⟨by rw[h.1]; exact eF,?_,rfl⟩
    rw[af rfl]
    exact(((h.drop off).take size).dem).agg (OwnNil.dem _ _)
   ·simp at hl
 | false =>
   have fo:=h1 rfl
   subst fo
   simp only[aJ,if_false] at hl
   split at hl
   ·rename_i v hv
    have dc:off<ps.length:=(ah.1 hv).1
    have eK:off<cs.length:=by rw[h.1]; exact dc
    refine⟨by omega,?_⟩
    have di:=h.2.2 off cs[off] v (an eK) hv
    have hd:(cs.drop off).headD undef=cs[off]:=by rw[bg eK]; rfl
    simp only[aJ,if_false,hd]
    unfold cp at hl
    split at hl<;>simp at hl<;>subst hl
    ·exact⟨di.dem,rfl⟩
    ·refine⟨di,?_⟩
     clear hv hd
     generalize cs[off]=c at di
     cases di<;>first|rfl|simp_all
   ·simp at hl
theorem SR.lptr {key:Key} {s g off b:Nat} {v:Value} (hv:v = .pointer (some ⟨b,off,none⟩)) (hb:G.box g=some b):SR N w G key v (.lptr s g off):=⟨b,hv,hb⟩
variable {o:Oper} {j:Nat} {next:Act→World→Prop} {Q:Exit→Act→World→Prop} {u:PV} {st1:St}
abbrev yK (N:Nm) (w:World) (G:GS) (a:Act) (st1:St) (u:PV) (vs:List Tmp) (ops:List Oper) (j:Nat) (o:Oper) (next:Act→World→Prop):Prop:=
 ∀a' w' G',FI N w' G' (put st1 j (yR vs o.dst) u) a' vs (yk vs ops)→Ext w G w' G'→a'.tmps.size=a.tmps.size→next a' w'
theorem c3a (hE:EnvOk E N) (nm:Names vs (yk vs ops)) (ho:ops[j]? = some o) (hf:FI N w G st a vs (yk vs ops)) {x:Operand} {p:PX} (hx:(execOp a.eval o).run P w = .ok (.value (a.eval x)) w)
  (hc:cx E vs ops x=some p) (hs:(rd st p).map (·,st)=some (u,st1)) (hk:yK N w G a st1 u vs ops j o next):o.wp P a w next Q:=by
 simp only[ab,ac] at hs
 obtain⟨r,hr,rfl,rfl⟩:=hs
 obtain⟨h1,h2⟩:=yT hE hc hf hr
 exact yV nm ho hf hx (SR.of_pure h1 h2) hk
theorem c1g (hE:EnvOk E N) (nm:Names vs (yk vs ops)) (ho:ops[j]? = some o) (hf:FI N w G st a vs (yk vs ops)) {c x y:Operand} {pc px py:PX} (cZ:o.op = .pick c x y)
  (hc:cx E vs ops c=some pc) (hx:cx E vs ops x=some px) (hy:cx E vs ops y=some py) {cf:yt} (hs:opv cf (.pick pc px py) st=some (u,st1)) (hk:yK N w G a st1 u vs ops j o next):o.wp P a w next Q:=by
 simp only[opv] at hs
 split at hs
 ·rename_i t ht
  simp only[ab,ac] at hs
  obtain⟨r,hr,rfl,rfl⟩:=hs
  have hb:=(yT hE hc hf ht).1
  have nI:a.eval c = .bool t:=by generalize a.eval c=z at hb; cases hb; rfl
  cases t with
  | true =>
    obtain⟨h1,h2⟩:=yT hE hx hf hr
    exact yV nm ho hf (by simp[execOp,cZ,nI,asBool]) (SR.of_pure h1 h2) hk
  | false =>
    obtain⟨h1,h2⟩:=yT hE hy hf hr
    exact yV nm ho hf (by simp[execOp,cZ,nI,asBool]) (SR.of_pure h1 h2) hk
 ·simp at hs
theorem b9a (hE:EnvOk E N) (nm:Names vs (yk vs ops)) (ho:ops[j]? = some o) (hf:FI N w G st a vs (yk vs ops)) {s:TypeId} {x:Operand} {f:Nat} {px:PX} {fs:Array Field} {fd:Field} {n:Nat} (cZ:o.op = .fieldAddr s x f)
  (hu:P.underlying s=some (.struct fs)) (lz:fs[f]? = some fd) (hn:yX P fd.type=some n) (hx:cx E vs ops x=some px) {cf:yt} (hs:opv cf (.faddr fd.offset px) st=some (u,st1)) (hk:yK N w G a st1 u vs ops j o next):o.wp P a w next Q:=by
 have eY:n≠0:=by obtain⟨_,_,_,_,h,_⟩:=Be hn; exact h
 have run:∀b off,a.eval x = .pointer (some ⟨b,off,none⟩)→(execOp a.eval o).run P w = .ok (.value (.pointer (some ⟨b,off+fd.offset,none⟩))) w:=by
  intro b off h
  simp[execOp,cZ,h,Instr.fieldAt,run_underlying hu,lz,Instr.sureAddr,fieldPlace,Ct hn,eY,B9]
 simp only[opv] at hs
 split at hs
 ·rename_i cs ha
  simp only[aa,ac] at hs
  obtain⟨rfl,rfl⟩:=hs
  rcases Ee hE hx hf ha with⟨_,_,_,_,h,_⟩|⟨h,_⟩
  ·simp at h
  ·generalize hv:a.eval x=v at h
   cases h with
   | cptr b off _ cv dg hcell di =>
     refine yV nm ho hf (run b off hv) (SR.of_pure ?_ rfl) hk
     refine .cptr b (off+fd.offset) _ (λk=>cv (fd.offset+k)) (λy hy=>dg y (cM hy)) ?_ ?_
     ·intro k hk
      have:=hcell (fd.offset+k) (by simp at hk; omega)
      simpa[cF] using this
     ·intro k y hy
      rw[bc] at hy
      exact di _ _ hy
 ·rename_i s' g off ha
  simp only[aa,ac] at hs
  obtain⟨rfl,rfl⟩:=hs
  rcases Ee hE hx hf ha with⟨_,_,_,b,h,hv,hb⟩|⟨_,h⟩
  ·simp at h
   obtain⟨rfl,rfl,rfl⟩:=h
   exact yV nm ho hf (run b _ hv) (SR.lptr rfl hb) hk
  ·simp[cp] at h
 ·rename_i n' off ha
  simp only[aa,ac] at hs
  obtain⟨rfl,rfl⟩:=hs
  rcases Ee hE hx hf ha with⟨_,_,_,_,h,_⟩|⟨h,_⟩
  ·simp at h
  ·generalize hv:a.eval x=v at h
   cases h with
   | ptr _ _ b hb=>exact yV nm ho hf (run b off hv) (SR.of_pure (.ptr _ _ b hb) rfl) hk
 ·simp at hs
theorem b7F (hE:EnvOk E N) (nm:Names vs (yk vs ops)) (ho:ops[j]? = some o) (hf:FI N w G st a vs (yk vs ops)) {t e:TypeId} {x i:Operand} {px pi:PX} {n:Nat} (cZ:o.op = .indexAddr t x i)
  (hu:P.underlying t=some (.slice e)) (hn:yX P e=some n) (hx:cx E vs ops x=some px) (hi:cx E vs ops i=some pi) {cf:yt} (hs:opv cf (.iaddrS n px pi) st=some (u,st1)) (hk:yK N w G a st1 u vs ops j o next):o.wp P a w next Q:=by
 simp only[opv] at hs
 split at hs
 ·rename_i own es m gf hm
  split at hs
  ·rename_i jl
   split at hs
   ·rename_i y hy
    split at hs
    ·rename_i qR
     simp only[aa,ac] at hs
     obtain⟨rfl,rfl⟩:=hs
     have h:=(yT hE hx hf gf).1
     obtain⟨k,jY⟩:=EF hE hi hf hm
     have dc:m.toNat<es.length:=(ah.1 hy).1
     generalize hv:a.eval x=v at h
     cases h with
     | nils=>simp at dc
     | void=>simp at dc
     | list _ b off len cap sz _ cv cY dl dj dg hcell di =>
       have dX:y∈es:=ax hy
       have oR:sz=n:=by rw[← dj y dX]; exact qR
       subst oR
       have da:(execOp a.eval o).run P w = .ok (.value (.pointer (some ⟨b,off+m.toNat*sz,none⟩))) w:=by
        have h1:m<len:=by omega
        simp[execOp,cZ,hv,jY,Instr.indexAt,asIntOf,run_underlying hu,jl,h1,Ct hn,B9]
       refine yV nm ho hf da (SR.of_pure ?_ rfl) hk
       refine .cptr b _ _ (λk=>cv (m.toNat*sz+k)) (dg y dX) ?_ ?_
       ·intro k hk
        rw[qR] at hk
        have hb:m.toNat*sz+k<len*sz:=by
         have:(m.toNat+1)*sz≤len*sz:=bw _ (by omega)
         rw[aS] at this; omega
        have:=hcell _ hb
        simpa[cF] using this
       ·intro k z hz
        exact di _ _ hy _ _ hz
    ·simp at hs
   ·simp at hs
  ·simp at hs
 ·rename_i r sz agg len m gf hm
  split at hs
  ·rename_i hc
   obtain⟨rfl,jl,dc⟩:=hc
   simp only[aa,ac] at hs
   obtain⟨rfl,rfl⟩:=hs
   have h:=(yT hE hx hf gf).1
   obtain⟨k,jY⟩:=EF hE hi hf hm
   generalize hv:a.eval x=v at h
   cases h with
   | rowp _ _ _ _ b cap hb dl ep =>
     have da:(execOp a.eval o).run P w = .ok (.value (.pointer (some ⟨b,0+m.toNat*sz,none⟩))) w:=by
      simp[execOp,cZ,hv,jY,Instr.indexAt,asIntOf,run_underlying hu,jl,dc,Ct hn,B9]
     rw[aU] at da
     exact yV nm ho hf da (SR.of_pure (.ptr _ _ b hb) rfl) hk
  ·simp at hs
 ·rename_i r sz agg off len m gf hm
  split at hs
  ·rename_i hc
   obtain⟨rfl,jl,dc⟩:=hc
   simp only[aa,ac] at hs
   obtain⟨rfl,rfl⟩:=hs
   have h:=(yT hE hx hf gf).1
   obtain⟨k,jY⟩:=EF hE hi hf hm
   generalize hv:a.eval x=v at h
   cases h with
   | rows _ _ _ _ _ b o' cap m' T hb dl sb ep kT =>
     have eQ:o'=off*sz:=sb.resolve_left (by omega)
     have da:(execOp a.eval o).run P w = .ok (.value (.pointer (some ⟨b,o'+m.toNat*sz,none⟩))) w:=by
      simp[execOp,cZ,hv,jY,Instr.indexAt,asIntOf,run_underlying hu,jl,dc,Ct hn,B9]
     rw[eQ,← aS] at da
     exact yV nm ho hf da (SR.of_pure (.ptr _ _ b hb) rfl) hk
  ·simp at hs
 ·simp at hs
theorem OL {t:TypeId} {n:Nat} (hn:yX P t=some n) {v:Value} {cs:List PV} {u:PV} (h:VR N w G.fix G.heap v (.cptr cs))
  (hl:yu n (zl P t) cs 0=some u):∃r,(Instr.loadAt t v).run P w = .ok r w∧VR N w G.fix G.heap r u∧cp u=some u:=by
 cases h with
 | cptr b off _ cv dg hcell di =>
   have eY:n≠0:=by obtain⟨_,_,_,_,h,_⟩:=Be hn; exact h
   let ds:List Value:=(List.range cs.length).map cv
   have hR:CellsR N w G.fix G.heap ds cs:=by
    refine⟨by simp[ds],dg,?_⟩
    intro i c x hc hx
    have hi:i<cs.length:=(ah.1 hx).1
    simp[ds,hi] at hc
    subst hc
    exact di i x hx
   obtain⟨h1,h2,h3⟩:=Gy hR hl eY (ED hn)
   refine⟨_,?_,h2,h3⟩
   have:=Gz (w:=w) hn b off ds (by simpa using h1) (λj v hv=>by
    have hj:j<cs.length:=by have:=(ah.1 hv).1; simpa[ds] using this
    simp[ds,hj] at hv
    subst hv
    exact(hcell j hj).1)
   simpa[Instr.loadAt,Instr.sureAddr] using this
theorem b4x (hE:EnvOk E N) (nm:Names vs (yk vs ops)) (ho:ops[j]? = some o) (hf:FI N w G st a vs (yk vs ops)) {t:TypeId} {x i:Operand} {px pi:PX} (cZ:o.op = .index t x i)
  (hu:P.underlying t=some .string) (hx:cx E vs ops x=some px) (hi:cx E vs ops i=some pi) {cf:yt} (hs:opv cf (.indexStr px pi) st=some (u,st1)) (hk:yK N w G a st1 u vs ops j o next):o.wp P a w next Q:=by
 simp only[opv] at hs
 split at hs
 ·rename_i s m gf hm
  split at hs
  ·rename_i jl
   split at hs
   ·rename_i y hy
    simp only[aa,ac] at hs
    obtain⟨rfl,rfl⟩:=hs
    have h:=(yT hE hx hf gf).1
    obtain⟨k,jY⟩:=EF hE hi hf hm
    generalize hv:a.eval x=v at h
    cases h with
    | str s =>
      have gu:s[m.toNat]? = some y:=by
       have dc:m.toNat<s.data.toList.length:=(ah.1 hy).1
       have eK:m.toNat<s.size:=by rw[bu] at dc; exact dc
       rw[getElem?_pos s m.toNat eK]
       rw[an dc] at hy
       simp only[aa] at hy ⊢
       rw[← hy]; rfl
      refine yV nm ho hf ?_ (SR.of_pure (.int _ _) rfl) hk
      simp only[execOp,cZ,hv,jY,Instr.index,asIntOf,Sem.run_bind,Sem.run_pure,run_underlying hu,Result.andThen_ok,jl,if_true,gu]
   ·simp at hs
  ·simp at hs
 ·simp at hs
end
end PI
set_option linter.unusedSimpArgs false
set_option linter.unusedVariables false
namespace PI
open Go
section
variable {E:Env} {N:Nm} {w:World} {G:GS} {st:St} {a:Act} {vs:List Tmp} {ops:List Oper} {P:Program}
variable {o:Oper} {j:Nat} {next:Act→World→Prop} {Q:Exit→Act→World→Prop} {u:PV} {st1:St}
theorem b7G {op:BinOp} {t:TypeId} {k:IntKind} {x y:Int} (h:GX op k x y=some u):∃v,(binOp op t (.int k x) (.int k y)).run P w = .ok v w∧VR N w G.fix G.heap v u∧cp u=some u:=by
 cases op<;>simp only[GX] at h
 case quo=>
  split at h
  ·simp at h
  ·rename_i h0
   simp at h; subst h
   exact⟨_,by simp[binOp,Op.intDiv,h0],.int _ _,rfl⟩
 case rem=>
  split at h
  ·simp at h
  ·rename_i h0
   simp at h; subst h
   exact⟨_,by simp[binOp,Op.intDiv,h0],.int _ _,rfl⟩
 all_goals first
  | (simp at h; done)
  | (simp only [aa] at h; subst h
     first
      | exact⟨_,by simp only[binOp,Op.intArith,ne_eq,bB,if_false]; rfl,.int _ _,rfl⟩
      | exact⟨_,by simp only[binOp,Op.intBits,ne_eq,bB,if_false]; rfl,.int _ _,rfl⟩
      | exact⟨_,by simp only[binOp,Op.intCmp,ne_eq,bB,if_false]; rfl,.bool _,rfl⟩)
theorem b7H {op:BinOp} {t:TypeId} {x y:ByteArray} (h:GY op x.data.toList y.data.toList=some u):
  ∃v,(binOp op t (.string x) (.string y)).run P w = .ok v w∧VR N w G.fix G.heap v u∧cp u=some u:=by
 cases op<;>simp only[GY] at h
 case add=>
  split at h
  ·rename_i hl
   simp only[aa] at h; subst h
   have h1:¬((x.size+y.size:Nat):Int)>IntKind.i64.max:=by
    have hx:x.data.toList.length=x.size:=bu
    have hy:y.data.toList.length=y.size:=bu
    rw[IntKind.max_i64]; omega
   refine⟨.string (x++y),by simp only[binOp,Op.stringOp,ae h1]; rfl,?_,rfl⟩
   have:(x++y).data.toList=x.data.toList++y.data.toList:=by simp
   rw[← this]
   exact .str _
  ·simp at h
 all_goals first
  | (simp at h; done)
  | (simp only [aa] at h; subst h
     exact⟨_,by simp only[binOp,Op.stringOp,OJ]; rfl,.bool _,rfl⟩)
theorem T0 {op:BinOp} {t:TypeId} {k k':IntKind} {x y:Int} (cZ:op = .shl∨op = .shr) (h:Dl op (.int k x) (.int k' y)=some u):
  ∃v,(binOp op t (.int k x) (.int k' y)).run P w = .ok v w∧VR N w G.fix G.heap v u∧cp u=some u:=by
 rcases cZ with rfl|rfl<;>simp only[Dl] at h
 ·split at h
  ·simp at h
  ·rename_i h0
   simp only[aa] at h; subst h
   exact⟨_,by simp only[binOp,Op.shift,ae h0]; rfl,.int _ _,rfl⟩
 ·split at h
  ·simp at h
  ·rename_i h0
   simp only[aa] at h; subst h
   exact⟨_,by simp only[binOp,Op.shift,ae h0]; rfl,.int _ _,rfl⟩
theorem c1h {op:BinOp} {t:TypeId} {vx vy:Value} {x y:PV} (hx:VR N w G.fix G.heap vx x) (hy:VR N w G.fix G.heap vy y) (h:Dl op x y=some u) (ox oy:Operand):
  ∃v,(do eqGuard op t ox oy vx vy; binOp op t vx vy:Sem Value).run P w = .ok v w∧VR N w G.fix G.heap v u∧cp u=some u:=by
 have key:(∃v,(binOp op t vx vy).run P w = .ok v w∧VR N w G.fix G.heap v u∧cp u=some u)∧(eqGuard op t ox oy vx vy).run P w = .ok () w:=by
  unfold Dl at h
  split at h
  ·rename_i k m k' m'
   cases hx; cases hy
   refine⟨?_,by cases op<;>simp[eqGuard]⟩
   split at h
   ·exact T0 (.inl rfl) (by simpa[Dl] using h)
   ·exact T0 (.inr rfl) (by simpa[Dl] using h)
   ·split at h
    ·subst_vars
     exact b7G h
    ·simp at h
  ·rename_i s s'
   cases hx; cases hy
   exact⟨b7H h,by cases op<;>simp[eqGuard]⟩
  ·simp at h
 obtain⟨⟨v,h1,h2,h3⟩,h4⟩:=key
 exact⟨v,by simp[h4,h1],h2,h3⟩
theorem T1 (hE:EnvOk E N) (nm:Names vs (yk vs ops)) (ho:ops[j]? = some o) (hf:FI N w G st a vs (yk vs ops)) {op:BinOp} {t t':TypeId} {x y:Operand} {px py:PX} (cZ:o.op = .binOp op t x y t')
  (hx:cx E vs ops x=some px) (hy:cx E vs ops y=some py) {cf:yt} (hs:opv cf (.bin op px py) st=some (u,st1)) (hk:yK N w G a st1 u vs ops j o next):o.wp P a w next Q:=by
 simp only[opv] at hs
 split at hs
 ·rename_i p q hp hq
  simp only[ab,ac] at hs
  obtain⟨r,hr,rfl,rfl⟩:=hs
  obtain⟨v,h1,h2,h3⟩:=c1h (t:=t) (P:=P) (yT hE hx hf hp).1 (yT hE hy hf hq).1 hr x y
  refine yV nm ho hf ?_ (SR.of_pure h2 h3) hk
  simp only[execOp,cZ,Sem.run_bind,h1,Result.andThen_ok,Sem.run_pure]
 ·simp at hs
theorem T2 {d:Nat} {t:TypeId} {k:EK} {vx vy:Value} {x y:PV} {b:Bool} (hx:VR N w G.fix G.heap vx x) (hy:VR N w G.fix G.heap vy y) (h:Bo k x y=some b) (ht:ekT P t=some k):
  (Op.equalIn (d+1) t vx vy).run P w = .ok b w:=by
 unfold ekT at ht
 unfold Bo at h
 split at h
 ·cases hx; cases hy
  simp only[aa] at h; subst h
  split at ht<;>simp at ht
  exact run_equalIn_bool' w d t _ _ (by assumption)
 ·cases hx; cases hy
  split at h
  ·subst_vars
   simp only[aa] at h; subst h
   split at ht<;>simp at ht
   exact run_equalIn_int w d t _ _ _ _ (by assumption)
  ·simp at h
 ·cases hx; cases hy
  simp only[aa] at h; subst h
  split at ht<;>simp at ht
  rw[run_equalIn_string w d t _ _ (by assumption),OJ,OJ]
 ·simp at h
theorem OM {d:Nat} {cs ds:Array Value} {ps qs:List PV} (hc:CellsR N w G.fix G.heap cs.toList ps) (hd:CellsR N w G.fix G.heap ds.toList qs):∀{fs:List Field} {off:Nat} {ks:List EK} {b:Bool},
  eqFields P fs off=some ks→A4 ks (ps.drop off) (qs.drop off)=some b→(Op.eqFields (d+1) cs ds fs).run P w = .ok b w
 | [], off, ks, b, hk, h => by
   simp[eqFields] at hk; subst hk
   unfold A4 at h
   split at h<;>simp_all [Op.eqFields]
 | f :: fs, off, ks, b, hk, h => by
   simp only[eqFields] at hk
   split at hk
   ·rename_i de
    obtain⟨h1,h2,h3,h4⟩:=de
    simp only[aj,ab] at hk
    obtain⟨k,fm,ks',eA,rfl⟩:=hk
    unfold A4 at h
    split at h
    ·rename_i heq _ _; simp at heq
    ·rename_i k' ks'' x xs y ys fH jM rg
     simp only[bF] at fH
     obtain⟨rfl,rfl⟩:=fH
     simp only[aj,ab] at h
     obtain⟨b1,eP,b2,dK,rfl⟩:=h
     have np:ps[off]? = some x:=by
      have:=aL List.head? jM; simpa[List.head?_drop] using this
     have vP:qs[off]? = some y:=by
      have:=aL List.head? rg; simpa[List.head?_drop] using this
     have nF:off<cs.size:=by have:=(ah.1 np).1; have:=hc.1; simp at this; omega
     have tc:off<ds.size:=by have:=(ah.1 vP).1; have:=hd.1; simp at this; omega
     have j4:∀(zs:Array Value) (hz:off<zs.size),(part f.type zs f.offset).run P w = .ok zs[off] w:=by
      intro zs hz
      simp[part,GP h3,h4,h1,hz]
     have hx:=hc.2.2 off cs[off] x (by simp[nF]) np
     have hy:=hd.2.2 off ds[off] y (by simp[tc]) vP
     have uA:ps.drop (off+1)=xs:=by have:=aL List.tail jM; simpa[List.tail_drop] using this
     have uB:qs.drop (off+1)=ys:=by have:=aL List.tail rg; simpa[List.tail_drop] using this
     have ih:=OM (d:=d) hc hd (fs:=fs) (off:=off+1) eA (by rw[uA,uB]; exact dK)
     simp only[Op.eqFields,h2,ne_eq,cH,if_true,Sem.run_bind,j4 cs nF,j4 ds tc,Result.andThen_ok,T2 hx hy eP fm,Sem.run_ite]
     cases b1 with
     | true=>simpa using ih
     | false=>simp
    ·simp at h
   ·simp at hk
theorem c5f (hE:EnvOk E N) (hP:E.P=P) (nm:Names vs (yk vs ops)) (ho:ops[j]? = some o) (hf:FI N w G st a vs (yk vs ops)) {op:BinOp} {t t':TypeId} {x y:Operand} {px py:PX} {agg:Bool} {ks:List EK} (cZ:o.op = .binOp op t x y t')
  (gO:op = .eql∨op = .neq) (ht:eqT P t=some (some (agg,ks))) (hx:cx E vs ops x=some px) (hy:cx E vs ops y=some py) {cf:yt} (hs:opv cf (.eq (op == .neq) agg ks px py) st=some (u,st1))
  (hk:yK N w G a st1 u vs ops j o next):o.wp P a w next Q:=by
 simp only[opv] at hs
 split at hs
 ·rename_i p q hp hq
  simp only[ab,ac] at hs
  obtain⟨b,hb,rfl,rfl⟩:=hs
  have eT:=(yT hE hx hf hp).1
  have gu:=(yT hE hy hf hq).1
  have key:∀vx vy,VR N w G.fix G.heap vx p→VR N w G.fix G.heap vy q→(do eqGuard op t x y vx vy; binOp op t vx vy:Sem Value).run P w = .ok (.bool (if op == .neq then !b else b)) w:=by
   intro vx vy jc uC
   unfold eqT at ht
   split at ht
   ·simp at ht
   ·simp at ht
   ·rename_i hu
    simp only[aa,ac] at ht
    obtain⟨rfl,rfl⟩:=ht
    simp only[peq,aJ,if_false] at hb
    have he:=T2 (P:=P) (d:=9999) (t:=t) jc uC hb (by simp[ekT,hu])
    have:∃c d,p = .bool c∧q = .bool d:=by
     cases p<;>cases q<;>simp[Bo] at hb
     exact⟨_,_,rfl,rfl⟩
    obtain⟨c,d,rfl,rfl⟩:=this
    cases jc; cases uC
    rcases gO with rfl|rfl<;>simp[eqGuard,binOp,Op.equal,Op.maxDepth,he]
   ·rename_i fs hu
    split at ht
    ·rename_i ks' iO
     split at ht
     ·rename_i de
      simp only[aa,ac] at ht
      obtain⟨rfl,rfl⟩:=ht
      simp only[ap,bG] at de
      simp only[peq,if_true] at hb
      split at hb
      ·obtain⟨cs,rfl,hc⟩:=CellsR.of_agg jc
       obtain⟨ds,rfl,hd⟩:=CellsR.of_agg uC
       have oa:P.fieldsOf t=fs:=by simp[Program.fieldsOf,hu]
       have h1:=run_equalIn_struct (P:=P) w 9999 t cs ds (by rw[oa]; exact hu) de.1
       rw[oa,OM hc hd iO (by simpa using hb)] at h1
       rcases gO with rfl|rfl
       ·simp only[Sem.run_bind,run_eqGuard_agg w _ t x y cs ds de.2,Result.andThen_ok,run_eql_struct,h1]; rfl
       ·simp only[Sem.run_bind,run_eqGuard_agg w _ t x y cs ds de.2,Result.andThen_ok,run_neq_struct,h1]; rfl
      ·simp at hb
     ·simp at ht
    ·simp at ht
   ·simp at ht
  refine yV nm ho hf ?_ (SR.of_pure (.bool _) rfl) hk
  simp only[execOp,cZ,Sem.run_bind,key _ _ eT gu,Result.andThen_ok,Sem.run_pure]
 ·simp at hs
theorem VR.cp_dem3 {N:Nm} {w:World} {fix:Nat→Nat→Prop} {hp:Nat→Option Nat} {v:Value} {p:PV} (h:VR N w fix hp v p):cp (PI.dem p)=some (PI.dem p):=by
 cases h<;>rfl
theorem c5g (hE:EnvOk E N) (nm:Names vs (yk vs ops)) (ho:ops[j]? = some o) (hf:FI N w G st a vs (yk vs ops)) {op:UnOp} {t:TypeId} {x:Operand} {px:PX} (cZ:o.op = .unOp op t x)
  (hx:cx E vs ops x=some px) {cf:yt} (hs:opv cf (.un op px) st=some (u,st1)) (hk:yK N w G a st1 u vs ops j o next):o.wp P a w next Q:=by
 simp only[opv] at hs
 split at hs
 ·rename_i p hp
  simp only[ab,ac] at hs
  obtain⟨r,hr,rfl,rfl⟩:=hs
  have h:=(yT hE hx hf hp).1
  generalize hv:a.eval x=v at h
  unfold unv at hr
  split at hr
  ·cases h
   simp only[aa] at hr; subst hr
   exact yV nm ho hf (by simp[execOp,cZ,hv,Op.unary]) (SR.of_pure (.bool _) rfl) hk
  ·cases h
   simp only[aa] at hr; subst hr
   exact yV nm ho hf (by simp only[execOp,cZ,hv,Op.unary,Op.intArith]; rfl) (SR.of_pure (.int _ _) rfl) hk
  ·simp at hr
 ·simp at hs
theorem b52 (hE:EnvOk E N) (nm:Names vs (yk vs ops)) (ho:ops[j]? = some o) (hf:FI N w G st a vs (yk vs ops)) {s t:TypeId} {k k':IntKind} {x:Operand} {px:PX} (cZ:o.op = .convert s t x)
  (hu:P.underlying s=some (.int k')) (gC:P.underlying t=some (.int k)) (hx:cx E vs ops x=some px) {cf:yt} (hs:opv cf (.convInt k px) st=some (u,st1)) (hk:yK N w G a st1 u vs ops j o next):o.wp P a w next Q:=by
 simp only[opv,ab,ac] at hs
 obtain⟨n,hn,rfl,rfl⟩:=hs
 obtain⟨k1,hv⟩:=EF hE hx hf hn
 refine yV nm ho hf ?_ (SR.of_pure (.int _ _) rfl) hk
 simp[execOp,cZ,hv,convert,run_underlying hu,run_underlying gC,Conv.intToInt]
theorem c1j (hE:EnvOk E N) (nm:Names vs (yk vs ops)) (ho:ops[j]? = some o) (hf:FI N w G st a vs (yk vs ops)) {t:TypeId} {d:TypeDesc} {i:Nat} {x:Operand} {px:PX} (cZ:o.op = .makeInterface t x)
  (hu:P.underlying t=some d) (hd:∀m,d≠.interface m) (hi:zQ t E.pt 0=some i) (hx:cx E vs ops x=some px) {cf:yt} (hs:opv cf (.ifc true (i+1) px) st=some (u,st1)) (hk:yK N w G a st1 u vs ops j o next):o.wp P a w next Q:=by
 simp only[opv] at hs
 split at hs
 ·rename_i v _ hp
  simp only[aa,ac] at hs
  obtain⟨rfl,rfl⟩:=hs
  have h:=(yT hE hx hf hp).1
  have ht:=hE.pt t i hi
  refine yV (v := .iface t (a.eval x)) nm ho hf ?_ (SR.of_pure ?_ rfl) hk
  ·have:(Instr.makeInterface t (a.eval x)).run P w = .ok (.iface t (a.eval x)) w:=by
    simp only[Instr.makeInterface,Sem.run_bind,run_underlying hu,Result.andThen_ok]
    cases d<;>first|exact absurd rfl (hd _)|rfl
   simp[execOp,cZ,this]
  ·rw[← ht]; exact .iface _ _ _ h
 ·rename_i e _; simp at e
 ·simp at hs
theorem c1k (hE:EnvOk E N) (nm:Names vs (yk vs ops)) (ho:ops[j]? = some o) (hf:FI N w G st a vs (yk vs ops)) {t t':TypeId} {d:TypeDesc} {i:Nat} {x:Operand} {px:PX} (cZ:o.op = .typeAssert x t' t false)
  (hu:P.underlying t=some d) (hd:∀m,d≠.interface m) (hi:zQ t E.pt 0=some i) (hx:cx E vs ops x=some px) {cf:yt} (hs:opv cf (.ifc false (i+1) px) st=some (u,st1)) (hk:yK N w G a st1 u vs ops j o next):o.wp P a w next Q:=by
 simp only[opv] at hs
 split at hs
 ·rename_i e _; simp at e
 ·rename_i n v _ hp
  split at hs
  ·rename_i hn
   simp only[aa,ac] at hs
   obtain⟨rfl,rfl⟩:=hs
   have h:=(yT hE hx hf hp).1
   have ht:=hE.pt t i hi
   generalize hv:a.eval x=z at h
   cases h with
   | iface _ v0 _ h =>
     subst hn
     refine yV (v:=v0) nm ho hf ?_ (SR.of_pure h.dem h.cp_dem3) hk
     have:(Instr.typeAssert (.iface (N.ty (i+1)) v0) t' t false).run P w = .ok v0 w:=by
      rw[ht]
      simp only[Instr.typeAssert,Sem.run_bind,run_underlying hu,Result.andThen_ok]
      cases d<;>first|exact absurd rfl (hd _)|simp
     simp[execOp,cZ,hv,this]
  ·simp at hs
 ·simp at hs
theorem b53 (hE:EnvOk E N) (nm:Names vs (yk vs ops)) (ho:ops[j]? = some o) (hf:FI N w G st a vs (yk vs ops)) {i:Nat} {x:Operand} {px:PX} (cZ:o.op = .extract x i)
  (hx:cx E vs ops x=some px) {cf:yt} (hs:opv cf (.extract i px) st=some (u,st1)) (hk:yK N w G a st1 u vs ops j o next):o.wp P a w next Q:=by
 simp only[opv] at hs
 split at hs
 ·rename_i ps hp
  simp only[ab,aj,ac] at hs
  obtain⟨r,⟨p,gW,oc⟩,rfl,rfl⟩:=hs
  have h:=(yT hE hx hf hp).1
  generalize hv:a.eval x=v at h
  cases h with
  | tuple cs _ cY di =>
    have hi:i<cs.size:=by have:=(ah.1 gW).1; omega
    have gD:=di i cs[i] p (by simp[hi]) gW
    have hd:VR N w G.fix G.heap cs[i] r∧cp r=some r:=by
     unfold cp at oc
     split at oc<;>simp at oc<;>subst oc
     ·exact⟨gD.dem,rfl⟩
     ·refine⟨gD,?_⟩
      clear gW
      generalize cs[i]=c at gD
      cases gD<;>first|rfl|simp_all
    exact yV nm ho hf (by simp[execOp,cZ,hv,Instr.extract,hi]) (SR.of_pure hd.1 hd.2) hk
 ·simp at hs
theorem T3 (hE:EnvOk E N) (nm:Names vs (yk vs ops)) (ho:ops[j]? = some o) (hf:FI N w G st a vs (yk vs ops)) {t:TypeId} {ts:Array TypeId} {x:Operand} {px:PX} {str:Bool} (cZ:o.op = .call { callee := .builtin .len,args := #[x],argTypes:=ts })
  (h0:ts[0]? = some t) (hu:if str then P.underlying t=some .string else ∃e,P.underlying t=some (.slice e)) (hx:cx E vs ops x=some px) {cf:yt} (hs:opv cf (.len str px) st=some (u,st1)) (hk:yK N w G a st1 u vs ops j o next):o.wp P a w next Q:=by
 simp only[opv] at hs
 split at hs
 ·rename_i s hp
  simp only[aa,ac] at hs
  obtain⟨rfl,rfl⟩:=hs
  have h:=(yT hE hx hf hp).1
  simp only[if_true] at hu
  generalize hv:a.eval x=v at h
  cases h with
  | str s =>
    have hl:s.data.toList.length=s.size:=bu
    refine yV nm ho hf ?_ (SR.of_pure (.int _ _) rfl) hk
    rw[hl]
    simp only[execOp,cZ,resolve,Sem.run_bind,Sem.run_pure,Result.andThen_ok,invoke,builtin,Builtin.len_,h0,List.map_toArray,aA,bI,hv,b7,List.getElem?_cons_zero,run_underlying hu,goInt]
 ·rename_i b es hp
  simp only[aa,ac] at hs
  obtain⟨rfl,rfl⟩:=hs
  have h:=(yT hE hx hf hp).1
  simp only[aJ,if_false] at hu
  obtain⟨e,gC⟩:=hu
  generalize hv:a.eval x=v at h
  cases h with
  | nils =>
    refine yV nm ho hf ?_ (SR.of_pure (.int _ _) rfl) hk
    simp[execOp,cZ,hv,resolve,invoke,builtin,Builtin.len_,h0,run_underlying gC,goInt]
  | void =>
    refine yV nm ho hf ?_ (SR.of_pure (.int _ _) rfl) hk
    simp[execOp,cZ,hv,resolve,invoke,builtin,Builtin.len_,h0,run_underlying gC,goInt]
  | list _ b off len cap sz _ cv cY =>
    refine yV nm ho hf ?_ (SR.of_pure (.int _ _) rfl) hk
    simp[execOp,cZ,hv,resolve,invoke,builtin,Builtin.len_,h0,run_underlying gC,goInt,cY]
 ·rename_i m sz agg n hp
  simp only[aa,ac] at hs
  obtain⟨rfl,rfl⟩:=hs
  have h:=(yT hE hx hf hp).1
  simp only[aJ,if_false] at hu
  obtain⟨e,gC⟩:=hu
  generalize hv:a.eval x=v at h
  cases h with
  | rowp _ _ _ _ b cap hb dl ep =>
    refine yV nm ho hf ?_ (SR.of_pure (.int _ _) rfl) hk
    simp[execOp,cZ,hv,resolve,invoke,builtin,Builtin.len_,h0,run_underlying gC,goInt]
 ·rename_i m sz agg off n hp
  simp only[aa,ac] at hs
  obtain⟨rfl,rfl⟩:=hs
  have h:=(yT hE hx hf hp).1
  simp only[aJ,if_false] at hu
  obtain⟨e,gC⟩:=hu
  generalize hv:a.eval x=v at h
  cases h with
  | rows _ _ _ _ _ b o' cap m' T hb dl sb ep kT =>
    refine yV nm ho hf ?_ (SR.of_pure (.int _ _) rfl) hk
    simp[execOp,cZ,hv,resolve,invoke,builtin,Builtin.len_,h0,run_underlying gC,goInt]
 ·rename_i hp
  simp only[aa,ac] at hs
  obtain⟨rfl,rfl⟩:=hs
  have h:=(yT hE hx hf hp).1
  simp only[aJ,if_false] at hu
  obtain⟨e,gC⟩:=hu
  generalize hv:a.eval x=v at h
  cases h with
  | nils' =>
    refine yV nm ho hf ?_ (SR.of_pure (.int _ _) rfl) hk
    simp[execOp,cZ,hv,resolve,invoke,builtin,Builtin.len_,h0,run_underlying gC,goInt]
 ·rename_i hp
  simp only[aa,ac] at hs
  obtain⟨rfl,rfl⟩:=hs
  have h:=(yT hE hx hf hp).1
  simp only[aJ,if_false] at hu
  obtain⟨e,gC⟩:=hu
  generalize hv:a.eval x=v at h
  cases h with
  | void' =>
    refine yV nm ho hf ?_ (SR.of_pure (.int _ _) rfl) hk
    simp[execOp,cZ,hv,resolve,invoke,builtin,Builtin.len_,h0,run_underlying gC,goInt]
 ·simp at hs
theorem c3b (hE:EnvOk E N) (nm:Names vs (yk vs ops)) (ho:ops[j]? = some o) (hf:FI N w G st a vs (yk vs ops)) {t e:TypeId} {ts:Array TypeId} {x:Operand} {px:PX}
  (cZ:o.op = .call { callee := .builtin .cap,args := #[x],argTypes:=ts }) (h0:ts[0]? = some t) (hu:P.underlying t=some (.slice e)) (hx:cx E vs ops x=some px) {cf:yt} (hs:opv cf (.cap px) st=some (u,st1)) (hk:yK N w G a st1 u vs ops j o next):o.wp P a w next Q:=by
 simp only[opv] at hs
 split at hs
 ·rename_i hp
  simp only[aa,ac] at hs
  obtain⟨rfl,rfl⟩:=hs
  have h:=(yT hE hx hf hp).1
  generalize hv:a.eval x=v at h
  cases h with
  | nils' =>
    refine yV nm ho hf ?_ (SR.of_pure (.int _ _) rfl) hk
    simp[execOp,cZ,hv,resolve,invoke,builtin,Builtin.cap_,h0,run_underlying hu,goInt]
 ·simp at hs
end
section
variable {E:Env} {N:Nm} {w:World} {G:GS} {st:St} {a:Act} {vs:List Tmp} {ops:List Oper} {P:Program}
variable {o:Oper} {j:Nat} {next:Act→World→Prop} {Q:Exit→Act→World→Prop} {u:PV} {st1:St}
theorem Ky {n:Int} {y:Nat} {k:IntKind} (h0:0≤n) (h1:n≤y) (c:BoundsCode):(Instr.sliceBound (.int k n) y c).run P w = .ok n.toNat w:=by
 simp[Instr.sliceBound,asIntOf,h0,h1]
theorem T4 (hE:EnvOk E N) (hf:FI N w G st a vs (yk vs ops)) {x:Option Operand} {px:Option PX} {dflt most r:Nat} (hc:cxo E vs ops x=some px) (hr:bound st px dflt most=some r):
  (x=none∧r=dflt)∨∃y k n,x=some y∧a.eval y = .int k n∧0≤n∧n≤most∧r=n.toNat:=by
 cases x with
 | none=>simp[cxo] at hc; subst hc; simp[bound] at hr; exact .inl ⟨rfl,hr.symm⟩
 | some y =>
   simp only[cxo,ab] at hc
   obtain⟨p,hp,rfl⟩:=hc
   simp only[bound] at hr
   split at hr
   ·rename_i n hn
    split at hr
    ·rename_i hb
     simp at hr
     obtain⟨k,hk⟩:=EF hE hp hf hn
     exact .inr ⟨y,k,n,rfl,hk,hb.1,hb.2,hr.symm⟩
    ·simp at hr
   ·simp at hr
theorem GQ (hE:EnvOk E N) (hf:FI N w G st a vs (yk vs ops)) {lo hi:Option Operand} {pl ph:Option PX} {isSlice:Bool} {len cap l h:Nat} (dl:len≤cap)
  (hl:cxo E vs ops lo=some pl) (hh:cxo E vs ops hi=some ph) (h1:bound st ph len len=some h) (h2:bound st pl 0 h=some l):
  (Instr.sliceBounds isSlice len cap (lo.map a.eval) (hi.map a.eval) none).run P w = .ok (l,h,cap) w∧l≤h∧h≤len:=by
 have hH:=T4 hE hf hh h1
 have hL:=T4 hE hf hl h2
 have ka:h≤len:=by rcases hH with⟨_,rfl⟩|⟨_,_,n,_,_,_,_,rfl⟩<;>omega
 have pO:l≤h:=by rcases hL with⟨_,rfl⟩|⟨_,_,n,_,_,_,_,rfl⟩<;>omega
 refine⟨?_,pO,ka⟩
 rcases hH with⟨rfl,sH⟩|⟨y,k,n,rfl,hy,eY,pN,sH⟩<;>rcases hL with⟨rfl,fG⟩|⟨y',k',n',rfl,gu,rh,ri,fG⟩<;>subst sH<;>subst fG
 ·simp[Instr.sliceBounds]
 ·simp[Instr.sliceBounds,gu,Ky rh ri]
 ·simp[Instr.sliceBounds,hy,Ky (P:=P) (w:=w) eY (show n≤(cap:Int) by omega)]
 ·simp[Instr.sliceBounds,hy,gu,Ky (P:=P) (w:=w) eY (show n≤(cap:Int) by omega),Ky (P:=P) (w:=w) rh ri]
theorem b7K (s:ByteArray) (l h:Nat):(s.extract l h).data.toList=(s.data.toList.take h).drop l:=by
 simp[ByteArray.data_extract,List.drop_take]
theorem b7L (hE:EnvOk E N) (nm:Names vs (yk vs ops)) (ho:ops[j]? = some o) (hf:FI N w G st a vs (yk vs ops)) {t:TypeId} {x:Operand} {lo hi:Option Operand} {px:PX} {pl ph:Option PX} {size:Nat} (cZ:o.op = .slice t x lo hi none)
  (hu:P.underlying t=some .string) (hx:cx E vs ops x=some px) (hl:cxo E vs ops lo=some pl) (hh:cxo E vs ops hi=some ph) {cf:yt} (hs:opv cf (.slice true size px pl ph) st=some (u,st1))
  (hk:yK N w G a st1 u vs ops j o next):o.wp P a w next Q:=by
 simp only[opv] at hs
 split at hs
 ·rename_i s hp
  simp only[aj,ab,ac] at hs
  obtain⟨h,h1,l,h2,rfl,rfl⟩:=hs
  have ea:=(yT hE hx hf hp).1
  generalize hv:a.eval x=v at ea
  cases ea with
  | str s =>
    have dj:s.data.toList.length=s.size:=bu
    rw[dj] at h1
    obtain⟨hb,_,_⟩:=GQ (P:=P) (isSlice:=false) hE hf (am s.size) hl hh h1 h2
    refine yV nm ho hf (v := .string (s.extract l h)) ?_ (SR.of_pure ?_ rfl) hk
    ·simp[execOp,cZ,hv,Instr.sliceAt,Instr.slice,run_underlying hu,hb]
    ·rw[← b7K]; exact .str _
 ·rename_i heq _; simp at heq
 ·rename_i heq _; simp at heq
 ·rename_i heq _; simp at heq
 ·simp at hs
theorem b7M (hE:EnvOk E N) (nm:Names vs (yk vs ops)) (ho:ops[j]? = some o) (hf:FI N w G st a vs (yk vs ops)) {t e:TypeId} {x:Operand} {lo hi:Option Operand} {px:PX} {pl ph:Option PX} {size:Nat} (cZ:o.op = .slice t x lo hi none)
  (hu:P.underlying t=some (.slice e)) (hn:yX P e=some size) (hx:cx E vs ops x=some px) (hl:cxo E vs ops lo=some pl) (hh:cxo E vs ops hi=some ph) {cf:yt} (hs:opv cf (.slice false size px pl ph) st=some (u,st1))
  (hk:yK N w G a st1 u vs ops j o next):o.wp P a w next Q:=by
 simp only[opv] at hs
 split at hs
 ·rename_i heq _; simp at heq
 ·rename_i own es _ hp
  split at hs
  ·rename_i jX
   simp only[aj,ab,ac] at hs
   obtain⟨h,h1,l,h2,rfl,rfl⟩:=hs
   have ea:=(yT hE hx hf hp).1
   generalize hv:a.eval x=v at ea
   cases ea with
   | nils =>
     obtain⟨hb,pO,ka⟩:=GQ (P:=P) (isSlice:=true) hE hf (am 0) hl hh h1 h2
     simp at ka; subst ka
     have:l=0:=by omega
     subst this
     refine yV nm ho hf (v := .slice none 0 0) ?_ (SR.of_pure (.nils false) rfl) hk
     simp[execOp,cZ,hv,Instr.sliceAt,Instr.slice,run_underlying hu,hb,Ct hn]
   | void _ ad cap =>
     obtain⟨hb,pO,ka⟩:=GQ (P:=P) (isSlice:=true) hE hf (bJ cap) hl hh h1 h2
     simp at ka; subst ka
     have:l=0:=by omega
     subst this
     refine yV nm ho hf (v := .slice (some ad) 0 cap) ?_ (SR.of_pure (.void false ad cap) rfl) hk
     have hz:(if cap=0 then some ad else some ad)=some ad:=by split<;>rfl
     simp[execOp,cZ,hv,Instr.sliceAt,Instr.slice,run_underlying hu,hb,Ct hn,Addr.add_zero']
   | list _ b off len cap sz _ cv cY dl dj dg hcell di =>
     subst cY
     obtain⟨hb,pO,ka⟩:=GQ (P:=P) (isSlice:=true) hE hf dl hl hh h1 h2
     have da:(execOp a.eval o).run P w = .ok (.value (.slice (some (if cap=l then⟨b,off,none⟩ else⟨b,off+l*size,none⟩)) (h - l) (cap - l))) w:=by
      by_cases hc:cap=l
      ·rw[af hc]
       simp only[execOp,cZ,hv,Instr.sliceAt,Instr.slice,Sem.run_bind,run_underlying hu,Result.andThen_ok,hb,Ct hn,af hc,Sem.run_pure,ci]
      ·rw[ae hc]
       simp only[execOp,cZ,hv,Instr.sliceAt,Instr.slice,Sem.run_bind,run_underlying hu,Result.andThen_ok,hb,Ct hn,ae hc,Sem.run_pure,ci,aC,B9]
     refine yV nm ho hf da (SR.of_pure ?_ rfl) hk
     have jd:((es.take h).drop l).length=h - l:=by simp; omega
     have yN:∀(i:Nat) (y:PV),((es.take h).drop l)[i]? = some y→es[l+i]? = some y:=by
      intro i y hy
      rw[bc,aY] at hy
      split at hy
      ·exact hy
      ·cases hy
     have dX:∀y∈(es.take h).drop l,y∈es:=λy hy=>List.mem_of_mem_take (cM hy)
     by_cases hc:cap=l
     ·have he:(es.take h).drop l=[]:=bD.1 (by rw[jd]; omega)
      rw[af hc,he]
      have:h - l=0:=by omega
      rw[this]
      exact .list false b off 0 _ 0 [] cv rfl (bJ _) (by simp) (by simp) (by simp) (by simp)
     ·rw[ae hc]
      by_cases hz:h - l=0
      ·have he:(es.take h).drop l=[]:=bD.1 (by rw[jd]; omega)
       rw[he,hz]
       exact .list false b _ 0 _ 0 [] cv rfl (bJ _) (by simp) (by simp) (by simp) (by simp)
      ·have oR:sz=size:=by
        cases es with
        | nil=>simp at ka; omega
        | cons y ys =>
          have:=dj y (by simp)
          simp[zj] at jX
          omega
       subst oR
       refine .list false b _ (h - l) _ sz _ (λk=>cv (l*sz+k)) jd (by omega) (λy hy=>dj y (dX y hy)) (λy hy=>dg y (dX y hy)) ?_ ?_
       ·intro k hk
        have dc:l*sz+k<es.length*sz:=by
         have h3:(l+(h - l))*sz≤es.length*sz:=bw _ (by omega)
         rw[aS] at h3; omega
        have:=hcell _ dc
        simpa[cF] using this
       ·intro i y hy j' z i8
        have:=di (l+i) y (yN i y hy) j' z i8
        simpa[aS,cF] using this
  ·simp at hs
 ·rename_i _ hp
  simp only[aj,ab,ac] at hs
  obtain⟨h,h1,l,h2,rfl,rfl⟩:=hs
  have ea:=(yT hE hx hf hp).1
  generalize hv:a.eval x=v at ea
  cases ea with
  | nils' =>
    obtain⟨hb,pO,ka⟩:=GQ (P:=P) (isSlice:=true) hE hf (am 0) hl hh h1 h2
    have:h=0:=by omega
    subst this
    have:l=0:=by omega
    subst this
    refine yV nm ho hf (v := .slice none 0 0) ?_ (SR.of_pure .nils' rfl) hk
    simp[execOp,cZ,hv,Instr.sliceAt,Instr.slice,run_underlying hu,hb,Ct hn]
 ·rename_i n sz agg len _ hp
  split at hs
  ·rename_i dj
   subst dj
   simp only[aj,ab,ac] at hs
   obtain⟨h,h1,l,h2,rfl,rfl⟩:=hs
   have ea:=(yT hE hx hf hp).1
   generalize hv:a.eval x=v at ea
   cases ea with
   | rowp _ _ _ _ b cap jB dl ep =>
     obtain⟨T,m,fo,kI⟩:=ep
     obtain⟨hb,pO,ka⟩:=GQ (P:=P) (isSlice:=true) hE hf dl hl hh h1 h2
     have da:(execOp a.eval o).run P w = .ok (.value (.slice (some (if cap=l then⟨b,0,none⟩ else⟨b,0+l*sz,none⟩)) (h - l) (cap - l))) w:=by
      by_cases hc:cap=l
      ·rw[af hc]
       simp only[execOp,cZ,hv,Instr.sliceAt,Instr.slice,Sem.run_bind,run_underlying hu,Result.andThen_ok,hb,Ct hn,af hc,Sem.run_pure,ci]
      ·rw[ae hc]
       simp only[execOp,cZ,hv,Instr.sliceAt,Instr.slice,Sem.run_bind,run_underlying hu,Result.andThen_ok,hb,Ct hn,ae hc,Sem.run_pure,ci,aC,B9]
     have xR:h*sz≤cap*sz:=bw _ (by omega)
     by_cases jV:l=0
     ·subst jV
      rw[af rfl] at hk
      have he:(if cap=0 then(⟨b,0,none⟩:Addr) else⟨b,0+0*sz,none⟩)=⟨b,0,none⟩:=by split<;>simp
      rw[he,Nat.sub_zero,Nat.sub_zero] at da
      exact yV nm ho hf da (SR.of_pure (.rowp _ _ _ _ b cap jB (by omega) ⟨T,m,fo,kI⟩) rfl) hk
     ·rw[ae jV] at hk
      have fT:(l+(h - l))*sz≤m:=by rw[show l+(h - l)=h by omega]; omega
      by_cases hc:cap=l
      ·rw[af hc] at da
       exact yV nm ho hf da (SR.of_pure (.rows _ _ _ _ _ b 0 _ m T jB (by omega) (.inl (by omega)) fo fT) rfl) hk
      ·rw[ae hc] at da
       exact yV nm ho hf da (SR.of_pure (.rows _ _ _ _ _ b _ _ m T jB (by omega) (.inr (by rw[aU])) fo fT) rfl) hk
  ·simp at hs
 ·simp at hs
theorem T5 {mx:Bool}:∀{ps:List PV} {vals:List Value} {p:PV} {v:Value},VR N w G.fix G.heap v p→vals.length=ps.length →
  (∀(i:Nat) (x:Value) (q:PV),vals[i]? = some x→ps[i]? = some q→VR N w G.fix G.heap x q)→cp p=some p→EG mx p ps=some u →
  ∃r,(vals.foldlM (if mx then Builtin.max2 else Builtin.min2) v).run P w = .ok r w∧VR N w G.fix G.heap r u∧cp u=some u
 | [], vals, p, v, hv, hl, _, gb, hm => by
   have:vals=[]:=by simpa using hl
   subst this
   simp[EG] at hm; subst hm
   exact⟨v,by simp,hv,gb⟩
 | q :: ps, vals, p, v, hv, hl, hr, gb, hm => by
   cases vals with
   | nil=>simp at hl
   | cons x vals =>
     unfold EG at hm
     split at hm
     ·simp_all
     ·rename_i k m k' m' r heq
      simp only[bF] at heq
      obtain⟨rfl,rfl⟩:=heq
      split at hm
      ·subst_vars
       have hx:=hr 0 x _ rfl rfl
       cases hv; cases hx
       obtain⟨r,h1,h2,h3⟩:=T5 (mx:=mx) (vals:=vals) (VR.int _ (if mx then(if m'>m then m' else m) else(if m'<m then m' else m))) (by simpa using hl)
        (λi y z hy hz=>hr (i+1) y z (by simpa using hy) (by simpa using hz)) rfl hm
       refine⟨r,?_,h2,h3⟩
       cases mx<;>simpa[Builtin.max2,Builtin.min2] using h1
      ·simp at hm
     ·simp at hm
theorem T6 (hE:EnvOk E N) (nm:Names vs (yk vs ops)) (ho:ops[j]? = some o) (hf:FI N w G st a vs (yk vs ops)) {mx:Bool} {xs:Array Operand} {ts:Array TypeId} {pxs:List PX}
  (cZ:o.op = .call { callee := .builtin (if mx then .max else .min),args:=xs,argTypes:=ts }) (hx:cxs E vs ops xs.toList=some pxs) {cf:yt} (hs:opv cf (.minmax mx pxs) st=some (u,st1))
  (hk:yK N w G a st1 u vs ops j o next):o.wp P a w next Q:=by
 simp only[opv] at hs
 split at hs
 ·rename_i p ps hp
  simp only[ab,ac] at hs
  obtain⟨r,hr,rfl,rfl⟩:=hs
  obtain⟨h1,h2⟩:=Cr hE hf hx hp
  cases jM:xs.toList with
  | nil=>simp[jM] at h1
  | cons y ys =>
    rw[jM] at h1 h2
    have h0:=h2 0 y p rfl rfl
    obtain⟨v,ip,gV,xT⟩:=T5 (P:=P) (vals:=ys.map a.eval) h0.1 (by simpa using h1) (by
     intro i x q eT hq
     simp only[aF,ab] at eT
     obtain⟨z,hz,rfl⟩:=eT
     exact(h2 (i+1) z q (by simpa using hz) (by simpa using hq)).1) h0.2 hr
    refine yV nm ho hf (v:=v) ?_ (SR.of_pure gV xT) hk
    cases mx
    ·simp only[aJ,if_false] at cZ ip
     simp[execOp,cZ,resolve,invoke,builtin,Builtin.min_,jM,ip]
    ·simp only[if_true] at cZ ip
     simp[execOp,cZ,resolve,invoke,builtin,Builtin.max_,jM,ip]
 ·simp at hs
theorem ON (off:Nat):∀(vc:List Value) (n:Nat) (cs:Array Value) (k:Nat),off+n+vc.length≤cs.size →
  ((vc.zipIdx n).foldl (λ(cs:Array Value) (x:Value×Nat)=>cs.setIfInBounds (off+x.2) x.1) cs)[k]? = if off+n≤k∧k<off+n+vc.length then vc[k - (off+n)]? else cs[k]?
 | [],n,cs,k,_=>by simp; omega
 | v :: vc, n, cs, k, hn => by
   simp only[aB] at hn
   simp only[List.zipIdx_cons,cI]
   rw[ON off vc (n+1) _ k (by simp; omega)]
   simp only[aB]
   by_cases h1:k=off+n
   ·subst h1
    rw[ae (by omega),af (by omega)]
    simp[bi]
    omega
   ·by_cases h2:off+n≤k∧k<off+n+(vc.length+1)
    ·rw[af (by omega),af h2]
     rw[show k - (off+n)=(k - (off+(n+1)))+1 by omega]
     simp
    ·rw[ae (by omega),ae h2]
     simp[bi,Ne.symm h1]
theorem OO (off:Nat) (vc:Array Value) (cs:Array Value) (h:off+vc.size≤cs.size):
  (vc.zipIdx.foldl (λ(cs:Array Value) (x:Value×Nat)=>cs.setIfInBounds (off+x.2) x.1) cs).toList=cs.toList.take off++(vc.toList++cs.toList.drop (off+vc.size)):=by
 apply bO
 intro k
 have hg:=ON off vc.toList 0 cs k (by simpa using h)
 have he:vc.zipIdx.foldl (λ(cs:Array Value) (x:Value×Nat)=>cs.setIfInBounds (off+x.2) x.1) cs=(vc.toList.zipIdx 0).foldl (λ(cs:Array Value) (x:Value×Nat)=>cs.setIfInBounds (off+x.2) x.1) cs:=by
  rw[← Array.foldl_toList]; simp
 rw[he,bM,hg]
 simp only[bx,bu]
 by_cases h1:k<off
 ·rw[ae (by omega),al (by simp; omega),aY,af h1,bM]
 ·rw[aq (by simp; omega)]
  have uD:(cs.toList.take off).length=off:=by simp; omega
  rw[uD]
  by_cases h2:k<off+vc.size
  ·rw[af ⟨by omega,h2⟩,al (by simp; omega)]
  ·rw[ae (by omega),aq (by simp; omega),bc,bM]
   congr 1
   simp; omega
theorem T7 (hE:EnvOk E N) (hf:FI N w G st a vs (yk vs ops)) {Bc:Nat→Option (Nat×Nat)}:∀{parts:List (Nat×Operand)} {ps:List (Nat×Nat×PX)} {qs:List (Nat×Nat×PV)} {zs rs:List PV} {cs:Array Value},
  E7 E vs ops Bc parts=some ps→rdParts st ps=some qs→Cb zs qs=some rs→CellsR N w G.fix G.heap cs.toList zs →
  OwnNil cs.toList zs→∃ds,Instr.fill Bc cs (parts.map λ(i,x)=>(i,a.eval x))=some ds∧CellsR N w G.fix G.heap ds.toList rs∧OwnNil ds.toList rs
 | [], ps, qs, zs, rs, cs, hc, hr, yH, hR, hO => by
   simp[E7] at hc; subst hc
   simp[rdParts] at hr; subst hr
   simp[Cb] at yH; subst yH
   exact⟨cs,rfl,hR,hO⟩
 | (i, x) :: parts, ps, qs, zs, rs, cs, hc, hr, yH, hR, hO => by
   simp only[E7,aj] at hc
   obtain⟨p,hp,hc⟩:=hc
   split at hc
   ·simp at hc
   ·rename_i qk
    simp only[aj,ab] at hc
    obtain⟨px,gn,ps',ey,rfl⟩:=hc
    simp only[rdParts,aj,ab] at hr
    obtain⟨v,hv,qs',kR,rfl⟩:=hr
    simp only[Cb] at yH
    split at yH
    ·rename_i de
     have di:=(yT hE gn hf hv).1
     have dG:=CellsR.of_cells di (by intro e; rw[e] at de; simp at de; omega)
     have dj:(a.eval x).cells.size=p.2:=by have:=dG.1; simp at this; omega
     have eF:p.1+(a.eval x).cells.size≤cs.size:=by have:=hR.1; simp at this; omega
     have ec:CellsR N w G.fix G.heap ((a.eval x).cells.zipIdx.foldl (λ(cs:Array Value) (y:Value×Nat)=>cs.setIfInBounds (p.1+y.2) y.1) cs).toList (zs.take p.1++(v.cells.map dem++zs.drop (p.1+p.2))):=by
      rw[OO _ _ _ eF,dj]
      exact(hR.take _).append (dG.dem.append (hR.drop _))
     have rj:OwnNil ((a.eval x).cells.zipIdx.foldl (λ(cs:Array Value) (y:Value×Nat)=>cs.setIfInBounds (p.1+y.2) y.1) cs).toList (zs.take p.1++(v.cells.map dem++zs.drop (p.1+p.2))):=by
      rw[OO _ _ _ eF,dj]
      refine(hO.take _).append ?_ ((OwnNil.dem _ _).append ?_ (hO.drop _))
      ·have:=hR.1; simp at this ⊢; omega
      ·have:=dG.1; simpa using this
     obtain⟨ds,h1,h2⟩:=T7 hE hf ey kR yH ec rj
     refine⟨ds,?_,h2⟩
     simp only[aA,Instr.fill,hp]
     rw[ae (by simp[dj]; omega)]
     exact h1
    ·simp at yH
theorem Ef {fix:Nat→Nat→Prop} {hp:Nat→Option Nat} {t:TypeId} {z:List PV} (h:Ac P t=some z):
  ∃i zv,P.info? t=some i∧i.zero=some zv∧i.size≠0∧z.length=i.size∧CellsR N w fix hp zv.cells.toList z∧OwnNil zv.cells.toList z:=by
 unfold Ac at h
 split at h
 ·rename_i i hi
  split at h
  ·rename_i zv hz
   simp only[aj] at h
   obtain⟨cs,d9,h⟩:=h
   split at h
   ·rename_i de
    simp at h; subst h
    obtain⟨h1,h2,h3⟩:=OF (N:=N) (w:=w) (fix:=fix) (hp:=hp) d9
    exact⟨i,zv,hi,hz,de.2,de.1,⟨h1,h2,h3⟩,λk c es hc he=>GO d9 k c es hc he⟩
   ·simp at h
  ·simp at h
 ·simp at h
theorem T8 (hE:EnvOk E N) (nm:Names vs (yk vs ops)) (ho:ops[j]? = some o) (hf:FI N w G st a vs (yk vs ops)) {t:TypeId} {parts:Array (Nat×Operand)} {fs:Array Field} {places:List (Nat×Nat)} {z:List PV} {ps:List (Nat×Nat×PX)}
  (cZ:o.op = .build t parts) (hu:P.underlying t=some (.struct fs)) (hz:Ac P t=some z) (fl:fs.toList.mapM (λf=>(P.info? f.type).map λi=>(f.offset,i.size))=some places)
  (hc:E7 E vs ops (places.toArray[·]?) parts.toList=some ps) {cf:yt} (hs:opv cf (.build z ps) st=some (u,st1)) (hk:yK N w G a st1 u vs ops j o next):o.wp P a w next Q:=by
 simp only[opv,ab,aj,ac] at hs
 obtain⟨rs,⟨qs,hq,yH⟩,rfl,rfl⟩:=hs
 obtain⟨i,zv,hi,j5,_,_,hR,hO⟩:=Ef (N:=N) (w:=w) (fix:=G.fix) (hp:=G.heap) hz
 obtain⟨ds,h1,h2,h3⟩:=T7 hE hf hc hq yH hR hO
 refine yV nm ho hf (v := .agg ds) ?_ (SR.of_pure (by simpa using h2.agg h3) rfl) hk
 have hb:P.built t (parts.map λ(i,x)=>(i,a.eval x)).toList=some ds:=by
  simp only[Program.built,hi,hu,j5,fl]
  simpa using h1
 simp[execOp,cZ,run_build w t _ ds hb]
end
def GS.give (G:GS) (b:Nat) (k:Key):GS:={ G with ow:=λx=>if x=b then some k else G.ow x }
section
variable {E:Env} {N:Nm} {w:World} {G:GS} {st:St} {a:Act} {vs:List Tmp} {ops:List Oper} {P:Program}
variable {o:Oper} {j:Nat} {next:Act→World→Prop} {Q:Exit→Act→World→Prop} {u:PV} {st1:St}
theorem FI.src (hf:FI N w G st a vs (yk vs ops)) {px:PX} {es:List PV} {G':GS} {w':World} (gn:∀p,px≠.c p) (hr:raw st px=some (.list true es))
  (e:Ext w G w' G') (hk:zu (λk=>k=Bn px) w G w' G') (hg:∀g b,G'.box g=some b→g<st.gen) (ho:∀b k,G'.ow b=some k→b<w'.heap.size) (hx:∀b o,G'.fix b o→b<w'.heap.size) (hh:G'.heap=G.heap):
  FI N w' G' (Dk st px (.list false es)) a vs (yk vs ops):=by
 cases px with
 | c p=>exact absurd rfl (gn p)
 | v i =>
   refine⟨by simp[Dk,hf.len],?_,?_,hf.tv,hf.tl,(hf.defers.trans e.df.symm),hg,ho,hx,hf.heap.keep e hk (by intro k hk e; subst e; simp[Bn,Key.isH] at hk),by rw[hh]; exact hf.hdom⟩
   ·intro i' t u h1 h2
    simp only[Dk,aO] at h2
    split at h2
    ·rename_i hi
     subst hi
     split at h2
     ·simp at h2; subst h2
      exact((hf.var i t _ h1 hr).1.dem).ext e
     ·simp at h2
    ·rename_i hi
     exact(hf.var i' t u h1 h2).keep e hk (by simp[Bn]; omega) (by simp[Bn])
   ·intro i' t u h1 h2
    exact(hf.loc i' t u h1 h2).keep e hk (by simp[Bn]) (by simp[Bn])
 | l i =>
   refine⟨hf.len,?_,?_,hf.tv,hf.tl,(hf.defers.trans e.df.symm),hg,ho,hx,hf.heap.keep e hk (by intro k hk e; subst e; simp[Bn,Key.isH] at hk),by rw[hh]; exact hf.hdom⟩
   ·intro i' t u h1 h2
    exact(hf.var i' t u h1 h2).keep e hk (by simp[Bn]) (by simp[Bn])
   ·intro i' t u h1 h2
    simp only[Dk,aO] at h2
    split at h2
    ·rename_i hi
     subst hi
     split at h2
     ·simp at h2; subst h2
      exact((hf.loc i t _ h1 hr).1.dem).ext e
     ·simp at h2
    ·rename_i hi
     exact(hf.loc i' t u h1 h2).keep e hk (by simp[Bn]; omega) (by simp[Bn])
theorem Kz (b:Nat) (k:Key) (h:b<w.heap.size→G.ow b≠none):Ext w G w (G.give b k):=by
 refine⟨rfl,rfl,rfl,am _,λ_ _ _=>rfl,λ_ _ h=>⟨h,rfl⟩,λ_ _ h => .inl h,?_,λ_ _ h=>h,ShapeLe.refl w,rfl⟩
 intro x hx
 simp only[GS.give] at hx
 split at hx
 ·rename_i gR
  subst gR
  by_cases dc:x<w.heap.size
  ·exact .inr (h dc)
  ·exact .inl (by omega)
 ·exact .inr hx
theorem KA (b:Nat) (k:Key) {K:Key→Prop} (h:∀k',G.ow b=some k'→K k'):zu K w G w (G.give b k):=by
 refine⟨?_,λ_ _ h=>h⟩
 intro x k' hx hn
 refine⟨?_,rfl,λ_ h=>h⟩
 simp only[GS.give]
 split
 ·rename_i gR
  subst gR
  exact absurd (h k' hx) hn
 ·exact hx
theorem Room.give {key key':Key} {v:Value} {es:List PV} (h:Room w G key v es):
  ∃G',(G'=G∨∃b,G.ow b=some key∧G'=G.give b key')∧Room w G' key' v es:=by
 unfold Room at h
 split at h
 ·rename_i a len cap
  rcases h with h|⟨ho,sz,cs,T,h1,h2,h3,h4,h5⟩
  ·exact⟨G,.inl rfl,.inl h⟩
  ·exact⟨G.give a.block key',.inr ⟨_,ho,rfl⟩,.inr ⟨by simp[GS.give],sz,cs,T,h1,h2,h3,h4,h5⟩⟩
 ·rename_i hx
  refine⟨G,.inl rfl,?_⟩
  unfold Room
  split
  ·rename_i a len cap; exact absurd rfl (hx _ _ _)
  ·trivial
def KB (w:World) (G:GS) (key:Key) (v:Value):PV→Prop
 | .list true es=>Room w G key v es
 | u=>cp u=some u
theorem GR (hE:EnvOk E N) {x:Operand} {px:PX} (hc:cx E vs ops x=some px) (hf:FI N w G st a vs (yk vs ops)) (ht:tk st px=some (u,st1)) (key:Key):
  ∃ G', FI N w G' st1 a vs (yk vs ops) ∧ Ext w G w G' ∧ G'.box = G.box ∧ G'.fix = G.fix ∧ G'.heap = G.heap ∧ VR N w G.fix G.heap (a.eval x) u ∧
    KB w G' key (a.eval x) u∧(∀b,G'.ow b=G.ow b∨(G.ow b=some (Bn px)∧G'.ow b=some key))∧st1.gen=st.gen∧st1.heap=st.heap:=by
 unfold tk at ht
 split at ht
 ·rename_i es hr
  simp only[aa,ac] at ht
  obtain⟨rfl,rfl⟩:=ht
  have hs:=Ed hE hc hf hr
  obtain⟨hv,dJ⟩:=hs
  by_cases gn:∃p,px = .c p
  ·obtain⟨p,rfl⟩:=gn
   simp only[raw,aa] at hr
   subst hr
   refine⟨G,hf,Ext.refl _ _,rfl,rfl,rfl,hv,?_,λ_ => .inl rfl,rfl,rfl⟩
   cases x with
   | tmp t=>simp only[cx] at hc; split at hc<;>simp at hc
   | const v =>
     simp only[cx] at hc
     split at hc
     ·simp at hc
     simp only[ab] at hc
     obtain⟨q,hq,vQ⟩:=hc
     simp at vQ; subst vQ
     rcases OG hq with⟨es',_,rfl⟩|h
     ·exact True.intro
     ·simp[cp] at h
   | global g=>simp[cx] at hc
   | func f =>
     simp only[cx,ab] at hc
     obtain⟨k,_,hk⟩:=hc
     simp at hk
  ·obtain⟨G',hG,fV⟩:=dJ.give (key':=key)
   have hg:G'.box=G.box∧G'.fix=G.fix∧G'.heap=G.heap:=by
    rcases hG with rfl|⟨b,_,rfl⟩<;>exact⟨rfl,rfl,rfl⟩
   have cX:Ext w G w G':=by
    rcases hG with rfl|⟨b,hb,rfl⟩
    ·exact Ext.refl _ _
    ·exact Kz b key (λ_=>by simp[hb])
   have db:zu (λk=>k=Bn px) w G w G':=by
    rcases hG with rfl|⟨b,hb,rfl⟩
    ·exact⟨λb k h _=>⟨h,rfl,λ_ h=>h⟩,λ_ _ h=>h⟩
    ·exact KA b key (λk' dt=>by rw[hb] at dt; simpa using dt.symm)
   have how:∀b,G'.ow b=G.ow b∨(G.ow b=some (Bn px)∧G'.ow b=some key):=by
    intro b
    rcases hG with rfl|⟨b',hb,rfl⟩
    ·exact .inl rfl
    ·simp only[GS.give]
     split
     ·subst_vars; exact .inr ⟨hb,rfl⟩
     ·exact .inl rfl
   refine⟨G',?_,cX,hg.1,hg.2.1,hg.2.2,hv,fV,how,?_,?_⟩
   ·refine hf.src (λp hp=>gn ⟨p,hp⟩) hr cX db (by rw[hg.1]; exact hf.gen) ?_ (by rw[hg.2.1]; exact hf.fixlt) hg.2.2
    intro b k hb
    rcases how b with h|⟨h,_⟩
    ·exact hf.owlt b k (h▸hb)
    ·exact hf.owlt b _ h
   ·cases px<;>rfl
   ·cases px<;>rfl
 ·rename_i v oK hr
  simp only[ab,ac] at ht
  obtain⟨r,fG,rfl,rfl⟩:=ht
  obtain⟨h1,h2⟩:=(Ed hE hc hf hr).read fG
  refine⟨G,hf,Ext.refl _ _,rfl,rfl,rfl,h1,?_,λ_ => .inl rfl,rfl,rfl⟩
  unfold KB
  split
  ·simp[cp] at h2
  ·exact h2
 ·simp at ht
theorem SR.of_taken {key:Key} {v:Value} {u:PV} (h:VR N w G.fix G.heap v u) (hm:KB w G key v u):SR N w G key v u:=by
 unfold KB at hm
 split at hm
 ·exact⟨h,hm⟩
 ·exact SR.of_pure h hm
theorem T9 (hE:EnvOk E N) (nm:Names vs (yk vs ops)) (ho:ops[j]? = some o) (hf:FI N w G st a vs (yk vs ops)) {x:Operand} {px:PX} (hx:(execOp a.eval o).run P w = .ok (.value (a.eval x)) w)
  (hc:cx E vs ops x=some px) (hs:tk st px=some (u,st1)) (hk:yK N w G a st1 u vs ops j o next):o.wp P a w next Q:=by
 obtain⟨G',h1,h2,h3,h4,h5,h6,h7,_⟩:=GR hE hc hf hs (An (yR vs o.dst) j)
 unfold Oper.wp
 rw[hx]
 refine hk _ _ G' (h1.put nm (BH ho) (SR.of_taken ?_ h7)) h2 (BJ _ _ _)
 rw[h4,h5]; exact h6
theorem E9 {w:World} {ob:Obj} {b o:Nat} (h:b<w.heap.size):(w.alloc ob).cell? ⟨b,o,none⟩=w.cell? ⟨b,o,none⟩:=World.cell?_alloc_lt w ob _ h
theorem AF {w:World} {ob:Obj} {b:Nat} (h:b<w.heap.size):(w.alloc ob).heap[b]? = w.heap[b]? := by
 simp only[World.alloc,Array.getElem?_push]
 rw[ae (by omega)]
theorem Df {w:World} {ob:Obj}:(w.alloc ob).heap[w.heap.size]? = some ob:=by unfold World.alloc; simp only[Array.getElem?_push_size]
theorem Ua (nm:Names vs (yk vs ops)) (ho:ops[j]? = some o) (hf:FI N w G st a vs (yk vs ops)) {cs:Array Value} {ps:List PV} {T:TypeId} {i:Nat} (hd:yR vs o.dst = .v i)
  (da:(execOp a.eval o).run P w = .ok (.value (.pointer (some ⟨w.heap.size,0,none⟩))) (w.alloc (.cells cs T)))
  (hR:∀(k:Nat) (c:Value) (x:PV),cs[k]? = some c→ps[k]? = some x→VR N w G.fix G.heap c x∧x.flat=true∧(∀es,x = .list true es→c = .slice none 0 0)) (hl:cs.size=ps.length)
  (hk:yK N w G a { st with gen:=st.gen+1 } (.loc st.gen ps) vs ops j o next):o.wp P a w next Q:=by
 unfold Oper.wp
 rw[da]
 have xU:G.ow w.heap.size=none:=by
  cases h:G.ow w.heap.size with
  | none=>rfl
  | some k=>have:=hf.owlt _ _ h; omega
 have gx:∀o,¬G.fix w.heap.size o:=λo h=>by have:=hf.fixlt _ _ h; omega
 let G':GS:={ G with ow:=λx=>if x=w.heap.size then some (.var i) else G.ow x,box:=λg=>if g=st.gen then some w.heap.size else G.box g }
 have cX:Ext w G (w.alloc (.cells cs T)) G':=by
  refine⟨rfl,rfl,rfl,by simp,λb hb _=>AF hb,λb o h=>⟨h,E9 (hf.fixlt _ _ h)⟩,λ_ _ h => .inl h,?_,λ_ _ h=>h,.same λk hk=>AF hk,rfl⟩
  intro b hb
  by_cases dc:b<w.heap.size
  ·refine .inr ?_
   simp only[G'] at hb
   rw[ae (by omega)] at hb
   exact hb
  ·exact .inl (by omega)
 have db:zu (λ_=>False) w G (w.alloc (.cells cs T)) G':=by
  refine⟨?_,?_⟩
  ·intro b k hb _
   have dc:=hf.owlt _ _ hb
   refine⟨?_,AF dc,λ_ h=>h⟩
   simp only[G']
   rw[ae (by omega)]; exact hb
  ·intro g b hb
   have:=hf.gen _ _ hb
   simp only[G']
   rw[ae (by omega)]; exact hb
 have dD:FI N (w.alloc (.cells cs T)) G' { st with gen:=st.gen+1 } a vs (yk vs ops):=by
  refine⟨hf.len,λi t u h1 h2=>(hf.var i t u h1 h2).keep cX db (λh=>h) (λ_ _ _ h=>h),λj t u h1 h2=>(hf.loc j t u h1 h2).keep cX db (λh=>h) (λ_ _ _ h=>h),hf.tv,hf.tl,hf.defers,?_,?_,?_,hf.heap.keep cX db (λ_ _ h=>h),hf.hdom⟩
  ·intro g b hb
   simp only[G'] at hb
   split at hb
   ·simp; omega
   ·have:=hf.gen _ _ hb; simp; omega
  ·intro b k hb
   simp only[G'] at hb
   split at hb
   ·simp; omega
   ·have:=hf.owlt _ _ hb; simp; omega
  ·intro b o h; have:=hf.fixlt _ _ h; simp; omega
 refine hk _ _ G' (dD.put nm (BH ho) ?_) cX (BJ _ _ _)
 rw[hd]
 refine⟨w.heap.size,i,rfl,rfl,by simp[G'],by simp[G',An],gx,cs,T,Df,hl,?_⟩
 intro k c x hc hx
 obtain⟨h1,h2,h3⟩:=hR k c x hc hx
 refine⟨h1.ext cX,h2,?_⟩
 split
 ·rename_i es
  have:=h3 es rfl
  subst this
  trivial
 ·trivial
theorem Ub {d:PD} (h:isVar d=true):∃i,d = .v i:=by
 cases d with
 | v i=>exact⟨i,rfl⟩
 | l=>simp[isVar] at h
 | n=>simp[isVar] at h
theorem b7O (nm:Names vs (yk vs ops)) (ho:ops[j]? = some o) (hf:FI N w G st a vs (yk vs ops)) {t:TypeId} {z:List PV} (cZ:o.op = .alloc t) (hz:Ac P t=some z) (hd:isVar (yR vs o.dst)=true) {cf:yt}
  (hs:opv cf (.newloc z) st=some (u,st1)) (hk:yK N w G a st1 u vs ops j o next):o.wp P a w next Q:=by
 simp only[opv,aa,ac] at hs
 obtain⟨rfl,rfl⟩:=hs
 obtain⟨i,hi⟩:=Ub hd
 obtain⟨ti,zv,h1,h2,h3,h4,h5,_⟩:=Ef (N:=N) (w:=w) (fix:=G.fix) (hp:=G.heap) hz
 refine Ua (cs:=zv.cells) (ps:=z) (T:=t) nm ho hf hi ?_ ?_ ?_ hk
 ·simp[execOp,cZ,Instr.alloc,zeroValue,typeInfo,h1,h2,newVar,newRow]
 ·intro k c x hc hx
  refine⟨h5.2.2 k c x (by simpa using hc) hx,h5.2.1 x (ax hx),?_⟩
  rintro es rfl
  unfold Ac at hz
  simp only[h1,h2,aj] at hz
  obtain⟨cs',d9,hz⟩:=hz
  split at hz
  ·simp at hz; subst hz
   exact GO d9 k c es (by simpa using hc) hx
  ·simp at hz
 ·have:=h5.1; simpa using this
theorem b7P (hE:EnvOk E N) (nm:Names vs (yk vs ops)) (ho:ops[j]? = some o) (hf:FI N w G st a vs (yk vs ops)) {t:TypeId} {n:Nat} {x:Operand} {px:PX} (cZ:o.op = .box t x) (hn:yX P t=some n) (hx:cx E vs ops x=some px)
  (hd:isVar (yR vs o.dst)=true) {cf:yt} (hs:opv cf (.boxloc n px) st=some (u,st1)) (hk:yK N w G a st1 u vs ops j o next):o.wp P a w next Q:=by
 simp only[opv] at hs
 split at hs
 ·rename_i p hp
  split at hs
  ·rename_i hl
   simp only[aa,ac] at hs
   obtain⟨rfl,rfl⟩:=hs
   obtain⟨i,hi⟩:=Ub hd
   obtain⟨_,_,_,_,eY,_⟩:=Be hn
   have hv:=(yT hE hx hf hp).1
   have dG:=(CellsR.of_cells hv (by intro e; rw[e] at hl; simp at hl; omega)).dem
   refine Ua (cs:=(a.eval x).cells) (ps:=p.cells.map dem) (T:=t) nm ho hf hi ?_ ?_ ?_ hk
   ·simp[execOp,cZ,Instr.box,newVar,newRow]
   ·intro k c y hc hy
    refine⟨dG.2.2 k c y (by simpa using hc) hy,dG.2.1 y (ax hy),?_⟩
    rintro es rfl
    simp only[aF,ab] at hy
    obtain⟨q,_,hq⟩:=hy
    cases q<;>simp[dem] at hq
   ·have:=dG.1; simpa using this
  ·simp at hs
 ·simp at hs
end
section
variable {E:Env} {N:Nm} {w:World} {G:GS} {st:St} {a:Act} {vs:List Tmp} {ops:List Oper} {P:Program}
variable {o:Oper} {j:Nat} {next:Act→World→Prop} {Q:Exit→Act→World→Prop} {u:PV} {st1:St}
def GT (N:Nm) (w:World) (fix:Nat→Nat→Prop) (hp:Nat→Option Nat) (size:Nat) (cs:Array Value) (es:List PV):Prop:=
 cs.size=es.length*size∧∀(i:Nat) (e:PV),es[i]? = some e→e.cells.length=size∧(∀x∈e.cells,x.flat=true) ∧
  ∀(k:Nat) (c:Value) (x:PV),cs[i*size+k]? = some c→e.cells[k]? = some x→VR N w fix hp c x
theorem KC {i n k size:Nat} (hi:i<n) (hk:k<size):i*size+k<n*size:=by
 have:(i+1)*size≤n*size:=bw _ hi
 rw[aS] at this; omega
theorem c1l (v:PV):(AN v).cells=v.cells.map PI.dem:=by
 cases v<;>rfl
theorem Uc (hE:EnvOk E N) (hf:FI N w G st a vs (yk vs ops)) {size:Nat} (fZ:size≠0):∀{parts:List (Nat×Operand)} {ps:List (Nat×PX)} {qs:List (Nat×PV)} {zs rs:List PV} {cs:Array Value},
  EB E vs ops parts=some ps→rdElems st ps=some qs→Cc size zs qs=some rs→GT N w G.fix G.heap size cs zs →
  ∃ds,Instr.fill (λi=>some (i*size,size)) cs (parts.map λ(i,x)=>(i,a.eval x))=some ds∧GT N w G.fix G.heap size ds rs∧rs.length=zs.length
 | [], ps, qs, zs, rs, cs, hc, hr, yH, hR => by
   simp[EB] at hc; subst hc
   simp[rdElems] at hr; subst hr
   simp[Cc] at yH; subst yH
   exact⟨cs,rfl,hR,rfl⟩
 | (i, x) :: parts, ps, qs, zs, rs, cs, hc, hr, yH, hR => by
   simp only[EB,aj,ab] at hc
   obtain⟨px,gn,ps',ey,rfl⟩:=hc
   simp only[rdElems,aj,ab] at hr
   obtain⟨v,hv,qs',kR,rfl⟩:=hr
   simp only[Cc] at yH
   split at yH
   ·rename_i de
    have di:=(yT hE gn hf hv).1
    have dG:=CellsR.of_cells di (by intro e; rw[e] at de; simp at de; omega)
    have dj:(a.eval x).cells.size=size:=by have:=dG.1; simp at this; omega
    have eF:i*size+(a.eval x).cells.size≤cs.size:=by
     rw[hR.1,dj]
     have:(i+1)*size≤zs.length*size:=bw _ de.2
     rw[aS] at this; omega
    have ec:GT N w G.fix G.heap size ((a.eval x).cells.zipIdx.foldl (λ(cs:Array Value) (y:Value×Nat)=>cs.setIfInBounds (i*size+y.2) y.1) cs) (zs.set i (AN v)):=by
     have hl:=OO (i*size) (a.eval x).cells cs eF
     have yN:∀k,((a.eval x).cells.zipIdx.foldl (λ(cs:Array Value) (y:Value×Nat)=>cs.setIfInBounds (i*size+y.2) y.1) cs)[k]? = if i*size≤k∧k<i*size+size then(a.eval x).cells[k - i*size]? else cs[k]? := by
      intro k
      have hg:=ON (i*size) (a.eval x).cells.toList 0 cs k (by simpa using eF)
      have he:(a.eval x).cells.zipIdx.foldl (λ(cs:Array Value) (y:Value×Nat)=>cs.setIfInBounds (i*size+y.2) y.1) cs=((a.eval x).cells.toList.zipIdx 0).foldl (λ(cs:Array Value) (y:Value×Nat)=>cs.setIfInBounds (i*size+y.2) y.1) cs:=by
       rw[← Array.foldl_toList]; simp
      rw[he,hg]
      simp[dj]
     refine⟨?_,?_⟩
     ·have:=aL List.length hl
      rw[bu,ao,ao,ba,cm,bu,bu] at this
      rw[aZ,← hR.1,this]
      omega
     ·intro i' e' dN
      rw[aO] at dN
      split at dN
      ·rename_i kB
       subst kB
       rw[af de.2] at dN
       simp at dN; subst dN
       rw[c1l]
       refine⟨by rw[aG]; exact de.1,dG.dem.2.1,?_⟩
       intro k c y hc hy
       have hk:k<size:=by have:=(ah.1 hy).1; rw[aG] at this; omega
       rw[yN,af ⟨by omega,by omega⟩,show i*size+k - i*size=k by omega] at hc
       exact dG.dem.2.2 k c y (by simpa using hc) hy
      ·rename_i kB
       obtain⟨h1,h2,h3⟩:=hR.2 i' e' dN
       refine⟨h1,h2,?_⟩
       intro k c y hc hy
       have hk:k<size:=by have:=(ah.1 hy).1; omega
       have mB:¬(i*size≤i'*size+k∧i'*size+k<i*size+size):=by
        rintro⟨ha,hb⟩
        rcases Nat.lt_or_gt_of_ne kB with h|h
        ·have:(i+1)*size≤i'*size:=bw _ h
         rw[aS] at this; omega
        ·have:(i'+1)*size≤i*size:=bw _ h
         rw[aS] at this; omega
       rw[yN,ae mB] at hc
       exact h3 k c y hc hy
    obtain⟨ds,h1,h2,h3⟩:=Uc hE hf fZ ey kR yH ec
    refine⟨ds,?_,h2,by rw[h3,aZ]⟩
    simp only[aA,Instr.fill]
    rw[ae (by simp[dj]; omega)]
    exact h1
   ·simp at yH
theorem c3c (nm:Names vs (yk vs ops)) (ho:ops[j]? = some o) (hf:FI N w G st a vs (yk vs ops)) {cs:Array Value} {es:List PV} {T:TypeId} {size:Nat} (hR:GT N w G.fix G.heap size cs es)
  (da:(execOp a.eval o).run P w = .ok (.value (.slice (some ⟨w.heap.size,0,none⟩) es.length es.length)) (w.alloc (.cells cs T)))
  (hk:yK N w G a st (.list true es) vs ops j o next):o.wp P a w next Q:=by
 unfold Oper.wp
 rw[da]
 have gx:∀o,¬G.fix w.heap.size o:=λo h=>by have:=hf.fixlt _ _ h; omega
 let G':GS:={ G with fix:=λb o=>G.fix b o∨b=w.heap.size }
 have cX:Ext w G (w.alloc (.cells cs T)) G':=by
  refine⟨rfl,rfl,rfl,by simp,λb hb _=>AF hb,λb o h=>⟨.inl h,E9 (hf.fixlt _ _ h)⟩,?_,λ_ h => .inr h,λ_ _ h=>h,.same λk hk=>AF hk,rfl⟩
  rintro b o (h|h)
  ·exact .inl h
  ·exact .inr (.inl (by omega))
 have db:zu (λ_=>False) w G (w.alloc (.cells cs T)) G':=by
  refine⟨?_,λ_ _ h=>h⟩
  intro b k hb _
  have dc:=hf.owlt _ _ hb
  refine⟨hb,AF dc,?_⟩
  rintro o (h|h)
  ·exact h
  ·omega
 have dD:=hf.ext (G':=G') cX db hf.gen (λb k hb=>by have:=hf.owlt b k hb; simp; omega) (by
  rintro b o (h|h)
  ·have:=hf.fixlt _ _ h; simp; omega
  ·simp; omega)
 refine hk _ _ G' (dD.put nm (BH ho) ⟨?_,.inl rfl⟩) cX (BJ _ _ _)
 refine .list true w.heap.size 0 es.length es.length size es (λk=>cs.getD k undef) rfl (am _) ?_ ?_ ?_ ?_
 ·intro e he
  obtain⟨i,hi⟩:=bj.1 he
  exact(hR.2 i e hi).1
 ·intro e he
  obtain⟨i,hi⟩:=bj.1 he
  exact(hR.2 i e hi).2.1
 ·intro k hk
  rw[← hR.1] at hk
  refine⟨?_,.inr rfl⟩
  rw[aU,World.cell?_alloc_new]
  simp[hk]
 ·intro i e he k x hx
  obtain⟨h1,h2,h3⟩:=hR.2 i e he
  have hk:k<size:=by have:=(ah.1 hx).1; omega
  have hi:i<es.length:=(ah.1 he).1
  have dc:i*size+k<cs.size:=by rw[hR.1]; exact KC hi hk
  have:=h3 k cs[i*size+k] x (by simp[dc]) hx
  simp only[aV,cW dc,bX]
  exact this.ext cX
theorem Ud (hE:EnvOk E N) (hf:FI N w G st a vs (yk vs ops)) {t e:TypeId} {len size:Nat} {parts:Array (Nat×Operand)} {z:List PV} {ps:List (Nat×PX)} {qs:List (Nat×PV)} {rs:List PV}
  (cZ:o.op = .buildSlice t len parts) (hu:P.underlying t=some (.slice e)) (hn:yX P e=some size) (hz:Ac P e=some z) (cY:len*size≤16777216) (hc:EB E vs ops parts.toList=some ps)
  (hq:rdElems st ps=some qs) (yH:Cc size (List.replicate len (if zl P e then .agg z else z.headD .dead)) qs=some rs):
  ∃ds,GT N w G.fix G.heap size ds rs∧(execOp a.eval o).run P w = .ok (.value (.slice (some ⟨w.heap.size,0,none⟩) rs.length rs.length)) (w.alloc (.cells ds e)):=by
 obtain⟨ti,zv,h1,h2,h3,h4,h5,_⟩:=Ef (N:=N) (w:=w) (fix:=G.fix) (hp:=G.heap) hz
 obtain⟨ti',d,jz,xW,fZ,hd⟩:=Be hn
 have mg:ti'=ti:=by rw[h1] at jz; simpa using jz.symm
 subst mg
 have iq:zv.cells.size=size:=by have:=h5.1; simp at this; omega
 have xX:(if zl P e then PV.agg z else z.headD .dead).cells=z:=by
  split
  ·rfl
  ·rename_i ge
   have fo:=ED hn (by simpa using ge)
   match z,h4 with
   | [],h=>simp at h; omega
   | [p], _ =>
     have:=h5.2.1 p (by simp)
     cases p<;>first|rfl|simp[PV.flat] at this
   | _::_::_,h=>simp at h; omega
 let cs0:Array Value:=(Array.range (len*size)).map (zv.cells[· % zv.cells.size]!)
 have xY:GT N w G.fix G.heap size cs0 (List.replicate len (if zl P e then PV.agg z else z.headD .dead)):=by
  refine⟨by simp[cs0],?_⟩
  intro i x hx
  have eT:=cB.symm.trans hx
  split at eT
  ·rename_i hi
   simp only[aa] at eT
   rw[← eT,xX]
   refine⟨by omega,h5.2.1,?_⟩
   intro k c y fy hy
   have hk:k<size:=by have:=(ah.1 hy).1; omega
   have dc:i*size+k<len*size:=KC hi hk
   have jb:(i*size+k) % size=k:=by
    rw[Nat.add_comm,cG,Nat.add_mul_mod_self_left]; exact Nat.mod_eq_of_lt hk
   simp only[cs0,bU,Array.getElem?_range,dc,if_true,aC,aa,iq,jb] at fy
   have dt:k<zv.cells.size:=by omega
   rw[getElem!_pos zv.cells k dt] at fy
   exact h5.2.2 k c y (by rw[← fy]; simp[dt]) hy
  ·simp at eT
 obtain⟨ds,nx,hR,jd⟩:=Uc hE hf fZ hc hq yH xY
 have hl:rs.length=len:=by simpa using jd
 refine⟨ds,hR,?_⟩
 rw[hl]
 have uE:¬(len*size>2 ^ 24):=by
  have:(2:Nat) ^ 24=16777216:=by decide
  omega
 have fl:(parts.map λ(i,x)=>(i,a.eval x)).toList=parts.toList.map λ(i,x)=>(i,a.eval x):=by simp
 have xZ:(Instr.buildSlice t len (parts.map λ(i,x)=>(i,a.eval x))).run P w = .ok (.slice (some ⟨w.heap.size,0,none⟩) len len) (w.alloc (.cells ds e)):=by
  unfold Instr.buildSlice
  simp only[Sem.run_bind,run_underlying hu,Result.andThen_ok,Ct hn,ae uE]
  by_cases h0:len*size=0
  ·have kj:(Array.range (len*size)).map ((#[]:Array Value)[· % (#[]:Array Value).size]!)=cs0:=by simp[h0,cs0]
   simp only[af h0,Sem.run_bind,Sem.run_pure,Result.andThen_ok,kj,fl,nx]
   simp[newRow]
  ·simp only[ae h0,Sem.run_bind,Sem.run_pure,Result.andThen_ok,zeroValue,typeInfo,run_program,h1,h2,fl]
   have:Instr.fill (λi=>some (i*size,size)) ((Array.range (len*size)).map (zv.cells[· % zv.cells.size]!)) (parts.toList.map λ(i,x)=>(i,a.eval x))=some ds:=nx
   rw[this]
   simp[newRow]
 simp[execOp,cZ,xZ]
theorem b55 (hE:EnvOk E N) (nm:Names vs (yk vs ops)) (ho:ops[j]? = some o) (hf:FI N w G st a vs (yk vs ops)) {t e:TypeId} {len size:Nat} {parts:Array (Nat×Operand)} {z:List PV} {ps:List (Nat×PX)}
  (cZ:o.op = .buildSlice t len parts) (hu:P.underlying t=some (.slice e)) (hn:yX P e=some size) (hz:Ac P e=some z) (cY:len*size≤16777216) (hc:EB E vs ops parts.toList=some ps) {cf:yt}
  (hs:opv cf (.mkslice size (if zl P e then .agg z else z.headD .dead) len ps) st=some (u,st1)) (hk:yK N w G a st1 u vs ops j o next):o.wp P a w next Q:=by
 simp only[opv,ab,aj,ac] at hs
 obtain⟨rs,⟨qs,hq,yH⟩,rfl,rfl⟩:=hs
 obtain⟨ds,hR,da⟩:=Ud hE hf cZ hu hn hz cY hc hq yH
 exact c3c nm ho hf hR da hk
end
section
variable {E:Env} {N:Nm} {w:World} {G:GS} {st:St} {a:Act} {vs:List Tmp} {ops:List Oper} {P:Program}
variable {o:Oper} {j:Nat} {next:Act→World→Prop} {Q:Exit→Act→World→Prop} {u:PV} {st1:St}
theorem OP (hf:FI N w G st a vs (yk vs ops)) {s g b:Nat} {cs:List PV} (hv:st.vars[s]? = some (.loc g cs)) (hb:G.box g=some b):
  ∃ t, vs[s]? = some t ∧ a.eval (.tmp t) = .pointer (some ⟨b, 0, none⟩) ∧ G.ow b = some (.var s) ∧ (∀ o, ¬ G.fix b o) ∧
    ∃cv T,w.heap[b]? = some (.cells cv T (0,0))∧cv.size=cs.length∧∀(k:Nat) (c:Value) (x:PV),cv[k]? = some c→cs[k]? = some x→CR N w G (.vcell s k) c x:=by
 have hs:s<vs.length:=by rw[← hf.len]; exact(ah.1 hv).1
 have h:=hf.var s vs[s] _ (an hs) hv
 obtain⟨b',i,hk,h1,h2,h3,h4,h5⟩:=h
 have hi:i=s:=by simpa using hk.symm
 subst hi
 have:b'=b:=by rw[hb] at h2; simpa using h2.symm
 subst this
 exact⟨vs[i],an hs,h1,h3,h4,h5⟩
theorem SS {b:Nat} {cv:Array Value} {T:TypeId} {cs:List PV} {s:Nat} (hh:w.heap[b]? = some (.cells cv T (0,0))) (hl:cv.size=cs.length)
  (hc:∀(k:Nat) (c:Value) (x:PV),cv[k]? = some c→cs[k]? = some x→CR N w G (.vcell s k) c x):
  CellsR N w G.fix G.heap cv.toList cs∧∀(k:Nat) (v:Value),cv.toList[k]? = some v→w.cell? ⟨b,k,none⟩=some v:=by
 refine⟨⟨by simpa using hl,?_,λi c x h1 h2=>(hc i c x (by simpa using h1) h2).1⟩,?_⟩
 ·intro x hx
  obtain⟨i,hi⟩:=bj.1 hx
  have dc:i<cv.size:=by have:=(ah.1 hi).1; omega
  exact(hc i cv[i] x (by simp[dc]) hi).2.1
 ·intro k v hv
  simp only[bM] at hv
  simp[World.cell?,hh,hv]
theorem c3d (hf:FI N w G st a vs (yk vs ops)) {t:TypeId} {n s g off b:Nat} {cs:List PV} {v:Value} (hn:yX P t=some n) (hv:v = .pointer (some ⟨b,off,none⟩)) (hb:G.box g=some b)
  (hs:st.vars[s]? = some (.loc g cs)) (hl:yu n (zl P t) cs off=some u):∃r,(Instr.loadAt t v).run P w = .ok r w∧VR N w G.fix G.heap r u∧cp u=some u:=by
 obtain⟨_,_,_,_,_,cv,T,h1,h2,h3⟩:=OP hf hs hb
 obtain⟨hR,hcell⟩:=SS h1 h2 h3
 have eY:n≠0:=by obtain⟨_,_,_,_,h,_⟩:=Be hn; exact h
 obtain⟨k1,k2,k3⟩:=Gy hR hl eY (ED hn)
 refine⟨_,?_,k2,k3⟩
 subst hv
 have:=Gz (w:=w) hn b off (cv.toList.drop off) (by simp at k1 ⊢; omega) (λj v hv=>by
  rw[bc] at hv
  exact hcell _ _ hv)
 simpa[Instr.loadAt,Instr.sureAddr] using this
theorem c1m (hE:EnvOk E N) (nm:Names vs (yk vs ops)) (ho:ops[j]? = some o) (hf:FI N w G st a vs (yk vs ops)) {t:TypeId} {n:Nat} {x:Operand} {px:PX} {tk:Bool} (cZ:o.op = .load t x) (hn:yX P t=some n)
  (hx:cx E vs ops x=some px) {cf:yt} (hs:opv cf (.load n (zl P t) px tk) st=some (u,st1)) (hk:yK N w G a st1 u vs ops j o next):o.wp P a w next Q:=by
 have plain:∀r,(Instr.loadAt t (a.eval x)).run P w = .ok r w→(execOp a.eval o).run P w = .ok (.value r) w:=by
  intro r hr
  simp[execOp,cZ,hr]
 simp only[opv] at hs
 split at hs
 ·rename_i cs ha
  simp only[ab,ac] at hs
  obtain⟨r,hr,rfl,rfl⟩:=hs
  rcases Ee hE hx hf ha with⟨_,_,_,_,h,_⟩|⟨h,_⟩
  ·simp at h
  ·obtain⟨r',h1,h2,h3⟩:=OL (P:=P) hn h hr
   exact yV nm ho hf (plain _ h1) (SR.of_pure h2 h3) hk
 ·rename_i s g off ha
  rcases Ee hE hx hf ha with⟨_,_,_,b,h,hv,hb⟩|⟨_,h⟩
  ·simp only[PV.lptr.injEq] at h
   obtain⟨rfl,rfl,rfl⟩:=h
   split at hs
   ·rename_i g' cs kG
    split at hs
    ·rename_i iR
     subst iR
     split at hs
     ·rename_i es ee hcell
      simp only[aa,ac] at hs
      obtain⟨rfl,rfl⟩:=hs
      simp only[ap,bG] at ee
      obtain⟨tt,rk,mE,pP,jr,cv,T,hh,hl,hc⟩:=OP hf kG hb
      have dc:off<cv.size:=by have:=(ah.1 hcell).1; omega
      obtain⟨di,_,dJ⟩:=hc off cv[off] _ (by simp[dc]) hcell
      obtain⟨G',hG,fV⟩:=Room.give (key':=An (yR vs o.dst) j) dJ
      have iR:G'.box=G.box∧G'.fix=G.fix∧G'.heap=G.heap:=by
       rcases hG with rfl|⟨b,_,rfl⟩<;>exact⟨rfl,rfl,rfl⟩
      have cX:Ext w G w G':=by
       rcases hG with rfl|⟨b,hb,rfl⟩
       ·exact Ext.refl _ _
       ·exact Kz b _ (λ_=>by simp[hb])
      have db:zu (λk=>k = .vcell s off) w G w G':=by
       rcases hG with rfl|⟨b,hb,rfl⟩
       ·exact⟨λb k h _=>⟨h,rfl,λ_ h=>h⟩,λ_ _ h=>h⟩
       ·exact KA b _ (λk' dt=>by rw[hb] at dt; simpa using dt.symm)
      have dD:FI N w G' { st with vars:=st.vars.set s (.loc g (cs.set off (.list false es))) } a vs (yk vs ops):=by
       refine⟨by simp[hf.len],?_,λi t' u' h1 h2=>(hf.loc i t' u' h1 h2).keep cX db (by simp) (by simp),hf.tv,hf.tl,(hf.defers.trans cX.df.symm),by rw[iR.1]; exact hf.gen,?_,by rw[iR.2.1]; exact hf.fixlt,hf.heap.keep cX db (by rintro k hk rfl; simp[Key.isH] at hk),by rw[iR.2.2]; exact hf.hdom⟩
       ·intro i t' u' h1 h2
        simp only[aO] at h2
        split at h2
        ·rename_i hi
         subst hi
         split at h2
         ·simp at h2; subst h2
          have:t'=tt:=by rw[rk] at h1; simpa using h1.symm
          subst this
          obtain⟨eN,_,_⟩:=db.1 _ _ pP (by simp)
          refine⟨b,s,rfl,mE,by rw[iR.1]; exact hb,eN,by rw[iR.2.1]; exact jr,cv,T,hh,by simp[hl],?_⟩
          intro k c y dY hy
          rw[aO] at hy
          split at hy
          ·rename_i eA
           subst eA
           split at hy
           ·simp at hy; subst hy
            have:c=cv[off]:=by simp[dc] at dY; exact dY.symm
            subst this
            refine⟨(di.dem).ext cX,rfl,trivial⟩
           ·simp at hy
          ·rename_i eA
           exact(hc k c y dY hy).keep cX db (by simp; omega)
         ·simp at h2
        ·rename_i hi
         exact(hf.var i t' u' h1 h2).keep cX db (by simp) (by simp; intro i' k jz e; omega)
       ·intro b' k dn
        rcases hG with rfl|⟨b2,dK,rfl⟩
        ·exact hf.owlt _ _ dn
        ·simp only[GS.give] at dn
         split at dn
         ·subst_vars; exact hf.owlt _ _ dK
         ·exact hf.owlt _ _ dn
      unfold Oper.wp
      have da:(Instr.loadAt t (a.eval x)).run P w = .ok cv[off] w:=by
       have dH:w.cell? ⟨b,off,none⟩=some cv[off]:=by simp[World.cell?,hh,dc]
       rw[hv]
       simp[Instr.loadAt,Instr.sureAddr,loadVar,GP hn,ee.2,dH]
      rw[plain _ da]
      exact hk _ _ G' (dD.put nm (BH ho) ⟨di.ext cX,fV⟩) cX (BJ _ _ _)
     ·simp only[ab,ac] at hs
      obtain⟨r,hr,rfl,rfl⟩:=hs
      obtain⟨r',h1,h2,h3⟩:=c3d (P:=P) hf hn hv hb kG hr
      exact yV nm ho hf (plain _ h1) (SR.of_pure h2 h3) hk
    ·simp at hs
   ·simp at hs
  ·simp[cp] at h
 ·simp at hs
theorem b9b (hE:EnvOk E N) (nm:Names vs (yk vs ops)) (ho:ops[j]? = some o) (hf:FI N w G st a vs (yk vs ops)) {t:TypeId} {n:Nat} {x y:Operand} {px py:PX} (cZ:o.op = .store t x y) (eL:o.dst=none) (hn:yX P t=some n)
  (hx:cx E vs ops x=some px) (hy:cx E vs ops y=some py) {cf:yt} (hs:opv cf (.store n (zl P t) px py) st=some (u,st1)) (hk:yK N w G a st1 u vs ops j o next):o.wp P a w next Q:=by
 simp only[opv] at hs
 split at hs
 ·rename_i s g off v st' ha ee
  rcases Ee hE hx hf ha with⟨_,_,_,b,h,hv,hb⟩|⟨_,h⟩
  ·simp only[PV.lptr.injEq] at h
   obtain⟨rfl,rfl,rfl⟩:=h
   obtain⟨G1,dD,el,je,fE,d7,di,fW,_,_,_⟩:=GR hE hy hf ee (.vcell s off)
   split at hs
   ·rename_i g' cs kG
    split at hs
    ·rename_i iR
     subst iR
     simp only[ab,ac] at hs
     obtain⟨cs',dz,rfl,rfl⟩:=hs
     obtain⟨tt,rk,mE,pP,jr,cv,T,hh,hl,hc⟩:=OP dD kG (by rw[je]; exact hb)
     have eY:n≠0:=by obtain⟨_,_,_,_,h,_⟩:=Be hn; exact h
     have key:∃nc:List Value,(a.eval y).cells.toList=nc∧nc.length=n∧off+n≤cv.size∧(∀c∈nc,c.oneCell'=true)∧cs'.length=cs.length ∧
       ∀ (k : Nat) (c : Value) (z : PV), (cv.toList.take off ++ nc ++ cv.toList.drop (off + n))[k]? = some c → cs'[k]? = some z →
         (cv[k]? = some c∧cs[k]? = some z)∨(VR N w G.fix G.heap c z∧z.flat=true∧∀es,z = .list true es→(k=off∧Room w G1 (.vcell s off) c es)∨c = .slice none 0 0):=by
      unfold yM at dz
      split at dz
      ·rename_i iB
       split at dz
       ·rename_i ws
        split at dz
        ·rename_i de
         simp only[aa] at dz; subst dz
         obtain⟨ca,oG,hR⟩:=CellsR.of_agg di
         have hO:OwnNil ca.toList ws:=OwnNil.of_agg (oG▸di)
         have dH:(a.eval y).cells.toList=ca.toList:=by rw[oG]; rfl
         have cY:ca.toList.length=n:=by have:=hR.1; omega
         refine⟨ca.toList,dH,cY,by omega,?_,by simp; omega,?_⟩
         ·intro c gQ
          obtain⟨i,hi⟩:=bj.1 gQ
          have dc:i<ws.length:=by have:=(ah.1 hi).1; have:=hR.1; omega
          have h1:=hR.2.2 i c ws[i] hi (an dc)
          have h2:=h1.oneCell (hR.2.1 _ (ak dc))
          cases c<;>first|rfl|simp[oneCell] at h2
         ·intro k c z dY hz
          rw[aI] at dY
          have gj:(cv.toList.take off).length=off:=by simp; omega
          have lS:(cs.take off).length=off:=by simp; omega
          by_cases h1:k<off
          ·rw[al (by omega),aY,af h1] at dY
           rw[al (by omega),aY,af h1] at hz
           exact .inl ⟨by simpa using dY,hz⟩
          ·rw[aq (by omega),gj] at dY
           rw[aq (by omega),lS] at hz
           by_cases h2:k<off+n
           ·rw[al (by omega)] at dY
            rw[al (by omega)] at hz
            refine .inr ⟨hR.2.2 _ c z dY hz,hR.2.1 z (ax hz),?_⟩
            rintro es rfl
            exact .inr (hO _ c es dY hz)
           ·rw[aq (by omega),bc,cY] at dY
            rw[aq (by omega),bc,de.1] at hz
            rw[show off+n+(k - off - n)=k by omega] at dY hz
            exact .inl ⟨by simpa using dY,hz⟩
        ·simp at dz
       ·simp at dz
      ·rename_i iB
       have pN:=ED hn (by simpa using iB)
       subst pN
       split at dz
       ·rename_i de
        simp only[aa] at dz; subst dz
        have h1:=di.oneCell de.2
        have dH:(a.eval y).cells.toList=[a.eval y]:=by
         generalize a.eval y=q at h1
         cases q<;>first|rfl|simp[oneCell] at h1
        refine⟨[a.eval y],dH,rfl,by omega,?_,by simp,?_⟩
        ·intro c gQ
         simp at gQ; subst gQ
         generalize a.eval y=q at h1
         cases q<;>first|rfl|simp[oneCell] at h1
        ·intro k c z dY hz
         rw[aI] at dY
         have gj:(cv.toList.take off).length=off:=by simp; omega
         rw[aO] at hz
         split at hz
         ·rename_i ki
          subst ki
          split at hz
          ·simp at hz; subst hz
           rw[aq (by omega),gj] at dY
           simp at dY; subst dY
           refine .inr ⟨di,de.2,?_⟩
           rintro es rfl
           exact .inl ⟨rfl,fW⟩
          ·simp at hz
         ·rename_i ki
          refine .inl ⟨?_,hz⟩
          by_cases h1:k<off
          ·rw[al (by omega),aY,af h1] at dY
           simpa using dY
          ·rw[aq (by omega),gj,aq (by simp; omega),bc] at dY
           simp only[cR] at dY
           rw[show off+1+(k - off - 1)=k by omega] at dY
           simpa using dY
       ·simp at dz
     obtain⟨nc,ju,cY,iC,li,uF,dG⟩:=key
     have da:(execOp a.eval o).run P w = .ok .skip (w.setRow b (cv.toList.take off++nc++cv.toList.drop (off+n)).toArray):=by
      have dz:=run_storeCells_at P b off T nc 0 cv w hh (by simp; omega) li
      simp only[bx,cY] at dz
      have dj:(a.eval y).cells.size=n:=by rw[← cY,← ju]; simp
      simp[execOp,cZ,Instr.storeAt,hv,Instr.sureAddr,storeVar,Ct hn,dj,ju,dz]
     unfold Oper.wp
     rw[da]
     have fK:b<w.heap.size:=dD.owlt _ _ pP
     have du:∀x,x≠b→(w.setRow b (cv.toList.take off++nc++cv.toList.drop (off+n)).toArray).heap[x]? = w.heap[x]? := λx hx=>setRow_other w b x _ hx
     have d8:Ext w G1 (w.setRow b (cv.toList.take off++nc++cv.toList.drop (off+n)).toArray) G1:=by
      refine⟨rfl,rfl,rfl,by simp[World.setRow],?_,?_,λ_ _ h => .inl h,λ_ h => .inr h,λ_ _ h=>h,IN hh _ ?_,rfl⟩
      rotate_left 2
      ·simp; omega
      ·intro x _ lL
       exact du x (by rintro rfl; rw[pP] at lL; simp at lL)
      ·intro x o' gB
       refine⟨gB,?_⟩
       have gR:x≠b:=by rintro rfl; exact jr _ gB
       simp only[World.cell?,du x gR]
     have dW:zu (λk=>k = .var s) w G1 (w.setRow b (cv.toList.take off++nc++cv.toList.drop (off+n)).toArray) G1:=by
      refine⟨?_,λ_ _ h=>h⟩
      intro x k iD iI
      refine⟨iD,du x ?_,λ_ h=>h⟩
      rintro rfl
      rw[pP] at iD
      simp at iD
      exact iI iD.symm
     have jD:FI N (w.setRow b (cv.toList.take off++nc++cv.toList.drop (off+n)).toArray) G1 { st' with vars:=st'.vars.set s (.loc g cs') } a vs (yk vs ops):=by
      refine⟨by simp[dD.len],?_,λi t' u' h1 h2=>(dD.loc i t' u' h1 h2).keep d8 dW (by simp) (by simp),dD.tv,dD.tl,dD.defers,dD.gen,?_,?_,dD.heap.keep d8 dW (by rintro k hk rfl; simp[Key.isH] at hk),dD.hdom⟩
      ·intro i t' u' h1 h2
       simp only[aO] at h2
       split at h2
       ·rename_i hi
        subst hi
        split at h2
        ·simp at h2; subst h2
         have:t'=tt:=by rw[rk] at h1; simpa using h1.symm
         subst this
         refine⟨b,s,rfl,mE,by rw[je]; exact hb,pP,jr,_,T,setRow_heap w b cv _ T (0,0) hh,?_,?_⟩
         ·simp; omega
         ·intro k c z dY hz
          rcases dG k c z (by simpa using dY) hz with⟨k1,k2⟩|⟨k1,k2,k3⟩
          ·exact(hc k c z k1 k2).keep d8 dW (by simp)
          ·refine⟨(fE▸d7▸k1:VR N w G1.fix G1.heap c z).ext d8,k2,?_⟩
           split
           ·rename_i es
            rcases k3 es rfl with⟨e1,e2⟩|e
            ·subst e1
             exact e2.keep dW (by simp)
            ·subst e; trivial
           ·trivial
        ·simp at h2
       ·rename_i hi
        exact(dD.var i t' u' h1 h2).keep d8 dW (by simp; omega) (by simp)
      ·intro x k hx; simpa[World.setRow] using dD.owlt x k hx
      ·intro x o' hx; simpa[World.setRow] using dD.fixlt x o' hx
     have gJ:a.put o.dst undef=a:=by simp[eL,Act.put]
     have hd:yR vs o.dst = .n:=by simp[eL,yR]
     show next (a.put o.dst undef) _
     rw[gJ]
     refine hk _ _ G1 ?_ (el.trans d8) rfl
     rw[hd]
     exact jD
    ·simp at hs
   ·simp at hs
  ·simp[cp] at h
 ·simp at hs
end
theorem FI.extDst {N:Nm} {w w':World} {G G':GS} {st:St} {a:Act} {vs:List Tmp} {lm:Nat→Option Tmp} {j:Nat} {d:PD} {dst:Option Tmp} {v:Value} {u:PV}
  (h:FI N w G st a vs lm) (nm:Names vs lm) (hd:Kx vs lm j d dst) (dy:d≠.n) (e:Ext w G w' G') (hk:zu (λk=>k=An d j) w G w' G')
  (hg:∀g b,G'.box g=some b→g<st.gen) (ho:∀b k,G'.ow b=some k→b<w'.heap.size) (hx:∀b o,G'.fix b o→b<w'.heap.size) (hh:G'.heap=G.heap) (hs:SR N w' G' (An d j) v u):
  FI N w' G' (PI.put st j d u) (a.put dst v) vs lm:=by
 cases d with
 | n=>exact absurd rfl dy
 | v i =>
   obtain⟨t,rfl,ht⟩:=hd
   have dj:=h.tv i t ht
   refine⟨by simp[PI.put,h.len],?_,?_,?_,?_,(h.defers.trans e.df.symm),hg,ho,hx,h.heap.keep e hk (by intro k hk e; subst e; simp[An,Key.isH] at hk),by rw[hh]; exact h.hdom⟩
   ·intro i' t' u' h1 h2
    rw[Fe _ _ _ _ dj]
    simp only[PI.put,aO] at h2
    by_cases hi:i=i'
    ·subst hi
     have:t'=t:=by rw[ht] at h1; simpa using h1.symm
     subst this
     split at h2
     ·split at h2
      ·simp at h2; subst h2; simp only[if_true]; exact hs
      ·simp at h2
     ·exact absurd rfl ‹_›
    ·rw[ae hi] at h2
     have dh:t'≠t:=λe=>hi (nm.vnd i i' t ht (e▸h1))
     rw[ae dh]
     exact(h.var i' t' u' h1 h2).keep e hk (by simp[An]; omega) (by simp[An])
   ·intro j' t' u' h1 h2
    rw[Fe _ _ _ _ dj,ae (λe:t'=t=>nm.sep j' t' i h1 (e▸ht))]
    exact(h.loc j' t' u' h1 h2).keep e hk (by simp[An]) (by simp)
   ·intro i' t' h1; simpa[Act.put] using h.tv i' t' h1
   ·intro j' t' h1; simpa[Act.put] using h.tl j' t' h1
 | l =>
   obtain⟨t,rfl,ht⟩:=hd
   have dj:=h.tl j t ht
   refine⟨h.len,?_,?_,?_,?_,(h.defers.trans e.df.symm),hg,ho,hx,h.heap.keep e hk (by intro k hk e; subst e; simp[An,Key.isH] at hk),by rw[hh]; exact h.hdom⟩
   ·intro i' t' u' h1 h2
    rw[Fe _ _ _ _ dj,ae (λe:t'=t=>nm.sep j t i' ht (e▸h1))]
    exact(h.var i' t' u' h1 h2).keep e hk (by simp[An]) (by simp[An])
   ·intro j' t' u' h1 h2
    rw[Fe _ _ _ _ dj]
    simp only[PI.put,aO] at h2
    by_cases hj:j=j'
    ·subst hj
     have:t'=t:=by rw[ht] at h1; simpa using h1.symm
     subst this
     split at h2
     ·split at h2
      ·simp at h2; subst h2; simp only[if_true]; exact hs
      ·simp at h2
     ·exact absurd rfl ‹_›
    ·rw[ae hj] at h2
     have dh:t'≠t:=λe=>hj (nm.lnd j j' t ht (e▸h1))
     rw[ae dh]
     exact(h.loc j' t' u' h1 h2).keep e hk (by simp[An]; omega) (by simp)
   ·intro i' t' h1; simpa[Act.put] using h.tv i' t' h1
   ·intro j' t' h1; simpa[Act.put] using h.tl j' t' h1
theorem SR.own {N:Nm} {w:World} {G:GS} {key:Key} {v:Value} {es:List PV} (h:VR N w G.fix G.heap v (.list true es)) (hr:Room w G key v es):SR N w G key v (.list true es):=⟨h,hr⟩
structure ListR (N:Nm) (w:World) (fix:Nat→Nat→Prop) (hp:Nat→Option Nat) (size:Nat) (news:List Value) (es:List PV):Prop where
 len:news.length=es.length*size
 sz:∀e∈es,e.cells.length=size
 flat:∀e∈es,∀x∈e.cells,x.flat=true
 vr:∀(i:Nat) (e:PV),es[i]? = some e→∀(k:Nat) (c:Value) (x:PV),news[i*size+k]? = some c→e.cells[k]? = some x→VR N w fix hp c x
section
variable {E:Env} {N:Nm} {w:World} {G:GS} {st:St} {a:Act} {vs:List Tmp} {ops:List Oper} {P:Program}
variable {o:Oper} {j:Nat} {next:Act→World→Prop} {Q:Exit→Act→World→Prop} {u:PV} {st1:St}
theorem ListR.append {fix:Nat→Nat→Prop} {hp:Nat→Option Nat} {size:Nat} {xs ys:List Value} {es fs:List PV} (h:ListR N w fix hp size xs es) (k:ListR N w fix hp size ys fs) (hs:size≠0):
  ListR N w fix hp size (xs++ys) (es++fs):=by
 refine⟨by simp[h.len,k.len,aS],?_,?_,?_⟩
 ·intro e he; rcases aw.1 he with he|he
  ·exact h.sz e he
  ·exact k.sz e he
 ·intro e he; rcases aw.1 he with he|he
  ·exact h.flat e he
  ·exact k.flat e he
 ·intro i e he m c x hc hx
  by_cases hi:i<es.length
  ·rw[al hi] at he
   have hm:m<size:=by have:=(ah.1 hx).1; have:=h.sz e (ax he); omega
   rw[al (by rw[h.len]; exact KC hi hm)] at hc
   exact h.vr i e he m c x hc hx
  ·rw[aq (by omega)] at he
   have nN:xs.length≤i*size+m:=by
    rw[h.len]
    have:es.length*size≤i*size:=bw _ (by omega)
    omega
   rw[aq nN,h.len] at hc
   refine k.vr _ e he m c x ?_ hx
   rw[show (i - es.length)*size+m=i*size+m - es.length*size by
    rw[Nat.sub_mul]
    have:es.length*size≤i*size:=bw _ (by omega)
    omega]
   exact hc
theorem ListR.mono {w':World} {fix fix':Nat→Nat→Prop} {hp fB:Nat→Option Nat} {size:Nat} {xs:List Value} {es:List PV} (h:ListR N w fix hp size xs es)
  (hf:∀b o,fix b o→fix' b o∧w'.cell? ⟨b,o,none⟩=w.cell? ⟨b,o,none⟩) (hh:∀n b,hp n=some b→fB n=some b) (hs:ShapeLe w w'):ListR N w' fix' fB size xs es:=
 ⟨h.len,h.sz,h.flat,λi e he k c x hc hx=>(h.vr i e he k c x hc hx).mono hf hh hs⟩
theorem ListR.one {fix:Nat→Nat→Prop} {hp:Nat→Option Nat} {size:Nat} {xs:List Value} {es:List PV} (h:ListR N w fix hp size xs es) (hs:size≠0):∀c∈xs,c.oneCell'=true:=by
 intro c hc
 obtain⟨m,hm⟩:=bj.1 hc
 have dc:m<es.length*size:=by have:=(ah.1 hm).1; rw[h.len] at this; exact this
 have hi:m / size<es.length:=by rw[Nat.div_lt_iff_lt_mul (by omega)]; exact dc
 have hk:m % size<size:=bV _ (by omega)
 have he:=an hi
 have dX:=ax he
 have fe:m % size<(es[m / size]).cells.length:=by rw[h.sz _ dX]; exact hk
 have hx:=an fe
 have x5:m / size*size+m % size=m:=by rw[cG]; exact Nat.div_add_mod m size
 have h1:=(h.vr _ _ he _ c _ (by rw[x5]; exact hm) hx).oneCell (h.flat _ dX _ (ax hx))
 cases c<;>first|rfl|simp[oneCell] at h1
theorem OQ {fix:Nat→Nat→Prop} {hp:Nat→Option Nat} {size:Nat} {v:Value} {own:Bool} {es:List PV} (h:VR N w fix hp v (.list own es)) (hh:zj size es=true):
  ∃ news, ListR N w fix hp size news es ∧ ((v = .slice none 0 0 ∧ es = [] ∧ news = []) ∨ (∃ ad cap, v = .slice (some ad) 0 cap ∧ es = [] ∧ news = []) ∨
    ∃b off cap,v = .slice (some ⟨b,off,none⟩) es.length cap∧es.length≤cap∧∀(j:Nat) (u:Value),news[j]? = some u→w.cell? ⟨b,off+j,none⟩=some u∧fix b (off+j)):=by
 cases h with
 | nils=>exact⟨[],⟨by simp,by simp,by simp,by simp⟩,.inl ⟨rfl,rfl,rfl⟩⟩
 | void _ ad cap=>exact⟨[],⟨by simp,by simp,by simp,by simp⟩,.inr (.inl ⟨ad,cap,rfl,rfl,rfl⟩)⟩
 | list _ b off len cap sz _ cv cY dl dj dg hcell di =>
   subst cY
   by_cases h0:es=[]
   ·subst h0
    exact⟨[],⟨by simp,by simp,by simp,by simp⟩,.inr (.inr ⟨b,off,cap,rfl,dl,by simp⟩)⟩
   ·have hs:sz=size:=by
     cases es with
     | nil=>exact absurd rfl h0
     | cons y ys =>
       have:=dj y (by simp)
       simp[zj] at hh
       omega
    subst hs
    refine⟨(List.range (es.length*sz)).map cv,⟨by simp,dj,dg,?_⟩,.inr (.inr ⟨b,off,cap,rfl,dl,?_⟩)⟩
    ·intro i e he k c x hc hx
     simp only[aF,ab] at hc
     obtain⟨m,hm,rfl⟩:=hc
     have:m=i*sz+k:=by
      have:=(ah.1 hm)
      obtain⟨h1,h2⟩:=this
      simp at h2; exact h2.symm
     subst this
     exact di i e he k x hx
    ·intro j u hu
     simp only[aF,ab] at hu
     obtain⟨m,hm,rfl⟩:=hu
     have kT:m=j∧j<es.length*sz:=by
      obtain⟨h1,h2⟩:=ah.1 hm
      simp at h1 h2; exact⟨h2.symm,h1⟩
     obtain⟨rfl,dc⟩:=kT
     exact hcell m dc
theorem Ue {fix:Nat→Nat→Prop} {hp:Nat→Option Nat} {size b off cap:Nat} {own:Bool} {es:List PV} {news:List Value} (h:ListR N w fix hp size news es) (dl:es.length≤cap)
  (hc:∀(j:Nat) (u:Value),news[j]? = some u→w.cell? ⟨b,off+j,none⟩=some u∧fix b (off+j)):VR N w fix hp (.slice (some ⟨b,off,none⟩) es.length cap) (.list own es):=by
 refine .list own b off es.length cap size es (λk=>news.getD k undef) rfl dl h.sz h.flat ?_ ?_
 ·intro k hk
  have dc:k<news.length:=by rw[h.len]; exact hk
  have:=hc k news[k] (an dc)
  simpa[List.getD,an dc] using this
 ·intro i e he k x hx
  have hk:k<size:=by have:=(ah.1 hx).1; have:=h.sz e (ax he); omega
  have hi:i<es.length:=(ah.1 he).1
  have dc:i*size+k<news.length:=by rw[h.len]; exact KC hi hk
  have:=h.vr i e he k news[i*size+k] x (an dc) hx
  simpa[List.getD,an dc] using this
theorem KD (P:Program) (g o:Nat) (t:TypeId) (fz:Nat×Nat):∀(vs:List Value) (i:Nat) (cur:Array Value) (w:World),w.heap[g]? = some (.cells cur t fz)→(∀o,o<cur.size→¬(fz.1≤o∧o<fz.2))→o+i+vs.length≤cur.size→(∀v∈vs,v.oneCell'=true) →
  (storeCells ⟨g,o,none⟩ vs i).run P w = .ok () (w.setRow g (cur.toList.take (o+i)++vs++cur.toList.drop (o+i+vs.length)).toArray)
 | [], i, cur, w, hg, _, _, _ => by
   simp only[storeCells,aW,bq,bx,bY,Array.toArray_toList]
   rw[setRow_self w g cur t fz hg]
   rfl
 | v :: rest, i, cur, w, hg, hz, hl, h1 => by
   have hi:o+i<cur.size:=by simp at hl; omega
   have eb:(⟨g,o,none⟩:Addr).add i=⟨g,o+i,none⟩:=by unfold Addr.add; split<;>simp_all
   have hcell:w.cell? ⟨g,o+i,none⟩=some cur[o+i]:=by simp[World.cell?,hg,hi]
   have uG:w.frozen? ⟨g,o+i,none⟩=false:=by
    have:=hz _ hi
    obtain⟨lo,jz⟩:=fz
    simp only at this
    simp only[World.frozen?,hg,Bool.and_eq_false_iff,cu]
    omega
   have dz:(store ((⟨g,o,none⟩:Addr).add i) v).run P w = .ok () (w.setRow g (cur.setIfInBounds (o+i) v)):=by
    rw[eb,run_store P w _ v _ (h1 v (by simp)),hcell]
    simp[uG,setCell_eq_setRow w g (o+i) cur t fz v hg]
   have ih:=KD P g o t fz rest (i+1) (cur.setIfInBounds (o+i) v) (w.setRow g (cur.setIfInBounds (o+i) v)) (setRow_heap w g cur _ t _ hg) (by simpa using hz) (by simp at hl ⊢; omega) (λx hx=>h1 x (by simp[hx]))
   simp only[storeCells,Sem.run_bind,dz,Result.andThen_ok,ih,setRow_setRow]
   congr 3
   have e:=list_seg_step cur.toList (o+i) v rest (by simp at hl ⊢; omega)
   simpa[Array.toList_setIfInBounds,cF] using e
theorem b9c (hE:EnvOk E N) (nm:Names vs (yk vs ops)) (ho:ops[j]? = some o) (hf:FI N w G st a vs (yk vs ops)) {ts tx e:TypeId} {size:Nat} {z:List PV} {s x:Operand} {ps:PX}
  (cZ:o.op = .call { callee := .builtin .append,args := #[s,x],argTypes := #[ts,tx] }) (eL:yR vs o.dst≠.n) (ft:P.underlying ts=some (.slice e)) (hn:yX P e=some size) (hz:Ac P e=some z)
  (kP:cx E vs ops s=some ps) {es xs:List PV} {st':St} (ee:tk st ps=some (.list true es,st')) (iw:zj size es=true) (cY:es.length+xs.length≤9223372036854775807) (fj:(es.length+xs.length)*P.bytesOf e≤140737488355328)
  {news:List Value} (f0:ListR N w G.fix G.heap size news xs) (ed:Src P size tx (a.eval x) xs.length news w)
  (hk:yK N w G a st' (.list true (es++xs)) vs ops j o next):o.wp P a w next Q:=by
 obtain⟨i,d,hi,gP,fZ,hd⟩:=Be hn
 obtain⟨i2,zv,ez,j5,_,kD,gG,_⟩:=Ef (N:=N) (w:=w) (fix:=G.fix) (hp:=G.heap) hz
 have:i2=i:=by rw[hi] at ez; simpa using ez.symm
 subst this
 subst gP
 have iq:zv.cells.size=i2.size:=by have:=gG.1; simp at this; omega
 have ie:P.bytesOf e=i2.bytes:=by simp[Program.bytesOf,hi]
 rw[ie] at fj
 obtain⟨G1,dD,el,je,fE,d7,di,fW,_,x6,_⟩:=GR hE kP hf ee (An (yR vs o.dst) j)
 obtain⟨olds,rm,d9⟩:=OQ di iw
 have dJ:Room w G1 (An (yR vs o.dst) j) (a.eval s) es:=fW
 have iE:∀v w',(Builtin.append_ #[ts,tx] o.type #[a.eval s,a.eval x]).run P w = .ok v w'→(execOp a.eval o).run P w = .ok (.value v) w':=by
  intro v w' hr
  simp[execOp,cZ,resolve,invoke,builtin,hr]
 have rn:ListR N w G1.fix G1.heap i2.size news xs:=by rw[fE,d7]; exact f0
 have ro:ListR N w G1.fix G1.heap i2.size olds es:=by rw[fE,d7]; exact rm
 have oS:VR N w G1.fix G1.heap (a.eval s) (.list true es):=by rw[fE,d7]; exact di
 have finish:∀(v:Value) (w':World) (G':GS),(Builtin.append_ #[ts,tx] o.type #[a.eval s,a.eval x]).run P w = .ok v w'→Ext w G1 w' G'→zu (λk=>k=An (yR vs o.dst) j) w G1 w' G' →
   (∀g b,G'.box g=some b→G1.box g=some b)→(∀b k,G'.ow b=some k→b<w'.heap.size)→(∀b o,G'.fix b o→b<w'.heap.size)→G'.heap=G1.heap→VR N w' G'.fix G'.heap v (.list true (es++xs))→Room w' G' (An (yR vs o.dst) j) v (es++xs) →
   o.wp P a w next Q:=by
  intro v w' G' hr cX db iJ how gB hh hv rp
  unfold Oper.wp
  rw[iE v w' hr]
  refine hk _ _ G' (dD.extDst nm (BH ho) eL cX db ?_ how gB hh (SR.own hv rp)) (el.trans cX) (BJ _ _ _)
  intro g b hb
  exact dD.gen g b (iJ g b hb)
 by_cases j6:∃base cap,a.eval s = .slice base es.length cap∧cap<es.length+xs.length
 ·
  obtain⟨base,cap,hv,dl⟩:=j6
  have iF:(Builtin.firstCells i2.size es.length (.slice base es.length cap)).run P w.drew = .ok olds.toArray w.drew:=by
   rcases d9 with⟨h1,h2,h3⟩|⟨ad,cap',h1,h2,h3⟩|⟨b,off,cap',h1,h2,h3⟩
   ·rw[hv] at h1; simp at h1
    obtain⟨rfl,_,rfl⟩:=h1
    subst h3
    exact run_firstCells_none w.drew _ _ _ _
   ·rw[hv] at h1; simp at h1
    obtain⟨rfl,_,rfl⟩:=h1
    subst h3
    rw[h2]
    exact run_firstCells_some w.drew _ _ _ _ _ [] (by simp) (by simp)
   ·rw[hv] at h1; simp at h1
    obtain⟨rfl,rfl⟩:=h1
    exact run_firstCells_some w.drew _ _ _ _ _ olds rm.len (λj u hu=>by rw[B9]; exact(h3 j u hu).1)
  have iC:Builtin.nextslicecap (es.length+xs.length) cap*i2.bytes≤281474976710656:=by
   exact growslice_fits dl fj
  have da:=run_append_grow_src (P:=P) w ts tx o.type e i2 zv ft hi j5 base es.length cap olds iF (a.eval x) xs.length news ed dl (by omega) iC
  rw[← hv] at da
  have gx:∀o,¬G1.fix w.heap.size o:=λo h=>by have:=dD.fixlt _ _ h; omega
  have ju:=grownCap_ge w (es.length+xs.length) cap e
  let CS:Array Value:=(olds++news).toArray++Builtin.zeroCells zv.cells (grownCap w (es.length+xs.length) cap e - (es.length+xs.length))
  let G':GS:={ G1 with fix:=λb o=>G1.fix b o∨(b=w.heap.size∧o<(es.length+xs.length)*i2.size),ow:=λb=>if b=w.heap.size then some (An (yR vs o.dst) j) else G1.ow b }
  have hR:=ro.append rn fZ
  have uH:CS.size=grownCap w (es.length+xs.length) cap e*i2.size:=by
   simp only[CS,b8,cr,size_zeroCells,iq,hR.len,ao]
   rw[Nat.sub_mul]
   have:(es.length+xs.length)*i2.size≤grownCap w (es.length+xs.length) cap e*i2.size:=bw _ ju
   omega
  have cX:Ext w G1 (w.drew.alloc (.cells CS e)) G':=by
   refine⟨rfl,rfl,rfl,by simp,λb hb _=>AF (w:=w.drew) hb,λb o h=>⟨.inl h,E9 (w:=w.drew) (dD.fixlt _ _ h)⟩,?_,?_,λ_ _ h=>h,.same λk hk=>AF (w:=w.drew) hk,rfl⟩
   ·rintro b o (h|h)
    ·exact .inl h
    ·exact .inr (.inl (by omega))
   ·intro b hb
    simp only[G'] at hb
    split at hb
    ·exact .inl (by omega)
    ·exact .inr hb
  refine finish _ _ G' da cX ?_ (λ_ _ h=>h) ?_ ?_ rfl ?_ ?_
  ·refine⟨?_,λ_ _ h=>h⟩
   intro b k hb _
   have dc:=dD.owlt _ _ hb
   refine⟨?_,AF (w:=w.drew) dc,?_⟩
   ·simp only[G']; rw[ae (by omega)]; exact hb
   ·rintro o (h|h)
    ·exact h
    ·omega
  ·intro b k hb
   simp only[G'] at hb
   split at hb
   ·simp; omega
   ·have:=dD.owlt _ _ hb; simp; omega
  ·rintro b o (h|h)
   ·have:=dD.fixlt _ _ h; simp; omega
   ·simp; omega
  ·have ev:(es++xs).length=es.length+xs.length:=by simp
   have fc:VR N (w.drew.alloc (.cells CS e)) G'.fix G'.heap (.slice (some ⟨w.heap.size,0,none⟩) (es++xs).length (grownCap w (es.length+xs.length) cap e)) (.list true (es++xs)) := ?_
   ·rw[ev] at fc; exact fc
   refine Ue (hR.mono cX.fix cX.heap cX.shape) (by rw[ev]; exact ju) ?_
   intro j' u' hu
   have dc:j'<(olds++news).length:=(ah.1 hu).1
   refine⟨?_,.inr ⟨rfl,by rw[hR.len,ev] at dc; omega⟩⟩
   rw[aU]
   have:=World.cell?_alloc_new w.drew CS e j'
   refine this.trans ?_
   simp only[CS]
   rw[bp (by simpa using dc)]
   simpa using hu
  ·refine .inr ⟨by simp[G'],i2.size,CS,e,hR.sz,.of (Df (w:=w.drew)),by rw[uH]; simp,by omega,?_⟩
   rintro o' eQ (h|h)
   ·exact gx _ h
   ·simp at eQ; omega
 ·
  have lI:∃base cap,a.eval s = .slice base es.length cap:=by
   rcases d9 with⟨h1,h2,_⟩|⟨ad,cap,h1,h2,_⟩|⟨b,off,cap,h1,_⟩
   ·exact⟨none,0,by rw[h1,h2]; rfl⟩
   ·exact⟨some ad,cap,by rw[h1,h2]; rfl⟩
   ·exact⟨_,cap,h1⟩
  obtain⟨base,cap,hv⟩:=lI
  have eF:es.length+xs.length≤cap:=by
   rcases Nat.lt_or_ge cap (es.length+xs.length) with h|h
   ·exact absurd ⟨base,cap,hv,h⟩ j6
   ·exact h
  by_cases gF:xs=[]
  ·subst gF
   have jL:news=[]:=by have:=f0.len; simpa using this
   subst jL
   have da:(Builtin.append_ #[ts,tx] o.type #[a.eval s,a.eval x]).run P w = .ok (a.eval s) w:=by
    rw[hv]
    have uI:es.length≤cap:=by simpa using eF
    have jV:(Builtin.lenOf (a.eval x)).run P w = .ok 0 w:=by simpa using ed.len w
    have kj:(Builtin.firstCells i2.size 0 (a.eval x)).run P w = .ok #[] w:=by simpa using ed.cells
    rcases ed.kind with⟨e'',dt⟩|dt <;>
     cases base<;>simp[Builtin.append_,run_underlying ft,run_underlying dt,Go.sizeOf,typeInfo,hi,jV,uI,kj,storeCells]
   refine finish _ w G1 da (Ext.refl _ _) ⟨λb k h _=>⟨h,rfl,λ_ h=>h⟩,λ_ _ h=>h⟩ (λ_ _ h=>h) dD.owlt dD.fixlt rfl (by simpa using oS) (by simpa using dJ)
  ·
   have vJ:0<xs.length:=bK.2 gF
   rcases d9 with⟨h1,h2,_⟩|⟨ad,cap',h1,h2,_⟩|⟨b,off,cap',h1,h2,h3⟩
   ·rw[hv] at h1; simp at h1; omega
   ·have uJ:base=some ad∧cap=cap':=by rw[hv,h2] at h1; simpa using h1
    obtain⟨rfl,rfl⟩:=uJ
    rw[hv] at dJ
    rw[h2] at dJ eF
    rcases dJ with dJ|⟨_,_,_,_,_,_,_,dB,_⟩
    ·simp at eF dJ; omega
    ·simp at dB
   ·have uJ:base=some ⟨b,off,none⟩∧cap=cap':=by rw[hv] at h1; simpa using h1
    obtain⟨rfl,rfl⟩:=uJ
    rw[hv] at dJ
    rcases dJ with dJ|⟨how,sz,cur,T,dj,⟨fz,eo,oT⟩,iC,dB,dL⟩
    ·omega
    ·have uK:sz=i2.size:=by
      cases es with
      | nil=>simp at dB
      | cons y ys=>have:=dj y (by simp); have:=rm.sz y (by simp); omega
     subst uK
     simp only at how eo iC dL oT
     have uL:off+es.length*i2.size+news.length≤cur.size:=by
      rw[f0.len]
      have:(es.length+xs.length)*i2.size≤cap*i2.size:=bw _ eF
      rw[aS] at this; omega
     let NR:Array Value:=(cur.toList.take (off+es.length*i2.size)++news++cur.toList.drop (off+es.length*i2.size+news.length)).toArray
     have da:(Builtin.append_ #[ts,tx] o.type #[a.eval s,a.eval x]).run P w = .ok (.slice (some ⟨b,off,none⟩) (es.length+xs.length) cap) (w.setRow b NR):=by
      have dz:=KD P b (off+es.length*i2.size) T fz news 0 cur w eo oT (by simpa using uL) (f0.one fZ)
      simp only[bx] at dz
      rw[hv]
      rcases ed.kind with⟨e'',dt⟩|dt <;>
       simp[Builtin.append_,run_underlying ft,run_underlying dt,Go.sizeOf,typeInfo,hi,ed.len,eF,ed.cells,B9,dz,NR]
     have fK:b<w.heap.size:=dD.owlt _ _ how
     have du:∀x,x≠b→(w.setRow b NR).heap[x]? = w.heap[x]? := λx hx=>setRow_other w b x _ hx
     let G':GS:={ G1 with fix:=λb' o=>G1.fix b' o∨(b'=b∧off+es.length*i2.size≤o∧o<off+(es.length+xs.length)*i2.size) }
     have kE:NR.size=cur.size:=by simp only[NR,cr,ao,ba,cm,bu]; omega
     have tU:∀k,k<off+es.length*i2.size→NR[k]? = cur[k]? := by
      intro k hk
      simp only[NR,b7,aI]
      rw[al (by simp; omega),aY,af hk]
      simp
     have uM:∀k,k<news.length→NR[off+es.length*i2.size+k]? = news[k]? := by
      intro k hk
      have hl:(cur.toList.take (off+es.length*i2.size)).length=off+es.length*i2.size:=by simp; omega
      simp only[NR,b7,aI]
      rw[aq (by omega),hl,al (by omega)]
      congr 1; omega
     have lT:∀k,(w.setRow b NR).cell? ⟨b,k,none⟩=NR[k]? := λk=>cell_setRow_same w b k cur NR T fz eo
     have cX:Ext w G1 (w.setRow b NR) G':=by
      refine⟨rfl,rfl,rfl,by simp[World.setRow],?_,?_,?_,λ_ h => .inr h,λ_ _ h=>h,IN eo _ kE,rfl⟩
      ·intro y _ kl
       exact du y (by rintro rfl; rw[how] at kl; simp at kl)
      ·intro y o' gB
       refine⟨.inl gB,?_⟩
       by_cases j7:y=b
       ·subst j7
        have dc:o'<off+es.length*i2.size:=by
         rcases Nat.lt_or_ge o' (off+es.length*i2.size) with h|h
         ·exact h
         ·exact absurd gB (dL o' h)
        rw[lT,tU o' dc]
        simp[World.cell?,eo]
       ·simp only[World.cell?,du y j7]
      ·rintro y o' (h|h)
       ·exact .inl h
       ·exact .inr (.inr (by rw[h.1,how]; simp))
     refine finish _ _ G' da cX ?_ (λ_ _ h=>h) (λy k hy=>by simpa[World.setRow] using dD.owlt y k hy) ?_ rfl ?_ ?_
     ·refine⟨?_,λ_ _ h=>h⟩
      intro y k hy iI
      have j7:y≠b:=by rintro rfl; rw[how] at hy; simp at hy; exact iI hy.symm
      refine⟨hy,du y j7,?_⟩
      rintro o' (h|h)
      ·exact h
      ·exact absurd h.1 j7
     ·rintro y o' (h|h)
      ·simpa[World.setRow] using dD.fixlt _ _ h
      ·simp[World.setRow]; omega
     ·have ev:(es++xs).length=es.length+xs.length:=by simp
      rw[← ev]
      refine Ue ((ro.append rn fZ).mono cX.fix cX.heap cX.shape) (by rw[ev]; exact eF) ?_
      intro k u' hu
      by_cases fm:k<olds.length
      ·rw[al fm] at hu
       obtain⟨c1,c2⟩:=h3 k u' hu
       have:=cX.fix b (off+k) (by rw[fE]; exact c2)
       exact⟨this.2.trans c1,this.1⟩
      ·rw[aq (by omega)] at hu
       have dc:k - olds.length<news.length:=(ah.1 hu).1
       have he:off+k=off+es.length*i2.size+(k - olds.length):=by have:=rm.len; omega
       refine⟨?_,.inr ⟨rfl,?_,?_⟩⟩
       ·rw[lT,he,uM _ dc]; exact hu
       ·rw[he]; omega
       ·rw[he,aS]; have:=f0.len; omega
     ·refine .inr ⟨how,i2.size,NR,T,?_,⟨fz,setRow_heap w b cur NR T fz eo,λo ho=>oT o (by rw[← kE]; exact ho)⟩,?_,by omega,?_⟩
      ·intro y hy
       rcases aw.1 hy with hy|hy
       ·exact rm.sz y hy
       ·exact f0.sz y hy
      ·simp only[NR,cr,ao,ba,cm,bu]; omega
      ·rintro o' eQ (h|h)
       ·refine dL o' ?_ h
        simp only[ao,aS] at eQ
        omega
       ·simp only[ao,aS] at eQ
        have:=h.2.2
        rw[aS] at this
        omega
theorem b7R (hE:EnvOk E N) (nm:Names vs (yk vs ops)) (ho:ops[j]? = some o) (hf:FI N w G st a vs (yk vs ops)) {ts tx e e':TypeId} {size:Nat} {z:List PV} {s x:Operand} {ps px:PX}
  (cZ:o.op = .call { callee := .builtin .append,args := #[s,x],argTypes := #[ts,tx] }) (eL:yR vs o.dst≠.n) (ft:P.underlying ts=some (.slice e)) (iA:P.underlying tx=some (.slice e')) (hn:yX P e=some size) (hz:Ac P e=some z)
  (kP:cx E vs ops s=some ps) (hx:cx E vs ops x=some px) {cf:yt} (hs:opv cf (.append size (P.bytesOf e) ps px) st=some (u,st1)) (hk:yK N w G a st1 u vs ops j o next):o.wp P a w next Q:=by
 simp only[opv] at hs
 split at hs
 ·rename_i xs es st' rq ee
  split at hs
  ·rename_i de
   obtain⟨iw,fX,lU⟩:=de
   have cY:es.length+xs.length≤9223372036854775807:=by rcases lU with⟨h,_⟩|⟨h,_⟩<;>omega
   have fj:(es.length+xs.length)*P.bytesOf e≤140737488355328:=by
    rcases lU with⟨h,h'⟩|⟨_,h⟩
    ·exact aH (Nat.mul_le_mul h h') (by decide)
    ·exact h
   simp only[aa,ac] at hs
   obtain⟨rfl,rfl⟩:=hs
   simp only[aj] at rq
   obtain⟨px0,mO,gX⟩:=rq
   have jc:=(yT hE hx hf mO).1.row gX
   obtain⟨news,f0,rt⟩:=OQ jc fX
   obtain⟨_,_,_,_,fZ,_⟩:=Be hn
   have ed:Src P size tx (a.eval x) xs.length news w:=by
    rcases rt with⟨h1,h2,h3⟩|⟨ad,cap,h1,h2,h3⟩|⟨b,off,cap,h1,h2,h3⟩
    ·rw[h1,h2,h3]; exact Src.ofNil w iA 0
    ·rw[h1,h2,h3]; exact Src.ofSlice w iA ad 0 cap [] (by simp) (by simp) (by simp)
    ·rw[h1]
     exact Src.ofSlice w iA ⟨b,off,none⟩ xs.length cap news f0.len (λj u hu=>by rw[B9]; exact(h3 j u hu).1) (f0.one fZ)
   exact b9c hE nm ho hf cZ eL ft hn hz kP ee iw cY fj f0 ed hk
  ·simp at hs
 ·simp at hs
end
section
variable {E:Env} {N:Nm} {w:World} {G:GS} {st:St} {a:Act} {vs:List Tmp} {ops:List Oper} {P:Program}
variable {o:Oper} {j:Nat} {next:Act→World→Prop} {Q:Exit→Act→World→Prop} {u:PV} {st1:St}
def GS.more (G:GS) (b n:Nat):GS:={ G with ow:=λx=>if x=b then some (.hobj n) else G.ow x,heap:=λm=>if m=n then some b else G.heap m }
theorem IP (nm:Names vs (yk vs ops)) (ho:ops[j]? = some o) (hf:FI N w G st a vs (yk vs ops)) {ob:PObj} {mob:Obj} {v:Value} {u:PV}
  (da:(execOp a.eval o).run P w = .ok (.value v) (w.alloc mob)) (hv:∀G',G'=G.more w.heap.size st.heap.length→SR N (w.alloc mob) G' (An (yR vs o.dst) j) v u)
  (hR:∀G',G'=G.more w.heap.size st.heap.length→Ext w G (w.alloc mob) G'→ObjR N (w.alloc mob) G' st.heap.length w.heap.size ob)
  (hk:yK N w G a { st with heap:=st.heap++[ob] } u vs ops j o next):o.wp P a w next Q:=by
 unfold Oper.wp
 rw[da]
 let G':GS:=G.more w.heap.size st.heap.length
 have cX:Ext w G (w.alloc mob) G':=by
  refine⟨rfl,rfl,rfl,by simp,λb hb _=>AF hb,λb o h=>⟨h,E9 (hf.fixlt _ _ h)⟩,λ_ _ h => .inl h,?_,?_,.same λk hk=>AF hk,rfl⟩
  ·intro b hb
   by_cases dc:b<w.heap.size
   ·refine .inr ?_
    simp only[G',GS.more] at hb
    rw[ae (by omega)] at hb
    exact hb
   ·exact .inl (by omega)
  ·intro n b h
   have:=hf.hdom _ _ h
   simp only[G',GS.more]
   rw[ae (by omega)]; exact h
 have db:zu (λ_=>False) w G (w.alloc mob) G':=by
  refine⟨?_,λ_ _ h=>h⟩
  intro b k hb _
  have dc:=hf.owlt _ _ hb
  refine⟨?_,AF dc,λ_ h=>h⟩
  simp only[G',GS.more]
  rw[ae (by omega)]; exact hb
 have dD:FI N (w.alloc mob) G' { st with heap:=st.heap++[ob] } a vs (yk vs ops):=by
  refine⟨hf.len,λi t u h1 h2=>(hf.var i t u h1 h2).keep cX db (λh=>h) (λ_ _ _ h=>h),λj t u h1 h2=>(hf.loc j t u h1 h2).keep cX db (λh=>h) (λ_ _ _ h=>h),hf.tv,hf.tl,hf.defers,hf.gen,?_,?_,?_,?_⟩
  ·intro b k hb
   simp only[G',GS.more] at hb
   split at hb
   ·simp; omega
   ·have:=hf.owlt _ _ hb; simp; omega
  ·intro b o h; have:=hf.fixlt _ _ h; simp; omega
  ·exact hf.heap.push cX db (λ_ _ _ => .inr ⟨λh=>h,λh=>h⟩) (.inr ⟨w.heap.size,by simp[G',GS.more],by simp[G',GS.more],hR G' rfl cX⟩)
  ·intro n b h
   simp only[G',GS.more] at h
   simp only[ao,cR]
   split at h
   ·omega
   ·have:=hf.hdom _ _ h; omega
 exact hk _ _ G' (dD.put nm (BH ho) (hv _ rfl)) cX (BJ _ _ _)
theorem KH (hf:FI N w G st a vs (yk vs ops)) {cs:Array Value} {ps:List PV} {T:TypeId}
  (hR:∀(k:Nat) (c:Value) (x:PV),cs[k]? = some c→ps[k]? = some x→VR N w G.fix G.heap c x∧x.flat=true∧(∀es,x = .list true es→c = .slice none 0 0)) (hl:cs.size=ps.length)
  {G':GS} (hG:G'=G.more w.heap.size st.heap.length) (cX:Ext w G (w.alloc (.cells cs T)) G'):ObjR N (w.alloc (.cells cs T)) G' st.heap.length w.heap.size (.cells ps):=by
 subst hG
 have gx:∀o,¬G.fix w.heap.size o:=λo h=>by have:=hf.fixlt _ _ h; omega
 refine⟨gx,cs,T,Df,Nat.le_of_eq hl.symm,?_⟩
 intro k c x hc hx
 obtain⟨h1,h2,h3⟩:=hR k c x hc hx
 refine⟨h1.ext cX,h2,?_⟩
 split
 ·rename_i es
  have:=h3 es rfl
  subst this
  trivial
 ·trivial
theorem b7X (nm:Names vs (yk vs ops)) (ho:ops[j]? = some o) (hf:FI N w G st a vs (yk vs ops)) {t:TypeId} {z:List PV} (cZ:o.op = .alloc t) (hz:Ac P t=some z) {cf:yt}
  (hs:yo cf (.newobj z) st=some (u,st1)) (hk:yK N w G a st1 u vs ops j o next):o.wp P a w next Q:=by
 simp only[yo,aa,ac] at hs
 obtain⟨rfl,rfl⟩:=hs
 obtain⟨ti,zv,h1,h2,h3,h4,h5,_⟩:=Ef (N:=N) (w:=w) (fix:=G.fix) (hp:=G.heap) hz
 refine IP (mob := .cells zv.cells t) (v := .pointer (some ⟨w.heap.size,0,none⟩)) nm ho hf ?_ ?_ (λG' hG cX=>KH hf ?_ ?_ hG cX) hk
 ·simp[execOp,cZ,Instr.alloc,zeroValue,typeInfo,h1,h2,newVar,newRow]
 ·rintro G' rfl
  exact .ptr _ _ w.heap.size (by simp[GS.more])
 ·intro k c x hc hx
  refine⟨h5.2.2 k c x (by simpa using hc) hx,h5.2.1 x (ax hx),?_⟩
  rintro es rfl
  unfold Ac at hz
  simp only[h1,h2,aj] at hz
  obtain⟨cs',d9,hz⟩:=hz
  split at hz
  ·simp at hz; subst hz
   exact GO d9 k c es (by simpa using hc) hx
  ·simp at hz
 ·have:=h5.1; simpa using this
theorem b7Y (hE:EnvOk E N) (nm:Names vs (yk vs ops)) (ho:ops[j]? = some o) (hf:FI N w G st a vs (yk vs ops)) {t:TypeId} {n:Nat} {x:Operand} {px:PX} (cZ:o.op = .box t x) (hn:yX P t=some n) (hx:cx E vs ops x=some px)
  {cf:yt} (hs:yo cf (.boxobj n px) st=some (u,st1)) (hk:yK N w G a st1 u vs ops j o next):o.wp P a w next Q:=by
 simp only[yo] at hs
 split at hs
 ·rename_i p hp
  split at hs
  ·rename_i hl
   simp only[aa,ac] at hs
   obtain⟨rfl,rfl⟩:=hs
   obtain⟨_,_,_,_,eY,_⟩:=Be hn
   have hv:=(yT hE hx hf hp).1
   have dG:=(CellsR.of_cells hv (by intro e; rw[e] at hl; simp at hl; omega))
   refine IP (mob := .cells (a.eval x).cells t) (v := .pointer (some ⟨w.heap.size,0,none⟩)) nm ho hf ?_ ?_ (λG' hG cX=>KH hf ?_ ?_ hG cX) hk
   ·simp[execOp,cZ,Instr.box,newVar,newRow]
   ·rintro G' rfl
    exact .ptr _ _ w.heap.size (by simp[GS.more])
   ·intro k c y hc hy
    refine⟨dG.2.2 k c y (by simpa using hc) hy,dG.2.1 y (ax hy),?_⟩
    rintro es rfl
    have fY:∀es,p≠.list true es:=by
     rintro es rfl
     unfold rd at hp
     cases h1:raw st px with
     | none=>rw[h1] at hp; simp at hp
     | some q=>rw[h1] at hp; cases q<;>simp[cp] at hp
    generalize a.eval x=v at hv hc
    cases hv with
    | agg cs ps cY dg eM hcell=>exact eM k c es hc hy
    | _ =>
      exfalso
      cases k with
      | succ k=>simp[PV.cells] at hy
      | zero =>
        simp[PV.cells] at hy
        try (obtain⟨rfl,rfl⟩:=hy; exact fY _ rfl)
        try (subst hy; exact fY _ rfl)
   ·have:=dG.1; simpa using this
  ·simp at hs
 ·simp at hs
theorem b9j (nm:Names vs (yk vs ops)) (ho:ops[j]? = some o) (hf:FI N w G st a vs (yk vs ops)) {t:TypeId} (cZ:o.op = .makeMap t none) {cf:yt}
  (hs:yo cf .mkmap st=some (u,st1)) (hk:yK N w G a st1 u vs ops j o next):o.wp P a w next Q:=by
 simp only[yo,aa,ac] at hs
 obtain⟨rfl,rfl⟩:=hs
 refine IP (mob := .map #[] 0) (v := .map (some w.heap.size)) nm ho hf ?_ ?_ ?_ hk
 ·simp[execOp,cZ,Instr.makeMap]
 ·rintro G' rfl
  exact .map _ w.heap.size (by simp[GS.more])
 ·rintro G' rfl cX
  exact⟨#[],0,Df,rfl,by simp,by simp,by simp⟩
theorem FT (hf:FI N w G st a vs (yk vs ops)) {n b:Nat} {cs:List PV} (hg:yN st n=some cs) (hb:G.heap n=some b):
  G.ow b=some (.hobj n)∧(∀o,¬G.fix b o)∧∃cv T,w.heap[b]? = some (.cells cv T (0,0))∧cs.length≤cv.size∧∀(k:Nat) (c:Value) (x:PV),cv[k]? = some c→cs[k]? = some x→CR N w G (.hcell n k) c x:=by
 unfold yN at hg
 split at hg
 ·rename_i cs' hn
  simp at hg; subst hg
  rcases hf.heap.1 n _ hn with e|⟨b',h1,h2,h3,h4⟩
  ·simp at e
  have:b'=b:=by rw[hb] at h1; simpa using h1.symm
  subst this
  exact⟨h2,h3,h4⟩
 ·simp at hg
theorem NZ {b n:Nat} {cv:Array Value} {T:TypeId} {cs:List PV} (hh:w.heap[b]? = some (.cells cv T (0,0))) (hl:cs.length≤cv.size)
  (hc:∀(k:Nat) (c:Value) (x:PV),cv[k]? = some c→cs[k]? = some x→CR N w G (.hcell n k) c x):
  CellsR N w G.fix G.heap (cv.toList.take cs.length) cs∧∀(k:Nat) (v:Value),(cv.toList.take cs.length)[k]? = some v→w.cell? ⟨b,k,none⟩=some v:=by
 have get:∀(k:Nat) (v:Value),(cv.toList.take cs.length)[k]? = some v→cv[k]? = some v:=by
  intro k v hv
  rw[aY] at hv
  split at hv
  ·simpa using hv
  ·simp at hv
 refine⟨⟨by simp; omega,?_,λi c x h1 h2=>(hc i c x (get i c h1) h2).1⟩,?_⟩
 ·intro x hx
  obtain⟨i,hi⟩:=bj.1 hx
  have dc:i<cv.size:=by have:=(ah.1 hi).1; omega
  exact(hc i cv[i] x (by simp[dc]) hi).2.1
 ·intro k v hv
  simp[World.cell?,hh,get k v hv]
theorem KI (hE:EnvOk E N) {x:Operand} {px:PX} {n off:Nat} (hc:cx E vs ops x=some px) (hf:FI N w G st a vs (yk vs ops)) (hr:addr st px=some (.ptr n off)):
  ∃b,a.eval x = .pointer (some ⟨b,off,none⟩)∧G.heap n=some b:=by
 rcases Ee hE hc hf hr with⟨_,_,_,_,h,_⟩|⟨h,_⟩
 ·simp at h
 ·generalize a.eval x=v at h
  cases h with
  | ptr _ _ b hb=>exact⟨b,rfl,hb⟩
theorem Uk (hE:EnvOk E N) (nm:Names vs (yk vs ops)) (ho:ops[j]? = some o) (hf:FI N w G st a vs (yk vs ops)) {t:TypeId} {n:Nat} {x:Operand} {px:PX} {tk:Bool} (cZ:o.op = .load t x) (hn:yX P t=some n)
  (hx:cx E vs ops x=some px) {cf:yt} (hs:yo cf (.load n (zl P t) px tk) st=some (u,st1)) (hk:yK N w G a st1 u vs ops j o next):o.wp P a w next Q:=by
 have plain:∀r,(Instr.loadAt t (a.eval x)).run P w = .ok r w→(execOp a.eval o).run P w = .ok (.value r) w:=by
  intro r hr
  simp[execOp,cZ,hr]
 have eY:n≠0:=by obtain⟨_,_,_,_,h,_⟩:=Be hn; exact h
 simp only[yo] at hs
 split at hs
 ·rename_i cs ha
  simp only[ab,ac] at hs
  obtain⟨r,hr,rfl,rfl⟩:=hs
  rcases Ee hE hx hf ha with⟨_,_,_,_,h,_⟩|⟨h,_⟩
  ·simp at h
  ·obtain⟨r',h1,h2,h3⟩:=OL (P:=P) hn h hr
   exact yV nm ho hf (plain _ h1) (SR.of_pure h2 h3) hk
 ·rename_i m off ha
  obtain⟨b,hv,hb⟩:=KI hE hx hf ha
  simp only[aj] at hs
  obtain⟨cs,hg,hs⟩:=hs
  obtain⟨eN,gS,cv,T,hh,hl,hc⟩:=FT hf hg hb
  split at hs
  ·rename_i es ee hcell
   simp only[aa,ac] at hs
   obtain⟨rfl,rfl⟩:=hs
   simp only[ap,bG] at ee
   have dc:off<cv.size:=by have:=(ah.1 hcell).1; omega
   obtain⟨di,_,dJ⟩:=hc off cv[off] _ (by simp[dc]) hcell
   obtain⟨G',hG,fV⟩:=Room.give (key':=An (yR vs o.dst) j) dJ
   have iR:G'.box=G.box∧G'.fix=G.fix∧G'.heap=G.heap:=by
    rcases hG with rfl|⟨b,_,rfl⟩<;>exact⟨rfl,rfl,rfl⟩
   have cX:Ext w G w G':=by
    rcases hG with rfl|⟨b,hb,rfl⟩
    ·exact Ext.refl _ _
    ·exact Kz b _ (λ_=>by simp[hb])
   have db:zu (λk=>k = .hcell m off) w G w G':=by
    rcases hG with rfl|⟨b,hb,rfl⟩
    ·exact⟨λb k h _=>⟨h,rfl,λ_ h=>h⟩,λ_ _ h=>h⟩
    ·exact KA b _ (λk' dt=>by rw[hb] at dt; simpa using dt.symm)
   have dD:FI N w G' (yH st m (.cells (cs.set off (.list false es)))) a vs (yk vs ops):=by
    refine⟨hf.len,λi t' u' h1 h2=>(hf.var i t' u' h1 h2).keep cX db (by simp) (by simp),λi t' u' h1 h2=>(hf.loc i t' u' h1 h2).keep cX db (by simp) (by simp),hf.tv,hf.tl,(hf.defers.trans cX.df.symm),by rw[iR.1]; exact hf.gen,?_,by rw[iR.2.1]; exact hf.fixlt,?_,?_⟩
    ·intro b' k dn
     rcases hG with rfl|⟨b2,dK,rfl⟩
     ·exact hf.owlt _ _ dn
     ·simp only[GS.give] at dn
      split at dn
      ·subst_vars; exact hf.owlt _ _ dK
      ·exact hf.owlt _ _ dn
    ·refine hf.heap.keepBut cX db (λn k dh=>⟨by simp,by simp; omega⟩) (λ_ =>?_)
     refine .inr ⟨b,cX.heap _ _ hb,(db.1 _ _ eN (by simp)).1,by rw[iR.2.1]; exact gS,cv,T,hh,by simp[hl],?_⟩
     intro k c y dY hy
     rw[aO] at hy
     split at hy
     ·rename_i eA
      subst eA
      split at hy
      ·simp at hy; subst hy
       have:c=cv[off]:=by simp[dc] at dY; exact dY.symm
       subst this
       exact⟨(di.dem).ext cX,rfl,trivial⟩
      ·simp at hy
     ·rename_i eA
      exact(hc k c y dY hy).keep cX db (by simp; omega)
    ·rw[iR.2.2]; simp only[yH,aZ]; exact hf.hdom
   unfold Oper.wp
   have da:(Instr.loadAt t (a.eval x)).run P w = .ok cv[off] w:=by
    have dH:w.cell? ⟨b,off,none⟩=some cv[off]:=by simp[World.cell?,hh,dc]
    rw[hv]
    simp[Instr.loadAt,Instr.sureAddr,loadVar,GP hn,ee.2,dH]
   rw[plain _ da]
   exact hk _ _ G' (dD.put nm (BH ho) ⟨di.ext cX,fV⟩) cX (BJ _ _ _)
  ·simp only[ab,ac] at hs
   obtain⟨r,hr,rfl,rfl⟩:=hs
   obtain⟨hR,hcell⟩:=NZ hh hl hc
   obtain⟨k1,k2,k3⟩:=Gy hR hr eY (ED hn)
   have:=Gz (w:=w) hn b off ((cv.toList.take cs.length).drop off) (by simp at k1 ⊢; omega) (λj v hv=>by
    rw[bc] at hv
    exact hcell _ _ hv)
   refine yV nm ho hf (plain _ ?_) (SR.of_pure k2 k3) hk
   rw[hv]
   simpa[Instr.loadAt,Instr.sureAddr] using this
 ·simp at hs
theorem b4c {n off:Nat} {t:TypeId} {cv:Array Value} {cs cs':List PV} {v:PV} {val:Value} (hl:cs.length≤cv.size) (hn:yX P t=some n) (dz:yM n (zl P t) cs off v=some cs') (di:VR N w G.fix G.heap val v):
  ∃ nc : List Value, val.cells.toList = nc ∧ nc.length = n ∧ off + n ≤ cv.size ∧ (∀ c ∈ nc, c.oneCell' = true) ∧ cs'.length = cs.length ∧
    ∀ (k : Nat) (c : Value) (z : PV), (cv.toList.take off ++ nc ++ cv.toList.drop (off + n))[k]? = some c → cs'[k]? = some z →
      (cv[k]? = some c∧cs[k]? = some z)∨(VR N w G.fix G.heap c z∧z.flat=true∧∀es,z = .list true es→(k=off∧c=val∧v = .list true es)∨c = .slice none 0 0):=by
 unfold yM at dz
 split at dz
 ·rename_i iB
  split at dz
  ·rename_i ws
   split at dz
   ·rename_i de
    simp only[aa] at dz; subst dz
    obtain⟨ca,oG,hR⟩:=CellsR.of_agg di
    have hO:OwnNil ca.toList ws:=OwnNil.of_agg (oG▸di)
    have dH:val.cells.toList=ca.toList:=by rw[oG]; rfl
    have cY:ca.toList.length=n:=by have:=hR.1; omega
    refine⟨ca.toList,dH,cY,by omega,?_,by simp; omega,?_⟩
    ·intro c gQ
     obtain⟨i,hi⟩:=bj.1 gQ
     have dc:i<ws.length:=by have:=(ah.1 hi).1; have:=hR.1; omega
     have h1:=hR.2.2 i c ws[i] hi (an dc)
     have h2:=h1.oneCell (hR.2.1 _ (ak dc))
     cases c<;>first|rfl|simp[oneCell] at h2
    ·intro k c z dY hz
     rw[aI] at dY
     have gj:(cv.toList.take off).length=off:=by simp; omega
     have lS:(cs.take off).length=off:=by simp; omega
     by_cases h1:k<off
     ·rw[al (by omega),aY,af h1] at dY
      rw[al (by omega),aY,af h1] at hz
      exact .inl ⟨by simpa using dY,hz⟩
     ·rw[aq (by omega),gj] at dY
      rw[aq (by omega),lS] at hz
      by_cases h2:k<off+n
      ·rw[al (by omega)] at dY
       rw[al (by omega)] at hz
       refine .inr ⟨hR.2.2 _ c z dY hz,hR.2.1 z (ax hz),?_⟩
       rintro es rfl
       exact .inr (hO _ c es dY hz)
      ·rw[aq (by omega),bc,cY] at dY
       rw[aq (by omega),bc,de.1] at hz
       rw[show off+n+(k - off - n)=k by omega] at dY hz
       exact .inl ⟨by simpa using dY,hz⟩
   ·simp at dz
  ·simp at dz
 ·rename_i iB
  have pN:=ED hn (by simpa using iB)
  subst pN
  split at dz
  ·rename_i de
   simp only[aa] at dz; subst dz
   have h1:=di.oneCell de.2
   have dH:val.cells.toList=[val]:=by
    cases val<;>first|rfl|simp[oneCell] at h1
   refine⟨[val],dH,rfl,by omega,?_,by simp,?_⟩
   ·intro c gQ
    simp at gQ; subst gQ
    cases c<;>first|rfl|simp[oneCell] at h1
   ·intro k c z dY hz
    rw[aI] at dY
    have gj:(cv.toList.take off).length=off:=by simp; omega
    rw[aO] at hz
    split at hz
    ·rename_i ki
     subst ki
     split at hz
     ·simp at hz; subst hz
      rw[aq (by omega),gj] at dY
      simp at dY; subst dY
      exact .inr ⟨di,de.2,λes e => .inl ⟨rfl,rfl,e⟩⟩
     ·simp at hz
    ·rename_i ki
     refine .inl ⟨?_,hz⟩
     by_cases h1:k<off
     ·rw[al (by omega),aY,af h1] at dY
      simpa using dY
     ·rw[aq (by omega),gj,aq (by simp; omega),bc] at dY
      simp only[cR] at dY
      rw[show off+1+(k - off - 1)=k by omega] at dY
      simpa using dY
  ·simp at dz
theorem Ul (hE:EnvOk E N) (nm:Names vs (yk vs ops)) (ho:ops[j]? = some o) (hf:FI N w G st a vs (yk vs ops)) {t:TypeId} {n:Nat} {x y:Operand} {px py:PX} (cZ:o.op = .store t x y) (eL:o.dst=none) (hn:yX P t=some n)
  (hx:cx E vs ops x=some px) (hy:cx E vs ops y=some py) {cf:yt} (hs:yo cf (.store n (zl P t) px py) st=some (u,st1)) (hk:yK N w G a st1 u vs ops j o next):o.wp P a w next Q:=by
 simp only[yo] at hs
 split at hs
 ·rename_i m off v st' ha ee
  obtain⟨b,hv,hb⟩:=KI hE hx hf ha
  obtain⟨G1,dD,el,je,fE,d7,di,fW,_,_,_⟩:=GR hE hy hf ee (.hcell m off)
  simp only[aj,ab,ac] at hs
  obtain⟨cs,hg,cs',dz,rfl,rfl⟩:=hs
  have eP:G1.heap m=some b:=by rw[d7]; exact hb
  obtain⟨eN,gS,cv,T,hh,hl,hc⟩:=FT dD hg eP
  obtain⟨nc,ju,cY,iC,li,uF,dG⟩:=b4c hl hn dz di
  have da:(execOp a.eval o).run P w = .ok .skip (w.setRow b (cv.toList.take off++nc++cv.toList.drop (off+n)).toArray):=by
   have dz:=run_storeCells_at P b off T nc 0 cv w hh (by simp; omega) li
   simp only[bx,cY] at dz
   have dj:(a.eval y).cells.size=n:=by rw[← cY,← ju]; simp
   simp[execOp,cZ,Instr.storeAt,hv,Instr.sureAddr,storeVar,Ct hn,dj,ju,dz]
  unfold Oper.wp
  rw[da]
  have fK:b<w.heap.size:=dD.owlt _ _ eN
  have du:∀x,x≠b→(w.setRow b (cv.toList.take off++nc++cv.toList.drop (off+n)).toArray).heap[x]? = w.heap[x]? := λx hx=>setRow_other w b x _ hx
  have d8:Ext w G1 (w.setRow b (cv.toList.take off++nc++cv.toList.drop (off+n)).toArray) G1:=by
   refine⟨rfl,rfl,rfl,by simp[World.setRow],?_,?_,λ_ _ h => .inl h,λ_ h => .inr h,λ_ _ h=>h,IN hh _ (by simp; omega),rfl⟩
   ·intro x _ lL
    exact du x (by rintro rfl; rw[eN] at lL; simp at lL)
   ·intro x o' gB
    refine⟨gB,?_⟩
    have gR:x≠b:=by rintro rfl; exact gS _ gB
    simp only[World.cell?,du x gR]
  have dW:zu (λk=>k = .hobj m) w G1 (w.setRow b (cv.toList.take off++nc++cv.toList.drop (off+n)).toArray) G1:=by
   refine⟨?_,λ_ _ h=>h⟩
   intro x k iD iI
   refine⟨iD,du x ?_,λ_ h=>h⟩
   rintro rfl
   rw[eN] at iD
   simp at iD
   exact iI iD.symm
  have jD:FI N (w.setRow b (cv.toList.take off++nc++cv.toList.drop (off+n)).toArray) G1 (yH st' m (.cells cs')) a vs (yk vs ops):=by
   refine⟨dD.len,λi t' u' h1 h2=>(dD.var i t' u' h1 h2).keep d8 dW (by simp) (by simp),λi t' u' h1 h2=>(dD.loc i t' u' h1 h2).keep d8 dW (by simp) (by simp),dD.tv,dD.tl,dD.defers,dD.gen,?_,?_,?_,?_⟩
   ·intro x k hx; simpa[World.setRow] using dD.owlt x k hx
   ·intro x o' hx; simpa[World.setRow] using dD.fixlt x o' hx
   ·refine dD.heap.keepBut d8 dW (λn k dh=>⟨by simp; omega,by simp⟩) (λ_ =>?_)
    refine .inr ⟨b,eP,eN,gS,_,T,setRow_heap w b cv _ T (0,0) hh,?_,?_⟩
    ·simp; omega
    ·intro k c z dY hz
     rcases dG k c z (by simpa using dY) hz with⟨k1,k2⟩|⟨k1,k2,k3⟩
     ·exact(hc k c z k1 k2).keep d8 dW (by simp)
     ·refine⟨(fE▸d7▸k1:VR N w G1.fix G1.heap c z).ext d8,k2,?_⟩
      split
      ·rename_i es
       rcases k3 es rfl with⟨e1,e2,e3⟩|e
       ·subst e1 e2 e3
        have hr:Room w G1 (.hcell m k) (a.eval y) es:=fW
        exact hr.keep dW (by simp)
       ·subst e; trivial
      ·trivial
   ·simp only[yH,aZ]; exact dD.hdom
  have gJ:a.put o.dst undef=a:=by simp[eL,Act.put]
  have hd:yR vs o.dst = .n:=by simp[eL,yR]
  show next (a.put o.dst undef) _
  rw[gJ]
  refine hk _ _ G1 ?_ (el.trans d8) rfl
  rw[hd]
  exact jD
 ·simp at hs
theorem b6d (hE:EnvOk E N) (nm:Names vs (yk vs ops)) (ho:ops[j]? = some o) (hf:FI N w G st a vs (yk vs ops)) {t:TypeId} {n:Nat} {x y:Operand} {px py:PX} (cZ:o.op = .store t x y) (eL:o.dst=none) (hn:yX P t=some n)
  (hx:cx E vs ops x=some px) (hy:cx E vs ops y=some py) {cf:yt} (hs:yo cf (.storer n (zl P t) px py) st=some (u,st1)) (hk:yK N w G a st1 u vs ops j o next):o.wp P a w next Q:=by
 refine Ul hE nm ho hf cZ eL hn hx hy (cf:=cf) ?_ hk
 simp only[yo] at hs ⊢
 split at hs
 ·rename_i m off v ha hr
  split at hs
  ·simp at hs
  ·rename_i hl
   have ee:tk st py=some (v,st):=by
    unfold tk
    simp only[rd,aj] at hr
    obtain⟨r,h1,h2⟩:=hr
    rw[h1]
    cases r<;>simp[cp] at h2<;>subst h2<;>first|rfl|simp[Ax] at hl
   simp only[ha,ee]
   exact hs
 ·simp at hs
end
end PI
set_option linter.unusedSimpArgs false
set_option linter.unusedVariables false
namespace PI
open Go Go.MapKept
section
variable {E:Env} {N:Nm} {w:World} {G:GS} {st:St} {a:Act} {vs:List Tmp} {ops:List Oper} {P:Program}
variable {o:Oper} {j:Nat} {next:Act→World→Prop} {Q:Exit→Act→World→Prop} {u:PV} {st1:St}
theorem Uq (s t:ByteArray):(s==t)=(s.data.toList==t.data.toList):=by
 rw[aT,MapKept.bytes_beq,br]
 constructor
 ·rintro rfl; rfl
 ·intro h
  obtain⟨⟨s⟩⟩:=s
  obtain⟨⟨t⟩⟩:=t
  simpa using h
theorem c1r {kt:TypeId} {d:TypeDesc} {kk:EK} {fix:Nat→Nat→Prop} {hp:Nat→Option Nat} {vx vy:Value} {x y:PV} {b:Bool} (hd:P.underlying kt=some d) (hk:ekT P kt=some kk) (hx:VR N w fix hp vx x) (hy:VR N w fix hp vy y) (h:Bo kk x y=some b):
  Instr.sameNow d vx vy=some b:=by
 unfold ekT at hk
 rw[hd] at hk
 unfold Bo at h
 split at h
 ·cases hx; cases hy
  simp only[aa] at h; subst h
  split at hk<;>simp at hk
  rename_i iK
  simp at iK; subst iK
  rfl
 ·cases hx; cases hy
  split at h
  ·subst_vars
   simp only[aa] at h; subst h
   split at hk<;>simp at hk
   rename_i iK
   simp at iK; subst iK
   simp[Instr.sameNow]
  ·simp at h
 ·cases hx; cases hy
  simp only[aa] at h; subst h
  split at hk<;>simp at hk
  rename_i iK
  simp at iK; subst iK
  simp only[Instr.sameNow,Uq]
 ·simp at h
theorem Ur {fix:Nat→Nat→Prop} {hp:Nat→Option Nat} {kk:EK} {vx vy:Value} {x y:PV} (hx:VR N w fix hp vx x) (hy:VR N w fix hp vy y) (h:Bo kk x y=some true) (n:Nat):Instr.sameBits n vy vx=true:=by
 unfold Bo at h
 split at h
 ·cases hx; cases hy
  simp at h; subst h; simp[Instr.sameBits]
 ·cases hx; cases hy
  split at h
  ·subst_vars
   simp at h; subst h; simp[Instr.sameBits]
  ·simp at h
 ·cases hx with
  | str s =>
    cases hy with
    | str t =>
      have e:(s==t)=true:=by rw[Uq]; simpa using h
      have e':s=t:=(MapKept.bytes_beq s t).1 e
      subst e'
      simpa[Instr.sameBits] using e
 ·simp at h
theorem Us {kt:TypeId} {d:TypeDesc} {kk:EK} {fix:Nat→Nat→Prop} {hp:Nat→Option Nat} {kv:Value} {kp:PV} (hd:P.underlying kt=some d) (hk:ekT P kt=some kk) (jQ:VR N w fix hp kv kp):
  ∀{mes:List MapEntry} {es:List (PV×PV)} {i:Nat} {r:Option (Nat×PV)},mes.length=es.length→(∀(i:Nat) (e:MapEntry) (p:PV×PV),mes[i]? = some e→es[i]? = some p→VR N w fix hp e.key p.1) →
  zG false [kk] kp es i=some r →
  (r=none∧Instr.findNow d kv mes i=some none)∨(∃n v e p1,r=some (i+n,v)∧Instr.findNow d kv mes i=some (some (i+n,e.val))∧mes[n]? = some e∧es[n]? = some (p1,v)∧Bo kk kp p1=some true)
 | [], [], i, r, _, _, h => by
   simp[zG] at h; subst h
   exact .inl ⟨rfl,rfl⟩
 | e :: mes, p :: es, i, r, hl, hv, h => by
   simp only[zG,peq,aJ,if_false,aj] at h
   obtain⟨b,hb,h⟩:=h
   have hs:=c1r hd hk jQ (hv 0 e p rfl rfl) hb
   cases b with
   | true =>
     simp at h; subst h
     exact .inr ⟨0,p.2,e,p.1,rfl,by simp[Instr.findNow,hs],rfl,rfl,hb⟩
   | false =>
     simp at h
     rcases Us hd hk jQ (mes:=mes) (es:=es) (by simpa using hl) (λi e p h1 h2=>hv (i+1) e p (by simpa using h1) (by simpa using h2)) h with⟨h1,h2⟩ | ⟨n,v,e',p1,h1,h2,h3,h4,h5⟩
     ·exact .inl ⟨h1,by simp[Instr.findNow,hs,h2]⟩
     ·exact .inr ⟨n+1,v,e',p1,by rw[h1]; simp; omega,by simp[Instr.findNow,hs,h2]; omega,by simpa using h3,by simpa using h4,h5⟩
 | [],_::_,_,_,hl,_,_=>by simp at hl
 | _::_,[],_,_,hl,_,_=>by simp at hl
theorem b6e {kt:TypeId} {kk:EK} (hk:ekT P kt=some kk) (b:Bool) (v:Value):(Instr.checkKey b 10000 kt v).run P w = .ok () w:=by
 unfold ekT at hk
 unfold Instr.checkKey
 split at hk
 ·rename_i hu; simp only[Sem.run_bind,run_underlying hu,Result.andThen_ok]; cases v<;>rfl
 ·rename_i hu; simp only[Sem.run_bind,run_underlying hu,Result.andThen_ok]; cases v<;>rfl
 ·rename_i hu; simp only[Sem.run_bind,run_underlying hu,Result.andThen_ok]; cases v<;>rfl
 ·simp at hk
theorem Ut {kt:TypeId} {kk:Bool×List EK} (h:E8 P kt=some kk):(∃k,ekT P kt=some k∧kk=(false,[k])) ∨
  ∃fs,P.underlying kt=some (.struct fs)∧eqFields P fs.toList 0=some kk.2∧kk.1=true∧P.stoodInHeld kt=false:=by
 unfold E8 at h
 split at h
 ·rename_i k hk
  simp only[aa] at h
  exact .inl ⟨k,hk,h.symm⟩
 ·split at h
  ·rename_i ks iO
   simp only[aa] at h
   subst h
   unfold eqT at iO
   split at iO
   ·simp at iO
   ·simp at iO
   ·simp at iO
   ·rename_i fs hu
    split at iO
    ·rename_i ks' uP
     split at iO
     ·rename_i de
      simp only[aa,ac,true_and] at iO
      subst iO
      simp only[ap,bG] at de
      exact .inr ⟨fs,hu,uP,rfl,de.1⟩
     ·simp at iO
    ·simp at iO
   ·simp at iO
  ·simp at h
theorem Uu:∀{fs:List Field} {off:Nat} {ks:List EK},eqFields P fs off=some ks→ks.length=fs.length∧∀f∈fs,∃i,off≤i∧i<off+fs.length∧f.offset=i∧f.name ≠ "_" ∧ yX P f.type=some 1∧zl P f.type=false∧∃k,ekT P f.type=some k
 | [],off,ks,h=>by simp[eqFields] at h; subst h; simp
 | f :: fs, off, ks, h => by
   simp only[eqFields] at h
   split at h
   ·rename_i hc
    simp only[aj,ab] at h
    obtain⟨k,hk,ks',iO,rfl⟩:=h
    obtain⟨h1,h2⟩:=Uu iO
    refine⟨by simp[h1],?_⟩
    intro g hg
    rcases az.1 hg with rfl|hg
    ·exact⟨off,am _,by simp,hc.1,hc.2.1,hc.2.2.1,hc.2.2.2,k,hk⟩
    ·obtain⟨i,a1,a2,a3⟩:=h2 g hg
     exact⟨i,by omega,by simp; omega,a3⟩
   ·simp at h
theorem KJ:∀{ks:List EK} {xs ys:List PV} {b:Bool},A4 ks xs ys=some b→xs.length=ks.length∧ys.length=ks.length
 | [],xs,ys,b,h=>by cases xs<;>cases ys<;>simp_all [A4]
 | k :: ks, xs, ys, b, h => by
   cases xs with
   | nil=>simp[A4] at h
   | cons x xs =>
     cases ys with
     | nil=>simp[A4] at h
     | cons y ys =>
       simp only[A4,aj,ab] at h
       obtain⟨_,_,_,h2,_⟩:=h
       obtain⟨a1,a2⟩:=KJ h2
       simp[a1,a2]
theorem O1 {ks:List EK} {kp:PV} {es:List (PV×PV)} {i:Nat} {r} (h:zG true ks kp es i=some r):∃cs,kp = .agg cs∧cs.length=ks.length:=by
 cases es with
 | nil =>
   rw[zG.eq_def] at h
   cases kp<;>simp only[Option.ite_none_right_eq_some,reduceCtorEq] at h<;>exact⟨_,rfl,h.1⟩
 | cons e es =>
   simp only[zG,aj] at h
   obtain⟨b,hb,_⟩:=h
   simp only[peq,if_true] at hb
   split at hb
   ·exact⟨_,rfl,(KJ hb).1⟩
   ·simp at hb
theorem KK {kt:TypeId} {kk:Bool×List EK} {G:GS} {kv:Value} {kp:PV} (hk:E8 P kt=some kk) (jQ:VR N w G.fix G.heap kv kp) {es:List (PV×PV)} {i:Nat} {r} (h:zG kk.1 kk.2 kp es i=some r) (b:Bool):(Instr.checkKey b 10000 kt kv).run P w = .ok () w:=by
 rcases Ut hk with⟨k,dt,rfl⟩|⟨fs,hu,hf,h1,_⟩
 ·exact b6e dt b kv
 ·rw[h1] at h
  obtain⟨cs,rfl,hl⟩:=O1 h
  obtain⟨vs,rfl,hc⟩:=CellsR.of_agg jQ
  obtain⟨e1,e2⟩:=Uu hf
  have dj:vs.size=fs.size:=by have:=hc.1; simp at this; simp at e1; omega
  have key:∀(l:List Field),(∀f∈l,f∈fs.toList)→((do for f in l do if f.name ≠ "_" then Instr.checkKey b 9999 f.type (← part f.type vs f.offset)):Sem Unit).run P w = .ok () w:=by
   intro l
   induction l with
   | nil=>intro _; rfl
   | cons f l ih =>
     intro hl
     obtain⟨i,a1,a2,a3,a4,a5,a6,k,a7⟩:=e2 f (hl f (by simp))
     have dc:i<vs.size:=by simp at a2; omega
     have j4:(part f.type vs f.offset).run P w = .ok vs[i] w:=by
      simp[part,GP a5,a6,a3,dc]
     have jh:(Instr.checkKey b 9999 f.type vs[i]).run P w = .ok () w:=by
      unfold ekT at a7
      unfold Instr.checkKey
      split at a7
      ·rename_i hu; simp only[Sem.run_bind,run_underlying hu,Result.andThen_ok]; cases vs[i]<;>rfl
      ·rename_i hu; simp only[Sem.run_bind,run_underlying hu,Result.andThen_ok]; cases vs[i]<;>rfl
      ·rename_i hu; simp only[Sem.run_bind,run_underlying hu,Result.andThen_ok]; cases vs[i]<;>rfl
      ·simp at a7
     have ih':=ih (λg hg=>hl g (by simp[hg]))
     rw[List.forIn_cons]
     simp only[Sem.run_bind,ne_eq,a4,cH,if_true,j4,Result.andThen_ok,jh,Sem.run_pure] at ih' ⊢
     exact ih'
  unfold Instr.checkKey
  simp only[Sem.run_bind,run_underlying hu,Result.andThen_ok,← Array.forIn_toList]
  have:=key fs.toList (λ_ h=>h)
  rw[Sem.run_bind] at this
  exact this
theorem c1s {ks:List EK}:∀{xs ys:List PV} {cs ds:List Value},A4 ks xs ys=some true→cs.length=xs.length→ds.length=ys.length→∀{fix:Nat→Nat→Prop} {hp:Nat→Option Nat},(∀(i:Nat) (v:Value) (p:PV),cs[i]? = some v→xs[i]? = some p→VR N w fix hp v p) →
  (∀(i:Nat) (v:Value) (p:PV),ds[i]? = some v→ys[i]? = some p→VR N w fix hp v p)→∀n,((ds.zip cs).all λ(x,y)=>Instr.sameBits n x y)=true:=by
 induction ks with
 | nil =>
   intro xs ys cs ds h h1 h2 fix hp hx hy n
   obtain⟨a1,a2⟩:=KJ h
   simp at a1 a2
   subst a1 a2
   simp at h1 h2
   subst h1 h2
   rfl
 | cons k ks ih =>
   intro xs ys cs ds h h1 h2 fix hp hx hy n
   cases xs with
   | nil=>simp[A4] at h
   | cons x xs =>
     cases ys with
     | nil=>simp[A4] at h
     | cons y ys =>
       simp only[A4,aj,ab] at h
       obtain⟨b1,eP,b2,dK,hb⟩:=h
       simp only[ap] at hb
       obtain⟨rfl,rfl⟩:=hb
       cases cs with
       | nil=>simp at h1
       | cons c cs =>
         cases ds with
         | nil=>simp at h2
         | cons d ds =>
           simp only[List.zip_cons_cons,List.all_cons,ap]
           exact⟨Ur (hx 0 c x rfl rfl) (hy 0 d y rfl rfl) eP n,ih dK (by simpa using h1) (by simpa using h2) (λi v p a b=>hx (i+1) v p (by simpa using a) (by simpa using b)) (λi v p a b=>hy (i+1) v p (by simpa using a) (by simpa using b)) n⟩
theorem c1t {kk:Bool×List EK} {G:GS} {vx vy:Value} {x y:PV} (hx:VR N w G.fix G.heap vx x) (hy:VR N w G.fix G.heap vy y) (h:peq kk.1 kk.2 x y=some true) (n:Nat):Instr.sameBits (n+1) vy vx=true:=by
 unfold peq at h
 split at h
 ·split at h
  ·rename_i xs ys
   obtain⟨cs,rfl,hc⟩:=CellsR.of_agg hx
   obtain⟨ds,rfl,hd⟩:=CellsR.of_agg hy
   obtain⟨a1,a2⟩:=KJ h
   have h1:=hc.1
   have h2:=hd.1
   simp only[Instr.sameBits,ap,br]
   refine⟨by simp at h1 h2; omega,c1s h (by simpa using h1) (by simpa using h2) (λi v p a b=>hc.2.2 i v p (by simpa using a) b) (λi v p a b=>hd.2.2 i v p (by simpa using a) b) n⟩
  ·simp at h
 ·split at h
  ·exact Ur hx hy h (n+1)
  ·simp at h
theorem O2 {kt:TypeId} {kk:Bool×List EK} {G:GS} {kv:Value} {kp:PV} (hk:E8 P kt=some kk) (jQ:VR N w G.fix G.heap kv kp) {mes:List MapEntry} {es:List (PV×PV)} {r:Option (Nat×PV)} (hl:mes.length=es.length)
  (hv:∀(i:Nat) (e:MapEntry) (p:PV×PV),mes[i]? = some e→es[i]? = some p→VR N w G.fix G.heap e.key p.1) (h:zG kk.1 kk.2 kp es 0=some r):
  (r=none∧(Instr.findKey kt kv mes).run P w = .ok none w)∨(∃n v e p1,r=some (n,v)∧(Instr.findKey kt kv mes).run P w = .ok (some (n,e.val)) w∧mes[n]? = some e∧es[n]? = some (p1,v)∧peq kk.1 kk.2 kp p1=some true):=by
 rcases Ut hk with⟨k,dt,rfl⟩|⟨fs,hu,hf,h1,dz⟩
 ·obtain⟨d,hd⟩:∃d,P.underlying kt=some d:=by
   unfold ekT at dt
   split at dt<;>first|exact⟨_,by assumption⟩|simp at dt
  rcases Us hd dt jQ hl hv h with⟨a1,a2⟩|⟨n,v,e,p1,a1,a2,a3,a4,a5⟩
  ·exact .inl ⟨a1,run_findKey hd a2⟩
  ·simp only[aU] at a1 a2
   exact .inr ⟨n,v,e,p1,a1,run_findKey hd a2,a3,a4,by simpa[peq] using a5⟩
 ·simp only[h1] at h ⊢
  have ask:∀(mes:List MapEntry) (es:List (PV×PV)) (i:Nat) (r:Option (Nat×PV)),mes.length=es.length→(∀(i:Nat) (e:MapEntry) (p:PV×PV),mes[i]? = some e→es[i]? = some p→VR N w G.fix G.heap e.key p.1)→zG true kk.2 kp es i=some r →
    (r=none∧(Instr.findAsking kt kv mes i).run P w = .ok none w)∨(∃n v e p1,r=some (i+n,v)∧(Instr.findAsking kt kv mes i).run P w = .ok (some (i+n,e.val)) w∧mes[n]? = some e∧es[n]? = some (p1,v)∧peq true kk.2 kp p1=some true):=by
   intro mes
   induction mes with
   | nil =>
     intro es i r hl hv h
     cases es with
     | cons _ _=>simp at hl
     | nil =>
       obtain⟨cs,rfl,cY⟩:=O1 h
       rw[zG.eq_def] at h
       simp only[cY,if_true,aa] at h
       subst h
       exact .inl ⟨rfl,by simp[Instr.findAsking]⟩
   | cons e mes ih =>
     intro es i r hl hv h
     cases es with
     | nil=>simp at hl
     | cons p es =>
       simp only[zG,aj] at h
       obtain⟨b,hb,h⟩:=h
       have jB:=hb
       simp only[peq,if_true] at hb
       split at hb
       ·rename_i ys rg _
        have vS:=hv 0 e p rfl rfl
        rw[rg] at vS
        clear rg
        obtain⟨cs,rfl,hc⟩:=CellsR.of_agg jQ
        obtain⟨ds,tV,hd⟩:=CellsR.of_agg vS
        have oa:P.fieldsOf kt=fs:=by simp[Program.fieldsOf,hu]
        have heq:=run_equalIn_struct (P:=P) w 9999 kt cs ds (by rw[oa]; exact hu) dz
        rw[oa,OM hc hd hf (by simpa using hb)] at heq
        have oX:(Op.equal kt (.agg cs) e.key).run P w = .ok b w:=by
         rw[tV]
         simpa[Op.equal,Op.maxDepth] using heq
        cases b with
        | true =>
          simp at h; subst h
          exact .inr ⟨0,p.2,e,p.1,rfl,by simp[Instr.findAsking,oX],rfl,rfl,jB⟩
        | false =>
          simp at h
          rcases ih es (i+1) r (by simpa using hl) (λi e p a b=>hv (i+1) e p (by simpa using a) (by simpa using b)) h with⟨a1,a2⟩ | ⟨n,v,e',p1,a1,a2,a3,a4,a5⟩
          ·exact .inl ⟨a1,by simp[Instr.findAsking,oX,a2]⟩
          ·exact .inr ⟨n+1,v,e',p1,by rw[a1]; simp; omega,by simp[Instr.findAsking,oX,a2]; omega,by simpa using a3,by simpa using a4,a5⟩
       ·simp at hb
  have oW:(Instr.findKey kt kv mes).run P w=(Instr.findAsking kt kv mes 0).run P w:=by
   obtain⟨cs,rfl,_⟩:=O1 h
   obtain⟨vs,rfl,_⟩:=CellsR.of_agg jQ
   unfold Instr.findKey
   simp only[Sem.run_bind,run_underlying hu,Result.andThen_ok]
   cases mes with
   | nil=>simp[Instr.findNow,Instr.findAsking]
   | cons e mes =>
     have:Instr.findNow (.struct fs) (.agg vs) (e::mes) 0=none:=by simp[Instr.findNow,Instr.sameNow]
     rw[this]
  rw[oW]
  rcases ask mes es 0 r hl hv h with h|⟨n,v,e,p1,a1,a2,a3⟩
  ·exact .inl h
  ·exact .inr ⟨n,v,e,p1,by simpa using a1,by simpa using a2,a3⟩
theorem TG {fix:Nat→Nat→Prop} {hp:Nat→Option Nat} {t:TypeId} {z:PV} (h:Gw P t=some z):∃zv,(zeroValue t).run P w = .ok zv w∧VR N w fix hp zv z∧((∃es,z = .list true es∧zv = .slice none 0 0)∨cp z=some z):=by
 unfold Gw at h
 split at h
 ·rename_i i hi
  simp only[aj] at h
  obtain⟨zv,h1,h2⟩:=h
  exact⟨zv,by simp[zeroValue,typeInfo,hi,h1],TY h2,OG h2⟩
 ·simp at h
theorem VR.cp_dem' {fix:Nat→Nat→Prop} {hp:Nat→Option Nat} {v:Value} {p:PV} (h:VR N w fix hp v p):cp (PI.dem p)=some (PI.dem p):=by
 cases h<;>rfl
theorem Uv (hf:FI N w G st a vs (yk vs ops)) {n b:Nat} {es:List (PV×PV)} (hg:zo st (some n)=some es) (hb:G.heap n=some b):
  G.ow b=some (.hobj n)∧st.heap[n]? = some (.map es)∧ObjR N w G n b (.map es):=by
 unfold zo at hg
 simp only at hg
 split at hg
 ·rename_i es' hn
  simp at hg; subst hg
  rcases hf.heap.1 n _ hn with e|⟨b',h1,h2,h3⟩
  ·simp at e
  have:b'=b:=by rw[hb] at h1; simpa using h1.symm
  subst this
  exact⟨h2,hn,h3⟩
 ·simp at hg
theorem MR.read {key:Key} {v:Value} {p:PV} (h:MR N w G key v p):VR N w G.fix G.heap v (dem p):=h.1.dem
theorem b70 (hE:EnvOk E N) (nm:Names vs (yk vs ops)) (ho:ops[j]? = some o) (hf:FI N w G st a vs (yk vs ops)) {t kt e:TypeId} {m x:Operand} {ok:Bool} {kk:Bool×List EK} {z:PV} {pm px:PX} {tk:Bool}
  (cZ:o.op = .lookup t m x ok) (hu:P.underlying t=some (.map kt e)) (fH:E8 P kt=some kk) (hz:Gw P e=some z) (hm:cx E vs ops m=some pm) (hx:cx E vs ops x=some px) {cf:yt}
  (hs:yo cf (.lookup ok tk kk.1 kk.2 z pm px) st=some (u,st1)) (hk:yK N w G a st1 u vs ops j o next):o.wp P a w next Q:=by
 obtain⟨zv,fw,eZ,mJ⟩:=TG (P:=P) (N:=N) (w:=w) (fix:=G.fix) (hp:=G.heap) hz
 simp only[yo] at hs
 split at hs
 ·rename_i n k rp uQ
  have jQ:=(yT hE hx hf uQ).1
  have oY:=(yT hE hm hf rp).1
  simp only[aj] at hs
  obtain⟨es,hg,r,gt,hs⟩:=hs
  have run:∀(mes:Array MapEntry) (r':Option (Nat×Value)),(a.eval m = .map none∧mes = #[]∨∃b clock,a.eval m = .map (some b)∧w.heap[b]? = some (.map mes clock))→(Instr.findKey kt (a.eval x) mes.toList).run P w = .ok r' w →
    (execOp a.eval o).run P w = .ok (.value (if ok then .tuple #[(r'.map Prod.snd).getD zv,.bool r'.isSome] else(r'.map Prod.snd).getD zv)) w:=by
   intro mes r' h1 h2
   have oW:=h2
   rcases h1 with⟨h1,rfl⟩|⟨b,clock,h1,h3⟩
   ·simp only[execOp,cZ,Instr.lookup,Sem.run_bind,run_underlying hu,Result.andThen_ok,h1,Sem.run_pure,KK fH jQ gt,oW]
    cases r' with
    | none=>simp[fw]
    | some q=>simp
   ·simp only[execOp,cZ,Instr.lookup,Sem.run_bind,run_underlying hu,Result.andThen_ok,h1,run_getObj_map h3,Sem.run_pure,KK fH jQ gt,oW]
    cases r' with
    | none=>simp[fw]
    | some q=>simp
  generalize nz:a.eval m=mv at oY run
  cases oY with
  | mapn =>
    simp only[zo,aa] at hg
    subst hg
    have h0:=O2 (P:=P) fH jQ (mes:=[]) (es:=[]) rfl (by simp) gt
    have md:r=none∧(Instr.findKey kt (a.eval x) []).run P w = .ok none w:=by
     rcases h0 with h0|⟨n,v,e,p1,_,_,h3,_⟩
     ·exact h0
     ·simp at h3
    obtain⟨rfl,eH⟩:=md
    simp only[aa,ac] at hs
    obtain⟨rfl,rfl⟩:=hs
    have da:=run #[] none (.inl ⟨rfl,rfl⟩) eH
    simp only[ci,Option.getD_none,Option.isSome_none] at da
    cases ok with
    | true =>
      refine yV nm ho hf da (SR.of_pure (.tuple _ _ rfl ?_) rfl) hk
      intro i c p hc hp
      match i,hc,hp with
      | 0,hc,hp=>simp at hc hp; subst hc hp; exact eZ
      | 1,hc,hp=>simp at hc hp; subst hc hp; exact .bool _
    | false =>
      refine yV nm ho hf da ?_ hk
      rcases mJ with⟨es,rfl,rfl⟩|h
      ·exact⟨eZ,trivial⟩
      ·exact SR.of_pure eZ h
  | map n b hb =>
    obtain⟨eN,uz,hobj⟩:=Uv hf hg hb
    obtain⟨mes,clock,a1,a2,a3,a4,a5⟩:=hobj
    have hK:(Value.map (some b) = .map none∧mes = #[])∨∃b' clock,Value.map (some b) = .map (some b')∧w.heap[b']? = some (.map mes clock) := .inr ⟨b,clock,rfl,a1⟩
    rcases O2 fH jQ (mes:=mes.toList) (es:=es) (by simpa using a2) (λi e p h1 h2=>(a5 i e p (by simpa using h1) h2).1) gt with⟨rfl,h2⟩ | ⟨i,v,en,p1,rfl,h2,h3,h4,_⟩
    ·have da:=run mes none hK h2
     simp only[aa,ac] at hs
     obtain⟨rfl,rfl⟩:=hs
     simp only[ci,Option.getD_none,Option.isSome_none] at da
     cases ok with
     | true =>
       refine yV nm ho hf da (SR.of_pure (.tuple _ _ rfl ?_) rfl) hk
       intro i c p hc hp
       match i,hc,hp with
       | 0,hc,hp=>simp at hc hp; subst hc hp; exact eZ
       | 1,hc,hp=>simp at hc hp; subst hc hp; exact .bool _
     | false =>
       refine yV nm ho hf da ?_ hk
       rcases mJ with⟨es,rfl,rfl⟩|h
       ·exact⟨eZ,trivial⟩
       ·exact SR.of_pure eZ h
    ·have da:=run mes _ hK h2
     have mR:=(a5 i en (p1,v) (by simpa using h3) h4).2
     simp only[aC,bX,Option.isSome_some] at da
     simp only at hs
     split at hs
     ·
      rename_i ee
      simp only[ap,bG] at ee
      obtain⟨⟨_,dm⟩,eM⟩:=ee
      subst dm
      have:∃l,v = .list true l:=by
       unfold IS at eM
       split at eM
       ·exact⟨_,rfl⟩
       ·simp at eM
      obtain⟨l,rfl⟩:=this
      simp only[aa,ac] at hs
      obtain⟨rfl,rfl⟩:=hs
      obtain⟨di,dJ⟩:=mR
      obtain⟨G',hG,fV⟩:=Room.give (key':=An (yR vs o.dst) j) dJ
      have iR:G'.box=G.box∧G'.fix=G.fix∧G'.heap=G.heap:=by
       rcases hG with rfl|⟨b,_,rfl⟩<;>exact⟨rfl,rfl,rfl⟩
      have cX:Ext w G w G':=by
       rcases hG with rfl|⟨b,hb,rfl⟩
       ·exact Ext.refl _ _
       ·exact Kz b _ (λ_=>by simp[hb])
      have db:zu (λk=>k = .hcell n i) w G w G':=by
       rcases hG with rfl|⟨b,hb,rfl⟩
       ·exact⟨λb k h _=>⟨h,rfl,λ_ h=>h⟩,λ_ _ h=>h⟩
       ·exact KA b _ (λk' dt=>by rw[hb] at dt; simpa using dt.symm)
      have dD:FI N w G' (yH st n (.map (es.modify i λe=>(e.1,dem e.2)))) a vs (yk vs ops):=by
       refine⟨hf.len,λi' t' u' h1 h2=>(hf.var i' t' u' h1 h2).keep cX db (by simp) (by simp),λi' t' u' h1 h2=>(hf.loc i' t' u' h1 h2).keep cX db (by simp) (by simp),hf.tv,hf.tl,(hf.defers.trans cX.df.symm),by rw[iR.1]; exact hf.gen,?_,by rw[iR.2.1]; exact hf.fixlt,?_,?_⟩
       ·intro b' k dn
        rcases hG with rfl|⟨b2,dK,rfl⟩
        ·exact hf.owlt _ _ dn
        ·simp only[GS.give] at dn
         split at dn
         ·subst_vars; exact hf.owlt _ _ dK
         ·exact hf.owlt _ _ dn
       ·refine hf.heap.keepBut cX db (λn' k dh=>⟨by simp,by simp; omega⟩) (λ_ =>?_)
        refine .inr ⟨b,cX.heap _ _ hb,(db.1 _ _ eN (by simp)).1,mes,clock,a1,by simpa using a2,a3,a4,?_⟩
        intro i' e' p' dN fB
        rw[bk] at fB
        by_cases kB:i=i'
        ·subst kB
         rw[h4] at fB
         simp at fB; subst fB
         have:e'=en:=by rw[← bM] at dN; rw[h3] at dN; simpa using dN.symm
         subst this
         obtain⟨b1,b2⟩:=a5 i e' (p1,.list true l) dN h4
         exact⟨b1.ext cX,(b2.1.dem).ext cX,trivial⟩
        ·simp only[kB,if_false,cS] at fB
         have hp'':es[i']? = some p':=by simpa using fB
         obtain⟨b1,b2⟩:=a5 i' e' p' dN hp''
         exact⟨b1.ext cX,b2.keep cX db (by simp; omega)⟩
       ·rw[iR.2.2]; simp only[yH,aZ]; exact hf.hdom
      unfold Oper.wp
      rw[da]
      exact hk _ _ G' (dD.put nm (BH ho) ⟨di.ext cX,fV⟩) cX (BJ _ _ _)
     ·simp only[aa,ac] at hs
      obtain⟨rfl,rfl⟩:=hs
      have pI:VR N w G.fix G.heap en.val (dem v):=mR.1.dem
      cases ok with
      | true =>
        refine yV nm ho hf da (SR.of_pure (.tuple _ _ rfl ?_) rfl) hk
        intro i c p hc hp
        match i,hc,hp with
        | 0,hc,hp=>simp at hc hp; subst hc hp; exact pI
        | 1,hc,hp=>simp at hc hp; subst hc hp; exact .bool _
      | false=>exact yV nm ho hf da (SR.of_pure pI mR.1.cp_dem') hk
 ·simp at hs
theorem c3j {b:Nat} (hb:b<w.heap.size) (iF:∃mes clock,w.heap[b]? = some (.map mes clock)) (gB:G.ow b≠none) (mes':Array MapEntry) (clock':Nat):
  let w':World:={ w with heap:=w.heap.setIfInBounds b (.map mes' clock') }
  Ext w G w' G∧w'.heap[b]? = some (.map mes' clock')∧∀x,x≠b→w'.heap[x]? = w.heap[x]? := by
 intro w'
 have dA:∀x,x≠b→w'.heap[x]? = w.heap[x]? := λx hx=>by simp[w',bi,Ne.symm hx]
 have ec:w'.heap[b]? = some (.map mes' clock'):=by simp[w',bi,hb]
 refine⟨⟨rfl,rfl,rfl,by simp[w'],?_,?_,λ_ _ h => .inl h,λ_ h => .inr h,λ_ _ h=>h,.one b (λk _ hk=>dA k hk) (λs hx=>by obtain⟨mes,clock,h⟩:=iF; simp[World.shape?,h] at hx) (λs hx=>by obtain⟨mes,clock,h⟩:=iF; simp[Bd,h] at hx),rfl⟩,ec,dA⟩
 ·intro x _ hx
  exact dA x (by rintro rfl; exact gB hx)
 ·intro x o hx
  refine⟨hx,?_⟩
  by_cases gR:x=b
  ·subst gR
   obtain⟨mes,clock,h⟩:=iF
   simp only[World.cell?,ec,h]
  ·simp only[World.cell?,dA x gR]
theorem Um (hE:EnvOk E N) (nm:Names vs (yk vs ops)) (ho:ops[j]? = some o) (hf:FI N w G st a vs (yk vs ops)) {t kt e:TypeId} {m x y:Operand} {kk:Bool×List EK} {pm px py:PX}
  (cZ:o.op = .mapUpdate t m x y∨o.op = .insert t m x y) (eL:o.dst=none) (hu:P.underlying t=some (.map kt e)) (fH:E8 P kt=some kk) (hm:cx E vs ops m=some pm) (hx:cx E vs ops x=some px) (hy:cx E vs ops y=some py) {cf:yt}
  (hs:yo cf (.mset kk.1 kk.2 pm px py) st=some (u,st1)) (hk:yK N w G a st1 u vs ops j o next):o.wp P a w next Q:=by
 simp only[yo] at hs
 split at hs
 ·rename_i n k v st' rp uQ ee
  have jQ:=(yT hE hx hf uQ).1
  have oY:=(yT hE hm hf rp).1
  simp only[aj,ab] at hs
  obtain⟨es,hg,r,gt,hs⟩:=hs
  generalize nz:a.eval m=mv at oY
  cases oY with
  | map _ b hb =>
    let idx:Nat:=match r with | some (i,_)=>i | none=>es.length
    obtain⟨G1,dD,el,je,fE,d7,di,fW,_,_,_⟩:=GR hE hy hf ee (.hcell n idx)
    have eP:G1.heap n=some b:=by rw[d7]; exact hb
    obtain⟨eN,uz,hobj⟩:=Uv dD hg eP
    obtain⟨mes,clock,a1,a2,a3,a4,a5⟩:=hobj
    have kF:VR N w G1.fix G1.heap (a.eval x) k:=by rw[fE,d7]; exact jQ
    have oS:VR N w G1.fix G1.heap (a.eval y) v:=by rw[fE,d7]; exact di
    have mT:MR N w G1 (.hcell n idx) (a.eval y) v:=by
     refine⟨oS,?_⟩
     split
     ·exact fW
     ·trivial
    have fK:b<w.heap.size:=dD.owlt _ _ eN
    have gJ:a.put o.dst undef=a:=by simp[eL,Act.put]
    have dy:yR vs o.dst = .n:=by simp[eL,yR]
    have finish:∀(mes':Array MapEntry) (clock':Nat) (es':List (PV×PV)),(execOp a.eval o).run P w = .ok .skip { w with heap:=w.heap.setIfInBounds b (.map mes' clock') }→mes'.size=es'.length →
      (∀(i:Nat) (e:MapEntry),mes'[i]? = some e→e.born<clock')→(∀(i i':Nat) (e e':MapEntry),mes'[i]? = some e→mes'[i']? = some e'→e.born=e'.born→i=i') →
      (∀(i:Nat) (e:MapEntry) (p:PV×PV),mes'[i]? = some e→es'[i]? = some p→VR N w G1.fix G1.heap e.key p.1∧MR N w G1 (.hcell n i) e.val p.2)→u = .dead→st1=yH st' n (.map es')→o.wp P a w next Q:=by
     intro mes' clock' es' da b2 b3 b4 b5 gC lc
     subst gC lc
     obtain⟨d8,ec,du⟩:=c3j (G:=G1) fK ⟨mes,clock,a1⟩ (by rw[eN]; simp) mes' clock'
     unfold Oper.wp
     rw[da]
     have dW:zu (λk=>k = .hobj n) w G1 { w with heap:=w.heap.setIfInBounds b (.map mes' clock') } G1:=by
      refine⟨?_,λ_ _ h=>h⟩
      intro x k iD iI
      refine⟨iD,du x ?_,λ_ h=>h⟩
      rintro rfl
      rw[eN] at iD
      simp at iD
      exact iI iD.symm
     have jD:FI N { w with heap:=w.heap.setIfInBounds b (.map mes' clock') } G1 (yH st' n (.map es')) a vs (yk vs ops):=by
      refine⟨dD.len,λi t' u' h1 h2=>(dD.var i t' u' h1 h2).keep d8 dW (by simp) (by simp),λi t' u' h1 h2=>(dD.loc i t' u' h1 h2).keep d8 dW (by simp) (by simp),dD.tv,dD.tl,dD.defers,dD.gen,?_,?_,?_,?_⟩
      ·intro x k hx; simpa using dD.owlt x k hx
      ·intro x o' hx; simpa using dD.fixlt x o' hx
      ·refine dD.heap.keepBut d8 dW (λn' k dh=>⟨by simp; omega,by simp⟩) (λ_ =>?_)
       refine .inr ⟨b,eP,eN,mes',clock',ec,b2,b3,b4,?_⟩
       intro i en p hi hp
       obtain⟨c1,c2⟩:=b5 i en p hi hp
       exact⟨c1.ext d8,c2.keep d8 dW (by simp)⟩
      ·simp only[yH,aZ]; exact dD.hdom
     show next (a.put o.dst undef) _
     rw[gJ]
     refine hk _ _ G1 ?_ (el.trans d8) rfl
     rw[dy]
     exact jD
    have iE:∀w',(Instr.mapUpdate t (.map (some b)) (a.eval x) (a.eval y)).run P w = .ok () w'→(execOp a.eval o).run P w = .ok .skip w':=by
     intro w' h
     rcases cZ with cZ|cZ<;>simp[execOp,cZ,nz,h]
    rcases O2 fH kF (mes:=mes.toList) (es:=es) (by simpa using a2) (λi e p h1 h2=>(a5 i e p (by simpa using h1) h2).1) gt with⟨rfl,h2⟩ | ⟨i,v',en,p1,rfl,h2,h3,h4,h5⟩
    ·
     simp only[ac] at hs
     obtain⟨rfl,rfl⟩:=hs
     refine finish (mes.push { key:=a.eval x,val:=a.eval y,born:=clock }) (clock+1) (es++[(k,v)]) (iE _ ?_) (by simp[a2]) ?_ ?_ ?_ rfl rfl
     ·simp only[Instr.mapUpdate,Sem.run_bind,run_underlying hu,Result.andThen_ok,run_getObj_map a1,KK fH kF gt,h2,run_setObj_map _ a1]
     ·intro i e' dN
      rw[Array.getElem?_push] at dN
      split at dN
      ·simp at dN; subst dN; simp
      ·have:=a3 i e' dN; omega
     ·intro i i' e' e'' dN he'' jg
      rw[Array.getElem?_push] at dN he''
      split at dN<;>split at he''
      ·omega
      ·simp at dN; subst dN
       have:=a3 i' e'' he''; simp at jg; omega
      ·simp at he''; subst he''
       have:=a3 i e' dN; simp at jg; omega
      ·exact a4 i i' e' e'' dN he'' jg
     ·intro i e' p dN hp
      rw[Array.getElem?_push] at dN
      split at dN
      ·rename_i hi
       simp at dN; subst dN
       rw[aq (by omega)] at hp
       have:i - es.length=0:=by omega
       rw[this] at hp
       simp at hp; subst hp
       refine⟨kF,?_⟩
       have ky:idx=i:=by show es.length=i; omega
       rw[ky] at mT
       exact mT
      ·have hi:i<es.length:=by have:=(aX.1 dN).1; omega
       rw[al hi] at hp
       exact a5 i e' p dN hp
    ·
     simp only[ac] at hs
     obtain⟨rfl,rfl⟩:=hs
     have ky:idx=i:=by show i=i; rfl
     rw[ky] at mT
     have dc:i<mes.size:=by have:=(ah.1 h3).1; simpa using this
     have mw:mes[i]? = some en:=by rw[← bM]; exact h3
     have rx:Instr.sameBits 10000 en.key (a.eval x)=true:=c1t kF (a5 i en (p1,v') mw h4).1 h5 9999
     refine finish (mes.modify i λe=>{ e with key:=a.eval x,val:=a.eval y }) clock (es.set i (k,v)) (iE _ ?_) (by simp[a2]) ?_ ?_ ?_ rfl rfl
     ·simp only[Instr.mapUpdate,Sem.run_bind,run_underlying hu,Result.andThen_ok,run_getObj_map a1,KK fH kF gt,h2,mw,aC,bX,Instr.keyThatStays,rx,if_true,Sem.run_pure,run_setObj_map _ a1]
     ·intro i' e' dN
      rw[cT] at dN
      split at dN
      ·simp only[ab] at dN
       obtain⟨e2,h6,rfl⟩:=dN
       exact a3 i' e2 h6
      ·exact a3 i' e' dN
     ·have dn:∀(i':Nat) (e':MapEntry),(mes.modify i λe=>{ e with key:=a.eval x,val:=a.eval y })[i']? = some e'→∃e2:MapEntry,mes[i']? = some e2∧e2.born=e'.born:=by
       intro i' e' dN
       rw[cT] at dN
       split at dN
       ·simp only[ab] at dN
        obtain⟨e2,h6,rfl⟩:=dN
        exact⟨e2,h6,rfl⟩
       ·exact⟨e',dN,rfl⟩
      intro i1 i2 e1 e2 ye tW jg
      obtain⟨f1,g1,g2⟩:=dn i1 e1 ye
      obtain⟨f2,g3,g4⟩:=dn i2 e2 tW
      exact a4 i1 i2 f1 f2 g1 g3 (by rw[g2,g4,jg])
     ·intro i' e' p dN hp
      rw[cT] at dN
      rw[aO] at hp
      split at dN
      ·rename_i kB
       subst kB
       rw[af rfl] at hp
       split at hp
       ·simp at hp; subst hp
        rw[mw] at dN
        simp at dN; subst dN
        exact⟨kF,mT⟩
       ·simp at hp
      ·rename_i kB
       rw[ae kB] at hp
       exact a5 i' e' p dN hp
 ·simp at hs
theorem c1u (hE:EnvOk E N) {x:Operand} {px:PX} (hc:cx E vs ops x=some px) (hf:FI N w G st a vs (yk vs ops)) (ht:Bz st px=some (u,st1)):
  ∃G',FI N w G' st1 a vs (yk vs ops)∧Ext w G w G'∧VR N w G'.fix G'.heap (a.eval x) u:=by
 by_cases lM:∃i g cs,px = .v i∧raw st px=some (.loc g cs)
 ·obtain⟨i,g,cs,rfl,hr⟩:=lM
  simp only[Bz,hr,aa,ac] at ht
  obtain⟨rfl,rfl⟩:=ht
  have hs:=Ed hE hc hf hr
  obtain⟨b,i',hk,hv,hb,ho,r8,cv,T,hh,hl,jE⟩:=hs
  simp only[Bn,Key.var.injEq] at hk
  subst hk
  have fK:=hf.owlt _ _ ho
  let G':GS:={ G with fix:=λb' o=>G.fix b' o∨(b'=b∧o<cs.length),ow:=λb'=>if b'=b then none else G.ow b' }
  have cX:Ext w G w G':=by
   refine⟨rfl,rfl,rfl,am _,λ_ _ _=>rfl,λ_ _ h=>⟨.inl h,rfl⟩,?_,?_,λ_ _ h=>h,ShapeLe.refl w,rfl⟩
   ·rintro b' o (h|⟨rfl,_⟩)
    ·exact .inl h
    ·refine .inr (.inr ?_)
     rw[show G.ow b'=some (Bn (.v i)) from ho]; simp
   ·intro b' h
    simp only[G'] at h
    split at h
    ·simp at h
    ·exact .inr h
  have db:zu (λk=>k = .var i) w G w G':=by
   refine⟨?_,λ_ _ h=>h⟩
   intro b' k dn hn
   have dh:b'≠b:=by rintro rfl; rw[show G.ow b'=some (Bn (.v i)) from ho] at dn; simp[Bn] at dn; exact hn dn.symm
   refine⟨by simp only[G']; rw[ae dh]; exact dn,rfl,?_⟩
   rintro o (h|⟨h,_⟩)
   ·exact h
   ·exact absurd h dh
  have di:VR N w G'.fix G'.heap (a.eval x) (.cptr (cs.map dem)):=by
   rw[hv]
   refine .cptr b 0 (cs.map dem) (λk=>cv.getD k undef) ?_ ?_ ?_
   ·intro y hy
    obtain⟨z,hz,rfl⟩:=bh.1 hy
    obtain⟨k,hk⟩:=bj.1 hz
    have dc:k<cv.size:=by have:=(ah.1 hk).1; omega
    rw[GK]
    exact(jE k cv[k] z (by simp[dc]) hk).2.1
   ·intro k hk
    simp only[aG] at hk
    have dc:k<cv.size:=by omega
    refine⟨?_,.inr ⟨rfl,by omega⟩⟩
    simp[World.cell?,hh,dc]
   ·intro k y hy
    simp only[aF,ab] at hy
    obtain⟨z,hz,rfl⟩:=hy
    have dc:k<cv.size:=by have:=(ah.1 hz).1; omega
    have:=(jE k cv[k] z (by simp[dc]) hz).1
    simp only[aV,cW dc,bX]
    exact this.dem.ext cX
  have hx:∃t,vs[i]? = some t∧a.eval (.tmp t)=a.eval x:=by
   cases x with
   | tmp t =>
     simp only[cx] at hc
     split at hc
     ·rename_i i2 hi
      simp at hc; subst hc
      obtain⟨_,h2⟩:=Ey hi
      exact⟨t,by simpa using h2,rfl⟩
     ·simp at hc
   | const v=>simp only[cx] at hc; split at hc<;>simp at hc
   | global g=>simp[cx] at hc
   | func f=>simp[cx] at hc
  obtain⟨tx,rk,mE⟩:=hx
  refine⟨G',?_,cX,di⟩
  refine⟨by simp[hf.len],?_,λj' t' u' h1 h2=>(hf.loc j' t' u' h1 h2).keep cX db (by simp) (by simp),hf.tv,hf.tl,hf.defers,hf.gen,?_,?_,hf.heap.keep cX db (by rintro k hk rfl; simp[Key.isH] at hk),hf.hdom⟩
  ·intro i' t' u' h1 h2
   simp only[aO] at h2
   split at h2
   ·rename_i hi
    subst hi
    split at h2
    ·simp at h2; subst h2
     have:t'=tx:=by rw[rk] at h1; simpa using h1.symm
     subst this
     exact SR.of_pure (mE▸di) rfl
    ·simp at h2
   ·rename_i hi
    exact(hf.var i' t' u' h1 h2).keep cX db (by simp; omega) (by simp)
  ·intro b' k h
   simp only[G'] at h
   split at h
   ·simp at h
   ·exact hf.owlt _ _ h
  ·rintro b' o (h|⟨rfl,_⟩)
   ·exact hf.fixlt _ _ h
   ·exact fK
 ·have gb:Bz st px=(rd st px).map (·,st):=by
   unfold Bz
   split
   ·rename_i i g cs h; exact absurd ⟨i,g,cs,rfl,h⟩ lM
   ·rfl
  rw[gb] at ht
  simp only[ab,ac] at ht
  obtain⟨r,hr,rfl,rfl⟩:=ht
  exact⟨G,hf,Ext.refl _ _,(yT hE hc hf hr).1⟩
theorem O3 (hE:EnvOk E N):∀{xs:List Operand} {pxs:List PX} {G:GS} {st st1:St} {us:List PV},cxs E vs ops xs=some pxs→FI N w G st a vs (yk vs ops)→z8 st pxs=some (us,st1) →
  ∃G',FI N w G' st1 a vs (yk vs ops)∧Ext w G w G'∧xs.length=us.length∧∀(i:Nat) (x:Operand) (u:PV),xs[i]? = some x→us[i]? = some u→VR N w G'.fix G'.heap (a.eval x) u
 | [], pxs, G, st, st1, us, hc, hf, h => by
   simp[cxs] at hc; subst hc
   simp only[z8,aa,ac] at h
   obtain⟨rfl,rfl⟩:=h
   exact⟨G,hf,Ext.refl _ _,rfl,by simp⟩
 | x :: xs, pxs, G, st, st1, us, hc, hf, h => by
   simp only[cxs,aj,ab] at hc
   obtain⟨p,hp,ps,ey,rfl⟩:=hc
   simp only[z8,aj,ab,ac] at h
   obtain⟨⟨v,st2⟩,h1,⟨q,st3⟩,h2,rfl,rfl⟩:=h
   obtain⟨G1,f1,e1,v1⟩:=c1u hE hp hf h1
   obtain⟨G2,f2,e2,l2,v2⟩:=O3 hE ey f1 h2
   refine⟨G2,f2,e1.trans e2,by simp[l2],?_⟩
   intro i y z hy hz
   cases i with
   | zero=>simp at hy hz; subst hy hz; exact v1.ext e2
   | succ i=>exact v2 i y z (by simpa using hy) (by simpa using hz)
theorem b71 (hE:EnvOk E N) (nm:Names vs (yk vs ops)) (ho:ops[j]? = some o) (hf:FI N w G st a vs (yk vs ops)) {f:FuncId} {k:Nat} {xs ys:Array Operand} {ps qs:List PX} (cZ:o.op = .makeFunc (.func f) xs ys) (dt:E.inv f=some k)
  (hx:cxs E vs ops xs.toList=some ps) (hy:cxs E vs ops ys.toList=some qs) {cf:yt} (hs:yo cf (.mkfunc k ps qs) st=some (u,st1)) (hk:yK N w G a st1 u vs ops j o next):o.wp P a w next Q:=by
 simp only[yo,aj,ab,ac] at hs
 obtain⟨⟨us,st2⟩,h1,⟨zs,st3⟩,h2,rfl,rfl⟩:=hs
 obtain⟨G1,f1,e1,l1,v1⟩:=O3 hE hx hf h1
 obtain⟨G2,f2,e2,l2,v2⟩:=O3 hE hy f1 h2
 have eH:=hE.fn _ _ dt
 have yf:=hE.yl _ _ dt
 unfold Oper.wp
 have da:(execOp a.eval o).run P w = .ok (.value (.func (.func f) (xs.map a.eval) (ys.map a.eval))) w:=by
  simp[execOp,cZ,Instr.makeFunc]
 rw[da]
 refine hk _ _ G2 (f2.put nm (BH ho) (SR.of_pure ?_ rfl)) (e1.trans e2) (BJ _ _ _)
 subst eH
 refine .func k _ _ us zs yf (by simpa using l1) (by simpa using l2) ?_ ?_
 ·intro i c p hc hp
  simp only[bU,ab] at hc
  obtain⟨x,eT,rfl⟩:=hc
  exact(v1 i x p (by simpa using eT) hp).ext e2
 ·intro i c p hc hp
  simp only[bU,ab] at hc
  obtain⟨x,eT,rfl⟩:=hc
  exact v2 i x p (by simpa using eT) hp
theorem KL {t:TypeId} {v c:Value} {b:Bool} (h:(Op.equalIn 10000 t v c).run P w = .ok b w) (op:BinOp) (cZ:op = .eql∨op = .neq) (x y:Operand)
  (hg:(eqGuard op t x y v c).run P w = .ok () w) (eP:binOp .eql t v c=(do let r←Op.equal t v c; pure (.bool r))) (dK:binOp .neq t v c=(do let r←Op.equal t v c; pure (.bool !r))):
  (do eqGuard op t x y v c; binOp op t v c:Sem Value).run P w = .ok (.bool (if op == .neq then !b else b)) w:=by
 have h':(Op.equal t v c).run P w = .ok b w:=h
 rcases cZ with rfl|rfl
 ·simp only[Sem.run_bind,hg,Result.andThen_ok,eP,h',Sem.run_pure]; rfl
 ·simp only[Sem.run_bind,hg,Result.andThen_ok,dK,h',Sem.run_pure]; rfl
theorem c3k {t e:TypeId} (hu:P.underlying t=some (.slice e)) (ad:Option Addr) (l c:Nat):(Op.equalIn 10000 t (.slice ad l c) (.slice none 0 0)).run P w = .ok ad.isNone w:=by
 unfold Op.equalIn
 simp only[Sem.run_bind,run_underlying hu,Result.andThen_ok]
 cases ad<;>rfl
theorem c8k {t e:TypeId} (hu:P.underlying t=some (.pointer e)) (ad:Option Addr):(Op.equalIn 10000 t (.pointer ad) (.pointer none)).run P w = .ok ad.isNone w:=by
 unfold Op.equalIn
 simp only[Sem.run_bind,run_underlying hu,Result.andThen_ok]
 cases ad<;>rfl
theorem c8l {t k e:TypeId} (hu:P.underlying t=some (.map k e)) (r:Option Nat):(Op.equalIn 10000 t (.map r) (.map none)).run P w = .ok r.isNone w:=by
 unfold Op.equalIn
 simp only[Sem.run_bind,run_underlying hu,Result.andThen_ok]
 cases r<;>rfl
theorem c3l {t:TypeId} {ms:Array (String×TypeId)} (hu:P.underlying t=some (.interface ms)) (v:Value) (b:Bool) (h:(v = .nilIface∧b=true)∨(∃t' x,v = .iface t' x)∧b=false):(Op.equalIn 10000 t v .nilIface).run P w = .ok b w:=by
 unfold Op.equalIn
 simp only[Sem.run_bind,run_underlying hu,Result.andThen_ok]
 rcases h with⟨rfl,rfl⟩|⟨⟨t',x,rfl⟩,rfl⟩<;>rfl
theorem b9k (hE:EnvOk E N) (nm:Names vs (yk vs ops)) (ho:ops[j]? = some o) (hf:FI N w G st a vs (yk vs ops)) {op:BinOp} {t t':TypeId} {x y:Operand} {px:PX} {kd:Nat} (cZ:o.op = .binOp op t x y t')
  (gO:op = .eql∨op = .neq) (ht:NQ P t y=some kd) (hx:cx E vs ops x=some px) {cf:yt} (hs:yo cf (.isnil kd (op == .neq) px) st=some (u,st1)) (hk:yK N w G a st1 u vs ops j o next):o.wp P a w next Q:=by
 simp only[yo,ab,aj,ac] at hs
 obtain⟨b,⟨p,hp,hb⟩,rfl,rfl⟩:=hs
 have hv:=(yT hE hx hf hp).1
 refine yV nm ho hf ?_ (SR.of_pure (.bool _) rfl) hk
 have jR:∀v c:Value,(∀cs,v≠.agg cs)→v≠.nilIface→(eqGuard op t x y v c).run P w = .ok () w:=by
  intro v c h1 h2
  rcases gO with rfl|rfl<;>cases v<;>cases c<;>first|rfl|exact absurd rfl h2|exact absurd rfl (h1 _)
 have key:(do eqGuard op t x y (a.eval x) (a.eval y); binOp op t (a.eval x) (a.eval y):Sem Value).run P w = .ok (.bool (if op == .neq then !b else b)) w:=by
  unfold NQ at ht
  split at ht<;>simp only[aa,reduceCtorEq] at ht<;>subst ht
  ·rename_i hu
   have dE:∃ad l c,a.eval x = .slice ad l c∧ad.isNone=b:=by
    generalize a.eval x=v at hv
    unfold EI at hb
    split at hb<;>simp only[aa,reduceCtorEq] at hb<;>subst hb<;>(try (rename_i h0; simp at h0))<;>cases hv<;>first|exact⟨_,_,_,rfl,rfl⟩|simp_all
   obtain⟨ad,l,c,eT,rfl⟩:=dE
   rw[eT]
   exact KL (c3k hu ad l c) op gO x _ (jR _ _ (by simp) (by simp)) rfl rfl
  ·rename_i hu
   have dE:∃ad,a.eval x = .pointer ad∧ad.isNone=b:=by
    generalize a.eval x=v at hv
    unfold EI at hb
    split at hb<;>simp only[aa,reduceCtorEq] at hb<;>subst hb<;>(try (rename_i h0; simp at h0))<;>cases hv<;>exact⟨_,rfl,rfl⟩
   obtain⟨ad,eT,rfl⟩:=dE
   rw[eT]
   exact KL (c8k hu ad) op gO x _ (jR _ _ (by simp) (by simp)) rfl rfl
  ·rename_i hu
   have dE:∃ad,a.eval x = .map ad∧ad.isNone=b:=by
    generalize a.eval x=v at hv
    unfold EI at hb
    split at hb<;>simp only[aa,reduceCtorEq] at hb<;>subst hb<;>(try (rename_i h0; simp at h0))<;>cases hv<;>exact⟨_,rfl,rfl⟩
   obtain⟨ad,eT,rfl⟩:=dE
   rw[eT]
   exact KL (c8l hu ad) op gO x _ (jR _ _ (by simp) (by simp)) rfl rfl
  ·rename_i hu
   have dE:(a.eval x = .nilIface∧b=true)∨(∃t' z,a.eval x = .iface t' z)∧b=false:=by
    generalize a.eval x=v at hv
    unfold EI at hb
    split at hb<;>simp only[aa,reduceCtorEq] at hb<;>subst hb<;>(try (rename_i h0; simp at h0))<;>cases hv<;>first|exact .inl ⟨rfl,rfl⟩|exact .inr ⟨⟨_,_,rfl⟩,rfl⟩
   have hg:(eqGuard op t x (.const .nilIface) (a.eval x) .nilIface).run P w = .ok () w:=by
    rcases dE with⟨h,_⟩|⟨⟨t',z,h⟩,_⟩<;>rw[h]<;>rcases gO with rfl|rfl<;>simp[eqGuard]
   have he:=c3l (P:=P) (w:=w) hu _ _ dE
   refine KL he op gO x _ hg ?_ ?_<;>(rcases dE with⟨h,_⟩|⟨⟨t',z,h⟩,_⟩<;>rw[h]<;>rfl)
 simp only[execOp,cZ,Sem.run_bind,key,Result.andThen_ok,Sem.run_pure]
theorem b9l (hE:EnvOk E N) (nm:Names vs (yk vs ops)) (ho:ops[j]? = some o) (hf:FI N w G st a vs (yk vs ops)) {t:TypeId} {n:Nat} {x:Operand} {px:PX} (cZ:o.op = .load t x) (hn:yX P t=some n)
  (hx:cx E vs ops x=some px) {cf:yt} (hs:yo cf (.loadc n (zl P t) px) st=some (u,st1)) (hk:yK N w G a st1 u vs ops j o next):o.wp P a w next Q:=by
 simp only[yo] at hs
 split at hs
 ·rename_i cs ha
  simp only[ab,ac] at hs
  obtain⟨r,hr,rfl,rfl⟩:=hs
  obtain⟨r',h1,h2,h3⟩:=OL (P:=P) hn (yT hE hx hf ha).1 hr
  exact yV nm ho hf (by simp[execOp,cZ,h1]) (SR.of_pure h2 h3) hk
 ·simp at hs
theorem b72 (hE:EnvOk E N) (nm:Names vs (yk vs ops)) (ho:ops[j]? = some o) (hf:FI N w G st a vs (yk vs ops)) {x:Operand} {px:PX} (cZ:o.op = .nilCheck x)
  (hx:cx E vs ops x=some px) {cf:yt} (hs:yo cf (.nilchk px) st=some (u,st1)) (hk:yK N w G a st1 u vs ops j o next):o.wp P a w next Q:=by
 have run:∀ad,a.eval x = .pointer (some ad)→(execOp a.eval o).run P w = .ok (.value (.pointer (some ad))) w:=by
  intro ad h
  simp[execOp,cZ,h]
 simp only[yo] at hs
 split at hs
 ·rename_i n off ha
  simp only[aa,ac] at hs
  obtain⟨rfl,rfl⟩:=hs
  obtain⟨b,hv,hb⟩:=KI hE hx hf ha
  exact yV nm ho hf (run _ hv) (SR.of_pure (.ptr _ _ b hb) rfl) hk
 ·rename_i cs ha
  simp only[aa,ac] at hs
  obtain⟨rfl,rfl⟩:=hs
  rcases Ee hE hx hf ha with⟨_,_,_,_,h,_⟩|⟨h,_⟩
  ·simp at h
  ·generalize hv:a.eval x=v at h
   have h':=h
   cases h with
   | cptr b off _ cv _ _ _=>exact yV nm ho hf (run _ hv) (SR.of_pure h' rfl) hk
 ·rename_i s g off ha
  simp only[aa,ac] at hs
  obtain⟨rfl,rfl⟩:=hs
  rcases Ee hE hx hf ha with⟨_,_,_,b,h,hv,hb⟩|⟨_,h⟩
  ·simp only[PV.lptr.injEq] at h
   obtain⟨rfl,rfl,rfl⟩:=h
   exact yV nm ho hf (run _ hv) (SR.lptr rfl hb) hk
  ·simp[cp] at h
 ·simp at hs
end
end PI
