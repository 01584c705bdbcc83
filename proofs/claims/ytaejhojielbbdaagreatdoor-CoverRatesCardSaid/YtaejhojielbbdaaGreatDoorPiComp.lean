/-
  From a translation's code to the pure interpreter's: a function that resolves types and numbers, or says that it can't.
-/
import Derived.Test.YtaejhojielbbdaaGreatDoorPiBase
import Derived.Calls
set_option linter.unusedVariables false
set_option linter.unusedSimpArgs false
namespace PI
open Go
structure Env where
 P : Program
 inv : FuncId → Option Nat
 tinv : TypeId → Option Nat
 /-- variables that hold addresses of the shared heap; functions, and function values, that are called with the heap -/
 hs : List Tmp := []
 hf : List FuncId := []
 hv : List Tmp := []
 /-- the type of strings.Builder -/
 bT : Option TypeId := none
 /-- types of slices whose rows are objects of the heap -/
 rs : List TypeId := []
 /-- functions, and function values, whose calls may panic -/
 bf : List FuncId := []
 bv : List Tmp := []
 /-- types of values that are panicked with -/
 pt : List TypeId := []
 /-- loops over functions: the loop's variables, the function that its rounds are, what they take from the frame -/
 lps : List (Array Tmp × Nat × List Tmp) := []
 /-- stores into the heap that leave their source's room alone -/
 sr : Bool := false
 /-- the nil slice is known to be nil -/
 nl : Bool := false
 /-- functions called with the room of an argument, if said, whose value keeps its room -/
 ox : List (FuncId × Option Nat) := []
 /-- functions whose calls leave the heap as it is -/
 rf : List FuncId := []
 /-- functions to which rows are lent -/
 lf : List FuncId := []
 /-- the places of calls whose rows become lists -/
 zd : List Tmp := []
 /-- places of rows that become objects when they are built into something; types whose appends are plain; functions whose rows, given back, become lists -/
 fr : List Tmp := []
 pa : List TypeId := []
 pz : List FuncId := []
 /-- loads from boxes that variables hold are told apart -/
 lv : Bool := false
def oxOf (f : FuncId) : List (FuncId × Option Nat) → Option (Option Nat)
 | [] => none
 | p :: ps => if p.1 = f then some p.2 else oxOf f ps
def constFlat : Value → Option PV
 | .bool b => some (.bool b)
 | .int k n => some (.int k n)
 | .string s => some (.str s.data.toList)
 | .pointer none => some .nilptr
 | .slice none 0 0 => some (.list true [])
 | .map none => some (.map none)
 | .nilFunc => some .nilfunc
 | .nilIface => some .nilIface
 | _ => none
def constAll : List Value → Option (List PV)
 | [] => some []
 | v :: vs => (constFlat v).bind fun p => (constAll vs).map (p :: ·)
def constPV : Value → Option PV
 | .agg cs => (constAll cs.toList).map .agg
 | v => constFlat v
def isAggT (P : Program) (t : TypeId) : Bool :=
 match P.underlying t with
 | some (.struct _) | some (.array _ _) => true
 | _ => false
/-- A type's size in cells, which must not be 0. -/
def sizeT (P : Program) (t : TypeId) : Option Nat :=
 match P.info? t with
 | some i => if i.size = 0 ∨ (P.underlying t).isNone ∨ (isAggT P t = false ∧ i.size ≠ 1) then none else some i.size
 | none => none
/-- A type's zero value's cells. -/
def zeroT (P : Program) (t : TypeId) : Option (List PV) :=
 match P.info? t with
 | some i =>
   match i.zero with
   | some z => (constAll z.cells.toList).bind fun cs => if cs.length = i.size ∧ i.size ≠ 0 then some cs else none
   | none => none
 | none => none
def idxIn (t : Tmp) : List Tmp → Nat → Option Nat
 | [], _ => none
 | x :: xs, i => if x = t then some i else idxIn t xs (i + 1)
def dstIn (t : Tmp) : List Oper → Nat → Option Nat
 | [], _ => none
 | o :: os, i => if o.dst = some t then some i else dstIn t os (i + 1)
def isNilS : Value → Bool
 | .slice none 0 0 => true
 | _ => false
def cx (E : Env) (vs : List Tmp) (ops : List Oper) : Operand → Option PX
 | .tmp t =>
   match idxIn t vs 0 with
   | some i => some (.v i)
   | none => (dstIn t ops 0).map .l
 | .const v => if E.nl && isNilS v then some (.c .nils) else (constPV v).map .c
 | .func f => (E.inv f).map fun k => .c (.func k [] [])
 | .global _ => none
def cxs (E : Env) (vs : List Tmp) (ops : List Oper) : List Operand → Option (List PX)
 | [] => some []
 | x :: xs => (cx E vs ops x).bind fun p => (cxs E vs ops xs).map (p :: ·)
def cxo (E : Env) (vs : List Tmp) (ops : List Oper) : Option Operand → Option (Option PX)
 | none => some none
 | some x => (cx E vs ops x).map some
def cParts (E : Env) (vs : List Tmp) (ops : List Oper) (place : Nat → Option (Nat × Nat)) : List (Nat × Operand) → Option (List (Nat × Nat × PX))
 | [] => some []
 | (i, x) :: r => (place i).bind fun p => if p.2 = 0 then none else (cx E vs ops x).bind fun px => (cParts E vs ops place r).map ((p.1, p.2, px) :: ·)
def cElems (E : Env) (vs : List Tmp) (ops : List Oper) : List (Nat × Operand) → Option (List (Nat × PX))
 | [] => some []
 | (i, x) :: r => (cx E vs ops x).bind fun px => (cElems E vs ops r).map ((i, px) :: ·)
/-- The variable whose box an address lies in, by the text. -/
def rootV (vs : List Tmp) (ops : List Oper) : Nat → Operand → Option Nat
 | 0, _ => none
 | f + 1, .tmp t =>
   match idxIn t vs 0 with
   | some i => some i
   | none => match ops.find? (fun o => o.dst == some t) with
     | some o => match o.op with
       | .fieldAddr _ x _ => rootV vs ops f x
       | _ => none
     | none => none
 | _, _ => none
/-- What is not covered is never run. -/
def stuckOp : POp := .mov (.c .dead)
/-- Is a temporary what an append of this region appends to? -/
def takenBy (ox : List (FuncId × Option Nat)) (t : Tmp) (o : Oper) : Bool :=
 match o.op with
 | .call { callee := .value (.func f), args, .. } => match oxOf f ox with
   | some (some i) => match (args[i]? : Option Operand) with
     | some (.tmp u) => u == t
     | _ => false
   | _ => false
 | .call { callee := .builtin .append, args, .. } => match (args[0]? : Option Operand) with
   | some (.tmp u) => u == t
   | _ => false
 | .assign (.tmp u) => u == t && ox.any fun p => p.1 == 1000000
 | _ => false
def isTaker (ox : List (FuncId × Option Nat)) (vs : List Tmp) (ops : List Oper) (d : Option Tmp) : Bool :=
 match d with
 | some t => (idxIn t vs 0).isNone && ops.any (takenBy ox t)
 | none => false
/-- How '==' sees a type of one cell. -/
def ekT (P : Program) (t : TypeId) : Option EK :=
 match P.underlying t with
 | some .bool => some .b
 | some (.int _) => some .i
 | some .string => some .s
 | _ => none
/-- Fields, all of one cell and of a kind that '==' compares without memory, one behind the other. -/
def eqFields (P : Program) : List Field → Nat → Option (List EK)
 | [], _ => some []
 | f :: fs, off =>
   if f.offset = off ∧ f.name ≠ "_" ∧ sizeT P f.type = some 1 ∧ isAggT P f.type = false then (ekT P f.type).bind fun k => (eqFields P fs (off + 1)).map (k :: ·) else none
/-- How '==' at a type is done: as any operation; or by kinds, field by field. -/
def eqT (P : Program) (t : TypeId) : Option (Option (Bool × List EK)) :=
 match P.underlying t with
 | some (.int _) | some .string => some none
 | some .bool => some (some (false, [.b]))
 | some (.struct fs) =>
   match eqFields P fs.toList 0 with
   | some ks => if !P.stoodInHeld t && !P.eqGuardType P.depth t then some (some (true, ks)) else none
   | none => none
 | _ => none
def cDst (vs : List Tmp) : Option Tmp → PD
 | none => .n
 | some t => match idxIn t vs 0 with
   | some i => .v i
   | none => .l
def isVar : PD → Bool
 | .v _ => true
 | _ => false
def isN : PD → Bool
 | .n => true
 | _ => false
def cBuiltin (E : Env) (vs : List Tmp) (ops : List Oper) (b : Builtin) (args : List Operand) (argTypes : List TypeId) : Option POp :=
 match b, args, argTypes with
 | .len, [x], t :: _ =>
   match E.P.underlying t with
   | some .string => (cx E vs ops x).map (.len true)
   | some (.slice _) => (cx E vs ops x).map (.len false)
   | _ => none
 | .min, xs, _ => (cxs E vs ops xs).map (.minmax false)
 | .max, xs, _ => (cxs E vs ops xs).map (.minmax true)
 | .cap, [x], t :: _ =>
   match E.P.underlying t with
   | some (.slice _) => (cx E vs ops x).map .cap
   | _ => none
 | .append, [s, x], [ts, tx] =>
   match E.P.underlying ts, E.P.underlying tx with
   | some (.slice e), some (.slice _) =>
     match sizeT E.P e, zeroT E.P e with
     | some size, some _ => (cx E vs ops s).bind fun ps => (cx E vs ops x).map fun px => .append size (E.P.bytesOf e) ps px
     | _, _ => none
   | some (.slice e), some .string =>
     match E.P.underlying e, sizeT E.P e, zeroT E.P e, E.P.bytesOf e with
     | some (.int .u8), some 1, some _, 1 => (cx E vs ops s).bind fun ps => (cx E vs ops x).map fun px => .appstr ps px
     | _, _, _, _ => none
   | _, _ => none
 | _, _, _ => none
/-- Is a slice one that the interpreter's heap holds? -/
def isRow (E : Env) (vs : List Tmp) (ops : List Oper) : Nat → Operand → Bool
 | 0, _ => false
 | n + 1, .tmp t =>
   if (idxIn t vs 0).isSome then E.hs.contains t
   else match ops.find? (fun o => o.dst == some t) with
    | some o =>
      match o.op with
      | .move x | .assign x => isRow E vs ops n x
      | _ => false
    | none => false
 | _, _ => false
/-- Is an address one of the shared heap? -/
def isHx (E : Env) (vs : List Tmp) (ops : List Oper) : Nat → Operand → Bool
 | 0, _ => false
 | n + 1, .tmp t =>
   if (idxIn t vs 0).isSome then E.hs.contains t
   else match ops.find? (fun o => o.dst == some t) with
    | some o =>
      match o.op with
      | .fieldAddr _ x _ => isHx E vs ops n x
      | .indexAddr ty x _ => match E.P.underlying ty with
        | some (.slice _) => E.rs.contains ty || isRow E vs ops n x
        | _ => isHx E vs ops n x
      | .move x | .assign x | .nilCheck x => isHx E vs ops n x
      | _ => true
    | none => false
 | _, _ => false
/-- Is an address one of an element of a slice? -/
def isSl (E : Env) (vs : List Tmp) (ops : List Oper) : Nat → Operand → Bool
 | 0, _ => false
 | n + 1, .tmp t =>
   if (idxIn t vs 0).isSome then false
   else match ops.find? (fun o => o.dst == some t) with
    | some o =>
      match o.op with
      | .fieldAddr _ x _ => isSl E vs ops n x
      | .indexAddr ty x _ => match E.P.underlying ty with
        | some (.slice _) => !(E.rs.contains ty || isRow E vs ops n x)
        | _ => isSl E vs ops n x
      | _ => false
    | none => false
 | _, _ => false
def isFn : Fn → Option FuncId
 | .func f => some f
 | _ => none
/-- How a map sees its keys. -/
def keyT (P : Program) (t : TypeId) : Option (Bool × List EK) :=
 match ekT P t with
 | some k => some (false, [k])
 | none => match eqT P t with
   | some (some (true, ks)) => some (true, ks)
   | _ => none
/-- A type's zero value. -/
def zeroV (P : Program) (t : TypeId) : Option PV :=
 match P.info? t with
 | some i => i.zero.bind constPV
 | none => none
/-- Types whose values may be nil, and their nil. -/
def nilT (P : Program) (t : TypeId) (y : Operand) : Option Nat :=
 match P.underlying t, y with
 | some (.slice _), .const (.slice none 0 0) => some 0
 | some (.pointer _), .const (.pointer none) => some 1
 | some (.map _ _), .const (.map none) => some 2
 | some (.interface _), .const .nilIface => some 4
 | _, _ => none
/-- The same number, read twice. -/
def sameO : Operand → Operand → Bool
 | .tmp a, .tmp b => a == b
 | .const (.int _ a), .const (.int _ b) => a == b
 | _, _ => false
/-- The method of a type that is on the list: its function, and what is loaded for its receiver. -/
def mOf (E : Env) (name : String) (T : TypeId) : Option (Nat × Option (Nat × Bool)) :=
 match (E.P.info? T).bind (fun i => i.methods.find? (·.name == name)) with
 | some m => if m.path.isEmpty then
   match m.func, E.P.underlying T with
   | some (f, true), some (.pointer _) => (E.inv f).map fun k => (k, none)
   | some (f, false), some (.pointer e) => (E.inv f).bind fun k => (sizeT E.P e).map fun n => (k, some (n, isAggT E.P e))
   | _, _ => none
   else none
 | none => none
def mTab (E : Env) (name : String) : List TypeId → List (Nat × Nat × Option (Nat × Bool))
 | [] => []
 | T :: Ts => match idxIn T E.pt 0, mOf E name T with
   | some i, some r => (i + 1, r) :: mTab E name Ts
   | _, _ => mTab E name Ts
/-- Is a place appended to something in the same region? -/
def isApp (ops : List Oper) (t : Tmp) : Bool := ops.any fun o => match o.op with
 | .call { callee := .builtin .append, args, .. } => match args.toList with
   | [_, .tmp t'] => t' == t
   | _ => false
 | _ => false
/-- The place of a row that becomes an object here. -/
def frAt (E : Env) (vs : List Tmp) (ops : List Oper) : Operand → Option Nat
 | .tmp t => if E.fr.contains t then (match cx E vs ops (.tmp t) with | some (.l j) => some j | _ => none) else none
 | _ => none
theorem frAt_some {E : Env} {vs : List Tmp} {ops : List Oper} {x : Operand} {j : Nat} (h : frAt E vs ops x = some j) : ∃ t, x = .tmp t ∧ cx E vs ops (.tmp t) = some (.l j) := by
 unfold frAt at h
 split at h
 ·rename_i t
  split at h
  ·split at h
   ·rename_i j' hc
    simp only [Option.some.injEq] at h; subst h
    exact ⟨t, rfl, hc⟩
   ·simp at h
  ·simp at h
 ·simp at h
def cHeap (E : Env) (vs : List Tmp) (ops : List Oper) (o : Oper) : Option HOp :=
 let c := cx E vs ops
 match o.op with
 | .alloc t => if isN (cDst vs o.dst) || (isVar (cDst vs o.dst) && !E.hs.contains (o.dst.getD 0)) then none else if E.bT = some t then some .newbld else (zeroT E.P t).map .newobj
 | .box t x => if isN (cDst vs o.dst) || (isVar (cDst vs o.dst) && !E.hs.contains (o.dst.getD 0)) then none else (sizeT E.P t).bind fun n => (c x).map fun p => .boxobj n p
 | .load t a => if isHx E vs ops 64 a then (sizeT E.P t).bind fun n => (c a).map fun p => if isTaker E.ox vs ops o.dst && !E.pa.isEmpty && !isAggT E.P t then .loadn p else .load n (isAggT E.P t) p (isTaker E.ox vs ops o.dst)
   else if isSl E vs ops 64 a then (sizeT E.P t).bind fun n => (c a).map fun p => .loadc n (isAggT E.P t) p else none
 | .store t a x => if o.dst = none ∧ isHx E vs ops 64 a then (sizeT E.P t).bind fun n => (c a).bind fun pa => (c x).map fun px => if E.sr then .storer n (isAggT E.P t) pa px else .store n (isAggT E.P t) pa px else none
 | .indexAddr t x i =>
   match E.P.underlying t with
   | some (.array len e) => if isHx E vs ops 64 x then (sizeT E.P e).bind fun n => (c x).bind fun px => (c i).map fun pi => .iaddr len n px pi else none
   | _ => none
 | .buildSlice t len parts =>
   if E.rs.contains t && !isN (cDst vs o.dst) && !isApp ops (o.dst.getD 0) then
    match E.P.underlying t with
    | some (.slice e) =>
      match sizeT E.P e, zeroT E.P e with
      | some size, some z => if len * size ≤ 16777216 then (cElems E vs ops parts.toList).map fun ps => .mkrow size (isAggT E.P e) (if isAggT E.P e then .agg z else z.headD .dead) len ps else none
      | _, _ => none
    | _ => none
   else none
 | .makeMap _ none => if isN (cDst vs o.dst) then none else some .mkmap
 | .lookup t m k ok =>
   match E.P.underlying t with
   | some (.map kt e) => (keyT E.P kt).bind fun kk => (zeroV E.P e).bind fun z => (c m).bind fun pm => (c k).map fun pk => .lookup ok (isTaker E.ox vs ops o.dst) kk.1 kk.2 z pm pk
   | _ => none
 | .mapUpdate t m k v | .insert t m k v =>
   match E.P.underlying t with
   | some (.map kt _) => if o.dst = none then (keyT E.P kt).bind fun kk => (c m).bind fun pm => (c k).bind fun pk => (c v).map fun pv => .mset kk.1 kk.2 pm pk pv else none
   | _ => none
 | .binOp op t x y _ => if op = .eql ∨ op = .neq then (nilT E.P t y).bind fun k => (c x).map fun p => .isnil k (op == .neq) p else none
 | .nilCheck x => (c x).map .nilchk
 | .makeSlice t l c' =>
   match E.P.underlying t with
   | some (.slice e) =>
     match sizeT E.P e, zeroT E.P e with
     | some size, some z => if isN (cDst vs o.dst) || !sameO l c' then none else (c l).map fun p => if E.fr.contains (o.dst.getD 0) then .mkfresh size (isAggT E.P e) (E.P.bytesOf e) z p else .mkarr size (isAggT E.P e) (E.P.bytesOf e) z p
     | _, _ => none
   | _ => none
 | .range t x =>
   match E.P.underlying t with
   | some .string => if isN (cDst vs o.dst) then none else (c x).map .range
   | _ => none
 | .next x true => if isN (cDst vs o.dst) then none else (c x).map .next
 | .build t parts =>
   match E.P.underlying t with
   | some (.array _ e) =>
     match sizeT E.P e, zeroT E.P t with
     | some size, some z => (cParts E vs ops (fun i => some (i * size, size)) parts.toList).map fun ps => .barr z ps
     | _, _ => none
   | some (.struct fs) =>
     let js := parts.toList.filterMap fun p => frAt E vs ops p.2
     if js.isEmpty then none else
     match fs.toList.mapM (fun f => (E.P.info? f.type).map fun i => (f.offset, i.size)), zeroT E.P t with
     | some places, some z => (cParts E vs ops (places.toArray[·]?) parts.toList).map fun ps => .buildA js z ps
     | _, _ => none
   | _ => none
 | .index t x i =>
   match E.P.underlying t with
   | some (.array len e) => (sizeT E.P e).bind fun n => (c x).bind fun px => (c i).map fun pi => .idxA len n (isAggT E.P e) px pi
   | _ => none
 | .makeFunc fn first captured => if isN (cDst vs o.dst) then none else (isFn fn).bind fun f => (E.inv f).bind fun k => (cxs E vs ops first.toList).bind fun ps => (cxs E vs ops captured.toList).map fun qs => .mkfunc k ps qs
 | .call { callee := .builtin .append, args, argTypes } =>
   match args.toList, argTypes.toList with
   | [s, x], [ts, tx] =>
     if E.rs.contains ts && !isN (cDst vs o.dst) && !E.pa.contains ts then
      match E.P.underlying ts, E.P.underlying tx with
      | some (.slice e), some (.slice _) =>
        match sizeT E.P e, zeroT E.P e with
        | some size, some _ => (c s).bind fun ps => (c x).map fun px => .happ size (isAggT E.P e) (E.P.bytesOf e) ps px
        | _, _ => none
      | some (.slice e), some (.int _) =>
        match sizeT E.P e, zeroT E.P e with
        | some size, some z => (c s).bind fun ps => (c x).map fun px => .happz size (isAggT E.P e) (E.P.bytesOf e) z ps px
        | _, _ => none
      | _, _ => none
     else none
   | _, _ => none
 | .call { callee := .builtin .clear, args, argTypes } =>
   match args.toList, argTypes.toList with
   | [x], t :: _ => match E.P.underlying t with
     | some (.slice e) => if isN (cDst vs o.dst) then (sizeT E.P e).bind fun size => (zeroT E.P e).bind fun _ => (c x).map fun px => .clear size px else none
     | _ => none
   | _, _ => none
 | .call { callee := .builtin .delete, args, argTypes } =>
   match args.toList, argTypes.toList with
   | [m, k], t :: _ => match E.P.underlying t with
     | some (.map kt _) => if o.dst = none then (keyT E.P kt).bind fun kk => (c m).bind fun pm => (c k).map fun pk => .mdel kk.1 kk.2 pm pk else none
     | _ => none
   | _, _ => none
 | .call { callee := .builtin .len, args, argTypes } =>
   match args.toList, argTypes.toList with
   | [x], t :: _ => match E.P.underlying t with
     | some (.map _ _) => if isN (cDst vs o.dst) then none else (c x).map .mlen
     | _ => none
   | _, _ => none
 | .call { callee := .value (.func f), args, .. } => if E.hf.contains f || E.zd.contains (o.dst.getD 0) then (E.inv f).bind fun k => (cxs E vs ops args.toList).map fun ps => if E.rf.contains f then .rcall k ps else if E.lf.contains f then .lcall k ps else if E.zd.contains (o.dst.getD 0) then .zcall k ps else .call k ps else none
 | .call { callee := .invoke x name, args, .. } => (c x).bind fun p => (cxs E vs ops args.toList).map fun ps => .icall (mTab E name E.pt) p ps
 | .call { callee := .value (.tmp t), args, .. } => if E.hv.contains t then (c (.tmp t)).bind fun p => (cxs E vs ops args.toList).map fun ps => .callv p ps else none
 | _ => none
def cOp (E : Env) (vs : List Tmp) (ops : List Oper) (o : Oper) : Option POp :=
 let c := cx E vs ops
 match cHeap E vs ops o with
 | some h => some (.h h)
 | none =>
 match o.op with
 | .move x => (c x).map fun p => if isTaker E.ox vs ops o.dst then .take p else .mov p
 | .assign x => (c x).map .take
 | .pick x a b => (c x).bind fun px => (c a).bind fun pa => (c b).map fun pb => .pick px pa pb
 | .alloc t => if isVar (cDst vs o.dst) then (zeroT E.P t).map .newloc else none
 | .box t x => if isVar (cDst vs o.dst) then (sizeT E.P t).bind fun n => (c x).map fun p => .boxloc n p else none
 | .build t parts =>
   match E.P.underlying t, zeroT E.P t with
   | some (.struct fs), some z =>
     match fs.toList.mapM (fun f => (E.P.info? f.type).map fun i => (f.offset, i.size)) with
     | some places => (cParts E vs ops (places.toArray[·]?) parts.toList).map fun ps => .build z ps
     | none => none
   | _, _ => none
 | .buildSlice t len parts =>
   match E.P.underlying t with
   | some (.slice e) =>
     match sizeT E.P e, zeroT E.P e with
     | some size, some z => if len * size ≤ 16777216 then (cElems E vs ops parts.toList).map fun ps => .mkslice size (if isAggT E.P e then .agg z else z.headD .dead) len ps else none
     | _, _ => none
   | _ => none
 | .load t a => (sizeT E.P t).bind fun n => (c a).map fun p =>
   match (if E.lv && !isTaker E.ox vs ops o.dst then rootV vs ops 64 a else none) with
   | some s => .loadv s n (isAggT E.P t) p
   | none => .load n (isAggT E.P t) p (isTaker E.ox vs ops o.dst)
 | .store t a x => if o.dst = none then (sizeT E.P t).bind fun n => (c a).bind fun pa => (c x).map fun px => .store n (isAggT E.P t) pa px else none
 | .fieldAddr s x f =>
   match E.P.underlying s with
   | some (.struct fs) =>
     match fs[f]? with
     | some fd => (sizeT E.P fd.type).bind fun _ => (c x).map fun p => .faddr fd.offset p
     | none => none
   | _ => none
 | .indexAddr t x i =>
   match E.P.underlying t with
   | some (.slice e) => (sizeT E.P e).bind fun n => (c x).bind fun px => (c i).map fun pi => .iaddrS n px pi
   | some (.array len e) => (sizeT E.P e).bind fun n => (c x).bind fun px => (c i).map fun pi => .iaddrA len n px pi
   | _ => none
 | .field t x f =>
   match E.P.underlying t with
   | some (.struct fs) =>
     match fs[f]? with
     | some fd => (sizeT E.P fd.type).bind fun n => (c x).map fun p => .field fd.offset n (isAggT E.P fd.type) p
     | none => none
   | _ => none
 | .index t x i =>
   match E.P.underlying t with
   | some .string => (c x).bind fun px => (c i).map fun pi => .indexStr px pi
   | _ => none
 | .slice t x lo hi none =>
   match E.P.underlying t with
   | some .string => (c x).bind fun px => (cxo E vs ops lo).bind fun pl => (cxo E vs ops hi).map fun ph => .slice true 1 px pl ph
   | some (.slice e) => (sizeT E.P e).bind fun n => (c x).bind fun px => (cxo E vs ops lo).bind fun pl => (cxo E vs ops hi).map fun ph => .slice false n px pl ph
   | some (.array n e) =>
     match sizeT E.P e, isAggT E.P e, lo, hi with
     | some 1, false, none, none => (c x).map (.sliceLoc n)
     | _, _, _, _ => none
   | _ => none
 | .binOp op t x y _ =>
   if op = .eql ∨ op = .neq then
    match eqT E.P t with
    | some (some (agg, ks)) => (c x).bind fun px => (c y).map fun py => .eq (op == .neq) agg ks px py
    | some none => (c x).bind fun px => (c y).map fun py => .bin op px py
    | none => none
   else (c x).bind fun px => (c y).map fun py => .bin op px py
 | .unOp op _ x => (c x).map fun p => .un op p
 | .convert src dst x =>
   match E.P.underlying src, E.P.underlying dst with
   | some (.int _), some (.int k) => (c x).map fun p => .convInt k p
   | some .string, some .string => (c x).map .movs
   | some .string, some (.slice e) => match E.P.underlying e with
     | some (.int .u8) => if isN (cDst vs o.dst) then none else (c x).map .s2b
     | _ => none
   | some (.slice e), some .string => match E.P.underlying e with
     | some (.int .u8) => (c x).map .b2s
     | _ => none
   | _, _ => none
 | .makeInterface t x => match E.P.underlying t with
   | some (.interface _) => none
   | some _ => (idxIn t E.pt 0).bind fun i => (c x).map fun p => .ifc true (i + 1) p
   | none => none
 | .typeAssert x _ t false => match E.P.underlying t with
   | some (.interface _) => none
   | some _ => (idxIn t E.pt 0).bind fun i => (c x).map fun p => .ifc false (i + 1) p
   | none => none
 | .extract x i => (c x).map fun p => .extract i p
 | .call { callee := .builtin b, args, argTypes } => if isN (cDst vs o.dst) then none else cBuiltin E vs ops b args.toList argTypes.toList
 | .call { callee := .value (.func f), args, .. } => (E.inv f).bind fun k => (cxs E vs ops args.toList).map fun ps => match oxOf f E.ox with
   | some own => if isN (cDst vs o.dst) then stuckOp else .pcallx k ps own
   | none => if E.pz.contains f then .pzcall k ps else .pcall k ps
 | .call { callee := .value (.tmp t), args, .. } => (c (.tmp t)).bind fun p => (cxs E vs ops args.toList).map fun ps => .callv p ps
 | _ => none
def cGuard (E : Env) (vs : List Tmp) (ops : List Oper) : Option (Nat × Bool) → Option (Option (PX × Bool))
 | none => some none
 | some (j, want) =>
   match ops[j]? with
   | some o => match o.dst with
     | some t => (cx E vs ops (.tmp t)).map fun p => some (p, want)
     | none => none
   | none => none
def stuckC : PC := .branch [] (.c .dead) .skip .skip
def cOper (E : Env) (vs : List Tmp) (ops : List Oper) (o : Oper) : Option PO :=
 (cGuard E vs ops o.guard).map fun g => { dst := cDst vs o.dst, op := (cOp E vs ops o).getD stuckOp, guard := g }
def isB (o : PO) : Bool :=
 match o.op with
 | .h (.bcall ..) | .h (.bcallv ..) => true
 | _ => false
def cOperN (E : Env) (vs : List Tmp) (ops : List Oper) (o : Oper) : Option PO := (cOper E vs ops o).bind fun p => if isB p then none else some p
/-- An operation of a region in which a call may panic. -/
def cOperB (E : Env) (vs : List Tmp) (ops : List Oper) (o : Oper) : Option PO :=
 match o with
 | { dst, op := .call { callee := .value (.func f), args, .. }, guard := none, .. } =>
   if E.bf.contains f then (E.inv f).bind fun k => (cxs E vs ops args.toList).map fun ps => { dst := cDst vs dst, op := .h (.bcall k ps) } else cOperN E vs ops o
 | { dst, op := .call { callee := .value (.tmp t), args, .. }, guard := none, .. } =>
   if E.bv.contains t then (cx E vs ops (.tmp t)).bind fun p => (cxs E vs ops args.toList).map fun ps => { dst := cDst vs dst, op := .h (.bcallv p ps) } else cOperN E vs ops o
 | _ => cOperN E vs ops o
def cOpersB (E : Env) (vs : List Tmp) (ops : List Oper) : List Oper → Option (List PO)
 | [] => some []
 | o :: os => (cOperB E vs ops o).bind fun p => (cOpersB E vs ops os).map (p :: ·)
/-- Is there such a call? -/
def hasB (E : Env) (ops : List Oper) : Bool := ops.any fun o =>
 match o.op with
 | .call { callee := .value (.func f), .. } => E.bf.contains f
 | .call { callee := .value (.tmp t), .. } => E.bv.contains t
 | _ => false
def cOpers (E : Env) (vs : List Tmp) (ops : List Oper) : List Oper → Option (List PO)
 | [] => some []
 | o :: os => (cOper E vs ops o).bind fun p => (cOpers E vs ops os).map (p :: ·)
/-- Each place of a region is written once. -/
def onceIn (vs : List Tmp) : List Oper → Bool
 | [] => true
 | o :: os => (match o.dst with | some t => (idxIn t vs 0).isSome || os.all (fun p => p.dst != some t) | none => true) && onceIn vs os
/-! ### A region that draws its order: any two operations that may change places do not touch what the other touches. -/
def readsOfH : HOp → List PX
 | .isnil _ _ x | .nilchk x | .loadc _ _ x => [x]
 | .barr _ ps => ps.map (·.2.2)
 | .idxA _ _ _ x i => [x, i]
 | .newobj _ | .newbld | .mkmap => []
 | .boxobj _ x | .load _ _ x _ | .mlen x | .mkarr _ _ _ _ x | .range x | .next x => [x]
 | .clear _ x => [x]
 | .mkrow _ _ _ _ ps => ps.map (·.2)
 | .mkfresh _ _ _ _ x | .loadn x => [x]
 | .buildA js _ ps => js.map .l ++ ps.map (·.2.2)
 | .happ _ _ _ a x | .happz _ _ _ _ a x | .store _ _ a x | .storer _ _ a x | .iaddr _ _ a x | .lookup _ _ _ _ _ a x => [a, x]
 | .mset _ _ m k v => [m, k, v]
 | .mdel _ _ m k => [m, k]
 | .mkfunc _ a b => a ++ b
 | .call _ xs | .bcall _ xs | .rcall _ xs | .lcall _ xs | .zcall _ xs => xs
 | .callv x xs | .bcallv x xs | .icall _ x xs => x :: xs
def readsOf : POp → List PX
 | .h o => readsOfH o
 | .anyo _ _ => []
 | .mov x | .movs x | .take x | .faddr _ x | .field _ _ _ x | .sliceLoc _ x | .un _ x | .convInt _ x | .ifc _ _ x | .extract _ x | .len _ x | .cap x | .boxloc _ x | .b2s x | .s2b x => [x]
 | .pick c a b => [c, a, b]
 | .newloc _ => []
 | .build _ ps => ps.map (·.2.2)
 | .mkslice _ _ _ ps => ps.map (·.2)
 | .load _ _ a _ => [a]
 | .loadv s _ _ a => [a, .v s]
 | .store _ _ a x | .iaddrS _ a x | .iaddrA _ _ a x | .indexStr a x | .bin _ a x | .eq _ _ _ a x | .append _ _ a x | .appstr a x => [a, x]
 | .slice _ _ x lo hi => x :: (lo.toList ++ hi.toList)
 | .minmax _ xs | .pcall _ xs | .pcallx _ xs _ | .pzcall _ xs => xs
 | .callv x xs => x :: xs
end PI
