/-
  The pure interpreter: values without memory, code whose types and numbers are resolved, and its meaning as a function.
-/
import GoSem.Core.View
import GoSem.Op.String
import GoSem.Core.Utf8
set_option linter.unusedVariables false
set_option linter.unusedSimpArgs false
namespace PI
open Go (IntKind BinOp UnOp)
/-- Values. 'list': what a slice reads as ('own': its spare room is its holder's alone); 'cptr': a pointer to cells that nobody writes any more, as what they hold; 'loc': a box of the frame's own, held by a variable; 'lptr': an address inside such a box; 'ptr': an address in the shared heap; 'fresh': a row just made, its place's alone, no object yet. -/
inductive PV where
 | bool (b : Bool)
 | int (k : IntKind) (n : Int)
 | str (s : List UInt8)
 | list (own : Bool) (es : List PV)
 | nils
 | void
 | agg (cs : List PV)
 | tuple (vs : List PV)
 | nilptr
 | cptr (cs : List PV)
 | loc (g : Nat) (cs : List PV)
 | lptr (s g off : Nat)
 | ptr (n off : Nat)
 | rowp (n sz : Nat) (agg : Bool) (len : Nat)
 | rows (n sz : Nat) (agg : Bool) (off len : Nat)
 | fresh (sz : Nat) (agg : Bool) (len : Nat) (cs : List PV)
 | map (n : Option Nat)
 | func (k : Nat) (first captured : List PV)
 | nilfunc
 | iface (t : Nat) (v : PV)
 | nilIface
 | dead
 deriving Inhabited
mutual
/-- Are two values the same? -/
def PV.beq : PV → PV → Bool
 | .bool a, .bool b => a == b
 | .int k a, .int l b => decide (k = l) && a == b
 | .str a, .str b => a == b
 | .list a x, .list b y => a == b && beqs x y
 | .nils, .nils => true
 | .void, .void => true
 | .agg x, .agg y => beqs x y
 | .tuple x, .tuple y => beqs x y
 | .nilptr, .nilptr => true
 | .cptr x, .cptr y => beqs x y
 | .loc g x, .loc h y => g == h && beqs x y
 | .lptr a b c, .lptr d e f => a == d && b == e && c == f
 | .ptr a b, .ptr d e => a == d && b == e
 | .rowp a b c d, .rowp e f g h => a == e && b == f && c == g && d == h
 | .rows a b c d i, .rows e f g h j => a == e && b == f && c == g && d == h && i == j
 | .fresh a b c x, .fresh d e f y => a == d && b == e && c == f && beqs x y
 | .map a, .map b => a == b
 | .func a x y, .func b z u => a == b && beqs x z && beqs y u
 | .nilfunc, .nilfunc => true
 | .iface a x, .iface b y => a == b && x.beq y
 | .nilIface, .nilIface => true
 | .dead, .dead => true
 | _, _ => false
def beqs : List PV → List PV → Bool
 | [], [] => true
 | x :: xs, y :: ys => x.beq y && beqs xs ys
 | _, _ => false
end
mutual
theorem PV.beq_iff : ∀ a b : PV, a.beq b = true ↔ a = b
 | .bool _, b | .int _ _, b | .str _, b | .nils, b | .void, b | .nilptr, b | .lptr _ _ _, b | .ptr _ _, b | .rowp _ _ _ _, b | .rows _ _ _ _ _, b | .map _, b | .nilfunc, b | .nilIface, b | .dead, b => by
   cases b <;> simp [PV.beq, and_assoc]
 | .list _ x, b | .agg x, b | .tuple x, b | .cptr x, b | .loc _ x, b => by cases b <;> simp [PV.beq, beqs_iff x]
 | .fresh _ _ _ x, b => by cases b <;> simp [PV.beq, beqs_iff x, and_assoc]
 | .func _ x y, b => by cases b <;> simp [PV.beq, beqs_iff x, beqs_iff y, and_assoc]
 | .iface _ x, b => by cases b <;> simp [PV.beq, PV.beq_iff x]
theorem beqs_iff : ∀ a b : List PV, beqs a b = true ↔ a = b
 | [], b => by cases b <;> simp [beqs]
 | x :: xs, b => by cases b <;> simp [beqs, PV.beq_iff x, beqs_iff xs]
end
instance : DecidableEq PV := fun a b => decidable_of_iff _ (PV.beq_iff a b)
def PV.cells : PV → List PV
 | .agg cs => cs
 | .tuple _ => []
 | v => [v]
/-- One cell's value. -/
def PV.flat : PV → Bool
 | .agg _ | .tuple _ => false
 | _ => true
inductive PObj where
 | cells (cs : List PV)
 | map (es : List (PV × PV))
 | siter (s : List UInt8) (pos : Nat)
 | bld (bs : List UInt8)
 | gone
 | loop (ready : Bool)
 /-- a loop over a function that a jump has left: to a block's end, or to the function's -/
 | over (id : Option Nat)
 /-- a map with string keys, of which nothing else is known -/
 | sblob
 deriving Inhabited, DecidableEq
/-- Operands: a variable, what an operation of the same region has given, a constant. -/
inductive PX where
 | v (i : Nat)
 | l (j : Nat)
 | c (x : PV)
 deriving Inhabited
/-- What '==' compares without memory. -/
inductive EK where
 | b | i | s
 deriving DecidableEq, Inhabited
/-- Operations on the shared heap. -/
inductive HOp where
 | newobj (zero : List PV)
 | boxobj (size : Nat) (x : PX)
 | load (size : Nat) (agg : Bool) (a : PX) (take : Bool)
 | store (size : Nat) (agg : Bool) (a x : PX)
 | storer (size : Nat) (agg : Bool) (a x : PX)
 | iaddr (len size : Nat) (x i : PX)
 | mkmap
 | lookup (ok take kagg : Bool) (ks : List EK) (zero : PV) (m x : PX)
 | mset (kagg : Bool) (ks : List EK) (m k v : PX)
 | mdel (kagg : Bool) (ks : List EK) (m k : PX)
 | mlen (m : PX)
 | mkfunc (k : Nat) (first captured : List PX)
 | isnil (kind : Nat) (neg : Bool) (x : PX)
 | nilchk (x : PX)
 | loadc (size : Nat) (agg : Bool) (a : PX)
 | barr (zero : List PV) (parts : List (Nat × Nat × PX))
 | idxA (len size : Nat) (agg : Bool) (x i : PX)
 | call (k : Nat) (args : List PX)
 | callv (x : PX) (args : List PX)
 /-- a call that leaves the heap as it is -/
 | rcall (k : Nat) (args : List PX)
 /-- a call without the heap, to which the rows of the arguments are lent -/
 | lcall (k : Nat) (args : List PX)
 /-- a call without the heap; what rows of the heap its arguments, and what it gives, hold are lists from then on -/
 | zcall (k : Nat) (args : List PX)
 /-- a method of what an interface value holds: by its type's number, the function, and what is loaded for a receiver that is no pointer -/
 | icall (tab : List (Nat × Nat × Option (Nat × Bool))) (x : PX) (args : List PX)
 | bcall (k : Nat) (args : List PX)
 | bcallv (x : PX) (args : List PX)
 | newbld
 | happ (size : Nat) (agg : Bool) (bytes : Nat) (s x : PX)
 | happz (size : Nat) (agg : Bool) (bytes : Nat) (zero : List PV) (s x : PX)
 | clear (size : Nat) (x : PX)
 | mkarr (size : Nat) (agg : Bool) (bytes : Nat) (zero : List PV) (x : PX)
 /-- a row written out, as an object of the heap -/
 | mkrow (size : Nat) (agg : Bool) (zero : PV) (len : Nat) (parts : List (Nat × PX))
 /-- a row that is an object only when it is built into something; such a build; a load of an owned list, or of a nil slice -/
 | mkfresh (size : Nat) (agg : Bool) (bytes : Nat) (zero : List PV) (x : PX)
 | buildA (js : List Nat) (zero : List PV) (parts : List (Nat × Nat × PX))
 | loadn (a : PX)
 | range (x : PX)
 | next (x : PX)
 deriving Inhabited
inductive POp where
 | h (o : HOp)
 | mov (x : PX)
 | movs (x : PX)
 | take (x : PX)
 | pick (c a b : PX)
 | newloc (zero : List PV)
 | boxloc (size : Nat) (x : PX)
 | build (zero : List PV) (parts : List (Nat × Nat × PX))
 | mkslice (size : Nat) (zero : PV) (len : Nat) (parts : List (Nat × PX))
 | load (size : Nat) (agg : Bool) (a : PX) (take : Bool)
 | store (size : Nat) (agg : Bool) (a x : PX)
 /-- a load from the box that variable s holds -/
 | loadv (s size : Nat) (agg : Bool) (a : PX)
 | faddr (off : Nat) (x : PX)
 | iaddrS (size : Nat) (x i : PX)
 | iaddrA (len size : Nat) (x i : PX)
 | field (off size : Nat) (agg : Bool) (x : PX)
 | indexStr (x i : PX)
 | slice (str : Bool) (size : Nat) (x : PX) (lo hi : Option PX)
 | sliceLoc (n : Nat) (x : PX)
 | bin (op : BinOp) (x y : PX)
 | eq (neg agg : Bool) (ks : List EK) (x y : PX)
 | un (op : UnOp) (x : PX)
 | convInt (k : IntKind) (x : PX)
 /-- into an interface; out of it, at its type -/
 | ifc (mk : Bool) (t : Nat) (x : PX)
 | extract (i : Nat) (x : PX)
 | len (str : Bool) (x : PX)
 | cap (x : PX)
 | minmax (max : Bool) (xs : List PX)
 | append (size bytes : Nat) (s x : PX)
 | appstr (s x : PX)
 | b2s (x : PX)
 | s2b (x : PX)
 | pcall (k : Nat) (args : List PX)
 /-- the result keeps its room, and one of the arguments, if said, is handed over with its own -/
 | pcallx (k : Nat) (args : List PX) (own : Option Nat)
 /-- rows in what it gives become lists -/
 | pzcall (k : Nat) (args : List PX)
 | callv (x : PX) (args : List PX)
 /-- ahead of a region of which every order is run: what stands directly before each operation, and which may change places with all behind them -/
 | anyo (bef : List (List Nat)) (fr : List Bool)
 deriving Inhabited
/-- Where an operation's value goes: a variable, the operation's own place, nowhere. -/
inductive PD where
 | v (i : Nat)
 | l
 | n
 deriving Inhabited
structure PO where
 dst : PD
 op : POp
 guard : Option (PX × Bool) := none
 deriving Inhabited
inductive PC where
 | skip
 | region (ops : List PO)
 | branch (ops : List PO) (x : PX) (a b : PC)
 | seq (a b : PC)
 | block (id : Nat) (c : PC)
 | loop (c : PC)
 | exit (id : Nat)
 | ret
 /-- regions in which a call may panic -/
 | bregion (ops : List PO)
 | bbranch (ops : List PO) (x : PX) (a b : PC)
 /-- a region that ends in a panic, with an interface value that holds x -/
 | raise (ops : List PO) (t : Nat) (x : PX)
 /-- a range over the function x; the loop's rounds are the function kb, of these variables -/
 | rangeF (x : PX) (kb : Nat) (caps : List PX)
 /-- the code of a loop's rounds: what is assigned, and the body -/
 | round (a b : PC)
 /-- a range over the map x, whose iterator the variable it holds: what comes ahead in its region, the variables that rounds assign, the rounds' two regions (the first without its first operation) -/
 | mloop (pos0 : List PO) (x : PX) (it : Nat) (ds : List Nat) (pos2 pos3 : List PO)
 /-- what is run behind a defer statement, to the function's end: the closure kd with what it has captured -/
 | guarded (kd : Nat) (caps : List PX) (c : PC)
 deriving Inhabited
inductive PRes where
 | var (i : Nat)
 /-- a row of the heap is given as it is -/
 | keep (i : Nat)
 | cell (i size : Nat) (agg : Bool)
 deriving Inhabited
structure PFunc where
 params : Nat
 nv : Nat
 code : PC
 results : List PRes
 /-- what it gives must not hang on whether its first parameter, an empty slice, is nil -/
 split : Bool := false
 /-- a function of the library whose own contract is taken -/
 prim : Option (List PV → List PObj → Option (PV × List PObj)) := none
 /-- a deferred closure, by contract: of the panic's value and what it has captured -/
 defer : Option (List PV → List PObj → Option (List PObj)) := none
 deriving Inhabited
structure St where
 vars : List PV
 locs : List PV
 gen : Nat
 heap : List PObj
 deriving Inhabited, DecidableEq
inductive PExit where
 | normal
 | exit (id : Nat)
 | ret
 | boom (v : PV)
 /-- the end of a function behind a defer statement; with a panic, its value -/
 | after (kd : Nat) (caps : List PV) (v : Option PV)
 deriving Inhabited
/-- How a call ends. -/
inductive Out where
 | val (r : PV)
 | boom (v : PV)
 deriving Inhabited
/-! ### Reading -/
def cp : PV → Option PV
 | .loc .. => none
 | .lptr .. => none
 | .dead => none
 | .fresh .. => none
 | .list _ es => some (.list false es)
 | v => some v
def dem : PV → PV
 | .list _ es => .list false es
 | v => v
def raw (st : St) : PX → Option PV
 | .v i => st.vars[i]?
 | .l j => st.locs[j]?
 | .c x => some x
def rd (st : St) (x : PX) : Option PV := (raw st x).bind cp
def setSrc (st : St) (x : PX) (u : PV) : St :=
 match x with
 | .v i => { st with vars := st.vars.set i u }
 | .l j => { st with locs := st.locs.set j u }
 | .c _ => st
/-- A value and its holder's room with it. -/
def tk (st : St) (x : PX) : Option (PV × St) :=
 match raw st x with
 | some (.list true es) => some (.list true es, setSrc st x (.list false es))
 | some v => (cp v).map fun u => (u, st)
 | none => none
def addr (st : St) (x : PX) : Option PV :=
 match x, raw st x with
 | .v i, some (.loc g _) => some (.lptr i g 0)
 | _, some (.lptr s g off) => some (.lptr s g off)
 | _, some v => cp v
 | _, none => none
def rdInt (st : St) (x : PX) : Option Int :=
 match rd st x with
 | some (.int _ n) => some n
 | _ => none
def rdAll (st : St) : List PX → Option (List PV)
 | [] => some []
 | x :: xs => (rd st x).bind fun v => (rdAll st xs).map (v :: ·)
mutual
def refFree : PV → Bool
 | .loc .. | .lptr .. | .ptr .. | .rowp .. | .rows .. | .fresh .. | .dead => false
 | .map n => n.isNone
 | .list _ es => refFrees es
 | .agg cs => refFrees cs
 | .tuple vs => refFrees vs
 | .cptr cs => refFrees cs
 | .func _ a b => refFrees a && refFrees b
 | .iface _ v => refFree v
 | _ => true
def refFrees : List PV → Bool
 | [] => true
 | v :: vs => refFree v && refFrees vs
end
/-! ### Operations -/
def intBin (op : BinOp) (k : IntKind) (a b : Int) : Option PV :=
 match op with
 | .add => some (.int k (k.wrap (a + b)))
 | .sub => some (.int k (k.wrap (a - b)))
 | .mul => some (.int k (k.wrap (a * b)))
 | .quo => if b = 0 then none else some (.int k (k.wrap (a.tdiv b)))
 | .rem => if b = 0 then none else some (.int k (a.tmod b))
 | .and => some (.int k (k.wrap (BitVec.ofInt k.bits a &&& BitVec.ofInt k.bits b).toNat))
 | .or => some (.int k (k.wrap (BitVec.ofInt k.bits a ||| BitVec.ofInt k.bits b).toNat))
 | .xor => some (.int k (k.wrap (BitVec.ofInt k.bits a ^^^ BitVec.ofInt k.bits b).toNat))
 | .eql => some (.bool (a == b))
 | .neq => some (.bool (a != b))
 | .lss => some (.bool (a < b))
 | .leq => some (.bool (a ≤ b))
 | .gtr => some (.bool (a > b))
 | .geq => some (.bool (a ≥ b))
 | _ => none
open Go.Op (bytesLess)
def strBin (op : BinOp) (a b : List UInt8) : Option PV :=
 match op with
 | .add => if a.length + b.length ≤ 4611686018427387904 then some (.str (a ++ b)) else none
 | .eql => some (.bool (a == b))
 | .neq => some (.bool !(a == b))
 | .lss => some (.bool (bytesLess a b))
 | .leq => some (.bool (bytesLess a b || a == b))
 | .gtr => some (.bool !(bytesLess a b || a == b))
 | .geq => some (.bool !(bytesLess a b))
 | _ => none
def binv (op : BinOp) (x y : PV) : Option PV :=
 match x, y with
 | .int k a, .int k' b =>
   match op with
   | .shl => if b < 0 then none else some (.int k (k.wrap (a * 2 ^ (min b.toNat k.bits))))
   | .shr => if b < 0 then none else some (.int k (a.fdiv (2 ^ (min b.toNat k.bits))))
   | _ => if k = k' then intBin op k a b else none
 | .str a, .str b => strBin op a b
 | _, _ => none
def peq1 : EK → PV → PV → Option Bool
 | .b, .bool a, .bool b => some (a == b)
 | .i, .int k a, .int k' b => if k = k' then some (a == b) else none
 | .s, .str a, .str b => some (a == b)
 | _, _, _ => none
def peqs : List EK → List PV → List PV → Option Bool
 | [], [], [] => some true
 | k :: ks, x :: xs, y :: ys => (peq1 k x y).bind fun b => (peqs ks xs ys).map fun c => b && c
 | _, _, _ => none
def peq (agg : Bool) (ks : List EK) (x y : PV) : Option Bool :=
 if agg then
  match x, y with
  | .agg xs, .agg ys => peqs ks xs ys
  | _, _ => none
 else
  match ks with
  | [k] => peq1 k x y
  | _ => none
def unv (op : UnOp) (x : PV) : Option PV :=
 match op, x with
 | .not, .bool b => some (.bool !b)
 | .neg, .int k n => some (.int k (k.wrap (0 - n)))
 | _, _ => none
def headOk (size : Nat) : List PV → Bool
 | [] => true
 | e :: _ => e.cells.length == size
def setParts (cs : List PV) : List (Nat × Nat × PV) → Option (List PV)
 | [] => some cs
 | (off, size, v) :: rest =>
   if v.cells.length = size ∧ off + size ≤ cs.length then setParts (cs.take off ++ (v.cells.map dem ++ cs.drop (off + size))) rest else none
/-- What goes into an element: owned by none. -/
def deep : PV → PV
 | .agg cs => .agg (cs.map dem)
 | v => dem v
def setElems (size : Nat) (es : List PV) : List (Nat × PV) → Option (List PV)
 | [] => some es
 | (i, v) :: rest => if v.cells.length = size ∧ i < es.length then setElems size (es.set i (deep v)) rest else none
def rdParts (st : St) : List (Nat × Nat × PX) → Option (List (Nat × Nat × PV))
 | [] => some []
 | (off, size, x) :: r => (rd st x).bind fun v => (rdParts st r).map ((off, size, v) :: ·)
def rdElems (st : St) : List (Nat × PX) → Option (List (Nat × PV))
 | [] => some []
 | (i, x) :: r => (rd st x).bind fun v => (rdElems st r).map ((i, v) :: ·)
/-- What lies in cells from a place on: a whole aggregate, or one cell. -/
def loadFrom (size : Nat) (agg : Bool) (cs : List PV) (off : Nat) : Option PV :=
 if agg then (if off + size ≤ cs.length then some (.agg (((cs.drop off).take size).map dem)) else none)
 else match cs[off]? with
  | some v => cp v
  | none => none
def storeInto (size : Nat) (agg : Bool) (cs : List PV) (off : Nat) (v : PV) : Option (List PV) :=
 if agg then
  match v with
  | .agg vs => if vs.length = size ∧ off + size ≤ cs.length then some (cs.take off ++ (vs ++ cs.drop (off + size))) else none
  | _ => none
 else if off < cs.length ∧ v.flat = true then some (cs.set off v) else none
def minmaxv (mx : Bool) : PV → List PV → Option PV
 | v, [] => some v
 | .int k a, .int k' b :: r => if k = k' then minmaxv mx (.int k (if mx then (if b > a then b else a) else (if b < a then b else a))) r else none
 | _, _ => none
def bound (st : St) (x : Option PX) (dflt : Nat) (most : Nat) : Option Nat :=
 match x with
 | none => some dflt
 | some x =>
   match rdInt st x with
   | some n => if 0 ≤ n ∧ n ≤ most then some n.toNat else none
   | none => none
/-- Which argument of a call is handed over, as a value. -/
def ownArg : Option Nat → PV
 | none => .nilptr
 | some i => .int .i64 i
def ownOf : PV → Option Nat
 | .int _ n => some n.toNat
 | _ => none
def pad : List PV := List.replicate 1000 .nilptr
theorem pad_len : pad.length = 1000 := List.length_replicate
/-- The arguments of a call that keeps the room of what it gives, and hands over that of an argument, if said: longer than those of any plain call. -/
def ownArgs (own : Option Nat) (vs : List PV) : List PV := .dead :: (pad ++ ownArg own :: vs)
abbrev CallF := Nat → List PV → List PObj → Option (PV × List PObj)
def hget (st : St) (n : Nat) : Option (List PV) :=
 match st.heap[n]? with
 | some (.cells cs) => some cs
 | _ => none
def hset (st : St) (n : Nat) (ob : PObj) : St := { st with heap := st.heap.set n ob }
def mget (st : St) (n : Option Nat) : Option (List (PV × PV)) :=
 match n with
 | none => some []
 | some n =>
   match st.heap[n]? with
   | some (.map es) => some es
   | _ => none
/-- The entry of a key, and its place. -/
def mfind (agg : Bool) (ks : List EK) (k : PV) : List (PV × PV) → Nat → Option (Option (Nat × PV))
 | [], _ => match agg, k with
   | false, _ => some none
   | true, .agg cs => if cs.length = ks.length then some none else none
   | true, _ => none
 | e :: es, i => (peq agg ks k e.1).bind fun b => if b then some (some (i, e.2)) else mfind agg ks k es (i + 1)
def isList : PV → Bool
 | .list _ _ => true
 | _ => false
def isOwn : PV → Bool
 | .list true _ => true
 | _ => false
/-- What is captured: a box of the frame's own is shut for good. -/
def capt (st : St) (x : PX) : Option (PV × St) :=
 match x, raw st x with
 | .v i, some (.loc _ cs) => some (.cptr (cs.map dem), { st with vars := st.vars.set i (.cptr (cs.map dem)) })
 | _, _ => (rd st x).map (·, st)
def capts (st : St) : List PX → Option (List PV × St)
 | [] => some ([], st)
 | x :: xs => (capt st x).bind fun r => (capts r.2 xs).map fun q => (r.1 :: q.1, q.2)
/-- Is it nil? What is not known is not said. -/
def nilness : Nat → PV → Option Bool
 | 0, .nils => some true
 | 0, .void => some false
 | 0, .list _ (_ :: _) => some false
 | 0, .rowp .. => some false
 | 1, .nilptr => some true
 | 1, .ptr .. => some false
 | 1, .cptr _ => some false
 | 2, .map n => some n.isNone
 | 3, .nilfunc => some true
 | 3, .func .. => some false
 | 4, .nilIface => some true
 | 4, .iface .. => some false
 | _, _ => none
/-- What a slice holds. -/
def asRow : PV → Option (List PV)
 | .list _ es => some es
 | .nils | .void => some []
 | _ => none
/-- The elements of a row of the heap. -/
def rowEls (size : Nat) (agg : Bool) (cs : List PV) : Nat → Nat → Option (List PV)
 | 0, _ => some []
 | n + 1, off => (loadFrom size agg cs off).bind fun e => (rowEls size agg cs n (off + size)).map (e :: ·)
/-- What a slice holds, one of the heap's too. -/
def elsOf (st : St) (x : PX) : Option (List PV) :=
 match rd st x with
 | some (.rowp n sz agg len) => if agg = true ∨ sz = 1 then (hget st n).bind fun cs => rowEls sz agg cs len 0 else none
 | some p => asRow p
 | none => none
/-- The bytes of a row. -/
def bytesOf : List PV → Option (List UInt8)
 | [] => some []
 | .int .u8 n :: r => if 0 ≤ n ∧ n < 256 then (bytesOf r).map (UInt8.ofNat n.toNat :: ·) else none
 | _ => none
def ofBytes (s : List UInt8) : List PV := s.map fun b => .int .u8 b.toNat
/-- A row of the heap, or the end of one: which object, its elements' size, where it begins. -/
def tailOf : PV → Option (Nat × Nat × Nat)
 | .rows n sz _ off _ => some (n, sz, off)
 | .rowp n sz _ _ => some (n, sz, 0)
 | _ => none
/-- What a call gives that leaves the heap as it is. -/
def same (st : St) (r : PV × List PObj) : Option (PV × St) := if r.2 = st.heap then some (dem r.1, st) else none
/-- A row of the heap that is given back is a list. -/
def froz1 (h : List PObj) : PV → Option PV
 | .rowp n sz agg len => if agg = true ∨ sz = 1 then (match h[n]? with | some (.cells cs) => (rowEls sz agg cs len 0).map (.list false) | _ => none) else none
 | v => some v
def frozs (h : List PObj) : List PV → Option (List PV)
 | [] => some []
 | p :: ps => (froz1 h p).bind fun q => (frozs h ps).map (q :: ·)
def froz (h : List PObj) : PV → Option PV
 | .agg ps => (frozs h ps).map .agg
 | v => some v
def frozAll (h : List PObj) : List PV → Option (List PV)
 | [] => some []
 | p :: ps => (froz h p).bind fun q => (frozAll h ps).map (q :: ·)
mutual
/-- Rows of the heap, read as lists. -/
def frz (h : List PObj) : PV → PV
 | .list o es => .list o (frzL h es)
 | .agg cs => .agg (frzL h cs)
 | .tuple vs => .tuple (frzL h vs)
 | .rowp n sz agg len => (froz1 h (.rowp n sz agg len)).getD (.rowp n sz agg len)
 | v => v
def frzL (h : List PObj) : List PV → List PV
 | [] => []
 | v :: vs => frz h v :: frzL h vs
end
mutual
/-- Their numbers. -/
def nosIn : PV → List Nat
 | .list _ es => nosInL es
 | .agg cs => nosInL cs
 | .tuple vs => nosInL vs
 | .rowp n _ _ _ => [n]
 | _ => []
def nosInL : List PV → List Nat
 | [] => []
 | v :: vs => nosIn v ++ nosInL vs
end
def gones : List Nat → List PObj → List PObj
 | [], h => h
 | n :: ns, h => gones ns (h.set n .gone)
mutual
/-- No memory is looked at to read it. -/
def plainV : PV → Bool
 | .bool _ | .int _ _ | .str _ => true
 | .agg cs => plainVs cs
 | .tuple cs => plainVs cs
 | _ => false
def plainVs : List PV → Bool
 | [] => true
 | v :: vs => plainV v && plainVs vs
end
def lendTo (cf : CallF) (k : Nat) (st : St) (vs : List PV) : Option (PV × St) :=
 (frozAll st.heap vs).bind fun ws => if refFrees ws then (cf k ws []).bind fun r => if plainV r.1 then some (dem r.1, st) else none else none
def tabAt (t : Nat) : List (Nat × Nat × Option (Nat × Bool)) → Option (Nat × Option (Nat × Bool))
 | [] => none
 | r :: rs => if r.1 = t then some r.2 else tabAt t rs
/-- A method's receiver. -/
def recvOf (st : St) (v : PV) : Option (Nat × Bool) → Option PV
 | none => some (dem v)
 | some (n, agg) => match v with
   | .ptr m off => (hget st m).bind fun cs => loadFrom n agg cs off
   | _ => none
/-- The function and the receiver that a method stands for. -/
def methOf (st : St) (tab : List (Nat × Nat × Option (Nat × Bool))) : Option PV → Option (Nat × PV)
 | some (.iface t v) => (tabAt t tab).bind fun r => (recvOf st v r.2).map fun u => (r.1, u)
 | _ => none
def adoptAll : List Nat → St → Option St
 | [], st => some st
 | j :: js, st => match st.locs[j]? with
   | some (.fresh sz agg len cs) => adoptAll js { st with locs := st.locs.set j (.rowp st.heap.length sz agg len), heap := st.heap ++ [.cells cs] }
   | _ => none
def isBlob (st : St) (n : Nat) : Bool :=
 match st.heap[n]? with
 | some .sblob => true
 | _ => false
def isStr : PV → Bool
 | .str _ => true
 | _ => false
def blobSet (kagg : Bool) (ks : List EK) (k v : PV) (st : St) : Option (PV × St) := if kagg = false ∧ ks = [.s] ∧ isStr k = true ∧ isOwn v = false then some (.dead, st) else none
def hopv (cf : CallF) (o : HOp) (st : St) : Option (PV × St) :=
 match o with
 | .happ size agg bytes s x =>
   match elsOf st x, raw st s with
   | some xs, some (.rowp n sz ag len) =>
     match st.heap[n]? with
     | some (.cells cs) =>
       if sz = size ∧ ag = agg ∧ len * size ≤ cs.length ∧ headOk size xs ∧ len + xs.length ≤ 2147483648 ∧ bytes ≤ 16384 then
        some (.rowp st.heap.length size agg (len + xs.length), { st with heap := st.heap.set n .gone ++ [.cells (cs.take (len * size) ++ (xs.flatMap PV.cells).map dem)] })
       else none
     | _ => none
   | some xs, some (.list true []) =>
     if xs = [] then some (.list true [], st)
     else if headOk size xs ∧ xs.length ≤ 2147483648 ∧ bytes ≤ 16384 then
      some (.rowp st.heap.length size agg xs.length, { st with heap := st.heap ++ [.cells ((xs.flatMap PV.cells).map dem)] })
     else none
   | some xs, some .nils =>
     if xs = [] then some (.nils, st)
     else if headOk size xs ∧ xs.length ≤ 2147483648 ∧ bytes ≤ 16384 then
      some (.rowp st.heap.length size agg xs.length, { st with heap := st.heap ++ [.cells ((xs.flatMap PV.cells).map dem)] })
     else none
   | _, _ => none
 | .happz size agg bytes zero s x =>
   match rdInt st x, rd st s with
   | some n, some .nils => if 0 < n ∧ n ≤ 2147483648 ∧ bytes ≤ 16384 then some (.rowp st.heap.length size agg n.toNat, { st with heap := st.heap ++ [.cells (List.replicate n.toNat (zero.map dem)).flatten] }) else none
   | _, _ => none
 | .clear size x =>
   match (rd st x).bind tailOf with
   | some (n, sz, off) =>
     match st.heap[n]? with
     | some (.cells cs) => if sz = size ∧ off * size ≤ cs.length then some (.dead, { st with heap := st.heap.set n (.cells (cs.take (off * size))) }) else none
     | _ => none
   | _ => none
 | .newbld => some (.ptr st.heap.length 0, { st with heap := st.heap ++ [.bld []] })
 | .mkarr size agg bytes zero x =>
   match rdInt st x with
   | some n => if 0 ≤ n ∧ bytes * n ≤ 281474976710656 ∧ n ≤ 9223372036854775807 then some (.rowp st.heap.length size agg n.toNat, { st with heap := st.heap ++ [.cells (List.replicate n.toNat zero).flatten] }) else none
   | none => none
 | .mkfresh size agg bytes zero x =>
   match rdInt st x with
   | some n => if 0 ≤ n ∧ bytes * n ≤ 281474976710656 ∧ n ≤ 9223372036854775807 then some (.fresh size agg n.toNat (List.replicate n.toNat (zero.map dem)).flatten, st) else none
   | none => none
 | .buildA js zero parts => (adoptAll js st).bind fun st => ((rdParts st parts).bind (setParts zero)).map fun cs => (.agg cs, st)
 | .loadn a =>
   match addr st a with
   | some (.ptr n off) => (hget st n).bind fun cs => match cs[off]? with
     | some (.list true es) => some (.list true es, hset st n (.cells (cs.set off (.list false es))))
     | some .nils => some (.list true [], st)
     | _ => none
   | _ => none
 | .mkrow size agg zero len parts => ((rdElems st parts).bind (setElems size (List.replicate len zero))).map fun es => (.rowp st.heap.length size agg es.length, { st with heap := st.heap ++ [.cells ((es.flatMap PV.cells).map dem)] })
 | .range x =>
   match rd st x with
   | some (.str s) => some (.ptr st.heap.length 0, { st with heap := st.heap ++ [.siter s 0] })
   | _ => none
 | .next x =>
   match rd st x with
   | some (.ptr n 0) =>
     match st.heap[n]? with
     | some (.siter s pos) =>
       if pos < s.length then
        some (.tuple [.bool true, .int .i64 pos, .int .i32 (Go.Utf8.decode ⟨s.toArray⟩ pos).1], hset st n (.siter s (pos + (Go.Utf8.decode ⟨s.toArray⟩ pos).2)))
       else some (.tuple [.bool false], st)
     | _ => none
   | _ => none
 | .newobj zero => some (.ptr st.heap.length 0, { st with heap := st.heap ++ [.cells zero] })
 | .boxobj size x =>
   match rd st x with
   | some v => if v.cells.length = size then some (.ptr st.heap.length 0, { st with heap := st.heap ++ [.cells v.cells] }) else none
   | none => none
 | .load size agg a take =>
   match addr st a with
   | some (.cptr cs) => (loadFrom size agg cs 0).map (·, st)
   | some (.ptr n off) =>
     (hget st n).bind fun cs =>
      match take && !agg, cs[off]? with
      | true, some (.list true es) => some (.list true es, hset st n (.cells (cs.set off (.list false es))))
      | _, _ => (loadFrom size agg cs off).map (·, st)
   | _ => none
 | .store size agg a x =>
   match addr st a, tk st x with
   | some (.ptr n off), some (v, st) => (hget st n).bind fun cs => (storeInto size agg cs off v).map fun cs => (.dead, hset st n (.cells cs))
   | _, _ => none
 | .storer size agg a x =>
   match addr st a, rd st x with
   | some (.ptr n off), some v => if isList v then none else (hget st n).bind fun cs => (storeInto size agg cs off v).map fun cs => (.dead, hset st n (.cells cs))
   | _, _ => none
 | .iaddr len size x i =>
   match addr st x, rdInt st i with
   | some (.ptr n o), some k => if 0 ≤ k ∧ k < len then some (.ptr n (o + k.toNat * size), st) else none
   | _, _ => none
 | .mkmap => some (.map (some st.heap.length), { st with heap := st.heap ++ [.map []] })
 | .lookup ok take kagg ks zero m x =>
   match rd st m, rd st x with
   | some (.map n), some k =>
     (mget st n).bind fun es => (mfind kagg ks k es 0).bind fun r =>
      match r with
      | some (i, v) =>
        if take && !ok && isOwn v then some (v, hset st (n.getD 0) (.map (es.modify i fun e => (e.1, dem e.2))))
        else some (if ok then .tuple [dem v, .bool true] else dem v, st)
      | none => some (if ok then .tuple [zero, .bool false] else zero, st)
   | _, _ => none
 | .mset kagg ks m k v =>
   match rd st m, rd st k, tk st v with
   | some (.map (some n)), some k, some (v, st) =>
     if isBlob st n then blobSet kagg ks k v st else
     (mget st (some n)).bind fun es => (mfind kagg ks k es 0).map fun r =>
      match r with
      | some (i, _) => (.dead, hset st n (.map (es.set i (k, v))))
      | none => (.dead, hset st n (.map (es ++ [(k, v)])))
   | _, _, _ => none
 | .mdel kagg ks m k =>
   match rd st m, rd st k with
   | some (.map (some n)), some k =>
     (mget st (some n)).bind fun es => (mfind kagg ks k es 0).map fun r =>
      match r with
      | some (i, _) => (.dead, hset st n (.map ((es.eraseIdx i).map fun e => (e.1, dem e.2))))
      | none => (.dead, hset st n (.map es))
   | _, _ => none
 | .mlen m =>
   match rd st m with
   | some (.map n) => (mget st n).map fun es => (.int .i64 es.length, st)
   | _ => none
 | .mkfunc k first captured => (capts st first).bind fun f => (capts f.2 captured).map fun c => (.func k f.1 c.1, c.2)
 | .isnil kind neg x => ((rd st x).bind (nilness kind)).map fun b => (.bool (if neg then !b else b), st)
 | .nilchk x =>
   match addr st x with
   | some (.ptr n o) => some (.ptr n o, st)
   | some (.cptr cs) => some (.cptr cs, st)
   | some (.lptr s g o) => some (.lptr s g o, st)
   | _ => none
 | .loadc size agg a =>
   match rd st a with
   | some (.cptr cs) => (loadFrom size agg cs 0).map (·, st)
   | _ => none
 | .barr zero parts => ((rdParts st parts).bind (setParts zero)).map fun cs => (.agg cs, st)
 | .idxA len size agg x i =>
   match rd st x, rdInt st i with
   | some (.agg cs), some k => if 0 ≤ k ∧ k < len then (loadFrom size agg cs (k.toNat * size)).map (·, st) else none
   | _, _ => none
 | .call k args => (rdAll st args).bind fun vs => (cf k vs st.heap).map fun r => (dem r.1, { st with heap := r.2 })
 | .callv x args =>
   match rd st x, rdAll st args with
   | some (.func k first captured), some vs => (cf k (first ++ vs ++ captured) st.heap).map fun r => (dem r.1, { st with heap := r.2 })
   | _, _ => none
 | .rcall k args => (rdAll st args).bind fun vs => (cf k vs st.heap).bind (same st)
 | .lcall k args => (rdAll st args).bind (lendTo cf k st)
 | .zcall k args => (rdAll st args).bind fun vs => if refFrees (frzL st.heap vs) then (cf k (frzL st.heap vs) []).bind fun r => if refFree (frz r.2 r.1) then some (dem (frz r.2 r.1), { st with heap := gones (nosInL vs) st.heap }) else none else none
 | .icall tab x args => (methOf st tab (rd st x)).bind fun m => (rdAll st args).bind fun vs => (cf m.1 (m.2 :: vs) st.heap).map fun r => (dem r.1, { st with heap := r.2 })
 | .bcall _ _ => none
 | .bcallv _ _ => none
def opv (cf : CallF) (o : POp) (st : St) : Option (PV × St) :=
 match o with
 | .h o => hopv cf o st
 | .mov x => (rd st x).map (·, st)
 | .movs x =>
   match rd st x with
   | some (.str s) => some (.str s, st)
   | _ => none
 | .take x => tk st x
 | .pick c a b =>
   match rd st c with
   | some (.bool t) => (rd st (if t then a else b)).map (·, st)
   | _ => none
 | .newloc zero => some (.loc st.gen zero, { st with gen := st.gen + 1 })
 | .boxloc size x =>
   match rd st x with
   | some v => if v.cells.length = size then some (.loc st.gen (v.cells.map dem), { st with gen := st.gen + 1 }) else none
   | none => none
 | .build zero parts => ((rdParts st parts).bind (setParts zero)).map fun cs => (.agg cs, st)
 | .mkslice size zero len parts => ((rdElems st parts).bind (setElems size (List.replicate len zero))).map fun es => (.list true es, st)
 | .load size agg a take =>
   match addr st a with
   | some (.cptr cs) => (loadFrom size agg cs 0).map (·, st)
   | some (.lptr s g off) =>
     match st.vars[s]? with
     | some (.loc g' cs) =>
       if g = g' then
        match take && !agg, cs[off]? with
        | true, some (.list true es) => some (.list true es, { st with vars := st.vars.set s (.loc g (cs.set off (.list false es))) })
        | _, _ => (loadFrom size agg cs off).map (·, st)
       else none
     | _ => none
   | _ => none
 | .store size agg a x =>
   match addr st a, tk st x with
   | some (.lptr s g off), some (v, st) =>
     match st.vars[s]? with
     | some (.loc g' cs) => if g = g' then (storeInto size agg cs off v).map fun cs => (.dead, { st with vars := st.vars.set s (.loc g cs) }) else none
     | _ => none
   | _, _ => none
 | .loadv s size agg a =>
   match addr st a with
   | some (.lptr s' g off) =>
     match st.vars[s]? with
     | some (.loc g' cs) => if s' = s ∧ g = g' then (loadFrom size agg cs off).map (·, st) else none
     | _ => none
   | _ => none
 | .faddr off x =>
   match addr st x with
   | some (.cptr cs) => some (.cptr (cs.drop off), st)
   | some (.lptr s g o) => some (.lptr s g (o + off), st)
   | some (.ptr n o) => some (.ptr n (o + off), st)
   | _ => none
 | .iaddrS size x i =>
   match rd st x, rdInt st i with
   | some (.list _ es), some n =>
     if 0 ≤ n then
      match es[n.toNat]? with
      | some e => if e.cells.length = size then some (.cptr e.cells, st) else none
      | none => none
     else none
   | some (.rowp m sz _ len), some n => if sz = size ∧ 0 ≤ n ∧ n < len then some (.ptr m (n.toNat * size), st) else none
   | some (.rows m sz _ off len), some n => if sz = size ∧ 0 ≤ n ∧ n < len then some (.ptr m ((off + n.toNat) * size), st) else none
   | _, _ => none
 | .iaddrA len size x i =>
   match addr st x, rdInt st i with
   | some (.lptr s g o), some n => if 0 ≤ n ∧ n < len then some (.lptr s g (o + n.toNat * size), st) else none
   | some (.cptr cs), some n => if 0 ≤ n ∧ n < len then some (.cptr (cs.drop (n.toNat * size)), st) else none
   | _, _ => none
 | .field off size agg x =>
   match rd st x with
   | some (.agg cs) => (loadFrom size agg cs off).map (·, st)
   | _ => none
 | .indexStr x i =>
   match rd st x, rdInt st i with
   | some (.str s), some n =>
     if 0 ≤ n then
      match s[n.toNat]? with
      | some b => some (.int .u8 b.toNat, st)
      | none => none
     else none
   | _, _ => none
 | .slice str size x lo hi =>
   match str, rd st x with
   | true, some (.str s) => (bound st hi s.length s.length).bind fun h => (bound st lo 0 h).map fun l => (.str ((s.take h).drop l), st)
   | false, some (.list _ es) => if headOk size es then (bound st hi es.length es.length).bind fun h => (bound st lo 0 h).map fun l => (.list false ((es.take h).drop l), st) else none
   | false, some .nils => (bound st hi 0 0).bind fun h => (bound st lo 0 h).map fun _ => (.nils, st)
   | false, some (.rowp n sz agg len) => if sz = size then (bound st hi len len).bind fun h => (bound st lo 0 h).map fun l => (if l = 0 then .rowp n sz agg h else .rows n sz agg l (h - l), st) else none
   | _, _ => none
 | .sliceLoc n x =>
   match x, raw st x with
   | .v i, some (.loc _ cs) => if cs.length = n then some (.list true cs, { st with vars := st.vars.set i .dead }) else none
   | _, _ => none
 | .bin op x y =>
   match rd st x, rd st y with
   | some a, some b => (binv op a b).map (·, st)
   | _, _ => none
 | .eq neg agg ks x y =>
   match rd st x, rd st y with
   | some a, some b => (peq agg ks a b).map fun t => (.bool (if neg then !t else t), st)
   | _, _ => none
 | .un op x =>
   match rd st x with
   | some a => (unv op a).map (·, st)
   | none => none
 | .convInt k x => (rdInt st x).map fun n => (.int k (k.wrap n), st)
 | .ifc mk t x =>
   match mk, rd st x with
   | true, some v => some (.iface t v, st)
   | false, some (.iface t' v) => if t' = t then some (dem v, st) else none
   | _, _ => none
 | .extract i x =>
   match rd st x with
   | some (.tuple vs) => (vs[i]?.bind cp).map (·, st)
   | _ => none
 | .len str x =>
   match str, rd st x with
   | true, some (.str s) => some (.int .i64 s.length, st)
   | false, some (.list _ es) => some (.int .i64 es.length, st)
   | false, some (.rowp _ _ _ n) => some (.int .i64 n, st)
   | false, some (.rows _ _ _ _ n) => some (.int .i64 n, st)
   | false, some .nils => some (.int .i64 0, st)
   | false, some .void => some (.int .i64 0, st)
   | _, _ => none
 | .cap x =>
   match rd st x with
   | some .nils => some (.int .i64 0, st)
   | _ => none
 | .minmax mx xs =>
   match rdAll st xs with
   | some (v :: vs) => (minmaxv mx v vs).map (·, st)
   | _ => none
 | .append size bytes s x =>
   match (rd st x).bind asRow, tk st s with
   | some xs, some (.list true es, st) =>
     if headOk size es ∧ headOk size xs ∧ ((es.length + xs.length ≤ 2147483648 ∧ bytes ≤ 16384) ∨ (es.length + xs.length ≤ 9223372036854775807 ∧ (es.length + xs.length) * bytes ≤ 140737488355328)) then some (.list true (es ++ xs), st) else none
   | _, _ => none
 | .appstr s x =>
   match rd st x, tk st s with
   | some (.str xs), some (.list true es, st) =>
     if headOk 1 es ∧ es.length + xs.length ≤ 140737488355328 then some (.list true (es ++ ofBytes xs), st) else none
   | _, _ => none
 | .b2s x =>
   match (rd st x).bind asRow with
   | some es => (bytesOf es).map fun s => (.str s, st)
   | none => none
 | .s2b x =>
   match rd st x with
   | some (.str s) => if s.length ≤ 140737488355328 then some (.list (!s.isEmpty) (ofBytes s), st) else none
   | _ => none
 | .pcall k args =>
   match rdAll st args with
   | some vs =>
     if refFrees vs then
      match cf k vs [] with
      | some (r, _) => if refFree r then some (dem r, st) else none
      | none => none
     else none
   | none => none
 | .pzcall k args =>
   match rdAll st args with
   | some vs =>
     if refFrees vs then
      match cf k vs [] with
      | some (r, h') => if refFree (frz h' r) then some (dem (frz h' r), st) else none
      | none => none
     else none
   | none => none
 | .pcallx k args own =>
   match own with
   | none =>
     match rdAll st args with
     | some vs =>
       if refFrees vs then
        match cf k (ownArgs none vs) [] with
        | some (r, _) => if refFree r then some (r, st) else none
        | none => none
       else none
     | none => none
   | some i =>
     match (args[i]?).bind (tk st), rdAll st args with
     | some (v, st1), some vs =>
       if refFrees (vs.set i v) ∧ i < vs.length then
        match cf k (ownArgs (some i) (vs.set i v)) [] with
        | some (r, _) => if refFree r then some (r, st1) else none
        | none => none
       else none
     | _, _ => none
 | .callv x args =>
   match rd st x, rdAll st args with
   | some (.func k first captured), some vs =>
     if refFrees (first ++ vs ++ captured) then
      match cf k (first ++ vs ++ captured) [] with
      | some (r, _) => if refFree r then some (dem r, st) else none
      | none => none
     else none
   | _, _ => none
 | .anyo _ _ => none
def put (st : St) (j : Nat) (d : PD) (v : PV) : St :=
 match d with
 | .v i => { st with vars := st.vars.set i v }
 | .l => { st with locs := st.locs.set j v }
 | .n => st
def step1 (cf : CallF) (j : Nat) (o : PO) (st : St) : Option St :=
 match o.guard with
 | none => (opv cf o.op st).map fun r => put r.2 j o.dst r.1
 | some (x, want) =>
   match rd st x with
   | some (.bool b) => if b = want then (opv cf o.op st).map fun r => put r.2 j o.dst r.1 else some (put st j o.dst (.tuple []))
   | some (.tuple []) => some (put st j o.dst (.tuple []))
   | _ => none
def execFrom (cf : CallF) : Nat → List PO → St → Option St
 | _, [], st => some st
 | j, o :: os, st => (step1 cf j o st).bind (execFrom cf (j + 1) os)
def begun (n : Nat) (st : St) : St := { st with locs := List.replicate n .dead }
def execOps (cf : CallF) (ops : List PO) (st : St) : Option St := execFrom cf 0 ops (begun ops.length st)
def stepAt (cf : CallF) (pos : List PO) (i : Nat) (st : St) : Option St :=
 match pos[i]? with
 | some p => step1 cf i p st
 | none => none
/-- What several runs give, if all give the same. -/
def agreeL : List (Option St) → Option St
 | [] => none
 | [r] => r
 | r :: s :: rs => if agreeL (s :: rs) = r then r else none
theorem agreeL_mem : ∀ {l : List (Option St)} {r : St}, agreeL l = some r → ∀ x ∈ l, x = some r
 | [], _, h, _, hx => by simp at hx
 | [y], r, h, x, hx => by simp only [agreeL] at h; simp only [List.mem_singleton] at hx; rw [hx, h]
 | y :: z :: l, r, h, x, hx => by
   simp only [agreeL] at h
   split at h
   ·rename_i hy
    rcases List.mem_cons.1 hx with rfl | hx
    ·exact h
    ·exact agreeL_mem (hy.trans h) x hx
   ·cases h
def readyIn (bef : List (List Nat)) (rem : List Nat) (k : Nat) : Bool := (bef.getD k []).all fun j => !rem.contains j
/-- What is left of a region, in every order. -/
def execAny (cf : CallF) (pos : List PO) (bef : List (List Nat)) (fr : List Bool) : Nat → List Nat → St → Option St
 | _, [], st => some st
 | 0, _ :: _, _ => none
 | n + 1, i :: rest, st =>
   match (i :: rest).find? (fun k => fr.getD k false && readyIn bef (i :: rest) k) with
   | some k => (stepAt cf pos k st).bind (execAny cf pos bef fr n ((i :: rest).erase k))
   | none => agreeL (((i :: rest).filter (readyIn bef (i :: rest))).map fun k => (stepAt cf pos k st).bind (execAny cf pos bef fr n ((i :: rest).erase k)))
def isAny : List PO → Bool
 | ⟨_, .anyo _ _, _⟩ :: _ => true
 | _ => false
def execA (cf : CallF) (ops : List PO) (st : St) : Option St :=
 match ops with
 | ⟨_, .anyo bef fr, _⟩ :: pos => execAny cf pos bef fr pos.length (List.range pos.length) (begun pos.length st)
 | _ => none
/-- A region. -/
def execReg (cf : CallF) (ops : List PO) (st : St) : Option St := if isAny ops then execA cf ops st else execOps cf ops st
def closed (st : St) : St := { st with locs := [] }
def resultOf (st : St) : PRes → Option PV
 | .var i => st.vars[i]?.bind fun v => match v with
   | .list true es => some (.list true es)
   | .rowp n sz agg len => if agg = true ∨ sz = 1 then (hget st n).bind fun cs => (rowEls sz agg cs len 0).map (.list false) else none
   | .nils => some (.list false [])
   | v => cp v
 | .keep i => st.vars[i]?.bind cp
 | .cell i size agg =>
   match st.vars[i]? with
   | some (.loc _ cs) => (loadFrom size agg cs 0).bind (froz st.heap)
   | some (.ptr n 0) => (hget st n).bind fun cs => loadFrom size agg cs 0
   | _ => none
def resultsOf (st : St) : List PRes → Option (List PV)
 | [] => some []
 | r :: rs => (resultOf st r).bind fun v => (resultsOf st rs).map (v :: ·)
def resultV (st : St) (rs : List PRes) : Option PV :=
 (resultsOf st rs).map fun vs => match vs with | [v] => v | vs => .tuple (vs.map dem)
/-- The number of a row of the heap. -/
def rowpNo : PV → Option Nat
 | .rowp n _ _ _ => some n
 | _ => none
def rowNo (vars : List PV) (i : Nat) : Option Nat := vars[i]?.bind rowpNo
def rowNos : List PV → List Nat
 | [] => []
 | p :: ps => (rowpNo p).toList ++ rowNos ps
/-- The rows of the heap that a result gives back. -/
def resNos (vars : List PV) : PRes → List Nat
 | .var i => (rowNo vars i).toList
 | .keep _ => []
 | .cell i _ _ => match vars[i]? with | some (.loc _ cs) => rowNos cs | _ => []
/-- What is given back is no row of the heap any more. -/
def shutRes (vars : List PV) : List PRes → List PObj → List PObj
 | [], h => h
 | r :: rs, h => shutRes vars rs (gones (resNos vars r) h)
/-- What a call gives that does not panic. -/
def valOf : Option (Out × List PObj) → Option (PV × List PObj)
 | some (.val r, h) => some (r, h)
 | _ => none
/-- One round of a range over a function: its state (ready) is an object of the heap. -/
def runRound (ex : PC → St → Option (PExit × St)) (nv : Nat) (a b : PC) (args : List PV) (h : List PObj) : Option (Out × List PObj) :=
 match args with
 | .ptr n 0 :: as =>
   match h[n]?, ex a { vars := as.map dem ++ List.replicate (nv - as.length) .dead, locs := [], gen := 0, heap := h } with
   | some (.loop true), some (.normal, st1) =>
     match st1.heap[n]?, ex b { st1 with heap := st1.heap.set n (.loop false) } with
     | some (.loop true), some (.normal, st2) =>
       match st2.heap[n]? with
       | some (.loop false) => some (.val (.bool true), st2.heap.set n (.loop true))
       | _ => none
     | some (.loop true), some (.boom v, st2) => some (.boom v, st2.heap)
     | some (.loop true), some (.exit id, st2) =>
       match st2.heap[n]? with
       | some (.loop false) => some (.val (.bool false), st2.heap.set n (.over (some id)))
       | _ => none
     | some (.loop true), some (.ret, st2) =>
       match st2.heap[n]? with
       | some (.loop false) => some (.val (.bool false), st2.heap.set n (.over none))
       | _ => none
     | _, _ => none
   | _, _ => none
 | _ => none
/-- No range over a function. -/
def PC.NR : PC → Bool
 | .rangeF .. => false
 | .seq a b | .branch _ _ a b | .bbranch _ _ a b | .round a b => a.NR && b.NR
 | .block _ c | .loop c | .guarded _ _ c => c.NR
 | _ => true
/-- Code for a round: no range over a function, no defer statement. -/
def PC.RO : PC → Bool
 | .rangeF .. | .guarded .. => false
 | .seq a b | .branch _ _ a b | .bbranch _ _ a b | .round a b => a.RO && b.RO
 | .block _ c | .loop c => c.RO
 | _ => true
def PC.isRound : PC → Bool
 | .round _ _ => true
 | _ => false
/-- Is it a function of its own, and no round? -/
def noRound (L : Nat → Option PFunc) (k : Nat) : Bool :=
 match L k with
 | some f => !f.code.isRound
 | none => false
/-- What a function begins with. -/
def entry (own : Option Nat) (args : List PV) : List PV :=
 match own with
 | none => args.map dem
 | some i => (args.map dem).set i (args.getD i .dead)
/-- How a function with this code ends. -/
def runOut (ex : PC → St → Option (PExit × St)) (dfr : Nat → List PV → List PObj → Option (List PObj)) (f : PFunc) (args : List PV) (h : List PObj) : Option (Out × List PObj) :=
 match f.code with
 | .round a b => runRound ex f.nv a b args h
 | c =>
   match ex c { vars := args.map dem ++ List.replicate (f.nv - f.params) .dead, locs := [], gen := 0, heap := h } with
   | some (.normal, st) => (resultV st f.results).map fun r => (.val r, shutRes st.vars f.results st.heap)
   | some (.ret, st) => (resultV st f.results).map fun r => (.val r, shutRes st.vars f.results st.heap)
   | some (.boom v, st) => some (.boom v, st.heap)
   | some (.after kd caps v, st) =>
     if c.NR = false then none else (dfr kd (v.getD .nilIface :: caps) st.heap).bind fun h' => (resultV { st with heap := h' } f.results).map fun r => (.val r, shutRes st.vars f.results h')
   | _ => none
def runFn (ex : PC → St → Option (PExit × St)) (dfr : Nat → List PV → List PObj → Option (List PObj)) (f : PFunc) (args : List PV) (h : List PObj) : Option (PV × List PObj) :=
 if f.code.isRound then none else valOf (runOut ex dfr f args h)
/-- A call that hands over room. -/
def runOwn (ex : PC → St → Option (PExit × St)) (f : PFunc) (own : Option Nat) (args : List PV) (h : List PObj) : Option (PV × List PObj) :=
 if f.code.isRound then none else
 match ex f.code { vars := entry own args ++ List.replicate (f.nv - f.params) .dead, locs := [], gen := 0, heap := h } with
 | some (.normal, st) => (resultV st f.results).map fun r => (r, shutRes st.vars f.results st.heap)
 | some (.ret, st) => (resultV st f.results).map fun r => (r, shutRes st.vars f.results st.heap)
 | _ => none
/-- What two runs agree upon. -/
def agree (r r' : Option (PV × List PObj)) : Option (PV × List PObj) := if r = r' then r else none
/-- An empty slice, of which it is not said whether it is nil. -/
def vague : PV → Bool
 | .list _ [] => true
 | _ => false
/-- The deferred closures: functions by contract, of the panic's value and what they have captured. -/
def dfrOf (L : Nat → Option PFunc) (k : Nat) (args : List PV) (h : List PObj) : Option (List PObj) :=
 match L k with
 | some f => match f.defer with
   | some g => g args h
   | none => none
 | none => none
/-- A call that hands over room. -/
def ownWith (ex : PC → St → Option (PExit × St)) (f : PFunc) : List PV → List PObj → Option (PV × List PObj)
 | .dead :: rest, h =>
   match rest.drop pad.length with
   | o :: args =>
     if args.length = f.params ∧ f.prim = none then
      if f.split && vague (args.headD .dead) then agree (runOwn ex f (ownOf o) (.nils :: args.tail) h) (runOwn ex f (ownOf o) (.void :: args.tail) h)
      else runOwn ex f (ownOf o) args h
     else none
   | [] => none
 | _, _ => none
def callWith (ex : PC → St → Option (PExit × St)) (L : Nat → Option PFunc) : CallF := fun k args h =>
 match L k with
 | none => none
 | some f =>
   if args.length = f.params then
    match f.prim with
    | some g => (g (args.map dem) h).map fun r => (dem r.1, r.2)
    | none =>
      if f.split && vague (args.headD .dead) then agree (runFn ex (dfrOf L) f (.nils :: args.tail) h) (runFn ex (dfrOf L) f (.void :: args.tail) h)
      else runFn ex (dfrOf L) f args h
   else ownWith ex f args h
abbrev OutF := Nat → List PV → List PObj → Option (Out × List PObj)
/-- How a call ends, that may panic. -/
def outWith (ex : PC → St → Option (PExit × St)) (L : Nat → Option PFunc) : OutF := fun k args h =>
 match L k with
 | none => none
 | some f =>
   if args.length = f.params ∧ f.split = false then
    match f.prim with
    | some g => (g (args.map dem) h).map fun r => (.val (dem r.1), r.2)
    | none => runOut ex (dfrOf L) f args h
   else none
/-- An operation of a region in which a call may panic: the panic's value, where one does. -/
def bstep (cf : CallF) (ob : OutF) (j : Nat) (o : PO) (st : St) : Option (Option PV × St) :=
 match o.op, o.guard with
 | .h (.bcall k args), none =>
   match rdAll st args with
   | some vs =>
     match ob k vs st.heap with
     | some (.val r, h') => some (none, put { st with heap := h' } j o.dst (dem r))
     | some (.boom v, h') => some (some v, { st with heap := h' })
     | none => none
   | none => none
 | .h (.bcallv x args), none =>
   match rd st x, rdAll st args with
   | some (.func k first captured), some vs =>
     match ob k (first ++ vs ++ captured) st.heap with
     | some (.val r, h') => some (none, put { st with heap := h' } j o.dst (dem r))
     | some (.boom v, h') => some (some v, { st with heap := h' })
     | none => none
   | _, _ => none
 | .h (.bcall _ _), _ | .h (.bcallv _ _), _ => none
 | _, _ => (step1 cf j o st).map fun st => (none, st)
def brun (cf : CallF) (ob : OutF) : Nat → List PO → St → Option (Option PV × St)
 | _, [], st => some (none, st)
 | j, o :: os, st =>
   match bstep cf ob j o st with
   | some (none, st) => brun cf ob (j + 1) os st
   | r => r
def killM (ds : List Nat) (st : St) : St := ds.foldl (fun st i => { st with vars := st.vars.set i .dead }) st
def blob1 (a b : PObj) : PObj :=
 if a = b then a else match a with
  | .map es => if es.all (fun e => isStr e.1) then .sblob else .map es
  | a => a
/-- Maps that have turned become maps of which nothing is told. -/
def blobM (st : St) : Option St → St
 | some s => if s.heap.length = st.heap.length then { st with heap := List.zipWith blob1 st.heap s.heap } else st
 | none => st
/-- A round of a range over a map. -/
def roundM (cf : CallF) (ds : List Nat) (pos2 pos3 : List PO) (e : PV × PV) (st : St) : Option St :=
 (execFrom cf 1 pos2 { st with locs := .tuple [e.1, dem e.2] :: List.replicate pos2.length .dead }).bind fun s1 => (execReg cf pos3 (closed s1)).map fun s2 => killM ds (closed s2)
/-- What a range over a map begins with. -/
def headM (cf : CallF) (ds : List Nat) (pos2 pos3 : List PO) (m it : Nat) (es : List (PV × PV)) (st0 : St) : St :=
 let s1 := killM ds (closed { st0 with vars := st0.vars.set it (.ptr st0.heap.length 0), heap := st0.heap.set m .gone ++ [.gone] })
 match es with
 | [] => s1
 | e :: _ => blobM s1 (roundM cf ds pos2 pos3 e s1)
/-- A range over a map: each round, whatever its entry, must leave all as it was. -/
def runM (cf : CallF) (pos0 : List PO) (x : PX) (it : Nat) (ds : List Nat) (pos2 pos3 : List PO) (st : St) : Option St :=
 (execFrom cf 0 pos0 (begun pos0.length st)).bind fun st0 =>
  match rd st0 x with
  | some (.map (some m)) =>
    match st0.heap[m]? with
    | some (.map es) =>
      let s2 := headM cf ds pos2 pos3 m it es st0
      if es.all (fun e => decide (roundM cf ds pos2 pos3 e s2 = some s2)) = true ∧ s2.vars[it]? = some (.ptr st0.heap.length 0) ∧ s2.heap[m]? = some .gone then some { s2 with heap := s2.heap.set m (.map (es.map fun e => (e.1, dem e.2))) } else none
    | _ => none
  | _ => none
def exec (L : Nat → Option PFunc) : Nat → PC → St → Option (PExit × St)
 | 0, _, _ => none
 | n + 1, c, st =>
   match c with
   | .skip => some (.normal, st)
   | .region ops => (execReg (callWith (exec L n) L) ops st).map fun st => (.normal, closed st)
   | .branch ops x a b =>
     match execReg (callWith (exec L n) L) ops st with
     | some st =>
       match rd st x with
       | some (.bool t) => exec L n (if t then a else b) (closed st)
       | _ => none
     | none => none
   | .seq a b =>
     match exec L n a st with
     | some (.normal, st) => exec L n b st
     | some (.after _ _ _, _) => none
     | r => r
   | .block id c =>
     match exec L n c st with
     | some (.exit i, st) => if i = id then some (.normal, st) else some (.exit i, st)
     | some (.after _ _ _, _) => none
     | r => r
   | .loop c =>
     match exec L n c st with
     | some (.normal, st) => exec L n (.loop c) st
     | some (.after _ _ _, _) => none
     | r => r
   | .exit id => some (.exit id, st)
   | .ret => some (.ret, st)
   | .bregion ops =>
     match brun (callWith (exec L n) L) (outWith (exec L n) L) 0 ops (begun ops.length st) with
     | some (none, st) => some (.normal, closed st)
     | some (some v, st) => some (.boom v, closed st)
     | none => none
   | .bbranch ops x a b =>
     match brun (callWith (exec L n) L) (outWith (exec L n) L) 0 ops (begun ops.length st) with
     | some (none, st) =>
       match rd st x with
       | some (.bool t) => exec L n (if t then a else b) (closed st)
       | _ => none
     | some (some v, st) => some (.boom v, closed st)
     | none => none
   | .raise ops t x =>
     match execOps (callWith (exec L n) L) ops st with
     | some st => (rd st x).map fun p => (.boom (.iface t p), closed st)
     | none => none
   | .rangeF x kb caps =>
     match rd st x, rdAll st caps with
     | some (.func k first captured), some cs =>
       if noRound L k = false then none else
       match outWith (exec L n) L k (first ++ .func kb (.ptr st.heap.length 0 :: cs) [] :: captured) (st.heap ++ [.loop true]) with
       | some (.val _, h') => (match h'[st.heap.length]? with
         | some (.loop true) => some (.normal, { st with heap := h'.set st.heap.length .gone })
         | some (.over (some id)) => some (.exit id, { st with heap := h'.set st.heap.length .gone })
         | some (.over none) => some (.ret, { st with heap := h'.set st.heap.length .gone })
         | _ => none)
       | some (.boom v, h') => some (.boom v, { st with heap := h' })
       | none => none
     | _, _ => none
   | .round _ _ => none
   | .mloop pos0 x it ds pos2 pos3 => (runM (callWith (exec L n) L) pos0 x it ds pos2 pos3 st).map fun st => (.normal, st)
   | .guarded kd caps c =>
     if c.NR = false then none else
     match rdAll st caps with
     | some cs =>
       match exec L n c st with
       | some (.normal, st) => some (.after kd cs none, st)
       | some (.ret, st) => some (.after kd cs none, st)
       | some (.boom v, st) => some (.after kd cs (some v), st)
       | _ => none
     | none => none
def call (L : Nat → Option PFunc) (n : Nat) : CallF := callWith (exec L n) L
end PI
