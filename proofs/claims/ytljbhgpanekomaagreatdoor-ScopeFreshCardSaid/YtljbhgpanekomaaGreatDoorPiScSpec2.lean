import Derived.Test.YtljbhgpanekomaaGreatDoorPiScSpec
import Derived.Lib.ItoaNum
set_option linter.unusedSimpArgs false
set_option linter.unusedVariables false
namespace PI.Sc
open Go (IntKind BinOp UnOp)
structure Place where
 before : List Node
 vis : List Str
 inputs : List Str
 tags : List Str
def Place.at (s : Place) (vis : List Str) : Place := { s with vis := vis }
def dnames (l : List Decl) : List Str := l.map (·.name)
def without (l other : List Str) : List Str := l.filter fun x => !decide (x ∈ other)
abbrev EN := Int × List Str
def bindE (a : EN) (f : List Str → EN) : EN := if a.1 = 0 then f a.2 else (a.1, [])
@[simp] theorem bindE_ok (l : List Str) (f : List Str → EN) : bindE (0, l) f = f l := rfl
def callee (before : List Node) (name : Str) : Option Node := before.find? fun n => decide (n.name = name)
def callErr (s : Place) (e : Expr) (outs : Nat) : Int :=
 match callee s.before e.name with
 | none => 6
 | some n => need (decide ((e.args.length : Int) = wrap (n.ins.length + e.v) ∧ n.outs.length = outs)) 9
def oneN (s : Place) (outs : Nat) (e : Expr) : Int :=
 if e.kind = 2 ∨ e.kind = 8 ∨ e.kind = 9 then need (decide (e.name ∈ s.vis)) 6
 else if e.kind = 10 then callErr s e outs else 0
def exprN (s : Place) (e : Expr) (outs : Nat) : Int := thenE (oneN s outs e) (firstOf (oneN s 1) (e.args.flatMap Expr.list))
def leftN (s : Place) : List Str → List Str → EN
 | [], d => (0, d)
 | x :: xs, d => if x ∉ s.vis then (6, []) else if x ∈ s.inputs ∨ x ∈ d then (7, []) else leftN s xs (d ++ [x])
def eqnN (s : Place) (q : Eqn) (d : List Str) : EN := bindE (leftN s q.left d) fun d => (exprN s q.right q.left.length, d)
def eqnsN (s : Place) : List Eqn → List Str → EN
 | [], d => (0, d)
 | q :: qs, d => bindE (eqnN s q d) (eqnsN s qs)
def declN (tags : List Str) : List Decl → List Str → EN
 | [], v => (0, v)
 | d :: ds, v => if d.name ∈ v ∨ d.name ∈ tags then (7, []) else declN tags ds (v ++ [d.name])
def clocksN (vis : List Str) (l : List Decl) : Int := firstOf (fun d => firstOf (fun o => need (decide (o.name ∈ vis)) 6) d.clock) l
def declareN (vis tags : List Str) (l : List Decl) : EN := bindE (declN tags l vis) fun v => (clocksN v l, v)
def condsN (s : Place) (l : List Trn) : Int := firstOf (fun t => exprN s t.cond 1) l
def alike (a b : List Str) : Bool := decide (without a b = [] ∧ without b a = [])
mutual
def stateN (s : Place) (d : List Str) : State → EN
 | .mk n l e a u w =>
   bindE (declareN s.vis s.tags l) fun vis =>
   bindE (eqnsN (s.at vis) e d) fun d1 =>
   bindE (autosN (s.at vis) d1 a) fun d2 =>
   bindE (condsN s u, []) fun _ =>
   bindE (condsN (s.at vis) w, []) fun _ =>
   if without (dnames l) (without d2 d) = [] then (0, without (without d2 d) (dnames l)) else (8, [])
def statesN (s : Place) (d : List Str) : List State → Int × List (List Str)
 | [] => (0, [])
 | x :: xs =>
   let r := stateN s d x
   if r.1 = 0 then (let q := statesN s d xs; if q.1 = 0 then (0, r.2 :: q.2) else (q.1, [])) else (r.1, [])
def autosN (s : Place) (d : List Str) : List (List State) → EN
 | [] => (0, d)
 | x :: xs =>
   if ¬ (x.map (·.name)).Nodup then (7, [])
   else
    let r := statesN s d x
    if r.1 ≠ 0 then (r.1, [])
    else if r.2.all (fun l => alike l (r.2.headD [])) then autosN s (d ++ r.2.headD []) xs
    else (8, [])
end
def vars (n : Node) : List Decl := n.ins ++ n.outs ++ n.locals
def eqnsAt (s : Place) : List Eqn → Nat → List Str → (Nat × Int) ⊕ List Str
 | [], _, d => .inr d
 | q :: qs, k, d => if (eqnN s q d).1 = 0 then eqnsAt s qs (k + 1) (eqnN s q d).2 else .inl (k, (eqnN s q d).1)
def nodeN (before : List Node) (tags : List Str) (n : Node) : Option Bad :=
 let i := before.length
 if n.name ∈ before.map (·.name) then some ⟨i, -1, 7⟩
 else
  let r := declareN [] tags (vars n)
  if r.1 ≠ 0 then some ⟨i, -1, r.1⟩
  else
   let s : Place := ⟨before, r.2, dnames n.ins, tags⟩
   match eqnsAt s n.eqs 0 [] with
   | .inl (k, e) => some ⟨i, k, e⟩
   | .inr d =>
     let c := autosN s d n.autos
     if c.1 ≠ 0 then some ⟨i, -1, c.1⟩
     else
      let a := firstOf (fun e => exprN (s.at (dnames n.ins)) e 1) n.assume
      if a ≠ 0 then some ⟨i, -1, a⟩
      else
       let g := firstOf (fun e => exprN (s.at (dnames n.ins ++ dnames n.outs)) e 1) n.ensure
       if g ≠ 0 then some ⟨i, -1, g⟩
       else if without (dnames n.outs ++ dnames n.locals) c.2 = [] then none else some ⟨i, -1, 8⟩
def nodesN (tags : List Str) : List Node → List Node → Option Bad
 | _, [] => none
 | before, n :: r => match nodeN before tags n with
   | some b => some b
   | none => nodesN tags (before ++ [n]) r
def tagsOf (en : List Enum) : List Str := en.flatMap (·.tags)
def enumsOK (en : List Enum) : Bool := decide ((en.map (·.name)).Nodup ∧ (tagsOf en).Nodup)
def putAll (l more : List Str) : List Str := more.foldl (fun l x => if x ∈ l then l else l ++ [x]) l
def lefts (l : List Eqn) : List Str := putAll [] (l.flatMap (·.left))
mutual
def definedA (out : List Str) : List (List State) → List Str
 | [] => out
 | [] :: xs => definedA out xs
 | (s :: r) :: xs => definedA (putAll out (without (definedS s) (dnames s.locals))) xs
def definedS : State → List Str
 | .mk n l e a u w => definedA (lefts e) a
end
mutual
def rightsS : State → List Expr
 | .mk n l e a u w => e.map (·.right) ++ rightsA a ++ u.map (·.cond) ++ w.map (·.cond)
def rightsL : List State → List Expr
 | [] => []
 | s :: r => rightsS s ++ rightsL r
def rightsA : List (List State) → List Expr
 | [] => []
 | a :: r => rightsL a ++ rightsA r
end
def nodeExprs (n : Node) : List Expr := n.eqs.map (·.right) ++ rightsA n.autos ++ n.assume ++ n.ensure
def find (ns : List Node) (name : Str) : Option Nat := ns.findIdx? fun n => decide (n.name = name)
def declaredN (l : List Decl) : List Str := dnames l ++ l.flatMap fun d => d.clock.map (·.name)
mutual
def insideS : State → List Str
 | .mk n l e a u w => n :: declaredN l ++ (e.flatMap (·.left) ++ insideA a)
def insideL : List State → List Str
 | [] => []
 | s :: r => insideS s ++ insideL r
def insideA : List (List State) → List Str
 | [] => []
 | a :: r => insideL a ++ insideA r
end
def counts (k : Int) : Bool := !decide (k = 1 ∨ k = 3 ∨ k = 4 ∨ k = 5 ∨ k = 6 ∨ k = 7 ∨ k = 11)
def exprNames (e : Expr) : List Str := (e.list.filter fun x => counts x.kind).map (·.name)
def nodeNames (n : Node) : List Str := n.name :: declaredN (vars n) ++ (n.eqs.flatMap (·.left) ++ insideA n.autos) ++ (nodeExprs n).flatMap exprNames
def allNames (p : Prog) : List Str := p.enums.flatMap (fun u => u.name :: u.tags) ++ p.nodes.flatMap nodeNames
def withNo (base : Str) (n : Nat) : Str := base ++ 95 :: Go.Lib.decDigits n
def freshNo (all : List Str) (base : Str) : Nat → Nat → Nat
 | 0, n => n
 | k + 1, n => if withNo base n ∈ all then freshNo all base k (n + 1) else n
def fresh (p : Prog) (base : Str) : Str := withNo base (freshNo (allNames p) base ((allNames p).length + 1) 1)
end PI.Sc
