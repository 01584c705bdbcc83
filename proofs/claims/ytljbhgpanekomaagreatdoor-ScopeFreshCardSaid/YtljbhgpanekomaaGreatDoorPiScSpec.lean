import Derived.Test.YtljbhgpanekomaaGreatDoorPiScData
set_option linter.unusedSimpArgs false
set_option linter.unusedVariables false
namespace PI.Sc
open Go (IntKind BinOp UnOp)
abbrev I64 (n : Int) : Prop := -9223372036854775808 ≤ n ∧ n ≤ 9223372036854775807
def firstOf {α : Type} (f : α → Int) : List α → Int
 | [] => 0
 | x :: xs => if f x = 0 then firstOf f xs else f x
theorem firstOf_zero {α : Type} {f : α → Int} : ∀ {l : List α}, firstOf f l = 0 ↔ ∀ x ∈ l, f x = 0
 | [] => by simp [firstOf]
 | x :: xs => by
   unfold firstOf
   by_cases h : f x = 0
   ·simp [h, firstOf_zero (l := xs)]
   ·simp [h]
def thenE (a b : Int) : Int := if a = 0 then b else a
@[simp] theorem thenE_zero (b : Int) : thenE 0 b = b := rfl
def need (b : Bool) (e : Int) : Int := if b then 0 else e
@[simp] theorem need_true (e : Int) : need true e = 0 := rfl
@[simp] theorem need_false (e : Int) : need false e = e := rfl
def letter (b : Int) : Bool := decide (97 ≤ b ∧ b ≤ 122 ∨ 65 ≤ b ∧ b ≤ 90)
def digit (b : Int) : Bool := decide (48 ≤ b ∧ b ≤ 57)
def inner (b : Int) : Bool := letter b || digit b || decide (b = 95)
def keywords : List Str := [[97, 115, 115, 117, 109, 101], [97, 110, 100], [97, 117, 116, 111, 109, 97, 116, 111, 110], [98, 111, 111, 108], [99, 111, 110, 116, 105, 110, 117, 101], [100, 111], [100, 111, 110, 101], [101, 108, 115, 101], [101, 110, 100], [101, 110, 115, 117, 114, 101], [101, 118, 101, 114, 121], [102, 97, 108, 115, 101], [102, 98, 121], [105, 102], [105, 110, 116], [108, 101, 116], [109, 101, 114, 103, 101], [109, 111, 100], [110, 111, 100, 101], [110, 111, 116], [111, 114], [112, 114, 101], [114, 101, 116, 117, 114, 110, 115], [115, 116, 97, 116, 101], [116, 101, 108], [116, 104, 101, 110], [116, 114, 117, 101], [116, 121, 112, 101], [117, 110, 108, 101, 115, 115], [117, 110, 116, 105, 108], [118, 97, 114], [119, 104, 101, 110], [120, 111, 114]]
def keyword (s : Str) : Bool := decide (s ∈ keywords)
def ident (s : Str) : Bool := decide (s ≠ [] ∧ s.length ≤ 40) && letter (s.headD 0).toNat && s.all (fun b => inner b.toNat) && !keyword s
def enumAt (en : List Enum) (t : Int) : Option Enum := if 3 ≤ t then en[(t - 3).toNat]? else none
def tySize (en : List Enum) (t : Int) : Nat := if t = 1 then 2 else if t = 2 then 65536 else ((enumAt en t).map (·.tags.length)).getD 0
def tyHas (en : List Enum) (t v : Int) : Bool := if t = 2 then decide (-32768 ≤ v ∧ v ≤ 32767) else decide (0 ≤ v ∧ v < tySize en t)
mutual
def Expr.list : Expr → List Expr
 | .mk k o t v n as => .mk k o t v n as :: lists as
def lists : List Expr → List Expr
 | [] => []
 | x :: xs => x.list ++ lists xs
end
theorem lists_eq : ∀ l : List Expr, lists l = l.flatMap Expr.list
 | [] => by simp [lists]
 | x :: xs => by simp [lists, lists_eq xs]
theorem Expr.list_eq (e : Expr) : e.list = e :: e.args.flatMap Expr.list := by cases e; simp [Expr.list, lists_eq]
abbrev wrap (n : Int) : Int := IntKind.i64.wrap n
def Expr.size (e : Expr) : Int := wrap e.list.length
mutual
def Expr.depth : Expr → Int
 | .mk k o t v n as => wrap (depths 0 as + 1)
def depths (m : Int) : List Expr → Int
 | [] => m
 | x :: xs => depths (if x.depth > m then x.depth else m) xs
end
theorem Expr.ind {P : Expr → Prop} (h : ∀ e : Expr, (∀ x ∈ e.args, P x) → P e) : ∀ e, P e := by
 intro e
 refine Expr.rec (motive_1 := P) (motive_2 := fun l => ∀ x ∈ l, P x) ?_ ?_ ?_ e
 ·intro k o t v n as ih; exact h _ ih
 ·simp
 ·intro x xs h1 h2 y hy
  rcases List.mem_cons.1 hy with rfl | hy
  ·exact h1
  ·exact h2 y hy
def isBit (b : UInt8) : Bool := b == 48 || b == 49
def letters (s : Str) (at' : Nat) : Str := (s.drop at').takeWhile isBit
def wordOK (s : Str) : Bool :=
 let n := (letters s 0).length
 let m := (letters s (n + 1)).length
 decide (s.length ≤ 66 ∧ s[n]? = some 40 ∧ n + m + 2 = s.length ∧ s[n + m + 1]? = some 41 ∧ m ≠ 0 ∧ n + m ≤ 64)
def named (k : Int) : Bool := decide (k = 2 ∨ k = 8 ∨ k = 9 ∨ k = 10)
def tagged (t v : Int) : Bool := decide (t = 1 ∧ (v = 0 ∨ v = 1) ∨ 3 ≤ t ∧ 0 ≤ v ∧ v < 16)
def argsOK (e : Expr) : Bool :=
 let n : Int := e.args.length
 if e.kind = 1 ∨ e.kind = 2 ∨ e.kind = 11 then decide (n = 0)
 else if e.kind = 3 then decide (n = if e.op = 1 ∨ e.op = 2 then 1 else 2)
 else if e.kind = 4 then decide (n = 3)
 else if e.kind = 5 ∨ e.kind = 8 then decide (n = 1)
 else if e.kind = 6 ∨ e.kind = 7 then decide (n = 2)
 else if e.kind = 9 then (if e.t = 1 then decide (n = 2) else decide (3 ≤ e.t ∧ 1 ≤ n ∧ n ≤ 16))
 else decide (e.kind = 10 ∧ (e.v = 0 ∨ e.v = 1 ∧ 1 ≤ n))
def typedOK (e : Expr) : Bool :=
 if e.kind = 1 then (if e.t = 2 then decide (-32768 ≤ e.v ∧ e.v ≤ 32767) else tagged e.t e.v)
 else if e.kind = 8 then tagged e.t e.v
 else if e.kind = 9 then decide ((e.t = 1 ∨ 3 ≤ e.t) ∧ e.v = 0)
 else if e.kind = 10 then decide (e.t = 0 ∧ (e.v = 0 ∨ e.v = 1))
 else decide (e.t = 0 ∧ e.v = 0)
def opOK (e : Expr) : Bool := if e.kind = 3 then decide (1 ≤ e.op ∧ e.op ≤ 16) else decide (e.op = 0)
def nameOK (e : Expr) : Bool := named e.kind || (if e.kind = 11 then wordOK e.name else decide (e.name = []))
def formOK (e : Expr) : Bool := decide (1 ≤ e.kind ∧ e.kind ≤ 11) && argsOK e && typedOK e && opOK e && nameOK e
def oneErr (e : Expr) : Int := thenE (need (decide (e.args.length ≤ 64)) 3) (thenE (need (formOK e) 5) (need (!named e.kind || ident e.name) 6))
def checkE (e : Expr) : Int := thenE (need (decide (e.size ≤ 400 ∧ e.depth ≤ 32)) 3) (firstOf oneErr e.list)
def stateless (e : Expr) : Bool := e.list.all fun x => !decide (x.kind = 5 ∨ x.kind = 6 ∨ x.kind = 7 ∨ x.kind = 10 ∨ x.kind = 11)
def insideErr (en : List Enum) (e : Expr) : Int :=
 if e.kind = 1 ∨ e.kind = 8 then thenE (need (decide (0 < tySize en e.t)) 10) (need (tyHas en e.t e.v) 14)
 else if e.kind = 9 then thenE (need (decide (0 < tySize en e.t)) 10) (need (decide (e.args.length = tySize en e.t)) 9)
 else 0
def exprErr (en : List Enum) (e : Expr) : Int := thenE (checkE e) (firstOf (insideErr en) e.list)
def idErr (s : Str) : Int := need (ident s) 6
def onErr (en : List Enum) (o : On) : Int := thenE (idErr o.name) (need (decide (o.t ≠ 2) && tyHas en o.t o.tag) 5)
def declErr (en : List Enum) (port : Bool) (d : Decl) : Int :=
 thenE (idErr d.name) (thenE (need (decide (0 < tySize en d.type)) 10) (thenE (need (!port || decide (d.clock = [])) 11) (thenE (need (decide (d.clock.length ≤ 4)) 3) (firstOf (onErr en) d.clock))))
def eqnErr (en : List Enum) (q : Eqn) : Int :=
 thenE (need (decide (q.left ≠ [])) 8) (thenE (need (decide (q.left.length ≤ 64)) 3) (thenE (firstOf idErr q.left) (thenE (exprErr en q.right) (need (decide (q.left.length = 1 ∨ q.right.kind = 10)) 5))))
def trnErr (en : List Enum) (n : Nat) (strong : Bool) (t : Trn) : Int :=
 thenE (need (decide (0 ≤ t.to ∧ t.to < n)) 14) (thenE (exprErr en t.cond) (need (!strong || stateless t.cond) 5))
def stateErr (en : List Enum) (n : Nat) (auto : Auto → Int) (s : State) : Int :=
 thenE (idErr s.name) (thenE (need (decide (s.locals.length ≤ 256 ∧ s.eqs.length ≤ 256 ∧ s.autos.length ≤ 8 ∧ s.unl.length ≤ 4 ∧ s.til.length ≤ 4)) 3)
  (thenE (firstOf (declErr en false) s.locals) (thenE (firstOf (eqnErr en) s.eqs) (thenE (firstOf auto s.autos) (thenE (firstOf (trnErr en n true) s.unl) (firstOf (trnErr en n false) s.til))))))
def autoErr (en : List Enum) : Nat → Auto → Int
 | 0, _ => 3
 | d + 1, a => thenE (need (decide (a ≠ [])) 8) (thenE (need (decide (a.length ≤ 8)) 3) (firstOf (stateErr en a.length (autoErr en d)) a))
def enumErr (u : Enum) : Int := thenE (idErr u.name) (thenE (need (decide (u.tags ≠ [])) 8) (thenE (need (decide (u.tags.length ≤ 16)) 3) (firstOf idErr u.tags)))
def headErr (en : List Enum) (n : Node) : Int :=
 thenE (idErr n.name) (thenE (need (decide (n.ins.length ≤ 64 ∧ n.outs.length ≤ 64 ∧ n.locals.length ≤ 256 ∧ n.eqs.length ≤ 256 ∧ n.autos.length ≤ 8 ∧ n.assume.length ≤ 8 ∧ n.ensure.length ≤ 8)) 3)
  (thenE (need (decide (n.outs ≠ [])) 8) (thenE (firstOf (declErr en true) n.ins) (thenE (firstOf (declErr en true) n.outs) (firstOf (declErr en false) n.locals)))))
def tailErr (en : List Enum) (n : Node) : Int := thenE (firstOf (autoErr en 3) n.autos) (thenE (firstOf (exprErr en) n.assume) (firstOf (exprErr en) n.ensure))
structure Bad where
 node : Int
 eq : Int
 err : Int
 deriving DecidableEq, Inhabited
def firstAt {α : Type} (f : α → Int) : List α → Nat → Option (Nat × Int)
 | [], _ => none
 | x :: xs, i => if f x = 0 then firstAt f xs (i + 1) else some (i, f x)
def nodeBad (en : List Enum) (n : Node) (i : Nat) : Option Bad :=
 if headErr en n ≠ 0 then some ⟨i, -1, headErr en n⟩
 else match firstAt (eqnErr en) n.eqs 0 with
  | some (k, e) => some ⟨i, k, e⟩
  | none => if tailErr en n ≠ 0 then some ⟨i, -1, tailErr en n⟩ else none
def nodesBad (en : List Enum) : List Node → Nat → Option Bad
 | [], _ => none
 | n :: ns, i => match nodeBad en n i with
   | some b => some b
   | none => nodesBad en ns (i + 1)
def shapeBad (p : Prog) : Option Bad :=
 if ¬ (p.enums.length ≤ 24 ∧ p.nodes.length ≤ 96) then some ⟨-1, -1, 3⟩
 else if firstOf enumErr p.enums ≠ 0 then some ⟨-1, -1, firstOf enumErr p.enums⟩
 else nodesBad p.enums p.nodes 0
end PI.Sc
