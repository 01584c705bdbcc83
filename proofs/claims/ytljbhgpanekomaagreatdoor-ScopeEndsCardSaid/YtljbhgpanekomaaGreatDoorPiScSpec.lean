import Derived.Test.YtljbhgpanekomaaGreatDoorPiScData
set_option linter.unusedSimpArgs false
set_option linter.unusedVariables false
namespace PI.Sc
open Go (IntKind BinOp UnOp)
abbrev I64 (n:Int):Prop := -9223372036854775808≤n∧n≤9223372036854775807
def a0d {α:Type} (f:α→Int):List α→Int
 | []=>0
 | x::xs=>if f x=0 then a0d f xs else f x
theorem a0J {α:Type} {f:α→Int}:∀{l:List α},a0d f l=0↔∀x∈l,f x=0
 | []=>by simp[a0d]
 | x :: xs => by
   unfold a0d
   by_cases h:f x=0
   ·simp[h,a0J (l:=xs)]
   ·simp[h]
theorem b20 {α:Type} {f:α→Int}:∀{l:List α} {i:Nat} (hi:i<l.length),f l[i]≠0→(∀k (hk:k<i),f (l[k]'(by omega))=0)→a0d f l=f l[i]
 | [],i,hi,_,_=>by simp at hi
 | x::xs,0,hi,h,_=>by simp only[List.getElem_cons_zero] at h; simp[a0d,h]
 | x :: xs, i + 1, hi, h, hk => by
   have h0:=hk 0 (by omega)
   simp only[List.getElem_cons_zero] at h0
   simp only[List.getElem_cons_succ] at h
   simp only[a0d,h0,if_true,List.getElem_cons_succ]
   exact b20 (by simpa using hi) h (λk hk'=>by have:=hk (k+1) (by omega); simpa using this)
theorem a8i {α:Type} {f:α→Int}:∀(a b:List α),a0d f (a++b)=if a0d f a=0 then a0d f b else a0d f a
 | [],b=>by simp[a0d]
 | x :: a, b => by
   simp only[List.cons_append,a0d,a8i a b]
   by_cases h:f x=0
   ·simp[h]
   ·simp[h]
def a0x (a b:Int):Int:=if a=0 then b else a
@[simp] theorem a0P (b:Int):a0x 0 b=b:=rfl
theorem a3t {a b:Int} (h:a≠0):a0x a b=a:=if_neg h
theorem a0C {a b:Int}:a0x a b=0↔a=0∧b=0:=by unfold a0x; split<;>simp_all
def need (b:Bool) (e:Int):Int:=if b then 0 else e
@[simp] theorem c7u (e:Int):need true e=0:=rfl
@[simp] theorem a6r (e:Int):need false e=e:=rfl
def b1Y (b:Int):Bool:=decide (97≤b∧b≤122∨65≤b∧b≤90)
def b9C (b:Int):Bool:=decide (48≤b∧b≤57)
def b47 (b:Int):Bool:=b1Y b||b9C b||decide (b=95)
def b7d:List Str:=[[97,115,115,117,109,101],[97,110,100],[97,117,116,111,109,97,116,111,110],[98,111,111,108],[99,111,110,116,105,110,117,101],[100,111],[100,111,110,101],[101,108,115,101],[101,110,100],[101,110,115,117,114,101],[101,118,101,114,121],[102,97,108,115,101],[102,98,121],[105,102],[105,110,116],[108,101,116],[109,101,114,103,101],[109,111,100],[110,111,100,101],[110,111,116],[111,114],[112,114,101],[114,101,116,117,114,110,115],[115,116,97,116,101],[116,101,108],[116,104,101,110],[116,114,117,101],[116,121,112,101],[117,110,108,101,115,115],[117,110,116,105,108],[118,97,114],[119,104,101,110],[120,111,114]]
def b3C (s:Str):Bool:=decide (s∈b7d)
def a9X (s:Str):Bool:=decide (s≠[]∧s.length≤40)&&b1Y (s.headD 0).toNat&&s.all (λb=>b47 b.toNat) && !b3C s
def a8j (en:List Enum) (t:Int):Option Enum:=if 3≤t then en[(t - 3).toNat]? else none
theorem b9D {en:List Enum} {t:Int} (h:t<3):a8j en t=none:=by unfold a8j; rw[if_neg (by omega)]
theorem b9E {en:List Enum} {k:Nat} (h:k<en.length):a8j en (k+3)=some en[k]:=by unfold a8j; rw[if_pos (by omega)]; simp[show (k:Int)+3 - 3=k by omega,h]
theorem b79 {en:List Enum} {k:Nat} (h:en.length≤k):a8j en (k+3)=none:=by unfold a8j; rw[if_pos (by omega)]; simp[show (k:Int)+3 - 3=k by omega,h]
theorem c09 (t:Int):t<3∨∃k:Nat,t=k+3:=by
 by_cases h:t<3
 ·exact .inl h
 ·exact .inr ⟨(t - 3).toNat,by omega⟩
def a2d (en:List Enum) (t:Int):Nat:=if t=1 then 2 else if t=2 then 65536 else((a8j en t).map (·.tags.length)).getD 0
def b3D (en:List Enum) (t v:Int):Bool:=if t=2 then decide (-32768≤v∧v≤32767) else decide (0≤v∧v<a2d en t)
mutual
def Expr.list:Expr→List Expr
 | .mk k o t v n as => .mk k o t v n as::b9F as
def b9F:List Expr→List Expr
 | []=>[]
 | x::xs=>x.list++b9F xs
end
theorem b7e:∀l:List Expr,b9F l=l.flatMap Expr.list
 | []=>by simp[b9F]
 | x::xs=>by simp[b9F,b7e xs]
theorem Expr.list_eq (e:Expr):e.list=e::e.args.flatMap Expr.list:=by cases e; simp[Expr.list,b7e]
abbrev wrap (n:Int):Int:=IntKind.i64.wrap n
def Expr.size (e:Expr):Int:=wrap e.list.length
mutual
def Expr.depth:Expr→Int
 | .mk k o t v n as=>wrap (b48 0 as+1)
def b48 (m:Int):List Expr→Int
 | []=>m
 | x::xs=>b48 (if x.depth>m then x.depth else m) xs
end
theorem b49:∀(l:List Expr) (m:Int),b48 m l=l.foldl (λm x=>if x.depth>m then x.depth else m) m
 | [],m=>by simp[b48]
 | x::xs,m=>by simp[b48,b49 xs]
theorem Expr.depth_eq (e:Expr):e.depth=wrap (e.args.foldl (λm x=>if x.depth>m then x.depth else m) 0+1):=by cases e; simp[Expr.depth,b49]
theorem Expr.ind {P:Expr→Prop} (h:∀e:Expr,(∀x∈e.args,P x)→P e):∀e,P e:=by
 intro e
 refine Expr.rec (motive_1:=P) (motive_2:=λl=>∀x∈l,P x) ?_ ?_ ?_ e
 ·intro k o t v n as ih; exact h _ ih
 ·simp
 ·intro x xs h1 h2 y hy
  rcases List.mem_cons.1 hy with rfl|hy
  ·exact h1
  ·exact h2 y hy
def a4V (b:UInt8):Bool:=b==48||b==49
def a34 (s:Str) (at':Nat):Str:=(s.drop at').takeWhile a4V
def b1Z (s:Str):Bool:=
 let n:=(a34 s 0).length
 let m:=(a34 s (n+1)).length
 decide (s.length≤66∧s[n]? = some 40∧n+m+2=s.length∧s[n+m+1]? = some 41∧m≠0∧n+m≤64)
def a4m (k:Int):Bool:=decide (k=2∨k=8∨k=9∨k=10)
def a8k (t v:Int):Bool:=decide (t=1∧(v=0∨v=1)∨3≤t∧0≤v∧v<16)
def b9G (e:Expr):Bool:=
 let n:Int:=e.args.length
 if e.kind=1∨e.kind=2∨e.kind=11 then decide (n=0)
 else if e.kind=3 then decide (n=if e.op=1∨e.op=2 then 1 else 2)
 else if e.kind=4 then decide (n=3)
 else if e.kind=5∨e.kind=8 then decide (n=1)
 else if e.kind=6∨e.kind=7 then decide (n=2)
 else if e.kind=9 then(if e.t=1 then decide (n=2) else decide (3≤e.t∧1≤n∧n≤16))
 else decide (e.kind=10∧(e.v=0∨e.v=1∧1≤n))
def b6n (e:Expr):Bool:=
 if e.kind=1 then(if e.t=2 then decide (-32768≤e.v∧e.v≤32767) else a8k e.t e.v)
 else if e.kind=8 then a8k e.t e.v
 else if e.kind=9 then decide ((e.t=1∨3≤e.t)∧e.v=0)
 else if e.kind=10 then decide (e.t=0∧(e.v=0∨e.v=1))
 else decide (e.t=0∧e.v=0)
def c7v (e:Expr):Bool:=if e.kind=3 then decide (1≤e.op∧e.op≤16) else decide (e.op=0)
def b9H (e:Expr):Bool:=a4m e.kind||(if e.kind=11 then b1Z e.name else decide (e.name=[]))
def b7f (e:Expr):Bool:=decide (1≤e.kind∧e.kind≤11)&&b9G e&&b6n e&&c7v e&&b9H e
def a8l (e:Expr):Int:=a0x (need (decide (e.args.length≤64)) 3) (a0x (need (b7f e) 5) (need (!a4m e.kind||a9X e.name) 6))
def b5a (e:Expr):Int:=a0x (need (decide (e.size≤400∧e.depth≤32)) 3) (a0d a8l e.list)
def a5B (e:Expr):Bool:=e.list.all λx => !decide (x.kind=5∨x.kind=6∨x.kind=7∨x.kind=10∨x.kind=11)
def a2F (en:List Enum) (e:Expr):Int:=
 if e.kind=1∨e.kind=8 then a0x (need (decide (0<a2d en e.t)) 10) (need (b3D en e.t e.v) 14)
 else if e.kind=9 then a0x (need (decide (0<a2d en e.t)) 10) (need (decide (e.args.length=a2d en e.t)) 9)
 else 0
def a4n (en:List Enum) (e:Expr):Int:=a0x (b5a e) (a0d (a2F en) e.list)
def a67 (s:Str):Int:=need (a9X s) 6
def a9Y (en:List Enum) (o:On):Int:=a0x (a67 o.name) (need (decide (o.t≠2)&&b3D en o.t o.tag) 5)
def a2q (en:List Enum) (port:Bool) (d:Decl):Int:=
 a0x (a67 d.name) (a0x (need (decide (0<a2d en d.type)) 10) (a0x (need (!port||decide (d.clock=[])) 11) (a0x (need (decide (d.clock.length≤4)) 3) (a0d (a9Y en) d.clock))))
def a5O (en:List Enum) (q:Eqn):Int:=
 a0x (need (decide (q.left≠[])) 8) (a0x (need (decide (q.left.length≤64)) 3) (a0x (a0d a67 q.left) (a0x (a4n en q.right) (need (decide (q.left.length=1∨q.right.kind=10)) 5))))
def b10 (en:List Enum) (n:Nat) (strong:Bool) (t:Trn):Int:=
 a0x (need (decide (0≤t.to∧t.to<n)) 14) (a0x (a4n en t.cond) (need (!strong||a5B t.cond) 5))
def b0Y (en:List Enum) (n:Nat) (auto:b2K→Int) (s:State):Int:=
 a0x (a67 s.name) (a0x (need (decide (s.locals.length≤256∧s.eqs.length≤256∧s.autos.length≤8∧s.unl.length≤4∧s.til.length≤4)) 3)
  (a0x (a0d (a2q en false) s.locals) (a0x (a0d (a5O en) s.eqs) (a0x (a0d auto s.autos) (a0x (a0d (b10 en n true) s.unl) (a0d (b10 en n false) s.til))))))
def a5Y (en:List Enum):Nat→b2K→Int
 | 0,_=>3
 | d+1,a=>a0x (need (decide (a≠[])) 8) (a0x (need (decide (a.length≤8)) 3) (a0d (b0Y en a.length (a5Y en d)) a))
def a8z (u:Enum):Int:=a0x (a67 u.name) (a0x (need (decide (u.tags≠[])) 8) (a0x (need (decide (u.tags.length≤16)) 3) (a0d a67 u.tags)))
def a2I (en:List Enum) (n:Node):Int:=
 a0x (a67 n.name) (a0x (need (decide (n.ins.length≤64∧n.outs.length≤64∧n.locals.length≤256∧n.eqs.length≤256∧n.autos.length≤8∧n.assume.length≤8∧n.ensure.length≤8)) 3)
  (a0x (need (decide (n.outs≠[])) 8) (a0x (a0d (a2q en true) n.ins) (a0x (a0d (a2q en true) n.outs) (a0d (a2q en false) n.locals)))))
def a35 (en:List Enum) (n:Node):Int:=a0x (a0d (a5Y en 3) n.autos) (a0x (a0d (a4n en) n.assume) (a0d (a4n en) n.ensure))
structure Bad where
 node:Int
 eq:Int
 err:Int
 deriving DecidableEq,Inhabited
def c7w:Bad:=⟨0,0,0⟩
def a3z {α:Type} (f:α→Int):List α→Nat→Option (Nat×Int)
 | [],_=>none
 | x::xs,i=>if f x=0 then a3z f xs (i+1) else some (i,f x)
def a1Y (en:List Enum) (n:Node) (i:Nat):Option Bad:=
 if a2I en n≠0 then some ⟨i,-1,a2I en n⟩
 else match a3z (a5O en) n.eqs 0 with
  | some (k,e)=>some ⟨i,k,e⟩
  | none=>if a35 en n≠0 then some ⟨i,-1,a35 en n⟩ else none
def a2h (en:List Enum):List Node→Nat→Option Bad
 | [],_=>none
 | n :: ns, i => match a1Y en n i with
   | some b=>some b
   | none=>a2h en ns (i+1)
def a26 (p:Prog):Option Bad:=
 if ¬(p.enums.length≤24∧p.nodes.length≤96) then some ⟨-1,-1,3⟩
 else if a0d a8z p.enums≠0 then some ⟨-1,-1,a0d a8z p.enums⟩
 else a2h p.enums p.nodes 0
def b5O (b:Option Bad):Bad:=b.getD c7w
end PI.Sc
