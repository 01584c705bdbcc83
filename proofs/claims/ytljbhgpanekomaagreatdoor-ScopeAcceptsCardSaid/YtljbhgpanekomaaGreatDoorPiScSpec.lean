import Derived.Test.YtljbhgpanekomaaGreatDoorPiScData
set_option linter.unusedSimpArgs false
set_option linter.unusedVariables false
namespace PI.Sc
open Go (IntKind BinOp UnOp)
abbrev Aw (n:Int):Prop := -9223372036854775808≤n∧n≤9223372036854775807
def wg {α:Type} (f:α→Int):List α→Int
 | []=>0
 | x::xs=>if f x=0 then wg f xs else f x
theorem ze {α:Type} {f:α→Int}:∀{l:List α},wg f l=0↔∀x∈l,f x=0
 | []=>by simp[wg]
 | x :: xs => by
   unfold wg
   by_cases h:f x=0
   ·simp[h,ze (l:=xs)]
   ·simp[h]
theorem Nw {α:Type} {f:α→Int}:∀{l:List α} {i:Nat} (hi:i<l.length),f l[i]≠0→(∀k (hk:k<i),f (l[k]'(by omega))=0)→wg f l=f l[i]
 | [],i,hi,_,_=>by simp at hi
 | x::xs,0,hi,h,_=>by simp only[bG] at h; simp[wg,h]
 | x :: xs, i + 1, hi, h, hk => by
   have h0:=hk 0 (by omega)
   simp only[bG] at h0
   simp only[co] at h
   simp only[wg,h0,if_true,co]
   exact Nw (by simpa using hi) h (λk dg=>by have:=hk (k+1) (by omega); simpa using this)
theorem L2 {α:Type} {f:α→Int}:∀(a b:List α),wg f (a++b)=if wg f a=0 then wg f b else wg f a
 | [],b=>by simp[wg]
 | x :: a, b => by
   simp only[ba,wg,L2 a b]
   by_cases h:f x=0
   ·simp[h]
   ·simp[h]
def wd (a b:Int):Int:=if a=0 then b else a
@[simp] theorem yX (b:Int):wd 0 b=b:=rfl
theorem AP {a b:Int} (h:a≠0):wd a b=a:=ae h
theorem zp {a b:Int}:wd a b=0↔a=0∧b=0:=by unfold wd; split<;>simp_all
def need (b:Bool) (e:Int):Int:=if b then 0 else e
@[simp] theorem c8H (e:Int):need true e=0:=rfl
@[simp] theorem Fa (e:Int):need false e=e:=rfl
def CW (b:Int):Bool:=decide (97≤b∧b≤122∨65≤b∧b≤90)
def E2 (b:Int):Bool:=decide (48≤b∧b≤57)
def Cp (b:Int):Bool:=CW b||E2 b||decide (b=95)
def NN:List Str:=[[97,115,115,117,109,101],[97,110,100],[97,117,116,111,109,97,116,111,110],[98,111,111,108],[99,111,110,116,105,110,117,101],[100,111],[100,111,110,101],[101,108,115,101],[101,110,100],[101,110,115,117,114,101],[101,118,101,114,121],[102,97,108,115,101],[102,98,121],[105,102],[105,110,116],[108,101,116],[109,101,114,103,101],[109,111,100],[110,111,100,101],[110,111,116],[111,114],[112,114,101],[114,101,116,117,114,110,115],[115,116,97,116,101],[116,101,108],[116,104,101,110],[116,114,117,101],[116,121,112,101],[117,110,108,101,115,115],[117,110,116,105,108],[118,97,114],[119,104,101,110],[120,111,114]]
def GL (s:Str):Bool:=decide (s∈NN)
def Av (s:Str):Bool:=decide (s≠[]∧s.length≤40)&&CW (s.headD 0).toNat&&s.all (λb=>Cp b.toNat) && !GL s
def BD (en:List Enum) (t:Int):Option Enum:=if 3≤t then en[(t - 3).toNat]? else none
theorem c0A {en:List Enum} {t:Int} (h:t<3):BD en t=none:=by unfold BD; rw[ae (by omega)]
theorem c0B {en:List Enum} {k:Nat} (h:k<en.length):BD en (k+3)=some en[k]:=by unfold BD; rw[ah (by omega)]; simp[show (k:Int)+3 - 3=k by omega,h]
theorem b86 {en:List Enum} {k:Nat} (h:en.length≤k):BD en (k+3)=none:=by unfold BD; rw[ah (by omega)]; simp[show (k:Int)+3 - 3=k by omega,h]
theorem c2h (t:Int):t<3∨∃k:Nat,t=k+3:=by
 by_cases h:t<3
 ·exact .inl h
 ·exact .inr ⟨(t - 3).toNat,by omega⟩
def xU (en:List Enum) (t:Int):Nat:=if t=1 then 2 else if t=2 then 65536 else((BD en t).map (·.tags.length)).getD 0
def BX (en:List Enum) (t v:Int):Bool:=if t=2 then decide (-32768≤v∧v≤32767) else decide (0≤v∧v<xU en t)
mutual
def Expr.list:Expr→List Expr
 | .mk k o t v n as => .mk k o t v n as::Ff as
def Ff:List Expr→List Expr
 | []=>[]
 | x::xs=>x.list++Ff xs
end
theorem Oz:∀l:List Expr,Ff l=l.flatMap Expr.list
 | []=>by simp[Ff]
 | x::xs=>by simp[Ff,Oz xs]
theorem Expr.list_eq (e:Expr):e.list=e::e.args.flatMap Expr.list:=by cases e; simp[Expr.list,Oz]
abbrev wrap (n:Int):Int:=IntKind.i64.wrap n
def Expr.size (e:Expr):Int:=wrap e.list.length
mutual
def Expr.depth:Expr→Int
 | .mk k o t v n as=>wrap (Fg 0 as+1)
def Fg (m:Int):List Expr→Int
 | []=>m
 | x::xs=>Fg (if x.depth>m then x.depth else m) xs
end
theorem OA:∀(l:List Expr) (m:Int),Fg m l=l.foldl (λm x=>if x.depth>m then x.depth else m) m
 | [],m=>by simp[Fg]
 | x::xs,m=>by simp[Fg,OA xs]
theorem Expr.depth_eq (e:Expr):e.depth=wrap (e.args.foldl (λm x=>if x.depth>m then x.depth else m) 0+1):=by cases e; simp[Expr.depth,OA]
theorem Expr.ind {P:Expr→Prop} (h:∀e:Expr,(∀x∈e.args,P x)→P e):∀e,P e:=by
 intro e
 refine Expr.rec (motive_1:=P) (motive_2:=λl=>∀x∈l,P x) ?_ ?_ ?_ e
 ·intro k o t v n as ih; exact h _ ih
 ·simp
 ·intro x xs h1 h2 y hy
  rcases az.1 hy with rfl|hy
  ·exact h1
  ·exact h2 y hy
def x9 (b:UInt8):Bool:=b==48||b==49
def Al (s:Str) (at':Nat):Str:=(s.drop at').takeWhile x9
def CX (s:Str):Bool:=
 let n:=(Al s 0).length
 let m:=(Al s (n+1)).length
 decide (s.length≤66∧s[n]? = some 40∧n+m+2=s.length∧s[n+m+1]? = some 41∧m≠0∧n+m≤64)
def xV (k:Int):Bool:=decide (k=2∨k=8∨k=9∨k=10)
def BA (t v:Int):Bool:=decide (t=1∧(v=0∨v=1)∨3≤t∧0≤v∧v<16)
def JX (e:Expr):Bool:=
 let n:Int:=e.args.length
 if e.kind=1∨e.kind=2∨e.kind=11 then decide (n=0)
 else if e.kind=3 then decide (n=if e.op=1∨e.op=2 then 1 else 2)
 else if e.kind=4 then decide (n=3)
 else if e.kind=5∨e.kind=8 then decide (n=1)
 else if e.kind=6∨e.kind=7 then decide (n=2)
 else if e.kind=9 then(if e.t=1 then decide (n=2) else decide (3≤e.t∧1≤n∧n≤16))
 else decide (e.kind=10∧(e.v=0∨e.v=1∧1≤n))
def JY (e:Expr):Bool:=
 if e.kind=1 then(if e.t=2 then decide (-32768≤e.v∧e.v≤32767) else BA e.t e.v)
 else if e.kind=8 then BA e.t e.v
 else if e.kind=9 then decide ((e.t=1∨3≤e.t)∧e.v=0)
 else if e.kind=10 then decide (e.t=0∧(e.v=0∨e.v=1))
 else decide (e.t=0∧e.v=0)
def E3 (e:Expr):Bool:=if e.kind=3 then decide (1≤e.op∧e.op≤16) else decide (e.op=0)
def JW (e:Expr):Bool:=xV e.kind||(if e.kind=11 then CX e.name else decide (e.name=[]))
def GO (e:Expr):Bool:=decide (1≤e.kind∧e.kind≤11)&&JX e&&JY e&&E3 e&&JW e
def BB (e:Expr):Int:=wd (need (decide (e.args.length≤64)) 3) (wd (need (GO e) 5) (need (!xV e.kind||Av e.name) 6))
def E5 (e:Expr):Int:=wd (need (decide (e.size≤400∧e.depth≤32)) 3) (wg BB e.list)
def CZ (e:Expr):Bool:=e.list.all λx => !decide (x.kind=5∨x.kind=6∨x.kind=7∨x.kind=10∨x.kind=11)
def AO (en:List Enum) (e:Expr):Int:=
 if e.kind=1∨e.kind=8 then wd (need (decide (0<xU en e.t)) 10) (need (BX en e.t e.v) 14)
 else if e.kind=9 then wd (need (decide (0<xU en e.t)) 10) (need (decide (e.args.length=xU en e.t)) 9)
 else 0
def Ax (en:List Enum) (e:Expr):Int:=wd (E5 e) (wg (AO en) e.list)
def zz (s:Str):Int:=need (Av s) 6
def Ay (en:List Enum) (o:On):Int:=wd (zz o.name) (need (decide (o.t≠2)&&BX en o.t o.tag) 5)
def yR (en:List Enum) (port:Bool) (d:Decl):Int:=
 wd (zz d.name) (wd (need (decide (0<xU en d.type)) 10) (wd (need (!port||decide (d.clock=[])) 11) (wd (need (decide (d.clock.length≤4)) 3) (wg (Ay en) d.clock))))
def Aj (en:List Enum) (q:Eqn):Int:=
 wd (need (decide (q.left≠[])) 8) (wd (need (decide (q.left.length≤64)) 3) (wd (wg zz q.left) (wd (Ax en q.right) (need (decide (q.left.length=1∨q.right.kind=10)) 5))))
def C2 (en:List Enum) (n:Nat) (strong:Bool) (t:Trn):Int:=
 wd (need (decide (0≤t.to∧t.to<n)) 14) (wd (Ax en t.cond) (need (!strong||CZ t.cond) 5))
def GR (en:List Enum) (n:Nat) (auto:yU→Int) (s:State):Int:=
 wd (zz s.name) (wd (need (decide (s.locals.length≤256∧s.eqs.length≤256∧s.autos.length≤8∧s.unl.length≤4∧s.til.length≤4)) 3)
  (wd (wg (yR en false) s.locals) (wd (wg (Aj en) s.eqs) (wd (wg auto s.autos) (wd (wg (C2 en n true) s.unl) (wg (C2 en n false) s.til))))))
def BE (en:List Enum):Nat→yU→Int
 | 0,_=>3
 | d+1,a=>wd (need (decide (a≠[])) 8) (wd (need (decide (a.length≤8)) 3) (wg (GR en a.length (BE en d)) a))
def C1 (u:Enum):Int:=wd (zz u.name) (wd (need (decide (u.tags≠[])) 8) (wd (need (decide (u.tags.length≤16)) 3) (wg zz u.tags)))
def zo (en:List Enum) (n:Node):Int:=
 wd (zz n.name) (wd (need (decide (n.ins.length≤64∧n.outs.length≤64∧n.locals.length≤256∧n.eqs.length≤256∧n.autos.length≤8∧n.assume.length≤8∧n.ensure.length≤8)) 3)
  (wd (need (decide (n.outs≠[])) 8) (wd (wg (yR en true) n.ins) (wd (wg (yR en true) n.outs) (wg (yR en false) n.locals)))))
def Ak (en:List Enum) (n:Node):Int:=wd (wg (BE en 3) n.autos) (wd (wg (Ax en) n.assume) (wg (Ax en) n.ensure))
structure Bad where
 node:Int
 eq:Int
 err:Int
 deriving DecidableEq,Inhabited
def Ew:Bad:=⟨0,0,0⟩
def zY {α:Type} (f:α→Int):List α→Nat→Option (Nat×Int)
 | [],_=>none
 | x::xs,i=>if f x=0 then zY f xs (i+1) else some (i,f x)
def yz (en:List Enum) (n:Node) (i:Nat):Option Bad:=
 if zo en n≠0 then some ⟨i,-1,zo en n⟩
 else match zY (Aj en) n.eqs 0 with
  | some (k,e)=>some ⟨i,k,e⟩
  | none=>if Ak en n≠0 then some ⟨i,-1,Ak en n⟩ else none
def zK (en:List Enum):List Node→Nat→Option Bad
 | [],_=>none
 | n :: ns, i => match yz en n i with
   | some b=>some b
   | none=>zK en ns (i+1)
def AJ (p:Prog):Option Bad:=
 if ¬(p.enums.length≤24∧p.nodes.length≤96) then some ⟨-1,-1,3⟩
 else if wg C1 p.enums≠0 then some ⟨-1,-1,wg C1 p.enums⟩
 else zK p.enums p.nodes 0
def zH (b:Option Bad):Bad:=b.getD Ew
end PI.Sc
