import Derived.Test.YtljbhgpanekomaaGreatDoorPiScData
set_option linter.unusedSimpArgs false
set_option linter.unusedVariables false
namespace PI.Sc
open Go (IntKind BinOp UnOp)
abbrev Al (n:Int):Prop := -9223372036854775808≤n∧n≤9223372036854775807
def ww {α:Type} (f:α→Int):List α→Int
 | []=>0
 | x::xs=>if f x=0 then ww f xs else f x
theorem zd {α:Type} {f:α→Int}:∀{l:List α},ww f l=0↔∀x∈l,f x=0
 | []=>by simp[ww]
 | x :: xs => by
   unfold ww
   by_cases h:f x=0
   ·simp[h,zd (l:=xs)]
   ·simp[h]
theorem OA {α:Type} {f:α→Int}:∀{l:List α} {i:Nat} (hi:i<l.length),f l[i]≠0→(∀k (hk:k<i),f (l[k]'(by omega))=0)→ww f l=f l[i]
 | [],i,hi,_,_=>by simp at hi
 | x::xs,0,hi,h,_=>by simp only[bO] at h; simp[ww,h]
 | x :: xs, i + 1, hi, h, hk => by
   have h0:=hk 0 (by omega)
   simp only[bO] at h0
   simp only[co] at h
   simp only[ww,h0,if_true,co]
   exact OA (by simpa using hi) h (λk dh=>by have:=hk (k+1) (by omega); simpa using this)
theorem I3 {α:Type} {f:α→Int}:∀(a b:List α),ww f (a++b)=if ww f a=0 then ww f b else ww f a
 | [],b=>by simp[ww]
 | x :: a, b => by
   simp only[aJ,ww,I3 a b]
   by_cases h:f x=0
   ·simp[h]
   ·simp[h]
def wx (a b:Int):Int:=if a=0 then b else a
@[simp] theorem zw (b:Int):wx 0 b=b:=rfl
theorem A9 {a b:Int} (h:a≠0):wx a b=a:=af h
theorem yK {a b:Int}:wx a b=0↔a=0∧b=0:=by unfold wx; split<;>simp_all
def need (b:Bool) (e:Int):Int:=if b then 0 else e
@[simp] theorem c9g (e:Int):need true e=0:=rfl
@[simp] theorem FG (e:Int):need false e=e:=rfl
def Cn (b:Int):Bool:=decide (97≤b∧b≤122∨65≤b∧b≤90)
def Ef (b:Int):Bool:=decide (48≤b∧b≤57)
def Co (b:Int):Bool:=Cn b||Ef b||decide (b=95)
def Kj:List Str:=[[97,115,115,117,109,101],[97,110,100],[97,117,116,111,109,97,116,111,110],[98,111,111,108],[99,111,110,116,105,110,117,101],[100,111],[100,111,110,101],[101,108,115,101],[101,110,100],[101,110,115,117,114,101],[101,118,101,114,121],[102,97,108,115,101],[102,98,121],[105,102],[105,110,116],[108,101,116],[109,101,114,103,101],[109,111,100],[110,111,100,101],[110,111,116],[111,114],[112,114,101],[114,101,116,117,114,110,115],[115,116,97,116,101],[116,101,108],[116,104,101,110],[116,114,117,101],[116,121,112,101],[117,110,108,101,115,115],[117,110,116,105,108],[118,97,114],[119,104,101,110],[120,111,114]]
def Fw (s:Str):Bool:=decide (s∈Kj)
def zf (s:Str):Bool:=decide (s≠[]∧s.length≤40)&&Cn (s.headD 0).toNat&&s.all (λb=>Co b.toNat) && !Fw s
def B4 (en:List Enum) (t:Int):Option Enum:=if 3≤t then en[(t - 3).toNat]? else none
theorem c1b {en:List Enum} {t:Int} (h:t<3):B4 en t=none:=by unfold B4; rw[af (by omega)]
theorem c1c {en:List Enum} {k:Nat} (h:k<en.length):B4 en (k+3)=some en[k]:=by unfold B4; rw[ah (by omega)]; simp[show (k:Int)+3 - 3=k by omega,h]
theorem b9z {en:List Enum} {k:Nat} (h:en.length≤k):B4 en (k+3)=none:=by unfold B4; rw[ah (by omega)]; simp[show (k:Int)+3 - 3=k by omega,h]
theorem c2O (t:Int):t<3∨∃k:Nat,t=k+3:=by
 by_cases h:t<3
 ·exact .inl h
 ·exact .inr ⟨(t - 3).toNat,by omega⟩
def xZ (en:List Enum) (t:Int):Nat:=if t=1 then 2 else if t=2 then 65536 else((B4 en t).map (·.tags.length)).getD 0
def BZ (en:List Enum) (t v:Int):Bool:=if t=2 then decide (-32768≤v∧v≤32767) else decide (0≤v∧v<xZ en t)
mutual
def Expr.list:Expr→List Expr
 | .mk k o t v n as => .mk k o t v n as::Dg as
def Dg:List Expr→List Expr
 | []=>[]
 | x::xs=>x.list++Dg xs
end
theorem Pn:∀l:List Expr,Dg l=l.flatMap Expr.list
 | []=>by simp[Dg]
 | x::xs=>by simp[Dg,Pn xs]
theorem Expr.list_eq (e:Expr):e.list=e::e.args.flatMap Expr.list:=by cases e; simp[Expr.list,Pn]
abbrev wrap (n:Int):Int:=IntKind.i64.wrap n
def Expr.size (e:Expr):Int:=wrap e.list.length
mutual
def Expr.depth:Expr→Int
 | .mk k o t v n as=>wrap (Eh 0 as+1)
def Eh (m:Int):List Expr→Int
 | []=>m
 | x::xs=>Eh (if x.depth>m then x.depth else m) xs
end
theorem Po:∀(l:List Expr) (m:Int),Eh m l=l.foldl (λm x=>if x.depth>m then x.depth else m) m
 | [],m=>by simp[Eh]
 | x::xs,m=>by simp[Eh,Po xs]
theorem Expr.depth_eq (e:Expr):e.depth=wrap (e.args.foldl (λm x=>if x.depth>m then x.depth else m) 0+1):=by cases e; simp[Expr.depth,Po]
theorem Expr.ind {P:Expr→Prop} (h:∀e:Expr,(∀x∈e.args,P x)→P e):∀e,P e:=by
 intro e
 refine Expr.rec (motive_1:=P) (motive_2:=λl=>∀x∈l,P x) ?_ ?_ ?_ e
 ·intro k o t v n as ih; exact h _ ih
 ·simp
 ·intro x xs h1 h2 y hy
  rcases ay.1 hy with rfl|hy
  ·exact h1
  ·exact h2 y hy
def yA (b:UInt8):Bool:=b==48||b==49
def AB (s:Str) (at':Nat):Str:=(s.drop at').takeWhile yA
def Dn (s:Str):Bool:=
 let n:=(AB s 0).length
 let m:=(AB s (n+1)).length
 decide (s.length≤66∧s[n]? = some 40∧n+m+2=s.length∧s[n+m+1]? = some 41∧m≠0∧n+m≤64)
def yj (k:Int):Bool:=decide (k=2∨k=8∨k=9∨k=10)
def Bw (t v:Int):Bool:=decide (t=1∧(v=0∨v=1)∨3≤t∧0≤v∧v<16)
def Hj (e:Expr):Bool:=
 let n:Int:=e.args.length
 if e.kind=1∨e.kind=2∨e.kind=11 then decide (n=0)
 else if e.kind=3 then decide (n=if e.op=1∨e.op=2 then 1 else 2)
 else if e.kind=4 then decide (n=3)
 else if e.kind=5∨e.kind=8 then decide (n=1)
 else if e.kind=6∨e.kind=7 then decide (n=2)
 else if e.kind=9 then(if e.t=1 then decide (n=2) else decide (3≤e.t∧1≤n∧n≤16))
 else decide (e.kind=10∧(e.v=0∨e.v=1∧1≤n))
def Hk (e:Expr):Bool:=
 if e.kind=1 then(if e.t=2 then decide (-32768≤e.v∧e.v≤32767) else Bw e.t e.v)
 else if e.kind=8 then Bw e.t e.v
 else if e.kind=9 then decide ((e.t=1∨3≤e.t)∧e.v=0)
 else if e.kind=10 then decide (e.t=0∧(e.v=0∨e.v=1))
 else decide (e.t=0∧e.v=0)
def Ei (e:Expr):Bool:=if e.kind=3 then decide (1≤e.op∧e.op≤16) else decide (e.op=0)
def Hm (e:Expr):Bool:=yj e.kind||(if e.kind=11 then Dn e.name else decide (e.name=[]))
def Fy (e:Expr):Bool:=decide (1≤e.kind∧e.kind≤11)&&Hj e&&Hk e&&Ei e&&Hm e
def Bv (e:Expr):Int:=wx (need (decide (e.args.length≤64)) 3) (wx (need (Fy e) 5) (need (!yj e.kind||zf e.name) 6))
def Dl (e:Expr):Int:=wx (need (decide (e.size≤400∧e.depth≤32)) 3) (ww Bv e.list)
def Dp (e:Expr):Bool:=e.list.all λx => !decide (x.kind=5∨x.kind=6∨x.kind=7∨x.kind=10∨x.kind=11)
def AO (en:List Enum) (e:Expr):Int:=
 if e.kind=1∨e.kind=8 then wx (need (decide (0<xZ en e.t)) 10) (need (BZ en e.t e.v) 14)
 else if e.kind=9 then wx (need (decide (0<xZ en e.t)) 10) (need (decide (e.args.length=xZ en e.t)) 9)
 else 0
def Aq (en:List Enum) (e:Expr):Int:=wx (Dl e) (ww (AO en) e.list)
def zu (s:Str):Int:=need (zf s) 6
def AP (en:List Enum) (o:On):Int:=wx (zu o.name) (need (decide (o.t≠2)&&BZ en o.t o.tag) 5)
def yQ (en:List Enum) (port:Bool) (d:Decl):Int:=
 wx (zu d.name) (wx (need (decide (0<xZ en d.type)) 10) (wx (need (!port||decide (d.clock=[])) 11) (wx (need (decide (d.clock.length≤4)) 3) (ww (AP en) d.clock))))
def Aa (en:List Enum) (q:Eqn):Int:=
 wx (need (decide (q.left≠[])) 8) (wx (need (decide (q.left.length≤64)) 3) (wx (ww zu q.left) (wx (Aq en q.right) (need (decide (q.left.length=1∨q.right.kind=10)) 5))))
def Ds (en:List Enum) (n:Nat) (strong:Bool) (t:Trn):Int:=
 wx (need (decide (0≤t.to∧t.to<n)) 14) (wx (Aq en t.cond) (need (!strong||Dp t.cond) 5))
def Hw (en:List Enum) (n:Nat) (auto:zt→Int) (s:State):Int:=
 wx (zu s.name) (wx (need (decide (s.locals.length≤256∧s.eqs.length≤256∧s.autos.length≤8∧s.unl.length≤4∧s.til.length≤4)) 3)
  (wx (ww (yQ en false) s.locals) (wx (ww (Aa en) s.eqs) (wx (ww auto s.autos) (wx (ww (Ds en n true) s.unl) (ww (Ds en n false) s.til))))))
def B5 (en:List Enum):Nat→zt→Int
 | 0,_=>3
 | d+1,a=>wx (need (decide (a≠[])) 8) (wx (need (decide (a.length≤8)) 3) (ww (Hw en a.length (B5 en d)) a))
def Dr (u:Enum):Int:=wx (zu u.name) (wx (need (decide (u.tags≠[])) 8) (wx (need (decide (u.tags.length≤16)) 3) (ww zu u.tags)))
def zB (en:List Enum) (n:Node):Int:=
 wx (zu n.name) (wx (need (decide (n.ins.length≤64∧n.outs.length≤64∧n.locals.length≤256∧n.eqs.length≤256∧n.autos.length≤8∧n.assume.length≤8∧n.ensure.length≤8)) 3)
  (wx (need (decide (n.outs≠[])) 8) (wx (ww (yQ en true) n.ins) (wx (ww (yQ en true) n.outs) (ww (yQ en false) n.locals)))))
def AA (en:List Enum) (n:Node):Int:=wx (ww (B5 en 3) n.autos) (wx (ww (Aq en) n.assume) (ww (Aq en) n.ensure))
structure Bad where
 node:Int
 eq:Int
 err:Int
 deriving DecidableEq,Inhabited
def DZ:Bad:=⟨0,0,0⟩
def Ap {α:Type} (f:α→Int):List α→Nat→Option (Nat×Int)
 | [],_=>none
 | x::xs,i=>if f x=0 then Ap f xs (i+1) else some (i,f x)
def yT (en:List Enum) (n:Node) (i:Nat):Option Bad:=
 if zB en n≠0 then some ⟨i,-1,zB en n⟩
 else match Ap (Aa en) n.eqs 0 with
  | some (k,e)=>some ⟨i,k,e⟩
  | none=>if AA en n≠0 then some ⟨i,-1,AA en n⟩ else none
def z8 (en:List Enum):List Node→Nat→Option Bad
 | [],_=>none
 | n :: ns, i => match yT en n i with
   | some b=>some b
   | none=>z8 en ns (i+1)
def zV (p:Prog):Option Bad:=
 if ¬(p.enums.length≤24∧p.nodes.length≤96) then some ⟨-1,-1,3⟩
 else if ww Dr p.enums≠0 then some ⟨-1,-1,ww Dr p.enums⟩
 else z8 p.enums p.nodes 0
def zQ (b:Option Bad):Bad:=b.getD DZ
end PI.Sc
