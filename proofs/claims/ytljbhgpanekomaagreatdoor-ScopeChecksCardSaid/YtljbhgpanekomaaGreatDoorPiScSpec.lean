import Derived.Test.YtljbhgpanekomaaGreatDoorPiScData
set_option linter.unusedSimpArgs false
set_option linter.unusedVariables false
namespace PI.Sc
open Go (IntKind BinOp UnOp)
abbrev Ax (n:Int):Prop := -9223372036854775808≤n∧n≤9223372036854775807
def wA {α:Type} (f:α→Int):List α→Int
 | []=>0
 | x::xs=>if f x=0 then wA f xs else f x
theorem A2 {α:Type} {f:α→Int}:∀{l:List α},wA f l=0↔∀x∈l,f x=0
 | []=>by simp[wA]
 | x :: xs => by
   unfold wA
   by_cases h:f x=0
   ·simp[h,A2 (l:=xs)]
   ·simp[h]
theorem O4 {α:Type} {f:α→Int}:∀{l:List α} {i:Nat} (hi:i<l.length),f l[i]≠0→(∀k (hk:k<i),f (l[k]'(by omega))=0)→wA f l=f l[i]
 | [],i,hi,_,_=>by simp at hi
 | x::xs,0,hi,h,_=>by simp only[bq] at h; simp[wA,h]
 | x :: xs, i + 1, hi, h, hk => by
   have h0:=hk 0 (by omega)
   simp only[bq] at h0
   simp only[cm] at h
   simp only[wA,h0,if_true,cm]
   exact O4 (by simpa using hi) h (λk dh=>by have:=hk (k+1) (by omega); simpa using this)
theorem Ju {α:Type} {f:α→Int}:∀(a b:List α),wA f (a++b)=if wA f a=0 then wA f b else wA f a
 | [],b=>by simp[wA]
 | x :: a, b => by
   simp only[aW,wA,Ju a b]
   by_cases h:f x=0
   ·simp[h]
   ·simp[h]
def ww (a b:Int):Int:=if a=0 then b else a
@[simp] theorem yP (b:Int):ww 0 b=b:=rfl
theorem Bv {a b:Int} (h:a≠0):ww a b=a:=af h
theorem zx {a b:Int}:ww a b=0↔a=0∧b=0:=by unfold ww; split<;>simp_all
def need (b:Bool) (e:Int):Int:=if b then 0 else e
@[simp] theorem d0A (e:Int):need true e=0:=rfl
@[simp] theorem F7 (e:Int):need false e=e:=rfl
def Bq (b:Int):Bool:=decide (97≤b∧b≤122∨65≤b∧b≤90)
def CG (b:Int):Bool:=decide (48≤b∧b≤57)
def AK (b:Int):Bool:=Bq b||CG b||decide (b=95)
def DJ:List Str:=[[97,115,115,117,109,101],[97,110,100],[97,117,116,111,109,97,116,111,110],[98,111,111,108],[99,111,110,116,105,110,117,101],[100,111],[100,111,110,101],[101,108,115,101],[101,110,100],[101,110,115,117,114,101],[101,118,101,114,121],[102,97,108,115,101],[102,98,121],[105,102],[105,110,116],[108,101,116],[109,101,114,103,101],[109,111,100],[110,111,100,101],[110,111,116],[111,114],[112,114,101],[114,101,116,117,114,110,115],[115,116,97,116,101],[116,101,108],[116,104,101,110],[116,114,117,101],[116,121,112,101],[117,110,108,101,115,115],[117,110,116,105,108],[118,97,114],[119,104,101,110],[120,111,114]]
def Co (s:Str):Bool:=decide (s∈DJ)
def yo (s:Str):Bool:=decide (s≠[]∧s.length≤40)&&Bq (s.headD 0).toNat&&s.all (λb=>AK b.toNat) && !Co s
def Cr (en:List Enum) (t:Int):Option Enum:=if 3≤t then en[(t - 3).toNat]? else none
theorem PG {en:List Enum} {t:Int} (h:t<3):Cr en t=none:=by unfold Cr; rw[af (by omega)]
theorem PH {en:List Enum} {k:Nat} (h:k<en.length):Cr en (k+3)=some en[k]:=by unfold Cr; rw[ah (by omega)]; simp[show (k:Int)+3 - 3=k by omega,h]
theorem PJ {en:List Enum} {k:Nat} (h:en.length≤k):Cr en (k+3)=none:=by unfold Cr; rw[ah (by omega)]; simp[show (k:Int)+3 - 3=k by omega,h]
theorem PE (t:Int):t<3∨∃k:Nat,t=k+3:=by
 by_cases h:t<3
 ·exact .inl h
 ·exact .inr ⟨(t - 3).toNat,by omega⟩
def xE (en:List Enum) (t:Int):Nat:=if t=1 then 2 else if t=2 then 65536 else((Cr en t).map (·.tags.length)).getD 0
def AA (en:List Enum) (t v:Int):Bool:=if t=2 then decide (-32768≤v∧v≤32767) else decide (0≤v∧v<xE en t)
mutual
def Expr.list:Expr→List Expr
 | .mk k o t v n as => .mk k o t v n as::Ge as
def Ge:List Expr→List Expr
 | []=>[]
 | x::xs=>x.list++Ge xs
end
theorem Qi:∀l:List Expr,Ge l=l.flatMap Expr.list
 | []=>by simp[Ge]
 | x::xs=>by simp[Ge,Qi xs]
theorem Expr.list_eq (e:Expr):e.list=e::e.args.flatMap Expr.list:=by cases e; simp[Expr.list,Qi]
abbrev wrap (n:Int):Int:=IntKind.i64.wrap n
def Expr.size (e:Expr):Int:=wrap e.list.length
mutual
def Expr.depth:Expr→Int
 | .mk k o t v n as=>wrap (Gf 0 as+1)
def Gf (m:Int):List Expr→Int
 | []=>m
 | x::xs=>Gf (if x.depth>m then x.depth else m) xs
end
theorem Qj:∀(l:List Expr) (m:Int),Gf m l=l.foldl (λm x=>if x.depth>m then x.depth else m) m
 | [],m=>by simp[Gf]
 | x::xs,m=>by simp[Gf,Qj xs]
theorem Expr.depth_eq (e:Expr):e.depth=wrap (e.args.foldl (λm x=>if x.depth>m then x.depth else m) 0+1):=by cases e; simp[Expr.depth,Qj]
theorem Expr.ind {P:Expr→Prop} (h:∀e:Expr,(∀x∈e.args,P x)→P e):∀e,P e:=by
 intro e
 refine Expr.rec (motive_1:=P) (motive_2:=λl=>∀x∈l,P x) ?_ ?_ ?_ e
 ·intro k o t v n as ih; exact h _ ih
 ·simp
 ·intro x xs h1 h2 y hy
  rcases aA.1 hy with rfl|hy
  ·exact h1
  ·exact h2 y hy
def yz (b:UInt8):Bool:=b==48||b==49
def xm (s:Str) (at':Nat):Str:=(s.drop at').takeWhile yz
def A9 (s:Str):Bool:=
 let n:=(xm s 0).length
 let m:=(xm s (n+1)).length
 decide (s.length≤66∧s[n]? = some 40∧n+m+2=s.length∧s[n+m+1]? = some 41∧m≠0∧n+m≤64)
def xr (k:Int):Bool:=decide (k=2∨k=8∨k=9∨k=10)
def AM (t v:Int):Bool:=decide (t=1∧(v=0∨v=1)∨3≤t∧0≤v∧v<16)
def yN (e:Expr):Bool:=
 let n:Int:=e.args.length
 if e.kind=1∨e.kind=2∨e.kind=11 then decide (n=0)
 else if e.kind=3 then decide (n=if e.op=1∨e.op=2 then 1 else 2)
 else if e.kind=4 then decide (n=3)
 else if e.kind=5∨e.kind=8 then decide (n=1)
 else if e.kind=6∨e.kind=7 then decide (n=2)
 else if e.kind=9 then(if e.t=1 then decide (n=2) else decide (3≤e.t∧1≤n∧n≤16))
 else decide (e.kind=10∧(e.v=0∨e.v=1∧1≤n))
def xD (e:Expr):Bool:=
 if e.kind=1 then(if e.t=2 then decide (-32768≤e.v∧e.v≤32767) else AM e.t e.v)
 else if e.kind=8 then AM e.t e.v
 else if e.kind=9 then decide ((e.t=1∨3≤e.t)∧e.v=0)
 else if e.kind=10 then decide (e.t=0∧(e.v=0∨e.v=1))
 else decide (e.t=0∧e.v=0)
def xy (e:Expr):Bool:=if e.kind=3 then decide (1≤e.op∧e.op≤16) else decide (e.op=0)
def xC (e:Expr):Bool:=xr e.kind||(if e.kind=11 then A9 e.name else decide (e.name=[]))
def wO (e:Expr):Bool:=decide (1≤e.kind∧e.kind≤11)&&yN e&&xD e&&xy e&&xC e
def Az (e:Expr):Int:=ww (need (decide (e.args.length≤64)) 3) (ww (need (wO e) 5) (need (!xr e.kind||yo e.name) 6))
def C7 (e:Expr):Int:=ww (need (decide (e.size≤400∧e.depth≤32)) 3) (wA Az e.list)
def Bt (e:Expr):Bool:=e.list.all λx => !decide (x.kind=5∨x.kind=6∨x.kind=7∨x.kind=10∨x.kind=11)
def yr (en:List Enum) (e:Expr):Int:=
 if e.kind=1∨e.kind=8 then ww (need (decide (0<xE en e.t)) 10) (need (AA en e.t e.v) 14)
 else if e.kind=9 then ww (need (decide (0<xE en e.t)) 10) (need (decide (e.args.length=xE en e.t)) 9)
 else 0
def zG (en:List Enum) (e:Expr):Int:=ww (C7 e) (wA (yr en) e.list)
def xU (s:Str):Int:=need (yo s) 6
def Af (en:List Enum) (o:On):Int:=ww (xU o.name) (need (decide (o.t≠2)&&AA en o.t o.tag) 5)
def yx (en:List Enum) (port:Bool) (d:Decl):Int:=
 ww (xU d.name) (ww (need (decide (0<xE en d.type)) 10) (ww (need (!port||decide (d.clock=[])) 11) (ww (need (decide (d.clock.length≤4)) 3) (wA (Af en) d.clock))))
def zr (en:List Enum) (q:Eqn):Int:=
 ww (need (decide (q.left≠[])) 8) (ww (need (decide (q.left.length≤64)) 3) (ww (wA xU q.left) (ww (zG en q.right) (need (decide (q.left.length=1∨q.right.kind=10)) 5))))
def Ba (en:List Enum) (n:Nat) (strong:Bool) (t:Trn):Int:=
 ww (need (decide (0≤t.to∧t.to<n)) 14) (ww (zG en t.cond) (need (!strong||Bt t.cond) 5))
def C8 (en:List Enum) (n:Nat) (auto:zq→Int) (s:State):Int:=
 ww (xU s.name) (ww (need (decide (s.locals.length≤256∧s.eqs.length≤256∧s.autos.length≤8∧s.unl.length≤4∧s.til.length≤4)) 3)
  (ww (wA (yx en false) s.locals) (ww (wA (zr en) s.eqs) (ww (wA auto s.autos) (ww (wA (Ba en n true) s.unl) (wA (Ba en n false) s.til))))))
def zI (en:List Enum):Nat→zq→Int
 | 0,_=>3
 | d+1,a=>ww (need (decide (a≠[])) 8) (ww (need (decide (a.length≤8)) 3) (wA (C8 en a.length (zI en d)) a))
def BW (u:Enum):Int:=ww (xU u.name) (ww (need (decide (u.tags≠[])) 8) (ww (need (decide (u.tags.length≤16)) 3) (wA xU u.tags)))
def zD (en:List Enum) (n:Node):Int:=
 ww (xU n.name) (ww (need (decide (n.ins.length≤64∧n.outs.length≤64∧n.locals.length≤256∧n.eqs.length≤256∧n.autos.length≤8∧n.assume.length≤8∧n.ensure.length≤8)) 3)
  (ww (need (decide (n.outs≠[])) 8) (ww (wA (yx en true) n.ins) (ww (wA (yx en true) n.outs) (wA (yx en false) n.locals)))))
def Aq (en:List Enum) (n:Node):Int:=ww (wA (zI en 3) n.autos) (ww (wA (zG en) n.assume) (wA (zG en) n.ensure))
structure Bad where
 node:Int
 eq:Int
 err:Int
 deriving DecidableEq,Inhabited
def Dw:Bad:=⟨0,0,0⟩
def Av {α:Type} (f:α→Int):List α→Nat→Option (Nat×Int)
 | [],_=>none
 | x::xs,i=>if f x=0 then Av f xs (i+1) else some (i,f x)
def zc (en:List Enum) (n:Node) (i:Nat):Option Bad:=
 if zD en n≠0 then some ⟨i,-1,zD en n⟩
 else match Av (zr en) n.eqs 0 with
  | some (k,e)=>some ⟨i,k,e⟩
  | none=>if Aq en n≠0 then some ⟨i,-1,Aq en n⟩ else none
def Am (en:List Enum):List Node→Nat→Option Bad
 | [],_=>none
 | n :: ns, i => match zc en n i with
   | some b=>some b
   | none=>Am en ns (i+1)
def A4 (p:Prog):Option Bad:=
 if ¬(p.enums.length≤24∧p.nodes.length≤96) then some ⟨-1,-1,3⟩
 else if wA BW p.enums≠0 then some ⟨-1,-1,wA BW p.enums⟩
 else Am p.enums p.nodes 0
def yy (b:Option Bad):Bad:=b.getD Dw
end PI.Sc
