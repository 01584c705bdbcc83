import Derived.Test.YtljbhgpanekomaaGreatPiCaData
import Derived.Lib.ItoaNum
import Derived.Test.YtljbhgpanekomaaGreatPiStand
import Derived.Test.YtljbhgpanekomaaGreatPiCaCode
import Derived.Test.YtljbhgpanekomaaGreatPiWp
set_option linter.unusedSimpArgs false
set_option linter.unusedVariables false
set_option linter.unusedSectionVars false
namespace PI.Sc
open Go (IntKind BinOp UnOp)
abbrev AB (n:Int):Prop := -9223372036854775808≤n∧n≤9223372036854775807
def wr {α:Type} (f:α→Int):List α→Int
 | []=>0
 | x::xs=>if f x=0 then wr f xs else f x
theorem yS {α:Type} {f:α→Int}:∀{l:List α},wr f l=0↔∀x∈l,f x=0
 | []=>by simp[wr]
 | x :: xs => by
   unfold wr
   by_cases h:f x=0
   ·simp[h,yS (l:=xs)]
   ·simp[h]
theorem N9 {α:Type} {f:α→Int}:∀{l:List α} {i:Nat} (hi:i<l.length),f l[i]≠0→(∀k (hk:k<i),f (l[k]'(by omega))=0)→wr f l=f l[i]
 | [],i,hi,_,_=>by simp at hi
 | x::xs,0,hi,h,_=>by simp only[bK] at h; simp[wr,h]
 | x :: xs, i + 1, hi, h, hk => by
   have h0:=hk 0 (by omega)
   simp only[bK] at h0
   simp only[bS] at h
   simp only[wr,h0,if_true,bS]
   exact N9 (by simpa using hi) h (λk dh=>by have:=hk (k+1) (by omega); simpa using this)
theorem Mk {α:Type} {f:α→Int}:∀(a b:List α),wr f (a++b)=if wr f a=0 then wr f b else wr f a
 | [],b=>by simp[wr]
 | x :: a, b => by
   simp only[aL,wr,Mk a b]
   by_cases h:f x=0
   ·simp[h]
   ·simp[h]
def wu (a b:Int):Int:=if a=0 then b else a
@[simp] theorem zF (b:Int):wu 0 b=b:=rfl
theorem Bj {a b:Int} (h:a≠0):wu a b=a:=af h
theorem yy {a b:Int}:wu a b=0↔a=0∧b=0:=by unfold wu; split<;>simp_all
def need (b:Bool) (e:Int):Int:=if b then 0 else e
@[simp] theorem d02 (e:Int):need true e=0:=rfl
@[simp] theorem FQ (e:Int):need false e=e:=rfl
def Dq (b:Int):Bool:=decide (97≤b∧b≤122∨65≤b∧b≤90)
def FF (b:Int):Bool:=decide (48≤b∧b≤57)
def CV (b:Int):Bool:=Dq b||FF b||decide (b=95)
def Ol:List Str:=[[97,115,115,117,109,101],[97,110,100],[97,117,116,111,109,97,116,111,110],[98,111,111,108],[99,111,110,116,105,110,117,101],[100,111],[100,111,110,101],[101,108,115,101],[101,110,100],[101,110,115,117,114,101],[101,118,101,114,121],[102,97,108,115,101],[102,98,121],[105,102],[105,110,116],[108,101,116],[109,101,114,103,101],[109,111,100],[110,111,100,101],[110,111,116],[111,114],[112,114,101],[114,101,116,117,114,110,115],[115,116,97,116,101],[116,101,108],[116,104,101,110],[116,114,117,101],[116,121,112,101],[117,110,108,101,115,115],[117,110,116,105,108],[118,97,114],[119,104,101,110],[120,111,114]]
def Hr (s:Str):Bool:=decide (s∈Ol)
def zY (s:Str):Bool:=decide (s≠[]∧s.length≤40)&&Dq (s.headD 0).toNat&&s.all (λb=>CV b.toNat) && !Hr s
def B6 (en:List Enum) (t:Int):Option Enum:=if 3≤t then en[(t - 3).toNat]? else none
theorem c19 {en:List Enum} {t:Int} (h:t<3):B6 en t=none:=by unfold B6; rw[af (by omega)]
theorem c2a {en:List Enum} {k:Nat} (h:k<en.length):B6 en (k+3)=some en[k]:=by unfold B6; rw[ah (by omega)]; simp[show (k:Int)+3 - 3=k by omega,h]
theorem c0A {en:List Enum} {k:Nat} (h:en.length≤k):B6 en (k+3)=none:=by unfold B6; rw[ah (by omega)]; simp[show (k:Int)+3 - 3=k by omega,h]
theorem c4l (t:Int):t<3∨∃k:Nat,t=k+3:=by
 by_cases h:t<3
 ·exact .inl h
 ·exact .inr ⟨(t - 3).toNat,by omega⟩
def yj (en:List Enum) (t:Int):Nat:=if t=1 then 2 else if t=2 then 65536 else((B6 en t).map (·.tags.length)).getD 0
def Cu (en:List Enum) (t v:Int):Bool:=if t=2 then decide (-32768≤v∧v≤32767) else decide (0≤v∧v<yj en t)
mutual
def Expr.list:Expr→List Expr
 | .mk k o t v n as => .mk k o t v n as::z6 as
def z6:List Expr→List Expr
 | []=>[]
 | x::xs=>x.list++z6 xs
end
theorem HD:∀l:List Expr,z6 l=l.flatMap Expr.list
 | []=>by simp[z6]
 | x::xs=>by simp[z6,HD xs]
theorem Expr.list_eq (e:Expr):e.list=e::e.args.flatMap Expr.list:=by cases e; simp[Expr.list,HD]
abbrev wrap (n:Int):Int:=IntKind.i64.wrap n
def Expr.size (e:Expr):Int:=wrap e.list.length
mutual
def Expr.depth:Expr→Int
 | .mk k o t v n as=>wrap (Dz 0 as+1)
def Dz (m:Int):List Expr→Int
 | []=>m
 | x::xs=>Dz (if x.depth>m then x.depth else m) xs
end
theorem O6:∀(l:List Expr) (m:Int),Dz m l=l.foldl (λm x=>if x.depth>m then x.depth else m) m
 | [],m=>by simp[Dz]
 | x::xs,m=>by simp[Dz,O6 xs]
theorem Expr.depth_eq (e:Expr):e.depth=wrap (e.args.foldl (λm x=>if x.depth>m then x.depth else m) 0+1):=by cases e; simp[Expr.depth,O6]
theorem Expr.ind {P:Expr→Prop} (h:∀e:Expr,(∀x∈e.args,P x)→P e):∀e,P e:=by
 intro e
 refine Expr.rec (motive_1:=P) (motive_2:=λl=>∀x∈l,P x) ?_ ?_ ?_ e
 ·intro k o t v n as ih; exact h _ ih
 ·simp
 ·intro x xs h1 h2 y hy
  rcases aC.1 hy with rfl|hy
  ·exact h1
  ·exact h2 y hy
def yB (b:UInt8):Bool:=b==48||b==49
def AR (s:Str) (at':Nat):Str:=(s.drop at').takeWhile yB
def Dr (s:Str):Bool:=
 let n:=(AR s 0).length
 let m:=(AR s (n+1)).length
 decide (s.length≤66∧s[n]? = some 40∧n+m+2=s.length∧s[n+m+1]? = some 41∧m≠0∧n+m≤64)
def yh (k:Int):Bool:=decide (k=2∨k=8∨k=9∨k=10)
def B4 (t v:Int):Bool:=decide (t=1∧(v=0∨v=1)∨3≤t∧0≤v∧v<16)
def argsOK (e:Expr):Bool:=
 let n:Int:=e.args.length
 if e.kind=1∨e.kind=2∨e.kind=11 then decide (n=0)
 else if e.kind=3 then decide (n=if e.op=1∨e.op=2 then 1 else 2)
 else if e.kind=4 then decide (n=3)
 else if e.kind=5∨e.kind=8 then decide (n=1)
 else if e.kind=6∨e.kind=7 then decide (n=2)
 else if e.kind=9 then(if e.t=1 then decide (n=2) else decide (3≤e.t∧1≤n∧n≤16))
 else decide (e.kind=10∧(e.v=0∨e.v=1∧1≤n))
def typedOK (e:Expr):Bool:=
 if e.kind=1 then(if e.t=2 then decide (-32768≤e.v∧e.v≤32767) else B4 e.t e.v)
 else if e.kind=8 then B4 e.t e.v
 else if e.kind=9 then decide ((e.t=1∨3≤e.t)∧e.v=0)
 else if e.kind=10 then decide (e.t=0∧(e.v=0∨e.v=1))
 else decide (e.t=0∧e.v=0)
def Ds (e:Expr):Bool:=if e.kind=3 then decide (1≤e.op∧e.op≤16) else decide (e.op=0)
def FG (e:Expr):Bool:=yh e.kind||(if e.kind=11 then Dr e.name else decide (e.name=[]))
def Ed (e:Expr):Bool:=decide (1≤e.kind∧e.kind≤11)&&argsOK e&&typedOK e&&Ds e&&FG e
def AC (e:Expr):Int:=wu (need (decide (e.args.length≤64)) 3) (wu (need (Ed e) 5) (need (!yh e.kind||zY e.name) 6))
def Cr (e:Expr):Int:=wu (need (decide (e.size≤400∧e.depth≤32)) 3) (wr AC e.list)
def Du (e:Expr):Bool:=e.list.all λx => !decide (x.kind=5∨x.kind=6∨x.kind=7∨x.kind=10∨x.kind=11)
def Af (en:List Enum) (e:Expr):Int:=
 if e.kind=1∨e.kind=8 then wu (need (decide (0<yj en e.t)) 10) (need (Cu en e.t e.v) 14)
 else if e.kind=9 then wu (need (decide (0<yj en e.t)) 10) (need (decide (e.args.length=yj en e.t)) 9)
 else 0
def Ae (en:List Enum) (e:Expr):Int:=wu (Cr e) (wr (Af en) e.list)
def zZ (s:Str):Int:=need (zY s) 6
def A4 (en:List Enum) (o:On):Int:=wu (zZ o.name) (need (decide (o.t≠2)&&Cu en o.t o.tag) 5)
def yT (en:List Enum) (port:Bool) (d:Decl):Int:=
 wu (zZ d.name) (wu (need (decide (0<yj en d.type)) 10) (wu (need (!port||decide (d.clock=[])) 11) (wu (need (decide (d.clock.length≤4)) 3) (wr (A4 en) d.clock))))
def zm (en:List Enum) (q:Eqn):Int:=
 wu (need (decide (q.left≠[])) 8) (wu (need (decide (q.left.length≤64)) 3) (wu (wr zZ q.left) (wu (Ae en q.right) (need (decide (q.left.length=1∨q.right.kind=10)) 5))))
def Dx (en:List Enum) (n:Nat) (strong:Bool) (t:Trn):Int:=
 wu (need (decide (0≤t.to∧t.to<n)) 14) (wu (Ae en t.cond) (need (!strong||Du t.cond) 5))
def Hv (en:List Enum) (n:Nat) (auto:zB→Int) (s:State):Int:=
 wu (zZ s.name) (wu (need (decide (s.locals.length≤256∧s.eqs.length≤256∧s.autos.length≤8∧s.unl.length≤4∧s.til.length≤4)) 3)
  (wu (wr (yT en false) s.locals) (wu (wr (zm en) s.eqs) (wu (wr auto s.autos) (wu (wr (Dx en n true) s.unl) (wr (Dx en n false) s.til))))))
def B7 (en:List Enum):Nat→zB→Int
 | 0,_=>3
 | d+1,a=>wu (need (decide (a≠[])) 8) (wu (need (decide (a.length≤8)) 3) (wr (Hv en a.length (B7 en d)) a))
def Dw (u:Enum):Int:=wu (zZ u.name) (wu (need (decide (u.tags≠[])) 8) (wu (need (decide (u.tags.length≤16)) 3) (wr zZ u.tags)))
def yx (en:List Enum) (n:Node):Int:=
 wu (zZ n.name) (wu (need (decide (n.ins.length≤64∧n.outs.length≤64∧n.locals.length≤256∧n.eqs.length≤256∧n.autos.length≤8∧n.assume.length≤8∧n.ensure.length≤8)) 3)
  (wu (need (decide (n.outs≠[])) 8) (wu (wr (yT en true) n.ins) (wu (wr (yT en true) n.outs) (wr (yT en false) n.locals)))))
def An (en:List Enum) (n:Node):Int:=wu (wr (B7 en 3) n.autos) (wu (wr (Ae en) n.assume) (wr (Ae en) n.ensure))
structure Bad where
 node:Int
 eq:Int
 err:Int
 deriving DecidableEq,Inhabited
def Ck:Bad:=⟨0,0,0⟩
def zh {α:Type} (f:α→Int):List α→Nat→Option (Nat×Int)
 | [],_=>none
 | x::xs,i=>if f x=0 then zh f xs (i+1) else some (i,f x)
def yr (en:List Enum) (n:Node) (i:Nat):Option Bad:=
 if yx en n≠0 then some ⟨i,-1,yx en n⟩
 else match zh (zm en) n.eqs 0 with
  | some (k,e)=>some ⟨i,k,e⟩
  | none=>if An en n≠0 then some ⟨i,-1,An en n⟩ else none
def zg (en:List Enum):List Node→Nat→Option Bad
 | [],_=>none
 | n :: ns, i => match yr en n i with
   | some b=>some b
   | none=>zg en ns (i+1)
def zM (p:Prog):Option Bad:=
 if ¬(p.enums.length≤24∧p.nodes.length≤96) then some ⟨-1,-1,3⟩
 else if wr Dw p.enums≠0 then some ⟨-1,-1,wr Dw p.enums⟩
 else zg p.enums p.nodes 0
def zQ (b:Option Bad):Bad:=b.getD Ck
structure Place where
 before:List Node
 vis:List Str
 inputs:List Str
 tags:List Str
def Place.at (s:Place) (vis:List Str):Place:={ s with vis:=vis }
def wk (l:List Decl):List Str:=l.map (·.name)
def xq (l other:List Str):List Str:=l.filter λx => !decide (x∈other)
abbrev EN:=Int×List Str
def yd (a:EN) (f:List Str→EN):EN:=if a.1=0 then f a.2 else(a.1,[])
@[simp] theorem FT (l:List Str) (f:List Str→EN):yd (0,l) f=f l:=rfl
theorem Ak {a:EN} (h:a.1≠0) (f:List Str→EN):yd a f=(a.1,[]):=af h
def callee (before:List Node) (name:Str):Option Node:=before.find? λn=>decide (n.name=name)
def CX (s:Place) (e:Expr) (outs:Nat):Int:=
 match callee s.before e.name with
 | none=>6
 | some n=>need (decide ((e.args.length:Int)=wrap (n.ins.length+e.v)∧n.outs.length=outs)) 9
def oneN (s:Place) (outs:Nat) (e:Expr):Int:=
 if e.kind=2∨e.kind=8∨e.kind=9 then need (decide (e.name∈s.vis)) 6
 else if e.kind=10 then CX s e outs else 0
def w7 (s:Place) (e:Expr) (outs:Nat):Int:=wu (oneN s outs e) (wr (oneN s 1) (e.args.flatMap Expr.list))
def Ad (s:Place):List Str→List Str→EN
 | [],d=>(0,d)
 | x::xs,d=>if x∉s.vis then(6,[]) else if x∈s.inputs∨x∈d then(7,[]) else Ad s xs (d++[x])
def x5 (s:Place) (q:Eqn) (d:List Str):EN:=yd (Ad s q.left d) λd=>(w7 s q.right q.left.length,d)
def zf (s:Place):List Eqn→List Str→EN
 | [],d=>(0,d)
 | q::qs,d=>yd (x5 s q d) (zf s qs)
def xj (tags:List Str):List Decl→List Str→EN
 | [],v=>(0,v)
 | d::ds,v=>if d.name∈v∨d.name∈tags then(7,[]) else xj tags ds (v++[d.name])
def Bg (vis:List Str) (l:List Decl):Int:=wr (λd=>wr (λo=>need (decide (o.name∈vis)) 6) d.clock) l
def xM (vis tags:List Str) (l:List Decl):EN:=yd (xj tags l vis) λv=>(Bg v l,v)
def A5 (s:Place) (l:List Trn):Int:=wr (λt=>w7 s t.cond 1) l
def B3 (a b:List Str):Bool:=decide (xq a b=[]∧xq b a=[])
mutual
def zW (s:Place) (d:List Str):State→EN
 | .mk n l e a u w =>
   yd (xM s.vis s.tags l) λvis=>
   yd (zf (s.at vis) e d) λd1=>
   yd (xe (s.at vis) d1 a) λd2=>
   yd (A5 s u,[]) λ_=>
   yd (A5 (s.at vis) w,[]) λ_=>
   if xq (wk l) (xq d2 d)=[] then(0,xq (xq d2 d) (wk l)) else(8,[])
def yg (s:Place) (d:List Str):List State→Int×List (List Str)
 | []=>(0,[])
 | x :: xs =>
   let r:=zW s d x
   if r.1=0 then(let q:=yg s d xs; if q.1=0 then(0,r.2::q.2) else(q.1,[])) else(r.1,[])
def xe (s:Place) (d:List Str):List (List State)→EN
 | []=>(0,d)
 | x :: xs =>
   if ¬(x.map (·.name)).Nodup then(7,[])
   else
    let r:=yg s d x
    if r.1≠0 then(r.1,[])
    else if r.2.all (λl=>B3 l (r.2.headD [])) then xe s (d++r.2.headD []) xs
    else(8,[])
end
def vars (n:Node):List Decl:=n.ins++n.outs++n.locals
def yP (s:Place):List Eqn→Nat→List Str→(Nat×Int) ⊕ List Str
 | [],_,d => .inr d
 | q::qs,k,d=>if (x5 s q d).1=0 then yP s qs (k+1) (x5 s q d).2 else .inl (k,(x5 s q d).1)
def zk (before:List Node) (tags:List Str) (n:Node):Option Bad:=
 let i:=before.length
 if n.name∈before.map (·.name) then some ⟨i,-1,7⟩
 else
  let r:=xM [] tags (vars n)
  if r.1≠0 then some ⟨i,-1,r.1⟩
  else
   let s:Place:=⟨before,r.2,wk n.ins,tags⟩
   match yP s n.eqs 0 [] with
   | .inl (k,e)=>some ⟨i,k,e⟩
   | .inr d =>
     let c:=xe s d n.autos
     if c.1≠0 then some ⟨i,-1,c.1⟩
     else
      let a:=wr (λe=>w7 (s.at (wk n.ins)) e 1) n.assume
      if a≠0 then some ⟨i,-1,a⟩
      else
       let g:=wr (λe=>w7 (s.at (wk n.ins++wk n.outs)) e 1) n.ensure
       if g≠0 then some ⟨i,-1,g⟩
       else if xq (wk n.outs++wk n.locals) c.2=[] then none else some ⟨i,-1,8⟩
def Ac (tags:List Str):List Node→List Node→Option Bad
 | _,[]=>none
 | before, n :: r => match zk before tags n with
   | some b=>some b
   | none=>Ac tags (before++[n]) r
def zz (en:List Enum):List Str:=en.flatMap (·.tags)
def BV (en:List Enum):Bool:=decide ((en.map (·.name)).Nodup∧(zz en).Nodup)
def Ab (p:Prog):Option Bad:=
 match zM p with
 | some b=>some b
 | none=>if BV p.enums then Ac (zz p.enums) [] p.nodes else some ⟨-1,-1,7⟩
def D9 (l more:List Str):List Str:=more.foldl (λl x=>if x∈l then l else l++[x]) l
def Kh (l:List Eqn):List Str:=D9 [] (l.flatMap (·.left))
mutual
def Dp (out:List Str):List (List State)→List Str
 | []=>out
 | []::xs=>Dp out xs
 | (s::r)::xs=>Dp (D9 out (xq (FB s) (wk s.locals))) xs
def FB:State→List Str
 | .mk n l e a u w=>Dp (Kh e) a
end
theorem Hn {α:Type} {a b:List α}:(a++b).Nodup↔a.Nodup∧b.Nodup∧∀x∈b,x∉a:=by
 rw[cB]
 constructor
 ·rintro⟨h1,h2,h3⟩; exact⟨h1,h2,λx hx hy=>h3 x hy x hx rfl⟩
 ·rintro⟨h1,h2,h3⟩; exact⟨h1,h2,λx hx y hy e=>h3 y hy (e▸hx)⟩
theorem b8h {l o:List Str} {x:Str}:x∈xq l o↔x∈l∧x∉o:=by simp[xq]
theorem b8i (a b o:List Str):xq (a++b) o=xq a o++xq b o:=by simp[xq]
theorem b6v {l o:List Str} (h:∀x∈l,x∉o):xq l o=l:=by
 unfold xq
 rw[List.filter_eq_self]
 intro x hx; simp[h x hx]
theorem DS {l o:List Str}:xq l o=[]↔∀x∈l,x∈o:=by
 unfold xq
 rw[List.filter_eq_nil_iff]
 constructor
 ·intro h x hx; have:=h x hx; simpa using this
 ·intro h x hx; simp[h x hx]
theorem N5 {d y:List Str} (h:∀x∈y,x∉d):xq (d++y) d=y:=by
 rw[b8i,DS.2 (λx hx=>hx),b6v h]; rfl
theorem b5u {l o:List Str} (h:l.Nodup):(xq l o).Nodup:=h.filter _
theorem Ke:∀(m l:List Str),m.Nodup→(∀x∈m,x∉l)→D9 l m=l++m
 | [],l,_,_=>by simp[D9]
 | x :: m, l, hn, h => by
   have hx:=h x (by simp)
   rw[cC] at hn
   unfold D9
   rw[List.foldl_cons,af hx]
   have:=Ke m (l++[x]) hn.2 (by
    intro y hy hm
    rcases ay.1 hm with h1|h1
    ·exact h y (by simp[hy]) h1
    ·simp only[bF] at h1; subst h1; exact hn.1 hy)
   unfold D9 at this
   rw[this]; simp
theorem B1 {a:EN} {f:List Str→EN} {r:List Str}:yd a f=(0,r)↔a.1=0∧f a.2=(0,r):=by
 unfold yd
 by_cases h:a.1=0
 ·simp[h]
 ·simp only[h,if_false,false_and,iff_false]
  intro e; exact h (by simpa using aF Prod.fst e)
theorem B2 {a:EN} (h:a.1=0):a=(0,a.2):=by rw[← h]
def Defs (s:Place) (d xs:List Str):Prop:=(∀x∈xs,x∈s.vis∧x∉s.inputs∧x∉d)∧xs.Nodup
theorem Defs.nil (s:Place) (d:List Str):Defs s d []:=⟨by simp,by simp⟩
theorem Defs.app {s:Place} {d a b:List Str}:Defs s d (a++b)↔Defs s d a∧Defs s (d++a) b:=by
 unfold Defs
 rw[Hn]
 constructor
 ·rintro⟨h1,h2,h3,h4⟩
  refine⟨⟨λx hx=>h1 x (by simp[hx]),h2⟩,λx hx =>?_,h3⟩
  have:=h1 x (by simp[hx])
  have h5:=h4 x hx
  exact⟨this.1,this.2.1,by simp[this.2.2,h5]⟩
 ·rintro⟨⟨h1,h2⟩,h3,h4⟩
  refine⟨λx hx =>?_,h2,h4,λx hx =>?_⟩
  ·rcases ay.1 hx with h|h
   ·exact h1 x h
   ·have:=h3 x h
    exact⟨this.1,this.2.1,λhd=>this.2.2 (by simp[hd])⟩
  ·have:=h3 x hx
   exact λha=>this.2.2 (by simp[ha])
theorem Kf (s:Place):∀(xs d r:List Str),Ad s xs d=(0,r)↔r=d++xs∧Defs s d xs
 | [],d,r=>by simp only[Ad,bh,Defs.nil,and_true,ac,true_and]; exact eq_comm
 | x :: xs, d, r => by
   have ih:=Kf s xs (d++[x]) r
   have nS:x::xs=[x]++xs:=rfl
   rw[nS,Defs.app]
   have h1:Defs s d [x]↔x∈s.vis∧x∉s.inputs∧x∉d:=by unfold Defs; simp
   simp only[Ad,aL,aY]
   by_cases hv:x∈s.vis
   ·by_cases hd:x∈s.inputs∨x∈d
    ·have:¬Defs s d [x]:=by rw[h1]; rintro⟨_,a,b⟩; rcases hd with h|h; (exact a h); exact b h
     simp[hv,hd,this]
    ·simp only[not_or] at hd
     have:Defs s d [x]:=h1.2 ⟨hv,hd.1,hd.2⟩
     simp[hv,hd,this,ih]
   ·have:¬Defs s d [x]:=by rw[h1]; exact λh=>hv h.1
    simp[hv,this]
theorem GB {s:Place} {q:Eqn} {d r:List Str}:x5 s q d=(0,r)↔r=d++q.left∧Defs s d q.left∧w7 s q.right q.left.length=0:=by
 unfold x5
 rw[B1]
 constructor
 ·rintro⟨h1,h2⟩
  have h3:=(Kf s q.left d _).1 (B2 h1)
  simp only[ac] at h2
  exact⟨by rw[← h2.2,h3.1],h3.2,h2.1⟩
 ·rintro⟨rfl,h1,h2⟩
  rw[(Kf s q.left d _).2 ⟨rfl,h1⟩]
  exact⟨rfl,by simp[h2]⟩
def xl (l:List Eqn):List Str:=l.flatMap (·.left)
theorem Dg (s:Place):∀(l:List Eqn) (d r:List Str),zf s l d=(0,r)↔r=d++xl l∧Defs s d (xl l)∧∀q∈l,w7 s q.right q.left.length=0
 | [],d,r=>by simp only[zf,xl,List.flatMap_nil,bh,Defs.nil,true_and,List.not_mem_nil,false_imp_iff,implies_true,and_true,ac]; exact eq_comm
 | q :: l, d, r => by
   simp only[zf]
   rw[B1]
   have hl:xl (q::l)=q.left++xl l:=by simp[xl]
   rw[hl,Defs.app]
   constructor
   ·rintro⟨h1,h2⟩
    obtain⟨h3,h4,h5⟩:=GB.1 (B2 h1)
    rw[h3] at h2
    obtain⟨h6,h7,h8⟩:=(Dg s l _ r).1 h2
    refine⟨by rw[h6,aJ],⟨h4,h7⟩,?_⟩
    intro x hx
    rcases aC.1 hx with rfl|hx
    ·exact h5
    ·exact h8 x hx
   ·rintro⟨h1,⟨h2,h3⟩,h4⟩
    rw[GB.2 ⟨rfl,h2,h4 q (by simp)⟩]
    refine⟨rfl,(Dg s l _ r).2 ⟨by rw[h1,aJ],h3,λx hx=>h4 x (by simp[hx])⟩⟩
theorem Ml (s:Place):∀(l:List Eqn) (k:Nat) (d r:List Str),yP s l k d = .inr r↔zf s l d=(0,r)
 | [],k,d,r=>by simp[yP,zf]
 | q :: l, k, d, r => by
   simp only[yP,zf]
   rw[B1]
   by_cases h:(x5 s q d).1=0
   ·simp only[h,if_true,true_and]; exact Ml s l (k+1) _ r
   ·simp[h]
theorem Kg (tags:List Str):∀(l:List Decl) (v r:List Str),xj tags l v=(0,r)↔r=v++wk l∧(∀x∈wk l,x∉v∧x∉tags)∧(wk l).Nodup
 | [],v,r=>by simp only[xj,wk,ba,bh,List.not_mem_nil,false_imp_iff,implies_true,List.nodup_nil,and_true,ac,true_and]; exact eq_comm
 | d :: l, v, r => by
   have ih:=Kg tags l (v++[d.name]) r
   simp only[xj]
   have hn:wk (d::l)=d.name::wk l:=rfl
   rw[hn,cC]
   by_cases h:d.name∈v∨d.name∈tags
   ·simp only[h,if_true,ac]
    constructor
    ·rintro⟨h,_⟩; exact absurd h (by decide)
    ·rintro⟨_,h2,_⟩
     have:=h2 d.name (by simp)
     rcases h with h|h
     ·exact absurd h this.1
     ·exact absurd h this.2
   ·simp only[h,if_false,ih]
    simp only[not_or] at h
    constructor
    ·rintro⟨h1,h2,h3⟩
     refine⟨by rw[h1]; simp,?_,?_,h3⟩
     ·intro x hx
      rcases aC.1 hx with rfl|hx
      ·exact h
      ·have:=h2 x hx
       exact⟨λhv=>this.1 (by simp[hv]),this.2⟩
     ·intro hm
      exact(h2 _ hm).1 (by simp)
    ·rintro⟨h1,h2,h3,h4⟩
     refine⟨by rw[h1]; simp,?_,h4⟩
     intro x hx
     have:=h2 x (by simp[hx])
     refine⟨?_,this.2⟩
     intro hm
     rcases ay.1 hm with h5|h5
     ·exact this.1 h5
     ·simp only[bF] at h5; subst h5; exact h3 hx
theorem AA {b:Bool} {e:Int} (he:e≠0):need b e=0↔b=true:=by cases b<;>simp[he]
theorem N6 {v:List Str} {l:List Decl}:Bg v l=0↔∀d∈l,∀o∈d.clock,o.name∈v:=by
 unfold Bg
 rw[yS]
 constructor
 ·intro h d hd o ho
  have:=yS.1 (h d hd) o ho
  simpa using(AA (by decide)).1 this
 ·intro h d hd
  rw[yS]
  intro o ho
  rw[AA (by decide)]; simpa using h d hd o ho
theorem N7 {v tags:List Str} {l:List Decl} {r:List Str}:xM v tags l=(0,r)↔r=v++wk l∧((∀x∈wk l,x∉v∧x∉tags)∧(wk l).Nodup)∧∀d∈l,∀o∈d.clock,o.name∈r:=by
 unfold xM
 rw[B1]
 constructor
 ·rintro⟨h1,h2⟩
  obtain⟨h3,h4⟩:=(Kg tags l v _).1 (B2 h1)
  simp only[ac] at h2
  rw[← h2.2]
  exact⟨h3,h4,N6.1 h2.1⟩
 ·rintro⟨h1,h2,h3⟩
  rw[(Kg tags l v _).2 ⟨rfl,h2⟩]
  refine⟨rfl,?_⟩
  rw[← h1,N6.2 h3]
mutual
def xd:List (List State)→List Str
 | []=>[]
 | []::xs=>xd xs
 | (s::r)::xs=>xq (AQ s) (wk s.locals)++xd xs
def AQ:State→List Str
 | .mk n l e a u w=>xl e++xd a
end
def yf (x:State):List Str:=xq (AQ x) (wk x.locals)
theorem Df (x:List State) (xs:List (List State)):xd (x::xs)=(x.map yf).headD []++xd xs:=by cases x<;>simp[xd,yf]
theorem c3Z {l:List Eqn} (h:(xl l).Nodup):Kh l=xl l:=by
 have:=Ke (xl l) [] h (by simp)
 simpa[Kh,xl] using this
mutual
theorem Ki:∀(x:State) (s:Place) (d l:List Str),zW s d x=(0,l)→l=yf x∧Defs s d (yf x)∧FB x=AQ x
 | .mk n l e a u w, s, d, r, h => by
   simp only[zW] at h
   rw[B1] at h; obtain⟨h1,h⟩:=h
   rw[B1] at h; obtain⟨h2,h⟩:=h
   rw[B1] at h; obtain⟨h3,h⟩:=h
   rw[B1] at h; obtain⟨h4,h⟩:=h
   rw[B1] at h; obtain⟨h5,h⟩:=h
   obtain⟨v1,v2,v3⟩:=N7.1 (B2 h1)
   generalize (xM s.vis s.tags l).2=vis at *
   obtain⟨e1,e2,e3⟩:=(Dg (s.at vis) e d _).1 (B2 h2)
   generalize (zf (s.at vis) e d).2=d1 at *
   obtain⟨a1,a2,a3⟩:=Ea a (s.at vis) d1 _ (B2 h3)
   generalize (xe (s.at vis) d1 a).2=d2 at *
   have hD:Defs (s.at vis) d (xl e++xd a):=Defs.app.2 ⟨e2,by rw[← e1]; exact a2⟩
   have gV:d2=d++(xl e++xd a):=by rw[a1,e1,aJ]
   have hw:xq d2 d=xl e++xd a:=by rw[gV]; exact N5 λx hx=>(hD.1 x hx).2.2
   rw[hw] at h
   have iI:FB (.mk n l e a u w)=AQ (.mk n l e a u w):=by
    simp only[FB,AQ]
    rw[c3Z e2.2]
    exact a3 _ λy hy hm=>(a2.1 y hy).2.2 (by rw[e1]; simp[hm])
   have dN:yf (.mk n l e a u w)=xq (xl e++xd a) (wk l):=by simp[yf,AQ]
   have dJ:Defs s d (yf (.mk n l e a u w)):=by
    rw[dN]
    refine⟨?_,b5u hD.2⟩
    intro x hx
    rw[b8h] at hx
    have:=hD.1 x hx.1
    refine⟨?_,this.2⟩
    have hv:x∈vis:=this.1
    rw[v1] at hv
    rcases ay.1 hv with h6|h6
    ·exact h6
    ·exact absurd h6 hx.2
   by_cases ng:xq (wk l) (xl e++xd a)=[]
   ·rw[ah ng] at h
    simp only[ac,true_and] at h
    exact⟨by rw[dN,h],dJ,iI⟩
   ·rw[af ng] at h
    simp only[ac] at h
    exact absurd h.1 (by decide)
theorem Kj:∀(xs:List State) (s:Place) (d:List Str) (ls:List (List Str)),yg s d xs=(0,ls)→ls=xs.map yf∧∀x∈xs,Defs s d (yf x)∧FB x=AQ x
 | [],s,d,ls,h=>by simp only[yg,ac,true_and] at h; subst h; simp
 | x :: xs, s, d, ls, h => by
   simp only[yg] at h
   by_cases h1:(zW s d x).1=0
   ·by_cases h2:(yg s d xs).1=0
    ·simp only[h1,h2,if_true,ac,true_and] at h
     obtain⟨a1,a2⟩:=Ki x s d _ (B2 h1)
     obtain⟨b1,b2⟩:=Kj xs s d (yg s d xs).2 (by rw[← h2])
     refine⟨by rw[← h,a1,b1]; rfl,?_⟩
     intro y hy
     rcases aC.1 hy with rfl|hy
     ·exact a2
     ·exact b2 y hy
    ·simp[h1,h2] at h
   ·simp[h1] at h
theorem Ea:∀(a:List (List State)) (s:Place) (d r:List Str),xe s d a=(0,r)→r=d++xd a∧Defs s d (xd a)∧∀out:List Str,(∀y∈xd a,y∉out)→Dp out a=out++xd a
 | [], s, d, r, h => by
   simp only[xe,ac,true_and] at h
   subst h
   simp only[xd,bh,Defs.nil,Dp,true_and,implies_true]
 | x :: xs, s, d, r, h => by
   simp only[xe] at h
   by_cases hn:(x.map (·.name)).Nodup
   ·simp only[hn,bA,if_false] at h
    by_cases h1:(yg s d x).1=0
    ·simp only[h1,ne_eq,bA,if_false] at h
     obtain⟨b1,b2⟩:=Kj x s d (yg s d x).2 (by rw[← h1])
     rw[b1] at h
     split at h
     ·obtain⟨c1,c2,c3⟩:=Ea xs s _ r h
      rw[Df]
      have hd:Defs s d ((x.map yf).headD []):=by
       cases x with
       | nil=>exact Defs.nil s d
       | cons y x=>exact(b2 y (by simp)).1
      have gY:=Defs.app.2 ⟨hd,c2⟩
      refine⟨by rw[c1,aJ],gY,?_⟩
      intro out ho
      cases x with
      | nil =>
        simp only[ba,List.headD_nil,aY] at ho ⊢
        simp only[Dp]
        exact c3 out ho
      | cons y x =>
        simp only[ax,List.headD_cons] at *
        simp only[Dp]
        have hy:=(b2 y (by simp)).2
        rw[hy]
        have hr:xq (AQ y) (wk y.locals)=yf y:=rfl
        rw[hr,Ke _ _ hd.2 (λz hz=>ho z (by simp[hz]))]
        rw[c3 (out++yf y) ?_,aJ]
        intro z hz hm
        rcases ay.1 hm with h5|h5
        ·exact ho z (by simp[hz]) h5
        ·exact(c2.1 z hz).2.2 (by simp[h5])
     ·simp only[ac] at h; exact absurd h.1 (by decide)
    ·simp[h1] at h
   ·simp only[hn,cy,if_true,ac] at h; exact absurd h.1 (by decide)
end
def Seen (b:List Node) (l:List Expr):Prop:=∀e∈l,∃(s:Place) (n:Nat),s.before=b∧w7 s e n=0
theorem Seen.app {b:List Node} {l m:List Expr}:Seen b (l++m)↔Seen b l∧Seen b m:=by
 unfold Seen
 constructor
 ·intro h; exact⟨λe he=>h e (by simp[he]),λe he=>h e (by simp[he])⟩
 ·rintro⟨h1,h2⟩ e he
  rcases ay.1 he with h|h
  ·exact h1 e h
  ·exact h2 e h
structure NodeOK (before:List Node) (tags:List Str) (n:Node) (c:List Str):Prop where
 new:n.name∉before.map (·.name)
 decl:xM [] tags (vars n)=(0,wk (vars n))
 eqs:zf ⟨before,wk (vars n),wk n.ins,tags⟩ n.eqs []=(0,xl n.eqs)
 autos:xe ⟨before,wk (vars n),wk n.ins,tags⟩ (xl n.eqs) n.autos=(0,c)
 assume:∀e∈n.assume,w7 ⟨before,wk n.ins,wk n.ins,tags⟩ e 1=0
 ensure:∀e∈n.ensure,w7 ⟨before,wk n.ins++wk n.outs,wk n.ins,tags⟩ e 1=0
 all:∀x∈wk n.outs++wk n.locals,x∈c
theorem NodeOK.c_eq {before:List Node} {tags:List Str} {n:Node} {c:List Str} (h:NodeOK before tags n c):c=xl n.eqs++xd n.autos:=(Ea _ _ _ _ h.autos).1
theorem NodeOK.defs {before:List Node} {tags:List Str} {n:Node} {c:List Str} (h:NodeOK before tags n c):Defs ⟨before,wk (vars n),wk n.ins,tags⟩ [] c:=by
 rw[h.c_eq]
 refine Defs.app.2 ⟨((Dg _ _ _ _).1 h.eqs).2.1,?_⟩
 exact(Ea _ _ _ _ h.autos).2.1
theorem N8 (n:Node):wk (vars n)=wk n.ins++(wk n.outs++wk n.locals):=by simp[wk,vars]
theorem NodeOK.length {before:List Node} {tags:List Str} {n:Node} {c:List Str} (h:NodeOK before tags n c):c.length=n.outs.length+n.locals.length:=by
 obtain⟨_,⟨_,hv⟩,_⟩:=N7.1 h.decl
 rw[N8,Hn] at hv
 have hp:c.Perm (wk n.outs++wk n.locals):=by
  rw[List.perm_ext_iff_of_nodup h.defs.2 hv.2.1]
  intro x
  constructor
  ·intro hx
   have:=h.defs.1 x hx
   have h1:x∈wk (vars n):=this.1
   rw[N8] at h1
   rcases ay.1 h1 with h2|h2
   ·exact absurd h2 this.2.1
   ·exact h2
  ·exact h.all x
 rw[hp.length_eq]; simp[wk]
structure OK (p:Prog):Prop where
 shape:zM p=none
 enums:BV p.enums=true
 nodes:Ac (zz p.enums) [] p.nodes=none
theorem Mo (en:List Enum):∀(ns:List Node) (i:Nat),zg en ns i=none↔∀n∈ns,∀k:Nat,yr en n k=none
 | [],i=>by simp[zg]
 | n :: ns, i => by
   have hk:∀k:Nat,yr en n i=none↔yr en n k=none:=by
    intro k
    unfold yr
    split
    ·simp
    ·cases zh (zm en) n.eqs 0 with
     | some x=>simp
     | none=>simp only; split<;>simp
   simp only[zg,aC,forall_eq_or_imp]
   cases hn:yr en n i with
   | some x =>
     simp only[reduceCtorEq,false_iff,not_and]
     intro h
     rw[h i] at hn; simp at hn
   | none =>
     simp only
     rw[Mo en ns (i+1)]
     exact⟨λh=>⟨λk=>(hk k).1 hn,h⟩,λh=>h.2⟩
end PI.Sc
set_option linter.unusedSimpArgs false
set_option linter.unusedVariables false
namespace PI.Sc
open Go (IntKind BinOp UnOp)
open Go.Lib (decDigits)
theorem Kk:∀(l m:List Str),l.Nodup→(∀x∈l,x∈m)→l.length≤m.length
 | [],m,_,_=>by simp
 | x :: l, m, hn, h => by
   rw[cC] at hn
   have:=Kk l (m.erase x) hn.2 (by
    intro y hy
    have cZ:y≠x:=λe=>hn.1 (e▸hy)
    exact(List.mem_erase_of_ne cZ).2 (h y (by simp[hy])))
   have hx:=List.length_erase_of_mem (h x (by simp))
   have hp:0<m.length:=List.length_pos_of_mem (h x (by simp))
   simp only[aI]
   omega
def low (b:UInt8):Bool:=decide (97≤b.toNat∧b.toNat≤122)
structure Near (x:Str) (s s':Place):Prop where
 before:s'.before=s.before
 inputs:s'.inputs=s.inputs
 tags:s'.tags=s.tags
 more:∀y∈s.vis,y∈s'.vis
 less:∀y∈s'.vis,y∈s.vis∨y=x
theorem Near.at {x:Str} {s s':Place} (h:Near x s s') (l:List Str):Near x (s.at (s.vis++l)) (s'.at (s'.vis++l)):=by
 refine⟨h.before,h.inputs,h.tags,?_,?_⟩
 ·intro y hy
  rcases ay.1 hy with h1|h1
  ·exact b9 _ (h.more y h1)
  ·exact b6 _ h1
 ·intro y hy
  rcases ay.1 hy with h1|h1
  ·rcases h.less y h1 with h2|h2
   ·exact .inl (b9 _ h2)
   ·exact .inr h2
  ·exact .inl (b6 _ h1)
theorem Ho {α:Type} {f:α→Int}:∀{l:List α} {i:Nat},zh f l i=none↔∀x∈l,f x=0
 | [],i=>by simp[zh]
 | x :: l, i => by
   unfold zh
   by_cases h:f x=0
   ·simp[h,Ho (l:=l)]
   ·simp[h]
theorem b6x {en:List Enum} {n:Node} {i:Nat}:yr en n i=none↔yx en n=0∧(∀q∈n.eqs,zm en q=0)∧An en n=0:=by
 unfold yr
 by_cases h1:yx en n=0
 ·simp only[h1,ne_eq,bA,if_false,true_and]
  cases h2:zh (zm en) n.eqs 0 with
  | none =>
    have:=Ho.1 h2
    by_cases h3:An en n=0
    ·simp[h3]; exact this
    ·simp[h3]
  | some x =>
    simp only[reduceCtorEq,false_iff,not_and]
    intro h
    rw[Ho.2 h] at h2; simp at h2
 ·simp[h1]
end PI.Sc
set_option linter.unusedSimpArgs false
set_option linter.unusedVariables false
namespace PI.Sc
open Go (IntKind BinOp UnOp)
def wx {α:Type} (f:α→Nat):List α→Nat
 | []=>0
 | x::xs=>f x+wx f xs
theorem Ci {α:Type} (f:α→Nat) {x:α}:∀{l:List α},x∈l→f x≤wx f l
 | [],h=>by simp at h
 | y :: l, h => by
   simp only[wx]
   rcases aC.1 h with rfl|h
   ·omega
   ·have:=Ci f h; omega
theorem Hp {α:Type} (f:α→Nat) (h:∀x,1≤f x):∀l:List α,l.length≤wx f l
 | []=>by simp
 | x::l=>by have:=h x; have:=Hp f h l; simp only[wx,aI]; omega
def Expr.parts (e:Expr):Nat:=e.list.length
def Eqn.parts (q:Eqn):Nat:=1+q.left.length+q.right.parts
def Decl.parts (d:Decl):Nat:=1+d.clock.length+d.name.length / 100
def Trn.parts (t:Trn):Nat:=1+t.cond.parts
mutual
def State.parts:State→Nat
 | .mk n l e a u w=>1+wx Decl.parts l+wx Eqn.parts e+wx Trn.parts u+wx Trn.parts w+Al a
def BU:List State→Nat
 | []=>0
 | x::xs=>x.parts+BU xs
def Al:List (List State)→Nat
 | []=>0
 | x::xs=>1+BU x+Al xs
end
theorem DR:∀l:List State,BU l=wx State.parts l
 | []=>rfl
 | x::l=>by simp[BU,wx,DR l]
theorem E0:∀l:List (List State),Al l=wx (λa=>1+wx State.parts a) l
 | []=>rfl
 | x::l=>by simp[Al,wx,E0 l,DR]
def Node.parts (n:Node):Nat:=1+wx Decl.parts n.ins+wx Decl.parts n.outs+wx Decl.parts n.locals+wx Eqn.parts n.eqs+wx (λe=>1+Expr.parts e) n.assume+wx (λe=>1+Expr.parts e) n.ensure+Al n.autos
def Enum.parts (u:Enum):Nat:=1+u.tags.length
def parts (p:Prog):Nat:=wx Enum.parts p.enums+wx Node.parts p.nodes
def Cap (m n T:Int):Prop:=(n<m↔T<m)∧(n<m→n=T)
theorem Cap.refl (m n:Int):Cap m n n:=⟨Iff.rfl,λ_=>rfl⟩
theorem Cap.add {m a b A B:Int} (h1:Cap m a A) (h2:Cap m b B) (p1:0≤a) (p2:0≤b) (p3:0≤A) (p4:0≤B):Cap m (a+b) (A+B):=by unfold Cap at *; omega
end PI.Sc
set_option linter.unusedSimpArgs false
set_option linter.unusedVariables false
namespace PI.Sc
theorem KB {α:Type} (f:α→Nat):∀a b:List α,wx f (a++b)=wx f a+wx f b
 | [],b=>by simp[wx]
 | x::a,b=>by simp[wx,KB f a b]; omega
theorem c0B {α:Type} (f:α→Nat) {l:List α} {i:Nat} (h:i<l.length):wx f (l.take (i+1))=wx f (l.take i)+f l[i]:=by
 rw[bl,al h,KB]; simp[wx]
theorem c4o {α:Type} (f:α→Nat) (l:List α) (i:Nat):wx f (l.take i)≤wx f l:=by
 have:=KB f (l.take i) (l.drop i)
 rw[bX] at this
 omega
def isVar (k:Int):Bool:=decide (k=2∨k=8∨k=9)
def Bw (k:Int) (i:Nat):Bool:=decide (k=5∨k=7∧0<i)
def Bx (l:List Str) (k:Int) (n:Str):List Str:=if isVar k=true∧n∉l then l++[n] else l
mutual
def yV (l:List Str):Expr→List Str
 | .mk k o t v n as=>AO k 0 (Bx l k n) as
def AO (k:Int) (i:Nat) (l:List Str):List Expr→List Str
 | []=>l
 | x::xs=>if Bw k i then l else AO k (i+1) (yV l x) xs
end
theorem c7j (l:List Str) (e:Expr):yV l e=AO e.kind 0 (Bx l e.kind e.name) e.args:=by cases e; simp[yV]
mutual
def yp (nm:Str):Expr→Expr
 | .mk k o t v n as => .mk k o t v n (yJ nm k 0 as)
def yJ (nm:Str) (k:Int) (i:Nat):List Expr→List Expr
 | []=>[]
 | x::xs=>(if k=5∨k=7∧i=1 then .mk 2 0 0 0 nm [] else yp nm x)::yJ nm k (i+1) xs
end
theorem c4p (l:List Str) (k:Int) (n:Str):(Bx l k n).length≤l.length+1:=by unfold Bx; split<;>simp
mutual
theorem Fw (l:List Str):∀e:Expr,(yV l e).length≤l.length+e.list.length
 | .mk k o t v n as => by
   simp only[yV,Expr.list,aI]
   have h1:=c4p l k n
   have h2:=O7 k 0 (Bx l k n) as
   omega
theorem O7 (k:Int) (i:Nat) (l:List Str):∀as:List Expr,(AO k i l as).length≤l.length+(z6 as).length
 | []=>by simp[AO]
 | x :: xs => by
   simp only[AO,z6,ap]
   split
   ·omega
   ·have h1:=Fw l x
    have h2:=O7 k (i+1) (yV l x) xs
    omega
end
mutual
theorem O8 (nm:Str) (l:List Str):∀e:Expr,yV l (yp nm e)=yV l e
 | .mk k o t v n as => by
   simp only[yp,yV]
   exact O9 nm k 0 _ as
theorem O9 (nm:Str) (k:Int) (i:Nat) (l:List Str):∀as:List Expr,AO k i l (yJ nm k i as)=AO k i l as
 | []=>rfl
 | x :: xs => by
   simp only[yJ,AO]
   by_cases hd:Bw k i=true
   ·simp[hd]
   ·have:¬(k=5∨k=7∧i=1):=by simp only[Bw,aw] at hd; omega
    simp only[hd,af this]
    rw[O8 nm l x,O9 nm k (i+1) _ xs]
end
def plain (p:Prog):Bool:=p.nodes.all λn=>decide (n.autos=[])
def D7 (p:Prog):Bad:=if (zQ (Ab p)).err=0 then(if plain p then Ck else⟨-1,-1,2⟩) else zQ (Ab p)
theorem Hk (nm:Str) (k:Int):∀(as:List Expr) (i:Nat),(yJ nm k i as).length=as.length
 | [],_=>rfl
 | x::xs,i=>by simp[yJ,Hk nm k xs]
theorem Pa (nm:Str) (k:Int):∀(as:List Expr) (i j:Nat) (h:j<as.length),(yJ nm k i as)[j]? = some (if k=5∨k=7∧i+j=1 then .mk 2 0 0 0 nm [] else yp nm as[j])
 | [],i,j,h=>by simp at h
 | x::xs,i,0,h=>by simp[yJ]
 | x :: xs, i, j + 1, h => by
   simp only[yJ,bY,bS]
   rw[Pa nm k xs (i+1) j (by simpa using h)]
   simp only[show i+1+j=i+(j+1) by omega]
def NK (nm:Str) (e:Expr) (j:Nat) (x:Expr):Expr:=if e.kind=5∨e.kind=7∧j=1 then .mk 2 0 0 0 nm [] else yp nm x
theorem Hj (nm:Str) (e:Expr):yp nm e = .mk e.kind e.op e.t e.v e.name (yJ nm e.kind 0 e.args):=by cases e; simp[yp]
theorem b8w (nm:Str) (e:Expr) {j:Nat} (h:j<e.args.length):(yJ nm e.kind 0 e.args).take (j+1)=(yJ nm e.kind 0 e.args).take j++[NK nm e j e.args[j]]:=by
 rw[bl,Pa nm e.kind e.args 0 j h,aM]; rfl
abbrev Pr:=Int×Int
def A1 (z:List Pr) (x:Pr):List Pr:=if z.getLast? = some x then z else z++[x]
def yK (l:List Pr):List Pr:=l.foldl A1 []
theorem b8x (z:List Pr) (x:Pr):(A1 z x).getLast? = some x:=by
 unfold A1
 split
 ·assumption
 ·simp
theorem Fz (l:List Pr) {i:Nat} (h:i<l.length):yK (l.take (i+1))=A1 (yK (l.take i)) l[i]:=by
 unfold yK
 rw[bl,al h,List.foldl_append]; rfl
theorem J8 (l:List Pr) {i:Nat} (h:i<l.length):(yK (l.take (i+1))).getLast? = some l[i]:=by
 rw[Fz l h,b8x]
theorem NZ:∀(l:List Pr) (z:List Pr),(l.foldl A1 z).length≤z.length+l.length
 | [],z=>by simp
 | x :: l, z => by
   have:=NZ l (A1 z x)
   have h2:(A1 z x).length≤z.length+1:=by unfold A1; split<;>simp
   simp only[List.foldl_cons,aI]; omega
theorem Pb:∀(l:List Pr) (j:Nat) (h:j<l.length),(l.flatMap wV).drop (j*2)=wV l[j]++(l.drop (j+1)).flatMap wV
 | [],j,h=>by simp at h
 | x::l,0,h=>by simp[wV]
 | x :: l, j + 1, h => by
   have:=Pb l j (by simpa using h)
   rw[show (j+1)*2=j*2+2 by omega]
   simp only[aG,wV,aL,aY,List.drop_succ_cons,bS] at this ⊢
   exact this
theorem FW:∀l:List Pr,(l.flatMap wV).length=l.length*2
 | []=>rfl
 | x::l=>by simp only[aG,ap,aI,FW l]; simp[wV]; omega
theorem Pc (l:List Pr) (j:Nat) (h:j<l.length):wq 2 true (l.flatMap wV) (j*2)=some (.agg (wV l[j])):=by
 have hl:=FW l
 simp only[wq,if_true]
 rw[ah (by omega),Pb l j h]
 simp[wV,dem]
theorem J9:∀(l:List Pr) (k:Nat),(l.flatMap wV).take (k*2)=(l.take k).flatMap wV
 | [],k=>by simp
 | x::l,0=>by simp
 | x :: l, k + 1 => by
   rw[show (k+1)*2=k*2+2 by omega]
   simp only[aG,wV,aL,aY,List.take_succ_cons]
   rw[J9 l k]
theorem b8y (l:List Pr) (k:Nat) (x:Pr) (h:k<l.length):wO 2 true (l.flatMap wV) (k*2) (.agg (wV x))=some ((l.set k x).flatMap wV):=by
 have hl:=FW l
 simp only[wO,if_true]
 rw[ah ⟨rfl,by omega⟩]
 congr 1
 rw[J9,show k*2+2=(k+1)*2 by omega,List.set_eq_take_append_cons_drop,ah h]
 simp only[bP,aG]
 congr 2
 have:∀(l:List Pr) (k:Nat),(l.flatMap wV).drop (k*2)=(l.drop k).flatMap wV:=by
  intro l
  induction l with
  | nil=>simp
  | cons y l ih =>
    intro k
    cases k with
    | zero=>simp
    | succ k =>
      rw[show (k+1)*2=k*2+2 by omega]
      simp only[aG,wV,aL,aY,List.drop_succ_cons]
      exact ih k
 exact this l (k+1)
theorem NT (l:List Pr) (rest:List PV):∀(n off:Nat),off+n=l.length→yF 2 true (l.flatMap wV++rest) n (off*2)=some ((l.drop off).map λx => .agg (wV x))
 | 0,off,h=>by simp[yF,bj (show l.length≤off by omega)]
 | n + 1, off, h => by
   have cS:off<l.length:=by omega
   have e:wq 2 true (l.flatMap wV++rest) (off*2)=some (.agg (wV l[off])):=by
    have h1:=Pc l off cS
    have hl:=FW l
    simp only[wq,if_true] at h1 ⊢
    rw[ah (by rw[ap]; omega)]
    rw[ah (by omega)] at h1
    rw[List.drop_append_of_le_length (by omega),List.take_append_of_le_length (by rw[cg]; omega)]
    exact h1
   simp only[yF,e,an]
   rw[show off*2+2=(off+1)*2 by omega,NT l rest n (off+1) (by omega),aZ cS]
   rfl
structure Prs (cs:List PV) (l:List Pr):Prop where
 eq:cs=l.flatMap wV
theorem Prs.len {cs:List PV} {l:List Pr} (h:Prs cs l):cs.length=l.length*2:=by rw[h.eq,FW]
theorem Prs.get {cs:List PV} {l:List Pr} (h:Prs cs l) {j:Nat} (hj:j<l.length):j*2+2≤cs.length∧List.map dem (List.take 2 (List.drop (j*2) cs))=[.int .i64 l[j].1,.int .i64 l[j].2]:=by
 have h1:=Pc l j hj
 have hl:=h.len
 rw[← h.eq] at h1
 simp only[wq,if_true] at h1
 rw[ah (by omega)] at h1
 simp only[aa,PV.agg.injEq] at h1
 exact⟨by omega,h1⟩
theorem Prs.set {cs:List PV} {l:List Pr} (h:Prs cs l) {k:Nat} (hk:k<l.length) (x:Pr):Prs (cs.take (k*2)++([.int .i64 x.1,.int .i64 x.2]++cs.drop (k*2+2))) (l.set k x):=by
 have h1:=b8y l k x hk
 have hl:=h.len
 rw[← h.eq] at h1
 simp only[wO,if_true] at h1
 rw[ah ⟨rfl,by omega⟩] at h1
 simp only[aa] at h1
 exact⟨h1⟩
theorem Oc (s:Place):∀(l:List Eqn) (k:Nat) (d:List Str) (i:Nat) (e:Int),yP s l k d = .inl (i,e)→e≠0
 | [],k,d,i,e,h=>by simp[yP] at h
 | q :: l, k, d, i, e, h => by
   simp only[yP] at h
   split at h
   ·exact Oc s l _ _ _ _ h
   ·rename_i cZ
    simp only[Sum.inl.injEq,ac] at h
    rw[← h.2]; exact cZ
theorem c0n {before:List Node} {tags:List Str} {n:Node} {b:Bad} (h:zk before tags n=some b):b.node=before.length∧b.err≠0:=by
 simp only[zk] at h
 split at h
 ·simp only[aa] at h; subst h; exact⟨rfl,by simp⟩
 ·split at h
  ·rename_i h1
   simp only[aa] at h; subst h; exact⟨rfl,h1⟩
  ·split at h
   ·rename_i k e hq
    simp only[aa] at h; subst h; exact⟨rfl,Oc _ _ _ _ _ _ hq⟩
   ·split at h
    ·rename_i h1
     simp only[aa] at h; subst h; exact⟨rfl,h1⟩
    ·split at h
     ·rename_i h1
      simp only[aa] at h; subst h; exact⟨rfl,h1⟩
     ·split at h
      ·rename_i h1
       simp only[aa] at h; subst h; exact⟨rfl,h1⟩
      ·split at h
       ·simp at h
       ·simp only[aa] at h; subst h; exact⟨rfl,by simp⟩
theorem b8k {p:Prog} {b:Bad} (hs:zM p=some b):b.err≠0:=by
 intro he
 unfold zM at hs
 split at hs
 ·simp only[aa] at hs; rw[← hs] at he; exact absurd he (by decide)
 ·split at hs
  ·rename_i h1; simp only[aa] at hs; rw[← hs] at he; exact h1 he
  ·have key:∀(l:List Node) (j:Nat),zg p.enums l j=some b→b.err≠0:=by
    intro l
    induction l with
    | nil=>intro j hj; simp[zg] at hj
    | cons n l ih =>
      intro j hj
      simp only[zg] at hj
      cases hn:yr p.enums n j with
      | none=>rw[hn] at hj; exact ih _ hj
      | some y =>
        rw[hn] at hj
        simp only[aa] at hj
        subst hj
        unfold yr at hn
        split at hn
        ·rename_i h1; simp only[aa] at hn; rw[← hn]; exact h1
        ·split at hn
         ·rename_i k e hf
          have:∀(l:List Eqn) (m:Nat),zh (zm p.enums) l m=some (k,e)→e≠0:=by
           intro l
           induction l with
           | nil=>intro m hm; simp[zh] at hm
           | cons q l ih2 =>
             intro m hm
             simp only[zh] at hm
             split at hm
             ·exact ih2 _ hm
             ·rename_i h2; simp only[aa,ac] at hm; rw[← hm.2]; exact h2
          simp only[aa] at hn; rw[← hn]; exact this _ _ hf
         ·split at hn
          ·rename_i h1; simp only[aa] at hn; rw[← hn]; exact h1
          ·simp at hn
   exact key _ _ hs he
theorem Od {tags:List Str}:∀{l b:List Node} {x:Bad},Ac tags b l=some x→x.err≠0
 | [],b,x,h=>by simp[Ac] at h
 | n :: l, b, x, h => by
   simp only[Ac] at h
   cases hn:zk b tags n with
   | some y=>rw[hn] at h; simp only[aa] at h; subst h; exact(c0n hn).2
   | none=>rw[hn] at h; exact Od h
theorem b8l {p:Prog} {x:Bad} (h:Ab p=some x):x.err≠0:=by
 unfold Ab at h
 cases hs:zM p with
 | some b=>rw[hs] at h; simp only[aa] at h; subst h; exact b8k hs
 | none =>
   rw[hs] at h
   simp only at h
   split at h
   ·exact Od h
   ·simp only[aa] at h; subst h; simp
end PI.Sc
set_option maxRecDepth 100000
set_option linter.unusedSimpArgs false
set_option linter.unusedVariables false
namespace PI.Sc
open Go (IntKind BinOp UnOp)
section
variable {L:Nat→Option PFunc} (hL:∀k f,LS k=some f→L k=some f)
include hL
theorem FE (b:Int) (h:List PObj):wj L 142 [.int .u8 b] h=some (.bool (Dq b),h):=by
 refine wD (hL 142 _ rfl) rfl ?_
 by_cases h1:97≤b<;>by_cases h2:b≤122<;>by_cases h3:65≤b<;>by_cases h4:b≤90 <;>
  simp[Js,Dq,h1,h2,h3,h4]<;>omega
theorem Oi (b:Int) (h:List PObj):wj L 162 [.int .u8 b] h=some (.bool (FF b),h):=by
 refine wD (hL 162 _ rfl) rfl ?_
 by_cases h1:48≤b<;>by_cases h2:b≤57<;>simp[Jz,FF,h1,h2]
theorem Oj (b:Int) (h:List PObj):wj L 144 [.int .u8 b] h=some (.bool (CV b),h):=by
 refine wD (hL 144 _ rfl) rfl ?_
 by_cases h3:b=95
 ·subst h3
  cases h1:Dq 95<;>cases h2:FF 95<;>simp[G5,FE hL,Oi hL,CV,h1,h2]
 ·cases h1:Dq b<;>cases h2:FF b<;>simp[G5,FE hL,Oi hL,CV,h1,h2,h3]
theorem Ok (s:Str) (h:List PObj):wj L 143 [.str s] h=some (.bool (Hr s),h):=by
 refine wD (hL 143 _ rfl) rfl ?_
 simp[Jt]
 repeat' split
 all_goals simp_all [Hr,Ol]
end
theorem list_eq {α:Type} {a b:List α} (hl:a.length=b.length) (h:∀k,k<a.length→a[k]? = b[k]?):a=b:=by
 apply bL
 intro k
 by_cases hk:k<a.length
 ·exact h k hk
 ·rw[cD (by omega),cD (by omega)]
theorem Om {α:Type} {l:List α} {p:α→Bool} (h:∀k (hk:k<l.length),p l[k]=true):l.all p=true:=by
 rw[aK]
 intro x hx
 obtain⟨k,hk,rfl⟩:=bR.1 hx
 exact h k hk
theorem Oo {α:Type} {l:List α} {p:α→Bool} {i:Nat} (hi:i<l.length) (h:p l[i]=false):l.all p=false:=by
 rw[Bool.eq_false_iff]
 intro e
 have:=aK.1 e _ (aj hi)
 rw[h] at this; simp at this
section
variable {L:Nat→Option PFunc} (hL:∀k f,LS k=some f→L k=some f)
include hL
theorem Oq (s:Str) (h:List PObj):wj L 118 [.str s] h=some (.bool (zY s),h):=by
 refine wD (hL 118 _ rfl) rfl ?_
 cases s with
 | nil=>simp[Dj,zY]
 | cons c r =>
   by_cases cO:(c::r).length≤40
   ·have eb:¬(40:Int)<(r.length:Int)+1:=by simp at cO; omega
    cases hc:Dq c.toNat with
    | false=>simp[Dj,zY,eb,FE hL,hc]
    | true =>
      cases hk:Hr (c::r) with
      | true=>simp[Dj,zY,eb,FE hL,Ok hL,hc,hk]
      | false =>
        have fO:zY (c::r)=(c::r).all (λb=>CV b.toNat):=by
         simp[zY,hc,hk]; omega
        simp[Dj,eb,FE hL,Ok hL,hc,hk]
        generalize hs:c::r=s at *
        have nU:(r.length:Int)+1=(s.length:Int):=by rw[← hs]; simp
        rw[nU]
        refine c5n s.length (λi=>CV (s.getD i 0).toNat) (λi (x:PV)=>[(2,x),(4,.int .i64 i)]) (λ_ _=>h) .dead ?_ ?_ ?_ rfl rfl
        ·intro i hi dc x ih
         have hw:=wF i (by omega)
         simp[hi,List.getD] at dc
         simp[hi,hw,Oj hL,dc]
         simpa using ih _
        ·intro i hi dc hk x
         have hx:=Oo (p:=λb:UInt8=>CV b.toNat) hi (by simpa[hi,List.getD] using dc)
         simp[hi,List.getD] at dc
         simp[hi,Oj hL,dc,fO,hx]
        ·intro dc x
         have hx:s.all (λb=>CV b.toNat)=true:=Om (λk hk=>by have:=dc k hk; simpa[hk,List.getD] using this)
         simp[fO,hx]
   ·have eb:(40:Int)<(r.length:Int)+1:=by simp at cO; omega
    simp[Dj,zY,eb]
    omega
end
@[simp] theorem d2T:PV.agg [.str [],.list false []]=wA ⟨[],[]⟩:=rfl
section
variable {L:Nat→Option PFunc} (hL:∀k f,LS k=some f→L k=some f)
include hL
theorem c0r (en:List Enum) (t:Int) (ht:AB t) (o:Bool) (h:List PObj):wj L 145 [.list o (en.map wA),.int .i64 t] h=some (.tuple [wA ((B6 en t).getD ⟨[],[]⟩),.bool (B6 en t).isSome],h):=by
 refine wD (hL 145 _ rfl) rfl ?_
 rcases c4l t with h3|⟨k,rfl⟩
 ·simp[Fj,h3,c19 h3]
 ·have hw:IntKind.i64.wrap (k:Int)=k:=by rw[CP]<;>omega
  have h3:¬(k:Int)+3<3:=by omega
  by_cases hk:k<en.length
  ·have ey:¬(en.length:Int)≤k:=by omega
   simp[Fj,h3,hw,ey,hk,c2a hk]
  ·have ey:(en.length:Int)≤k:=by omega
   simp[Fj,h3,hw,ey,c0A (show en.length≤k by omega)]
theorem Ht (en:List Enum) (t:Int) (ht:AB t) (o:Bool) (h:List PObj):wj L 119 [.list o (en.map wA),.int .i64 t] h=some (.int .i64 (yj en t),h):=by
 refine wD (hL 119 _ rfl) rfl ?_
 by_cases h1:t=1
 ·subst h1; simp[Fe,yj]
 ·by_cases h2:t=2
  ·subst h2; simp[Fe,yj]
  ·have:=c0r hL en t ht false []
   cases he:B6 en t<;>simp[Fe,yj,h1,h2,this,he]
theorem c6Z (v:Int) (h:List PObj):wj L 146 [.int .i64 v] h=some (.bool (decide (-32768≤v∧v≤32767)),h):=by
 refine wD (hL 146 _ rfl) rfl ?_
 by_cases h1 : -32768≤v<;>by_cases h2:v≤32767<;>simp[Ju,h1,h2]
theorem FM (en:List Enum) (t v:Int) (ht:AB t) (o:Bool) (h:List PObj):wj L 120 [.list o (en.map wA),.int .i64 t,.int .i64 v] h=some (.bool (Cu en t v),h):=by
 refine wD (hL 120 _ rfl) rfl ?_
 by_cases h2:t=2
 ·subst h2; simp[Ff,Cu,c6Z hL]
 ·by_cases h0:0≤v
  ·simp[Ff,Cu,h2,h0,Ht hL en t ht false []]
  ·simp[Ff,Cu,h2,h0]
end
end PI.Sc
set_option linter.unusedSimpArgs false
set_option linter.unusedVariables false
namespace PI
open Go (IntKind BinOp UnOp)
section
variable {L:Nat→Option PFunc} {V l:List PV} {g:Nat} {h:List PObj} {Q:PExit→St→Prop}
def Ly (st:St):Option (Out×List PObj)→Option (PExit×St)
 | some (.val _, h') => match h'[st.heap.length]? with
   | some (.loop true)=>some (.normal,{ st with heap:=h'.set st.heap.length .gone })
   | some (.over (some id))=>some (.exit id,{ st with heap:=h'.set st.heap.length .gone })
   | some (.over none)=>some (.ret,{ st with heap:=h'.set st.heap.length .gone })
   | _=>none
 | some (.boom v,h')=>some (.boom v,{ st with heap:=h' })
 | none=>none
theorem c0R {x:PX} {kb:Nat} {caps:List PX} {st:St} {k:Nat} {first captured cs:List PV} (hx:rd st x=some (.func k first captured)) (hc:rdAll st caps=some cs) (hn:CG L k=true):
  evL L (.rangeF x kb caps) st=Ly st (wK L k (first ++ .func kb (.ptr st.heap.length 0::cs) []::captured) (st.heap++[.loop true])):=by
 refine Bl λr =>?_
 rw[Ce]
 simp only[wn,hx,hc,hn,Bool.true_eq_false,if_false]
 constructor
 ·rintro⟨n,h⟩
  split at h
  ·rename_i h1
   have h2:wK L k (first ++ .func kb (.ptr st.heap.length 0::cs) []::captured) (st.heap++[.loop true])=_:=CB.2 ⟨n,h1⟩
   rw[h2]; exact h
  ·rename_i h1
   have h2:wK L k (first ++ .func kb (.ptr st.heap.length 0::cs) []::captured) (st.heap++[.loop true])=_:=CB.2 ⟨n,h1⟩
   rw[h2]; exact h
  ·simp at h
 ·intro h
  cases ho:wK L k (first ++ .func kb (.ptr st.heap.length 0::cs) []::captured) (st.heap++[.loop true]) with
  | none=>rw[ho] at h; simp[Ly] at h
  | some p =>
    obtain⟨n,hn⟩:=CB.1 ho
    refine⟨n,?_⟩
    rw[ho] at h
    have jc:yc (wn L n) L k (first ++ .func kb (.ptr st.heap.length 0::cs) []::captured) (st.heap++[.loop true])=some p:=hn
    rw[jc]
    obtain⟨o,h'⟩:=p
    cases o<;>exact h
def A3 (V l:List PV) (g n:Nat) (Q:PExit→St→Prop):Out×List PObj→Prop
 | (.val _, h') => match h'[n]? with
   | some (.loop true)=>Q .normal ⟨V,l,g,h'.set n .gone⟩
   | some (.over (some id))=>Q (.exit id) ⟨V,l,g,h'.set n .gone⟩
   | some (.over none)=>Q .ret ⟨V,l,g,h'.set n .gone⟩
   | _=>False
 | (.boom v,h')=>Q (.boom v) ⟨V,l,g,h'⟩
theorem c0S {x:PX} {kb:Nat} {caps:List PX} {k:Nat} {first captured cs:List PV} {r:Out×List PObj} (hx:rd ⟨V,l,g,h⟩ x=some (.func k first captured)) (hc:rdAll ⟨V,l,g,h⟩ caps=some cs) (hn:CG L k=true)
  (ho:wK L k (first ++ .func kb (.ptr h.length 0::cs) []::captured) (h++[.loop true])=some r) (hq:A3 V l g h.length Q r):wpL L (.rangeF x kb caps) ⟨V,l,g,h⟩ Q:=by
 have he:=c0R (kb:=kb) (st:=⟨V,l,g,h⟩) hx hc hn
 simp only at he
 rw[ho] at he
 obtain⟨o,h'⟩:=r
 unfold wpL
 rw[he]
 cases o with
 | boom v=>exact hq
 | val v =>
   simp only[A3] at hq
   simp only[Ly]
   split at hq<;>first|exact hq.elim|skip
   all_goals (rename_i h1; simp only[h1]; exact hq)
def DH (n:Nat) (r:Out×List PObj):PExit→St→Prop
 | .normal,st=>st.heap[n]? = some (.loop false)∧r=(.val (.bool true),st.heap.set n (.loop true))
 | .boom v,st=>r=(.boom v,st.heap)
 | .exit id,st=>st.heap[n]? = some (.loop false)∧r=(.val (.bool false),st.heap.set n (.over (some id)))
 | .ret,st=>st.heap[n]? = some (.loop false)∧r=(.val (.bool false),st.heap.set n (.over none))
 | .after ..,_=>False
@[simp] theorem c4x (n:Nat) (r:Out×List PObj):DH n r .normal ⟨V,l,g,h⟩=(h[n]? = some (.loop false)∧r=(.val (.bool true),h.set n (.loop true))):=rfl
@[simp] theorem c7z (n:Nat) (r:Out×List PObj) (v:PV):DH n r (.boom v) ⟨V,l,g,h⟩=(r=(.boom v,h)):=rfl
@[simp] theorem c7A (n:Nat) (r:Out×List PObj) (id:Nat):DH n r (.exit id) ⟨V,l,g,h⟩=(h[n]? = some (.loop false)∧r=(.val (.bool false),h.set n (.over (some id)))):=rfl
@[simp] theorem c82 (n:Nat) (r:Out×List PObj):DH n r .ret ⟨V,l,g,h⟩=(h[n]? = some (.loop false)∧r=(.val (.bool false),h.set n (.over none))):=rfl
def Qv (L:Nat→Option PFunc) (b:PC) (n:Nat) (r:Out×List PObj):PExit→St→Prop
 | .normal,st=>st.heap[n]? = some (.loop true)∧wpL L b { st with heap:=st.heap.set n (.loop false) } (DH n r)
 | _,_=>False
@[simp] theorem c4y (b:PC) (n:Nat) (r:Out×List PObj):Qv L b n r .normal ⟨V,l,g,h⟩=(h[n]? = some (.loop true)∧wpL L b ⟨V,l,g,h.set n (.loop false)⟩ (DH n r)):=rfl
theorem FL {k:Nat} {f:PFunc} {a b:PC} {n:Nat} {as:List PV} {hp:List PObj} {r:Out×List PObj} (hf:L k=some f) (kq:f.code = .round a b) (hl:as.length+1=f.params) (hn:hp[n]? = some (.loop true))
  (hw:wpL L a ⟨as.map dem++List.replicate (f.nv - as.length) .dead,[],0,hp⟩ (Qv L b n r)) (hs:f.split=false:=by rfl) (fE:f.prim=none:=by rfl):wK L k (.ptr n 0::as) hp=some r:=by
 refine Qw hf (by simpa using hl) ?_ hs fE
 unfold zw
 rw[kq]
 simp only[BP,hn]
 rw[B8] at hw
 obtain⟨e,st,h1,h2⟩:=hw
 rw[h1]
 cases e with
 | normal =>
   obtain⟨h3,h4⟩:=h2
   rw[B8] at h4
   obtain⟨e2,st2,h5,h6⟩:=h4
   simp only[h3,h5]
   cases e2 with
   | normal=>obtain⟨h7,rfl⟩:=h6; simp only[h7]
   | boom v=>simp only[DH] at h6; subst h6; rfl
   | exit id=>obtain⟨h7,rfl⟩:=h6; simp only[h7]
   | ret=>obtain⟨h7,rfl⟩:=h6; simp only[h7]
   | after kd cs v=>exact h6.elim
 | exit id=>exact h2.elim
 | ret=>exact h2.elim
 | boom v=>exact h2.elim
 | after kd cs v=>exact h2.elim
end
end PI
set_option linter.unusedSimpArgs false
set_option linter.unusedVariables false
namespace PI.Sc
open Go (IntKind BinOp UnOp)
section
variable {L:Nat→Option PFunc} {Q:PExit→St→Prop}
theorem b6y {α:Type} {f:α→Int} {l:List α} {i:Nat} (hi:i<l.length) (h:f l[i]≠0) (hk:∀k (hk:k<l.length),k<i→f l[k]=0):wr f l=f l[i]:=
 N9 hi h λk h1=>hk k (by omega) h1
theorem zX {α γ:Type} {c:PC} {V:List PV} {g:Nat} {h:List PObj} (l:List α) (f:α→Int) (M:Nat→γ→List (Nat×PV)) (G:Nat→γ→Nat) (H:Nat→γ→List PObj) (x0:γ)
  (step:∀i (hi:i<l.length),f l[i]=0→∀x,(∀y,wpL L (.loop c) ⟨upd V (M (i+1) y),[],G (i+1) y,H (i+1) y⟩ Q)→wpL L c ⟨upd V (M i x),[],G i x,H i x⟩ (xY L c Q))
  (fail:∀i (hi:i<l.length),f l[i]≠0→wr f l=f l[i]→∀x,wpL L c ⟨upd V (M i x),[],G i x,H i x⟩ (xY L c Q))
  (last:wr f l=0→∀x,wpL L c ⟨upd V (M l.length x),[],G l.length x,H l.length x⟩ (xY L c Q)) (hV:upd V (M 0 x0)=V) (hG:G 0 x0=g) (hH:H 0 x0=h):wpL L (.loop c) ⟨V,[],g,h⟩ Q:=by
 refine Kl l.length (λi=>if h:i<l.length then decide (f l[i]=0) else true) M G H x0 ?_ ?_ ?_ hV hG hH
 ·intro i hi dc x ih
  simp only[hi,dif_pos,aw] at dc
  exact step i hi dc x ih
 ·intro i hi dc hk x
  simp only[hi,dif_pos,cq] at dc
  refine fail i hi dc (b6y hi dc λk h1 h2 =>?_) x
  have:=hk k h2
  simp only[h1,dif_pos,aw] at this
  exact this
 ·intro dc x
  refine last (yS.2 ?_) x
  intro y hy
  obtain⟨k,hk,rfl⟩:=bR.1 hy
  have:=dc k hk
  simp only[hk,dif_pos,aw] at this
  exact this
theorem Oa {α γ:Type} {c:PC} {V:List PV} {g:Nat} {h:List PObj} (l:List α) (f:α→Int) (M:Nat→γ→List (Nat×PV)) (x0:γ)
  (step:∀i (hi:i<l.length),f l[i]=0→∀x,(∀y,wpL L (.loop c) ⟨upd V (M (i+1) y),[],g,h⟩ Q)→wpL L c ⟨upd V (M i x),[],g,h⟩ (xY L c Q))
  (fail:∀i (hi:i<l.length),f l[i]≠0→wr f l=f l[i]→∀x,wpL L c ⟨upd V (M i x),[],g,h⟩ (xY L c Q))
  (last:wr f l=0→∀x,wpL L c ⟨upd V (M l.length x),[],g,h⟩ (xY L c Q)) (hV:upd V (M 0 x0)=V):wpL L (.loop c) ⟨V,[],g,h⟩ Q:=
 zX l f M (λ_ _=>g) (λ_ _=>h) x0 step fail last hV rfl rfl
theorem c30 {γ:Type} {c:PC} {V:List PV} {g:Nat} {h:List PObj} (n:Nat) (M:Nat→γ→List (Nat×PV)) (G:Nat→γ→Nat) (H:Nat→γ→List PObj) (x0:γ)
  (step:∀i,i<n→∀x,(∀y,wpL L (.loop c) ⟨upd V (M (i+1) y),[],G (i+1) y,H (i+1) y⟩ Q)→wpL L c ⟨upd V (M i x),[],G i x,H i x⟩ (xY L c Q))
  (last:∀x,wpL L c ⟨upd V (M n x),[],G n x,H n x⟩ (xY L c Q)) (hV:upd V (M 0 x0)=V) (hG:G 0 x0=g) (hH:H 0 x0=h):wpL L (.loop c) ⟨V,[],g,h⟩ Q:=
 Kl n (λ_=>true) M G H x0 (λi hi _=>step i hi) (λ_ _ h=>by simp at h) (λ_=>last) hV hG hH
end
theorem xc {L:Nat→Option PFunc} {c:PC} {Q:PExit→St→Prop} (n:Nat) (Inv:Nat→St→Prop) {st:St}
  (step:∀i,i<n→∀st,Inv i st→(∀st',Inv (i+1) st'→wpL L (.loop c) st' Q)→wpL L c st (xY L c Q))
  (last:∀st,Inv n st→wpL L c st (xY L c Q)) (h0:Inv 0 st):wpL L (.loop c) st Q:=by
 have key:∀k i st,i+k=n→Inv i st→wpL L (.loop c) st Q:=by
  intro k
  induction k with
  | zero =>
    intro i st hi hh
    have:i=n:=by omega
    subst this
    rw[Bf]
    exact last st hh
  | succ k ih =>
    intro i st hi hh
    rw[Bf]
    exact step i (by omega) st hh λst' h'=>ih (i+1) st' (by omega) h'
 exact key n 0 st (by omega) h0
end PI.Sc
set_option maxRecDepth 100000
set_option linter.unusedSimpArgs false
set_option linter.unusedVariables false
namespace PI.Sc
open Go (IntKind BinOp UnOp)
theorem zL {α:Type} {l:List α} {i:Nat} (h:i<l.length):l.take (i+1)=l.take i++[l[i]]:=by rw[bl,al h]; rfl
theorem parts_eq (e:Expr):e.parts=1+wx Expr.parts e.args:=by
 unfold Expr.parts
 rw[Expr.list_eq]
 have:∀l:List Expr,(l.flatMap Expr.list).length=wx (λx=>x.list.length) l:=by
  intro l
  induction l with
  | nil=>rfl
  | cons x l ih=>simp only[aG,ap,wx,ih]
 simp only[aI,this]
 show _=1+wx (λe=>e.list.length) e.args
 omega
theorem c1X (e:Expr):1≤e.parts:=by rw[parts_eq]; omega
theorem J6 (e:Expr):e.args.length<e.parts:=by
 have:=Hp Expr.parts c1X e.args
 rw[parts_eq]; omega
theorem J7 {e x:Expr} (h:x∈e.args):x.parts<e.parts:=by
 have:=Ci Expr.parts h
 rw[parts_eq e]; omega
theorem E2 (n:Nat) (h:n≤9223372036854775807):IntKind.i64.wrap (n:Int)=n:=CP _ (by omega) (by omega)
theorem Oh {e:Expr} (h:e.parts≤1100000):e.size=e.parts:=by unfold Expr.size; exact E2 _ (by unfold Expr.parts at h; omega)
def EW (e:Expr):Prop:=∀x∈e.list,AB x.t∧AB x.v∧x.args.length≤140737488355328
theorem EW.self {e:Expr} (h:EW e):AB e.t∧AB e.v∧e.args.length≤140737488355328:=h e (by rw[Expr.list_eq]; simp)
theorem EW.arg {e x:Expr} (h:EW e) (hx:x∈e.args):EW x:=λy hy=>h y (by rw[Expr.list_eq]; exact bx _ (bM.2 ⟨x,hx,hy⟩))
theorem EW.mem {e x:Expr} (h:EW e) (hx:x∈e.list):EW x:=by
 induction e using Expr.ind with
 | h e ih =>
   rw[Expr.list_eq] at hx
   rcases aC.1 hx with rfl|hx
   ·exact h
   ·obtain⟨y,hy,hx⟩:=bM.1 hx
    exact ih y hy (h.arg hy) hx
@[simp] theorem d7r (a b:Int):(a==b)=decide (a=b):=by rw[aS]; simp
@[simp] theorem d7s (a b:Int):(a != b) = !decide (a=b):=by rw[aS]; simp
@[simp] theorem d7t (a b:Str):(a==b)=decide (a=b):=by rw[aS]; simp
@[simp] theorem d7u (a b:Str):(a != b) = !decide (a=b):=by rw[aS]; simp
@[simp] theorem d7v (a b:Bool):(a==b)=decide (a=b):=by cases a<;>cases b<;>rfl
theorem OD (k:Int):k<1∨k=1∨k=2∨k=3∨k=4∨k=5∨k=6∨k=7∨k=8∨k=9∨k=10∨k=11∨11<k:=by omega
@[simp] theorem d0Z (cs:List PV):(PV.agg cs).cells=cs:=rfl
def yL (s:Str):List PV:=s.map λb => .bool (b==49)
theorem OB (b:UInt8):yB b=true↔b.toNat=48∨b.toNat=49:=by
 unfold yB
 simp only[bH,br,← UInt8.toNat_inj]
 rfl
theorem d5D (b:UInt8):(b==49)=decide ((b.toNat:Int)=49):=by
 rw[aS,br,aw,← UInt8.toNat_inj]
 show b.toNat=49↔_
 omega
theorem Kq (s:Str):wz (yL s)=true:=by unfold yL; exact Bi (λ_=>rfl) s
theorem OC (s:Str):(yL s).length=s.length:=by simp[yL]
class TF (p:Prop) (r:outParam Prop):Prop where
 fact:p→r
instance (priority:=low) tfPos (p:Prop):TF p (p=True):=⟨eq_true⟩
instance tfNeg (p:Prop):TF (¬p) (p=False):=⟨eq_false⟩
theorem tf {p r:Prop} [TF p r] (h:p):r:=TF.fact h
theorem kfs {k c:Int} (h:k=c):(k=1)=(c=1)∧(k=2)=(c=2)∧(k=3)=(c=3)∧(k=4)=(c=4)∧(k=5)=(c=5)∧(k=6)=(c=6)∧(k=7)=(c=7)∧(k=8)=(c=8)∧(k=9)=(c=9)∧(k=10)=(c=10)∧(k=11)=(c=11)∧(k<1)=(c<1)∧(11<k)=(11<c)∧(1≤k)=(1≤c)∧(k≤11)=(c≤11):=by subst h; simp
end PI.Sc
set_option maxRecDepth 100000
set_option linter.unusedSimpArgs false
set_option linter.unusedVariables false
namespace PI.Sc
open Go (IntKind BinOp UnOp)
open Short
structure XW (e:Expr):Prop where
 parts:e.parts≤1100000
 ew:EW e
structure DW (d:Decl):Prop where
 type:AB d.type
 clock:d.clock.length≤1100000
 on:∀o∈d.clock,AB o.t
structure QW (q:Eqn):Prop where
 left:q.left.length≤1100000
 right:XW q.right
inductive SW:State→Prop
 | mk (s:State) (locals:s.locals.length≤1100000) (ls:∀d∈s.locals,DW d) (eqs:s.eqs.length≤1100000) (es:∀q∈s.eqs,QW q) (unl:s.unl.length≤1100000) (us:∀t∈s.unl,XW t.cond) (til:s.til.length≤1100000) (ts:∀t∈s.til,XW t.cond) (autos:s.autos.length≤1100000) (as:∀a∈s.autos,a.length≤1100000) (ss:∀a∈s.autos,∀x∈a,SW x):SW s
theorem SW.locals {s:State}:SW s→s.locals.length≤1100000 | .mk _ h .. => h
theorem SW.ls {s:State}:SW s→∀d∈s.locals,DW d | .mk _ _ h .. => h
theorem SW.eqs {s:State}:SW s→s.eqs.length≤1100000 | .mk _ _ _ h .. => h
theorem SW.es {s:State}:SW s→∀q∈s.eqs,QW q | .mk _ _ _ _ h .. => h
theorem SW.unl {s:State}:SW s→s.unl.length≤1100000 | .mk _ _ _ _ _ h .. => h
theorem SW.us {s:State}:SW s→∀t∈s.unl,XW t.cond | .mk _ _ _ _ _ _ h .. => h
theorem SW.til {s:State}:SW s→s.til.length≤1100000 | .mk _ _ _ _ _ _ _ h .. => h
theorem SW.ts {s:State}:SW s→∀t∈s.til,XW t.cond | .mk _ _ _ _ _ _ _ _ h .. => h
theorem SW.autos {s:State}:SW s→s.autos.length≤1100000 | .mk _ _ _ _ _ _ _ _ _ h .. => h
theorem SW.as {s:State}:SW s→∀a∈s.autos,a.length≤1100000 | .mk _ _ _ _ _ _ _ _ _ _ h _=>h
theorem SW.ss {s:State}:SW s→∀a∈s.autos,∀x∈a,SW x | .mk _ _ _ _ _ _ _ _ _ _ _ h=>h
structure AsW (l:List (List State)):Prop where
 len:l.length≤1100000
 as:∀a∈l,a.length≤1100000
 ss:∀a∈l,∀x∈a,SW x
structure NW (n:Node):Prop where
 ins:n.ins.length≤1100000
 is:∀d∈n.ins,DW d
 outs:n.outs.length≤1100000
 os:∀d∈n.outs,DW d
 locals:n.locals.length≤1100000
 ls:∀d∈n.locals,DW d
 eqs:n.eqs.length≤1100000
 es:∀q∈n.eqs,QW q
 autos:AsW n.autos
 assume:n.assume.length≤1100000
 as:∀e∈n.assume,XW e
 ensure:n.ensure.length≤1100000
 gs:∀e∈n.ensure,XW e
structure PW (p:Prog):Prop where
 enums:p.enums.length≤1100000
 tags:∀u∈p.enums,u.tags.length≤1100000
 nodes:p.nodes.length≤1100000
 ns:∀n∈p.nodes,NW n
section
variable {L:Nat→Option PFunc} {Q:PExit→St→Prop}
theorem Ks {α γ:Type} {c:PC} {V:List PV} {g:Nat} {h:List PObj} (l:List α) (ok:Nat→α→Bool) (M:Nat→γ→List (Nat×PV)) (G:Nat→γ→Nat) (H:Nat→γ→List PObj) (x0:γ)
  (step:∀i (hi:i<l.length),ok i l[i]=true→∀x,(∀y,wpL L (.loop c) ⟨upd V (M (i+1) y),[],G (i+1) y,H (i+1) y⟩ Q)→wpL L c ⟨upd V (M i x),[],G i x,H i x⟩ (xY L c Q))
  (fail:∀i (hi:i<l.length),ok i l[i]=false→(∀k (hk:k<l.length),k<i→ok k l[k]=true)→∀x,wpL L c ⟨upd V (M i x),[],G i x,H i x⟩ (xY L c Q))
  (last:(∀k (hk:k<l.length),ok k l[k]=true)→∀x,wpL L c ⟨upd V (M l.length x),[],G l.length x,H l.length x⟩ (xY L c Q)) (hV:upd V (M 0 x0)=V) (hG:G 0 x0=g) (hH:H 0 x0=h):wpL L (.loop c) ⟨V,[],g,h⟩ Q:=by
 refine Kl l.length (λi=>if h:i<l.length then ok i l[i] else true) M G H x0 ?_ ?_ ?_ hV hG hH
 ·intro i hi dc x ih
  simp only[hi,dif_pos] at dc
  exact step i hi dc x ih
 ·intro i hi dc hk x
  simp only[hi,dif_pos] at dc
  refine fail i hi dc (λk h1 h2 =>?_) x
  have:=hk k h2
  simpa only[h1,dif_pos] using this
 ·intro dc x
  refine last (λk hk =>?_) x
  have:=dc k hk
  simpa only[hk,dif_pos] using this
theorem c4g {α γ:Type} {c:PC} {V:List PV} {g:Nat} {h:List PObj} (l:List α) (ok:Nat→α→Bool) (M:Nat→γ→List (Nat×PV)) (x0:γ)
  (step:∀i (hi:i<l.length),ok i l[i]=true→∀x,(∀y,wpL L (.loop c) ⟨upd V (M (i+1) y),[],g,h⟩ Q)→wpL L c ⟨upd V (M i x),[],g,h⟩ (xY L c Q))
  (fail:∀i (hi:i<l.length),ok i l[i]=false→(∀k (hk:k<l.length),k<i→ok k l[k]=true)→∀x,wpL L c ⟨upd V (M i x),[],g,h⟩ (xY L c Q))
  (last:(∀k (hk:k<l.length),ok k l[k]=true)→∀x,wpL L c ⟨upd V (M l.length x),[],g,h⟩ (xY L c Q)) (hV:upd V (M 0 x0)=V):wpL L (.loop c) ⟨V,[],g,h⟩ Q:=
 Ks l ok M (λ_ _=>g) (λ_ _=>h) x0 step fail last hV rfl rfl
end
theorem OL {α:Type} {f:α→Int}:∀{l:List α} {i j:Nat} (hi:i<l.length),f l[i]≠0→(∀k (hk:k<l.length),k<i→f l[k]=0)→zh f l j=some (j+i,f l[i])
 | [],i,j,hi,_,_=>by simp at hi
 | x::l,0,j,hi,h,_=>by simp only[bK] at h; simp[zh,h]
 | x :: l, i + 1, j, hi, h, hk => by
   have h0:=hk 0 (by simp) (by omega)
   simp only[bK] at h0
   simp only[bS] at h
   simp only[zh,h0,if_true,bS]
   rw[OL (l:=l) (i:=i) (by simpa using hi) h (λk dh h1=>by have:=hk (k+1) (by simpa using dh) (by omega); simpa using this)]
   congr 2; omega
theorem OM {en:List Enum}:∀{l:List Node} {i j:Nat} (hi:i<l.length) {b:Bad},yr en l[i] (j+i)=some b→(∀k (hk:k<l.length),k<i→yr en l[k] (j+k)=none)→zg en l j=some b
 | [],i,j,hi,b,_,_=>by simp at hi
 | x::l,0,j,hi,b,h,_=>by simp only[bK,bq] at h; simp[zg,h]
 | x :: l, i + 1, j, hi, b, h, hk => by
   have h0:=hk 0 (by simp) (by omega)
   simp only[bK,bq] at h0
   simp only[bS] at h
   simp only[zg,h0]
   exact OM (l:=l) (i:=i) (by simpa using hi) (by rw[show j+1+i=j+(i+1) by omega]; exact h) (λk dh h1=>by have:=hk (k+1) (by simpa using dh) (by omega); rw[show j+1+k=j+(k+1) by omega]; simpa using this)
theorem ON {en:List Enum}:∀{l:List Node} {j:Nat},(∀k (hk:k<l.length),yr en l[k] (j+k)=none)→zg en l j=none
 | [],j,_=>rfl
 | x :: l, j, h => by
   have h0:=h 0 (by simp)
   simp only[bK,bq] at h0
   simp only[zg,h0]
   exact ON (λk hk=>by have:=h (k+1) (by simpa using hk); rw[show j+1+k=j+(k+1) by omega]; simpa using this)
def ze (b:Bad):PV := .tuple [.agg [.int .i64 b.node,.int .i64 b.eq],.int .i64 b.err]
def ePl (en:List Enum) (ns:List Node) (i:Int) (v x t:List Str):PV := .agg [.list false (en.map wA),.list false (ns.map wE),.int .i64 i,.list false (v.map .str),.list false (x.map .str),.list false (t.map .str)]
section
variable (en:List Enum) (ns:List Node) (i:Int) (v x t:List Str)
theorem c68:ePl en ns i v x t = .agg [.list false (en.map wA),.list false (ns.map wE),.int .i64 i,.list false (v.map .str),.list false (x.map .str),.list false (t.map .str)]:=rfl
@[simp] theorem d00:(ePl en ns i v x t).cells=[.list false (en.map wA),.list false (ns.map wE),.int .i64 i,.list false (v.map .str),.list false (x.map .str),.list false (t.map .str)]:=rfl
@[simp] theorem d5n:cp (ePl en ns i v x t)=some (ePl en ns i v x t):=rfl
@[simp] theorem d4o:tkv (ePl en ns i v x t)=some (ePl en ns i v x t,false):=rfl
@[simp] theorem c5z:Ax (ePl en ns i v x t)=some (ePl en ns i v x t).cells:=rfl
@[simp] theorem d4p:dem (ePl en ns i v x t)=ePl en ns i v x t:=rfl
@[simp] theorem d2V:zj (ePl en ns i v x t)=ePl en ns i v x t:=rfl
@[simp] theorem d2W:xi (ePl en ns i v x t)=none:=rfl
@[simp] theorem c4h:PV.agg [.list false (en.map wA),.list false (ns.map wE),.int .i64 i,.list false (v.map .str),.list false (x.map .str),.list false (t.map .str)]=ePl en ns i v x t:=rfl
@[simp] theorem d2X:wB (ePl en ns i v x t)=true:=by rw[c68]; simp[-c4h]
end
@[simp] theorem d2Y:PV.agg [.str [],.list false [],.list false [],.list false [],.list false [],.list false [],.list false [],.list false []]=wE ⟨[],[],[],[],[],[],[],[]⟩:=rfl
theorem State.ind {P:State→Prop} (h:∀s:State,(∀a∈s.autos,∀x∈a,P x)→P s):∀s,P s:=by
 intro s
 refine State.rec (motive_1:=P) (motive_2:=λl:List (List State)=>∀a∈l,∀x∈a,P x) (motive_3:=λl:List State=>∀x∈l,P x) ?_ ?_ ?_ ?_ ?_ s
 ·intro n l e a u w ih; exact h _ ih
 ·simp
 ·intro a l h1 h2 b hb x hx
  rcases aC.1 hb with rfl|hb
  ·exact h1 x hx
  ·exact h2 b hb x hx
 ·simp
 ·intro x l h1 h2 y hy
  rcases aC.1 hy with rfl|hy
  ·exact h1
  ·exact h2 y hy
def yQ (s:Place) (d:List Str) (x:List State):EN:=
 if ¬(x.map (·.name)).Nodup then(7,[])
 else if (yg s d x).1≠0 then((yg s d x).1,[])
 else if (yg s d x).2.all (λl=>B3 l ((yg s d x).2.headD [])) then(0,(yg s d x).2.headD [])
 else(8,[])
theorem IN (s:Place) (d:List Str) (x:List State) (xs:List (List State)):xe s d (x::xs)=yd (yQ s d x) λl=>xe s (d++l) xs:=by
 simp only[xe,yQ]
 by_cases h1:(x.map (·.name)).Nodup
 ·simp only[h1,bA,if_false]
  by_cases h2:(yg s d x).1=0
  ·simp only[h2,ne_eq,bA,if_false]
   split
   ·rfl
   ·exact(Ak (a:=(8,[])) (by decide) _).symm
  ·simp only[h2,ne_eq,cy,if_true]
   exact(Ak (a:=((yg s d x).1,[])) h2 _).symm
 ·simp only[h1,cy,if_true]
  exact(Ak (a:=(7,[])) (by decide) _).symm
theorem Ot {s:Place} {d:List Str}:∀{l:List State},(∀x∈l,(zW s d x).1=0)→yg s d l=(0,l.map λx=>(zW s d x).2)
 | [],_=>rfl
 | x :: l, h => by
   have h1:=h x (by simp)
   have h2:=Ot (l:=l) (λy hy=>h y (by simp[hy]))
   simp only[yg,h1,if_true,h2,ax]
theorem Ou {s:Place} {d:List Str}:∀{l:List State} {i:Nat} (hi:i<l.length),(zW s d l[i]).1≠0→(∀k (hk:k<l.length),k<i→(zW s d l[k]).1=0)→yg s d l=((zW s d l[i]).1,[])
 | [],i,hi,_,_=>by simp at hi
 | x :: l, 0, hi, h, _ => by
   simp only[bK] at h
   simp only[yg,bK]
   rw[af h]
 | x :: l, i + 1, hi, h, hk => by
   have h0:=hk 0 (by simp) (by omega)
   simp only[bK] at h0
   simp only[bS] at h
   have ih:=Ou (l:=l) (i:=i) (by simpa using hi) h (λk dh h1=>by have:=hk (k+1) (by simpa using dh) (by omega); simpa using this)
   simp only[yg,h0,if_true,ih,bS]
   rw[af h]
theorem Kn {α:Type}:∀{l:List α},l.Nodup↔∀i (hi:i<l.length),l[i]∉l.take i:=by
 intro l
 rw[List.nodup_iff_pairwise_ne,List.pairwise_iff_getElem]
 constructor
 ·intro h i hi hm
  obtain⟨j,hj,e⟩:=bR.1 hm
  have pN:j<i:=by simp at hj; omega
  simp only[List.getElem_take] at e
  exact h j i (by omega) hi pN e
 ·intro h i j hi hj mo e
  refine h j hj ?_
  rw[← e,List.mem_take_iff_getElem]
  exact⟨i,by omega,rfl⟩
theorem Defs.len {s:Place} {d xs:List Str} (h:Defs s d xs):xs.length≤s.vis.length:=Kk _ _ h.2 λx hx=>(h.1 x hx).1
theorem State.parts_eq (x:State):x.parts=1+wx Decl.parts x.locals+wx Eqn.parts x.eqs+wx Trn.parts x.unl+wx Trn.parts x.til+Al x.autos:=by
 cases x; simp only[State.parts,State.locals_mk,State.eqs_mk,State.autos_mk,State.unl_mk,State.til_mk]
def Sub (d vis:List Str):Prop:=d.Nodup∧∀y∈d,y∈vis
theorem Sub.len {d vis:List Str} (h:Sub d vis):d.length≤vis.length:=Kk _ _ h.1 h.2
theorem Sub.app {s:Place} {d xs:List Str} (h:Sub d s.vis) (hx:Defs s d xs):Sub (d++xs) s.vis:=by
 refine⟨Hn.2 ⟨h.1,hx.2,λx hm=>(hx.1 x hm).2.2⟩,λy hy =>?_⟩
 rcases ay.1 hy with h1|h1
 ·exact h.2 y h1
 ·exact(hx.1 y h1).1
theorem Mm {α:Type} {T l:List α}:(T++l).Nodup↔T.Nodup∧∀k (hk:k<l.length),l[k]∉T++l.take k:=by
 rw[Hn,Kn (l:=l)]
 constructor
 ·rintro⟨h1,h2,h3⟩
  refine⟨h1,λk hk hm =>?_⟩
  rcases ay.1 hm with h|h
  ·exact h3 _ (aj hk) h
  ·exact h2 k hk h
 ·rintro⟨h1,h2⟩
  refine⟨h1,λk hk hm=>h2 k hk (b6 _ hm),λx hx hm =>?_⟩
  obtain⟨k,hk,rfl⟩:=bR.1 hx
  exact h2 k hk (b9 _ hm)
def Cj (en:List Enum) (i:Nat) (u:Enum):Bool:=decide (u.name∉(en.take i).map (·.name)∧(zz (en.take i)++u.tags).Nodup)
theorem GE {en:List Enum} {i:Nat} (h:i<en.length):zz (en.take (i+1))=zz (en.take i)++en[i].tags:=by unfold zz; rw[zL h,bP]; simp
theorem Mn {en:List Enum}:BV en=true↔∀i (hi:i<en.length),Cj en i en[i]=true:=by
 unfold BV Cj
 simp only[aw]
 constructor
 ·rintro⟨h1,h2⟩ i hi
  constructor
  ·have:=(Kn.1 h1) i (by simpa using hi)
   rw[← List.map_take] at this
   simpa using this
  ·rw[← GE hi]
   refine h2.sublist ?_
   unfold zz
   have:en.flatMap (·.tags)=(en.take (i+1)).flatMap (·.tags)++(en.drop (i+1)).flatMap (·.tags):=by rw[← bP,bX]
   rw[this]
   exact List.sublist_append_left _ _
 ·intro h
  constructor
  ·rw[Kn]
   intro i hi
   have:=(h i (by simpa using hi)).1
   rw[← List.map_take]; simpa using this
  ·cases hn:en.length with
   | zero=>have:en=[]:=bu.1 hn; subst this; simp[zz]
   | succ m =>
     have:=(h m (by omega)).2
     rw[← GE (by omega),← hn,aP] at this
     exact this
theorem c0o {en:List Enum} {i:Nat} (hi:i≤en.length) (h:∀k (hk:k<en.length),k<i→Cj en k en[k]=true):(zz (en.take i)).Nodup:=by
 cases i with
 | zero=>simp[zz]
 | succ i =>
   have:=h i (by omega) (by omega)
   unfold Cj at this
   simp only[aw] at this
   rw[GE (by omega)]; exact this.2
theorem b8m {p:Prog} {b:Bad} (hs:zM p=some b):b.err≠0:=by
 intro he
 unfold zM at hs
 split at hs
 ·simp only[aa] at hs; rw[← hs] at he; exact absurd he (by decide)
 ·split at hs
  ·rename_i h1; simp only[aa] at hs; rw[← hs] at he; exact h1 he
  ·have key:∀(l:List Node) (j:Nat),zg p.enums l j=some b→b.err≠0:=by
    intro l
    induction l with
    | nil=>intro j hj; simp[zg] at hj
    | cons n l ih =>
      intro j hj
      simp only[zg] at hj
      cases hn:yr p.enums n j with
      | none=>rw[hn] at hj; exact ih _ hj
      | some y =>
        rw[hn] at hj
        simp only[aa] at hj
        subst hj
        unfold yr at hn
        split at hn
        ·rename_i h1; simp only[aa] at hn; rw[← hn]; exact h1
        ·split at hn
         ·rename_i k e hf
          have:∀(l:List Eqn) (m:Nat),zh (zm p.enums) l m=some (k,e)→e≠0:=by
           intro l
           induction l with
           | nil=>intro m hm; simp[zh] at hm
           | cons q l ih2 =>
             intro m hm
             simp only[zh] at hm
             split at hm
             ·exact ih2 _ hm
             ·rename_i h2; simp only[aa,ac] at hm; rw[← hm.2]; exact h2
          simp only[aa] at hn; rw[← hn]; exact this _ _ hf
         ·split at hn
          ·rename_i h1; simp only[aa] at hn; rw[← hn]; exact h1
          ·simp at hn
   exact key _ _ hs he
structure DF (d:Decl):Prop where
 type:AB d.type
 clock:d.clock.length≤140737488355328
 name:d.name.length≤9223372036854775807
 on:∀o∈d.clock,AB o.t
structure QF (q:Eqn):Prop where
 left:q.left.length≤140737488355328
 right:EW q.right
inductive SF:State→Prop
 | mk (s:State) (locals:s.locals.length≤140737488355328) (ls:∀d∈s.locals,DF d) (eqs:s.eqs.length≤140737488355328) (es:∀q∈s.eqs,QF q) (unl:s.unl.length≤140737488355328) (us:∀t∈s.unl,EW t.cond) (til:s.til.length≤140737488355328) (ts:∀t∈s.til,EW t.cond) (autos:s.autos.length≤140737488355328) (as:∀a∈s.autos,a.length≤140737488355328) (ss:∀a∈s.autos,∀x∈a,SF x):SF s
theorem SF.locals {s:State}:SF s→s.locals.length≤140737488355328 | .mk _ h .. => h
theorem SF.ls {s:State}:SF s→∀d∈s.locals,DF d | .mk _ _ h .. => h
theorem SF.eqs {s:State}:SF s→s.eqs.length≤140737488355328 | .mk _ _ _ h .. => h
theorem SF.es {s:State}:SF s→∀q∈s.eqs,QF q | .mk _ _ _ _ h .. => h
theorem SF.unl {s:State}:SF s→s.unl.length≤140737488355328 | .mk _ _ _ _ _ h .. => h
theorem SF.us {s:State}:SF s→∀t∈s.unl,EW t.cond | .mk _ _ _ _ _ _ h .. => h
theorem SF.til {s:State}:SF s→s.til.length≤140737488355328 | .mk _ _ _ _ _ _ _ h .. => h
theorem SF.ts {s:State}:SF s→∀t∈s.til,EW t.cond | .mk _ _ _ _ _ _ _ _ h .. => h
theorem SF.autos {s:State}:SF s→s.autos.length≤140737488355328 | .mk _ _ _ _ _ _ _ _ _ h .. => h
theorem SF.as {s:State}:SF s→∀a∈s.autos,a.length≤140737488355328 | .mk _ _ _ _ _ _ _ _ _ _ h _=>h
theorem SF.ss {s:State}:SF s→∀a∈s.autos,∀x∈a,SF x | .mk _ _ _ _ _ _ _ _ _ _ _ h=>h
structure AsF (l:List (List State)):Prop where
 len:l.length≤140737488355328
 as:∀a∈l,a.length≤140737488355328
 ss:∀a∈l,∀x∈a,SF x
structure NF (n:Node):Prop where
 ins:n.ins.length≤140737488355328
 is:∀d∈n.ins,DF d
 outs:n.outs.length≤140737488355328
 os:∀d∈n.outs,DF d
 locals:n.locals.length≤140737488355328
 ls:∀d∈n.locals,DF d
 eqs:n.eqs.length≤140737488355328
 es:∀q∈n.eqs,QF q
 autos:AsF n.autos
 assume:n.assume.length≤140737488355328
 as:∀e∈n.assume,EW e
 ensure:n.ensure.length≤140737488355328
 gs:∀e∈n.ensure,EW e
structure PF (p:Prog):Prop where
 enums:p.enums.length≤140737488355328
 tags:∀u∈p.enums,u.tags.length≤140737488355328
 nodes:p.nodes.length≤140737488355328
 ns:∀n∈p.nodes,NF n
theorem Ov (c:UInt8):∀s:Str,c∉s→Go.Lib.indexByte s c = -1
 | [],_=>rfl
 | b :: s, h => by
   simp only[aC,not_or] at h
   have:(b==c)=false:=by simpa using λe=>h.1 e.symm
   simp[Go.Lib.indexByte,this,Ov c s h.2]
theorem Ow (c:UInt8):∀(a r:Str),c∉a→Go.Lib.indexByte (a++c::r) c=a.length
 | [],r,_=>by simp[Go.Lib.indexByte]
 | b :: a, r, h => by
   simp only[aC,not_or] at h
   have h1:(b==c)=false:=by simpa using λe=>h.1 e.symm
   have h2:=Ow c a r h.2
   simp only[aL,Go.Lib.indexByte,h1,aH,if_false,h2]
   have:((a.length:Int) == -1)=false:=by simp
   rw[this]; rfl
theorem c1K (c:UInt8) (s:Str):c∉s∨∃a r,s=a++c::r∧c∉a:=by
 induction s with
 | nil=>left; simp
 | cons b s ih =>
   by_cases hb:b=c
   ·exact .inr ⟨[],s,by simp[hb],by simp⟩
   ·rcases ih with h|⟨a,r,e,hn⟩
    ·exact .inl (by simp[Ne.symm hb,h])
    ·exact .inr ⟨b::a,r,by simp[e],by simp[Ne.symm hb,hn]⟩
theorem Ox {c:UInt8}:∀{a a' r r':Str},c∉a→c∉a'→a++c::r=a'++c::r'→a=a'∧r=r'
 | [],[],r,r',_,_,h=>by simpa using h
 | [],x::a',r,r',_,h2,h=>by simp only[aY,aL,bw] at h; exact absurd (by simp[h.1]) h2
 | x::a,[],r,r',h1,_,h=>by simp only[aY,aL,bw] at h; exact absurd (by simp[h.1]) h1
 | x :: a, y :: a', r, r', h1, h2, h => by
   simp only[aL,bw] at h
   simp only[aC,not_or] at h1 h2
   obtain⟨e1,e2⟩:=Ox h1.2 h2.2 h.2
   exact⟨by rw[h.1,e1],e2⟩
theorem Oy (s:Str):Dr s=true↔∃a b:Str,s=a++40::(b++[41])∧a.all yB=true∧b.all yB=true∧b≠[]∧a.length+b.length≤64:=by
 unfold Dr
 simp only[aw]
 constructor
 ·rintro⟨h1,h2,h3,h4,h5,h6⟩
  obtain⟨t,ht⟩:=List.takeWhile_prefix (p:=yB) (l:=s)
  have ha:AR s 0=s.takeWhile yB:=by simp[AR]
  have dJ:(AR s 0).all yB=true:=by rw[ha]; exact List.all_takeWhile
  rw[← ha] at ht
  generalize AR s 0=a at *
  have kL:t.head? = some 40:=by
   rw[← ht] at h2
   rw[ar (ao _),Nat.sub_self] at h2
   rw[List.head?_eq_getElem?]; exact h2
  obtain⟨r,rfl⟩:∃r,t=40::r:=by cases t with | nil=>simp at kL | cons x r=>simp at kL; exact⟨r,by rw[kL]⟩
  have hb:AR s (a.length+1)=r.takeWhile yB:=by
   unfold AR
   rw[← ht]
   have:(a++40::r).drop (a.length+1)=r:=by
    rw[List.drop_append,bj (by omega)]; simp
   rw[this]
  obtain⟨u,hu⟩:=List.takeWhile_prefix (p:=yB) (l:=r)
  have oa:(AR s (a.length+1)).all yB=true:=by rw[hb]; exact List.all_takeWhile
  rw[← hb] at hu
  generalize AR s (a.length+1)=b at *
  have cO:u.length=1:=by
   have:=aF List.length ht
   rw[← hu] at this
   simp at this; omega
  obtain⟨x,rfl⟩:=List.length_eq_one_iff.1 cO
  have hx:x=41:=by
   rw[← ht,← hu] at h4
   have:(a++40::(b++[x]))[a.length+b.length+1]? = some x:=by
    rw[ar (by omega),show a.length+b.length+1 - a.length=b.length+1 by omega,bY,ar (ao _)]; simp
   rw[this] at h4; simpa using h4
  subst hx
  exact⟨a,b,by rw[← ht,← hu],dJ,oa,λe=>h5 (by rw[e]; rfl),h6⟩
 ·rintro⟨a,b,rfl,h1,h2,h3,h4⟩
  have ha:AR (a++40::(b++[41])) 0=a:=by
   unfold AR
   rw[List.drop_zero,List.takeWhile_append_of_pos (by simpa using h1)]
   have:yB 40=false:=rfl
   simp[List.takeWhile_cons,this]
  have hb:AR (a++40::(b++[41])) (a.length+1)=b:=by
   unfold AR
   have:(a++40::(b++[41])).drop (a.length+1)=b++[41]:=by
    rw[List.drop_append,bj (by omega)]; simp
   rw[this,List.takeWhile_append_of_pos (by simpa using h2)]
   have:yB 41=false:=rfl
   simp[List.takeWhile_cons,this]
  rw[ha,hb]
  have ij:b.length≠0:=λe=>h3 (bu.1 e)
  refine⟨by simp; omega,?_,by simp; omega,?_,ij,h4⟩
  ·rw[ar (ao _),Nat.sub_self]; rfl
  ·rw[ar (by omega),show a.length+b.length+1 - a.length=b.length+1 by omega,bY,ar (ao _)]; simp
def Ao (r:Str):Bool:=decide (r.drop (r.length - 1)=[41])
theorem Ko {r:Str}:Ao r=true↔∃b,r=b++[41]:=by
 unfold Ao
 rw[aw]
 constructor
 ·intro e
  refine⟨r.take (r.length - 1),?_⟩
  rw[← e,bX]
 ·rintro⟨b,rfl⟩
  simp
section
variable {L:Nat→Option PFunc} (hL:∀k f,LS k=some f→L k=some f)
include hL
theorem c0p (s:Str) (h:List PObj):wj L 183 [.str s,.int .u8 40] h=some (.int .i64 (Go.Lib.indexByte s 40),h):=by
 rw[Kc (hL 183 _ rfl) rfl rfl]; rfl
theorem Oz (s:Str) (h:List PObj):wj L 181 [.str s,.str [40]] h=some (.int .i64 (Go.Lib.indexByte s 40),h):=by
 refine wD (hL 181 _ rfl) rfl ?_
 by_cases h1:s=[40]
 ·subst h1; simp[Ha]; rfl
 ·have h2:¬[40]=s:=λe=>h1 e.symm
  simp[Ha,h1,h2,c0p hL]
theorem d0P (s:Str) (hs:s.length≤1000) (hn:(40:UInt8)∉s) (h:List PObj):wj L 172 [.str s,.str [40]] h=some (.tuple [.str s,.str [],.bool false],h):=by
 have h1:wj L 179 [.str s,.str [40]] []=some (.tuple [.str s,.str [],.bool false],[]):=by
  refine wD (hL 179 _ rfl) rfl ?_
  have:=Oz hL s []
  rw[Ov 40 s hn] at this
  simp[G8,this]
 refine wD (hL 172 _ rfl) rfl ?_
 simp[G7,h1]
theorem c6M (a r:Str) (hs:(a++40::r).length≤1000) (hn:(40:UInt8)∉a) (h:List PObj):wj L 172 [.str (a++40::r),.str [40]] h=some (.tuple [.str a,.str r,.bool true],h):=by
 have h1:wj L 179 [.str (a++40::r),.str [40]] []=some (.tuple [.str a,.str r,.bool true],[]):=by
  refine wD (hL 179 _ rfl) rfl ?_
  have:=Oz hL (a++40::r) []
  rw[Ow 40 a r hn] at this
  have hl:(a++40::r).length=a.length+(r.length+1):=by simp
  obtain⟨p,hp⟩:∃p,p=a.length+1:=⟨_,rfl⟩
  have hw:IntKind.i64.wrap ((a.length:Int)+1)=(p:Int):=by rw[CP]<;>omega
  have ht:(a++40::r).take a.length=a:=by simp
  have hd:(a++40::r).drop p=r:=by rw[hp,List.drop_append,bj (by omega)]; simp
  generalize a++40::r=s at *
  have q1:a.length≤s.length:=by omega
  have q2:p≤s.length:=by omega
  have q2i:(p:Int)≤s.length:=by omega
  simp[G8,this,hw,q1,q2,q2i,ht,hd]
 refine wD (hL 172 _ rfl) rfl ?_
 generalize a++40::r=s at *
 simp[G7,h1]
theorem c0q (r:Str) (hr:r.length≤1000) (h:List PObj):wj L 182 [.str r,.str [41]] h=some (.bool (Ao r),h):=by
 refine wD (hL 182 _ rfl) rfl ?_
 unfold Ao
 by_cases h0:r=[]
 ·subst h0
  simp[Fm]
 ·have hp:0<r.length:=b7.2 h0
  have pO:(1:Int)≤r.length:=by omega
  have hw:IntKind.i64.wrap ((r.length:Int) - 1)=((r.length - 1:Nat):Int):=by rw[CP]<;>omega
  have ez:r.length - 1≤r.length:=by omega
  have jU:1≤r.length:=by omega
  by_cases hx:r.drop (r.length - 1)=[41]
  ·simp[Fm,pO,jU,hw,ez,hx]
  ·simp[Fm,pO,jU,hw,ez,hx]
theorem OA (r:Str) (hr:r.length≤1000) (h:List PObj):wj L 173 [.str r,.str [41]] h=some (.tuple [.str (if Ao r then r.take (r.length - 1) else r),.bool (Ao r)],h):=by
 have h1:wj L 180 [.str r,.str [41]] []=some (.tuple [.str (if Ao r then r.take (r.length - 1) else r),.bool (Ao r)],[]):=by
  refine wD (hL 180 _ rfl) rfl ?_
  have iJ:=c0q hL r hr []
  cases hc:Ao r with
  | false=>rw[hc] at iJ; simp[G9,iJ]
  | true =>
    rw[hc] at iJ
    obtain⟨b,rfl⟩:=Ko.1 hc
    obtain⟨q,hq⟩:∃q,q=(b++[41]).length - 1:=⟨_,rfl⟩
    have sV:(b++[41]).length=b.length+1:=by simp
    have hw:IntKind.i64.wrap (((b++[41]).length:Int) - 1)=(q:Int):=by rw[CP]<;>omega
    have ez:q≤(b++[41]).length:=by omega
    rw[← hq]
    generalize b++[41]=r at *
    simp[G9,iJ,hw,ez]
 refine wD (hL 173 _ rfl) rfl ?_
 simp[JA,h1]
theorem Hs (s:Str) (hs:s.length≤1000) (h:List PObj):∃o:Bool,wj L 174 [.str s] h=some (.tuple [.list o (if s.all yB then yL s else[]),.bool (s.all yB)],h):=by
 refine⟨false,?_⟩
 refine wD (hL 174 _ rfl) rfl ?_
 generalize hA:s.all yB=A
 simp[JB]
 refine c4g s (λ_ b=>yB b) (λi (x:PV)=>[(3,.list true (yL (s.take i))),(4,x),(6,.int .i64 i)]) .dead ?_ ?_ ?_ (by simp[yL])
 ·intro i hi dc x ih
  have hw:=wF i (by omega)
  have hb:=(OB s[i]).1 dc
  have uH:=d5D s[i]
  have ih:=ih (.int .i64 i)
  have happ:yL (s.take (i+1))=yL (s.take i)++[.bool (s[i]==49)]:=by unfold yL; rw[zL hi,aU]; rfl
  rw[happ,uH] at ih
  have cO:(yL (s.take i)).length+1≤2147483648:=by simp[yL]; omega
  have je:w6 1 (yL (s.take i))=true:=by cases s.take i<;>simp[yL]
  generalize yL (s.take i)=z at *
  rcases hb with hb|hb
  ·simp[hi,hb,hw,cO,je]
   simpa[hb] using ih
  ·simp[hi,hb,hw,cO,je]
   simpa[hb] using ih
 ·intro i hi dc _ x
  have hb:=OB s[i]
  rw[dc] at hb
  simp only[aH,false_iff,not_or] at hb
  have b1:¬(s[i].toNat:Int)=48:=by omega
  have b2:¬(s[i].toNat:Int)=49:=by omega
  have dJ:s.all yB=false:=Oo hi dc
  rw[dJ] at hA; subst hA
  simp[hi,b1,b2]
 ·intro dc x
  have dJ:s.all yB=true:=Om dc
  rw[dJ] at hA; subst hA
  simp
theorem c36 (a b:List PV) (ha:a.length≤1000) (hb:b.length≤1000) (o1 o2:Bool) (h:List PObj):wj L 175 [.agg [.list o1 a,.list o2 b]] h=some (.int .i64 (if b.length=0 then 5 else if 64<a.length+b.length then 3 else 0),h):=by
 refine wD (hL 175 _ rfl) rfl ?_
 have hw:IntKind.i64.wrap ((a.length:Int)+(b.length:Int))=((a.length+b.length:Nat):Int):=by rw[CP]<;>omega
 by_cases h1:b.length=0
 ·have:b=[]:=bu.1 h1
  subst this
  simp[Fl]
 ·have ni:¬b=[]:=λe=>h1 (by rw[e]; rfl)
  generalize hm:a.length+b.length=m at *
  by_cases h2:64<m
  ·have:(64:Int)<m:=by omega
   simp[Fl,h1,ni,hw,h2,this]
  ·have:¬(64:Int)<m:=by omega
   simp[Fl,h1,ni,hw,h2,this]
theorem c37 (s:Str) (h:List PObj):∃(o1 o2:Bool) (a b:List PV) (e:Int),wz a=true∧wz b=true∧(e=0↔Dr s=true)∧wj L 164 [.str s] h=some (.tuple [.agg [.list o1 a,.list o2 b],.int .i64 e],h):=by
 by_cases h0:66<s.length
 ·refine⟨false,false,[],[],3,rfl,rfl,?_,wD (hL 164 _ rfl) rfl ?_⟩
  ·unfold Dr; simp; omega
  ·have:(66:Int)<s.length:=by omega
   simp[Cp,this]
 have lK:¬(66:Int)<s.length:=by omega
 rcases c1K 40 s with hn|⟨a,r,rfl,hn⟩
 ·have gn:=d0P hL s (by omega) hn []
  have iJ:=OA hL [] (by simp) []
  obtain⟨o1,ee⟩:=Hs hL s (by omega) []
  obtain⟨o2,eu⟩:=Hs hL [] (by simp) []
  have dt:Ao []=false:=rfl
  rw[dt] at iJ
  simp at iJ
  refine⟨false,false,[],[],5,rfl,rfl,?_,wD (hL 164 _ rfl) rfl ?_⟩
  ·rw[Oy]
   constructor
   ·intro e; exact absurd e (by decide)
   ·rintro⟨a,b,e,_⟩; exact absurd (by rw[e]; simp) hn
  ·have f1:wz (if s.all yB then yL s else[])=true:=by split; exact Kq s; rfl
   generalize (if s.all yB then yL s else[])=za at *
   simp[yL] at eu
   simp[Cp,lK,gn,iJ,ee,eu,f1]
 ·have gn:=c6M hL a r (by omega) hn []
  have cO:(a++40::r).length=a.length+(r.length+1):=by simp
  have iJ:=OA hL r (by omega) []
  obtain⟨o1,ee⟩:=Hs hL a (by omega) []
  have sV:(if Ao r then r.take (r.length - 1) else r).length≤r.length:=by split<;>simp<;>omega
  obtain⟨o2,eu⟩:=Hs hL (if Ao r then r.take (r.length - 1) else r) (by omega) []
  obtain⟨B,hB⟩:∃B,B=(if Ao r then r.take (r.length - 1) else r):=⟨_,rfl⟩
  rw[← hB] at iJ eu sV
  have gp:Dr (a++40::r)=true↔Ao r=true∧a.all yB=true∧B.all yB=true∧B≠[]∧a.length+B.length≤64:=by
   rw[Oy]
   constructor
   ·rintro⟨a',b',e,h1,h2,h3,h4⟩
    have jc:(40:UInt8)∉a':=λhm=>by have:=aK.1 h1 _ hm; revert this; decide
    obtain⟨rfl,rfl⟩:=Ox hn jc e
    have hc:Ao (b'++[41])=true:=Ko.2 ⟨b',rfl⟩
    have qT:B=b':=by rw[hB,ah hc]; simp
    rw[qT]
    exact⟨hc,h1,h2,h3,h4⟩
   ·rintro⟨hc,h1,h2,h3,h4⟩
    obtain⟨b,rfl⟩:=Ko.1 hc
    have qT:B=b:=by rw[hB,ah hc]; simp
    rw[qT] at h2 h3 h4
    exact⟨a,b,rfl,h1,h2,h3,h4⟩
  have la:(yL a).length=a.length:=OC a
  have lb:(yL B).length=B.length:=OC B
  have fa:=Kq a
  have fb:=Kq B
  have ic:=c36 hL (yL a) (yL B) (by omega) (by omega) false false []
  rw[la,lb] at ic
  have kM:(if B.length=0 then(5:Int) else if a.length+B.length>64 then 3 else 0)=0↔B≠[]∧a.length+B.length≤64:=by
   split
   ·rename_i h1; have:B=[]:=bu.1 h1
    simp[this]
   ·rename_i h1; have:B≠[]:=λe=>h1 (by rw[e]; rfl)
    split
    ·simp; intro _; omega
    ·simp[this]; omega
  simp only[gt_iff_lt] at kM
  generalize uI:(if B.length=0 then(5:Int) else if 64<a.length+B.length then 3 else 0)=ce at *
  generalize yL a=za at *
  generalize yL B=zb at *
  generalize hAl:a.all yB=qa at *
  generalize hBl:B.all yB=qb at *
  generalize a++40::r=s at *
  generalize Ao r=cl at *
  cases cl with
  | false =>
    refine⟨false,false,[],[],5,rfl,rfl,by rw[gp]; simp,wD (hL 164 _ rfl) rfl ?_⟩
    have f1:wz (if qa=true then za else[])=true:=by split; exact fa; rfl
    have f2:wz (if qb=true then zb else[])=true:=by split; exact fb; rfl
    generalize (if qa=true then za else[])=ya at *
    generalize (if qb=true then zb else[])=yb at *
    simp[Cp,lK,gn,iJ,ee,eu,f1,f2]
  | true =>
    cases qa with
    | false =>
      refine⟨false,false,[],[],5,rfl,rfl,by rw[gp]; simp,wD (hL 164 _ rfl) rfl ?_⟩
      have f2:wz (if qb=true then zb else[])=true:=by split; exact fb; rfl
      generalize (if qb=true then zb else[])=yb at *
      simp at ee
      simp[Cp,lK,gn,iJ,ee,eu,f2]
    | true =>
      cases qb with
      | false =>
        refine⟨false,false,[],[],5,rfl,rfl,by rw[gp]; simp,wD (hL 164 _ rfl) rfl ?_⟩
        simp at ee eu
        simp[Cp,lK,gn,iJ,ee,eu,fa]
      | true =>
        simp at ee eu
        by_cases hz:ce=0
        ·refine⟨false,false,za,zb,0,fa,fb,by rw[gp,← kM]; simp[hz],wD (hL 164 _ rfl) rfl ?_⟩
         subst hz
         simp[Cp,lK,gn,iJ,ee,eu,fa,fb,ic]
        ·refine⟨false,false,[],[],5,rfl,rfl,by rw[gp,← kM]; simp[hz],wD (hL 164 _ rfl) rfl ?_⟩
         simp[Cp,lK,gn,iJ,ee,eu,fa,fb,ic,hz]
end
def Ec (t n:Int):Bool:=decide (t=1∧n=2∨3≤t∧1≤n∧n≤16)
def ofA (e:Expr):Bool:=
 let n:Int:=e.args.length
 if e.kind=1∨e.kind=2∨e.kind=11 then decide (n=0)
 else if e.kind=3 then decide (n=if e.op=1∨e.op=2 then 1 else 2)
 else if e.kind=4 then decide (n=3)
 else if e.kind=5∨e.kind=8 then decide (n=1)
 else if e.kind=6∨e.kind=7 then decide (n=2)
 else if e.kind=9 then decide (e.t≠2)&&Ec e.t n
 else if e.kind=10 then decide (e.v≤n) else false
def ofT (e:Expr):Bool:=
 if e.kind=1 then decide (e.t=2∧-32768≤e.v∧e.v≤32767)||decide (e.t≠2)&&B4 e.t e.v
 else if e.kind=8 then decide (e.t≠2)&&B4 e.t e.v
 else if e.kind=9 then decide (e.v=0)
 else if e.kind=10 then decide (e.t=0∧(e.v=0∨e.v=1))
 else if 1≤e.kind∧e.kind≤11 then decide (e.t=0∧e.v=0) else false
theorem c1L (e:Expr):Ed e=(ofA e&&ofT e&&Ds e&&FG e):=by
 have key:(decide (1≤e.kind∧e.kind≤11)&&argsOK e&&typedOK e)=(ofA e&&ofT e):=by
  unfold argsOK typedOK ofA ofT Ec B4
  rcases OD e.kind with hk|hk|hk|hk|hk|hk|hk|hk|hk|hk|hk|hk|hk
  ·have n1:¬e.kind=1:=by omega
   have n2:¬e.kind=2:=by omega
   have n3:¬e.kind=3:=by omega
   have n4:¬e.kind=4:=by omega
   have n5:¬e.kind=5:=by omega
   have n6:¬e.kind=6:=by omega
   have n7:¬e.kind=7:=by omega
   have n8:¬e.kind=8:=by omega
   have n9:¬e.kind=9:=by omega
   have n10:¬e.kind=10:=by omega
   have n11:¬e.kind=11:=by omega
   have:¬1≤e.kind:=by omega
   simp[n1,n2,n3,n4,n5,n6,n7,n8,n9,n10,n11,this]
  ·simp only[hk]
   rw[aS]
   simp
   intro _; split<;>omega
  ·simp only[hk]
   rw[aS]
   simp
   try omega
  ·simp only[hk]
   rw[aS]
   simp
   try omega
  ·simp only[hk]
   rw[aS]
   simp
   try omega
  ·simp only[hk]
   rw[aS]
   simp
   try omega
  ·simp only[hk]
   rw[aS]
   simp
   try omega
  ·simp only[hk]
   rw[aS]
   simp
   try omega
  ·simp only[hk]
   rw[aS]
   simp
   try omega
  ·simp only[hk]
   rw[aS]
   simp
   split<;>omega
  ·simp only[hk]
   rw[aS]
   simp
   try omega
  ·simp only[hk]
   rw[aS]
   simp
   try omega
  ·have n1:¬e.kind=1:=by omega
   have n2:¬e.kind=2:=by omega
   have n3:¬e.kind=3:=by omega
   have n4:¬e.kind=4:=by omega
   have n5:¬e.kind=5:=by omega
   have n6:¬e.kind=6:=by omega
   have n7:¬e.kind=7:=by omega
   have n8:¬e.kind=8:=by omega
   have n9:¬e.kind=9:=by omega
   have n10:¬e.kind=10:=by omega
   have n11:¬e.kind=11:=by omega
   have:¬e.kind≤11:=by omega
   simp[n1,n2,n3,n4,n5,n6,n7,n8,n9,n10,n11,this]
 unfold Ed
 rw[key]
section
variable {L:Nat→Option PFunc} (hL:∀k f,LS k=some f→L k=some f)
include hL
theorem By (t v:Int) (h:List PObj):wj L 169 [.int .i64 t,.int .i64 v] h=some (.bool (B4 t v),h):=by
 refine wD (hL 169 _ rfl) rfl ?_
 by_cases h1:t=1
 ·subst h1
  by_cases h2:v=0
  ·simp[D0,B4,h2]
  ·by_cases h3:v=1<;>simp[D0,B4,h2,h3]
 ·by_cases h2:3≤t
  ·by_cases h3:0≤v<;>by_cases h4:v<16<;>simp[D0,B4,h1,h2,h3,h4]
  ·simp[D0,B4,h1,h2]
theorem Bz (o:Int) (h:List PObj):wj L 170 [.int .i64 o] h=some (.int .i64 (if o=1∨o=2 then 1 else 2),h):=by
 refine wD (hL 170 _ rfl) rfl ?_
 by_cases h1:o=1
 ·simp[G6,h1]
 ·by_cases h2:o=2<;>simp[G6,h1,h2]
theorem BA (t n:Int) (h:List PObj):wj L 171 [.int .i64 t,.int .i64 n] h=some (.bool (Ec t n),h):=by
 refine wD (hL 171 _ rfl) rfl ?_
 by_cases h1:t=1
 ·subst h1
  by_cases h2:n=2<;>simp[Fk,Ec,h2]
 ·by_cases h2:3≤t
  ·by_cases h3:1≤n<;>by_cases h4:n≤16<;>simp[Fk,Ec,h1,h2,h3,h4]
  ·simp[Fk,Ec,h1,h2]
def xA (e:Expr):PV := .agg [.bool (ofA e),.bool (decide (e.kind=3)),.bool (ofT e),.bool (yh e.kind),.bool (decide (e.kind=11))]
theorem c6N (e:Expr) (hk:e.kind=1) (h:List PObj):wj L 163 [wl e] h=some (xA e,h):=by
 refine wD (hL 163 _ rfl) rfl ?_
 have cP:=Bz hL e.op []
 have d3:=By hL e.t e.v []
 have fj:=BA hL e.t e.args.length []
 obtain⟨n,hn⟩:∃n:Int,n=e.args.length:=⟨_,rfl⟩
 have kf:=kfs hk
 by_cases t0:e.t=0
 ·have t2:¬e.t=2:=by omega
  by_cases v0:e.v=0
  ·simp[yI,xA,ofA,ofT,yh,cP,d3,fj,wO,wq,kf,tf t0,tf t2,tf v0]
  ·simp[yI,xA,ofA,ofT,yh,cP,d3,fj,wO,wq,kf,tf t0,tf t2,tf v0]
 ·skip
  by_cases t2:e.t=2
  ·by_cases a1 : -32768≤e.v<;>by_cases a2:e.v≤32767<;>simp[yI,xA,ofA,ofT,yh,cP,d3,fj,wO,wq,kf,tf t0,tf t2,tf a1,tf a2]
  ·simp[yI,xA,ofA,ofT,yh,cP,d3,fj,wO,wq,kf,tf t0,tf t2]
theorem c6O (e:Expr) (hk:e.kind=2) (h:List PObj):wj L 163 [wl e] h=some (xA e,h):=by
 refine wD (hL 163 _ rfl) rfl ?_
 have cP:=Bz hL e.op []
 have d3:=By hL e.t e.v []
 have fj:=BA hL e.t e.args.length []
 obtain⟨n,hn⟩:∃n:Int,n=e.args.length:=⟨_,rfl⟩
 have kf:=kfs hk
 by_cases t0:e.t=0<;>by_cases v0:e.v=0<;>simp[yI,xA,ofA,ofT,yh,cP,d3,fj,wO,wq,kf,tf t0,tf v0]
theorem c6P (e:Expr) (hk:e.kind=3) (h:List PObj):wj L 163 [wl e] h=some (xA e,h):=by
 refine wD (hL 163 _ rfl) rfl ?_
 have cP:=Bz hL e.op []
 have d3:=By hL e.t e.v []
 have fj:=BA hL e.t e.args.length []
 obtain⟨n,hn⟩:∃n:Int,n=e.args.length:=⟨_,rfl⟩
 have kf:=kfs hk
 by_cases t0:e.t=0<;>by_cases v0:e.v=0<;>simp[yI,xA,ofA,ofT,yh,cP,d3,fj,wO,wq,kf,tf t0,tf v0]
theorem c6Q (e:Expr) (hk:e.kind=4) (h:List PObj):wj L 163 [wl e] h=some (xA e,h):=by
 refine wD (hL 163 _ rfl) rfl ?_
 have cP:=Bz hL e.op []
 have d3:=By hL e.t e.v []
 have fj:=BA hL e.t e.args.length []
 obtain⟨n,hn⟩:∃n:Int,n=e.args.length:=⟨_,rfl⟩
 have kf:=kfs hk
 by_cases t0:e.t=0<;>by_cases v0:e.v=0<;>simp[yI,xA,ofA,ofT,yh,cP,d3,fj,wO,wq,kf,tf t0,tf v0]
theorem c6R (e:Expr) (hk:e.kind=5) (h:List PObj):wj L 163 [wl e] h=some (xA e,h):=by
 refine wD (hL 163 _ rfl) rfl ?_
 have cP:=Bz hL e.op []
 have d3:=By hL e.t e.v []
 have fj:=BA hL e.t e.args.length []
 obtain⟨n,hn⟩:∃n:Int,n=e.args.length:=⟨_,rfl⟩
 have kf:=kfs hk
 by_cases t0:e.t=0<;>by_cases v0:e.v=0<;>simp[yI,xA,ofA,ofT,yh,cP,d3,fj,wO,wq,kf,tf t0,tf v0]
theorem c6S (e:Expr) (hk:e.kind=6) (h:List PObj):wj L 163 [wl e] h=some (xA e,h):=by
 refine wD (hL 163 _ rfl) rfl ?_
 have cP:=Bz hL e.op []
 have d3:=By hL e.t e.v []
 have fj:=BA hL e.t e.args.length []
 obtain⟨n,hn⟩:∃n:Int,n=e.args.length:=⟨_,rfl⟩
 have kf:=kfs hk
 by_cases t0:e.t=0<;>by_cases v0:e.v=0<;>simp[yI,xA,ofA,ofT,yh,cP,d3,fj,wO,wq,kf,tf t0,tf v0]
theorem c6T (e:Expr) (hk:e.kind=7) (h:List PObj):wj L 163 [wl e] h=some (xA e,h):=by
 refine wD (hL 163 _ rfl) rfl ?_
 have cP:=Bz hL e.op []
 have d3:=By hL e.t e.v []
 have fj:=BA hL e.t e.args.length []
 obtain⟨n,hn⟩:∃n:Int,n=e.args.length:=⟨_,rfl⟩
 have kf:=kfs hk
 by_cases t0:e.t=0<;>by_cases v0:e.v=0<;>simp[yI,xA,ofA,ofT,yh,cP,d3,fj,wO,wq,kf,tf t0,tf v0]
theorem c6U (e:Expr) (hk:e.kind=8) (h:List PObj):wj L 163 [wl e] h=some (xA e,h):=by
 refine wD (hL 163 _ rfl) rfl ?_
 have cP:=Bz hL e.op []
 have d3:=By hL e.t e.v []
 have fj:=BA hL e.t e.args.length []
 obtain⟨n,hn⟩:∃n:Int,n=e.args.length:=⟨_,rfl⟩
 have kf:=kfs hk
 by_cases t0:e.t=0
 ·have t2:¬e.t=2:=by omega
  by_cases v0:e.v=0
  ·simp[yI,xA,ofA,ofT,yh,cP,d3,fj,wO,wq,kf,tf t0,tf t2,tf v0]
  ·simp[yI,xA,ofA,ofT,yh,cP,d3,fj,wO,wq,kf,tf t0,tf t2,tf v0]
 ·skip
  by_cases t2:e.t=2<;>simp[yI,xA,ofA,ofT,yh,cP,d3,fj,wO,wq,kf,tf t0,tf t2]
theorem c6V (e:Expr) (hk:e.kind=9) (h:List PObj):wj L 163 [wl e] h=some (xA e,h):=by
 refine wD (hL 163 _ rfl) rfl ?_
 have cP:=Bz hL e.op []
 have d3:=By hL e.t e.v []
 have fj:=BA hL e.t e.args.length []
 obtain⟨n,hn⟩:∃n:Int,n=e.args.length:=⟨_,rfl⟩
 have kf:=kfs hk
 by_cases t0:e.t=0
 ·have t2:¬e.t=2:=by omega
  by_cases v0:e.v=0
  ·simp[yI,xA,ofA,ofT,yh,cP,d3,fj,wO,wq,kf,tf t0,tf t2,tf v0]
  ·simp[yI,xA,ofA,ofT,yh,cP,d3,fj,wO,wq,kf,tf t0,tf t2,tf v0]
 ·skip
  by_cases t2:e.t=2<;>simp[yI,xA,ofA,ofT,yh,cP,d3,fj,wO,wq,kf,tf t0,tf t2]
theorem c38 (e:Expr) (hk:e.kind=10) (h:List PObj):wj L 163 [wl e] h=some (xA e,h):=by
 refine wD (hL 163 _ rfl) rfl ?_
 have cP:=Bz hL e.op []
 have d3:=By hL e.t e.v []
 have fj:=BA hL e.t e.args.length []
 obtain⟨n,hn⟩:∃n:Int,n=e.args.length:=⟨_,rfl⟩
 have kf:=kfs hk
 by_cases t0:e.t=0
 ·have t2:¬e.t=2:=by omega
  by_cases v0:e.v=0
  ·simp[yI,xA,ofA,ofT,yh,cP,d3,fj,wO,wq,kf,tf t0,tf t2,tf v0]
  ·by_cases v1:e.v=1<;>simp[yI,xA,ofA,ofT,yh,cP,d3,fj,wO,wq,kf,tf t0,tf t2,tf v0,tf v1]
 ·skip
  by_cases v1:e.v=1<;>simp[yI,xA,ofA,ofT,yh,cP,d3,fj,wO,wq,kf,tf t0,tf v1]
theorem c39 (e:Expr) (hk:e.kind=11) (h:List PObj):wj L 163 [wl e] h=some (xA e,h):=by
 refine wD (hL 163 _ rfl) rfl ?_
 have cP:=Bz hL e.op []
 have d3:=By hL e.t e.v []
 have fj:=BA hL e.t e.args.length []
 obtain⟨n,hn⟩:∃n:Int,n=e.args.length:=⟨_,rfl⟩
 have kf:=kfs hk
 by_cases t0:e.t=0<;>by_cases v0:e.v=0<;>simp[yI,xA,ofA,ofT,yh,cP,d3,fj,wO,wq,kf,tf t0,tf v0]
theorem d4m (e:Expr) (h:List PObj):wj L 163 [wl e] h=some (xA e,h):=by
 rcases OD e.kind with hk|hk|hk|hk|hk|hk|hk|hk|hk|hk|hk|hk|hk
 ·refine wD (hL 163 _ rfl) rfl ?_
  have k1:¬e.kind=1:=by omega
  have k2:¬e.kind=2:=by omega
  have k3:¬e.kind=3:=by omega
  have k4:¬e.kind=4:=by omega
  have k5:¬e.kind=5:=by omega
  have k6:¬e.kind=6:=by omega
  have k7:¬e.kind=7:=by omega
  have k8:¬e.kind=8:=by omega
  have k9:¬e.kind=9:=by omega
  have k10:¬e.kind=10:=by omega
  have k11:¬e.kind=11:=by omega
  have kr:¬(1≤e.kind∧e.kind≤11):=by omega
  have ht:ofT e=false:=by unfold ofT; simp only[k1,k8,k9,k10,kr,if_false]
  have ha:ofA e=false:=by unfold ofA; simp only[k1,k2,k3,k4,k5,k6,k7,k8,k9,k10,k11,or_self,if_false]
  by_cases t0:e.t=0<;>by_cases v0:e.v=0<;>simp[yI,xA,ha,ht,yh,wO,wq,k1,k2,k3,k4,k5,k6,k7,k8,k9,k10,k11,tf t0,tf v0]
 ·exact c6N hL e hk h
 ·exact c6O hL e hk h
 ·exact c6P hL e hk h
 ·exact c6Q hL e hk h
 ·exact c6R hL e hk h
 ·exact c6S hL e hk h
 ·exact c6T hL e hk h
 ·exact c6U hL e hk h
 ·exact c6V hL e hk h
 ·exact c38 hL e hk h
 ·exact c39 hL e hk h
 ·refine wD (hL 163 _ rfl) rfl ?_
  have k1:¬e.kind=1:=by omega
  have k2:¬e.kind=2:=by omega
  have k3:¬e.kind=3:=by omega
  have k4:¬e.kind=4:=by omega
  have k5:¬e.kind=5:=by omega
  have k6:¬e.kind=6:=by omega
  have k7:¬e.kind=7:=by omega
  have k8:¬e.kind=8:=by omega
  have k9:¬e.kind=9:=by omega
  have k10:¬e.kind=10:=by omega
  have k11:¬e.kind=11:=by omega
  have kr:¬(1≤e.kind∧e.kind≤11):=by omega
  have ht:ofT e=false:=by unfold ofT; simp only[k1,k8,k9,k10,kr,if_false]
  have ha:ofA e=false:=by unfold ofA; simp only[k1,k2,k3,k4,k5,k6,k7,k8,k9,k10,k11,or_self,if_false]
  by_cases t0:e.t=0<;>by_cases v0:e.v=0<;>simp[yI,xA,ha,ht,yh,wO,wq,k1,k2,k3,k4,k5,k6,k7,k8,k9,k10,k11,tf t0,tf v0]
theorem d0Q (e:Expr) (h:List PObj):wj L 150 [wl e] h=some (.int .i64 (AC e),h):=by
 refine wD (hL 150 _ rfl) rfl ?_
 have iC:=d4m hL e []
 have fO:=Oq hL e.name []
 obtain⟨b1,b2,wa,wb,er,f1,f2,sW,sX⟩:=c37 hL e.name []
 have dl:=c1L e
 unfold AC
 by_cases cO:64<e.args.length
 ·have ee:(64:Int)<e.args.length:=by omega
  have eu:¬e.args.length≤64:=by omega
  simp[zT,cO,ee,eu,need,wu]
 have ee:¬(64:Int)<e.args.length:=by omega
 have eu:e.args.length≤64:=by omega
 unfold xA at iC
 generalize ofA e=A at *
 generalize ofT e=T at *
 cases A with
 | false=>simp[zT,cO,ee,eu,iC,wO,dl,need,wu]
 | true=>
 cases T with
 | false=>simp[zT,cO,ee,eu,iC,wO,dl,need,wu]
 | true=>
 simp only[cr] at dl
 have qU:(Ds e=true∧(e.kind=3→e.op≠0∧1≤e.op∧e.op≤16)∧(e.kind≠3→e.op=0))∨(Ds e=false∧(e.kind=3→e.op<1∨16<e.op)∧(e.kind≠3→e.op≠0)):=by
  unfold Ds
  by_cases hk:e.kind=3
  ·by_cases ho:1≤e.op∧e.op≤16
   ·left; simp[hk,ho]; omega
   ·right; simp[hk]; omega
  ·by_cases ho:e.op=0
   ·left; simp[hk,ho]
   ·right; simp[hk,ho]
 rcases qU with⟨q1,q2,q3⟩|⟨q1,q2,q3⟩
 ·rw[q1,cr] at dl
  have fZ:∀(O:Bool),(decide (e.kind=3))=O→wpL L zT.code ⟨[wl e,.dead,.dead,.dead,.dead,.dead],[],0,h⟩ (Cs [.var 2] (.int .i64 (wu (need (decide (e.args.length≤64)) 3) (wu (need (Ed e) 5) (need (!yh e.kind||zY e.name) 6))),h)):=by
   intro O hO
   have oc:(O=true→¬e.op=0∧¬e.op<1∧¬16<e.op)∧(O=false→e.op=0):=by
    constructor
    ·intro ho; rw[ho,aw] at hO; have:=q2 hO; omega
    ·intro ho; rw[ho,cq] at hO; exact q3 hO
   rw[hO] at iC
   unfold FG at dl
   generalize yh e.kind=N at *
   cases O with
   | true =>
     have hk:e.kind=3:=by simpa using hO
     have gL:¬e.kind=11:=by omega
     obtain⟨o1,o2,o3⟩:=oc.1 rfl
     cases N with
     | true =>
       cases hi:zY e.name<;>rw[hi] at fO<;>simp[zT,cO,ee,eu,iC,wO,dl,fO,o1,o2,o3,need,wu]
     | false =>
       by_cases iK:e.name=[]
       ·simp[zT,cO,ee,eu,iC,wO,dl,tf iK,o1,o2,o3,tf gL,need,wu]
       ·simp[zT,cO,ee,eu,iC,wO,dl,tf iK,o1,o2,o3,tf gL,need,wu]
   | false =>
     have o1:=oc.2 rfl
     cases N with
     | true =>
       cases hi:zY e.name<;>rw[hi] at fO<;>simp[zT,cO,ee,eu,iC,wO,dl,fO,tf o1,need,wu]
     | false =>
       by_cases gL:e.kind=11
       ·by_cases he:er=0
        ·have hw:=sW.1 he
         simp[zT,cO,ee,eu,iC,wO,dl,sX,f1,f2,tf gL,he,hw,tf o1,need,wu]
        ·have hw:Dr e.name=false:=by
          rw[← Bool.not_eq_true]; exact λhh=>he (sW.2 hh)
         by_cases iK:e.name=[]<;>simp[zT,cO,ee,eu,iC,wO,dl,sX,f1,f2,tf gL,he,hw,tf o1,tf iK,need,wu]
       ·by_cases iK:e.name=[]
        ·simp[zT,cO,ee,eu,iC,wO,dl,tf iK,tf o1,tf gL,need,wu]
        ·simp[zT,cO,ee,eu,iC,wO,dl,tf iK,tf o1,tf gL,need,wu]
  have hq:=fZ _ rfl
  rw[← c1v e] at hq
  exact hq
 ·rw[q1,bG] at dl
  by_cases hk:e.kind=3
  ·by_cases o0:e.op=0
   ·simp[zT,cO,ee,eu,iC,wO,dl,tf hk,tf o0,need,wu]
   ·rcases q2 hk with o1|o1
    ·simp[zT,cO,ee,eu,iC,wO,dl,tf hk,tf o0,o1,need,wu]
    ·have o2:¬e.op<1:=by omega
     simp[zT,cO,ee,eu,iC,wO,dl,tf hk,tf o0,o1,o2,need,wu]
  ·have o0:=q3 hk
   simp[zT,cO,ee,eu,iC,wO,dl,tf hk,tf o0,need,wu]
theorem c1M (e:Expr):e.parts≤1100000→∀h,wj L 149 [wl e] h=some (.int .i64 e.depth,h):=by
 induction e using Expr.ind with
 | h e ih=>
 intro hp h
 have dH:=J6 e
 refine wD (hL 149 _ rfl) rfl ?_
 simp[Jx]
 refine c30 e.args.length (λi (x:PV×Nat)=>[(3,.int .i64 ((e.args.take i).foldl (λm x=>if x.depth>m then x.depth else m) 0)),(4,x.1),(7,.int .i64 i)]) (λ_ x=>x.2) (λ_ _=>h) (.dead,1) ?_ ?_ (by simp) rfl rfl
 ·intro i hi x ih2
  have hw:=wF i (by omega)
  have nS:=J7 (aj hi)
  have hc:=ih e.args[i] (aj hi) (by omega) []
  have ih2:=λy=>ih2 y
  rw[zL hi,List.foldl_append] at ih2
  generalize (e.args.take i).foldl (λm x=>if x.depth>m then x.depth else m) 0=a at *
  simp[hi,hw,hc,CC]
  simpa using ih2 (_,_)
 ·intro _
  have:=Expr.depth_eq e
  unfold wrap at this
  simp[this]
end
end PI.Sc
