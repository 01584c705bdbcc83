import Derived.Test.YtljbhgpanekomaaGreatPiCaData
import Derived.Lib.ItoaNum
import Derived.Test.YtljbhgpanekomaaGreatPiCaCode
import Derived.Test.YtljbhgpanekomaaGreatPiLaw
set_option linter.unusedSimpArgs false
set_option linter.unusedVariables false
set_option linter.unusedSectionVars false
namespace PI.Sc
open Go (IntKind BinOp UnOp)
abbrev CV (n:Int):Prop := -9223372036854775808≤n∧n≤9223372036854775807
def yy {α:Type} (f:α→Int):List α→Int
 | []=>0
 | x::xs=>if f x=0 then yy f xs else f x
theorem BW {α:Type} {f:α→Int}:∀{l:List α},yy f l=0↔∀x∈l,f x=0
 | []=>by simp[yy]
 | x :: xs => by
   unfold yy
   by_cases h:f x=0
   ·simp[h,BW (l:=xs)]
   ·simp[h]
theorem Rp {α:Type} {f:α→Int}:∀{l:List α} {i:Nat} (hi:i<l.length),f l[i]≠0→(∀k (hk:k<i),f (l[k]'(by omega))=0)→yy f l=f l[i]
 | [],i,hi,_,_=>by simp at hi
 | x::xs,0,hi,h,_=>by simp only[bS] at h; simp[yy,h]
 | x :: xs, i + 1, hi, h, hk => by
   have h0:=hk 0 (by omega)
   simp only[bS] at h0
   simp only[cj] at h
   simp only[yy,h0,if_true,cj]
   exact Rp (by simpa using hi) h (λk dt=>by have:=hk (k+1) (by omega); simpa using this)
theorem Pg {α:Type} {f:α→Int}:∀(a b:List α),yy f (a++b)=if yy f a=0 then yy f b else yy f a
 | [],b=>by simp[yy]
 | x :: a, b => by
   simp only[aK,yy,Pg a b]
   by_cases h:f x=0
   ·simp[h]
   ·simp[h]
def yv (a b:Int):Int:=if a=0 then b else a
@[simp] theorem Bw (b:Int):yv 0 b=b:=rfl
theorem De {a b:Int} (h:a≠0):yv a b=a:=ae h
theorem Bt {a b:Int}:yv a b=0↔a=0∧b=0:=by unfold yv; split<;>simp_all
def need (b:Bool) (e:Int):Int:=if b then 0 else e
@[simp] theorem d04 (e:Int):need true e=0:=rfl
@[simp] theorem Ib (e:Int):need false e=e:=rfl
def Fy (b:Int):Bool:=decide (97≤b∧b≤122∨65≤b∧b≤90)
def HQ (b:Int):Bool:=decide (48≤b∧b≤57)
def EY (b:Int):Bool:=Fy b||HQ b||decide (b=95)
def Ry:List Str:=[[97,115,115,117,109,101],[97,110,100],[97,117,116,111,109,97,116,111,110],[98,111,111,108],[99,111,110,116,105,110,117,101],[100,111],[100,111,110,101],[101,108,115,101],[101,110,100],[101,110,115,117,114,101],[101,118,101,114,121],[102,97,108,115,101],[102,98,121],[105,102],[105,110,116],[108,101,116],[109,101,114,103,101],[109,111,100],[110,111,100,101],[110,111,116],[111,114],[112,114,101],[114,101,116,117,114,110,115],[115,116,97,116,101],[116,101,108],[116,104,101,110],[116,114,117,101],[116,121,112,101],[117,110,108,101,115,115],[117,110,116,105,108],[118,97,114],[119,104,101,110],[120,111,114]]
def JO (s:Str):Bool:=decide (s∈Ry)
def CU (s:Str):Bool:=decide (s≠[]∧s.length≤40)&&Fy (s.headD 0).toNat&&s.all (λb=>EY b.toNat) && !JO s
def D3 (en:List Enum) (t:Int):Option Enum:=if 3≤t then en[(t - 3).toNat]? else none
theorem c2u {en:List Enum} {t:Int} (h:t<3):D3 en t=none:=by unfold D3; rw[ae (by omega)]
theorem c2v {en:List Enum} {k:Nat} (h:k<en.length):D3 en (k+3)=some en[k]:=by unfold D3; rw[af (by omega)]; simp[show (k:Int)+3 - 3=k by omega,h]
theorem c0Q {en:List Enum} {k:Nat} (h:en.length≤k):D3 en (k+3)=none:=by unfold D3; rw[af (by omega)]; simp[show (k:Int)+3 - 3=k by omega,h]
theorem c4y (t:Int):t<3∨∃k:Nat,t=k+3:=by
 by_cases h:t<3
 ·exact .inl h
 ·exact .inr ⟨(t - 3).toNat,by omega⟩
def Aj (en:List Enum) (t:Int):Nat:=if t=1 then 2 else if t=2 then 65536 else((D3 en t).map (·.tags.length)).getD 0
def Ew (en:List Enum) (t v:Int):Bool:=if t=2 then decide (-32768≤v∧v≤32767) else decide (0≤v∧v<Aj en t)
mutual
def Expr.list:Expr→List Expr
 | .mk k o t v n as => .mk k o t v n as::FG as
def FG:List Expr→List Expr
 | []=>[]
 | x::xs=>x.list++FG xs
end
theorem Sl:∀l:List Expr,FG l=l.flatMap Expr.list
 | []=>by simp[FG]
 | x::xs=>by simp[FG,Sl xs]
theorem Expr.list_eq (e:Expr):e.list=e::e.args.flatMap Expr.list:=by cases e; simp[Expr.list,Sl]
abbrev wrap (n:Int):Int:=IntKind.i64.wrap n
def Expr.size (e:Expr):Int:=wrap e.list.length
mutual
def Expr.depth:Expr→Int
 | .mk k o t v n as=>wrap (Ii 0 as+1)
def Ii (m:Int):List Expr→Int
 | []=>m
 | x::xs=>Ii (if x.depth>m then x.depth else m) xs
end
theorem Sm:∀(l:List Expr) (m:Int),Ii m l=l.foldl (λm x=>if x.depth>m then x.depth else m) m
 | [],m=>by simp[Ii]
 | x::xs,m=>by simp[Ii,Sm xs]
theorem Expr.depth_eq (e:Expr):e.depth=wrap (e.args.foldl (λm x=>if x.depth>m then x.depth else m) 0+1):=by cases e; simp[Expr.depth,Sm]
theorem Expr.ind {P:Expr→Prop} (h:∀e:Expr,(∀x∈e.args,P x)→P e):∀e,P e:=by
 intro e
 refine Expr.rec (motive_1:=P) (motive_2:=λl=>∀x∈l,P x) ?_ ?_ ?_ e
 ·intro k o t v n as ih; exact h _ ih
 ·simp
 ·intro x xs h1 h2 y hy
  rcases az.1 hy with rfl|hy
  ·exact h1
  ·exact h2 y hy
def AM (b:UInt8):Bool:=b==48||b==49
def CF (s:Str) (at':Nat):Str:=(s.drop at').takeWhile AM
def Fz (s:Str):Bool:=
 let n:=(CF s 0).length
 let m:=(CF s (n+1)).length
 decide (s.length≤66∧s[n]? = some 40∧n+m+2=s.length∧s[n+m+1]? = some 41∧m≠0∧n+m≤64)
def Au (k:Int):Bool:=decide (k=2∨k=8∨k=9∨k=10)
def D1 (t v:Int):Bool:=decide (t=1∧(v=0∨v=1)∨3≤t∧0≤v∧v<16)
def argsOK (e:Expr):Bool:=
 let n:Int:=e.args.length
 if e.kind=1∨e.kind=2∨e.kind=11 then decide (n=0)
 else if e.kind=3 then decide (n=if e.op=1∨e.op=2 then 1 else 2)
 else if e.kind=4 then decide (n=3)
 else if e.kind=5∨e.kind=8 then decide (n=1)
 else if e.kind=6∨e.kind=7 then decide (n=2)
 else if e.kind=9 then(if e.t=1 then decide (n=2) else decide (3≤e.t∧1≤n∧n≤16))
 else decide (e.kind=10∧(e.v=0∨e.v=1∧1≤n))
def typedOK (e:Expr):Bool:=
 if e.kind=1 then(if e.t=2 then decide (-32768≤e.v∧e.v≤32767) else D1 e.t e.v)
 else if e.kind=8 then D1 e.t e.v
 else if e.kind=9 then decide ((e.t=1∨3≤e.t)∧e.v=0)
 else if e.kind=10 then decide (e.t=0∧(e.v=0∨e.v=1))
 else decide (e.t=0∧e.v=0)
def Gl (e:Expr):Bool:=if e.kind=3 then decide (1≤e.op∧e.op≤16) else decide (e.op=0)
def JQ (e:Expr):Bool:=Au e.kind||(if e.kind=11 then Fz e.name else decide (e.name=[]))
def HS (e:Expr):Bool:=decide (1≤e.kind∧e.kind≤11)&&argsOK e&&typedOK e&&Gl e&&JQ e
def CW (e:Expr):Int:=yv (need (decide (e.args.length≤64)) 3) (yv (need (HS e) 5) (need (!Au e.kind||CU e.name) 6))
def Gj (e:Expr):Int:=yv (need (decide (e.size≤400∧e.depth≤32)) 3) (yy CW e.list)
def FB (e:Expr):Bool:=e.list.all λx => !decide (x.kind=5∨x.kind=6∨x.kind=7∨x.kind=10∨x.kind=11)
def Dd (en:List Enum) (e:Expr):Int:=
 if e.kind=1∨e.kind=8 then yv (need (decide (0<Aj en e.t)) 10) (need (Ew en e.t e.v) 14)
 else if e.kind=9 then yv (need (decide (0<Aj en e.t)) 10) (need (decide (e.args.length=Aj en e.t)) 9)
 else 0
def CE (en:List Enum) (e:Expr):Int:=yv (Gj e) (yy (Dd en) e.list)
def BS (s:Str):Int:=need (CU s) 6
def CY (en:List Enum) (o:On):Int:=yv (BS o.name) (need (decide (o.t≠2)&&Ew en o.t o.tag) 5)
def A7 (en:List Enum) (port:Bool) (d:Decl):Int:=
 yv (BS d.name) (yv (need (decide (0<Aj en d.type)) 10) (yv (need (!port||decide (d.clock=[])) 11) (yv (need (decide (d.clock.length≤4)) 3) (yy (CY en) d.clock))))
def BQ (en:List Enum) (q:Eqn):Int:=
 yv (need (decide (q.left≠[])) 8) (yv (need (decide (q.left.length≤64)) 3) (yv (yy BS q.left) (yv (CE en q.right) (need (decide (q.left.length=1∨q.right.kind=10)) 5))))
def FE (en:List Enum) (n:Nat) (strong:Bool) (t:Trn):Int:=
 yv (need (decide (0≤t.to∧t.to<n)) 14) (yv (CE en t.cond) (need (!strong||FB t.cond) 5))
def JT (en:List Enum) (n:Nat) (auto:Bu→Int) (s:State):Int:=
 yv (BS s.name) (yv (need (decide (s.locals.length≤256∧s.eqs.length≤256∧s.autos.length≤8∧s.unl.length≤4∧s.til.length≤4)) 3)
  (yv (yy (A7 en false) s.locals) (yv (yy (BQ en) s.eqs) (yv (yy auto s.autos) (yv (yy (FE en n true) s.unl) (yy (FE en n false) s.til))))))
def D4 (en:List Enum):Nat→Bu→Int
 | 0,_=>3
 | d+1,a=>yv (need (decide (a≠[])) 8) (yv (need (decide (a.length≤8)) 3) (yy (JT en a.length (D4 en d)) a))
def FD (u:Enum):Int:=yv (BS u.name) (yv (need (decide (u.tags≠[])) 8) (yv (need (decide (u.tags.length≤16)) 3) (yy BS u.tags)))
def Bg (en:List Enum) (n:Node):Int:=
 yv (BS n.name) (yv (need (decide (n.ins.length≤64∧n.outs.length≤64∧n.locals.length≤256∧n.eqs.length≤256∧n.autos.length≤8∧n.assume.length≤8∧n.ensure.length≤8)) 3)
  (yv (need (decide (n.outs≠[])) 8) (yv (yy (A7 en true) n.ins) (yv (yy (A7 en true) n.outs) (yy (A7 en false) n.locals)))))
def B6 (en:List Enum) (n:Node):Int:=yv (yy (D4 en 3) n.autos) (yv (yy (CE en) n.assume) (yy (CE en) n.ensure))
structure Bad where
 node:Int
 eq:Int
 err:Int
 deriving DecidableEq,Inhabited
def CO:Bad:=⟨0,0,0⟩
def Bb {α:Type} (f:α→Int):List α→Nat→Option (Nat×Int)
 | [],_=>none
 | x::xs,i=>if f x=0 then Bb f xs (i+1) else some (i,f x)
def At (en:List Enum) (n:Node) (i:Nat):Option Bad:=
 if Bg en n≠0 then some ⟨i,-1,Bg en n⟩
 else match Bb (BQ en) n.eqs 0 with
  | some (k,e)=>some ⟨i,k,e⟩
  | none=>if B6 en n≠0 then some ⟨i,-1,B6 en n⟩ else none
def Ba (en:List Enum):List Node→Nat→Option Bad
 | [],_=>none
 | n :: ns, i => match At en n i with
   | some b=>some b
   | none=>Ba en ns (i+1)
def Cg (p:Prog):Option Bad:=
 if ¬(p.enums.length≤24∧p.nodes.length≤96) then some ⟨-1,-1,3⟩
 else if yy FD p.enums≠0 then some ⟨-1,-1,yy FD p.enums⟩
 else Ba p.enums p.nodes 0
def BL (b:Option Bad):Bad:=b.getD CO
structure Place where
 before:List Node
 vis:List Str
 inputs:List Str
 tags:List Str
def Place.at (s:Place) (vis:List Str):Place:={ s with vis:=vis }
def yp (l:List Decl):List Str:=l.map (·.name)
def zH (l other:List Str):List Str:=l.filter λx => !decide (x∈other)
abbrev EN:=Int×List Str
def AB (a:EN) (f:List Str→EN):EN:=if a.1=0 then f a.2 else(a.1,[])
@[simp] theorem If (l:List Str) (f:List Str→EN):AB (0,l) f=f l:=rfl
theorem B0 {a:EN} (h:a.1≠0) (f:List Str→EN):AB a f=(a.1,[]):=ae h
def callee (before:List Node) (name:Str):Option Node:=before.find? λn=>decide (n.name=name)
def Ie (s:Place) (e:Expr) (outs:Nat):Int:=
 match callee s.before e.name with
 | none=>6
 | some n=>need (decide ((e.args.length:Int)=wrap (n.ins.length+e.v)∧n.outs.length=outs)) 9
def oneN (s:Place) (outs:Nat) (e:Expr):Int:=
 if e.kind=2∨e.kind=8∨e.kind=9 then need (decide (e.name∈s.vis)) 6
 else if e.kind=10 then Ie s e outs else 0
def zx (s:Place) (e:Expr) (outs:Nat):Int:=yv (oneN s outs e) (yy (oneN s 1) (e.args.flatMap Expr.list))
def CT (s:Place):List Str→List Str→EN
 | [],d=>(0,d)
 | x::xs,d=>if x∉s.vis then(6,[]) else if x∈s.inputs∨x∈d then(7,[]) else CT s xs (d++[x])
def AY (s:Place) (q:Eqn) (d:List Str):EN:=AB (CT s q.left d) λd=>(zx s q.right q.left.length,d)
def A9 (s:Place):List Eqn→List Str→EN
 | [],d=>(0,d)
 | q::qs,d=>AB (AY s q d) (A9 s qs)
def zO (tags:List Str):List Decl→List Str→EN
 | [],v=>(0,v)
 | d::ds,v=>if d.name∈v∨d.name∈tags then(7,[]) else zO tags ds (v++[d.name])
def C6 (vis:List Str) (l:List Decl):Int:=yy (λd=>yy (λo=>need (decide (o.name∈vis)) 6) d.clock) l
def A6 (vis tags:List Str) (l:List Decl):EN:=AB (zO tags l vis) λv=>(C6 v l,v)
def CZ (s:Place) (l:List Trn):Int:=yy (λt=>zx s t.cond 1) l
def D0 (a b:List Str):Bool:=decide (zH a b=[]∧zH b a=[])
mutual
def BP (s:Place) (d:List Str):State→EN
 | .mk n l e a u w =>
   AB (A6 s.vis s.tags l) λvis=>
   AB (A9 (s.at vis) e d) λd1=>
   AB (zt (s.at vis) d1 a) λd2=>
   AB (CZ s u,[]) λ_=>
   AB (CZ (s.at vis) w,[]) λ_=>
   if zH (yp l) (zH d2 d)=[] then(0,zH (zH d2 d) (yp l)) else(8,[])
def Ah (s:Place) (d:List Str):List State→Int×List (List Str)
 | []=>(0,[])
 | x :: xs =>
   let r:=BP s d x
   if r.1=0 then(let q:=Ah s d xs; if q.1=0 then(0,r.2::q.2) else(q.1,[])) else(r.1,[])
def zt (s:Place) (d:List Str):List (List State)→EN
 | []=>(0,d)
 | x :: xs =>
   if ¬(x.map (·.name)).Nodup then(7,[])
   else
    let r:=Ah s d x
    if r.1≠0 then(r.1,[])
    else if r.2.all (λl=>D0 l (r.2.headD [])) then zt s (d++r.2.headD []) xs
    else(8,[])
end
def vars (n:Node):List Decl:=n.ins++n.outs++n.locals
def Cf (s:Place):List Eqn→Nat→List Str→(Nat×Int) ⊕ List Str
 | [],_,d => .inr d
 | q::qs,k,d=>if (AY s q d).1=0 then Cf s qs (k+1) (AY s q d).2 else .inl (k,(AY s q d).1)
def C5 (before:List Node) (tags:List Str) (n:Node):Option Bad:=
 let i:=before.length
 if n.name∈before.map (·.name) then some ⟨i,-1,7⟩
 else
  let r:=A6 [] tags (vars n)
  if r.1≠0 then some ⟨i,-1,r.1⟩
  else
   let s:Place:=⟨before,r.2,yp n.ins,tags⟩
   match Cf s n.eqs 0 [] with
   | .inl (k,e)=>some ⟨i,k,e⟩
   | .inr d =>
     let c:=zt s d n.autos
     if c.1≠0 then some ⟨i,-1,c.1⟩
     else
      let a:=yy (λe=>zx (s.at (yp n.ins)) e 1) n.assume
      if a≠0 then some ⟨i,-1,a⟩
      else
       let g:=yy (λe=>zx (s.at (yp n.ins++yp n.outs)) e 1) n.ensure
       if g≠0 then some ⟨i,-1,g⟩
       else if zH (yp n.outs++yp n.locals) c.2=[] then none else some ⟨i,-1,8⟩
def Dp (tags:List Str):List Node→List Node→Option Bad
 | _,[]=>none
 | before, n :: r => match C5 before tags n with
   | some b=>some b
   | none=>Dp tags (before++[n]) r
def Bs (en:List Enum):List Str:=en.flatMap (·.tags)
def Ej (en:List Enum):Bool:=decide ((en.map (·.name)).Nodup∧(Bs en).Nodup)
def Cz (p:Prog):Option Bad:=
 match Cg p with
 | some b=>some b
 | none=>if Ej p.enums then Dp (Bs p.enums) [] p.nodes else some ⟨-1,-1,7⟩
def Gg (l more:List Str):List Str:=more.foldl (λl x=>if x∈l then l else l++[x]) l
def Nh (l:List Eqn):List Str:=Gg [] (l.flatMap (·.left))
mutual
def Fx (out:List Str):List (List State)→List Str
 | []=>out
 | []::xs=>Fx out xs
 | (s::r)::xs=>Fx (Gg out (zH (HO s) (yp s.locals))) xs
def HO:State→List Str
 | .mk n l e a u w=>Fx (Nh e) a
end
theorem JJ {α:Type} {a b:List α}:(a++b).Nodup↔a.Nodup∧b.Nodup∧∀x∈b,x∉a:=by
 rw[cd]
 constructor
 ·rintro⟨h1,h2,h3⟩; exact⟨h1,h2,λx hx hy=>h3 x hy x hx rfl⟩
 ·rintro⟨h1,h2,h3⟩; exact⟨h1,h2,λx hx y hy e=>h3 y hy (e▸hx)⟩
theorem b8x {l o:List Str} {x:Str}:x∈zH l o↔x∈l∧x∉o:=by simp[zH]
theorem b8y (a b o:List Str):zH (a++b) o=zH a o++zH b o:=by simp[zH]
theorem b6L {l o:List Str} (h:∀x∈l,x∉o):zH l o=l:=by
 unfold zH
 rw[List.filter_eq_self]
 intro x hx; simp[h x hx]
theorem FX {l o:List Str}:zH l o=[]↔∀x∈l,x∈o:=by
 unfold zH
 rw[List.filter_eq_nil_iff]
 constructor
 ·intro h x hx; have:=h x hx; simpa using this
 ·intro h x hx; simp[h x hx]
theorem Rk {d y:List Str} (h:∀x∈y,x∉d):zH (d++y) d=y:=by
 rw[b8y,FX.2 (λx hx=>hx),b6L h]; rfl
theorem b5x {l o:List Str} (h:l.Nodup):(zH l o).Nodup:=h.filter _
theorem Nd:∀(m l:List Str),m.Nodup→(∀x∈m,x∉l)→Gg l m=l++m
 | [],l,_,_=>by simp[Gg]
 | x :: m, l, hn, h => by
   have hx:=h x (by simp)
   rw[cg] at hn
   unfold Gg
   rw[cI,ae hx]
   have:=Nd m (l++[x]) hn.2 (by
    intro y hy hm
    rcases aw.1 hm with h1|h1
    ·exact h y (by simp[hy]) h1
    ·simp only[aQ] at h1; subst h1; exact hn.1 hy)
   unfold Gg at this
   rw[this]; simp
theorem DY {a:EN} {f:List Str→EN} {r:List Str}:AB a f=(0,r)↔a.1=0∧f a.2=(0,r):=by
 unfold AB
 by_cases h:a.1=0
 ·simp[h]
 ·simp only[h,if_false,false_and,iff_false]
  intro e; exact h (by simpa using aL Prod.fst e)
theorem DZ {a:EN} (h:a.1=0):a=(0,a.2):=by rw[← h]
def Defs (s:Place) (d xs:List Str):Prop:=(∀x∈xs,x∈s.vis∧x∉s.inputs∧x∉d)∧xs.Nodup
theorem Defs.nil (s:Place) (d:List Str):Defs s d []:=⟨by simp,by simp⟩
theorem Defs.app {s:Place} {d a b:List Str}:Defs s d (a++b)↔Defs s d a∧Defs s (d++a) b:=by
 unfold Defs
 rw[JJ]
 constructor
 ·rintro⟨h1,h2,h3,h4⟩
  refine⟨⟨λx hx=>h1 x (by simp[hx]),h2⟩,λx hx =>?_,h3⟩
  have:=h1 x (by simp[hx])
  have h5:=h4 x hx
  exact⟨this.1,this.2.1,by simp[this.2.2,h5]⟩
 ·rintro⟨⟨h1,h2⟩,h3,h4⟩
  refine⟨λx hx =>?_,h2,h4,λx hx =>?_⟩
  ·rcases aw.1 hx with h|h
   ·exact h1 x h
   ·have:=h3 x h
    exact⟨this.1,this.2.1,λhd=>this.2.2 (by simp[hd])⟩
  ·have:=h3 x hx
   exact λha=>this.2.2 (by simp[ha])
theorem Nf (s:Place):∀(xs d r:List Str),CT s xs d=(0,r)↔r=d++xs∧Defs s d xs
 | [],d,r=>by simp only[CT,aW,Defs.nil,and_true,ac,true_and]; exact eq_comm
 | x :: xs, d, r => by
   have ih:=Nf s xs (d++[x]) r
   have gz:x::xs=[x]++xs:=rfl
   rw[gz,Defs.app]
   have h1:Defs s d [x]↔x∈s.vis∧x∉s.inputs∧x∉d:=by unfold Defs; simp
   simp only[CT,aK,be]
   by_cases hv:x∈s.vis
   ·by_cases hd:x∈s.inputs∨x∈d
    ·have:¬Defs s d [x]:=by rw[h1]; rintro⟨_,a,b⟩; rcases hd with h|h; (exact a h); exact b h
     simp[hv,hd,this]
    ·simp only[not_or] at hd
     have:Defs s d [x]:=h1.2 ⟨hv,hd.1,hd.2⟩
     simp[hv,hd,this,ih]
   ·have:¬Defs s d [x]:=by rw[h1]; exact λh=>hv h.1
    simp[hv,this]
theorem IY {s:Place} {q:Eqn} {d r:List Str}:AY s q d=(0,r)↔r=d++q.left∧Defs s d q.left∧zx s q.right q.left.length=0:=by
 unfold AY
 rw[DY]
 constructor
 ·rintro⟨h1,h2⟩
  have h3:=(Nf s q.left d _).1 (DZ h1)
  simp only[ac] at h2
  exact⟨by rw[← h2.2,h3.1],h3.2,h2.1⟩
 ·rintro⟨rfl,h1,h2⟩
  rw[(Nf s q.left d _).2 ⟨rfl,h1⟩]
  exact⟨rfl,by simp[h2]⟩
def zz (l:List Eqn):List Str:=l.flatMap (·.left)
theorem Fh (s:Place):∀(l:List Eqn) (d r:List Str),A9 s l d=(0,r)↔r=d++zz l∧Defs s d (zz l)∧∀q∈l,zx s q.right q.left.length=0
 | [],d,r=>by simp only[A9,zz,List.flatMap_nil,aW,Defs.nil,true_and,List.not_mem_nil,false_imp_iff,implies_true,and_true,ac]; exact eq_comm
 | q :: l, d, r => by
   simp only[A9]
   rw[DY]
   have hl:zz (q::l)=q.left++zz l:=by simp[zz]
   rw[hl,Defs.app]
   constructor
   ·rintro⟨h1,h2⟩
    obtain⟨h3,h4,h5⟩:=IY.1 (DZ h1)
    rw[h3] at h2
    obtain⟨h6,h7,h8⟩:=(Fh s l _ r).1 h2
    refine⟨by rw[h6,aI],⟨h4,h7⟩,?_⟩
    intro x hx
    rcases az.1 hx with rfl|hx
    ·exact h5
    ·exact h8 x hx
   ·rintro⟨h1,⟨h2,h3⟩,h4⟩
    rw[IY.2 ⟨rfl,h2,h4 q (by simp)⟩]
    refine⟨rfl,(Fh s l _ r).2 ⟨by rw[h1,aI],h3,λx hx=>h4 x (by simp[hx])⟩⟩
theorem Ph (s:Place):∀(l:List Eqn) (k:Nat) (d r:List Str),Cf s l k d = .inr r↔A9 s l d=(0,r)
 | [],k,d,r=>by simp[Cf,A9]
 | q :: l, k, d, r => by
   simp only[Cf,A9]
   rw[DY]
   by_cases h:(AY s q d).1=0
   ·simp only[h,if_true,true_and]; exact Ph s l (k+1) _ r
   ·simp[h]
theorem Ng (tags:List Str):∀(l:List Decl) (v r:List Str),zO tags l v=(0,r)↔r=v++yp l∧(∀x∈yp l,x∉v∧x∉tags)∧(yp l).Nodup
 | [],v,r=>by simp only[zO,yp,bI,aW,List.not_mem_nil,false_imp_iff,implies_true,List.nodup_nil,and_true,ac,true_and]; exact eq_comm
 | d :: l, v, r => by
   have ih:=Ng tags l (v++[d.name]) r
   simp only[zO]
   have hn:yp (d::l)=d.name::yp l:=rfl
   rw[hn,cg]
   by_cases h:d.name∈v∨d.name∈tags
   ·simp only[h,if_true,ac]
    constructor
    ·rintro⟨h,_⟩; exact absurd h (by decide)
    ·rintro⟨_,h2,_⟩
     have:=h2 d.name (by simp)
     rcases h with h|h
     ·exact absurd h this.1
     ·exact absurd h this.2
   ·simp only[h,if_false,ih]
    simp only[not_or] at h
    constructor
    ·rintro⟨h1,h2,h3⟩
     refine⟨by rw[h1]; simp,?_,?_,h3⟩
     ·intro x hx
      rcases az.1 hx with rfl|hx
      ·exact h
      ·have:=h2 x hx
       exact⟨λhv=>this.1 (by simp[hv]),this.2⟩
     ·intro hm
      exact(h2 _ hm).1 (by simp)
    ·rintro⟨h1,h2,h3,h4⟩
     refine⟨by rw[h1]; simp,?_,h4⟩
     intro x hx
     have:=h2 x (by simp[hx])
     refine⟨?_,this.2⟩
     intro hm
     rcases aw.1 hm with h5|h5
     ·exact this.1 h5
     ·simp only[aQ] at h5; subst h5; exact h3 hx
theorem Co {b:Bool} {e:Int} (he:e≠0):need b e=0↔b=true:=by cases b<;>simp[he]
theorem Rl {v:List Str} {l:List Decl}:C6 v l=0↔∀d∈l,∀o∈d.clock,o.name∈v:=by
 unfold C6
 rw[BW]
 constructor
 ·intro h d hd o ho
  have:=BW.1 (h d hd) o ho
  simpa using(Co (by decide)).1 this
 ·intro h d hd
  rw[BW]
  intro o ho
  rw[Co (by decide)]; simpa using h d hd o ho
theorem Rm {v tags:List Str} {l:List Decl} {r:List Str}:A6 v tags l=(0,r)↔r=v++yp l∧((∀x∈yp l,x∉v∧x∉tags)∧(yp l).Nodup)∧∀d∈l,∀o∈d.clock,o.name∈r:=by
 unfold A6
 rw[DY]
 constructor
 ·rintro⟨h1,h2⟩
  obtain⟨h3,h4⟩:=(Ng tags l v _).1 (DZ h1)
  simp only[ac] at h2
  rw[← h2.2]
  exact⟨h3,h4,Rl.1 h2.1⟩
 ·rintro⟨h1,h2,h3⟩
  rw[(Ng tags l v _).2 ⟨rfl,h2⟩]
  refine⟨rfl,?_⟩
  rw[← h1,Rl.2 h3]
mutual
def zp:List (List State)→List Str
 | []=>[]
 | []::xs=>zp xs
 | (s::r)::xs=>zH (CD s) (yp s.locals)++zp xs
def CD:State→List Str
 | .mk n l e a u w=>zz e++zp a
end
def Ag (x:State):List Str:=zH (CD x) (yp x.locals)
theorem Fg (x:List State) (xs:List (List State)):zp (x::xs)=(x.map Ag).headD []++zp xs:=by cases x<;>simp[zp,Ag]
theorem c4g {l:List Eqn} (h:(zz l).Nodup):Nh l=zz l:=by
 have:=Nd (zz l) [] h (by simp)
 simpa[Nh,zz] using this
mutual
theorem Ni:∀(x:State) (s:Place) (d l:List Str),BP s d x=(0,l)→l=Ag x∧Defs s d (Ag x)∧HO x=CD x
 | .mk n l e a u w, s, d, r, h => by
   simp only[BP] at h
   rw[DY] at h; obtain⟨h1,h⟩:=h
   rw[DY] at h; obtain⟨h2,h⟩:=h
   rw[DY] at h; obtain⟨h3,h⟩:=h
   rw[DY] at h; obtain⟨h4,h⟩:=h
   rw[DY] at h; obtain⟨h5,h⟩:=h
   obtain⟨v1,v2,v3⟩:=Rm.1 (DZ h1)
   generalize (A6 s.vis s.tags l).2=vis at *
   obtain⟨e1,e2,e3⟩:=(Fh (s.at vis) e d _).1 (DZ h2)
   generalize (A9 (s.at vis) e d).2=d1 at *
   obtain⟨a1,a2,a3⟩:=Gh a (s.at vis) d1 _ (DZ h3)
   generalize (zt (s.at vis) d1 a).2=d2 at *
   have hD:Defs (s.at vis) d (zz e++zp a):=Defs.app.2 ⟨e2,by rw[← e1]; exact a2⟩
   have iS:d2=d++(zz e++zp a):=by rw[a1,e1,aI]
   have hw:zH d2 d=zz e++zp a:=by rw[iS]; exact Rk λx hx=>(hD.1 x hx).2.2
   rw[hw] at h
   have jA:HO (.mk n l e a u w)=CD (.mk n l e a u w):=by
    simp only[HO,CD]
    rw[c4g e2.2]
    exact a3 _ λy hy hm=>(a2.1 y hy).2.2 (by rw[e1]; simp[hm])
   have dZ:Ag (.mk n l e a u w)=zH (zz e++zp a) (yp l):=by simp[Ag,CD]
   have dT:Defs s d (Ag (.mk n l e a u w)):=by
    rw[dZ]
    refine⟨?_,b5x hD.2⟩
    intro x hx
    rw[b8x] at hx
    have:=hD.1 x hx.1
    refine⟨?_,this.2⟩
    have hv:x∈vis:=this.1
    rw[v1] at hv
    rcases aw.1 hv with h6|h6
    ·exact h6
    ·exact absurd h6 hx.2
   by_cases m7:zH (yp l) (zz e++zp a)=[]
   ·rw[af m7] at h
    simp only[ac,true_and] at h
    exact⟨by rw[dZ,h],dT,jA⟩
   ·rw[ae m7] at h
    simp only[ac] at h
    exact absurd h.1 (by decide)
theorem Nj:∀(xs:List State) (s:Place) (d:List Str) (ls:List (List Str)),Ah s d xs=(0,ls)→ls=xs.map Ag∧∀x∈xs,Defs s d (Ag x)∧HO x=CD x
 | [],s,d,ls,h=>by simp only[Ah,ac,true_and] at h; subst h; simp
 | x :: xs, s, d, ls, h => by
   simp only[Ah] at h
   by_cases h1:(BP s d x).1=0
   ·by_cases h2:(Ah s d xs).1=0
    ·simp only[h1,h2,if_true,ac,true_and] at h
     obtain⟨a1,a2⟩:=Ni x s d _ (DZ h1)
     obtain⟨b1,b2⟩:=Nj xs s d (Ah s d xs).2 (by rw[← h2])
     refine⟨by rw[← h,a1,b1]; rfl,?_⟩
     intro y hy
     rcases az.1 hy with rfl|hy
     ·exact a2
     ·exact b2 y hy
    ·simp[h1,h2] at h
   ·simp[h1] at h
theorem Gh:∀(a:List (List State)) (s:Place) (d r:List Str),zt s d a=(0,r)→r=d++zp a∧Defs s d (zp a)∧∀out:List Str,(∀y∈zp a,y∉out)→Fx out a=out++zp a
 | [], s, d, r, h => by
   simp only[zt,ac,true_and] at h
   subst h
   simp only[zp,aW,Defs.nil,Fx,true_and,implies_true]
 | x :: xs, s, d, r, h => by
   simp only[zt] at h
   by_cases hn:(x.map (·.name)).Nodup
   ·simp only[hn,bB,if_false] at h
    by_cases h1:(Ah s d x).1=0
    ·simp only[h1,ne_eq,bB,if_false] at h
     obtain⟨b1,b2⟩:=Nj x s d (Ah s d x).2 (by rw[← h1])
     rw[b1] at h
     split at h
     ·obtain⟨c1,c2,c3⟩:=Gh xs s _ r h
      rw[Fg]
      have hd:Defs s d ((x.map Ag).headD []):=by
       cases x with
       | nil=>exact Defs.nil s d
       | cons y x=>exact(b2 y (by simp)).1
      have iK:=Defs.app.2 ⟨hd,c2⟩
      refine⟨by rw[c1,aI],iK,?_⟩
      intro out ho
      cases x with
      | nil =>
        simp only[bI,List.headD_nil,be] at ho ⊢
        simp only[Fx]
        exact c3 out ho
      | cons y x =>
        simp only[aA,List.headD_cons] at *
        simp only[Fx]
        have hy:=(b2 y (by simp)).2
        rw[hy]
        have hr:zH (CD y) (yp y.locals)=Ag y:=rfl
        rw[hr,Nd _ _ hd.2 (λz hz=>ho z (by simp[hz]))]
        rw[c3 (out++Ag y) ?_,aI]
        intro z hz hm
        rcases aw.1 hm with h5|h5
        ·exact ho z (by simp[hz]) h5
        ·exact(c2.1 z hz).2.2 (by simp[h5])
     ·simp only[ac] at h; exact absurd h.1 (by decide)
    ·simp[h1] at h
   ·simp only[hn,cH,if_true,ac] at h; exact absurd h.1 (by decide)
end
def Seen (b:List Node) (l:List Expr):Prop:=∀e∈l,∃(s:Place) (n:Nat),s.before=b∧zx s e n=0
theorem Seen.app {b:List Node} {l m:List Expr}:Seen b (l++m)↔Seen b l∧Seen b m:=by
 unfold Seen
 constructor
 ·intro h; exact⟨λe he=>h e (by simp[he]),λe he=>h e (by simp[he])⟩
 ·rintro⟨h1,h2⟩ e he
  rcases aw.1 he with h|h
  ·exact h1 e h
  ·exact h2 e h
structure NodeOK (before:List Node) (tags:List Str) (n:Node) (c:List Str):Prop where
 new:n.name∉before.map (·.name)
 decl:A6 [] tags (vars n)=(0,yp (vars n))
 eqs:A9 ⟨before,yp (vars n),yp n.ins,tags⟩ n.eqs []=(0,zz n.eqs)
 autos:zt ⟨before,yp (vars n),yp n.ins,tags⟩ (zz n.eqs) n.autos=(0,c)
 assume:∀e∈n.assume,zx ⟨before,yp n.ins,yp n.ins,tags⟩ e 1=0
 ensure:∀e∈n.ensure,zx ⟨before,yp n.ins++yp n.outs,yp n.ins,tags⟩ e 1=0
 all:∀x∈yp n.outs++yp n.locals,x∈c
theorem NodeOK.c_eq {before:List Node} {tags:List Str} {n:Node} {c:List Str} (h:NodeOK before tags n c):c=zz n.eqs++zp n.autos:=(Gh _ _ _ _ h.autos).1
theorem NodeOK.defs {before:List Node} {tags:List Str} {n:Node} {c:List Str} (h:NodeOK before tags n c):Defs ⟨before,yp (vars n),yp n.ins,tags⟩ [] c:=by
 rw[h.c_eq]
 refine Defs.app.2 ⟨((Fh _ _ _ _).1 h.eqs).2.1,?_⟩
 exact(Gh _ _ _ _ h.autos).2.1
theorem Ro (n:Node):yp (vars n)=yp n.ins++(yp n.outs++yp n.locals):=by simp[yp,vars]
theorem NodeOK.length {before:List Node} {tags:List Str} {n:Node} {c:List Str} (h:NodeOK before tags n c):c.length=n.outs.length+n.locals.length:=by
 obtain⟨_,⟨_,hv⟩,_⟩:=Rm.1 h.decl
 rw[Ro,JJ] at hv
 have hp:c.Perm (yp n.outs++yp n.locals):=by
  rw[List.perm_ext_iff_of_nodup h.defs.2 hv.2.1]
  intro x
  constructor
  ·intro hx
   have:=h.defs.1 x hx
   have h1:x∈yp (vars n):=this.1
   rw[Ro] at h1
   rcases aw.1 h1 with h2|h2
   ·exact absurd h2 this.2.1
   ·exact h2
  ·exact h.all x
 rw[hp.length_eq]; simp[yp]
structure OK (p:Prog):Prop where
 shape:Cg p=none
 enums:Ej p.enums=true
 nodes:Dp (Bs p.enums) [] p.nodes=none
theorem Pl (en:List Enum):∀(ns:List Node) (i:Nat),Ba en ns i=none↔∀n∈ns,∀k:Nat,At en n k=none
 | [],i=>by simp[Ba]
 | n :: ns, i => by
   have hk:∀k:Nat,At en n i=none↔At en n k=none:=by
    intro k
    unfold At
    split
    ·simp
    ·cases Bb (BQ en) n.eqs 0 with
     | some x=>simp
     | none=>simp only; split<;>simp
   simp only[Ba,az,forall_eq_or_imp]
   cases hn:At en n i with
   | some x =>
     simp only[reduceCtorEq,false_iff,not_and]
     intro h
     rw[h i] at hn; simp at hn
   | none =>
     simp only
     rw[Pl en ns (i+1)]
     exact⟨λh=>⟨λk=>(hk k).1 hn,h⟩,λh=>h.2⟩
end PI.Sc
set_option linter.unusedSimpArgs false
set_option linter.unusedVariables false
namespace PI.Sc
open Go (IntKind BinOp UnOp)
open Go.Lib (decDigits)
theorem Nk:∀(l m:List Str),l.Nodup→(∀x∈l,x∈m)→l.length≤m.length
 | [],m,_,_=>by simp
 | x :: l, m, hn, h => by
   rw[cg] at hn
   have:=Nk l (m.erase x) hn.2 (by
    intro y hy
    have dh:y≠x:=λe=>hn.1 (e▸hy)
    exact(List.mem_erase_of_ne dh).2 (h y (by simp[hy])))
   have hx:=List.length_erase_of_mem (h x (by simp))
   have hp:0<m.length:=List.length_pos_of_mem (h x (by simp))
   simp only[aB]
   omega
def low (b:UInt8):Bool:=decide (97≤b.toNat∧b.toNat≤122)
structure Near (x:Str) (s s':Place):Prop where
 before:s'.before=s.before
 inputs:s'.inputs=s.inputs
 tags:s'.tags=s.tags
 more:∀y∈s.vis,y∈s'.vis
 less:∀y∈s'.vis,y∈s.vis∨y=x
theorem Near.at {x:Str} {s s':Place} (h:Near x s s') (l:List Str):Near x (s.at (s.vis++l)) (s'.at (s'.vis++l)):=by
 refine⟨h.before,h.inputs,h.tags,?_,?_⟩
 ·intro y hy
  rcases aw.1 hy with h1|h1
  ·exact b9 _ (h.more y h1)
  ·exact cC _ h1
 ·intro y hy
  rcases aw.1 hy with h1|h1
  ·rcases h.less y h1 with h2|h2
   ·exact .inl (b9 _ h2)
   ·exact .inr h2
  ·exact .inl (cC _ h1)
theorem JK {α:Type} {f:α→Int}:∀{l:List α} {i:Nat},Bb f l i=none↔∀x∈l,f x=0
 | [],i=>by simp[Bb]
 | x :: l, i => by
   unfold Bb
   by_cases h:f x=0
   ·simp[h,JK (l:=l)]
   ·simp[h]
theorem b6N {en:List Enum} {n:Node} {i:Nat}:At en n i=none↔Bg en n=0∧(∀q∈n.eqs,BQ en q=0)∧B6 en n=0:=by
 unfold At
 by_cases h1:Bg en n=0
 ·simp only[h1,ne_eq,bB,if_false,true_and]
  cases h2:Bb (BQ en) n.eqs 0 with
  | none =>
    have:=JK.1 h2
    by_cases h3:B6 en n=0
    ·simp[h3]; exact this
    ·simp[h3]
  | some x =>
    simp only[reduceCtorEq,false_iff,not_and]
    intro h
    rw[JK.2 h] at h2; simp at h2
 ·simp[h1]
end PI.Sc
set_option linter.unusedSimpArgs false
set_option linter.unusedVariables false
namespace PI.Sc
open Go (IntKind BinOp UnOp)
def yE {α:Type} (f:α→Nat):List α→Nat
 | []=>0
 | x::xs=>f x+yE f xs
theorem Ei {α:Type} (f:α→Nat) {x:α}:∀{l:List α},x∈l→f x≤yE f l
 | [],h=>by simp at h
 | y :: l, h => by
   simp only[yE]
   rcases az.1 h with rfl|h
   ·omega
   ·have:=Ei f h; omega
theorem JL {α:Type} (f:α→Nat) (h:∀x,1≤f x):∀l:List α,l.length≤yE f l
 | []=>by simp
 | x::l=>by have:=h x; have:=JL f h l; simp only[yE,aB]; omega
def Expr.parts (e:Expr):Nat:=e.list.length
def Eqn.parts (q:Eqn):Nat:=1+q.left.length+q.right.parts
def Decl.parts (d:Decl):Nat:=1+d.clock.length+d.name.length / 100
def Trn.parts (t:Trn):Nat:=1+t.cond.parts
mutual
def State.parts:State→Nat
 | .mk n l e a u w=>1+yE Decl.parts l+yE Eqn.parts e+yE Trn.parts u+yE Trn.parts w+B1 a
def DS:List State→Nat
 | []=>0
 | x::xs=>x.parts+DS xs
def B1:List (List State)→Nat
 | []=>0
 | x::xs=>1+DS x+B1 xs
end
theorem FW:∀l:List State,DS l=yE State.parts l
 | []=>rfl
 | x::l=>by simp[DS,yE,FW l]
theorem G9:∀l:List (List State),B1 l=yE (λa=>1+yE State.parts a) l
 | []=>rfl
 | x::l=>by simp[B1,yE,G9 l,FW]
def Node.parts (n:Node):Nat:=1+yE Decl.parts n.ins+yE Decl.parts n.outs+yE Decl.parts n.locals+yE Eqn.parts n.eqs+yE (λe=>1+Expr.parts e) n.assume+yE (λe=>1+Expr.parts e) n.ensure+B1 n.autos
def Enum.parts (u:Enum):Nat:=1+u.tags.length
def parts (p:Prog):Nat:=yE Enum.parts p.enums+yE Node.parts p.nodes
def Cap (m n T:Int):Prop:=(n<m↔T<m)∧(n<m→n=T)
theorem Cap.refl (m n:Int):Cap m n n:=⟨Iff.rfl,λ_=>rfl⟩
theorem Cap.add {m a b A B:Int} (h1:Cap m a A) (h2:Cap m b B) (p1:0≤a) (p2:0≤b) (p3:0≤A) (p4:0≤B):Cap m (a+b) (A+B):=by unfold Cap at *; omega
end PI.Sc
set_option linter.unusedSimpArgs false
set_option linter.unusedVariables false
namespace PI.Sc
theorem NC {α:Type} (f:α→Nat):∀a b:List α,yE f (a++b)=yE f a+yE f b
 | [],b=>by simp[yE]
 | x::a,b=>by simp[yE,NC f a b]; omega
theorem c0S {α:Type} (f:α→Nat) {l:List α} {i:Nat} (h:i<l.length):yE f (l.take (i+1))=yE f (l.take i)+f l[i]:=by
 rw[a8,an h,NC]; simp[yE]
theorem c4z {α:Type} (f:α→Nat) (l:List α) (i:Nat):yE f (l.take i)≤yE f l:=by
 have:=NC f (l.take i) (l.drop i)
 rw[bY] at this
 omega
def isVar (k:Int):Bool:=decide (k=2∨k=8∨k=9)
def Eo (k:Int) (i:Nat):Bool:=decide (k=5∨k=7∧0<i)
def Dv (l:List Str) (k:Int) (n:Str):List Str:=if isVar k=true∧n∉l then l++[n] else l
mutual
def Bv (l:List Str):Expr→List Str
 | .mk k o t v n as=>Du k 0 (Dv l k n) as
def Du (k:Int) (i:Nat) (l:List Str):List Expr→List Str
 | []=>l
 | x::xs=>if Eo k i then l else Du k (i+1) (Bv l x) xs
end
theorem c7o (l:List Str) (e:Expr):Bv l e=Du e.kind 0 (Dv l e.kind e.name) e.args:=by cases e; simp[Bv]
theorem c4A (l:List Str) (k:Int) (n:Str):(Dv l k n).length≤l.length+1:=by unfold Dv; split<;>simp
mutual
theorem HC (l:List Str):∀e:Expr,(Bv l e).length≤l.length+e.list.length
 | .mk k o t v n as => by
   simp only[Bv,Expr.list,aB]
   have h1:=c4A l k n
   have h2:=Sn k 0 (Dv l k n) as
   omega
theorem Sn (k:Int) (i:Nat) (l:List Str):∀as:List Expr,(Du k i l as).length≤l.length+(FG as).length
 | []=>by simp[Du]
 | x :: xs => by
   simp only[Du,FG,ao]
   split
   ·omega
   ·have h1:=HC l x
    have h2:=Sn k (i+1) (Bv l x) xs
    omega
end
def plain (p:Prog):Bool:=p.nodes.all λn=>decide (n.autos=[])
def Ep (p:Prog):Bad:=if (BL (Cz p)).err=0 then(if plain p then CO else⟨-1,-1,2⟩) else BL (Cz p)
end PI.Sc
set_option maxRecDepth 100000
set_option linter.unusedSimpArgs false
set_option linter.unusedVariables false
namespace PI.Sc
open Go (IntKind BinOp UnOp)
section
variable {L:Nat→Option PFunc} (hL:∀k f,LS k=some f→L k=some f)
include hL
theorem HP (b:Int) (h:List PObj):ym L 142 [.int .u8 b] h=some (.bool (Fy b),h):=by
 refine yB (hL 142 _ rfl) rfl ?_
 by_cases h1:97≤b<;>by_cases h2:b≤122<;>by_cases h3:65≤b<;>by_cases h4:b≤90 <;>
  simp[LH,Fy,h1,h2,h3,h4]<;>omega
theorem Rv (b:Int) (h:List PObj):ym L 162 [.int .u8 b] h=some (.bool (HQ b),h):=by
 refine yB (hL 162 _ rfl) rfl ?_
 by_cases h1:48≤b<;>by_cases h2:b≤57<;>simp[LO,HQ,h1,h2]
theorem Rw (b:Int) (h:List PObj):ym L 144 [.int .u8 b] h=some (.bool (EY b),h):=by
 refine yB (hL 144 _ rfl) rfl ?_
 by_cases h3:b=95
 ·subst h3
  cases h1:Fy 95<;>cases h2:HQ 95<;>simp[Jn,HP hL,Rv hL,EY,h1,h2]
 ·cases h1:Fy b<;>cases h2:HQ b<;>simp[Jn,HP hL,Rv hL,EY,h1,h2,h3]
theorem Rx (s:Str) (h:List PObj):ym L 143 [.str s] h=some (.bool (JO s),h):=by
 refine yB (hL 143 _ rfl) rfl ?_
 simp[LI]
 repeat' split
 all_goals simp_all [JO,Ry]
end
theorem list_eq {α:Type} {a b:List α} (hl:a.length=b.length) (h:∀k,k<a.length→a[k]? = b[k]?):a=b:=by
 apply bO
 intro k
 by_cases hk:k<a.length
 ·exact h k hk
 ·rw[cL (by omega),cL (by omega)]
theorem Rz {α:Type} {l:List α} {p:α→Bool} (h:∀k (hk:k<l.length),p l[k]=true):l.all p=true:=by
 rw[aN]
 intro x hx
 obtain⟨k,hk,rfl⟩:=bC.1 hx
 exact h k hk
theorem RA {α:Type} {l:List α} {p:α→Bool} {i:Nat} (hi:i<l.length) (h:p l[i]=false):l.all p=false:=by
 rw[Bool.eq_false_iff]
 intro e
 have:=aN.1 e _ (ak hi)
 rw[h] at this; simp at this
section
variable {L:Nat→Option PFunc} (hL:∀k f,LS k=some f→L k=some f)
include hL
theorem RB (s:Str) (h:List PObj):ym L 118 [.str s] h=some (.bool (CU s),h):=by
 refine yB (hL 118 _ rfl) rfl ?_
 cases s with
 | nil=>simp[Fm,CU]
 | cons c r =>
   by_cases cY:(c::r).length≤40
   ·have ev:¬(40:Int)<(r.length:Int)+1:=by simp at cY; omega
    cases hc:Fy c.toNat with
    | false=>simp[Fm,CU,ev,HP hL,hc]
    | true =>
      cases hk:JO (c::r) with
      | true=>simp[Fm,CU,ev,HP hL,Rx hL,hc,hk]
      | false =>
        have iX:CU (c::r)=(c::r).all (λb=>EY b.toNat):=by
         simp[CU,hc,hk]; omega
        simp[Fm,ev,HP hL,Rx hL,hc,hk]
        generalize hs:c::r=s at *
        have lg:(r.length:Int)+1=(s.length:Int):=by rw[← hs]; simp
        rw[lg]
        refine c5s s.length (λi=>EY (s.getD i 0).toNat) (λi (x:PV)=>[(2,x),(4,.int .i64 i)]) (λ_ _=>h) .dead ?_ ?_ ?_ rfl rfl
        ·intro i hi dm x ih
         have hw:=yz i (by omega)
         simp[hi,List.getD] at dm
         simp[hi,hw,Rw hL,dm]
         simpa using ih _
        ·intro i hi dm hk x
         have hx:=RA (p:=λb:UInt8=>EY b.toNat) hi (by simpa[hi,List.getD] using dm)
         simp[hi,List.getD] at dm
         simp[hi,Rw hL,dm,iX,hx]
        ·intro dm x
         have hx:s.all (λb=>EY b.toNat)=true:=Rz (λk hk=>by have:=dm k hk; simpa[hk,List.getD] using this)
         simp[iX,hx]
   ·have ev:(40:Int)<(r.length:Int)+1:=by simp at cY; omega
    simp[Fm,CU,ev]
    omega
end
@[simp] theorem d2O:PV.agg [.str [],.list false []]=yG ⟨[],[]⟩:=rfl
section
variable {L:Nat→Option PFunc} (hL:∀k f,LS k=some f→L k=some f)
include hL
theorem c0H (en:List Enum) (t:Int) (ht:CV t) (o:Bool) (h:List PObj):ym L 145 [.list o (en.map yG),.int .i64 t] h=some (.tuple [yG ((D3 en t).getD ⟨[],[]⟩),.bool (D3 en t).isSome],h):=by
 refine yB (hL 145 _ rfl) rfl ?_
 rcases c4y t with h3|⟨k,rfl⟩
 ·simp[Hm,h3,c2u h3]
 ·have hw:IntKind.i64.wrap (k:Int)=k:=by rw[Fq]<;>omega
  have h3:¬(k:Int)+3<3:=by omega
  by_cases hk:k<en.length
  ·have eA:¬(en.length:Int)≤k:=by omega
   simp[Hm,h3,hw,eA,hk,c2v hk]
  ·have eA:(en.length:Int)≤k:=by omega
   simp[Hm,h3,hw,eA,c0Q (show en.length≤k by omega)]
theorem JR (en:List Enum) (t:Int) (ht:CV t) (o:Bool) (h:List PObj):ym L 119 [.list o (en.map yG),.int .i64 t] h=some (.int .i64 (Aj en t),h):=by
 refine yB (hL 119 _ rfl) rfl ?_
 by_cases h1:t=1
 ·subst h1; simp[Hh,Aj]
 ·by_cases h2:t=2
  ·subst h2; simp[Hh,Aj]
  ·have:=c0H hL en t ht false []
   cases he:D3 en t<;>simp[Hh,Aj,h1,h2,this,he]
theorem c65 (v:Int) (h:List PObj):ym L 146 [.int .i64 v] h=some (.bool (decide (-32768≤v∧v≤32767)),h):=by
 refine yB (hL 146 _ rfl) rfl ?_
 by_cases h1 : -32768≤v<;>by_cases h2:v≤32767<;>simp[LJ,h1,h2]
theorem HX (en:List Enum) (t v:Int) (ht:CV t) (o:Bool) (h:List PObj):ym L 120 [.list o (en.map yG),.int .i64 t,.int .i64 v] h=some (.bool (Ew en t v),h):=by
 refine yB (hL 120 _ rfl) rfl ?_
 by_cases h2:t=2
 ·subst h2; simp[Hi,Ew,c65 hL]
 ·by_cases h0:0≤v
  ·simp[Hi,Ew,h2,h0,JR hL en t ht false []]
  ·simp[Hi,Ew,h2,h0]
end
end PI.Sc
set_option linter.unusedSimpArgs false
set_option linter.unusedVariables false
namespace PI
open Go (IntKind BinOp UnOp)
section
variable {L:Nat→Option PFunc} {V l:List PV} {g:Nat} {h:List PObj} {Q:PExit→St→Prop}
def Ou (st:St):Option (Out×List PObj)→Option (PExit×St)
 | some (.val _, h') => match h'[st.heap.length]? with
   | some (.loop true)=>some (.normal,{ st with heap:=h'.set st.heap.length .gone })
   | some (.over (some id))=>some (.exit id,{ st with heap:=h'.set st.heap.length .gone })
   | some (.over none)=>some (.ret,{ st with heap:=h'.set st.heap.length .gone })
   | _=>none
 | some (.boom v,h')=>some (.boom v,{ st with heap:=h' })
 | none=>none
theorem c05 {x:PX} {kb:Nat} {caps:List PX} {st:St} {k:Nat} {first captured cs:List PV} (hx:rd st x=some (.func k first captured)) (hc:rdAll st caps=some cs) (hn:EJ L k=true):
  evL L (.rangeF x kb caps) st=Ou st (yI L k (first ++ .func kb (.ptr st.heap.length 0::cs) []::captured) (st.heap++[.loop true])):=by
 refine Di λr =>?_
 rw[Ea]
 simp only[yr,hx,hc,hn,Bool.true_eq_false,if_false]
 constructor
 ·rintro⟨n,h⟩
  split at h
  ·rename_i h1
   have h2:yI L k (first ++ .func kb (.ptr st.heap.length 0::cs) []::captured) (st.heap++[.loop true])=_:=EE.2 ⟨n,h1⟩
   rw[h2]; exact h
  ·rename_i h1
   have h2:yI L k (first ++ .func kb (.ptr st.heap.length 0::cs) []::captured) (st.heap++[.loop true])=_:=EE.2 ⟨n,h1⟩
   rw[h2]; exact h
  ·simp at h
 ·intro h
  cases ho:yI L k (first ++ .func kb (.ptr st.heap.length 0::cs) []::captured) (st.heap++[.loop true]) with
  | none=>rw[ho] at h; simp[Ou] at h
  | some p =>
    obtain⟨n,hn⟩:=EE.1 ho
    refine⟨n,?_⟩
    rw[ho] at h
    have ig:Ae (yr L n) L k (first ++ .func kb (.ptr st.heap.length 0::cs) []::captured) (st.heap++[.loop true])=some p:=hn
    rw[ig]
    obtain⟨o,h'⟩:=p
    cases o<;>exact h
def CX (V l:List PV) (g n:Nat) (Q:PExit→St→Prop):Out×List PObj→Prop
 | (.val _, h') => match h'[n]? with
   | some (.loop true)=>Q .normal ⟨V,l,g,h'.set n .gone⟩
   | some (.over (some id))=>Q (.exit id) ⟨V,l,g,h'.set n .gone⟩
   | some (.over none)=>Q .ret ⟨V,l,g,h'.set n .gone⟩
   | _=>False
 | (.boom v,h')=>Q (.boom v) ⟨V,l,g,h'⟩
theorem c06 {x:PX} {kb:Nat} {caps:List PX} {k:Nat} {first captured cs:List PV} {r:Out×List PObj} (hx:rd ⟨V,l,g,h⟩ x=some (.func k first captured)) (hc:rdAll ⟨V,l,g,h⟩ caps=some cs) (hn:EJ L k=true)
  (ho:yI L k (first ++ .func kb (.ptr h.length 0::cs) []::captured) (h++[.loop true])=some r) (hq:CX V l g h.length Q r):wpL L (.rangeF x kb caps) ⟨V,l,g,h⟩ Q:=by
 have he:=c05 (kb:=kb) (st:=⟨V,l,g,h⟩) hx hc hn
 simp only at he
 rw[ho] at he
 obtain⟨o,h'⟩:=r
 unfold wpL
 rw[he]
 cases o with
 | boom v=>exact hq
 | val v =>
   simp only[CX] at hq
   simp only[Ou]
   split at hq<;>first|exact hq.elim|skip
   all_goals (rename_i h1; simp only[h1]; exact hq)
def FO (n:Nat) (r:Out×List PObj):PExit→St→Prop
 | .normal,st=>st.heap[n]? = some (.loop false)∧r=(.val (.bool true),st.heap.set n (.loop true))
 | .boom v,st=>r=(.boom v,st.heap)
 | .exit id,st=>st.heap[n]? = some (.loop false)∧r=(.val (.bool false),st.heap.set n (.over (some id)))
 | .ret,st=>st.heap[n]? = some (.loop false)∧r=(.val (.bool false),st.heap.set n (.over none))
 | .after ..,_=>False
@[simp] theorem c4G (n:Nat) (r:Out×List PObj):FO n r .normal ⟨V,l,g,h⟩=(h[n]? = some (.loop false)∧r=(.val (.bool true),h.set n (.loop true))):=rfl
@[simp] theorem c7E (n:Nat) (r:Out×List PObj) (v:PV):FO n r (.boom v) ⟨V,l,g,h⟩=(r=(.boom v,h)):=rfl
@[simp] theorem c7F (n:Nat) (r:Out×List PObj) (id:Nat):FO n r (.exit id) ⟨V,l,g,h⟩=(h[n]? = some (.loop false)∧r=(.val (.bool false),h.set n (.over (some id)))):=rfl
@[simp] theorem c85 (n:Nat) (r:Out×List PObj):FO n r .ret ⟨V,l,g,h⟩=(h[n]? = some (.loop false)∧r=(.val (.bool false),h.set n (.over none))):=rfl
def Tp (L:Nat→Option PFunc) (b:PC) (n:Nat) (r:Out×List PObj):PExit→St→Prop
 | .normal,st=>st.heap[n]? = some (.loop true)∧wpL L b { st with heap:=st.heap.set n (.loop false) } (FO n r)
 | _,_=>False
@[simp] theorem c4H (b:PC) (n:Nat) (r:Out×List PObj):Tp L b n r .normal ⟨V,l,g,h⟩=(h[n]? = some (.loop true)∧wpL L b ⟨V,l,g,h.set n (.loop false)⟩ (FO n r)):=rfl
theorem HW {k:Nat} {f:PFunc} {a b:PC} {n:Nat} {as:List PV} {hp:List PObj} {r:Out×List PObj} (hf:L k=some f) (lP:f.code = .round a b) (hl:as.length+1=f.params) (hn:hp[n]? = some (.loop true))
  (hw:wpL L a ⟨as.map dem++List.replicate (f.nv - as.length) .dead,[],0,hp⟩ (Tp L b n r)) (hs:f.split=false:=by rfl) (gm:f.prim=none:=by rfl):yI L k (.ptr n 0::as) hp=some r:=by
 refine Tq hf (by simpa using hl) ?_ hs gm
 unfold Bp
 rw[lP]
 simp only[DN,hn]
 rw[D5] at hw
 obtain⟨e,st,h1,h2⟩:=hw
 rw[h1]
 cases e with
 | normal =>
   obtain⟨h3,h4⟩:=h2
   rw[D5] at h4
   obtain⟨e2,st2,h5,h6⟩:=h4
   simp only[h3,h5]
   cases e2 with
   | normal=>obtain⟨h7,rfl⟩:=h6; simp only[h7]
   | boom v=>simp only[FO] at h6; subst h6; rfl
   | exit id=>obtain⟨h7,rfl⟩:=h6; simp only[h7]
   | ret=>obtain⟨h7,rfl⟩:=h6; simp only[h7]
   | after kd cs v=>exact h6.elim
 | exit id=>exact h2.elim
 | ret=>exact h2.elim
 | boom v=>exact h2.elim
 | after kd cs v=>exact h2.elim
end
end PI
set_option linter.unusedSimpArgs false
set_option linter.unusedVariables false
namespace PI.Sc
open Go (IntKind BinOp UnOp)
section
variable {L:Nat→Option PFunc} {Q:PExit→St→Prop}
theorem b6O {α:Type} {f:α→Int} {l:List α} {i:Nat} (hi:i<l.length) (h:f l[i]≠0) (hk:∀k (hk:k<l.length),k<i→f l[k]=0):yy f l=f l[i]:=
 Rp hi h λk h1=>hk k (by omega) h1
theorem BR {α γ:Type} {c:PC} {V:List PV} {g:Nat} {h:List PObj} (l:List α) (f:α→Int) (M:Nat→γ→List (Nat×PV)) (G:Nat→γ→Nat) (H:Nat→γ→List PObj) (x0:γ)
  (step:∀i (hi:i<l.length),f l[i]=0→∀x,(∀y,wpL L (.loop c) ⟨upd V (M (i+1) y),[],G (i+1) y,H (i+1) y⟩ Q)→wpL L c ⟨upd V (M i x),[],G i x,H i x⟩ (z6 L c Q))
  (fail:∀i (hi:i<l.length),f l[i]≠0→yy f l=f l[i]→∀x,wpL L c ⟨upd V (M i x),[],G i x,H i x⟩ (z6 L c Q))
  (last:yy f l=0→∀x,wpL L c ⟨upd V (M l.length x),[],G l.length x,H l.length x⟩ (z6 L c Q)) (hV:upd V (M 0 x0)=V) (hG:G 0 x0=g) (hH:H 0 x0=h):wpL L (.loop c) ⟨V,[],g,h⟩ Q:=by
 refine Nl l.length (λi=>if h:i<l.length then decide (f l[i]=0) else true) M G H x0 ?_ ?_ ?_ hV hG hH
 ·intro i hi dm x ih
  simp only[hi,dif_pos,ay] at dm
  exact step i hi dm x ih
 ·intro i hi dm hk x
  simp only[hi,dif_pos,cu] at dm
  refine fail i hi dm (b6O hi dm λk h1 h2 =>?_) x
  have:=hk k h2
  simp only[h1,dif_pos,ay] at this
  exact this
 ·intro dm x
  refine last (BW.2 ?_) x
  intro y hy
  obtain⟨k,hk,rfl⟩:=bC.1 hy
  have:=dm k hk
  simp only[hk,dif_pos,ay] at this
  exact this
theorem Rq {α γ:Type} {c:PC} {V:List PV} {g:Nat} {h:List PObj} (l:List α) (f:α→Int) (M:Nat→γ→List (Nat×PV)) (x0:γ)
  (step:∀i (hi:i<l.length),f l[i]=0→∀x,(∀y,wpL L (.loop c) ⟨upd V (M (i+1) y),[],g,h⟩ Q)→wpL L c ⟨upd V (M i x),[],g,h⟩ (z6 L c Q))
  (fail:∀i (hi:i<l.length),f l[i]≠0→yy f l=f l[i]→∀x,wpL L c ⟨upd V (M i x),[],g,h⟩ (z6 L c Q))
  (last:yy f l=0→∀x,wpL L c ⟨upd V (M l.length x),[],g,h⟩ (z6 L c Q)) (hV:upd V (M 0 x0)=V):wpL L (.loop c) ⟨V,[],g,h⟩ Q:=
 BR l f M (λ_ _=>g) (λ_ _=>h) x0 step fail last hV rfl rfl
theorem c4h {γ:Type} {c:PC} {V:List PV} {g:Nat} {h:List PObj} (n:Nat) (M:Nat→γ→List (Nat×PV)) (G:Nat→γ→Nat) (H:Nat→γ→List PObj) (x0:γ)
  (step:∀i,i<n→∀x,(∀y,wpL L (.loop c) ⟨upd V (M (i+1) y),[],G (i+1) y,H (i+1) y⟩ Q)→wpL L c ⟨upd V (M i x),[],G i x,H i x⟩ (z6 L c Q))
  (last:∀x,wpL L c ⟨upd V (M n x),[],G n x,H n x⟩ (z6 L c Q)) (hV:upd V (M 0 x0)=V) (hG:G 0 x0=g) (hH:H 0 x0=h):wpL L (.loop c) ⟨V,[],g,h⟩ Q:=
 Nl n (λ_=>true) M G H x0 (λi hi _=>step i hi) (λ_ _ h=>by simp at h) (λ_=>last) hV hG hH
end
theorem yU {L:Nat→Option PFunc} {c:PC} {Q:PExit→St→Prop} (n:Nat) (Inv:Nat→St→Prop) {st:St}
  (step:∀i,i<n→∀st,Inv i st→(∀st',Inv (i+1) st'→wpL L (.loop c) st' Q)→wpL L c st (z6 L c Q))
  (last:∀st,Inv n st→wpL L c st (z6 L c Q)) (h0:Inv 0 st):wpL L (.loop c) st Q:=by
 have key:∀k i st,i+k=n→Inv i st→wpL L (.loop c) st Q:=by
  intro k
  induction k with
  | zero =>
    intro i st hi hh
    have:i=n:=by omega
    subst this
    rw[Cy]
    exact last st hh
  | succ k ih =>
    intro i st hi hh
    rw[Cy]
    exact step i (by omega) st hh λst' h'=>ih (i+1) st' (by omega) h'
 exact key n 0 st (by omega) h0
end PI.Sc
set_option maxRecDepth 100000
set_option linter.unusedSimpArgs false
set_option linter.unusedVariables false
namespace PI.Sc
open Go (IntKind BinOp UnOp)
theorem AH {α:Type} {l:List α} {i:Nat} (h:i<l.length):l.take (i+1)=l.take i++[l[i]]:=by rw[a8,an h]; rfl
theorem parts_eq (e:Expr):e.parts=1+yE Expr.parts e.args:=by
 unfold Expr.parts
 rw[Expr.list_eq]
 have:∀l:List Expr,(l.flatMap Expr.list).length=yE (λx=>x.list.length) l:=by
  intro l
  induction l with
  | nil=>rfl
  | cons x l ih=>simp only[aM,ao,yE,ih]
 simp only[aB,this]
 show _=1+yE (λe=>e.list.length) e.args
 omega
theorem c2k (e:Expr):1≤e.parts:=by rw[parts_eq]; omega
theorem Qw (e:Expr):e.args.length<e.parts:=by
 have:=JL Expr.parts c2k e.args
 rw[parts_eq]; omega
theorem Qy {e x:Expr} (h:x∈e.args):x.parts<e.parts:=by
 have:=Ei Expr.parts h
 rw[parts_eq e]; omega
theorem BB (n:Nat) (h:n≤9223372036854775807):IntKind.i64.wrap (n:Int)=n:=Fq _ (by omega) (by omega)
theorem Ru {e:Expr} (h:e.parts≤1100000):e.size=e.parts:=by unfold Expr.size; exact BB _ (by unfold Expr.parts at h; omega)
def EW (e:Expr):Prop:=∀x∈e.list,CV x.t∧CV x.v∧x.args.length≤140737488355328
theorem EW.self {e:Expr} (h:EW e):CV e.t∧CV e.v∧e.args.length≤140737488355328:=h e (by rw[Expr.list_eq]; simp)
theorem EW.arg {e x:Expr} (h:EW e) (hx:x∈e.args):EW x:=λy hy=>h y (by rw[Expr.list_eq]; exact bo _ (bN.2 ⟨x,hx,hy⟩))
theorem EW.mem {e x:Expr} (h:EW e) (hx:x∈e.list):EW x:=by
 induction e using Expr.ind with
 | h e ih =>
   rw[Expr.list_eq] at hx
   rcases az.1 hx with rfl|hx
   ·exact h
   ·obtain⟨y,hy,hx⟩:=bN.1 hx
    exact ih y hy (h.arg hy) hx
@[simp] theorem d7l (a b:Int):(a==b)=decide (a=b):=by rw[aT]; simp
@[simp] theorem d7m (a b:Int):(a != b) = !decide (a=b):=by rw[aT]; simp
@[simp] theorem d7n (a b:Str):(a==b)=decide (a=b):=by rw[aT]; simp
@[simp] theorem d7o (a b:Str):(a != b) = !decide (a=b):=by rw[aT]; simp
@[simp] theorem d7p (a b:Bool):(a==b)=decide (a=b):=by cases a<;>cases b<;>rfl
theorem RM (k:Int):k<1∨k=1∨k=2∨k=3∨k=4∨k=5∨k=6∨k=7∨k=8∨k=9∨k=10∨k=11∨11<k:=by omega
@[simp] theorem d01 (cs:List PV):(PV.agg cs).cells=cs:=rfl
def AU (s:Str):List PV:=s.map λb => .bool (b==49)
theorem RK (b:UInt8):AM b=true↔b.toNat=48∨b.toNat=49:=by
 unfold AM
 simp only[bL,br,← UInt8.toNat_inj]
 rfl
theorem d5y (b:UInt8):(b==49)=decide ((b.toNat:Int)=49):=by
 rw[aT,br,ay,← UInt8.toNat_inj]
 show b.toNat=49↔_
 omega
theorem Nr (s:Str):yD (AU s)=true:=by unfold AU; exact Da (λ_=>rfl) s
theorem RL (s:Str):(AU s).length=s.length:=by simp[AU]
class TF (p:Prop) (r:outParam Prop):Prop where
 fact:p→r
instance (priority:=low) tfPos (p:Prop):TF p (p=True):=⟨eq_true⟩
instance tfNeg (p:Prop):TF (¬p) (p=False):=⟨eq_false⟩
theorem tf {p r:Prop} [TF p r] (h:p):r:=TF.fact h
theorem kfs {k c:Int} (h:k=c):(k=1)=(c=1)∧(k=2)=(c=2)∧(k=3)=(c=3)∧(k=4)=(c=4)∧(k=5)=(c=5)∧(k=6)=(c=6)∧(k=7)=(c=7)∧(k=8)=(c=8)∧(k=9)=(c=9)∧(k=10)=(c=10)∧(k=11)=(c=11)∧(k<1)=(c<1)∧(11<k)=(11<c)∧(1≤k)=(1≤c)∧(k≤11)=(c≤11):=by subst h; simp
end PI.Sc
set_option maxRecDepth 100000
set_option linter.unusedSimpArgs false
set_option linter.unusedVariables false
namespace PI.Sc
open Go (IntKind BinOp UnOp)
open Short
structure XW (e:Expr):Prop where
 parts:e.parts≤1100000
 ew:EW e
structure DW (d:Decl):Prop where
 type:CV d.type
 clock:d.clock.length≤1100000
 on:∀o∈d.clock,CV o.t
structure QW (q:Eqn):Prop where
 left:q.left.length≤1100000
 right:XW q.right
inductive SW:State→Prop
 | mk (s:State) (locals:s.locals.length≤1100000) (ls:∀d∈s.locals,DW d) (eqs:s.eqs.length≤1100000) (es:∀q∈s.eqs,QW q) (unl:s.unl.length≤1100000) (us:∀t∈s.unl,XW t.cond) (til:s.til.length≤1100000) (ts:∀t∈s.til,XW t.cond) (autos:s.autos.length≤1100000) (as:∀a∈s.autos,a.length≤1100000) (ss:∀a∈s.autos,∀x∈a,SW x):SW s
theorem SW.locals {s:State}:SW s→s.locals.length≤1100000 | .mk _ h .. => h
theorem SW.ls {s:State}:SW s→∀d∈s.locals,DW d | .mk _ _ h .. => h
theorem SW.eqs {s:State}:SW s→s.eqs.length≤1100000 | .mk _ _ _ h .. => h
theorem SW.es {s:State}:SW s→∀q∈s.eqs,QW q | .mk _ _ _ _ h .. => h
theorem SW.unl {s:State}:SW s→s.unl.length≤1100000 | .mk _ _ _ _ _ h .. => h
theorem SW.us {s:State}:SW s→∀t∈s.unl,XW t.cond | .mk _ _ _ _ _ _ h .. => h
theorem SW.til {s:State}:SW s→s.til.length≤1100000 | .mk _ _ _ _ _ _ _ h .. => h
theorem SW.ts {s:State}:SW s→∀t∈s.til,XW t.cond | .mk _ _ _ _ _ _ _ _ h .. => h
theorem SW.autos {s:State}:SW s→s.autos.length≤1100000 | .mk _ _ _ _ _ _ _ _ _ h .. => h
theorem SW.as {s:State}:SW s→∀a∈s.autos,a.length≤1100000 | .mk _ _ _ _ _ _ _ _ _ _ h _=>h
theorem SW.ss {s:State}:SW s→∀a∈s.autos,∀x∈a,SW x | .mk _ _ _ _ _ _ _ _ _ _ _ h=>h
structure AsW (l:List (List State)):Prop where
 len:l.length≤1100000
 as:∀a∈l,a.length≤1100000
 ss:∀a∈l,∀x∈a,SW x
structure NW (n:Node):Prop where
 ins:n.ins.length≤1100000
 is:∀d∈n.ins,DW d
 outs:n.outs.length≤1100000
 os:∀d∈n.outs,DW d
 locals:n.locals.length≤1100000
 ls:∀d∈n.locals,DW d
 eqs:n.eqs.length≤1100000
 es:∀q∈n.eqs,QW q
 autos:AsW n.autos
 assume:n.assume.length≤1100000
 as:∀e∈n.assume,XW e
 ensure:n.ensure.length≤1100000
 gs:∀e∈n.ensure,XW e
structure PW (p:Prog):Prop where
 enums:p.enums.length≤1100000
 tags:∀u∈p.enums,u.tags.length≤1100000
 nodes:p.nodes.length≤1100000
 ns:∀n∈p.nodes,NW n
section
variable {L:Nat→Option PFunc} {Q:PExit→St→Prop}
theorem Nt {α γ:Type} {c:PC} {V:List PV} {g:Nat} {h:List PObj} (l:List α) (ok:Nat→α→Bool) (M:Nat→γ→List (Nat×PV)) (G:Nat→γ→Nat) (H:Nat→γ→List PObj) (x0:γ)
  (step:∀i (hi:i<l.length),ok i l[i]=true→∀x,(∀y,wpL L (.loop c) ⟨upd V (M (i+1) y),[],G (i+1) y,H (i+1) y⟩ Q)→wpL L c ⟨upd V (M i x),[],G i x,H i x⟩ (z6 L c Q))
  (fail:∀i (hi:i<l.length),ok i l[i]=false→(∀k (hk:k<l.length),k<i→ok k l[k]=true)→∀x,wpL L c ⟨upd V (M i x),[],G i x,H i x⟩ (z6 L c Q))
  (last:(∀k (hk:k<l.length),ok k l[k]=true)→∀x,wpL L c ⟨upd V (M l.length x),[],G l.length x,H l.length x⟩ (z6 L c Q)) (hV:upd V (M 0 x0)=V) (hG:G 0 x0=g) (hH:H 0 x0=h):wpL L (.loop c) ⟨V,[],g,h⟩ Q:=by
 refine Nl l.length (λi=>if h:i<l.length then ok i l[i] else true) M G H x0 ?_ ?_ ?_ hV hG hH
 ·intro i hi dm x ih
  simp only[hi,dif_pos] at dm
  exact step i hi dm x ih
 ·intro i hi dm hk x
  simp only[hi,dif_pos] at dm
  refine fail i hi dm (λk h1 h2 =>?_) x
  have:=hk k h2
  simpa only[h1,dif_pos] using this
 ·intro dm x
  refine last (λk hk =>?_) x
  have:=dm k hk
  simpa only[hk,dif_pos] using this
theorem c4u {α γ:Type} {c:PC} {V:List PV} {g:Nat} {h:List PObj} (l:List α) (ok:Nat→α→Bool) (M:Nat→γ→List (Nat×PV)) (x0:γ)
  (step:∀i (hi:i<l.length),ok i l[i]=true→∀x,(∀y,wpL L (.loop c) ⟨upd V (M (i+1) y),[],g,h⟩ Q)→wpL L c ⟨upd V (M i x),[],g,h⟩ (z6 L c Q))
  (fail:∀i (hi:i<l.length),ok i l[i]=false→(∀k (hk:k<l.length),k<i→ok k l[k]=true)→∀x,wpL L c ⟨upd V (M i x),[],g,h⟩ (z6 L c Q))
  (last:(∀k (hk:k<l.length),ok k l[k]=true)→∀x,wpL L c ⟨upd V (M l.length x),[],g,h⟩ (z6 L c Q)) (hV:upd V (M 0 x0)=V):wpL L (.loop c) ⟨V,[],g,h⟩ Q:=
 Nt l ok M (λ_ _=>g) (λ_ _=>h) x0 step fail last hV rfl rfl
end
theorem RU {α:Type} {f:α→Int}:∀{l:List α} {i j:Nat} (hi:i<l.length),f l[i]≠0→(∀k (hk:k<l.length),k<i→f l[k]=0)→Bb f l j=some (j+i,f l[i])
 | [],i,j,hi,_,_=>by simp at hi
 | x::l,0,j,hi,h,_=>by simp only[bS] at h; simp[Bb,h]
 | x :: l, i + 1, j, hi, h, hk => by
   have h0:=hk 0 (by simp) (by omega)
   simp only[bS] at h0
   simp only[cj] at h
   simp only[Bb,h0,if_true,cj]
   rw[RU (l:=l) (i:=i) (by simpa using hi) h (λk dt h1=>by have:=hk (k+1) (by simpa using dt) (by omega); simpa using this)]
   congr 2; omega
theorem RV {en:List Enum}:∀{l:List Node} {i j:Nat} (hi:i<l.length) {b:Bad},At en l[i] (j+i)=some b→(∀k (hk:k<l.length),k<i→At en l[k] (j+k)=none)→Ba en l j=some b
 | [],i,j,hi,b,_,_=>by simp at hi
 | x::l,0,j,hi,b,h,_=>by simp only[bS,bx] at h; simp[Ba,h]
 | x :: l, i + 1, j, hi, b, h, hk => by
   have h0:=hk 0 (by simp) (by omega)
   simp only[bS,bx] at h0
   simp only[cj] at h
   simp only[Ba,h0]
   exact RV (l:=l) (i:=i) (by simpa using hi) (by rw[show j+1+i=j+(i+1) by omega]; exact h) (λk dt h1=>by have:=hk (k+1) (by simpa using dt) (by omega); rw[show j+1+k=j+(k+1) by omega]; simpa using this)
theorem RW {en:List Enum}:∀{l:List Node} {j:Nat},(∀k (hk:k<l.length),At en l[k] (j+k)=none)→Ba en l j=none
 | [],j,_=>rfl
 | x :: l, j, h => by
   have h0:=h 0 (by simp)
   simp only[bS,bx] at h0
   simp only[Ba,h0]
   exact RW (λk hk=>by have:=h (k+1) (by simpa using hk); rw[show j+1+k=j+(k+1) by omega]; simpa using this)
def A1 (b:Bad):PV := .tuple [.agg [.int .i64 b.node,.int .i64 b.eq],.int .i64 b.err]
def ePl (en:List Enum) (ns:List Node) (i:Int) (v x t:List Str):PV := .agg [.list false (en.map yG),.list false (ns.map yL),.int .i64 i,.list false (v.map .str),.list false (x.map .str),.list false (t.map .str)]
section
variable (en:List Enum) (ns:List Node) (i:Int) (v x t:List Str)
theorem c7e:ePl en ns i v x t = .agg [.list false (en.map yG),.list false (ns.map yL),.int .i64 i,.list false (v.map .str),.list false (x.map .str),.list false (t.map .str)]:=rfl
@[simp] theorem d02:(ePl en ns i v x t).cells=[.list false (en.map yG),.list false (ns.map yL),.int .i64 i,.list false (v.map .str),.list false (x.map .str),.list false (t.map .str)]:=rfl
@[simp] theorem d5i:cp (ePl en ns i v x t)=some (ePl en ns i v x t):=rfl
@[simp] theorem d4m:tkv (ePl en ns i v x t)=some (ePl en ns i v x t,false):=rfl
@[simp] theorem c5I:CP (ePl en ns i v x t)=some (ePl en ns i v x t).cells:=rfl
@[simp] theorem d4n:dem (ePl en ns i v x t)=ePl en ns i v x t:=rfl
@[simp] theorem d2Q:AN (ePl en ns i v x t)=ePl en ns i v x t:=rfl
@[simp] theorem d2R:zw (ePl en ns i v x t)=none:=rfl
@[simp] theorem c4v:PV.agg [.list false (en.map yG),.list false (ns.map yL),.int .i64 i,.list false (v.map .str),.list false (x.map .str),.list false (t.map .str)]=ePl en ns i v x t:=rfl
@[simp] theorem d2S:yC (ePl en ns i v x t)=true:=by rw[c7e]; simp[-c4v]
end
@[simp] theorem d2T:PV.agg [.str [],.list false [],.list false [],.list false [],.list false [],.list false [],.list false [],.list false []]=yL ⟨[],[],[],[],[],[],[],[]⟩:=rfl
theorem State.ind {P:State→Prop} (h:∀s:State,(∀a∈s.autos,∀x∈a,P x)→P s):∀s,P s:=by
 intro s
 refine State.rec (motive_1:=P) (motive_2:=λl:List (List State)=>∀a∈l,∀x∈a,P x) (motive_3:=λl:List State=>∀x∈l,P x) ?_ ?_ ?_ ?_ ?_ s
 ·intro n l e a u w ih; exact h _ ih
 ·simp
 ·intro a l h1 h2 b hb x hx
  rcases az.1 hb with rfl|hb
  ·exact h1 x hx
  ·exact h2 b hb x hx
 ·simp
 ·intro x l h1 h2 y hy
  rcases az.1 hy with rfl|hy
  ·exact h1
  ·exact h2 y hy
def AZ (s:Place) (d:List Str) (x:List State):EN:=
 if ¬(x.map (·.name)).Nodup then(7,[])
 else if (Ah s d x).1≠0 then((Ah s d x).1,[])
 else if (Ah s d x).2.all (λl=>D0 l ((Ah s d x).2.headD [])) then(0,(Ah s d x).2.headD [])
 else(8,[])
theorem KX (s:Place) (d:List Str) (x:List State) (xs:List (List State)):zt s d (x::xs)=AB (AZ s d x) λl=>zt s (d++l) xs:=by
 simp only[zt,AZ]
 by_cases h1:(x.map (·.name)).Nodup
 ·simp only[h1,bB,if_false]
  by_cases h2:(Ah s d x).1=0
  ·simp only[h2,ne_eq,bB,if_false]
   split
   ·rfl
   ·exact(B0 (a:=(8,[])) (by decide) _).symm
  ·simp only[h2,ne_eq,cH,if_true]
   exact(B0 (a:=((Ah s d x).1,[])) h2 _).symm
 ·simp only[h1,cH,if_true]
  exact(B0 (a:=(7,[])) (by decide) _).symm
theorem RC {s:Place} {d:List Str}:∀{l:List State},(∀x∈l,(BP s d x).1=0)→Ah s d l=(0,l.map λx=>(BP s d x).2)
 | [],_=>rfl
 | x :: l, h => by
   have h1:=h x (by simp)
   have h2:=RC (l:=l) (λy hy=>h y (by simp[hy]))
   simp only[Ah,h1,if_true,h2,aA]
theorem RD {s:Place} {d:List Str}:∀{l:List State} {i:Nat} (hi:i<l.length),(BP s d l[i]).1≠0→(∀k (hk:k<l.length),k<i→(BP s d l[k]).1=0)→Ah s d l=((BP s d l[i]).1,[])
 | [],i,hi,_,_=>by simp at hi
 | x :: l, 0, hi, h, _ => by
   simp only[bS] at h
   simp only[Ah,bS]
   rw[ae h]
 | x :: l, i + 1, hi, h, hk => by
   have h0:=hk 0 (by simp) (by omega)
   simp only[bS] at h0
   simp only[cj] at h
   have ih:=RD (l:=l) (i:=i) (by simpa using hi) h (λk dt h1=>by have:=hk (k+1) (by simpa using dt) (by omega); simpa using this)
   simp only[Ah,h0,if_true,ih,cj]
   rw[ae h]
theorem Np {α:Type}:∀{l:List α},l.Nodup↔∀i (hi:i<l.length),l[i]∉l.take i:=by
 intro l
 rw[List.nodup_iff_pairwise_ne,List.pairwise_iff_getElem]
 constructor
 ·intro h i hi hm
  obtain⟨j,hj,e⟩:=bC.1 hm
  have rR:j<i:=by simp at hj; omega
  simp only[cO] at e
  exact h j i (by omega) hi rR e
 ·intro h i j hi hj m8 e
  refine h j hj ?_
  rw[← e,List.mem_take_iff_getElem]
  exact⟨i,by omega,rfl⟩
theorem Defs.len {s:Place} {d xs:List Str} (h:Defs s d xs):xs.length≤s.vis.length:=Nk _ _ h.2 λx hx=>(h.1 x hx).1
theorem State.parts_eq (x:State):x.parts=1+yE Decl.parts x.locals+yE Eqn.parts x.eqs+yE Trn.parts x.unl+yE Trn.parts x.til+B1 x.autos:=by
 cases x; simp only[State.parts,State.locals_mk,State.eqs_mk,State.autos_mk,State.unl_mk,State.til_mk]
def Sub (d vis:List Str):Prop:=d.Nodup∧∀y∈d,y∈vis
theorem Sub.len {d vis:List Str} (h:Sub d vis):d.length≤vis.length:=Nk _ _ h.1 h.2
theorem Sub.app {s:Place} {d xs:List Str} (h:Sub d s.vis) (hx:Defs s d xs):Sub (d++xs) s.vis:=by
 refine⟨JJ.2 ⟨h.1,hx.2,λx hm=>(hx.1 x hm).2.2⟩,λy hy =>?_⟩
 rcases aw.1 hy with h1|h1
 ·exact h.2 y h1
 ·exact(hx.1 y h1).1
theorem Pj {α:Type} {T l:List α}:(T++l).Nodup↔T.Nodup∧∀k (hk:k<l.length),l[k]∉T++l.take k:=by
 rw[JJ,Np (l:=l)]
 constructor
 ·rintro⟨h1,h2,h3⟩
  refine⟨h1,λk hk hm =>?_⟩
  rcases aw.1 hm with h|h
  ·exact h3 _ (ak hk) h
  ·exact h2 k hk h
 ·rintro⟨h1,h2⟩
  refine⟨h1,λk hk hm=>h2 k hk (cC _ hm),λx hx hm =>?_⟩
  obtain⟨k,hk,rfl⟩:=bC.1 hx
  exact h2 k hk (b9 _ hm)
def Ek (en:List Enum) (i:Nat) (u:Enum):Bool:=decide (u.name∉(en.take i).map (·.name)∧(Bs (en.take i)++u.tags).Nodup)
theorem I1 {en:List Enum} {i:Nat} (h:i<en.length):Bs (en.take (i+1))=Bs (en.take i)++en[i].tags:=by unfold Bs; rw[AH h,bQ]; simp
theorem Pk {en:List Enum}:Ej en=true↔∀i (hi:i<en.length),Ek en i en[i]=true:=by
 unfold Ej Ek
 simp only[ay]
 constructor
 ·rintro⟨h1,h2⟩ i hi
  constructor
  ·have:=(Np.1 h1) i (by simpa using hi)
   rw[← List.map_take] at this
   simpa using this
  ·rw[← I1 hi]
   refine h2.sublist ?_
   unfold Bs
   have:en.flatMap (·.tags)=(en.take (i+1)).flatMap (·.tags)++(en.drop (i+1)).flatMap (·.tags):=by rw[← bQ,bY]
   rw[this]
   exact List.sublist_append_left _ _
 ·intro h
  constructor
  ·rw[Np]
   intro i hi
   have:=(h i (by simpa using hi)).1
   rw[← List.map_take]; simpa using this
  ·cases hn:en.length with
   | zero=>have:en=[]:=bD.1 hn; subst this; simp[Bs]
   | succ m =>
     have:=(h m (by omega)).2
     rw[← I1 (by omega),← hn,aD] at this
     exact this
theorem c0E {en:List Enum} {i:Nat} (hi:i≤en.length) (h:∀k (hk:k<en.length),k<i→Ek en k en[k]=true):(Bs (en.take i)).Nodup:=by
 cases i with
 | zero=>simp[Bs]
 | succ i =>
   have:=h i (by omega) (by omega)
   unfold Ek at this
   simp only[ay] at this
   rw[I1 (by omega)]; exact this.2
theorem b8E {p:Prog} {b:Bad} (hs:Cg p=some b):b.err≠0:=by
 intro he
 unfold Cg at hs
 split at hs
 ·simp only[aa] at hs; rw[← hs] at he; exact absurd he (by decide)
 ·split at hs
  ·rename_i h1; simp only[aa] at hs; rw[← hs] at he; exact h1 he
  ·have key:∀(l:List Node) (j:Nat),Ba p.enums l j=some b→b.err≠0:=by
    intro l
    induction l with
    | nil=>intro j hj; simp[Ba] at hj
    | cons n l ih =>
      intro j hj
      simp only[Ba] at hj
      cases hn:At p.enums n j with
      | none=>rw[hn] at hj; exact ih _ hj
      | some y =>
        rw[hn] at hj
        simp only[aa] at hj
        subst hj
        unfold At at hn
        split at hn
        ·rename_i h1; simp only[aa] at hn; rw[← hn]; exact h1
        ·split at hn
         ·rename_i k e hf
          have:∀(l:List Eqn) (m:Nat),Bb (BQ p.enums) l m=some (k,e)→e≠0:=by
           intro l
           induction l with
           | nil=>intro m hm; simp[Bb] at hm
           | cons q l ih2 =>
             intro m hm
             simp only[Bb] at hm
             split at hm
             ·exact ih2 _ hm
             ·rename_i h2; simp only[aa,ac] at hm; rw[← hm.2]; exact h2
          simp only[aa] at hn; rw[← hn]; exact this _ _ hf
         ·split at hn
          ·rename_i h1; simp only[aa] at hn; rw[← hn]; exact h1
          ·simp at hn
   exact key _ _ hs he
structure DF (d:Decl):Prop where
 type:CV d.type
 clock:d.clock.length≤140737488355328
 name:d.name.length≤9223372036854775807
 on:∀o∈d.clock,CV o.t
structure QF (q:Eqn):Prop where
 left:q.left.length≤140737488355328
 right:EW q.right
inductive SF:State→Prop
 | mk (s:State) (locals:s.locals.length≤140737488355328) (ls:∀d∈s.locals,DF d) (eqs:s.eqs.length≤140737488355328) (es:∀q∈s.eqs,QF q) (unl:s.unl.length≤140737488355328) (us:∀t∈s.unl,EW t.cond) (til:s.til.length≤140737488355328) (ts:∀t∈s.til,EW t.cond) (autos:s.autos.length≤140737488355328) (as:∀a∈s.autos,a.length≤140737488355328) (ss:∀a∈s.autos,∀x∈a,SF x):SF s
theorem SF.locals {s:State}:SF s→s.locals.length≤140737488355328 | .mk _ h .. => h
theorem SF.ls {s:State}:SF s→∀d∈s.locals,DF d | .mk _ _ h .. => h
theorem SF.eqs {s:State}:SF s→s.eqs.length≤140737488355328 | .mk _ _ _ h .. => h
theorem SF.es {s:State}:SF s→∀q∈s.eqs,QF q | .mk _ _ _ _ h .. => h
theorem SF.unl {s:State}:SF s→s.unl.length≤140737488355328 | .mk _ _ _ _ _ h .. => h
theorem SF.us {s:State}:SF s→∀t∈s.unl,EW t.cond | .mk _ _ _ _ _ _ h .. => h
theorem SF.til {s:State}:SF s→s.til.length≤140737488355328 | .mk _ _ _ _ _ _ _ h .. => h
theorem SF.ts {s:State}:SF s→∀t∈s.til,EW t.cond | .mk _ _ _ _ _ _ _ _ h .. => h
theorem SF.autos {s:State}:SF s→s.autos.length≤140737488355328 | .mk _ _ _ _ _ _ _ _ _ h .. => h
theorem SF.as {s:State}:SF s→∀a∈s.autos,a.length≤140737488355328 | .mk _ _ _ _ _ _ _ _ _ _ h _=>h
theorem SF.ss {s:State}:SF s→∀a∈s.autos,∀x∈a,SF x | .mk _ _ _ _ _ _ _ _ _ _ _ h=>h
structure AsF (l:List (List State)):Prop where
 len:l.length≤140737488355328
 as:∀a∈l,a.length≤140737488355328
 ss:∀a∈l,∀x∈a,SF x
structure NF (n:Node):Prop where
 ins:n.ins.length≤140737488355328
 is:∀d∈n.ins,DF d
 outs:n.outs.length≤140737488355328
 os:∀d∈n.outs,DF d
 locals:n.locals.length≤140737488355328
 ls:∀d∈n.locals,DF d
 eqs:n.eqs.length≤140737488355328
 es:∀q∈n.eqs,QF q
 autos:AsF n.autos
 assume:n.assume.length≤140737488355328
 as:∀e∈n.assume,EW e
 ensure:n.ensure.length≤140737488355328
 gs:∀e∈n.ensure,EW e
structure PF (p:Prog):Prop where
 enums:p.enums.length≤140737488355328
 tags:∀u∈p.enums,u.tags.length≤140737488355328
 nodes:p.nodes.length≤140737488355328
 ns:∀n∈p.nodes,NF n
theorem RE (c:UInt8):∀s:Str,c∉s→Go.Lib.indexByte s c = -1
 | [],_=>rfl
 | b :: s, h => by
   simp only[az,not_or] at h
   have:(b==c)=false:=by simpa using λe=>h.1 e.symm
   simp[Go.Lib.indexByte,this,RE c s h.2]
theorem RF (c:UInt8):∀(a r:Str),c∉a→Go.Lib.indexByte (a++c::r) c=a.length
 | [],r,_=>by simp[Go.Lib.indexByte]
 | b :: a, r, h => by
   simp only[az,not_or] at h
   have h1:(b==c)=false:=by simpa using λe=>h.1 e.symm
   have h2:=RF c a r h.2
   simp only[aK,Go.Lib.indexByte,h1,aJ,if_false,h2]
   have:((a.length:Int) == -1)=false:=by simp
   rw[this]; rfl
theorem c16 (c:UInt8) (s:Str):c∉s∨∃a r,s=a++c::r∧c∉a:=by
 induction s with
 | nil=>left; simp
 | cons b s ih =>
   by_cases hb:b=c
   ·exact .inr ⟨[],s,by simp[hb],by simp⟩
   ·rcases ih with h|⟨a,r,e,hn⟩
    ·exact .inl (by simp[Ne.symm hb,h])
    ·exact .inr ⟨b::a,r,by simp[e],by simp[Ne.symm hb,hn]⟩
theorem RG {c:UInt8}:∀{a a' r r':Str},c∉a→c∉a'→a++c::r=a'++c::r'→a=a'∧r=r'
 | [],[],r,r',_,_,h=>by simpa using h
 | [],x::a',r,r',_,h2,h=>by simp only[be,aK,bF] at h; exact absurd (by simp[h.1]) h2
 | x::a,[],r,r',h1,_,h=>by simp only[be,aK,bF] at h; exact absurd (by simp[h.1]) h1
 | x :: a, y :: a', r, r', h1, h2, h => by
   simp only[aK,bF] at h
   simp only[az,not_or] at h1 h2
   obtain⟨e1,e2⟩:=RG h1.2 h2.2 h.2
   exact⟨by rw[h.1,e1],e2⟩
theorem RH (s:Str):Fz s=true↔∃a b:Str,s=a++40::(b++[41])∧a.all AM=true∧b.all AM=true∧b≠[]∧a.length+b.length≤64:=by
 unfold Fz
 simp only[ay]
 constructor
 ·rintro⟨h1,h2,h3,h4,h5,h6⟩
  obtain⟨t,ht⟩:=List.takeWhile_prefix (p:=AM) (l:=s)
  have ha:CF s 0=s.takeWhile AM:=by simp[CF]
  have dT:(CF s 0).all AM=true:=by rw[ha]; exact List.all_takeWhile
  rw[← ha] at ht
  generalize CF s 0=a at *
  have mE:t.head? = some 40:=by
   rw[← ht] at h2
   rw[aq (am _),Nat.sub_self] at h2
   rw[List.head?_eq_getElem?]; exact h2
  obtain⟨r,rfl⟩:∃r,t=40::r:=by cases t with | nil=>simp at mE | cons x r=>simp at mE; exact⟨r,by rw[mE]⟩
  have hb:CF s (a.length+1)=r.takeWhile AM:=by
   unfold CF
   rw[← ht]
   have:(a++40::r).drop (a.length+1)=r:=by
    rw[List.drop_append,bl (by omega)]; simp
   rw[this]
  obtain⟨u,hu⟩:=List.takeWhile_prefix (p:=AM) (l:=r)
  have qm:(CF s (a.length+1)).all AM=true:=by rw[hb]; exact List.all_takeWhile
  rw[← hb] at hu
  generalize CF s (a.length+1)=b at *
  have cY:u.length=1:=by
   have:=aL List.length ht
   rw[← hu] at this
   simp at this; omega
  obtain⟨x,rfl⟩:=List.length_eq_one_iff.1 cY
  have hx:x=41:=by
   rw[← ht,← hu] at h4
   have:(a++40::(b++[x]))[a.length+b.length+1]? = some x:=by
    rw[aq (by omega),show a.length+b.length+1 - a.length=b.length+1 by omega,cE,aq (am _)]; simp
   rw[this] at h4; simpa using h4
  subst hx
  exact⟨a,b,by rw[← ht,← hu],dT,qm,λe=>h5 (by rw[e]; rfl),h6⟩
 ·rintro⟨a,b,rfl,h1,h2,h3,h4⟩
  have ha:CF (a++40::(b++[41])) 0=a:=by
   unfold CF
   rw[List.drop_zero,List.takeWhile_append_of_pos (by simpa using h1)]
   have:AM 40=false:=rfl
   simp[List.takeWhile_cons,this]
  have hb:CF (a++40::(b++[41])) (a.length+1)=b:=by
   unfold CF
   have:(a++40::(b++[41])).drop (a.length+1)=b++[41]:=by
    rw[List.drop_append,bl (by omega)]; simp
   rw[this,List.takeWhile_append_of_pos (by simpa using h2)]
   have:AM 41=false:=rfl
   simp[List.takeWhile_cons,this]
  rw[ha,hb]
  have jB:b.length≠0:=λe=>h3 (bD.1 e)
  refine⟨by simp; omega,?_,by simp; omega,?_,jB,h4⟩
  ·rw[aq (am _),Nat.sub_self]; rfl
  ·rw[aq (by omega),show a.length+b.length+1 - a.length=b.length+1 by omega,cE,aq (am _)]; simp
def B7 (r:Str):Bool:=decide (r.drop (r.length - 1)=[41])
theorem Nq {r:Str}:B7 r=true↔∃b,r=b++[41]:=by
 unfold B7
 rw[ay]
 constructor
 ·intro e
  refine⟨r.take (r.length - 1),?_⟩
  rw[← e,bY]
 ·rintro⟨b,rfl⟩
  simp
section
variable {L:Nat→Option PFunc} (hL:∀k f,LS k=some f→L k=some f)
include hL
theorem c0F (s:Str) (h:List PObj):ym L 183 [.str s,.int .u8 40] h=some (.int .i64 (Go.Lib.indexByte s 40),h):=by
 rw[HH (hL 183 _ rfl) rfl rfl]; rfl
theorem RI (s:Str) (h:List PObj):ym L 181 [.str s,.str [40]] h=some (.int .i64 (Go.Lib.indexByte s 40),h):=by
 refine yB (hL 181 _ rfl) rfl ?_
 by_cases h1:s=[40]
 ·subst h1; simp[Js]; rfl
 ·have h2:¬[40]=s:=λe=>h1 e.symm
  simp[Js,h1,h2,c0F hL]
theorem d0R (s:Str) (hs:s.length≤1000) (hn:(40:UInt8)∉s) (h:List PObj):ym L 172 [.str s,.str [40]] h=some (.tuple [.str s,.str [],.bool false],h):=by
 have h1:ym L 179 [.str s,.str [40]] []=some (.tuple [.str s,.str [],.bool false],[]):=by
  refine yB (hL 179 _ rfl) rfl ?_
  have:=RI hL s []
  rw[RE 40 s hn] at this
  simp[Jq,this]
 refine yB (hL 172 _ rfl) rfl ?_
 simp[Jp,h1]
theorem c6S (a r:Str) (hs:(a++40::r).length≤1000) (hn:(40:UInt8)∉a) (h:List PObj):ym L 172 [.str (a++40::r),.str [40]] h=some (.tuple [.str a,.str r,.bool true],h):=by
 have h1:ym L 179 [.str (a++40::r),.str [40]] []=some (.tuple [.str a,.str r,.bool true],[]):=by
  refine yB (hL 179 _ rfl) rfl ?_
  have:=RI hL (a++40::r) []
  rw[RF 40 a r hn] at this
  have hl:(a++40::r).length=a.length+(r.length+1):=by simp
  obtain⟨p,hp⟩:∃p,p=a.length+1:=⟨_,rfl⟩
  have hw:IntKind.i64.wrap ((a.length:Int)+1)=(p:Int):=by rw[Fq]<;>omega
  have ht:(a++40::r).take a.length=a:=by simp
  have hd:(a++40::r).drop p=r:=by rw[hp,List.drop_append,bl (by omega)]; simp
  generalize a++40::r=s at *
  have q1:a.length≤s.length:=by omega
  have q2:p≤s.length:=by omega
  have q2i:(p:Int)≤s.length:=by omega
  simp[Jq,this,hw,q1,q2,q2i,ht,hd]
 refine yB (hL 172 _ rfl) rfl ?_
 generalize a++40::r=s at *
 simp[Jp,h1]
theorem c0G (r:Str) (hr:r.length≤1000) (h:List PObj):ym L 182 [.str r,.str [41]] h=some (.bool (B7 r),h):=by
 refine yB (hL 182 _ rfl) rfl ?_
 unfold B7
 by_cases h0:r=[]
 ·subst h0
  simp[Hp]
 ·have hp:0<r.length:=bK.2 h0
  have rS:(1:Int)≤r.length:=by omega
  have hw:IntKind.i64.wrap ((r.length:Int) - 1)=((r.length - 1:Nat):Int):=by rw[Fq]<;>omega
  have eF:r.length - 1≤r.length:=by omega
  have lr:1≤r.length:=by omega
  by_cases hx:r.drop (r.length - 1)=[41]
  ·simp[Hp,rS,lr,hw,eF,hx]
  ·simp[Hp,rS,lr,hw,eF,hx]
theorem RJ (r:Str) (hr:r.length≤1000) (h:List PObj):ym L 173 [.str r,.str [41]] h=some (.tuple [.str (if B7 r then r.take (r.length - 1) else r),.bool (B7 r)],h):=by
 have h1:ym L 180 [.str r,.str [41]] []=some (.tuple [.str (if B7 r then r.take (r.length - 1) else r),.bool (B7 r)],[]):=by
  refine yB (hL 180 _ rfl) rfl ?_
  have jC:=c0G hL r hr []
  cases hc:B7 r with
  | false=>rw[hc] at jC; simp[Jr,jC]
  | true =>
    rw[hc] at jC
    obtain⟨b,rfl⟩:=Nq.1 hc
    obtain⟨q,hq⟩:∃q,q=(b++[41]).length - 1:=⟨_,rfl⟩
    have pA:(b++[41]).length=b.length+1:=by simp
    have hw:IntKind.i64.wrap (((b++[41]).length:Int) - 1)=(q:Int):=by rw[Fq]<;>omega
    have eF:q≤(b++[41]).length:=by omega
    rw[← hq]
    generalize b++[41]=r at *
    simp[Jr,jC,hw,eF]
 refine yB (hL 173 _ rfl) rfl ?_
 simp[LP,h1]
theorem JP (s:Str) (hs:s.length≤1000) (h:List PObj):∃o:Bool,ym L 174 [.str s] h=some (.tuple [.list o (if s.all AM then AU s else[]),.bool (s.all AM)],h):=by
 refine⟨false,?_⟩
 refine yB (hL 174 _ rfl) rfl ?_
 generalize hA:s.all AM=A
 simp[LQ]
 refine c4u s (λ_ b=>AM b) (λi (x:PV)=>[(3,.list true (AU (s.take i))),(4,x),(6,.int .i64 i)]) .dead ?_ ?_ ?_ (by simp[AU])
 ·intro i hi dm x ih
  have hw:=yz i (by omega)
  have hb:=(RK s[i]).1 dm
  have wO:=d5y s[i]
  have ih:=ih (.int .i64 i)
  have happ:AU (s.take (i+1))=AU (s.take i)++[.bool (s[i]==49)]:=by unfold AU; rw[AH hi,bm]; rfl
  rw[happ,wO] at ih
  have cY:(AU (s.take i)).length+1≤2147483648:=by simp[AU]; omega
  have jX:zj 1 (AU (s.take i))=true:=by cases s.take i<;>simp[AU]
  generalize AU (s.take i)=z at *
  rcases hb with hb|hb
  ·simp[hi,hb,hw,cY,jX]
   simpa[hb] using ih
  ·simp[hi,hb,hw,cY,jX]
   simpa[hb] using ih
 ·intro i hi dm _ x
  have hb:=RK s[i]
  rw[dm] at hb
  simp only[aJ,false_iff,not_or] at hb
  have b1:¬(s[i].toNat:Int)=48:=by omega
  have b2:¬(s[i].toNat:Int)=49:=by omega
  have dT:s.all AM=false:=RA hi dm
  rw[dT] at hA; subst hA
  simp[hi,b1,b2]
 ·intro dm x
  have dT:s.all AM=true:=Rz dm
  rw[dT] at hA; subst hA
  simp
theorem c4j (a b:List PV) (ha:a.length≤1000) (hb:b.length≤1000) (o1 o2:Bool) (h:List PObj):ym L 175 [.agg [.list o1 a,.list o2 b]] h=some (.int .i64 (if b.length=0 then 5 else if 64<a.length+b.length then 3 else 0),h):=by
 refine yB (hL 175 _ rfl) rfl ?_
 have hw:IntKind.i64.wrap ((a.length:Int)+(b.length:Int))=((a.length+b.length:Nat):Int):=by rw[Fq]<;>omega
 by_cases h1:b.length=0
 ·have:b=[]:=bD.1 h1
  subst this
  simp[Ho]
 ·have ik:¬b=[]:=λe=>h1 (by rw[e]; rfl)
  generalize hm:a.length+b.length=m at *
  by_cases h2:64<m
  ·have:(64:Int)<m:=by omega
   simp[Ho,h1,ik,hw,h2,this]
  ·have:¬(64:Int)<m:=by omega
   simp[Ho,h1,ik,hw,h2,this]
theorem c4k (s:Str) (h:List PObj):∃(o1 o2:Bool) (a b:List PV) (e:Int),yD a=true∧yD b=true∧(e=0↔Fz s=true)∧ym L 164 [.str s] h=some (.tuple [.agg [.list o1 a,.list o2 b],.int .i64 e],h):=by
 by_cases h0:66<s.length
 ·refine⟨false,false,[],[],3,rfl,rfl,?_,yB (hL 164 _ rfl) rfl ?_⟩
  ·unfold Fz; simp; omega
  ·have:(66:Int)<s.length:=by omega
   simp[En,this]
 have md:¬(66:Int)<s.length:=by omega
 rcases c16 40 s with hn|⟨a,r,rfl,hn⟩
 ·have gZ:=d0R hL s (by omega) hn []
  have jC:=RJ hL [] (by simp) []
  obtain⟨o1,ei⟩:=JP hL s (by omega) []
  obtain⟨o2,eJ⟩:=JP hL [] (by simp) []
  have dH:B7 []=false:=rfl
  rw[dH] at jC
  simp at jC
  refine⟨false,false,[],[],5,rfl,rfl,?_,yB (hL 164 _ rfl) rfl ?_⟩
  ·rw[RH]
   constructor
   ·intro e; exact absurd e (by decide)
   ·rintro⟨a,b,e,_⟩; exact absurd (by rw[e]; simp) hn
  ·have f1:yD (if s.all AM then AU s else[])=true:=by split; exact Nr s; rfl
   generalize (if s.all AM then AU s else[])=za at *
   simp[AU] at eJ
   simp[En,md,gZ,jC,ei,eJ,f1]
 ·have gZ:=c6S hL a r (by omega) hn []
  have cY:(a++40::r).length=a.length+(r.length+1):=by simp
  have jC:=RJ hL r (by omega) []
  obtain⟨o1,ei⟩:=JP hL a (by omega) []
  have pA:(if B7 r then r.take (r.length - 1) else r).length≤r.length:=by split<;>simp<;>omega
  obtain⟨o2,eJ⟩:=JP hL (if B7 r then r.take (r.length - 1) else r) (by omega) []
  obtain⟨B,hB⟩:∃B,B=(if B7 r then r.take (r.length - 1) else r):=⟨_,rfl⟩
  rw[← hB] at jC eJ pA
  have hU:Fz (a++40::r)=true↔B7 r=true∧a.all AM=true∧B.all AM=true∧B≠[]∧a.length+B.length≤64:=by
   rw[RH]
   constructor
   ·rintro⟨a',b',e,h1,h2,h3,h4⟩
    have ig:(40:UInt8)∉a':=λhm=>by have:=aN.1 h1 _ hm; revert this; decide
    obtain⟨rfl,rfl⟩:=RG hn ig e
    have hc:B7 (b'++[41])=true:=Nq.2 ⟨b',rfl⟩
    have s9:B=b':=by rw[hB,af hc]; simp
    rw[s9]
    exact⟨hc,h1,h2,h3,h4⟩
   ·rintro⟨hc,h1,h2,h3,h4⟩
    obtain⟨b,rfl⟩:=Nq.1 hc
    have s9:B=b:=by rw[hB,af hc]; simp
    rw[s9] at h2 h3 h4
    exact⟨a,b,rfl,h1,h2,h3,h4⟩
  have la:(AU a).length=a.length:=RL a
  have lb:(AU B).length=B.length:=RL B
  have fa:=Nr a
  have fb:=Nr B
  have jh:=c4j hL (AU a) (AU B) (by omega) (by omega) false false []
  rw[la,lb] at jh
  have kQ:(if B.length=0 then(5:Int) else if a.length+B.length>64 then 3 else 0)=0↔B≠[]∧a.length+B.length≤64:=by
   split
   ·rename_i h1; have:B=[]:=bD.1 h1
    simp[this]
   ·rename_i h1; have:B≠[]:=λe=>h1 (by rw[e]; rfl)
    split
    ·simp; intro _; omega
    ·simp[this]; omega
  simp only[gt_iff_lt] at kQ
  generalize wP:(if B.length=0 then(5:Int) else if 64<a.length+B.length then 3 else 0)=ce at *
  generalize AU a=za at *
  generalize AU B=zb at *
  generalize hAl:a.all AM=qa at *
  generalize hBl:B.all AM=qb at *
  generalize a++40::r=s at *
  generalize B7 r=cl at *
  cases cl with
  | false =>
    refine⟨false,false,[],[],5,rfl,rfl,by rw[hU]; simp,yB (hL 164 _ rfl) rfl ?_⟩
    have f1:yD (if qa=true then za else[])=true:=by split; exact fa; rfl
    have f2:yD (if qb=true then zb else[])=true:=by split; exact fb; rfl
    generalize (if qa=true then za else[])=ya at *
    generalize (if qb=true then zb else[])=yb at *
    simp[En,md,gZ,jC,ei,eJ,f1,f2]
  | true =>
    cases qa with
    | false =>
      refine⟨false,false,[],[],5,rfl,rfl,by rw[hU]; simp,yB (hL 164 _ rfl) rfl ?_⟩
      have f2:yD (if qb=true then zb else[])=true:=by split; exact fb; rfl
      generalize (if qb=true then zb else[])=yb at *
      simp at ei
      simp[En,md,gZ,jC,ei,eJ,f2]
    | true =>
      cases qb with
      | false =>
        refine⟨false,false,[],[],5,rfl,rfl,by rw[hU]; simp,yB (hL 164 _ rfl) rfl ?_⟩
        simp at ei eJ
        simp[En,md,gZ,jC,ei,eJ,fa]
      | true =>
        simp at ei eJ
        by_cases hz:ce=0
        ·refine⟨false,false,za,zb,0,fa,fb,by rw[hU,← kQ]; simp[hz],yB (hL 164 _ rfl) rfl ?_⟩
         subst hz
         simp[En,md,gZ,jC,ei,eJ,fa,fb,jh]
        ·refine⟨false,false,[],[],5,rfl,rfl,by rw[hU,← kQ]; simp[hz],yB (hL 164 _ rfl) rfl ?_⟩
         simp[En,md,gZ,jC,ei,eJ,fa,fb,jh,hz]
end
def Gk (t n:Int):Bool:=decide (t=1∧n=2∨3≤t∧1≤n∧n≤16)
def ofA (e:Expr):Bool:=
 let n:Int:=e.args.length
 if e.kind=1∨e.kind=2∨e.kind=11 then decide (n=0)
 else if e.kind=3 then decide (n=if e.op=1∨e.op=2 then 1 else 2)
 else if e.kind=4 then decide (n=3)
 else if e.kind=5∨e.kind=8 then decide (n=1)
 else if e.kind=6∨e.kind=7 then decide (n=2)
 else if e.kind=9 then decide (e.t≠2)&&Gk e.t n
 else if e.kind=10 then decide (e.v≤n) else false
def ofT (e:Expr):Bool:=
 if e.kind=1 then decide (e.t=2∧-32768≤e.v∧e.v≤32767)||decide (e.t≠2)&&D1 e.t e.v
 else if e.kind=8 then decide (e.t≠2)&&D1 e.t e.v
 else if e.kind=9 then decide (e.v=0)
 else if e.kind=10 then decide (e.t=0∧(e.v=0∨e.v=1))
 else if 1≤e.kind∧e.kind≤11 then decide (e.t=0∧e.v=0) else false
theorem c17 (e:Expr):HS e=(ofA e&&ofT e&&Gl e&&JQ e):=by
 have key:(decide (1≤e.kind∧e.kind≤11)&&argsOK e&&typedOK e)=(ofA e&&ofT e):=by
  unfold argsOK typedOK ofA ofT Gk D1
  rcases RM e.kind with hk|hk|hk|hk|hk|hk|hk|hk|hk|hk|hk|hk|hk
  ·have n1:¬e.kind=1:=by omega
   have n2:¬e.kind=2:=by omega
   have n3:¬e.kind=3:=by omega
   have n4:¬e.kind=4:=by omega
   have n5:¬e.kind=5:=by omega
   have n6:¬e.kind=6:=by omega
   have n7:¬e.kind=7:=by omega
   have n8:¬e.kind=8:=by omega
   have n9:¬e.kind=9:=by omega
   have n10:¬e.kind=10:=by omega
   have n11:¬e.kind=11:=by omega
   have:¬1≤e.kind:=by omega
   simp[n1,n2,n3,n4,n5,n6,n7,n8,n9,n10,n11,this]
  ·simp only[hk]
   rw[aT]
   simp
   intro _; split<;>omega
  ·simp only[hk]
   rw[aT]
   simp
   try omega
  ·simp only[hk]
   rw[aT]
   simp
   try omega
  ·simp only[hk]
   rw[aT]
   simp
   try omega
  ·simp only[hk]
   rw[aT]
   simp
   try omega
  ·simp only[hk]
   rw[aT]
   simp
   try omega
  ·simp only[hk]
   rw[aT]
   simp
   try omega
  ·simp only[hk]
   rw[aT]
   simp
   try omega
  ·simp only[hk]
   rw[aT]
   simp
   split<;>omega
  ·simp only[hk]
   rw[aT]
   simp
   try omega
  ·simp only[hk]
   rw[aT]
   simp
   try omega
  ·have n1:¬e.kind=1:=by omega
   have n2:¬e.kind=2:=by omega
   have n3:¬e.kind=3:=by omega
   have n4:¬e.kind=4:=by omega
   have n5:¬e.kind=5:=by omega
   have n6:¬e.kind=6:=by omega
   have n7:¬e.kind=7:=by omega
   have n8:¬e.kind=8:=by omega
   have n9:¬e.kind=9:=by omega
   have n10:¬e.kind=10:=by omega
   have n11:¬e.kind=11:=by omega
   have:¬e.kind≤11:=by omega
   simp[n1,n2,n3,n4,n5,n6,n7,n8,n9,n10,n11,this]
 unfold HS
 rw[key]
section
variable {L:Nat→Option PFunc} (hL:∀k f,LS k=some f→L k=some f)
include hL
theorem Dx (t v:Int) (h:List PObj):ym L 169 [.int .i64 t,.int .i64 v] h=some (.bool (D1 t v),h):=by
 refine yB (hL 169 _ rfl) rfl ?_
 by_cases h1:t=1
 ·subst h1
  by_cases h2:v=0
  ·simp[F7,D1,h2]
  ·by_cases h3:v=1<;>simp[F7,D1,h2,h3]
 ·by_cases h2:3≤t
  ·by_cases h3:0≤v<;>by_cases h4:v<16<;>simp[F7,D1,h1,h2,h3,h4]
  ·simp[F7,D1,h1,h2]
theorem Dy (o:Int) (h:List PObj):ym L 170 [.int .i64 o] h=some (.int .i64 (if o=1∨o=2 then 1 else 2),h):=by
 refine yB (hL 170 _ rfl) rfl ?_
 by_cases h1:o=1
 ·simp[Jo,h1]
 ·by_cases h2:o=2<;>simp[Jo,h1,h2]
theorem Dz (t n:Int) (h:List PObj):ym L 171 [.int .i64 t,.int .i64 n] h=some (.bool (Gk t n),h):=by
 refine yB (hL 171 _ rfl) rfl ?_
 by_cases h1:t=1
 ·subst h1
  by_cases h2:n=2<;>simp[Hn,Gk,h2]
 ·by_cases h2:3≤t
  ·by_cases h3:1≤n<;>by_cases h4:n≤16<;>simp[Hn,Gk,h1,h2,h3,h4]
  ·simp[Hn,Gk,h1,h2]
def zM (e:Expr):PV := .agg [.bool (ofA e),.bool (decide (e.kind=3)),.bool (ofT e),.bool (Au e.kind),.bool (decide (e.kind=11))]
theorem c6T (e:Expr) (hk:e.kind=1) (h:List PObj):ym L 163 [yq e] h=some (zM e,h):=by
 refine yB (hL 163 _ rfl) rfl ?_
 have cZ:=Dy hL e.op []
 have ej:=Dx hL e.t e.v []
 have fM:=Dz hL e.t e.args.length []
 obtain⟨n,hn⟩:∃n:Int,n=e.args.length:=⟨_,rfl⟩
 have kf:=kfs hk
 by_cases t0:e.t=0
 ·have t2:¬e.t=2:=by omega
  by_cases v0:e.v=0
  ·simp[AQ,zM,ofA,ofT,Au,cZ,ej,fM,yM,yu,kf,tf t0,tf t2,tf v0]
  ·simp[AQ,zM,ofA,ofT,Au,cZ,ej,fM,yM,yu,kf,tf t0,tf t2,tf v0]
 ·skip
  by_cases t2:e.t=2
  ·by_cases a1 : -32768≤e.v<;>by_cases a2:e.v≤32767<;>simp[AQ,zM,ofA,ofT,Au,cZ,ej,fM,yM,yu,kf,tf t0,tf t2,tf a1,tf a2]
  ·simp[AQ,zM,ofA,ofT,Au,cZ,ej,fM,yM,yu,kf,tf t0,tf t2]
theorem c6U (e:Expr) (hk:e.kind=2) (h:List PObj):ym L 163 [yq e] h=some (zM e,h):=by
 refine yB (hL 163 _ rfl) rfl ?_
 have cZ:=Dy hL e.op []
 have ej:=Dx hL e.t e.v []
 have fM:=Dz hL e.t e.args.length []
 obtain⟨n,hn⟩:∃n:Int,n=e.args.length:=⟨_,rfl⟩
 have kf:=kfs hk
 by_cases t0:e.t=0<;>by_cases v0:e.v=0<;>simp[AQ,zM,ofA,ofT,Au,cZ,ej,fM,yM,yu,kf,tf t0,tf v0]
theorem c6V (e:Expr) (hk:e.kind=3) (h:List PObj):ym L 163 [yq e] h=some (zM e,h):=by
 refine yB (hL 163 _ rfl) rfl ?_
 have cZ:=Dy hL e.op []
 have ej:=Dx hL e.t e.v []
 have fM:=Dz hL e.t e.args.length []
 obtain⟨n,hn⟩:∃n:Int,n=e.args.length:=⟨_,rfl⟩
 have kf:=kfs hk
 by_cases t0:e.t=0<;>by_cases v0:e.v=0<;>simp[AQ,zM,ofA,ofT,Au,cZ,ej,fM,yM,yu,kf,tf t0,tf v0]
theorem c6W (e:Expr) (hk:e.kind=4) (h:List PObj):ym L 163 [yq e] h=some (zM e,h):=by
 refine yB (hL 163 _ rfl) rfl ?_
 have cZ:=Dy hL e.op []
 have ej:=Dx hL e.t e.v []
 have fM:=Dz hL e.t e.args.length []
 obtain⟨n,hn⟩:∃n:Int,n=e.args.length:=⟨_,rfl⟩
 have kf:=kfs hk
 by_cases t0:e.t=0<;>by_cases v0:e.v=0<;>simp[AQ,zM,ofA,ofT,Au,cZ,ej,fM,yM,yu,kf,tf t0,tf v0]
theorem c6X (e:Expr) (hk:e.kind=5) (h:List PObj):ym L 163 [yq e] h=some (zM e,h):=by
 refine yB (hL 163 _ rfl) rfl ?_
 have cZ:=Dy hL e.op []
 have ej:=Dx hL e.t e.v []
 have fM:=Dz hL e.t e.args.length []
 obtain⟨n,hn⟩:∃n:Int,n=e.args.length:=⟨_,rfl⟩
 have kf:=kfs hk
 by_cases t0:e.t=0<;>by_cases v0:e.v=0<;>simp[AQ,zM,ofA,ofT,Au,cZ,ej,fM,yM,yu,kf,tf t0,tf v0]
theorem c6Y (e:Expr) (hk:e.kind=6) (h:List PObj):ym L 163 [yq e] h=some (zM e,h):=by
 refine yB (hL 163 _ rfl) rfl ?_
 have cZ:=Dy hL e.op []
 have ej:=Dx hL e.t e.v []
 have fM:=Dz hL e.t e.args.length []
 obtain⟨n,hn⟩:∃n:Int,n=e.args.length:=⟨_,rfl⟩
 have kf:=kfs hk
 by_cases t0:e.t=0<;>by_cases v0:e.v=0<;>simp[AQ,zM,ofA,ofT,Au,cZ,ej,fM,yM,yu,kf,tf t0,tf v0]
theorem c6Z (e:Expr) (hk:e.kind=7) (h:List PObj):ym L 163 [yq e] h=some (zM e,h):=by
 refine yB (hL 163 _ rfl) rfl ?_
 have cZ:=Dy hL e.op []
 have ej:=Dx hL e.t e.v []
 have fM:=Dz hL e.t e.args.length []
 obtain⟨n,hn⟩:∃n:Int,n=e.args.length:=⟨_,rfl⟩
 have kf:=kfs hk
 by_cases t0:e.t=0<;>by_cases v0:e.v=0<;>simp[AQ,zM,ofA,ofT,Au,cZ,ej,fM,yM,yu,kf,tf t0,tf v0]
theorem c60 (e:Expr) (hk:e.kind=8) (h:List PObj):ym L 163 [yq e] h=some (zM e,h):=by
 refine yB (hL 163 _ rfl) rfl ?_
 have cZ:=Dy hL e.op []
 have ej:=Dx hL e.t e.v []
 have fM:=Dz hL e.t e.args.length []
 obtain⟨n,hn⟩:∃n:Int,n=e.args.length:=⟨_,rfl⟩
 have kf:=kfs hk
 by_cases t0:e.t=0
 ·have t2:¬e.t=2:=by omega
  by_cases v0:e.v=0
  ·simp[AQ,zM,ofA,ofT,Au,cZ,ej,fM,yM,yu,kf,tf t0,tf t2,tf v0]
  ·simp[AQ,zM,ofA,ofT,Au,cZ,ej,fM,yM,yu,kf,tf t0,tf t2,tf v0]
 ·skip
  by_cases t2:e.t=2<;>simp[AQ,zM,ofA,ofT,Au,cZ,ej,fM,yM,yu,kf,tf t0,tf t2]
theorem c61 (e:Expr) (hk:e.kind=9) (h:List PObj):ym L 163 [yq e] h=some (zM e,h):=by
 refine yB (hL 163 _ rfl) rfl ?_
 have cZ:=Dy hL e.op []
 have ej:=Dx hL e.t e.v []
 have fM:=Dz hL e.t e.args.length []
 obtain⟨n,hn⟩:∃n:Int,n=e.args.length:=⟨_,rfl⟩
 have kf:=kfs hk
 by_cases t0:e.t=0
 ·have t2:¬e.t=2:=by omega
  by_cases v0:e.v=0
  ·simp[AQ,zM,ofA,ofT,Au,cZ,ej,fM,yM,yu,kf,tf t0,tf t2,tf v0]
  ·simp[AQ,zM,ofA,ofT,Au,cZ,ej,fM,yM,yu,kf,tf t0,tf t2,tf v0]
 ·skip
  by_cases t2:e.t=2<;>simp[AQ,zM,ofA,ofT,Au,cZ,ej,fM,yM,yu,kf,tf t0,tf t2]
theorem c4l (e:Expr) (hk:e.kind=10) (h:List PObj):ym L 163 [yq e] h=some (zM e,h):=by
 refine yB (hL 163 _ rfl) rfl ?_
 have cZ:=Dy hL e.op []
 have ej:=Dx hL e.t e.v []
 have fM:=Dz hL e.t e.args.length []
 obtain⟨n,hn⟩:∃n:Int,n=e.args.length:=⟨_,rfl⟩
 have kf:=kfs hk
 by_cases t0:e.t=0
 ·have t2:¬e.t=2:=by omega
  by_cases v0:e.v=0
  ·simp[AQ,zM,ofA,ofT,Au,cZ,ej,fM,yM,yu,kf,tf t0,tf t2,tf v0]
  ·by_cases v1:e.v=1<;>simp[AQ,zM,ofA,ofT,Au,cZ,ej,fM,yM,yu,kf,tf t0,tf t2,tf v0,tf v1]
 ·skip
  by_cases v1:e.v=1<;>simp[AQ,zM,ofA,ofT,Au,cZ,ej,fM,yM,yu,kf,tf t0,tf v1]
theorem c4m (e:Expr) (hk:e.kind=11) (h:List PObj):ym L 163 [yq e] h=some (zM e,h):=by
 refine yB (hL 163 _ rfl) rfl ?_
 have cZ:=Dy hL e.op []
 have ej:=Dx hL e.t e.v []
 have fM:=Dz hL e.t e.args.length []
 obtain⟨n,hn⟩:∃n:Int,n=e.args.length:=⟨_,rfl⟩
 have kf:=kfs hk
 by_cases t0:e.t=0<;>by_cases v0:e.v=0<;>simp[AQ,zM,ofA,ofT,Au,cZ,ej,fM,yM,yu,kf,tf t0,tf v0]
theorem d4k (e:Expr) (h:List PObj):ym L 163 [yq e] h=some (zM e,h):=by
 rcases RM e.kind with hk|hk|hk|hk|hk|hk|hk|hk|hk|hk|hk|hk|hk
 ·refine yB (hL 163 _ rfl) rfl ?_
  have k1:¬e.kind=1:=by omega
  have k2:¬e.kind=2:=by omega
  have k3:¬e.kind=3:=by omega
  have k4:¬e.kind=4:=by omega
  have k5:¬e.kind=5:=by omega
  have k6:¬e.kind=6:=by omega
  have k7:¬e.kind=7:=by omega
  have k8:¬e.kind=8:=by omega
  have k9:¬e.kind=9:=by omega
  have k10:¬e.kind=10:=by omega
  have k11:¬e.kind=11:=by omega
  have kr:¬(1≤e.kind∧e.kind≤11):=by omega
  have ht:ofT e=false:=by unfold ofT; simp only[k1,k8,k9,k10,kr,if_false]
  have ha:ofA e=false:=by unfold ofA; simp only[k1,k2,k3,k4,k5,k6,k7,k8,k9,k10,k11,or_self,if_false]
  by_cases t0:e.t=0<;>by_cases v0:e.v=0<;>simp[AQ,zM,ha,ht,Au,yM,yu,k1,k2,k3,k4,k5,k6,k7,k8,k9,k10,k11,tf t0,tf v0]
 ·exact c6T hL e hk h
 ·exact c6U hL e hk h
 ·exact c6V hL e hk h
 ·exact c6W hL e hk h
 ·exact c6X hL e hk h
 ·exact c6Y hL e hk h
 ·exact c6Z hL e hk h
 ·exact c60 hL e hk h
 ·exact c61 hL e hk h
 ·exact c4l hL e hk h
 ·exact c4m hL e hk h
 ·refine yB (hL 163 _ rfl) rfl ?_
  have k1:¬e.kind=1:=by omega
  have k2:¬e.kind=2:=by omega
  have k3:¬e.kind=3:=by omega
  have k4:¬e.kind=4:=by omega
  have k5:¬e.kind=5:=by omega
  have k6:¬e.kind=6:=by omega
  have k7:¬e.kind=7:=by omega
  have k8:¬e.kind=8:=by omega
  have k9:¬e.kind=9:=by omega
  have k10:¬e.kind=10:=by omega
  have k11:¬e.kind=11:=by omega
  have kr:¬(1≤e.kind∧e.kind≤11):=by omega
  have ht:ofT e=false:=by unfold ofT; simp only[k1,k8,k9,k10,kr,if_false]
  have ha:ofA e=false:=by unfold ofA; simp only[k1,k2,k3,k4,k5,k6,k7,k8,k9,k10,k11,or_self,if_false]
  by_cases t0:e.t=0<;>by_cases v0:e.v=0<;>simp[AQ,zM,ha,ht,Au,yM,yu,k1,k2,k3,k4,k5,k6,k7,k8,k9,k10,k11,tf t0,tf v0]
theorem d0S (e:Expr) (h:List PObj):ym L 150 [yq e] h=some (.int .i64 (CW e),h):=by
 refine yB (hL 150 _ rfl) rfl ?_
 have jn:=d4k hL e []
 have iX:=RB hL e.name []
 obtain⟨b1,b2,wa,wb,er,f1,f2,u5,rN⟩:=c4k hL e.name []
 have dE:=c17 e
 unfold CW
 by_cases cY:64<e.args.length
 ·have ei:(64:Int)<e.args.length:=by omega
  have eJ:¬e.args.length≤64:=by omega
  simp[BM,cY,ei,eJ,need,yv]
 have ei:¬(64:Int)<e.args.length:=by omega
 have eJ:e.args.length≤64:=by omega
 unfold zM at jn
 generalize ofA e=A at *
 generalize ofT e=T at *
 cases A with
 | false=>simp[BM,cY,ei,eJ,jn,yM,dE,need,yv]
 | true=>
 cases T with
 | false=>simp[BM,cY,ei,eJ,jn,yM,dE,need,yv]
 | true=>
 simp only[cy] at dE
 have ta:(Gl e=true∧(e.kind=3→e.op≠0∧1≤e.op∧e.op≤16)∧(e.kind≠3→e.op=0))∨(Gl e=false∧(e.kind=3→e.op<1∨16<e.op)∧(e.kind≠3→e.op≠0)):=by
  unfold Gl
  by_cases hk:e.kind=3
  ·by_cases ho:1≤e.op∧e.op≤16
   ·left; simp[hk,ho]; omega
   ·right; simp[hk]; omega
  ·by_cases ho:e.op=0
   ·left; simp[hk,ho]
   ·right; simp[hk,ho]
 rcases ta with⟨q1,q2,q3⟩|⟨q1,q2,q3⟩
 ·rw[q1,cy] at dE
  have gI:∀(O:Bool),(decide (e.kind=3))=O→wpL L BM.code ⟨[yq e,.dead,.dead,.dead,.dead,.dead],[],0,h⟩ (Eu [.var 2] (.int .i64 (yv (need (decide (e.args.length≤64)) 3) (yv (need (HS e) 5) (need (!Au e.kind||CU e.name) 6))),h)):=by
   intro O hO
   have qn:(O=true→¬e.op=0∧¬e.op<1∧¬16<e.op)∧(O=false→e.op=0):=by
    constructor
    ·intro ho; rw[ho,ay] at hO; have:=q2 hO; omega
    ·intro ho; rw[ho,cu] at hO; exact q3 hO
   rw[hO] at jn
   unfold JQ at dE
   generalize Au e.kind=N at *
   cases O with
   | true =>
     have hk:e.kind=3:=by simpa using hO
     have gY:¬e.kind=11:=by omega
     obtain⟨o1,o2,o3⟩:=qn.1 rfl
     cases N with
     | true =>
       cases hi:CU e.name<;>rw[hi] at iX<;>simp[BM,cY,ei,eJ,jn,yM,dE,iX,o1,o2,o3,need,yv]
     | false =>
       by_cases iL:e.name=[]
       ·simp[BM,cY,ei,eJ,jn,yM,dE,tf iL,o1,o2,o3,tf gY,need,yv]
       ·simp[BM,cY,ei,eJ,jn,yM,dE,tf iL,o1,o2,o3,tf gY,need,yv]
   | false =>
     have o1:=qn.2 rfl
     cases N with
     | true =>
       cases hi:CU e.name<;>rw[hi] at iX<;>simp[BM,cY,ei,eJ,jn,yM,dE,iX,tf o1,need,yv]
     | false =>
       by_cases gY:e.kind=11
       ·by_cases he:er=0
        ·have hw:=u5.1 he
         simp[BM,cY,ei,eJ,jn,yM,dE,rN,f1,f2,tf gY,he,hw,tf o1,need,yv]
        ·have hw:Fz e.name=false:=by
          rw[← Bool.not_eq_true]; exact λhh=>he (u5.2 hh)
         by_cases iL:e.name=[]<;>simp[BM,cY,ei,eJ,jn,yM,dE,rN,f1,f2,tf gY,he,hw,tf o1,tf iL,need,yv]
       ·by_cases iL:e.name=[]
        ·simp[BM,cY,ei,eJ,jn,yM,dE,tf iL,tf o1,tf gY,need,yv]
        ·simp[BM,cY,ei,eJ,jn,yM,dE,tf iL,tf o1,tf gY,need,yv]
  have hq:=gI _ rfl
  rw[← c1F e] at hq
  exact hq
 ·rw[q1,bP] at dE
  by_cases hk:e.kind=3
  ·by_cases o0:e.op=0
   ·simp[BM,cY,ei,eJ,jn,yM,dE,tf hk,tf o0,need,yv]
   ·rcases q2 hk with o1|o1
    ·simp[BM,cY,ei,eJ,jn,yM,dE,tf hk,tf o0,o1,need,yv]
    ·have o2:¬e.op<1:=by omega
     simp[BM,cY,ei,eJ,jn,yM,dE,tf hk,tf o0,o1,o2,need,yv]
  ·have o0:=q3 hk
   simp[BM,cY,ei,eJ,jn,yM,dE,tf hk,tf o0,need,yv]
theorem c18 (e:Expr):e.parts≤1100000→∀h,ym L 149 [yq e] h=some (.int .i64 e.depth,h):=by
 induction e using Expr.ind with
 | h e ih=>
 intro hp h
 have dS:=Qw e
 refine yB (hL 149 _ rfl) rfl ?_
 simp[LM]
 refine c4h e.args.length (λi (x:PV×Nat)=>[(3,.int .i64 ((e.args.take i).foldl (λm x=>if x.depth>m then x.depth else m) 0)),(4,x.1),(7,.int .i64 i)]) (λ_ x=>x.2) (λ_ _=>h) (.dead,1) ?_ ?_ (by simp) rfl rfl
 ·intro i hi x ih2
  have hw:=yz i (by omega)
  have gz:=Qy (ak hi)
  have hc:=ih e.args[i] (ak hi) (by omega) []
  have ih2:=λy=>ih2 y
  rw[AH hi,cN] at ih2
  generalize (e.args.take i).foldl (λm x=>if x.depth>m then x.depth else m) 0=a at *
  simp[hi,hw,hc,EG]
  simpa using ih2 (_,_)
 ·intro _
  have:=Expr.depth_eq e
  unfold wrap at this
  simp[this]
end
def AV (y:Expr→List PObj→Option (Out×List PObj)):List Expr→List PObj→Option (Out×List PObj)
 | [],h=>some (.val (.bool true),h)
 | x :: xs, h => match y x h with
   | some (.val (.bool true),h')=>AV y xs h'
   | r=>r
theorem RN (y:Expr→List PObj→Option (Out×List PObj)):∀(a b:List Expr) (h:List PObj),AV y (a++b) h=match AV y a h with
  | some (.val (.bool true),h')=>AV y b h'
  | r=>r
 | [],b,h=>rfl
 | x :: a, b, h => by
   simp only[aK,AV]
   split
   ·exact RN y a b _
   ·rename_i dh
    split
    ·rename_i h1; exact absurd h1 (dh _)
    ·rfl
theorem HT {y:Expr→List PObj→Option (Out×List PObj)} {f:Expr→Int} {R:Int→Out×List PObj} {h:List PObj}:∀(l:List Expr),(∀x∈l,f x=0→y x h=some (.val (.bool true),h))→(∀x∈l,f x≠0→y x h=some (R (f x)))→(∀e h',R e≠(.val (.bool true),h'))→AV y l h=some (if yy f l=0 then(.val (.bool true),h) else R (yy f l))
 | [],_,_,_=>by simp[AV,yy]
 | x :: l, h1, h2, h3 => by
   simp only[AV]
   by_cases hx:f x=0
   ·rw[h1 x (by simp) hx]
    simp only[yy,hx,if_true]
    exact HT l (λz hz=>h1 z (by simp[hz])) (λz hz=>h2 z (by simp[hz])) h3
   ·rw[h2 x (by simp) hx]
    simp only[yy,hx,if_false]
    split
    ·rename_i hh; simp only[aa] at hh; exact absurd hh (h3 _ _)
    ·rfl
theorem RP {y:Expr→List PObj→Option (Out×List PObj)} {H:Nat→List PObj}:∀(l:List Expr) (i:Nat),(∀x∈l,∀k,i≤k→k<i+l.length→y x (H k)=some (.val (.bool true),H (k+1)))→AV y l (H i)=some (.val (.bool true),H (i+l.length))
 | [],i,_=>rfl
 | x :: l, i, h => by
   simp only[AV,h x (by simp) i (am _) (by simp)]
   rw[RP l (i+1) (λz hz k h1 h2=>h z (by simp[hz]) k (by omega) (by simp; omega)),aB]
   congr 3; omega
theorem yAt (H0:List PObj) (R:Expr→Out×List PObj):∃y:Expr→List PObj→Option (Out×List PObj),(∀x,y x H0=some (R x))∧∀x h r,y x h=some r→h=H0∧r=R x:=by
 classical
 refine⟨λx h=>if h=H0 then some (R x) else none,λx=>af rfl,λx h r hr =>?_⟩
 simp only at hr
 split at hr
 ·rename_i he; exact⟨he,(Option.some.inj hr).symm⟩
 ·simp at hr
theorem Ai (n:Nat) (cs:List PV) (off:Nat) (v:PV):yM n false cs off v=if off<cs.length∧v.flat=true then some (cs.set off v) else none:=rfl
section
variable {L:Nat→Option PFunc} {V l:List PV} {g:Nat} {h:List PObj}
@[simp] theorem d2N {n:Nat} {o o':PObj}:(h.set n o).set n o'=h.set n o':=List.set_set ..
theorem Ch {n:Nat} {o:PObj} (hn:h[n]? = some o):h.set n o=h:=by
 obtain⟨dc,he⟩:=ah.1 hn
 rw[← he]; exact List.set_getElem_self dc
end
section
variable {L:Nat→Option PFunc} (hL:∀k f,LS k=some f→L k=some f)
include hL
theorem c62 (kb:Nat) (first captured:List PV) (y:Expr→List PObj→Option (Out×List PObj)) (nX:∀p∈first++captured,cp p=some p) (hb:∀x h r,y x h=some r→(∃b h',r=(.val (.bool b),h'))∨∃v h',r=(.boom v,h')) (e:Expr):EW e→(∀x∈e.list,∀h r,y x h=some r→yI L kb (first++[yq x]++captured) h=some r)→∀(h:List PObj) (r:Out×List PObj),AV y e.list h=some r→yI L 141 [yq e,.func kb first captured] h=some r:=by
 induction e using Expr.ind with
 | h e ih=>
 intro he hy h r hr
 obtain⟨_,_,dS⟩:=he.self
 rw[Expr.list_eq] at hr
 simp only[AV] at hr
 refine Bi (hL 141 _ rfl) rfl ?_
 cases rT:y e h with
 | none=>rw[rT] at hr; simp at hr
 | some q =>
   rw[rT] at hr
   have kl:=hy e (by rw[Expr.list_eq]; simp) h q rT
   simp only[aI] at kl
   rcases hb e h q rT with⟨b,h',rfl⟩|⟨v,h',rfl⟩
   ·cases b with
    | false =>
      simp only[aa] at hr
      subst hr
      simp at kl
      simp[DV,kl]
    | true =>
      simp only at hr
      simp at kl
      simp[DV,kl]
      suffices H:∀(n i:Nat) (h:List PObj) (x4:PV) (g:Nat),i+n=e.args.length→AV y ((e.args.drop i).flatMap Expr.list) h=some r→wpL L Hl ⟨[yq e,.func kb first captured,.loc 0 (yq e).cells,.bool false,x4,.list false (e.args.map yq),.int .i64 e.args.length,.int .i64 i],[],g,h⟩ (DO 0 (Ev L (S (R [t 3 T]) Y) (DA L DV r))) by
       simpa[DV] using H e.args.length 0 h' .dead 1 (by omega) (by simpa using hr)
      intro n
      induction n with
      | zero =>
        intro i h x4 g hi hr
        have:i=e.args.length:=by omega
        subst this
        rw[bl (am _)] at hr
        simp only[List.flatMap_nil,AV,aa] at hr
        subst hr
        rw[Hl,Cy]
        simp[DV]
      | succ n ih2 =>
        intro i h x4 g hi hr
        have dM:i<e.args.length:=by omega
        have hw:=yz i (by omega)
        rw[bg dM,aM,RN] at hr
        rw[Hl,Cy]
        cases hq:AV y e.args[i].list h with
        | none=>rw[hq] at hr; simp at hr
        | some q =>
          have hc:=ih e.args[i] (ak dM) (he.arg (ak dM)) (λx hx=>hy x (by rw[Expr.list_eq]; exact bo _ (bN.2 ⟨_,ak dM,hx⟩))) h q hq
          rw[hq] at hr
          have kR:(∃b h',q=(.val (.bool b),h'))∨∃v h',q=(.boom v,h'):=by
           have key:∀(l:List Expr) (h:List PObj) (q),AV y l h=some q→(∃b h',q=(.val (.bool b),h'))∨∃v h',q=(.boom v,h'):=by
            intro l
            induction l with
            | nil=>intro h q hq; simp only[AV,aa] at hq; exact .inl ⟨true,h,hq.symm⟩
            | cons x l ihl =>
              intro h q hq
              simp only[AV] at hq
              split at hq
              ·exact ihl _ _ hq
              ·exact hb _ _ _ hq
           exact key _ _ _ hq
          rcases kR with⟨b,h2,rfl⟩|⟨v,h2,rfl⟩
          ·cases b with
           | false =>
             simp only[aa] at hr
             subst hr
             simp[dM,hc,DV]
           | true =>
             simp only at hr
             simp[dM,hc,hw]
             have:=ih2 (i+1) h2 (.loc g (yq e.args[i]).cells) (g+1) (by omega) hr
             rw[Hl] at this
             simpa using this
          ·simp only[aa] at hr
           subst hr
           simp[dM,hc,DV]
   ·simp only[aa] at hr
    subst hr
    simp at kl
    simp[DV,kl]
theorem HU (e:Expr) (h:List PObj):ym L 81 [yq e] h=some (.func 114 [] [.cptr (yq e).cells],h):=by
 refine yB (hL 81 _ rfl) rfl ?_
 simp[Lt]
theorem HV {V l:List PV} {g:Nat} {h:List PObj} {Q:PExit→St→Prop} {x:PX} {kb:Nat} {caps:List PX} {cs:List PV} (e:Expr) (he:EW e) (hx:rd ⟨V,l,g,h⟩ x=some (.func 114 [] [.cptr (yq e).cells])) (hc:rdAll ⟨V,l,g,h⟩ caps=some cs) (d9:∀p∈cs,cp p=some p)
  (y:Expr→List PObj→Option (Out×List PObj)) (hy:∀x∈e.list,∀h' r,y x h'=some r→yI L kb (.ptr h.length 0::(cs++[yq x])) h'=some r) (hb:∀x h r,y x h=some r→(∃b h',r=(.val (.bool b),h'))∨∃v h',r=(.boom v,h'))
  (r:Out×List PObj) (hr:AV y e.list (h++[.loop true])=some r) (hq:CX V l g h.length Q r):wpL L (.rangeF x kb caps) ⟨V,l,g,h⟩ Q:=by
 have iY:EJ L 114=true:=by unfold EJ; rw[hL 114 _ rfl]; rfl
 have hE:=c62 hL kb (.ptr h.length 0::cs) [] y (by
  intro p hp
  simp only[aW,az] at hp
  rcases hp with rfl|hp
  ·rfl
  ·exact d9 p hp) hb e he (λx hx h' r hr=>by have:=hy x hx h' r hr; simpa using this) _ r hr
 have ho:∃r',yI L 114 ([] ++ .func kb (.ptr h.length 0::cs) []::[.cptr (yq e).cells]) (h++[.loop true])=some r'∧CX V l g h.length Q r':=by
  obtain⟨o,h'⟩:=r
  cases o with
  | val v =>
    refine⟨(.val (.tuple []),h'),?_,hq⟩
    refine Bi (hL 114 _ rfl) rfl ?_
    simp[Jh,hE]
  | boom v =>
    refine⟨(.boom v,h'),?_,hq⟩
    refine Bi (hL 114 _ rfl) rfl ?_
    simp[Jh,hE]
 obtain⟨r',h1,h2⟩:=ho
 exact c06 hx hc iY h1 h2
theorem c4o (e:Expr) (he:EW e) (hp:e.parts≤1100000) (h:List PObj):ym L 148 [yq e] []=some (.int .i64 e.parts,[.cells [.int .i64 e.parts],.gone]):=by
 refine yB (hL 148 _ rfl) rfl ?_
 have hE:=HU hL e [.cells [.int .i64 0]]
 simp[LL,hE]
 have ff:∀(x:Expr) (c:Nat),c≤1100000→yI L 193 [.ptr 1 0,.ptr 0 0,yq x] [.cells [.int .i64 c],.loop true]=some (.val (.bool true),[.cells [.int .i64 (c+1:Nat)],.loop true]):=by
  intro x c hc
  have hw:=yz c (by omega)
  refine HW (as:=[.ptr 0 0,yq x]) (hL 193 _ rfl) rfl rfl rfl ?_
  simp[LR,hw,Ai,yu]
 refine HV hL e he (cs:=[.ptr 0 0]) (by simp) (by simp) (by simp) (λx h=>match h with | [.cells [.int .i64 c],.loop true]=>if 0≤c∧c≤1100000 then some (.val (.bool true),[.cells [.int .i64 (c+1)],.loop true]) else none | _=>none) ?_ ?_ (.val (.bool true),[.cells [.int .i64 e.parts],.loop true]) ?_ ?_
 ·intro x _ h' r hr
  split at hr
  ·split at hr
   ·rename_i c hc
    simp only[aa] at hr
    subst hr
    obtain⟨n,rfl⟩:=Int.eq_ofNat_of_zero_le hc.1
    have:=ff x n (by omega)
    simpa using this
   ·simp at hr
  ·simp at hr
 ·intro x h r hr
  split at hr
  ·split at hr
   ·simp only[aa] at hr; exact .inl ⟨true,_,hr.symm⟩
   ·simp at hr
  ·simp at hr
 ·have:=RP (y:=λx h=>match h with | [.cells [.int .i64 c],.loop true]=>if 0≤c∧c≤1100000 then some (.val (.bool true),[.cells [.int .i64 (c+1)],.loop true]) else none | _=>none) (H:=λk=>[.cells [.int .i64 k],.loop true]) e.list 0 (by
   intro x hx k h1 h2
   have hk:k≤1100000:=by have:e.list.length=e.parts:=rfl; omega
   have:(0:Int)≤(k:Int)∧(k:Int)≤1100000:=by omega
   simp[this])
  have cY:e.list.length=e.parts:=rfl
  rw[cY] at this
  simp only[aU] at this
  simpa using this
 ·simp[CX]
def FA (f:Expr→Int) (x:Expr):List PObj→Option (Out×List PObj)
 | [.cells [c],.loop true]=>some (if f x=0 then(.val (.bool true),[.cells [c],.loop true]) else(.val (.bool false),[.cells [.int .i64 (f x)],.over none]))
 | _=>none
theorem d0T (f:Expr→Int) (x:Expr) (h:List PObj) (r:Out×List PObj) (hr:FA f x h=some r):(∃b h',r=(.val (.bool b),h'))∨∃v h',r=(.boom v,h'):=by
 have _:=hL
 unfold FA at hr
 split at hr
 ·simp only[aa] at hr
  subst hr
  split
  ·exact .inl ⟨_,_,rfl⟩
  ·exact .inl ⟨_,_,rfl⟩
 ·simp at hr
theorem c4p (f:Expr→Int) (c:PV) (l:List Expr):AV (FA f) l [.cells [c],.loop true]=some (if yy f l=0 then(.val (.bool true),[.cells [c],.loop true]) else(.val (.bool false),[.cells [.int .i64 (yy f l)],.over none])):=by
 have _:=hL
 refine HT (R:=λe=>(.val (.bool false),[.cells [.int .i64 e],.over none])) l ?_ ?_ ?_
 ·intro x _ hx; simp[FA,hx]
 ·intro x _ hx; simp[FA,hx]
 ·intro e h'; simp
theorem c19 (e:Expr) (he:EW e) (hp:e.parts≤1100000):∃h',ym L 122 [yq e] []=some (.int .i64 (Gj e),h'):=by
 suffices H:∃r,ym L 122 [yq e] []=some r∧r.1 = .int .i64 (Gj e) by
  obtain⟨⟨v,h'⟩,h1,h2⟩:=H
  exact⟨h',by rw[h1]; simp only at h2; rw[h2]⟩
 refine AP (hL 122 _ rfl) rfl ?_
 have h1:=c4o hL e he hp []
 have h2:=c18 hL e hp []
 have hE:=HU hL e [.cells [.int .i64 0]]
 have dj:=Ru hp
 unfold Gj
 rw[dj]
 by_cases b1:(400:Int)<e.parts
 ·have b2:¬(e.parts:Int)≤400:=by omega
  have b3:400<e.parts:=by omega
  have b4:¬e.parts≤400:=by omega
  simp[Hj,h1,b1,b2,b3,b4,need,yv,Ai,yu,yJ]
 ·have b2:(e.parts:Int)≤400:=by omega
  have b3:¬400<e.parts:=by omega
  have b4:e.parts≤400:=by omega
  by_cases d1:32<e.depth
  ·have d2:¬e.depth≤32:=by omega
   simp[Hj,h1,h2,b1,b2,b3,b4,d1,d2,need,yv,Ai,yu,yJ]
  ·have d2:e.depth≤32:=by omega
   simp[Hj,h1,h2,b1,b2,b3,b4,d1,d2,hE]
   have ff:∀(x:Expr) (c:PV),yI L 191 [.ptr 1 0,.ptr 0 0,yq x] [.cells [c],.loop true]=some (if CW x=0 then(.val (.bool true),[.cells [c],.loop true]) else(.val (.bool false),[.cells [.int .i64 (CW x)],.over none])):=by
    intro x c
    have ho:=d0S hL x []
    refine HW (as:=[.ptr 0 0,yq x]) (hL 191 _ rfl) rfl rfl rfl ?_
    by_cases hz:CW x=0
    ·rw[hz] at ho
     simp[Jv,ho,hz]
    ·simp[Jv,ho,hz,Ai]
   refine HV hL e he (cs:=[.ptr 0 0]) (by simp) (by simp) (by simp) (FA CW) ?_ (d0T hL CW) _ (c4p hL CW (.int .i64 0) e.list) ?_
   ·intro x _ h' r hr
    unfold FA at hr
    split at hr
    ·simp only[aa] at hr
     subst hr
     simpa using ff x _
    ·simp at hr
   ·by_cases hf:yy CW e.list=0
    ·simp[hf,CX,Ai,yu,yJ]
    ·simp[hf,CX,yu,yJ]
theorem RQ (e:Expr) (he:EW e):∃h',ym L 147 [yq e] []=some (.bool (FB e),h'):=by
 suffices H:∃r,ym L 147 [yq e] []=some r∧r.1 = .bool (FB e) by
  obtain⟨⟨v,h'⟩,h1,h2⟩:=H
  exact⟨h',by rw[h1]; simp only at h2; rw[h2]⟩
 refine AP (hL 147 _ rfl) rfl ?_
 have hE:=HU hL e [.cells [.bool false]]
 obtain⟨f,hf⟩:∃f:Expr→Int,∀x,f x=if x.kind=5∨x.kind=6∨x.kind=7∨x.kind=10∨x.kind=11 then 1 else 0:=⟨_,λ_=>rfl⟩
 have dz:FB e=decide (yy f e.list=0):=by
  unfold FB
  rw[aT,aN,ay,BW]
  constructor
  ·intro h x hx
   have:=h x hx
   rw[hf,ae (by simpa using this)]
  ·intro h x hx
   have:=h x hx
   rw[hf] at this
   split at this
   ·simp at this
   ·rename_i hn; simpa using hn
 rw[dz]
 simp[LK,hE]
 have ff:∀(x:Expr) (c:PV),yI L 192 [.ptr 1 0,.ptr 0 0,yq x] [.cells [c],.loop true]=some (if f x=0 then(.val (.bool true),[.cells [c],.loop true]) else(.val (.bool false),[.cells [.bool false],.over none])):=by
  intro x c
  refine HW (as:=[.ptr 0 0,yq x]) (hL 192 _ rfl) rfl rfl rfl ?_
  rw[hf]
  by_cases k5:x.kind=5
  ·simp[ES,tf k5,Ai]
  by_cases k6:x.kind=6
  ·simp[ES,tf k5,tf k6,Ai]
  by_cases k7:x.kind=7
  ·simp[ES,tf k5,tf k6,tf k7,Ai]
  by_cases k10:x.kind=10
  ·simp[ES,tf k5,tf k6,tf k7,tf k10,Ai]
  by_cases k11:x.kind=11
  ·simp[ES,tf k5,tf k6,tf k7,tf k10,tf k11,Ai]
  simp[ES,tf k5,tf k6,tf k7,tf k10,tf k11]
 obtain⟨y,hy⟩:∃y:Expr→List PObj→Option (Out×List PObj),∀x h,y x h=match h with
  | [.cells [c],.loop true]=>some (if f x=0 then(.val (.bool true),[.cells [c],.loop true]) else(.val (.bool false),[.cells [.bool false],.over none]))
  | _=>none:=⟨_,λ_ _=>rfl⟩
 have qo:AV y e.list [.cells [.bool false],.loop true]=some (if yy f e.list=0 then(.val (.bool true),[.cells [.bool false],.loop true]) else(.val (.bool false),[.cells [.bool false],.over none])):=by
  refine HT (f:=f) (R:=λ_=>(.val (.bool false),[.cells [.bool false],.over none])) e.list ?_ ?_ ?_
  ·intro x _ hx; simp[hy,hx]
  ·intro x _ hx; simp[hy,hx]
  ·intro e h'; simp
 refine HV hL e he (cs:=[.ptr 0 0]) (by simp) (by simp) (by simp) y ?_ ?_ _ qo ?_
 ·intro x _ h' r hr
  rw[hy] at hr
  split at hr
  ·simp only[aa] at hr
   subst hr
   simpa using ff x _
  ·simp at hr
 ·intro x h r hr
  rw[hy] at hr
  split at hr
  ·simp only[aa] at hr
   subst hr
   split
   ·exact .inl ⟨_,_,rfl⟩
   ·exact .inl ⟨_,_,rfl⟩
  ·simp at hr
 ·by_cases hz:yy f e.list=0
  ·simp[hz,CX,Ai,yu,yJ]
  ·simp[hz,CX,yu,yJ]
theorem c2a (en:List Enum) (e:Expr) (he:EW e) (o:Bool) (h:List PObj):ym L 123 [.list o (en.map yG),yq e] h=some (.int .i64 (Dd en e),h):=by
 refine yB (hL 123 _ rfl) rfl ?_
 obtain⟨ht,_,_⟩:=he.self
 have hs:=JR hL en e.t ht false []
 have hh:=HX hL en e.t e.v ht false []
 unfold Dd
 rcases(by omega:e.kind=1∨e.kind=8∨e.kind=9∨(¬e.kind=1∧¬e.kind=8∧¬e.kind=9)) with hk|hk|hk|⟨h1,h8,h9⟩
 ·have h8:¬e.kind=8:=by omega
  have h9:¬e.kind=9:=by omega
  by_cases hz:Aj en e.t=0
  ·have fw:¬0<Aj en e.t:=by omega
   simp[DU,tf hk,tf h8,tf h9,hs,hz,fw,need,yv]
  ·have fw:0<Aj en e.t:=by omega
   have eZ:(0:Int)<Aj en e.t:=by omega
   cases hq:Ew en e.t e.v<;>rw[hq] at hh<;>simp[DU,tf hk,tf h8,tf h9,hs,hh,hz,fw,eZ,hq,need,yv]
 ·have h1:¬e.kind=1:=by omega
  have h9:¬e.kind=9:=by omega
  by_cases hz:Aj en e.t=0
  ·have fw:¬0<Aj en e.t:=by omega
   simp[DU,tf hk,tf h1,tf h9,hs,hz,fw,need,yv]
  ·have fw:0<Aj en e.t:=by omega
   have eZ:(0:Int)<Aj en e.t:=by omega
   cases hq:Ew en e.t e.v<;>rw[hq] at hh<;>simp[DU,tf hk,tf h1,tf h9,hs,hh,hz,fw,eZ,hq,need,yv]
 ·have h1:¬e.kind=1:=by omega
  have h8:¬e.kind=8:=by omega
  by_cases hz:Aj en e.t=0
  ·have fw:¬0<Aj en e.t:=by omega
   simp[DU,tf hk,tf h1,tf h8,hs,hz,fw,need,yv]
  ·have fw:0<Aj en e.t:=by omega
   by_cases hl:e.args.length=Aj en e.t
   ·have kK:((e.args.length:Int)=(Aj en e.t:Int))=True:=eq_true (by omega)
    simp[DU,tf hk,tf h1,tf h8,hs,hz,fw,kK,tf hl,need,yv]
   ·have kK:((e.args.length:Int)=(Aj en e.t:Int))=False:=eq_false (by omega)
    simp[DU,tf hk,tf h1,tf h8,hs,hz,fw,kK,tf hl,need,yv]
 ·simp[DU,tf h1,tf h8,tf h9,hs]
theorem FC (en:List Enum) (e:Expr) (he:XW e) (o:Bool):∃h',ym L 94 [.list o (en.map yG),yq e] []=some (.int .i64 (CE en e),h'):=by
 suffices H:∃r,ym L 94 [.list o (en.map yG),yq e] []=some r∧r.1 = .int .i64 (CE en e) by
  obtain⟨⟨v,h'⟩,h1,h2⟩:=H
  exact⟨h',by rw[h1]; simp only at h2; rw[h2]⟩
 refine AP (hL 94 _ rfl) rfl ?_
 obtain⟨h',hc⟩:=c19 hL e he.ew he.parts
 have hE:=HU hL e [.cells [.list false (en.map yG)],.cells [.int .i64 0]]
 unfold CE
 by_cases hz:Gj e=0
 ·rw[hz] at hc ⊢
  rw[Bw]
  simp[Jf,hc,hE]
  have ff:∀(x:Expr),EW x→∀(c:PV),yI L 189 [.ptr 2 0,.ptr 0 0,.ptr 1 0,yq x] [.cells [.list false (en.map yG)],.cells [c],.loop true]=some (if Dd en x=0 then(.val (.bool true),[.cells [.list false (en.map yG)],.cells [c],.loop true]) else(.val (.bool false),[.cells [.list false (en.map yG)],.cells [.int .i64 (Dd en x)],.over none])):=by
   intro x hx c
   have ho:=c2a hL en x hx false []
   refine HW (as:=[.ptr 0 0,.ptr 1 0,yq x]) (hL 189 _ rfl) rfl rfl rfl ?_
   by_cases hz:Dd en x=0
   ·rw[hz] at ho
    simp[Ju,ho,hz,yu]
   ·simp[Ju,ho,hz,Ai,yu]
  obtain⟨y,u6,rU⟩:=yAt [.cells [.list false (en.map yG)],.cells [.int .i64 0],.loop true] (λx=>if Dd en x=0 then(.val (.bool true),[.cells [.list false (en.map yG)],.cells [.int .i64 0],.loop true]) else(.val (.bool false),[.cells [.list false (en.map yG)],.cells [.int .i64 (Dd en x)],.over none]))
  have qo:AV y e.list [.cells [.list false (en.map yG)],.cells [.int .i64 0],.loop true]=some (if yy (Dd en) e.list=0 then(.val (.bool true),[.cells [.list false (en.map yG)],.cells [.int .i64 0],.loop true]) else(.val (.bool false),[.cells [.list false (en.map yG)],.cells [.int .i64 (yy (Dd en) e.list)],.over none])):=by
   refine HT (f:=Dd en) (R:=λq=>(.val (.bool false),[.cells [.list false (en.map yG)],.cells [.int .i64 q],.over none])) e.list ?_ ?_ ?_
   ·intro x _ hx; rw[u6,af hx]
   ·intro x _ hx; rw[u6,ae hx]
   ·intro e h'; simp
  refine HV hL e he.ew (cs:=[.ptr 0 0,.ptr 1 0]) (by simp) (by simp) (by simp) y ?_ ?_ _ qo ?_
  ·intro x hx h' r hr
   obtain⟨rfl,rfl⟩:=rU x h' r hr
   simpa using ff x (he.ew.mem hx) (.int .i64 0)
  ·intro x h r hr
   obtain⟨rfl,rfl⟩:=rU x h r hr
   split
   ·exact .inl ⟨_,_,rfl⟩
   ·exact .inl ⟨_,_,rfl⟩
  ·by_cases hf:yy (Dd en) e.list=0
   ·simp[hf,CX,Ai,yu,yJ]
   ·simp[hf,CX,yu,yJ]
 ·simp[Jf,hc,hz,yv,Ai,yu,yJ]
end
def zK (t:Nat) (a b e:Int):PV := .iface t (.agg [.int .i64 a,.int .i64 b,.int .i64 e])
def yx (t:Nat) (a b e:Int):Out:=if e=0 then .val (.tuple []) else .boom (zK t a b e)
theorem zc (t:Nat) (a b:Int):yx t a b 0 = .val (.tuple []):=rfl
theorem Bj {t:Nat} {a b e:Int} (h:e≠0):yx t a b e = .boom (zK t a b e):=ae h
def yS (en:List Enum) (a b:Int):PObj := .cells [.list false (en.map yG),.int .i64 a,.int .i64 b]
section
variable {L:Nat→Option PFunc} (hL:∀k f,LS k=some f→L k=some f)
include hL
variable (en:List Enum) (n:Nat) (a b:Int) (h:List PObj) (hn:h[n]? = some (yS en a b))
include hn
theorem Ex (e:Int):yI L 49 [.ptr n 0,.bool true,.int .i64 e] h=some (.val (.tuple []),h):=by
 have _:=hn
 refine Bi (hL 49 _ rfl) rfl ?_
 simp[I8]
theorem D2 (e:Int):yI L 49 [.ptr n 0,.bool false,.int .i64 e] h=some (.boom (zK 2 a b e),h):=by
 refine Bi (hL 49 _ rfl) rfl ?_
 simp[I8,hn,yS,zK]
theorem HY (s:Str):yI L 89 [.ptr n 0,.str s] h=some (yx 2 a b (BS s),h):=by
 have hi:=RB hL s []
 have hT:=Ex hL en n a b h hn
 have hF:=D2 hL en n a b h hn
 refine Bi (hL 89 _ rfl) rfl ?_
 unfold BS
 cases hs:CU s<;>rw[hs] at hi<;>simp[Lu,hi,hT,hF,yx]
theorem Ns (e:Int):yI L 93 [.ptr n 0,.int .i64 e] h=some (yx 2 a b e,h):=by
 have hT:=Ex hL en n a b h hn
 have hF:=D2 hL en n a b h hn
 refine Bi (hL 93 _ rfl) rfl ?_
 by_cases he:e=0
 ·subst he; simp[Je,hT,yx]
 ·simp[Je,hF,he,yx]
theorem c64 (u:Enum) (hu:u.tags.length≤1100000):yI L 50 [.ptr n 0,yG u] h=some (yx 2 a b (FD u),h):=by
 have hi:=λs=>HY hL en n a b h hn s
 have hT:=Ex hL en n a b h hn
 have hF:=D2 hL en n a b h hn
 refine Bi (hL 50 _ rfl) rfl ?_
 unfold FD
 by_cases h0:BS u.name=0
 ·by_cases h1:u.tags=[]
  ·simp[FY,hi,h0,h1,hF,need,yv,yx]
  ·have lr:0<u.tags.length:=bK.2 h1
   have kN:(0:Int)<u.tags.length:=by omega
   by_cases h2:u.tags.length≤16
   ·have lu:(u.tags.length:Int)≤16:=by omega
    simp[FY,hi,h0,h1,lr,kN,h2,lu,hT,zc]
    refine Rq u.tags BS (λi (x:PV)=>[(3,x),(6,.int .i64 i)]) .dead ?_ ?_ ?_ rfl
    ·intro i dM dm x ih
     have hw:=yz i (by omega)
     simp[dM,hw,hi,dm,zc]
     simpa using ih _
    ·intro i dM dm hf x
     simp[dM,hi,Bj dm,hf]
    ·intro h0 x
     simp[h0,zc]
   ·have lu:¬(u.tags.length:Int)≤16:=by omega
    simp[FY,hi,h0,h1,lr,kN,h2,lu,hT,hF,need,yv,yx]
 ·simp[FY,hi,h0,yv,yx]
theorem HZ (l:List Decl) (hl:l.length≤1100000) (hd:∀d∈l,DW d) (port:Bool) (o:Bool):yI L 90 [.ptr n 0,.list o (l.map yw),.bool port] h=some (yx 2 a b (yy (A7 en port) l),h):=by
 have hi:=λs=>HY hL en n a b h hn s
 have hT:=Ex hL en n a b h hn
 have hF:=D2 hL en n a b h hn
 refine Bi (hL 90 _ rfl) rfl ?_
 simp[Lv]
 refine BR l (A7 en port) (λi (x:(PV×PV×PV×PV×PV)×Nat)=>[(3,x.1.1),(4,x.1.2.1),(8,x.1.2.2.1),(9,x.1.2.2.2.1),(10,x.1.2.2.2.2),(7,.int .i64 i)]) (λ_ x=>x.2) (λ_ _=>h) ((.dead,.dead,.dead,.dead,.dead),0) ?_ ?_ ?_ rfl rfl rfl
 ·intro i dM dm x ih
  have hw:=yz i (by omega)
  have mF:=hd _ (ak dM)
  have dH:=mF.clock
  have hs:=JR hL en l[i].type mF.type false []
  unfold A7 at dm
  rw[Bt,Bt,Bt,Bt,Co (by decide),Co (by decide),Co (by decide),ay,ay] at dm
  obtain⟨k1,k2,k3,k4,k5⟩:=dm
  have k2i:(0:Int)<Aj en l[i].type:=by omega
  have k4i:(l[i].clock.length:Int)≤4:=by omega
  have fL:(!port||decide (l[i].clock=[]))=true:=k3
  have hE:∀o∈l[i].clock,CY en o=0:=BW.1 k5
  cases port with
  | false =>
    simp[dM,hi,k1,zc,hn,yS,hs,k2,k2i,k4,k4i,hT]
    refine BR l[i].clock (CY en) (λj (y:PV×Nat)=>[(10,.int .i64 j),(4,y.1)]) (λ_ y=>y.2) (λ_ _=>h) (x.1.2.1,x.2+1) ?_ ?_ ?_ rfl rfl rfl
    ·intro j hj dF y ih2
     have iz:=yz j (by omega)
     have fX:=HX hL en l[i].clock[j].t l[i].clock[j].tag (mF.on _ (ak hj)) false []
     unfold CY at dF
     rw[Bt,Co (by decide),ap,ay] at dF
     obtain⟨q1,q2,q3⟩:=dF
     rw[q3] at fX
     simp[hj,hi,q1,zc,tf q2,hn,yS,fX,hT,iz]
     simpa using ih2 (_,_)
    ·intro j hj dF _ y
     exact absurd (hE _ (ak hj)) dF
    ·intro _ y
     simp[hw]
     simpa using ih ((_,_,_,_,_),_)
  | true =>
    have km:l[i].clock=[]:=by simpa using fL
    simp[dM,hi,k1,zc,hn,yS,hs,k2,k2i,k4,k4i,hT,tf km]
    refine BR l[i].clock (CY en) (λj (y:PV×Nat)=>[(10,.int .i64 j),(4,y.1)]) (λ_ y=>y.2) (λ_ _=>h) (x.1.2.1,x.2+1) ?_ ?_ ?_ rfl rfl rfl
    ·intro j hj dF y ih2
     have iz:=yz j (by omega)
     have fX:=HX hL en l[i].clock[j].t l[i].clock[j].tag (mF.on _ (ak hj)) false []
     unfold CY at dF
     rw[Bt,Co (by decide),ap,ay] at dF
     obtain⟨q1,q2,q3⟩:=dF
     rw[q3] at fX
     simp[hj,hi,q1,zc,tf q2,hn,yS,fX,hT,iz]
     simpa using ih2 (_,_)
    ·intro j hj dF _ y
     exact absurd (hE _ (ak hj)) dF
    ·intro _ y
     simp[hw]
     simpa using ih ((_,_,_,_,_),_)
 ·intro i dM dm hf x
  have mF:=hd _ (ak dM)
  have dH:=mF.clock
  have hs:=JR hL en l[i].type mF.type false []
  rw[hf]
  unfold A7 at dm ⊢
  by_cases k1:BS l[i].name=0
  ·by_cases k2:0<Aj en l[i].type
   ·have k2i:(0:Int)<Aj en l[i].type:=by omega
    by_cases k3:port=true∧l[i].clock≠[]
    ·have mf:¬l[i].clock=[]:=k3.2
     have km:¬(l[i].clock.length:Int)=0:=by
      intro e; exact k3.2 (bD.1 (by omega))
     rw[k3.1]
     simp[dM,hi,k1,zc,hn,yS,hs,k2,k2i,hT,hF,mf,km,need,yv,yx]
    ·by_cases k4:l[i].clock.length≤4
     ·have k4i:(l[i].clock.length:Int)≤4:=by omega
      have fL:(!port||decide (l[i].clock=[]))=true:=by
       cases port with
       | false=>rfl
       | true=>simpa using k3
      have hE:yy (CY en) l[i].clock≠0:=by
       intro e; apply dm
       simp[k1,k2,fL,k4,e]
      have dZ:yv (BS l[i].name) (yv (need (decide (0<Aj en l[i].type)) 10) (yv (need (!port||decide (l[i].clock=[])) 11) (yv (need (decide (l[i].clock.length≤4)) 3) (yy (CY en) l[i].clock))))=yy (CY en) l[i].clock:=by
       simp[k1,k2,fL,k4]
      rw[dZ]
      cases port with
      | true =>
        have km:l[i].clock=[]:=by simpa using fL
        rw[km] at hE; exact absurd rfl hE
      | false=>
      simp[dM,hi,k1,zc,hn,yS,hs,k2,k2i,k4,k4i,hT]
      refine BR l[i].clock (CY en) (λj (y:PV×Nat)=>[(10,.int .i64 j),(4,y.1)]) (λ_ y=>y.2) (λ_ _=>h) (x.1.2.1,x.2+1) ?_ ?_ ?_ rfl rfl rfl
      ·intro j hj dF y ih2
       have iz:=yz j (by omega)
       have fX:=HX hL en l[i].clock[j].t l[i].clock[j].tag (mF.on _ (ak hj)) false []
       unfold CY at dF
       rw[Bt,Co (by decide),ap,ay] at dF
       obtain⟨q1,q2,q3⟩:=dF
       rw[q3] at fX
       simp[hj,hi,q1,zc,tf q2,hn,yS,fX,hT,iz]
       simpa using ih2 (_,_)
      ·intro j hj dF jD y
       have fX:=HX hL en l[i].clock[j].t l[i].clock[j].tag (mF.on _ (ak hj)) false []
       rw[jD]
       unfold CY
       by_cases q1:BS l[i].clock[j].name=0
       ·by_cases q2:l[i].clock[j].t=2
        ·simp[hj,hi,q1,zc,tf q2,hF,need,yv,yx]
        ·cases q3:Ew en l[i].clock[j].t l[i].clock[j].tag with
         | true=>exfalso; apply dF; simp[CY,q1,q2,q3]
         | false=>rw[q3] at fX; simp[hj,hi,q1,zc,tf q2,hn,yS,fX,hF,need,yv,yx]
       ·simp[hj,hi,Bj q1,q1,yv]
      ·intro hz y
       exact absurd hz hE
     ·have k4i:¬(l[i].clock.length:Int)≤4:=by omega
      have mf:¬l[i].clock=[]:=by intro e; rw[e] at k4; simp at k4
      have iM:port=false:=by
       cases port with
       | false=>rfl
       | true=>exact absurd ⟨rfl,mf⟩ k3
      rw[iM]
      simp[dM,hi,k1,zc,hn,yS,hs,k2,k2i,k4,k4i,hT,hF,need,yv,yx]
   ·have k2i:¬(0:Int)<Aj en l[i].type:=by omega
    simp[dM,hi,k1,zc,hn,yS,hs,k2,k2i,hF,need,yv,yx]
  ·simp[dM,hi,Bj k1,k1,yv]
 ·intro h0 x
  simp[h0,zc]
end
section
variable {L:Nat→Option PFunc} (hL:∀k f,LS k=some f→L k=some f)
include hL
section
variable (en:List Enum) (n:Nat) (a b:Int) (h:List PObj) (hn:h[n]? = some (yS en a b))
include hn
theorem Ia (q:Eqn) (hq:QW q):yI L 91 [.ptr n 0,yZ q] h=some (yx 2 a b (BQ en q),h):=by
 have hi:=λs=>HY hL en n a b h hn s
 have hr:=λe=>Ns hL en n a b h hn e
 have hT:=Ex hL en n a b h hn
 have hF:=D2 hL en n a b h hn
 obtain⟨h',hx⟩:=FC hL en q.right hq.right false
 have tc:=hq.left
 refine Bi (hL 91 _ rfl) rfl ?_
 unfold BQ
 by_cases h1:q.left=[]
 ·simp[Hd,h1,hF,need,yv,yx]
 have lr:0<q.left.length:=bK.2 h1
 have kN:(0:Int)<q.left.length:=by omega
 by_cases h2:q.left.length≤64
 ·have lu:(q.left.length:Int)≤64:=by omega
  simp[Hd,h1,lr,kN,h2,lu,hT]
  refine Rq q.left BS (λi (x:PV)=>[(3,x),(6,.int .i64 i)]) .dead ?_ ?_ ?_ rfl
  ·intro i dM dm x ih
   have hw:=yz i (by omega)
   simp[dM,hw,hi,dm,zc]
   simpa using ih _
  ·intro i dM dm hf x
   simp[dM,hi,Bj dm,hf,De dm]
  ·intro h0 x
   rw[h0,Bw]
   by_cases h3:CE en q.right=0
   ·rw[h3] at hx
    by_cases h4:q.left.length=1
    ·have rV:(q.left.length:Int)=1:=by omega
     simp[hn,yS,hx,h3,hr,zc,tf h4,tf rV,hT]
    ·have rV:¬(q.left.length:Int)=1:=by omega
     by_cases h5:q.right.kind=10
     ·simp[hn,yS,hx,h3,hr,zc,tf h4,tf rV,tf h5,hT]
     ·simp[hn,yS,hx,h3,hr,zc,tf h4,tf rV,tf h5,hF,need,yx]
   ·simp[hn,yS,hx,hr,Bj h3,De h3]
 ·have lu:¬(q.left.length:Int)≤64:=by omega
  simp[Hd,h1,lr,kN,h2,lu,hT,hF,need,yv,yx]
theorem JS (l:List Trn) (hl:l.length≤1100000) (ht:∀t∈l,XW t.cond) (m:Nat) (strong:Bool) (o:Bool):yI L 121 [.ptr n 0,.list o (l.map zF),.int .i64 m,.bool strong] h=some (yx 2 a b (yy (FE en m strong) l),h):=by
 have hr:=λe=>Ns hL en n a b h hn e
 have hT:=Ex hL en n a b h hn
 have hF:=D2 hL en n a b h hn
 refine Bi (hL 121 _ rfl) rfl ?_
 simp[LE]
 refine BR l (FE en m strong) (λi (x:PV×Nat)=>[(4,x.1),(7,.int .i64 i)]) (λ_ x=>x.2) (λ_ _=>h) (.dead,0) ?_ ?_ ?_ rfl rfl rfl
 ·intro i dM dm x ih
  have hw:=yz i (by omega)
  have nS:=ht _ (ak dM)
  obtain⟨h',hx⟩:=FC hL en l[i].cond nS false
  obtain⟨h'',hs⟩:=RQ hL l[i].cond nS.ew
  unfold FE at dm
  rw[Bt,Bt,Co (by decide),Co (by decide),ay] at dm
  obtain⟨⟨k1,k2⟩,k3,k4⟩:=dm
  rw[k3] at hx
  cases strong with
  | false =>
    simp[dM,hw,k1,k2,hn,yS,hx,hr,zc,hT]
    simpa using ih (_,_)
  | true =>
    have k4:FB l[i].cond=true:=by simpa using k4
    rw[k4] at hs
    simp[dM,hw,k1,k2,hn,yS,hx,hr,zc,hs,hT]
    simpa using ih (_,_)
 ·intro i dM dm hf x
  have nS:=ht _ (ak dM)
  obtain⟨h',hx⟩:=FC hL en l[i].cond nS false
  obtain⟨h'',hs⟩:=RQ hL l[i].cond nS.ew
  rw[hf]
  unfold FE at dm ⊢
  by_cases k1:0≤l[i].to
  ·by_cases k2:l[i].to<m
   ·by_cases k3:CE en l[i].cond=0
    ·rw[k3] at hx
     cases strong with
     | false=>exfalso; apply dm; simp[k1,k2,k3]
     | true =>
       cases k4:FB l[i].cond with
       | true=>exfalso; apply dm; simp[k1,k2,k3,k4]
       | false=>rw[k4] at hs; simp[dM,k1,k2,hn,yS,hx,hr,zc,hs,hT,hF,k3,need,yv,yx]
    ·simp[dM,k1,k2,hn,yS,hx,hr,Bj k3,hT,need,yv,k3]
   ·simp[dM,k1,k2,hF,need,yv,yx]
  ·simp[dM,k1,hF,need,yv,yx]
 ·intro h0 x
  simp[h0,zc]
theorem RR:∀(d:Nat),d≤3→∀au:Bu,au.length≤1100000→(∀x∈au,SW x)→yI L 92 [.ptr n 0,zk au,.int .i64 (3 - (d:Int))] h=some (yx 2 a b (D4 en d au),h)
 | 0, _, au, dS, ha => by
   have hF:=D2 hL en n a b h hn
   refine Bi (hL 92 _ rfl) rfl ?_
   simp[F3,hF,D4,yx]
 | d + 1, hd, au, dS, ha => by
   have ih:=RR d (by omega)
   have hi:=λs=>HY hL en n a b h hn s
   have hT:=Ex hL en n a b h hn
   have hF:=D2 hL en n a b h hn
   have td:(3:Int) - ((d+1:Nat):Int)=2 - (d:Int):=by omega
   rw[td]
   have dc:2 - (d:Int)<3:=by omega
   have qq:IntKind.i64.wrap (2 - (d:Int)+1)=3 - (d:Int):=by rw[Fq]<;>omega
   refine Bi (hL 92 _ rfl) rfl ?_
   simp only[D4]
   by_cases h1:au=[]
   ·simp[F3,dc,hT,hF,h1,need,yv,yx]
   have lr:0<au.length:=bK.2 h1
   have kN:(0:Int)<au.length:=by omega
   by_cases h2:au.length≤8
   ·have lu:(au.length:Int)≤8:=by omega
    simp[F3,dc,hT,h1,lr,kN,h2,lu]
    refine BR au (JT en au.length (D4 en d)) (λi (x:(PV×PV×PV×PV×PV×PV×PV×PV×PV)×Nat)=>[(4,x.1.1),(5,x.1.2.1),(6,x.1.2.2.1),(9,.int .i64 i),(10,x.1.2.2.2.1),(11,x.1.2.2.2.2.1),(12,x.1.2.2.2.2.2.1),(13,x.1.2.2.2.2.2.2.1),(14,x.1.2.2.2.2.2.2.2.1),(15,x.1.2.2.2.2.2.2.2.2)]) (λ_ x=>x.2) (λ_ _=>h) ((.dead,.dead,.dead,.dead,.dead,.dead,.dead,.dead,.dead),1) ?_ ?_ ?_ rfl rfl rfl
    ·intro i dM dm x ih2
     have hw:=yz i (by omega)
     have hs:=ha _ (ak dM)
     have it:=HZ hL en n a b h hn au[i].locals hs.locals hs.ls false false
     have ic:=JS hL en n a b h hn au[i].unl hs.unl hs.us au.length true false
     have mg:=JS hL en n a b h hn au[i].til hs.til hs.ts au.length false false
     have eF:=hs.eqs
     have nO:=hs.autos
     unfold JT at dm
     rw[Bt,Bt,Bt,Bt,Bt,Bt,Co (by decide),ay] at dm
     obtain⟨k0,⟨c1,c2,c3,c4,c5⟩,k1,k2,k3,k4,k5⟩:=dm
     rw[k1] at it; rw[k4] at ic; rw[k5] at mg
     have c1i:(au[i].locals.length:Int)≤256:=by omega
     have c2i:(au[i].eqs.length:Int)≤256:=by omega
     have c3i:(au[i].autos.length:Int)≤8:=by omega
     have c45:(if au[i].unl.length<au[i].til.length then(au[i].til.length:Int) else(au[i].unl.length:Int))≤4:=by split<;>omega
     have e2:=BW.1 k2
     have e3:=BW.1 k3
     simp[dM,hi,k0,zc,c1,c2,c3,c1i,c2i,c3i,c45,hT,it]
     refine BR au[i].eqs (BQ en) (λj (y:PV×Nat)=>[(5,y.1),(12,.int .i64 j)]) (λ_ y=>y.2) (λ_ _=>h) (x.1.2.1,x.2+1) ?_ ?_ ?_ rfl rfl rfl
     ·intro j hj dF y ih3
      have iz:=yz j (by omega)
      have hc:=Ia hL en n a b h hn au[i].eqs[j] (hs.es _ (ak hj))
      rw[dF] at hc
      simp[hj,iz,hc,zc]
      simpa using ih3 (_,_)
     ·intro j hj dF _ y
      exact absurd (e2 _ (ak hj)) dF
     ·intro _ y
      simp
      refine BR au[i].autos (D4 en d) (λj (z:PV×Nat)=>[(6,z.1),(15,.int .i64 j)]) (λ_ z=>z.2) (λ_ _=>h) (x.1.2.2.1,y.2) ?_ ?_ ?_ rfl rfl rfl
      ·intro j hj dF z ih3
       have iz:=yz j (by omega)
       have hc:=ih au[i].autos[j] (hs.as _ (ak hj)) (hs.ss _ (ak hj))
       rw[dF] at hc
       simp[hj,iz,qq,hc,zc]
       simpa using ih3 (_,_)
      ·intro j hj dF _ z
       exact absurd (e3 _ (ak hj)) dF
      ·intro _ z
       simp[ic,mg,zc,hw]
       simpa using ih2 ((_,_,_,_,_,_,_,_,_),_)
    ·intro i dM dm hf x
     have hs:=ha _ (ak dM)
     have it:=HZ hL en n a b h hn au[i].locals hs.locals hs.ls false false
     have ic:=JS hL en n a b h hn au[i].unl hs.unl hs.us au.length true false
     have mg:=JS hL en n a b h hn au[i].til hs.til hs.ts au.length false false
     have eF:=hs.eqs
     have nO:=hs.autos
     rw[hf]
     unfold JT at dm ⊢
     by_cases k0:BS au[i].name=0
     ·rw[k0,Bw] at dm ⊢
      by_cases c1:au[i].locals.length≤256
      rotate_left
      ·have c1i:¬(au[i].locals.length:Int)≤256:=by omega
       simp[dM,hi,k0,zc,c1,c1i,hF,need,yv,yx]
      have c1i:(au[i].locals.length:Int)≤256:=by omega
      by_cases c2:au[i].eqs.length≤256
      rotate_left
      ·have c2i:¬(au[i].eqs.length:Int)≤256:=by omega
       simp[dM,hi,k0,zc,c1,c1i,c2,c2i,hF,need,yv,yx]
      have c2i:(au[i].eqs.length:Int)≤256:=by omega
      by_cases c3:au[i].autos.length≤8
      rotate_left
      ·have c3i:¬(au[i].autos.length:Int)≤8:=by omega
       simp[dM,hi,k0,zc,c1,c1i,c2,c2i,c3,c3i,hF,need,yv,yx]
      have c3i:(au[i].autos.length:Int)≤8:=by omega
      by_cases c4:au[i].unl.length≤4∧au[i].til.length≤4
      rotate_left
      ·have c45:¬(if au[i].unl.length<au[i].til.length then(au[i].til.length:Int) else(au[i].unl.length:Int))≤4:=by split<;>omega
       have c4n:¬(au[i].unl.length≤4∧au[i].til.length≤4):=c4
       simp[dM,hi,k0,zc,c1,c1i,c2,c2i,c3,c3i,c45,hF,need,yv,yx,c4n]
      have c45:(if au[i].unl.length<au[i].til.length then(au[i].til.length:Int) else(au[i].unl.length:Int))≤4:=by split<;>omega
      have lv:need (decide (au[i].locals.length≤256∧au[i].eqs.length≤256∧au[i].autos.length≤8∧au[i].unl.length≤4∧au[i].til.length≤4)) 3=0:=by
       rw[Co (by decide),ay]; exact⟨c1,c2,c3,c4⟩
      rw[lv,Bw] at dm ⊢
      by_cases k1:yy (A7 en false) au[i].locals=0
      rotate_left
      ·simp[dM,hi,k0,zc,c1,c2,c3,c1i,c2i,c3i,c45,hT,it,Bj k1,De k1]
      rw[k1,Bw] at dm ⊢
      rw[k1] at it
      simp[dM,hi,k0,zc,c1,c2,c3,c1i,c2i,c3i,c45,hT,it]
      refine BR au[i].eqs (BQ en) (λj (y:PV×Nat)=>[(5,y.1),(12,.int .i64 j)]) (λ_ y=>y.2) (λ_ _=>h) (x.1.2.1,x.2+1) ?_ ?_ ?_ rfl rfl rfl
      ·intro j hj dF y ih3
       have iz:=yz j (by omega)
       have hc:=Ia hL en n a b h hn au[i].eqs[j] (hs.es _ (ak hj))
       rw[dF] at hc
       simp[hj,iz,hc,zc]
       simpa using ih3 (_,_)
      ·intro j hj dF jD y
       have hc:=Ia hL en n a b h hn au[i].eqs[j] (hs.es _ (ak hj))
       rw[jD]
       simp[hj,hc,Bj dF,De dF]
      ·intro k2 y
       rw[k2,Bw] at dm ⊢
       simp
       refine BR au[i].autos (D4 en d) (λj (z:PV×Nat)=>[(6,z.1),(15,.int .i64 j)]) (λ_ z=>z.2) (λ_ _=>h) (x.1.2.2.1,y.2) ?_ ?_ ?_ rfl rfl rfl
       ·intro j hj dF z ih3
        have iz:=yz j (by omega)
        have hc:=ih au[i].autos[j] (hs.as _ (ak hj)) (hs.ss _ (ak hj))
        rw[dF] at hc
        simp[hj,iz,qq,hc,zc]
        simpa using ih3 (_,_)
       ·intro j hj dF jD z
        have hc:=ih au[i].autos[j] (hs.as _ (ak hj)) (hs.ss _ (ak hj))
        rw[jD]
        simp[hj,qq,hc,Bj dF,De dF]
       ·intro k3 z
        rw[k3,Bw] at dm ⊢
        by_cases k4:yy (FE en au.length true) au[i].unl=0
        ·rw[k4,Bw] at dm ⊢
         rw[k4] at ic
         simp[ic,mg,zc,Bj dm]
        ·simp[ic,Bj k4,De k4]
     ·simp[dM,hi,Bj k0,De k0]
    ·intro h0 x
     simp[h0,zc]
   ·have lu:¬(au.length:Int)≤8:=by omega
    simp[F3,dc,hT,hF,h1,lr,kN,h2,lu,need,yv,yx]
end
end
end PI.Sc
set_option maxRecDepth 100000
set_option linter.unusedSimpArgs false
set_option linter.unusedVariables false
namespace PI
section
variable {L:Nat→Option PFunc} {V l:List PV} {g:Nat} {h:List PObj}
def Gm (L:Nat→Option PFunc) (f:PFunc) (P:PV×List PObj→Prop) (e:PExit) (st:St):Prop:=∃v h',DA L f (.val v,h') e st∧P (v,h')
@[simp] theorem b6W (f:PFunc) (P:PV×List PObj→Prop):Gm L f P .normal ⟨V,l,g,h⟩=∃v,zS ⟨V,l,g,h⟩ f.results=some v∧P (v,zh V f.results h):=by
 simp only[Gm,RS,eq_iff_iff]
 constructor
 ·rintro⟨v,h',⟨v',h1,h2⟩,h3⟩
  simp only[ac,Out.val.injEq] at h2
  obtain⟨rfl,rfl⟩:=h2
  exact⟨v,h1,h3⟩
 ·rintro⟨v,h1,h2⟩; exact⟨v,_,⟨v,h1,rfl⟩,h2⟩
@[simp] theorem d0U (f:PFunc) (P:PV×List PObj→Prop):Gm L f P .ret ⟨V,l,g,h⟩=∃v,zS ⟨V,l,g,h⟩ f.results=some v∧P (v,zh V f.results h):=b6W (L:=L) f P
@[simp] theorem c66 (f:PFunc) (P:PV×List PObj→Prop) (kd:Nat) (cs:List PV) (p:Option PV):Gm L f P (.after kd cs p) ⟨V,l,g,h⟩=(f.code.NR=true∧∃h1 x,Ay L kd (p.getD .nilIface::cs) h=some h1∧zS ⟨V,l,g,h1⟩ f.results=some x∧P (x,zh V f.results h1)):=by
 simp only[Gm,c1x,eq_iff_iff]
 constructor
 ·rintro⟨v,h',⟨h0,h1,x,h2,h3,h4⟩,h5⟩
  simp only[ac,Out.val.injEq] at h4
  obtain⟨rfl,rfl⟩:=h4
  exact⟨h0,h1,v,h2,h3,h5⟩
 ·rintro⟨h0,h1,x,h2,h3,h5⟩; exact⟨x,_,⟨h0,h1,x,h2,h3,rfl⟩,h5⟩
theorem Pn {k:Nat} {f:PFunc} {args:List PV} {hp:List PObj} {P:PV×List PObj→Prop} (hf:L k=some f) (hl:args.length=f.params)
  (hw:wpL L f.code ⟨args.map dem++List.replicate (f.nv - f.params) .dead,[],0,hp⟩ (Gm L f P)) (hs:f.split=false:=by rfl) (gm:f.prim=none:=by rfl) (hr:f.code.isRound=false:=by rfl):∃r,ym L k args hp=some r∧P r:=by
 rw[D5] at hw
 obtain⟨e,st,h1,v,h',h2,h3⟩:=hw
 exact⟨(v,h'),c3o hf hl (D5.2 ⟨e,st,h1,h2⟩) hs gm hr,h3⟩
def Ff (L:Nat→Option PFunc) (f:PFunc) (P:Out×List PObj→Prop) (e:PExit) (st:St):Prop:=∃r,DA L f r e st∧P r
@[simp] theorem b8F (f:PFunc) (P:Out×List PObj→Prop):Ff L f P .normal ⟨V,l,g,h⟩=∃v,zS ⟨V,l,g,h⟩ f.results=some v∧P (.val v,zh V f.results h):=by
 simp only[Ff,RS,eq_iff_iff]
 constructor
 ·rintro⟨r,⟨v,h1,rfl⟩,h2⟩; exact⟨v,h1,h2⟩
 ·rintro⟨v,h1,h2⟩; exact⟨_,⟨v,h1,rfl⟩,h2⟩
@[simp] theorem d2P (f:PFunc) (P:Out×List PObj→Prop):Ff L f P .ret ⟨V,l,g,h⟩=∃v,zS ⟨V,l,g,h⟩ f.results=some v∧P (.val v,zh V f.results h):=b8F (L:=L) f P
@[simp] theorem d0V (f:PFunc) (P:Out×List PObj→Prop) (v:PV):Ff L f P (.boom v) ⟨V,l,g,h⟩=P (.boom v,h):=by
 simp only[Ff,c3n,eq_iff_iff]
 exact⟨fun⟨r,h1,h2⟩=>h1▸h2,λh2=>⟨_,rfl,h2⟩⟩
theorem DP {k:Nat} {f:PFunc} {args:List PV} {hp:List PObj} {P:Out×List PObj→Prop} (hf:L k=some f) (hl:args.length=f.params)
  (hw:wpL L f.code ⟨args.map dem++List.replicate (f.nv - f.params) .dead,[],0,hp⟩ (Ff L f P)) (hs:f.split=false:=by rfl) (gm:f.prim=none:=by rfl) (hr:f.code.isRound=false:=by rfl):∃r,yI L k args hp=some r∧P r:=by
 rw[D5] at hw
 obtain⟨e,st,h1,r,h2,h3⟩:=hw
 exact⟨r,Bi hf hl (D5.2 ⟨e,st,h1,h2⟩) hs gm hr,h3⟩
end
end PI
namespace PI.Sc
open Go (IntKind BinOp UnOp)
open Short
def zW (t:Nat):Option Bad→Out
 | none => .val (.tuple [])
 | some b => .boom (zK t b.node b.eq b.err)
section
variable {L:Nat→Option PFunc} (hL:∀k f,LS k=some f→L k=some f)
include hL
theorem RT (en:List Enum) (n:Nat) (a b:Int) (h:List PObj) (hn:h[n]? = some (yS en a b)) (i:Nat) (nd:Node) (im:NW nd):∃k:Int,yI L 51 [.ptr n 0,.int .i64 i,yL nd] h=some (zW 2 (At en nd i),h.set n (yS en i k)):=by
 suffices H:∃r,yI L 51 [.ptr n 0,.int .i64 i,yL nd] h=some r∧∃k:Int,r=(zW 2 (At en nd i),h.set n (yS en i k)) by
  obtain⟨r,h1,k,rfl⟩:=H
  exact⟨k,h1⟩
 refine DP (hL 51 _ rfl) rfl ?_
 have dc:n<h.length:=(ah.1 hn).1
 have fk:∀k:Int,PObj.cells [.list false (en.map yG),.int .i64 i,.int .i64 k]=yS en i k:=λ_=>rfl
 have kq:∀k:Int,(h.set n (yS en i k))[n]? = some (yS en i k):=λk=>by simp[dc]
 have hi:=λs=>HY hL en n i (-1) (h.set n (yS en i (-1))) (kq _) s
 have hr:=λe=>Ns hL en n i (-1) (h.set n (yS en i (-1))) (kq _) e
 have hT:=Ex hL en n i (-1) (h.set n (yS en i (-1))) (kq _)
 have hF:=D2 hL en n i (-1) (h.set n (yS en i (-1))) (kq _)
 have qt:=HZ hL en n i (-1) (h.set n (yS en i (-1))) (kq _) nd.ins im.ins im.is true false
 have rW:=HZ hL en n i (-1) (h.set n (yS en i (-1))) (kq _) nd.outs im.outs im.os true false
 have jT:=HZ hL en n i (-1) (h.set n (yS en i (-1))) (kq _) nd.locals im.locals im.ls false false
 have jo:=λ(au:Bu) (h1:au.length≤1100000) (h2:∀x∈au,SW x)=>RR hL en n i (-1) (h.set n (yS en i (-1))) (kq _) 3 (by omega) au h1 h2
 have nf:Bg en nd≠0→At en nd i=some ⟨i,-1,Bg en nd⟩:=λhh=>by unfold At; rw[af hh]
 obtain⟨RES,eS⟩:∃RES,RES=At en nd i:=⟨_,rfl⟩
 rw[← eS]
 have fD:∀e:Int,Bg en nd=e→e≠0→RES=some ⟨i,-1,e⟩:=λe h1 h2=>by rw[eS,nf (by rw[h1]; exact h2),h1]
 simp[Ll,hn,yS,yM]
 rw[fk]
 by_cases k0:BS nd.name=0
 rotate_left
 ·have:=fD (BS nd.name) (by unfold Bg; exact De k0) k0
  rw[this]
  simp[hi,Bj k0,zW]
  exact⟨-1,rfl⟩
 by_cases c12:nd.ins.length≤64∧nd.outs.length≤64
 rotate_left
 ·have hc:¬(if nd.ins.length<nd.outs.length then(nd.outs.length:Int) else(nd.ins.length:Int))≤64:=by split<;>omega
  have := fD 3 (by unfold Bg; rw [k0, Bw]; have : ¬ (nd.ins.length ≤ 64 ∧ nd.outs.length ≤ 64 ∧ nd.locals.length ≤ 256 ∧ nd.eqs.length ≤ 256 ∧ nd.autos.length ≤ 8 ∧ nd.assume.length ≤ 8 ∧ nd.ensure.length ≤ 8) := by omega
                   simp only[this,decide_false,Ib]; rfl) (by decide)
  rw[this]
  simp[hi,k0,zc,hc,hF,zW]
  exact⟨-1,rfl⟩
 have m12:(if nd.ins.length<nd.outs.length then(nd.outs.length:Int) else(nd.ins.length:Int))≤64:=by split<;>omega
 by_cases c3:nd.locals.length≤256
 rotate_left
 ·have c3i:¬(nd.locals.length:Int)≤256:=by omega
  have := fD 3 (by unfold Bg; rw [k0, Bw]; have : ¬ (nd.ins.length ≤ 64 ∧ nd.outs.length ≤ 64 ∧ nd.locals.length ≤ 256 ∧ nd.eqs.length ≤ 256 ∧ nd.autos.length ≤ 8 ∧ nd.assume.length ≤ 8 ∧ nd.ensure.length ≤ 8) := by omega
                   simp only[this,decide_false,Ib]; rfl) (by decide)
  rw[this]
  simp[hi,k0,zc,m12,c3,c3i,hF,zW]
  exact⟨-1,rfl⟩
 have c3i:(nd.locals.length:Int)≤256:=by omega
 by_cases c4:nd.eqs.length≤256
 rotate_left
 ·have c4i:¬(nd.eqs.length:Int)≤256:=by omega
  have := fD 3 (by unfold Bg; rw [k0, Bw]; have : ¬ (nd.ins.length ≤ 64 ∧ nd.outs.length ≤ 64 ∧ nd.locals.length ≤ 256 ∧ nd.eqs.length ≤ 256 ∧ nd.autos.length ≤ 8 ∧ nd.assume.length ≤ 8 ∧ nd.ensure.length ≤ 8) := by omega
                   simp only[this,decide_false,Ib]; rfl) (by decide)
  rw[this]
  simp[hi,k0,zc,m12,c3,c3i,c4,c4i,hF,zW]
  exact⟨-1,rfl⟩
 have c4i:(nd.eqs.length:Int)≤256:=by omega
 by_cases c5:nd.autos.length≤8
 rotate_left
 ·have c5i:¬(nd.autos.length:Int)≤8:=by omega
  have := fD 3 (by unfold Bg; rw [k0, Bw]; have : ¬ (nd.ins.length ≤ 64 ∧ nd.outs.length ≤ 64 ∧ nd.locals.length ≤ 256 ∧ nd.eqs.length ≤ 256 ∧ nd.autos.length ≤ 8 ∧ nd.assume.length ≤ 8 ∧ nd.ensure.length ≤ 8) := by omega
                   simp only[this,decide_false,Ib]; rfl) (by decide)
  rw[this]
  simp[hi,k0,zc,m12,c3,c3i,c4,c4i,c5,c5i,hF,zW]
  exact⟨-1,rfl⟩
 have c5i:(nd.autos.length:Int)≤8:=by omega
 by_cases c67:nd.assume.length≤8∧nd.ensure.length≤8
 rotate_left
 ·have m67:¬(if nd.assume.length<nd.ensure.length then(nd.ensure.length:Int) else(nd.assume.length:Int))≤8:=by split<;>omega
  have := fD 3 (by unfold Bg; rw [k0, Bw]; have : ¬ (nd.ins.length ≤ 64 ∧ nd.outs.length ≤ 64 ∧ nd.locals.length ≤ 256 ∧ nd.eqs.length ≤ 256 ∧ nd.autos.length ≤ 8 ∧ nd.assume.length ≤ 8 ∧ nd.ensure.length ≤ 8) := by omega
                   simp only[this,decide_false,Ib]; rfl) (by decide)
  rw[this]
  simp[hi,k0,zc,m12,c3,c3i,c4,c4i,c5,c5i,m67,hF,zW]
  exact⟨-1,rfl⟩
 have m67:(if nd.assume.length<nd.ensure.length then(nd.ensure.length:Int) else(nd.assume.length:Int))≤8:=by split<;>omega
 have lv:need (decide (nd.ins.length≤64∧nd.outs.length≤64∧nd.locals.length≤256∧nd.eqs.length≤256∧nd.autos.length≤8∧nd.assume.length≤8∧nd.ensure.length≤8)) 3=0:=by
  rw[Co (by decide),ay]; omega
 have hH:Bg en nd=yv (need (decide (nd.outs≠[])) 8) (yv (yy (A7 en true) nd.ins) (yv (yy (A7 en true) nd.outs) (yy (A7 en false) nd.locals))):=by
  unfold Bg; rw[k0,Bw,lv,Bw]
 by_cases o1:nd.outs=[]
 ·have o1p:¬0<nd.outs.length:=by simp[o1]
  have o1q:¬(0:Int)<nd.outs.length:=by omega
  have:=fD 8 (by rw[hH]; simp[o1,yv]) (by decide)
  rw[this]
  simp[hi,k0,zc,m12,c3,c3i,c4,c4i,c5,c5i,m67,hT,tf o1,o1p,o1q,hF,zW]
  exact⟨-1,rfl⟩
 have o1n:0<nd.outs.length:=bK.2 o1
 have o1i:(0:Int)<nd.outs.length:=by omega
 have fx:Bg en nd=yv (yy (A7 en true) nd.ins) (yv (yy (A7 en true) nd.outs) (yy (A7 en false) nd.locals)):=by
  rw[hH]; simp[o1]
 by_cases z1:yy (A7 en true) nd.ins=0
 rotate_left
 ·have:=fD _ (by rw[fx]; exact De z1) z1
  rw[this]
  simp[hi,k0,zc,m12,c3,c3i,c4,c4i,c5,c5i,m67,hT,o1,o1n,o1i,qt,Bj z1,zW]
  exact⟨-1,rfl⟩
 rw[z1,Bw] at fx
 rw[z1] at qt
 by_cases z2:yy (A7 en true) nd.outs=0
 rotate_left
 ·have:=fD _ (by rw[fx]; exact De z2) z2
  rw[this]
  simp[hi,k0,zc,m12,c3,c3i,c4,c4i,c5,c5i,m67,hT,o1,o1n,o1i,qt,rW,Bj z2,zW]
  exact⟨-1,rfl⟩
 rw[z2,Bw] at fx
 rw[z2] at rW
 by_cases z3:yy (A7 en false) nd.locals=0
 rotate_left
 ·have:=fD _ fx z3
  rw[this]
  simp[hi,k0,zc,m12,c3,c3i,c4,c4i,c5,c5i,m67,hT,o1,o1n,o1i,qt,rW,jT,Bj z3,zW]
  exact⟨-1,rfl⟩
 rw[z3] at jT fx
 have wQ:=im.eqs
 have gE:RES=match Bb (BQ en) nd.eqs 0 with
  | some (k,e)=>some ⟨i,k,e⟩
  | none=>if B6 en nd≠0 then some ⟨i,-1,B6 en nd⟩ else none:=by
  rw[eS]; unfold At; rw[ae (by simpa using fx)]<;>rfl
 clear fD nf eS
 simp[hi,k0,zc,m12,c3,c3i,c4,c4i,c5,c5i,m67,hT,o1,o1n,o1i,qt,rW,jT]
 refine Nt nd.eqs (λ_ q=>decide (BQ en q=0)) (λj (x:(PV×PV)×Nat)=>[(4,x.1.1),(5,x.1.2),(11,.int .i64 j)]) (λ_ x=>x.2) (λj _=>h.set n (yS en i ((j:Int) - 1))) ((.dead,.dead),1) ?_ ?_ ?_ rfl rfl rfl
 ·intro j hj dm x ih
  have hw:=yz j (by omega)
  rw[ay] at dm
  have hc:=Ia hL en n i j (h.set n (yS en i j)) (kq _) nd.eqs[j] (im.es _ (ak hj))
  rw[dm] at hc
  have ih:=λy=>ih y
  rw[show ((j+1:Nat):Int) - 1=j by omega] at ih
  have mG:=fk j
  simp[hj,dc,yS,Ai]
  simp only[mG]
  simp[hc,zc,hw]
  simpa using ih ((_,_),_)
 ·intro j hj dm gA x
  rw[cu] at dm
  have hc:=Ia hL en n i j (h.set n (yS en i j)) (kq _) nd.eqs[j] (im.es _ (ak hj))
  have pD:=RU (f:=BQ en) (j:=0) hj dm (λk hk h1=>by have:=gA k hk h1; simpa using this)
  rw[pD,aU] at gE
  simp only at gE
  rw[gE]
  have mG:=fk j
  simp[hj,dc,yS,Ai]
  simp only[mG]
  simp[hc,Bj dm,zW]
  exact⟨j,rfl⟩
 ·intro dT x
  have pD:Bb (BQ en) nd.eqs 0=none:=JK.2 (λq hq=>by obtain⟨k,hk,rfl⟩:=bC.1 hq; simpa using dT k hk)
  rw[pD] at gE
  simp only at gE
  have mG:=fk (-1)
  simp[dc,yS,Ai]
  simp only[mG]
  have las:=im.assume
  have lgs:=im.ensure
  refine BR nd.autos (D4 en 3) (λj (y:PV×Nat)=>[(6,y.1),(14,.int .i64 j)]) (λ_ y=>y.2) (λ_ _=>h.set n (yS en i (-1))) (.dead,x.2) ?_ ?_ ?_ rfl rfl rfl
  ·intro j hj dm y ih
   have hw:=yz j (by have:=im.autos.len; omega)
   have hc:=jo nd.autos[j] (im.autos.as _ (ak hj)) (im.autos.ss _ (ak hj))
   rw[dm] at hc
   simp at hc
   simp[hj,hc,zc,hw]
   simpa using ih (_,_)
  ·intro j hj dm hf y
   have hc:=jo nd.autos[j] (im.autos.as _ (ak hj)) (im.autos.ss _ (ak hj))
   have ht:B6 en nd=D4 en 3 nd.autos[j]:=by unfold B6; rw[hf]; exact De dm
   rw[ht,af dm] at gE
   rw[gE]
   simp at hc
   simp[hj,hc,Bj dm,zW]
   exact⟨-1,rfl⟩
  ·intro e1 y
   simp
   refine BR nd.assume (CE en) (λj (y:PV×Nat)=>[(7,y.1),(17,.int .i64 j)]) (λ_ y=>y.2) (λ_ _=>h.set n (yS en i (-1))) (.dead,y.2) ?_ ?_ ?_ rfl rfl rfl
   ·intro j hj dm z ih
    have hw:=yz j (by omega)
    obtain⟨h',hx⟩:=FC hL en nd.assume[j] (im.as _ (ak hj)) false
    rw[dm] at hx
    have eF:yu 1 false [PV.list false (en.map yG),.int .i64 i,.int .i64 (-1)] 0=some (.list false (en.map yG)):=rfl
    simp[hj,dc,hw]
    simp only[yS]
    simp[hx]
    simp only[mG]
    simp[hr,zc,hw]
    simpa using ih (_,_)
   ·intro j hj dm hf z
    obtain⟨h',hx⟩:=FC hL en nd.assume[j] (im.as _ (ak hj)) false
    have ht:B6 en nd=CE en nd.assume[j]:=by unfold B6; rw[e1,Bw,hf]; exact De dm
    rw[ht,af dm] at gE
    rw[gE]
    simp[hj,dc]
    simp only[yS]
    simp[hx]
    simp only[mG]
    simp[hr,Bj dm,zW]
    exact⟨-1,rfl⟩
   ·intro e2 z
    simp
    refine BR nd.ensure (CE en) (λj (y:PV×Nat)=>[(8,y.1),(20,.int .i64 j)]) (λ_ y=>y.2) (λ_ _=>h.set n (yS en i (-1))) (.dead,z.2) ?_ ?_ ?_ rfl rfl rfl
    ·intro j hj dm u ih
     have hw:=yz j (by omega)
     obtain⟨h',hx⟩:=FC hL en nd.ensure[j] (im.gs _ (ak hj)) false
     rw[dm] at hx
     simp[hj,dc,hw]
     simp only[yS]
     simp[hx]
     simp only[mG]
     simp[hr,zc,hw]
     simpa using ih (_,_)
    ·intro j hj dm hf u
     obtain⟨h',hx⟩:=FC hL en nd.ensure[j] (im.gs _ (ak hj)) false
     have ht:B6 en nd=CE en nd.ensure[j]:=by unfold B6; rw[e1,Bw,e2,Bw,hf]
     rw[ht,af dm] at gE
     rw[gE]
     simp[hj,dc]
     simp only[yS]
     simp[hx]
     simp only[mG]
     simp[hr,Bj dm,zW]
     exact⟨-1,rfl⟩
    ·intro e3 u
     have ht:B6 en nd=0:=by unfold B6; rw[e1,e2,e3]; rfl
     rw[ht] at gE
     simp only[ne_eq,bB,if_false] at gE
     rw[gE]
     simp[zW]
     exact⟨-1,rfl⟩
theorem rec48 (w1 w2 c a b e:Int) (o:PObj):Ay L 48 [zK 2 a b e,.ptr 0 0,.ptr 1 0] [.cells [.int .i64 w1,.int .i64 w2],.cells [.int .i64 c],o]=some [.cells [.int .i64 a,.int .i64 b],.cells [.int .i64 e],o]:=by
 unfold Ay
 rw[hL 48 _ rfl]
 simp[Lk,CN,zK]
theorem d0W (w1 w2 c:Int) (o:PObj):Ay L 48 [.nilIface,.ptr 0 0,.ptr 1 0] [.cells [.int .i64 w1,.int .i64 w2],.cells [.int .i64 c],o]=some [.cells [.int .i64 w1,.int .i64 w2],.cells [.int .i64 c],o]:=by
 unfold Ay
 rw[hL 48 _ rfl]
 simp[Lk,CN]
theorem c4q (p:Prog) (hp:PW p):∃h',ym L 23 [zA p] []=some (A1 (BL (Cg p)),h'):=by
 suffices H:∃r,ym L 23 [zA p] []=some r∧r.1=A1 (BL (Cg p)) by
  obtain⟨⟨v,h'⟩,h1,h2⟩:=H
  exact⟨h',by rw[h1]; simp only at h2; rw[h2]⟩
 refine Pn (hL 23 _ rfl) rfl ?_
 obtain⟨H,hH⟩:∃H:PObj→List PObj,∀o,H o=[.cells [.int .i64 0,.int .i64 0],.cells [.int .i64 0],o]:=⟨_,λ_=>rfl⟩
 have kq:∀o,(H o)[2]? = some o:=λo=>by rw[hH]; rfl
 have hT:=Ex hL p.enums 2 (-1) (-1) [.cells [.int .i64 0,.int .i64 0],.cells [.int .i64 0],yS p.enums (-1) (-1)] rfl
 have hF:=D2 hL p.enums 2 (-1) (-1) [.cells [.int .i64 0,.int .i64 0],.cells [.int .i64 0],yS p.enums (-1) (-1)] rfl
 have mw:=c64 hL p.enums 2 (-1) (-1) [.cells [.int .i64 0,.int .i64 0],.cells [.int .i64 0],yS p.enums (-1) (-1)] rfl
 have fk:PObj.cells [PV.list false (p.enums.map yG),.int .i64 (-1),.int .i64 (-1)]=yS p.enums (-1) (-1):=rfl
 have l1:=hp.enums
 have l2:=hp.nodes
 have eC:=rec48 hL 0 0 0
 have qu:=d0W hL 0 0 0
 simp[Lj]
 rw[Po (cs:=[.ptr 0 0,.ptr 1 0]) _ _ _ rfl (by simp)]
 unfold Cg
 by_cases c1:p.enums.length≤24
 rotate_left
 ·have c1i:¬(p.enums.length:Int)≤24:=by omega
  simp[fk,c1,c1i,hF,eC,BL,A1,yu]
  rfl
 have c1i:(p.enums.length:Int)≤24:=by omega
 by_cases c2:p.nodes.length≤96
 rotate_left
 ·have c2i:¬(p.nodes.length:Int)≤96:=by omega
  simp[fk,c1,c1i,c2,c2i,hF,eC,BL,A1,yu]
  rfl
 have c2i:(p.nodes.length:Int)≤96:=by omega
 rw[ae (by simp[c1,c2])]
 obtain⟨RES,eS⟩:∃RES,RES=(if yy FD p.enums≠0 then some ⟨-1,-1,yy FD p.enums⟩ else Ba p.enums p.nodes 0):=⟨_,rfl⟩
 rw[← eS]
 simp[fk,c1,c1i,c2,c2i,hT]
 refine BR p.enums FD (λi (x:PV×Nat)=>[(5,x.1),(11,.int .i64 i)]) (λ_ x=>x.2) (λ_ _=>[.cells [.int .i64 0,.int .i64 0],.cells [.int .i64 0],yS p.enums (-1) (-1)]) (.dead,1) ?_ ?_ ?_ rfl rfl rfl
 ·intro i hi dm x ih
  have hw:=yz i (by omega)
  have hc:=mw p.enums[i] (hp.tags _ (ak hi))
  rw[dm] at hc
  simp[hi,hw,hc,zc]
  simpa using ih (_,_)
 ·intro i hi dm hf x
  have hc:=mw p.enums[i] (hp.tags _ (ak hi))
  rw[hf,af dm] at eS
  subst eS
  simp[hi,hc,Bj dm,eC,BL,A1,yu]
  rfl
 ·intro e1 x
  rw[e1,ae (by simp)] at eS
  simp
  refine Nt p.nodes (λi nd=>(At p.enums nd i).isNone) (λi (y:((PV×PV)×Nat)×Int×Int)=>[(6,y.1.1.1),(7,y.1.1.2),(14,.int .i64 i)]) (λ_ y=>y.1.2) (λ_ y=>[.cells [.int .i64 0,.int .i64 0],.cells [.int .i64 0],yS p.enums y.2.1 y.2.2]) (((.dead,.dead),x.2),-1,-1) ?_ ?_ ?_ rfl rfl rfl
  ·intro i hi dm y ih
   have hw:=yz i (by omega)
   obtain⟨k,hc⟩:=RT hL p.enums 2 y.2.1 y.2.2 [.cells [.int .i64 0,.int .i64 0],.cells [.int .i64 0],yS p.enums y.2.1 y.2.2] rfl i p.nodes[i] (hp.ns _ (ak hi))
   rw[Option.isNone_iff_eq_none] at dm
   rw[dm] at hc
   simp[zW] at hc
   simp[hi,hw,hc]
   simpa using ih (((_,_),_),i,k)
  ·intro i hi dm gA y
   obtain⟨k,hc⟩:=RT hL p.enums 2 y.2.1 y.2.2 [.cells [.int .i64 0,.int .i64 0],.cells [.int .i64 0],yS p.enums y.2.1 y.2.2] rfl i p.nodes[i] (hp.ns _ (ak hi))
   obtain⟨b,hb⟩:∃b,At p.enums p.nodes[i] i=some b:=by
    cases hx:At p.enums p.nodes[i] i with
    | none=>rw[hx] at dm; simp at dm
    | some b=>exact⟨b,rfl⟩
   have dZ:Ba p.enums p.nodes 0=some b:=RV hi (by rw[aU]; exact hb) (λk hk h1=>by have:=gA k hk h1; rw[Option.isNone_iff_eq_none] at this; rw[aU]; exact this)
   rw[hb] at hc
   rw[dZ] at eS
   subst eS
   simp[zW] at hc
   simp[hi,hc,eC,BL,A1,yu]
   rfl
  ·intro dT y
   have dZ:Ba p.enums p.nodes 0=none:=RW (λk hk=>by have:=dT k hk; rw[Option.isNone_iff_eq_none] at this; rw[aU]; exact this)
   rw[dZ] at eS
   subst eS
   simp[yM,qu,BL,CO,A1,yu]
   rfl
end
end PI.Sc
set_option maxRecDepth 100000
set_option linter.unusedSimpArgs false
set_option linter.unusedVariables false
namespace PI.Sc
open Go (IntKind BinOp UnOp)
open Short
def Br (k:Int×Str):PV := .agg [.int .i64 k.1,.str k.2]
def Ic (x:(Int×Str)×Int):PV×PV:=(Br x.1,.int .i64 x.2)
abbrev zV:=List ((Int×Str)×Int)
def A0 (l:zV):List (Int×Str):=l.map (·.1)
def yF (l:zV):PObj := .map (l.map Ic)
def yA (en:List Enum) (ns:List Node) (a b:Int):PObj := .cells [.list false (en.map yG),.list false (ns.map yL),.int .i64 a,.int .i64 b,.map (some 2)]
def AC (k:Int×Str):zV→Option Int
 | []=>none
 | x::l=>if k=x.1 then some x.2 else AC k l
theorem Fi {k:Int×Str}:∀{l:zV},AC k l=none↔k∉A0 l
 | []=>by simp[AC,A0]
 | x :: l => by
   have:=Fi (k:=k) (l:=l)
   by_cases h:k=x.1<;>simp[AC,A0,h] at this ⊢<;>exact this
theorem d0Y (a b:Int×Str):peq true [.i,.s] (Br a) (Br b)=some (decide (a=b)):=by
 obtain⟨a1,a2⟩:=a
 obtain⟨b1,b2⟩:=b
 simp only[Br,peq,if_true,A4,Bo,ar,aC,aa,bz,ac]
 rw[aT]; simp
theorem Id (k:Int×Str):∀(l:zV) (i:Nat),∃r,zG true [.i,.s] (Br k) (l.map Ic) i=some r∧r.map (·.2)=(AC k l).map (PV.int .i64)
 | [],i=>⟨none,by simp[zG,Br],rfl⟩
 | x :: l, i => by
   have he:peq true [.i,.s] (Br k) (Ic x).1=some (decide (k=x.1)):=d0Y k x.1
   by_cases hx:k=x.1
   ·subst hx
    refine⟨some (i,.int .i64 x.2),?_,by simp[AC]⟩
    simp only[aA,zG,he,ar,decide_true,if_true]
    rfl
   ·obtain⟨r,h1,h2⟩:=Id k l (i+1)
    refine⟨r,?_,by simp[AC,hx,h2]⟩
    simp only[aA,zG,he,ar,hx,decide_false,aJ,if_false,h1]
def bmE (l:List Str):List (PV×PV):=l.map λs=>(.str s,.bool true)
def CM (l:List Str) (x:Str):List Str:=if x∈l then l else l++[x]
theorem IW {l:List Str} {x y:Str}:y∈CM l x↔y∈l∨y=x:=by
 unfold CM; split
 ·rename_i h
  exact⟨.inl,λhh=>hh.elim id λe=>e▸h⟩
 ·simp
theorem RX (x:Str):∀(l:List Str) (i:Nat),(x∉l→zG false [.s] (.str x) (bmE l) i=some none)∧(x∈l→∃j,zG false [.s] (.str x) (bmE l) i=some (some (i+j,.bool true))∧l[j]? = some x)
 | [],i=>⟨λ_=>rfl,λh=>by simp at h⟩
 | y :: l, i => by
   have he:peq false [.s] (.str x) (.str y)=some (x==y):=rfl
   obtain⟨h1,h2⟩:=RX x l (i+1)
   constructor
   ·intro h
    simp only[az,not_or] at h
    have hb:(x==y)=false:=by simpa using h.1
    simp only[bmE,aA,zG,he,ar,hb,aJ,if_false]
    exact h1 h.2
   ·intro h
    by_cases hx:x=y
    ·subst hx
     exact⟨0,by simp[bmE,zG,he],rfl⟩
    ·have hb:(x==y)=false:=by simpa using hx
     obtain⟨j,h3,h4⟩:=h2 (by simpa[hx] using h)
     refine⟨j+1,?_,by simpa using h4⟩
     simp only[bmE,aA,zG,he,ar,hb,aJ,if_false]
     rw[show i+(j+1)=i+1+j by omega]
     exact h3
theorem Dn (x:Str) (l:List Str):∃r,zG false [.s] (.str x) (bmE l) 0=some r∧r.map (·.2)=(if x∈l then some (PV.bool true) else none)∧Et (bmE l) (.str x) (.bool true) r=bmE (CM l x):=by
 obtain⟨h1,h2⟩:=RX x l 0
 by_cases h:x∈l
 ·obtain⟨j,h3,h4⟩:=h2 h
  refine⟨_,h3,by simp[h],?_⟩
  obtain⟨hj,hx⟩:=ah.1 h4
  simp only[b7D,CM,h,if_true,aU]
  have:(bmE l)[j]'(by simpa[bmE] using hj)=(.str x,.bool true):=by simp[bmE,hx]
  rw[← this,List.set_getElem_self]
 ·exact⟨none,h1 h,by simp[h],by simp[CM,h,bmE]⟩
structure Fr where
 O:List Str
 D:List Str
 I:List Str
 df:List Str
def Kp (b:Nat) (h h':List PObj):Prop:=h.length≤h'.length∧∀n,n<b→h'[n]? = h[n]?
theorem Kp.refl (b:Nat) (h:List PObj):Kp b h h:=⟨am _,λ_ _=>rfl⟩
theorem Kp.trans {b:Nat} {h h' h'':List PObj} (h1:Kp b h h') (h2:Kp b h' h''):Kp b h h'':=⟨aH h1.1 h2.1,λn hn=>(h2.2 n hn).trans (h1.2 n hn)⟩
theorem Kp.le {b b':Nat} {h h':List PObj} (h1:Kp b h h') (hb:b'≤b):Kp b' h h':=⟨h1.1,λn hn=>h1.2 n (by omega)⟩
theorem Kp.app {b:Nat} {h e:List PObj} (hb:b≤h.length):Kp b h (h++e):=⟨by simp,λn hn=>by rw[al (by omega)]⟩
theorem Kp.set {b n:Nat} {h:List PObj} {o:PObj} (hb:b≤n):Kp b h (h.set n o):=⟨by simp,λk hk=>by rw[ai (by omega)]⟩
def RY (h:List PObj) (b' b:Nat) (dv:PV) (df:List Str):Prop:=(dv = .list true []∧df=[])∨∃k,b'≤k∧k<b∧dv = .rowp k 1 false df.length∧h[k]? = some (.cells (df.map PV.str))
def Holds (h:List PObj):Nat→PV→List Fr→Prop
 | b,v,[]=>v = .nilptr
 | b, v, f :: fs => ∃ (b' n o d : Nat) (i dv up : PV), v = .ptr n 0 ∧ b' ≤ n ∧ b' ≤ o ∧ b' ≤ d ∧ n < b ∧ o < b ∧ d < b ∧ n ≠ o ∧ n ≠ d ∧ o ≠ d ∧ 4 ≤ b' ∧ h[n]? = some (.cells [up, .map (some o), .map (some d), i, dv]) ∧ h[o]? = some (.map (bmE f.O)) ∧ h[d]? = some (.map (bmE f.D)) ∧
   ((i = .map none∧f.I=[])∨∃m,i = .map (some m)∧b'≤m∧m<b∧m≠n∧m≠o∧m≠d∧h[m]? = some (.map (bmE f.I)))∧RY h b' b dv f.df∧(∀k s a len,dv = .rowp k s a len→k≠n∧k≠o∧k≠d∧i≠.map (some k))∧Holds h b' up fs
theorem Holds.keep {h h':List PObj}:∀{fs:List Fr} {b:Nat} {v:PV},Holds h b v fs→(∀n,n<b→h'[n]? = h[n]?)→Holds h' b v fs
 | [],b,v,hh,_=>hh
 | f :: fs, b, v, hh, hk => by
   obtain⟨b',n,o,d,i,dv,up,h1,h2,h3,h4,h5,h6,h7,h8,h9,kZ,qx,gY,ot,mH,pE,qy,qz,ku⟩:=hh
   refine⟨b',n,o,d,i,dv,up,h1,h2,h3,h4,h5,h6,h7,h8,h9,kZ,qx,(hk _ h5).trans gY,(hk _ h6).trans ot,(hk _ h7).trans mH,?_,?_,qz,ku.keep λk dt=>hk k (by omega)⟩
   ·rcases pE with h|⟨m,e1,e2,e3,e4,e5,e6,e7⟩
    ·exact .inl h
    ·exact .inr ⟨m,e1,e2,e3,e4,e5,e6,(hk _ e3).trans e7⟩
   ·rcases qy with h|⟨k,e1,e2,e3,e4⟩
    ·exact .inl h
    ·exact .inr ⟨k,e1,e2,e3,(hk _ e2).trans e4⟩
theorem Holds.up {h:List PObj}:∀{fs:List Fr} {b c:Nat} {v:PV},Holds h b v fs→b≤c→Holds h c v fs
 | [],b,c,v,hh,_=>hh
 | f :: fs, b, c, v, hh, hk => by
   obtain⟨b',n,o,d,i,dv,up,h1,h2,h3,h4,h5,h6,h7,h8,h9,kZ,qx,gY,ot,mH,pE,qy,qz,ku⟩:=hh
   refine⟨b',n,o,d,i,dv,up,h1,h2,h3,h4,by omega,by omega,by omega,h8,h9,kZ,qx,gY,ot,mH,?_,?_,qz,ku⟩
   ·rcases pE with h|⟨m,e1,e2,e3,e4,e5,e6,e7⟩
    ·exact .inl h
    ·exact .inr ⟨m,e1,e2,by omega,e4,e5,e6,e7⟩
   ·rcases qy with h|⟨k,e1,e2,e3,e4⟩
    ·exact .inl h
    ·exact .inr ⟨k,e1,by omega,e3,e4⟩
theorem Holds.ptr {h:List PObj} {fs:List Fr} {b:Nat} {v:PV} (hv:Holds h b v fs):v = .nilptr∨∃n,v = .ptr n 0:=by
 cases fs with
 | nil=>exact .inl hv
 | cons f fs=>obtain⟨_,n,_,_,_,_,_,e,_⟩:=hv; exact .inr ⟨n,e⟩
theorem Holds.cp {h:List PObj} {fs:List Fr} {b:Nat} {v:PV} (hv:Holds h b v fs):cp v=some v:=by rcases hv.ptr with rfl|⟨n,rfl⟩<;>rfl
theorem Holds.tkv {h:List PObj} {fs:List Fr} {b:Nat} {v:PV} (hv:Holds h b v fs):tkv v=some (v,false):=by rcases hv.ptr with rfl|⟨n,rfl⟩<;>rfl
theorem Holds.dem {h:List PObj} {fs:List Fr} {b:Nat} {v:PV} (hv:Holds h b v fs):dem v=v:=by rcases hv.ptr with rfl|⟨n,rfl⟩<;>rfl
def zr (fs:List Fr) (x:Str):Bool:=fs.any λf=>decide (x∈f.O)
def A5 (fs:List Fr) (x:Str):Bool:=fs.any λf=>decide (x∈f.D)||decide (x∈f.I)
section
variable {L:Nat→Option PFunc} (hL:∀k f,LS k=some f→L k=some f) (en:List Enum) (ns:List Node) (a b:Int)
include hL
section
variable (h:List PObj) (h3:h[3]? = some (yA en ns a b))
include h3
theorem DQ (e:Int):yI L 57 [.ptr 3 0,.bool true,.int .i64 e] h=some (.val (.tuple []),h):=by
 have _:=h3
 refine Bi (hL 57 _ rfl) rfl ?_
 simp[Jb]
theorem DR (e:Int):yI L 57 [.ptr 3 0,.bool false,.int .i64 e] h=some (.boom (zK 1 a b e),h):=by
 refine Bi (hL 57 _ rfl) rfl ?_
 simp[Jb,h3,yA,zK]
theorem KZ (l:zV) (h2:h[2]? = some (yF l)) (k:Int×Str) (i:Int) (hk:k∈A0 l):yI L 28 [.ptr 3 0,Br k,.int .i64 i] h=some (.boom (zK 1 a b 7),h):=by
 have hm:=DR hL en ns a b h h3 7
 obtain⟨r,h4,h5⟩:=Id k l 0
 cases r with
 | none =>
   have:AC k l=none:=by simpa using h5.symm
   exact absurd hk (Fi.1 this)
 | some r =>
   obtain⟨j,v⟩:=r
   obtain⟨z,rfl⟩:∃z,v = .int .i64 z:=by
    cases he:AC k l with
    | none=>rw[he] at h5; simp at h5
    | some z=>rw[he] at h5; exact⟨z,by simpa using h5⟩
   refine Bi (hL 28 _ rfl) rfl ?_
   have fH:Br k = .agg [.int .i64 k.1,.str k.2]:=rfl
   rw[fH] at h4 ⊢
   simp[I6,h4,h3,h2,yA,yF,hm,EZ]
theorem K0 (l:zV) (h2:h[2]? = some (yF l)) (k:Int×Str) (i:Int) (hk:k∉A0 l):yI L 28 [.ptr 3 0,Br k,.int .i64 i] h=some (.val (.tuple []),h.set 2 (yF (l++[(k,i)]))):=by
 have hm:=DQ hL en ns a b h h3 7
 obtain⟨r,h4,h5⟩:=Id k l 0
 rw[Fi.2 hk] at h5
 simp only[ci,Option.map_eq_none_iff] at h5
 subst h5
 refine Bi (hL 28 _ rfl) rfl ?_
 have fH:Br k = .agg [.int .i64 k.1,.str k.2]:=rfl
 have e3:yF (l++[(k,i)]) = .map (l.map Ic++[(.agg [.int .i64 k.1,.str k.2],.int .i64 i)]):=by simp[yF,Ic,Br]
 rw[e3]
 rw[fH] at h4 ⊢
 simp[I6,h4,h3,h2,yA,yF,hm,EZ]
end
theorem JU (x:Str):∀(fs:List Fr) (h:List PObj) (b:Nat) (v:PV),Holds h b v fs→ym L 97 [v,.str x] h=some (.bool (zr fs x),h):=by
 have key:∀(fs:List Fr) (h:List PObj) (b:Nat) (v:PV),Holds h b v fs→wpL L He ⟨[v,.str x,.bool false],[],0,h⟩ (DO 0 (Ev L (S (R [t 2 F]) Y) (Eu F4.results (.bool (zr fs x),h)))):=by
  intro fs
  induction fs with
  | nil =>
    intro h b v hv
    have hv:v = .nilptr:=hv
    subst hv
    rw[He,Cy]
    simp[F4,zr]
  | cons f fs ih =>
    intro h b v hv
    obtain⟨b',n,o,d,i,dv,up,h1,h2,h3,h4,h5,h6,h7,h8,h9,kZ,qx,gY,ot,mH,pE,qy,qz,ku⟩:=hv
    subst h1
    obtain⟨r,hr,fG,_⟩:=Dn x f.O
    rw[He,Cy]
    by_cases hx:x∈f.O
    ·simp[hx] at fG
     obtain⟨j,rfl⟩:=fG
     simp[gY,ot,hr,zo,F4,zr,hx]
    ·simp[hx] at fG
     subst fG
     simp[gY,ot,hr,zo,ku.cp,ku.tkv]
     have:=ih h b' up ku
     rw[He] at this
     simpa[zr,hx] using this
 intro fs h b v hv
 refine yB (hL 97 _ rfl) rfl ?_
 simpa[F4,hv.dem] using key fs h b v hv
theorem c0K (x:Str):∀(fs:List Fr) (h:List PObj) (b:Nat) (v:PV),Holds h b v fs→ym L 98 [v,.str x] h=some (.bool (A5 fs x),h):=by
 have key:∀(fs:List Fr) (h:List PObj) (b:Nat) (v:PV),Holds h b v fs→wpL L Hf ⟨[v,.str x,.bool false],[],0,h⟩ (DO 0 (Ev L (S (R [t 2 F]) Y) (Eu Fl.results (.bool (A5 fs x),h)))):=by
  intro fs
  induction fs with
  | nil =>
    intro h b v hv
    have hv:v = .nilptr:=hv
    subst hv
    rw[Hf,Cy]
    simp[Fl,A5]
  | cons f fs ih =>
    intro h b v hv
    obtain⟨b',n,o,d,i,dv,up,h1,h2,h3,h4,h5,h6,h7,h8,h9,kZ,qx,gY,ot,mH,pE,qy,qz,ku⟩:=hv
    subst h1
    obtain⟨r,hr,fG,_⟩:=Dn x f.D
    have eC:=ih h b' up ku
    rw[Hf] at eC
    rw[Hf,Cy]
    by_cases hx:x∈f.D
    ·simp[hx] at fG
     obtain⟨j,rfl⟩:=fG
     simp[gY,mH,hr,zo,Fl,A5,hx]
    ·simp[hx] at fG
     subst fG
     rcases pE with⟨rfl,hI⟩|⟨m,rfl,_,_,_,_,_,hm⟩
     ·simp[gY,mH,hr,zo,zG,ku.cp,ku.tkv]
      simpa[A5,hx,hI] using eC
     ·obtain⟨r,gc,iG,_⟩:=Dn x f.I
      by_cases hy:x∈f.I
      ·simp[hy] at iG
       obtain⟨j,rfl⟩:=iG
       simp[gY,mH,hr,gc,hm,zo,Fl,A5,hx,hy]
      ·simp[hy] at iG
       subst iG
       simp[gY,mH,hr,gc,hm,zo,ku.cp,ku.tkv]
       simpa[A5,hx,hy] using eC
 intro fs h b v hv
 refine yB (hL 98 _ rfl) rfl ?_
 simpa[Fl,hv.dem] using key fs h b v hv
end
structure TopAt (h:List PObj) (b b' n o d:Nat) (i dv up:PV) (f:Fr) (fs:List Fr):Prop where
 ln:b'≤n
 lo:b'≤o
 ld:b'≤d
 un:n<b
 uo:o<b
 ud:d<b
 no:n≠o
 nd:n≠d
 od:o≠d
 four:4≤b'
 hn:h[n]? = some (.cells [up,.map (some o),.map (some d),i,dv])
 ho:h[o]? = some (.map (bmE f.O))
 hd:h[d]? = some (.map (bmE f.D))
 hi:(i = .map none∧f.I=[])∨∃m,i = .map (some m)∧b'≤m∧m<b∧m≠n∧m≠o∧m≠d∧h[m]? = some (.map (bmE f.I))
 row:RY h b' b dv f.df
 rne:∀k s a len,dv = .rowp k s a len→k≠n∧k≠o∧k≠d∧i≠.map (some k)
 hup:Holds h b' up fs
theorem TopAt.holds {h:List PObj} {b b' n o d:Nat} {i dv up:PV} {f:Fr} {fs:List Fr} (t:TopAt h b b' n o d i dv up f fs):Holds h b (.ptr n 0) (f::fs):=
 ⟨b',n,o,d,i,dv,up,rfl,t.ln,t.lo,t.ld,t.un,t.uo,t.ud,t.no,t.nd,t.od,t.four,t.hn,t.ho,t.hd,t.hi,t.row,t.rne,t.hup⟩
section
variable {h h':List PObj} {b b' n o d:Nat} {i dv up:PV} {f:Fr} {fs:List Fr}
theorem TopAt.keep (t:TopAt h b b' n o d i dv up f fs) (hk:∀n,n<b→h'[n]? = h[n]?):TopAt h' b b' n o d i dv up f fs where
 ln:=t.ln
 lo:=t.lo
 ld:=t.ld
 un:=t.un
 uo:=t.uo
 ud:=t.ud
 no:=t.no
 nd:=t.nd
 od:=t.od
 four:=t.four
 hn:=(hk _ t.un).trans t.hn
 ho:=(hk _ t.uo).trans t.ho
 hd:=(hk _ t.ud).trans t.hd
 hi:=by
  rcases t.hi with h|⟨m,e1,e2,e3,e4,e5,e6,e7⟩
  ·exact .inl h
  ·exact .inr ⟨m,e1,e2,e3,e4,e5,e6,(hk _ e3).trans e7⟩
 row:=by
  rcases t.row with h|⟨k,e1,e2,e3,e4⟩
  ·exact .inl h
  ·exact .inr ⟨k,e1,e2,e3,(hk _ e2).trans e4⟩
 rne:=t.rne
 hup:=t.hup.keep λk dt=>hk k (by have:=t.ln; have:=t.un; omega)
theorem TopAt.setO (t:TopAt h b b' n o d i dv up f fs) (O:List Str):TopAt (h.set o (.map (bmE O))) b b' n o d i dv up { f with O:=O } fs where
 ln:=t.ln
 lo:=t.lo
 ld:=t.ld
 un:=t.un
 uo:=t.uo
 ud:=t.ud
 no:=t.no
 nd:=t.nd
 od:=t.od
 four:=t.four
 hn:=by rw[ai (Ne.symm t.no)]; exact t.hn
 ho:=by
  obtain⟨hl,_⟩:=ah.1 t.ho
  rw[av hl]
 hd:=by rw[ai t.od]; exact t.hd
 hi:=by
  rcases t.hi with h|⟨m,e1,e2,e3,e4,e5,e6,e7⟩
  ·exact .inl h
  ·exact .inr ⟨m,e1,e2,e3,e4,e5,e6,by rw[ai (Ne.symm e5)]; exact e7⟩
 row:=by
  rcases t.row with h|⟨k,e1,e2,e3,e4⟩
  ·exact .inl h
  ·exact .inr ⟨k,e1,e2,e3,by rw[ai (Ne.symm (t.rne _ _ _ _ e3).2.1)]; exact e4⟩
 rne:=t.rne
 hup:=t.hup.keep λk dt=>ai (by have:=t.lo; omega)
theorem TopAt.setD (t:TopAt h b b' n o d i dv up f fs) (D:List Str):TopAt (h.set d (.map (bmE D))) b b' n o d i dv up { f with D:=D } fs where
 ln:=t.ln
 lo:=t.lo
 ld:=t.ld
 un:=t.un
 uo:=t.uo
 ud:=t.ud
 no:=t.no
 nd:=t.nd
 od:=t.od
 four:=t.four
 hn:=by rw[ai (Ne.symm t.nd)]; exact t.hn
 ho:=by rw[ai (Ne.symm t.od)]; exact t.ho
 hd:=by
  obtain⟨hl,_⟩:=ah.1 t.hd
  rw[av hl]
 hi:=by
  rcases t.hi with h|⟨m,e1,e2,e3,e4,e5,e6,e7⟩
  ·exact .inl h
  ·exact .inr ⟨m,e1,e2,e3,e4,e5,e6,by rw[ai (Ne.symm e6)]; exact e7⟩
 row:=by
  rcases t.row with h|⟨k,e1,e2,e3,e4⟩
  ·exact .inl h
  ·exact .inr ⟨k,e1,e2,e3,by rw[ai (Ne.symm (t.rne _ _ _ _ e3).2.2.1)]; exact e4⟩
 rne:=t.rne
 hup:=t.hup.keep λk dt=>ai (by have:=t.ld; omega)
end
def Do (l:zV) (tags:List Str):Prop:=∀x,((0:Int),x)∈A0 l↔x∈tags
def NodesIn (l:zV) (ns:List Node) (k:Nat):Prop:=∀x,match callee (ns.take k) x with
 | none=>∀i:Int,AC (1,x) l=some i→¬i<k
 | some m=>∃j:Nat,AC (1,x) l=some (j:Int)∧j<k∧ns[j]? = some m
section
variable {L:Nat→Option PFunc} (hL:∀k f,LS k=some f→L k=some f) (en:List Enum) (ns:List Node) (a b:Int) (ents:zV)
include hL
theorem Pe (tags:List Str) (ej:Do ents tags) (l:List Decl) (hl:l.length≤3300000) (r:Bool) (h:List PObj) (h2:h[2]? = some (yF ents)) (h3:h[3]? = some (yA en ns a b)) (q q' n o d:Nat) (i dv up:PV) (f:Fr) (fs:List Fr) (t:TopAt h q q' n o d i dv up f fs) (vis:List Str) (dI:∀x,zr (f::fs) x=true↔x∈vis):
  ∃h' O,yI L 59 [.ptr 3 0,.ptr n 0,.list r (l.map yw)] h=some (yx 1 a b (zO tags l vis).1,h')∧Kp q' h h'∧h'.length=h.length∧TopAt h' q q' n o d i dv up { f with O:=O } fs∧((zO tags l vis).1=0→(∀x,zr ({ f with O:=O }::fs) x=true↔x∈(zO tags l vis).2)∧∀x,x∈O↔x∈f.O∨x∈yp l):=by
 suffices H:∃res,yI L 59 [.ptr 3 0,.ptr n 0,.list r (l.map yw)] h=some res∧∃h' O,res=(yx 1 a b (zO tags l vis).1,h')∧Kp q' h h'∧h'.length=h.length∧TopAt h' q q' n o d i dv up { f with O:=O } fs∧((zO tags l vis).1=0→(∀x,zr ({ f with O:=O }::fs) x=true↔x∈(zO tags l vis).2)∧∀x,x∈O↔x∈f.O∨x∈yp l) by
  obtain⟨res,e1,h',O,e2,e3⟩:=H
  exact⟨h',O,by rw[e1,e2],e3⟩
 refine DP (hL 59 _ rfl) rfl ?_
 simp[Jc]
 rw[PG]
 refine yU l.length (λk st=>∃y3 y4 g h' O vis',st=⟨[.ptr 3 0,.ptr n 0,.list false (l.map yw),y3,y4,.list false (l.map yw),.int .i64 l.length,.int .i64 k],[],g,h'⟩∧Kp q' h h'∧h'.length=h.length∧TopAt h' q q' n o d i dv up { f with O:=O } fs∧zO tags l vis=zO tags (l.drop k) vis'∧(∀x,zr ({ f with O:=O }::fs) x=true↔x∈vis')∧∀x,x∈O↔x∈f.O∨x∈yp (l.take k)) ?_ ?_ ⟨_,_,_,h,f.O,vis,rfl,Kp.refl _ _,rfl,t,rfl,dI,λx=>by simp[yp]⟩
 ·rintro k hk st ⟨y3,y4,g,h',O,vis',rfl,dq,cY,ht,dy,hv,hO⟩ ih
  have hw:=yz k (by omega)
  have eB:h'[2]? = some (yF ents):=(dq.2 2 (by have:=ht.four; omega)).trans h2
  have eX:h'[3]? = some (yA en ns a b):=(dq.2 3 (by have:=ht.four; omega)).trans h3
  have hT:=DQ hL en ns a b h' eX 7
  have hF:=DR hL en ns a b h' eX 7
  have hs:=JU hL l[k].name _ h' q _ ht.holds
  have kG:=hv l[k].name
  have iA:=ej l[k].name
  rw[bg hk] at dy
  simp only[zO] at dy
  obtain⟨z,hz,eZ⟩:=Id (0,l[k].name) ents 0
  simp only[Br] at hz
  have hn:=ht.hn
  have ho:=ht.ho
  cases z with
  | some z =>
    obtain⟨j,v⟩:=z
    obtain⟨u,hu,rfl⟩:∃u,AC (0,l[k].name) ents=some u∧v = .int .i64 u:=by
     cases he:AC (0,l[k].name) ents with
     | none=>rw[he] at eZ; simp at eZ
     | some u=>rw[he] at eZ; exact⟨u,rfl,by simpa using eZ⟩
    have dQ:l[k].name∈tags:=iA.1 (cw λhn=>by rw[Fi.2 hn] at hu; simp at hu)
    rw[af (.inr dQ)] at dy
    simp[hk,eX,yA,eB,yF,zo,hz,hF]
    refine⟨h',by rw[dy]; exact⟨rfl,rfl⟩,dq,cY,O,ht,by rw[dy]; simp⟩
  | none =>
    have eG:AC (0,l[k].name) ents=none:=by simpa using eZ.symm
    have te:l[k].name∉tags:=λhx=>Fi.1 eG (iA.2 hx)
    by_cases hx:l[k].name∈vis'
    ·rw[af (.inl hx)] at dy
     rw[kG.2 hx] at hs
     simp[hk,eX,yA,eB,yF,zo,hz,hs,hF]
     refine⟨h',by rw[dy]; exact⟨rfl,rfl⟩,dq,cY,O,ht,by rw[dy]; simp⟩
    ·rw[ae (by simp[hx,te])] at dy
     have wR:zr ({ f with O:=O }::fs) l[k].name=false:=by
      cases hc:zr ({ f with O:=O }::fs) l[k].name with
      | false=>rfl
      | true=>exact absurd (kG.1 hc) hx
     rw[wR] at hs
     have gT:yp (l.take (k+1))=yp (l.take k)++[l[k].name]:=by simp only[yp,a8,an hk,Option.toList,bm,aA,bI]
     obtain⟨r',hr,_,iG⟩:=Dn l[k].name O
     simp[hk,eX,yA,eB,yF,zo,hz,hs,hT,hn,ho,hr,iG,hw]
     refine ih _ ⟨_,_,_,_,CM O l[k].name,vis'++[l[k].name],rfl,dq.trans (Kp.set ht.lo),by simp[cY],ht.setO _,dy,?_,λx=>by rw[IW,hO,gT,aw,aQ,or_assoc]⟩
     ·intro x
      have:=hv x
      simp only[zr,List.any_cons,bL,ay,IW,aw,aQ] at this ⊢
      rw[← this]
      constructor
      ·rintro((h1|h1)|h1)
       ·exact .inl (.inl h1)
       ·exact .inr h1
       ·exact .inl (.inr h1)
      ·rintro((h1|h1)|h1)
       ·exact .inl (.inl h1)
       ·exact .inr h1
       ·exact .inl (.inr h1)
 ·rintro st ⟨y3,y4,g,h',O,vis',rfl,dq,cY,ht,dy,hv,hO⟩
  rw[bl (am _)] at dy
  simp only[zO] at dy
  simp[Jc]
  refine⟨h',by rw[dy]; exact⟨rfl,rfl⟩,dq,cY,O,ht,?_⟩
  rw[dy]
  intro _
  exact⟨by simpa using hv,by simpa using hO⟩
theorem Pf (l:List Decl) (hl:l.length≤3300000) (hd:∀d∈l,DW d) (r:Bool) (h:List PObj) (h3:h[3]? = some (yA en ns a b)) (q:Nat) (v:PV) (fs:List Fr) (hv:Holds h q v fs) (vis:List Str) (dI:∀x,zr fs x=true↔x∈vis):
  yI L 60 [.ptr 3 0,v,.list r (l.map yw)] h=some (yx 1 a b (C6 vis l),h):=by
 have hT:=DQ hL en ns a b h h3 6
 have hF:=DR hL en ns a b h h3 6
 have hs:=λx=>JU hL x _ h q _ hv
 have mh:=hv.dem
 have iZ:=hv.cp
 have i7:=hv.tkv
 have qA:∀x,zr fs x=decide (x∈vis):=λx=>by rw[aT,ay]; exact dI x
 refine Bi (hL 60 _ rfl) rfl ?_
 simp[Jd,mh]
 have dz:C6 vis l=yy (λd=>yy (λo:On=>need (decide (o.name∈vis)) 6) d.clock) l:=rfl
 rw[dz]
 refine BR l (λd=>yy (λo:On=>need (decide (o.name∈vis)) 6) d.clock) (λi (x:(PV×PV×PV×PV×PV)×Nat)=>[(3,x.1.1),(4,x.1.2.1),(8,x.1.2.2.1),(9,x.1.2.2.2.1),(10,x.1.2.2.2.2),(7,.int .i64 i)]) (λ_ x=>x.2) (λ_ _=>h) ((.dead,.dead,.dead,.dead,.dead),0) ?_ ?_ ?_ rfl rfl rfl
 ·intro i dM dm x ih
  have hw:=yz i (by omega)
  have dH:=(hd _ (ak dM)).clock
  have hE:∀o∈l[i].clock,need (decide (o.name∈vis)) 6=0:=BW.1 dm
  simp[dM]
  refine BR l[i].clock (λo:On=>need (decide (o.name∈vis)) 6) (λj (y:PV×Nat)=>[(10,.int .i64 j),(4,y.1)]) (λ_ y=>y.2) (λ_ _=>h) (x.1.2.1,x.2+1) ?_ ?_ ?_ rfl rfl rfl
  ·intro j hj dF y ih2
   have iz:=yz j (by omega)
   rw[Co (by decide),ay] at dF
   simp[hj,hs,qA,dF,hT,iz,iZ,i7]
   simpa using ih2 (_,_)
  ·intro j hj dF _ y
   exact absurd (hE _ (ak hj)) dF
  ·intro _ y
   simp[hw]
   simpa using ih ((_,_,_,_,_),_)
 ·intro i dM dm hf x
  have dH:=(hd _ (ak dM)).clock
  rw[hf]
  simp[dM]
  refine BR l[i].clock (λo:On=>need (decide (o.name∈vis)) 6) (λj (y:PV×Nat)=>[(10,.int .i64 j),(4,y.1)]) (λ_ y=>y.2) (λ_ _=>h) (x.1.2.1,x.2+1) ?_ ?_ ?_ rfl rfl rfl
  ·intro j hj dF y ih2
   have iz:=yz j (by omega)
   rw[Co (by decide),ay] at dF
   simp[hj,hs,qA,dF,hT,iz,iZ,i7]
   simpa using ih2 (_,_)
  ·intro j hj dF wS y
   have fY:¬l[i].clock[j].name∈vis:=by
    intro hm; exact dF (by simp[need,hm])
   rw[wS]
   simp[hj,hs,qA,fY,hF,need,yx,iZ,i7]
  ·intro h0 y
   exact absurd h0 dm
 ·intro h0 x
  rw[h0]
  simp[Jd,yx]
end
section
variable {L:Nat→Option PFunc} (hL:∀k f,LS k=some f→L k=some f) (en:List Enum) (ns:List Node) (a b:Int) (ents:zV)
include hL
theorem c69 (k:Nat) (hn:NodesIn ents ns k) (s:Place) (fp:s.before=ns.take k) (e:Expr) (outs:Nat) (h:List PObj) (h2:h[2]? = some (yF ents)) (h3:h[3]? = some (yA en ns a b)):
  yI L 124 [.ptr 3 0,.int .i64 k,yq e,.int .i64 outs] h=some (yx 1 a b (Ie s e outs),h):=by
 have hT:=λz=>DQ hL en ns a b h h3 z
 have hF:=λz=>DR hL en ns a b h h3 z
 obtain⟨z,hz,eZ⟩:=Id (1,e.name) ents 0
 simp only[Br] at hz
 have hc:=hn e.name
 refine Bi (hL 124 _ rfl) rfl ?_
 unfold Ie
 rw[fp]
 cases mu:callee (ns.take k) e.name with
 | none =>
   rw[mu] at hc
   simp only at hc
   cases z with
   | none =>
     simp[Fo,h3,h2,yA,yF,zo,hz,hF,yx]
   | some z =>
     obtain⟨j,v⟩:=z
     obtain⟨u,hu,rfl⟩:∃u,AC (1,e.name) ents=some u∧v = .int .i64 u:=by
      cases he:AC (1,e.name) ents with
      | none=>rw[he] at eZ; simp at eZ
      | some u=>rw[he] at eZ; exact⟨u,rfl,by simpa using eZ⟩
     have fA:=hc u hu
     simp[Fo,h3,h2,yA,yF,zo,hz,hF,fA,yx]
 | some m =>
   rw[mu] at hc
   obtain⟨i,hi,jY,na⟩:=hc
   cases z with
   | none=>rw[hi] at eZ; simp at eZ
   | some z =>
     obtain⟨j,v⟩:=z
     rw[hi] at eZ
     have hv:v = .int .i64 i:=by simpa using eZ
     subst hv
     have ou:(i:Int)<k:=by omega
     obtain⟨dM,pC⟩:=ah.1 na
     have fA:(ns.map yL)[i]? = some (yL m):=by simp[na]
     by_cases c1:(e.args.length:Int)=wrap (m.ins.length+e.v)
     ·have c1':wrap (m.ins.length+e.v)=(e.args.length:Int):=c1.symm
      by_cases c2:m.outs.length=outs
      ·have c2':outs=m.outs.length:=c2.symm
       have c3:(outs:Int)=m.outs.length:=by omega
       have c3':(m.outs.length:Int)=outs:=by omega
       simp[Fo,h3,h2,yA,yF,zo,hz,hT,jY,ou,dM,pC,na,tf c1,tf c1',tf c2,tf c3,tf c3',yx,need]
      ·have c3:¬(outs:Int)=m.outs.length:=by omega
       have c3':¬(m.outs.length:Int)=outs:=by omega
       simp[Fo,h3,h2,yA,yF,zo,hz,hT,hF,jY,ou,dM,pC,na,tf c1,tf c1',tf c2,tf c3,tf c3',yx,need]
     ·have c1':¬wrap (m.ins.length+e.v)=(e.args.length:Int):=λh=>c1 h.symm
      simp[Fo,h3,h2,yA,yF,zo,hz,hT,hF,jY,ou,dM,pC,na,tf c1,tf c1',yx,need]
def zJ (h:List PObj) (k:Nat) (v:PV) (outs:Nat) (lp:Bool):List PObj:=h++[.cells [.ptr 3 0],.cells [.int .i64 k],.cells [v],.cells [.int .i64 outs],.loop lp]
omit hL in
theorem Nu (h:List PObj) (k:Nat) (v:PV) (outs:Nat) (lp:Bool) {n:Nat} (hn:n<h.length):(zJ h k v outs lp)[n]? = h[n]? := by unfold zJ; rw[al hn]
theorem RZ (k:Nat) (hn:NodesIn ents ns k) (s:Place) (fp:s.before=ns.take k) (x:Expr) (outs:Nat) (h:List PObj) (h2:h[2]? = some (yF ents)) (h3:h[3]? = some (yA en ns a b)) (q:Nat) (hq:q≤h.length) (v:PV) (fs:List Fr) (hv:Holds h q v fs) (dI:∀x,zr fs x=true↔x∈s.vis):
  yI L 190 [.ptr (h.length+4) 0,.ptr h.length 0,.ptr (h.length+1) 0,.ptr (h.length+2) 0,.ptr (h.length+3) 0,yq x] (zJ h k v outs true)=some (if oneN s outs x=0 then(.val (.bool true),zJ h k v 1 true) else(.boom (zK 1 a b (oneN s outs x)),zJ h k v outs false)):=by
 have pg:3<h.length:=(ah.1 h3).1
 have g2:(zJ h k v outs false)[2]? = some (yF ents):=by rw[Nu _ _ _ _ _ (by omega)]; exact h2
 have g3:(zJ h k v outs false)[3]? = some (yA en ns a b):=by rw[Nu _ _ _ _ _ pg]; exact h3
 have hT:=λz=>DQ hL en ns a b (zJ h k v outs false) g3 z
 have hF:=λz=>DR hL en ns a b (zJ h k v outs false) g3 z
 have hs:=JU hL x.name _ (zJ h k v outs false) q _ (hv.keep λn hn=>Nu _ _ _ _ _ (by omega))
 have hc:=c69 hL en ns a b ents k hn s fp x outs (zJ h k v outs false) g2 g3
 have iZ:=hv.cp
 have i7:=hv.tkv
 have mh:=hv.dem
 have qA:∀x,zr fs x=decide (x∈s.vis):=λx=>by rw[aT,ay]; exact dI x
 rw[qA] at hs
 simp only[zJ] at hT hF hs hc ⊢
 refine HW (as:=[.ptr h.length 0,.ptr (h.length+1) 0,.ptr (h.length+2) 0,.ptr (h.length+3) 0,yq x]) (hL 190 _ rfl) rfl rfl (by simp) ?_
 unfold oneN
 by_cases hk:x.kind=2∨x.kind=8∨x.kind=9
 ·rw[af hk]
  by_cases hm:x.name∈s.vis
  ·simp[hm] at hs
   rcases hk with k2|k2|k2<;>simp[Fp,k2,yu,Ai,iZ,i7,hs,hT,hm]
  ·simp[hm] at hs
   rcases hk with k2|k2|k2<;>simp[Fp,k2,yu,Ai,iZ,i7,hs,hF,hm,need]
 ·rw[ae hk]
  simp only[not_or] at hk
  obtain⟨k2,k8,k9⟩:=hk
  by_cases k10:x.kind=10
  ·rw[af k10]
   by_cases hz:Ie s x outs=0
   ·rw[hz] at hc
    simp[yx] at hc
    simp[Fp,tf k10,tf k2,tf k8,tf k9,yu,Ai,iZ,i7,hc,hz,yx]
   ·simp[yx,hz] at hc
    simp[Fp,tf k10,tf k2,tf k8,tf k9,yu,Ai,iZ,i7,hc,hz,yx]
  ·rw[ae k10]
   simp[Fp,tf k2,tf k8,tf k9,tf k10,yu,Ai,iZ,i7]
end
section
variable {L:Nat→Option PFunc} (hL:∀k f,LS k=some f→L k=some f) (en:List Enum) (ns:List Node) (a b:Int) (ents:zV)
include hL
theorem Nv (k:Nat) (hn:NodesIn ents ns k) (s:Place) (fp:s.before=ns.take k) (e:Expr) (he:EW e) (outs:Nat) (h:List PObj) (h2:h[2]? = some (yF ents)) (h3:h[3]? = some (yA en ns a b)) (q:Nat) (hq:q≤h.length) (v:PV) (fs:List Fr) (hv:Holds h q v fs) (dI:∀x,zr fs x=true↔x∈s.vis):
  ∃h',yI L 99 [.ptr 3 0,.int .i64 k,v,yq e,.int .i64 outs] h=some (yx 1 a b (zx s e outs),h')∧Kp h.length h h':=by
 suffices H:∃res,yI L 99 [.ptr 3 0,.int .i64 k,v,yq e,.int .i64 outs] h=some res∧∃h',res=(yx 1 a b (zx s e outs),h')∧Kp h.length h h' by
  obtain⟨res,e1,h',e2,e3⟩:=H
  exact⟨h',by rw[e1,e2],e3⟩
 have iZ:=hv.cp
 have i7:=hv.tkv
 have mh:=hv.dem
 have nE:v.cells=[v]:=by rcases hv.ptr with rfl|⟨n,rfl⟩<;>rfl
 obtain⟨h0,rX⟩:∃h0,h0=h++[.cells [.ptr 3 0],.cells [.int .i64 k],.cells [v],.cells [.int .i64 outs]]:=⟨_,rfl⟩
 have jV:h0.length=h.length+4:=by rw[rX]; simp
 have hE:=HU hL e h0
 have il:=λx=>RZ hL en ns a b ents k hn s fp x outs h h2 h3 q hq v fs hv dI
 have gE:=λx=>RZ hL en ns a b ents k hn s fp x 1 h h2 h3 q hq v fs hv dI
 have hl:h0++[.loop true]=zJ h k v outs true:=by rw[rX]; simp[zJ]
 obtain⟨y,rU,u7,hy⟩:∃y:Expr→List PObj→Option (Out×List PObj),(∀x,y x (zJ h k v outs true)=some (if oneN s outs x=0 then(.val (.bool true),zJ h k v 1 true) else(.boom (zK 1 a b (oneN s outs x)),zJ h k v outs false)))∧(∀x,y x (zJ h k v 1 true)=some (if oneN s 1 x=0 then(.val (.bool true),zJ h k v 1 true) else(.boom (zK 1 a b (oneN s 1 x)),zJ h k v 1 false))) ∧
   ∀x h' r,y x h'=some r→∃o:Nat,h'=zJ h k v o true∧(o=outs∨o=1)∧r=(if oneN s o x=0 then(.val (.bool true),zJ h k v 1 true) else(.boom (zK 1 a b (oneN s o x)),zJ h k v o false)):=by
  classical
  refine⟨λx h'=>if h'=zJ h k v outs true then some (if oneN s outs x=0 then(.val (.bool true),zJ h k v 1 true) else(.boom (zK 1 a b (oneN s outs x)),zJ h k v outs false)) else if h'=zJ h k v 1 true then some (if oneN s 1 x=0 then(.val (.bool true),zJ h k v 1 true) else(.boom (zK 1 a b (oneN s 1 x)),zJ h k v 1 false)) else none,λx=>af rfl,λx =>?_,λx h' r hr =>?_⟩
  ·simp only
   by_cases ho:outs=1
   ·subst ho; simp
   ·have:¬zJ h k v 1 true=zJ h k v outs true:=by
     unfold zJ
     rw[List.append_cancel_left_eq]
     simp; omega
    rw[ae this]; simp
  ·simp only at hr
   split at hr
   ·rename_i e1; exact⟨outs,e1,.inl rfl,(Option.some.inj hr).symm⟩
   ·split at hr
    ·rename_i e1; exact⟨1,e1,.inr rfl,(Option.some.inj hr).symm⟩
    ·simp at hr
 refine DP (hL 99 _ rfl) rfl ?_
 have c1:∀n o,(PV.ptr n o).cells=[.ptr n o]:=λ_ _=>rfl
 have c2:∀x,(PV.int .i64 x).cells=[.int .i64 x]:=λ_=>rfl
 have wT:ym L 81 [yq e] (h++[.cells [.ptr 3 0],.cells [.int .i64 k],.cells [v],.cells [.int .i64 outs]])=some (.func 114 [] [.cptr (yq e).cells],h++[.cells [.ptr 3 0],.cells [.int .i64 k],.cells [v],.cells [.int .i64 outs]]):=by rw[← rX]; exact hE
 simp[Hg,nE,mh,iZ,i7,c1,c2,wT]
 rw[← rX]
 have da:AV y e.list (h0++[.loop true])=some (if zx s e outs=0 then(.val (.bool true),zJ h k v 1 true) else(.boom (zK 1 a b (zx s e outs)),zJ h k v (if oneN s outs e=0 then 1 else outs) false)):=by
  rw[hl,Expr.list_eq]
  simp only[AV,rU]
  unfold zx
  by_cases h1:oneN s outs e=0
  ·simp only[h1,if_true,yv]
   exact HT (f:=oneN s 1) (R:=λz=>(.boom (zK 1 a b z),zJ h k v 1 false)) _ (λx _ hx=>by rw[u7,af hx]) (λx _ hx=>by rw[u7,ae hx]) (λz h'=>by simp)
  ·simp[h1,yv]
 refine HV hL e he (cs:=[.ptr h.length 0,.ptr (h.length+1) 0,.ptr (h.length+2) 0,.ptr (h.length+3) 0]) (by simp) (by simp) (by simp[cp]) y ?_ ?_ _ da ?_
 ·intro x _ h' r hr
  obtain⟨o,rfl,ho,rfl⟩:=hy x h' r hr
  rw[jV]
  rcases ho with rfl|rfl
  ·exact il x
  ·exact gE x
 ·intro x h' r hr
  obtain⟨o,rfl,ho,rfl⟩:=hy x h' r hr
  split
  ·exact .inl ⟨_,_,rfl⟩
  ·exact .inr ⟨_,_,rfl⟩
 ·by_cases hz:zx s e outs=0
  ·rw[af hz,jV]
   simp[CX,zJ,Hg,hz,yx]
   exact Kp.app (am _)
  ·rw[ae hz,jV]
   simp[CX,zJ,Hg,hz,yx]
   exact Kp.app (am _)
theorem R0 (k:Nat) (hn:NodesIn ents ns k) (s:Place) (fp:s.before=ns.take k) (l:List Trn) (hl:l.length≤1100000) (hw:∀x∈l,XW x.cond) (r:Bool) (h:List PObj) (h2:h[2]? = some (yF ents)) (h3:h[3]? = some (yA en ns a b)) (q:Nat) (hq:q≤h.length) (v:PV) (fs:List Fr) (hv:Holds h q v fs) (dI:∀x,zr fs x=true↔x∈s.vis):
  ∃h',yI L 126 [.ptr 3 0,.int .i64 k,v,.list r (l.map zF)] h=some (yx 1 a b (CZ s l),h')∧Kp h.length h h':=by
 suffices H:∃res,yI L 126 [.ptr 3 0,.int .i64 k,v,.list r (l.map zF)] h=some res∧∃h',res=(yx 1 a b (CZ s l),h')∧Kp h.length h h' by
  obtain⟨res,e1,h',e2,e3⟩:=H
  exact⟨h',by rw[e1,e2],e3⟩
 have iZ:=hv.cp
 have i7:=hv.tkv
 have mh:=hv.dem
 refine DP (hL 126 _ rfl) rfl ?_
 simp[Jk,mh]
 rw[PL]
 refine yU l.length (λj st=>∃y4 g h',st=⟨[.ptr 3 0,.int .i64 k,v,.list false (l.map zF),y4,.list false (l.map zF),.int .i64 l.length,.int .i64 j],[],g,h'⟩∧Kp h.length h h'∧CZ s l=CZ s (l.drop j)) ?_ ?_ ⟨_,_,h,rfl,Kp.refl _ _,rfl⟩
 ·rintro j hj st ⟨y4,g,h',rfl,dq,dy⟩ ih
  have kg:=yz j (by omega)
  have pg:3<h.length:=(ah.1 h3).1
  have eB:h'[2]? = some (yF ents):=(dq.2 2 (by omega)).trans h2
  have eX:h'[3]? = some (yA en ns a b):=(dq.2 3 pg).trans h3
  obtain⟨h'',hx,fO⟩:=Nv hL en ns a b ents k hn s fp l[j].cond (hw _ (ak hj)).ew 1 h' eB eX q (aH hq dq.1) v fs (hv.keep λn hn=>dq.2 n (by omega)) dI
  have gq:Kp h.length h h'':=dq.trans (fO.le dq.1)
  rw[bg hj] at dy
  have iS:CZ s (l[j]::l.drop (j+1))=if zx s l[j].cond 1=0 then CZ s (l.drop (j+1)) else zx s l[j].cond 1:=rfl
  rw[iS] at dy
  by_cases hz:zx s l[j].cond 1=0
  ·rw[af hz] at dy
   rw[hz] at hx
   simp[yx] at hx
   simp[hj,iZ,i7,hx,kg]
   exact ih _ ⟨_,_,_,rfl,gq,dy⟩
  ·rw[ae hz] at dy
   simp[yx,hz] at hx
   simp[hj,iZ,i7,hx]
   exact⟨h'',by simp[dy,yx,hz],gq⟩
 ·rintro st ⟨y4,g,h',rfl,dq,dy⟩
  rw[bl (am _)] at dy
  have:CZ s l=0:=dy
  simp[Jk]
  exact⟨h',by simp[this,yx],dq⟩
end
section
variable {h h':List PObj} {b b' n o d:Nat} {i dv up:PV} {f:Fr} {fs:List Fr}
theorem Fr.same {f:Fr} (h:f.D=f.df):({ f with D:=f.df,df:=f.df }:Fr)=f:=by cases f; simp at h ⊢; exact h.symm
theorem TopAt.upTo (t:TopAt h b b' n o d i dv up f fs) {c:Nat} (hc:b≤c):TopAt h c b' n o d i dv up f fs where
 ln:=t.ln
 lo:=t.lo
 ld:=t.ld
 un:=aP t.un hc
 uo:=aP t.uo hc
 ud:=aP t.ud hc
 no:=t.no
 nd:=t.nd
 od:=t.od
 four:=t.four
 hn:=t.hn
 ho:=t.ho
 hd:=t.hd
 hi:=by
  rcases t.hi with h|⟨m,e1,e2,e3,e4,e5,e6,e7⟩
  ·exact .inl h
  ·exact .inr ⟨m,e1,e2,aP e3 hc,e4,e5,e6,e7⟩
 row:=by
  rcases t.row with h|⟨k,e1,e2,e3,e4⟩
  ·exact .inl h
  ·exact .inr ⟨k,e1,aP e2 hc,e3,e4⟩
 rne:=t.rne
 hup:=t.hup
theorem TopAt.push (t:TopAt h h.length b' n o d i dv up f fs) (df:List Str) (h1:List PObj) (wU:h1.length=h.length) (hk:∀k,k<b'→h1[k]? = h[k]?) (eA:∀k,b'≤k→(∀s a len,dv≠.rowp k s a len)→k≠n→h1[k]? = h[k]?):
  TopAt ((h1++[PObj.cells (df.map PV.str)]).set n (.cells [up,.map (some o),.map (some d),i,.rowp h.length 1 false df.length])) (h.length+1) b' n o d i (.rowp h.length 1 false df.length) up { f with df:=df } fs:=by
 have ic:=t.un
 have mW:=t.ln
 have key:∀k,k<h.length→k≠n→(h1[k]? = h[k]?)→((h1++[PObj.cells (df.map PV.str)]).set n (.cells [up,.map (some o),.map (some d),i,.rowp h.length 1 false df.length]))[k]? = h[k]? := by
  intro k fe wV hh
  rw[ai (Ne.symm wV),al (by omega)]
  exact hh
 refine⟨t.ln,t.lo,t.ld,by omega,by have:=t.uo; omega,by have:=t.ud; omega,t.no,t.nd,t.od,t.four,?_,?_,?_,?_,?_,?_,?_⟩
 ·rw[av (by simp; omega)]
 ·rw[key o t.uo (Ne.symm t.no) (eA o t.lo (λs a len e=>(t.rne _ _ _ _ e).2.1 rfl) (Ne.symm t.no))]
  exact t.ho
 ·rw[key d t.ud (Ne.symm t.nd) (eA d t.ld (λs a len e=>(t.rne _ _ _ _ e).2.2.1 rfl) (Ne.symm t.nd))]
  exact t.hd
 ·rcases t.hi with h|⟨m,e1,e2,e3,e4,e5,e6,e7⟩
  ·exact .inl h
  ·refine .inr ⟨m,e1,e2,by omega,e4,e5,e6,?_⟩
   rw[key m e3 e4 (eA m e2 (λs a len e=>(t.rne _ _ _ _ e).2.2.2 e1) e4)]
   exact e7
 ·refine .inr ⟨h.length,by omega,by omega,rfl,?_⟩
  rw[ai (by omega),← wU]
  simp
 ·intro k s a len e
  simp only[PV.rowp.injEq] at e
  obtain⟨rfl,_⟩:=e
  have:=t.uo
  have:=t.ud
  refine⟨by omega,by omega,by omega,?_⟩
  rcases t.hi with⟨h1,_⟩|⟨m,e1,e2,e3,_⟩
  ·rw[h1]; simp
  ·rw[e1]; simp; omega
 ·refine t.hup.keep λk dt =>?_
  rw[key k (by omega) (by omega) (hk k dt)]
end
section
variable {L:Nat→Option PFunc} (hL:∀k f,LS k=some f→L k=some f) (en:List Enum) (ns:List Node) (a b:Int) (ents:zV)
include hL
theorem c7a (k:Nat) (s:Place) (l:List Str) (ji:l.length≤1100000) (h:List PObj) (h2:h[2]? = some (yF ents)) (h3:h[3]? = some (yA en ns a b)) (q' n o d:Nat) (i dv up:PV) (f:Fr) (fs:List Fr) (t:TopAt h h.length q' n o d i dv up f fs) (dI:∀x,zr (f::fs) x=true↔x∈s.vis)
  (d0:List Str) (hD:f.D=f.df) (dQ:∀x,(x∈f.I∨A5 fs x=true)↔(x∈s.inputs∨x∈d0)) (jT:f.df.length+l.length≤4000000) (V4 V5 V6:PV) {Q:PExit→St→Prop}
  (ok:(CT s l (d0++f.df)).1=0→∀h' dv' df' y5 y8,Kp q' h h'→(CT s l (d0++f.df)).2=d0++df'→TopAt h' h'.length q' n o d i dv' up { f with D:=df',df:=df' } fs→Q (.exit 0) ⟨[.ptr 3 0,.int .i64 k,.ptr n 0,V4,V5,y5,.list false (l.map PV.str),.int .i64 l.length,y8],[],1,h'⟩)
  (no:(CT s l (d0++f.df)).1≠0→∀h' y5 y8,Kp q' h h'→Q (.boom (zK 1 a b (CT s l (d0++f.df)).1)) ⟨[.ptr 3 0,.int .i64 k,.ptr n 0,V4,V5,y5,.list false (l.map PV.str),.int .i64 l.length,y8],[],1,h'⟩):
  wpL L Lo ⟨[.ptr 3 0,.int .i64 k,.ptr n 0,V4,V5,V6,.list false (l.map PV.str),.int .i64 l.length,.int .i64 0],[],1,h⟩ Q:=by
 rw[Lo]
 refine yU l.length (λj st=>∃y5 h' dv' df',st=⟨[.ptr 3 0,.int .i64 k,.ptr n 0,V4,V5,y5,.list false (l.map PV.str),.int .i64 l.length,.int .i64 j],[],1,h'⟩∧Kp q' h h'∧TopAt h' h'.length q' n o d i dv' up { f with D:=df',df:=df' } fs∧CT s l (d0++f.df)=CT s (l.drop j) (d0++df')∧df'.length=f.df.length+j) ?_ ?_ ⟨_,h,dv,f.df,rfl,Kp.refl _ _,by rw[Fr.same hD]; exact t,rfl,rfl⟩
 ·rintro j hj st ⟨y5,h',dv',df',rfl,dq,ht,dy,cY⟩ ih
  have hw:=yz j (by omega)
  have eB:h'[2]? = some (yF ents):=(dq.2 2 (by have:=ht.four; omega)).trans h2
  have eX:h'[3]? = some (yA en ns a b):=(dq.2 3 (by have:=ht.four; omega)).trans h3
  have hT:=λz=>DQ hL en ns a b h' eX z
  have hF:=λz=>DR hL en ns a b h' eX z
  have hs:=JU hL l[j] _ h' _ _ ht.holds
  have fF:=c0K hL l[j] _ h' _ _ ht.holds
  have kG:zr ({ f with D:=df',df:=df' }::fs) l[j]=decide (l[j]∈s.vis):=by
   rw[aT,ay,← dI]; rfl
  have iK:A5 ({ f with D:=df',df:=df' }::fs) l[j]=decide (l[j]∈s.inputs∨l[j]∈d0++df'):=by
   rw[aT,ay]
   have:=dQ l[j]
   simp only[A5,List.any_cons,bL,ay,aw] at this ⊢
   constructor
   ·rintro((h1|h1)|h1)
    ·exact .inr (.inr h1)
    ·rcases this.1 (.inl h1) with h2|h2
     ·exact .inl h2
     ·exact .inr (.inl h2)
    ·rcases this.1 (.inr h1) with h2|h2
     ·exact .inl h2
     ·exact .inr (.inl h2)
   ·rintro(h1|h1|h1)
    ·rcases this.2 (.inl h1) with h2|h2
     ·exact .inl (.inr h2)
     ·exact .inr h2
    ·rcases this.2 (.inr h1) with h2|h2
     ·exact .inl (.inr h2)
     ·exact .inr h2
    ·exact .inl (.inl h1)
  rw[kG] at hs
  rw[iK] at fF
  have hn:=ht.hn
  have hd:=ht.hd
  rw[bg hj] at dy
  simp only[CT] at dy
  by_cases hv:l[j]∈s.vis
  ·rw[ae (not_not_intro hv)] at dy
   by_cases qB:l[j]∈s.inputs∨l[j]∈d0++df'
   ·rw[af qB] at dy
    rw[decide_eq_true qB] at fF
    rw[decide_eq_true hv] at hs
    simp[hj,hs,fF,hT,hF]
    have:=no (by rw[dy]; simp) h' (.str l[j]) (.int .i64 j) dq
    rw[dy] at this
    exact this
   ·rw[ae qB] at dy
    rw[decide_eq_false qB] at fF
    rw[decide_eq_true hv] at hs
    obtain⟨r',hr,_,iG⟩:=Dn l[j] df'
    have gJ:CM df' l[j]=df'++[l[j]]:=by
     unfold CM; rw[ae]; intro hm; exact qB (.inr (cC _ hm))
    rw[gJ] at iG
    have jr:=ht.setD (df'++[l[j]])
    have lw:(h'.set d (PObj.map (bmE (df'++[l[j]])))).length=h'.length:=by simp
    have lx:Kp q' h (h'.set d (PObj.map (bmE (df'++[l[j]])))):=dq.trans (Kp.set ht.ld)
    obtain⟨h4,e4⟩:∃h4,h'.set d (PObj.map (bmE (df'++[l[j]])))=h4:=⟨_,rfl⟩
    rw[e4] at jr lw lx
    rw[← lw] at jr
    have n4:=jr.hn
    have ic:=jr.un
    have mW:=jr.ln
    rcases jr.row with⟨rfl,hZ⟩|⟨kr,fm,eA,rfl,ir⟩
    ·simp only at hZ
     subst hZ
     obtain⟨h5,e5⟩:∃h5,h4.set n (.cells [up,.map (some o),.map (some d),i,.list false []])=h5:=⟨_,rfl⟩
     have iN:h5.length=h4.length:=by rw[← e5]; simp
     have n5:(h5++[PObj.cells [.str l[j]]])[n]? = some (.cells [up,.map (some o),.map (some d),i,.list false []]):=by
      rw[al (by omega),← e5,av ic]
     have mi:=jr.push [l[j]] h5 iN (λc hc=>by rw[← e5,ai (by omega)]) (λc _ _ mf=>by rw[← e5,ai (Ne.symm mf)])
     simp only[aA,bI,aB,bq] at mi
     simp only[be] at e4 iG
     simp[hj,hs,fF,hT,hF,hn,hd,hr,iG,hw,zo,e4,n4,e5,n5,AI,zj,Ai]
     rw[iN]
     refine ih _ ⟨_,_,.rowp h4.length 1 false 1,[l[j]],rfl,?_,?_,?_,?_⟩
     ·refine Kp.trans lx ⟨by simp[iN],λc hc =>?_⟩
      rw[ai (by omega),al (by have:=jr.four; omega),← e5,ai (by omega)]
     ·have:((h5++[PObj.cells [.str l[j]]]).set n (.cells [up,.map (some o),.map (some d),i,.rowp h4.length 1 false 1])).length=h4.length+1:=by simp[iN]
      rw[this]
      exact mi
     ·rw[dy]; simp
     ·simp at cY ⊢; omega
    ·obtain⟨h5,e5⟩:∃h5,h4.set kr .gone=h5:=⟨_,rfl⟩
     have iN:h5.length=h4.length:=by rw[← e5]; simp
     have pF:=(jr.rne _ _ _ _ rfl).1
     have n5:(h5++[PObj.cells (df'.map PV.str++[.str l[j]])])[n]? = some (.cells [up,.map (some o),.map (some d),i,.rowp kr 1 false df'.length]):=by
      rw[al (by omega),← e5,ai pF]; exact n4
     have mi:=jr.push (df'++[l[j]]) h5 iN (λc hc=>by rw[← e5,ai (by omega)]) (λc hc fY mf=>by
      have:kr≠c:=by
       intro iu
       exact absurd rfl (fY 1 false df'.length |> λh=>by subst iu; exact h)
      rw[← e5,ai this])
     simp only[bm,aA,bI,ao,aB,bq] at mi
     simp only at ir
     have eP:df'.length≤2147483647:=by omega
     have dK:(df'.map PV.str).take df'.length=df'.map PV.str:=bW (by simp)
     have jW:(dem∘PV.str)=PV.str:=rfl
     have tg:List.map PV.str (df'.take df'.length)=List.map PV.str df':=by rw[aD]
     simp[hj,hs,fF,hT,hF,hn,hd,hr,iG,hw,zo,e4,n4,AI,ir,eP,dK,jW,tg,zj,Ai,e5,n5]
     refine ih _ ⟨_,_,.rowp h4.length 1 false (df'.length+1),df'++[l[j]],rfl,?_,?_,?_,?_⟩
     ·refine Kp.trans lx ⟨by simp[iN],λc hc =>?_⟩
      rw[ai (by omega),al (by have:=jr.four; omega),← e5,ai (by omega)]
     ·have:((h5++[PObj.cells (df'.map PV.str++[.str l[j]])]).set n (.cells [up,.map (some o),.map (some d),i,.rowp h4.length 1 false (df'.length+1)])).length=h4.length+1:=by simp[iN]
      rw[this]
      exact mi
     ·rw[dy]; simp
     ·simp at cY ⊢; omega
  ·rw[af hv] at dy
   rw[decide_eq_false hv] at hs
   simp[hj,hs,hF]
   have:=no (by rw[dy]; simp) h' (.str l[j]) (.int .i64 j) dq
   rw[dy] at this
   exact this
 ·rintro st ⟨y5,h',dv',df',rfl,dq,ht,dy,cY⟩
  rw[bl (am _)] at dy
  simp
  exact ok (by rw[dy]; rfl) h' dv' df' y5 _ dq (by rw[dy]; rfl) ht
theorem Pb (k:Nat) (dx:NodesIn ents ns k) (s:Place) (fp:s.before=ns.take k) (x:Eqn) (hx:QW x) (h:List PObj) (h2:h[2]? = some (yF ents)) (h3:h[3]? = some (yA en ns a b)) (q' n o d:Nat) (i dv up:PV) (f:Fr) (fs:List Fr) (t:TopAt h h.length q' n o d i dv up f fs) (dI:∀x,zr (f::fs) x=true↔x∈s.vis)
  (d0:List Str) (hD:f.D=f.df) (dQ:∀x,(x∈f.I∨A5 fs x=true)↔(x∈s.inputs∨x∈d0)) (jT:f.df.length+x.left.length≤4000000):
  ∃h',yI L 61 [.ptr 3 0,.int .i64 k,.ptr n 0,yZ x] h=some (yx 1 a b (AY s x (d0++f.df)).1,h')∧Kp q' h h'∧((AY s x (d0++f.df)).1=0→∃dv' df',(AY s x (d0++f.df)).2=d0++df'∧TopAt h' h'.length q' n o d i dv' up { f with D:=df',df:=df' } fs):=by
 suffices H:∃res,yI L 61 [.ptr 3 0,.int .i64 k,.ptr n 0,yZ x] h=some res∧∃h',res=(yx 1 a b (AY s x (d0++f.df)).1,h')∧Kp q' h h'∧((AY s x (d0++f.df)).1=0→∃dv' df',(AY s x (d0++f.df)).2=d0++df'∧TopAt h' h'.length q' n o d i dv' up { f with D:=df',df:=df' } fs) by
  obtain⟨res,e1,h',e2,e3⟩:=H
  exact⟨h',by rw[e1,e2],e3⟩
 refine DP (hL 61 _ rfl) rfl ?_
 simp[F1]
 refine c7a hL en ns a b ents k s x.left hx.left h h2 h3 q' n o d i dv up f fs t dI d0 hD dQ jT _ _ _ ?_ ?_
 ·intro hz h' dv' df' y5 y8 dq fF ht
  have eB:h'[2]? = some (yF ents):=(dq.2 2 (by have:=ht.four; omega)).trans h2
  have eX:h'[3]? = some (yA en ns a b):=(dq.2 3 (by have:=ht.four; omega)).trans h3
  obtain⟨h'',ov,fO⟩:=Nv hL en ns a b ents k dx s fp x.right hx.right.ew x.left.length h' eB eX h'.length (am _) _ _ ht.holds dI
  have he:AY s x (d0++f.df)=(zx s x.right x.left.length,d0++df'):=by
   unfold AY AB
   rw[af hz,fF]
  have nh:q'≤h'.length:=aH ht.ln (Nat.le_of_lt ht.un)
  by_cases eZ:zx s x.right x.left.length=0
  ·rw[eZ] at ov
   simp[yx] at ov
   simp[ov,F1]
   refine⟨h'',by rw[he]; simp[eZ,yx],dq.trans (fO.le nh),λ_=>⟨dv',df',by rw[he],(ht.keep fO.2).upTo fO.1⟩⟩
  ·simp[yx,eZ] at ov
   simp[ov,F1]
   refine⟨h'',by rw[he]; simp[eZ,yx],dq.trans (fO.le nh),λh0 =>?_⟩
   rw[he] at h0
   exact absurd h0 eZ
 ·intro hz h' y5 y8 dq
  have he:AY s x (d0++f.df)=((CT s x.left (d0++f.df)).1,[]):=by
   unfold AY
   exact B0 hz _
  simp[F1]
  refine⟨h',by rw[he]; simp[yx,hz],dq,λh0 =>?_⟩
  rw[he] at h0
  exact absurd h0 hz
end
def CQ {α:Type} (P:α→Bool) (l:List α):Int:=match l.findIdx? P with
 | none => -1
 | some i=>i
theorem HD {α:Type} {P:α→Bool} {l:List α} {j:Nat} (hj:j<l.length) (hp:P l[j]=true) (hn:∀i (hi:i<l.length),i<j→P l[i]=false):CQ P l=j:=by
 have:l.findIdx? P=some j:=by
  rw[List.findIdx?_eq_some_iff_getElem]
  exact⟨hj,hp,λi hi=>by simpa using hn i (by omega) hi⟩
 simp[CQ,this]
theorem HE {α:Type} {P:α→Bool} {l:List α} (hn:∀i (hi:i<l.length),P l[i]=false):CQ P l = -1:=by
 have:l.findIdx? P=none:=by
  rw[List.findIdx?_eq_none_iff]
  intro x hx
  obtain⟨i,hi,rfl⟩:=bC.1 hx
  exact hn i hi
 simp[CQ,this]
theorem JE {α:Type} (P:α→Bool) (l:List α):decide (0≤CQ P l)=l.any P:=by
 unfold CQ
 cases h:l.findIdx? P with
 | none =>
   rw[List.findIdx?_eq_none_iff] at h
   symm
   simp only[show ¬(0:Int)≤-1 by decide,decide_false]
   rw[List.any_eq_false]
   intro x hx; simp[h x hx]
 | some i =>
   have:=List.findIdx?_eq_some_iff_getElem.1 h
   obtain⟨h1,h2,_⟩:=this
   simp only[show (0:Int)≤(i:Int) by omega,decide_true]
   symm
   rw[List.any_eq_true]
   exact⟨_,ak h1,h2⟩
def d4l (h:List PObj) (v:PV) (l:List Str):Prop:=(∃o,v = .list o (l.map PV.str))∨∃k,v = .rowp k 1 false l.length∧h[k]? = some (.cells (l.map PV.str))
section
variable {L:Nat→Option PFunc} (hL:∀k f,LS k=some f→L k=some f)
include hL
theorem Nw (l:List Str) (hl:l.length≤2000000000) (v:PV) (h:List PObj) (hv:d4l h v l) (k:Nat) (cs:List PV) (P:Str→Bool) (dr:∀x∈l,ym L k [.str x,.cptr cs] h=some (.bool (P x),h)):ym L 151 [v,.func k [] [.cptr cs]] h=some (.int .i64 (CQ P l),h):=by
 refine yB (hL 151 _ rfl) rfl ?_
 rcases hv with⟨o,rfl⟩|⟨n,rfl,hn⟩
 ·simp[F6]
  rw[LN]
  refine yU l.length (λj st=>∃y3,st=⟨[.list false (l.map PV.str),.func k [] [.cptr cs],.int .i64 0,y3,.int .i64 l.length,.int .i64 j],[],0,h⟩∧∀i (hi:i<l.length),i<j→P l[i]=false) ?_ ?_ ⟨_,rfl,λi _ hi=>by omega⟩
  ·rintro j hj st ⟨y3,rfl,hn⟩ ih
   have hw:=yz j (by omega)
   have hc:=dr l[j] (ak hj)
   cases hp:P l[j] with
   | true =>
     rw[hp] at hc
     simp[hj,hc,hw,HD hj hp hn]
   | false =>
     rw[hp] at hc
     simp[hj,hc,hw]
     refine ih _ ⟨_,rfl,λi hi m8 =>?_⟩
     by_cases he:i=j
     ·subst he; exact hp
     ·exact hn i hi (by omega)
  ·rintro st ⟨y3,rfl,hn⟩
   simp[F6,HE (λi hi=>hn i hi hi)]
 ·simp[F6]
  rw[LN]
  refine yU l.length (λj st=>∃y3,st=⟨[.rowp n 1 false l.length,.func k [] [.cptr cs],.int .i64 0,y3,.int .i64 l.length,.int .i64 j],[],0,h⟩∧∀i (hi:i<l.length),i<j→P l[i]=false) ?_ ?_ ⟨_,rfl,λi _ hi=>by omega⟩
  ·rintro j hj st ⟨y3,rfl,rY⟩ ih
   have hw:=yz j (by omega)
   have hc:=dr l[j] (ak hj)
   cases hp:P l[j] with
   | true =>
     rw[hp] at hc
     simp[hj,hc,hw,hn,HD hj hp rY]
   | false =>
     rw[hp] at hc
     simp[hj,hc,hw,hn]
     refine ih _ ⟨_,rfl,λi hi m8 =>?_⟩
     by_cases he:i=j
     ·subst he; exact hp
     ·exact rY i hi (by omega)
  ·rintro st ⟨y3,rfl,rY⟩
   simp[F6,HE (λi hi=>rY i hi hi)]
theorem c7b (l:List Str) (hl:l.length≤2000000000) (o:Bool) (h:List PObj) (k:Nat) (cs:List PV) (P:Str→Bool) (dr:∀x∈l,ym L k [.str x,.cptr cs] h=some (.bool (P x),h)):ym L 129 [.list o (l.map .str),.func k [] [.cptr cs]] h=some (.bool (l.any P),h):=by
 have hi:=Nw hL l hl _ h (.inl ⟨false,rfl⟩) k cs P dr
 refine yB (hL 129 _ rfl) rfl ?_
 simp[LF,hi,← JE]
theorem Qx (l:List Str) (hl:l.length≤2000000000) (o:Bool) (s:Str) (h:List PObj):ym L 110 [.list o (l.map .str),.str s] h=some (.bool (decide (s∈l)),h):=by
 obtain⟨P,hP⟩:∃P:Str→Bool,∀x,P x=decide (x=s):=⟨_,λ_=>rfl⟩
 have hi:ym L 139 [.list false (l.map .str),.str s] h=some (.int .i64 (CQ P l),h):=by
  refine yB (hL 139 _ rfl) rfl ?_
  simp[Jm]
  rw[PN]
  refine yU l.length (λj st=>∃y3,st=⟨[.list false (l.map PV.str),.str s,.int .i64 0,y3,.int .i64 l.length,.int .i64 j],[],0,h⟩∧∀i (hi:i<l.length),i<j→P l[i]=false) ?_ ?_ ⟨_,rfl,λi _ hi=>by omega⟩
  ·rintro j hj st ⟨y3,rfl,hn⟩ ih
   have hw:=yz j (by omega)
   by_cases hp:l[j]=s
   ·have fB:s=l[j]:=hp.symm
    have pp:P l[j]=true:=by rw[hP]; simpa using hp
    simp[hj,hw,tf hp,tf fB,HD hj pp hn]
   ·have fB:¬s=l[j]:=λe=>hp e.symm
    have pp:P l[j]=false:=by rw[hP]; simpa using hp
    simp[hj,hw,tf hp,tf fB]
    refine ih _ ⟨_,rfl,λi hi m8 =>?_⟩
    by_cases he:i=j
    ·subst he; exact pp
    ·exact hn i hi (by omega)
  ·rintro st ⟨y3,rfl,hn⟩
   simp[Jm,HE (λi hi=>hn i hi hi)]
 have ha:decide (s∈l)=l.any P:=by
  rw[aT,ay,List.any_eq_true]
  constructor
  ·intro hm; exact⟨s,hm,by rw[hP]; simp⟩
  ·rintro⟨x,hm,hx⟩; rw[hP] at hx; simp at hx; subst hx; exact hm
 rw[ha]
 refine yB (hL 110 _ rfl) rfl ?_
 simp[LD,hi,← JE]
theorem R4 (l m:List Str) (hl:l.length≤2000000000) (hm:m.length≤2000000000) (o1 o2:Bool) (h:List PObj):ym L 103 [.list o1 (l.map .str),.list o2 (m.map .str)] h=some (.bool (decide (l.length=m.length)&&l.all λx=>decide (x∈m)),h):=by
 have hc:∀x∈l,ym L 130 [.str x,.cptr [.list false (m.map PV.str)]] []=some (.bool (!decide (x∈m)),[]):=by
  intro x _
  have:=Qx hL m hm false x []
  refine yB (hL 130 _ rfl) rfl ?_
  simp[LG,this]
 have ha:=c7b hL l hl false [] 130 [.list false (m.map PV.str)] (λx => !decide (x∈m)) hc
 refine yB (hL 103 _ rfl) rfl ?_
 have dT:(l.all λx=>decide (x∈m)) = !(l.any λx => !decide (x∈m)):=by simp[List.all_eq_not_any_not]
 rw[dT]
 by_cases cY:l.length=m.length
 ·have hi:(l.length:Int)=m.length:=by omega
  simp[Jg,tf hi,ha,tf cY]
 ·have hi:¬(l.length:Int)=m.length:=by omega
  simp[Jg,tf hi,tf cY]
end
section
variable {L:Nat→Option PFunc} (hL:∀k f,LS k=some f→L k=some f)
include hL
theorem b8l (e:Expr) (h:List PObj):ym L 242 [yq e] h=some (.bool (isVar e.kind),h):=by
 refine yB (hL 242 _ rfl) rfl ?_
 by_cases h2:e.kind=2
 ·simp[F8,isVar,h2]
 ·by_cases h8:e.kind=8
  ·simp[F8,isVar,h8]
  ·by_cases h9:e.kind=9
   ·simp[F8,isVar,h9]
   ·simp[F8,isVar,h2,h8,h9]
theorem c0t (e:Expr) (hp:e.parts≤1100000) (ih:∀x∈e.args,∀(l:List Str),l.length+x.parts≤2200000→ym L 231 (BY (some 0) [.list true (l.map .str),yq x,.bool true]) []=some (.list true ((Bv l x).map .str),[]))
  (l:List Str) (hl:l.length+yE Expr.parts e.args≤2200000) (g:Nat) (y5 y6:PV) {Q:PExit→St→Prop}
  (hk:∀y5 y6 y9 g',Q (.exit 0) ⟨[.list true ((Du e.kind 0 l e.args).map .str),yq e,.bool true,.loc 0 [.int .i64 e.kind,.int .i64 e.op,.int .i64 e.t,.int .i64 e.v,.str e.name,.list false (e.args.map yq)],.list true [],y5,y6,.list false (e.args.map yq),.int .i64 e.args.length,y9],[],g',[]⟩):
  wpL L ME ⟨[.list true (l.map .str),yq e,.bool true,.loc 0 [.int .i64 e.kind,.int .i64 e.op,.int .i64 e.t,.int .i64 e.v,.str e.name,.list false (e.args.map yq)],.list true [],y5,y6,.list false (e.args.map yq),.int .i64 e.args.length,.int .i64 0],[],g,[]⟩ Q:=by
 rw[ME]
 have dS:=Qw e
 refine yU e.args.length (λj st=>∃z y5 y6 g',st=⟨[.list true (z.map PV.str),yq e,.bool true,.loc 0 [.int .i64 e.kind,.int .i64 e.op,.int .i64 e.t,.int .i64 e.v,.str e.name,.list false (e.args.map yq)],.list true [],y5,y6,.list false (e.args.map yq),.int .i64 e.args.length,.int .i64 j],[],g',[]⟩∧Du e.kind j z (e.args.drop j)=Du e.kind 0 l e.args∧z.length≤l.length+yE Expr.parts (e.args.take j)) ?_ ?_ ⟨l,y5,y6,g,rfl,by simp,by simp[yE]⟩
 ·rintro j hj st ⟨z,y5,y6,g',rfl,h1,h2⟩ ih2
  have hw:=yz j (by omega)
  have h3:=c0S Expr.parts hj
  have h4:=c4z Expr.parts e.args (j+1)
  have hc:=ih e.args[j] (ak hj) z (by omega)
  rw[bg hj,Du] at h1
  by_cases h5:e.kind=5
  ·have hd:Eo e.kind j=true:=by simp[Eo,h5]
   rw[af hd] at h1
   have dt:=λy5 y6 y9 g'=>hk y5 y6 y9 g'
   rw[← h1] at dt
   have n7:¬e.kind=7:=by omega
   simp[hj,tf h5,n7,hw]
   simpa using dt _ _ _ _
  ·by_cases h7:e.kind=7
   ·by_cases h0:0<j
    ·have hd:Eo e.kind j=true:=by simp[Eo,h7,h0]
     rw[af hd] at h1
     have dt:=λy5 y6 y9 g'=>hk y5 y6 y9 g'
     rw[← h1] at dt
     simp[hj,tf h7,h5,h0,hw]
     simpa using dt _ _ _ _
    ·have hd:Eo e.kind j=false:=by simp[Eo,h7]; omega
     rw[hd] at h1
     have ih3:=ih2
     simp[hj,tf h7,h5,h0,hw,hc]
     refine ih2 _ ⟨Bv z e.args[j],_,_,_,rfl,by simpa using h1,?_⟩
     have:=HC z e.args[j]
     have e0:e.args[j].list.length=e.args[j].parts:=rfl
     omega
   ·have hd:Eo e.kind j=false:=by simp[Eo,h5,h7]
    rw[hd] at h1
    simp[hj,h5,h7,hw,hc]
    refine ih2 _ ⟨Bv z e.args[j],_,_,_,rfl,by simpa using h1,?_⟩
    have:=HC z e.args[j]
    have e0:e.args[j].list.length=e.args[j].parts:=rfl
    omega
 ·rintro st ⟨z,y5,y6,g',rfl,h1,h2⟩
  simp only[List.drop_length,Du] at h1
  rw[← h1] at hk
  simp
  simpa using hk _ _ _ _
theorem c3Y (e:Expr):e.parts≤1100000→∀(l:List Str),l.length+e.parts≤2200000→ym L 231 (BY (some 0) [.list true (l.map .str),yq e,.bool true]) []=some (.list true ((Bv l e).map .str),[]):=by
 induction e using Expr.ind with
 | h e ih=>
 intro hp l hl
 have hv:=b8l hL e []
 have hh:=Qx hL l (by omega) false e.name []
 have hi:=c7o l e
 have hpe:=parts_eq e
 have eJ:l.length+1≤2147483648:=by omega
 have nF:=λ(l':List Str) (h':l'.length≤l.length+1) => @c0t L hL e hp (λx hx l h=>ih x hx (by have:=Qy hx; omega) l h) l' (by omega)
 refine c3p (hL 231 _ rfl) rfl ?_
 by_cases pX:isVar e.kind=true
 ·by_cases hm:e.name∈l
  ·have e1:Dv l e.kind e.name=l:=by simp[Dv,hm]
   rw[e1] at hi
   simp[Hx,C4,hv,hh,pX,hm]
   have hx:=nF l (by omega)
   refine hx _ _ _ ?_
   intro y5 y6 y9 g'
   simp[hi]
  ·have e1:Dv l e.kind e.name=l++[e.name]:=by simp[Dv,hm,pX]
   rw[e1] at hi
   simp[Hx,C4,hv,hh,pX,hm,eJ]
   have hx:=nF (l++[e.name]) (by simp)
   simp only[bm,aA,bI] at hx
   refine hx _ _ _ ?_
   intro y5 y6 y9 g'
   simp[hi]
 ·have e1:Dv l e.kind e.name=l:=by simp[Dv,pX]
  rw[e1] at hi
  simp[Hx,C4,hv,hh,pX]
  have hx:=nF l (by omega)
  refine hx _ _ _ ?_
  intro y5 y6 y9 g'
  simp[hi]
theorem c0u (e:Expr) (hp:e.parts≤1100000):ym L 217 [yq e] []=some (.list true ((Bv [] e).map .str),[]):=by
 have hc:=c3Y hL e hp [] (by simp; omega)
 refine yB (hL 217 _ rfl) rfl ?_
 simp at hc
 simp[Mp,hc]
end
section
variable {L:Nat→Option PFunc} (hL:∀k f,LS k=some f→L k=some f)
include hL
theorem c2f (l:List State) (hl:l.length≤2000000000) (o:Bool) (h:List PObj) (x:State):ym L 100 [.list o (l.map yQ),.func 101 [] [.cptr (yQ x).cells]] h=some (.bool (l.any λs=>decide (s.name=x.name)),h):=by
 obtain⟨P,hP⟩:∃P:State→Bool,∀s,P s=decide (s.name=x.name):=⟨_,λ_=>rfl⟩
 have dr:∀s:State,ym L 101 [yQ s,.cptr (yQ x).cells] h=some (.bool (P s),h):=by
  intro s
  rw[hP]
  refine yB (hL 101 _ rfl) rfl ?_
  simp[Lx]
 simp only[MO] at dr
 have hi:ym L 125 [.list false (l.map yQ),.func 101 [] [.cptr (yQ x).cells]] h=some (.int .i64 (CQ P l),h):=by
  refine yB (hL 125 _ rfl) rfl ?_
  simp[Jj]
  rw[PK]
  refine yU l.length (λj st=>∃y3,st=⟨[.list false (l.map yQ),.func 101 [] [.cptr [.str x.name,.list false (x.locals.map yw),.list false (x.eqs.map yZ),.list false (x.autos.map zk),.list false (x.unl.map zF),.list false (x.til.map zF)]],.int .i64 0,y3,.int .i64 l.length,.int .i64 j],[],0,h⟩∧∀i (hi:i<l.length),i<j→P l[i]=false) ?_ ?_ ⟨_,rfl,λi _ hi=>by omega⟩
  ·rintro j hj st ⟨y3,rfl,hn⟩ ih
   have hw:=yz j (by omega)
   have hc:=dr l[j]
   cases hp:P l[j] with
   | true =>
     rw[hp] at hc
     simp[hj,hc,hw,HD hj hp hn]
   | false =>
     rw[hp] at hc
     simp[hj,hc,hw]
     refine ih _ ⟨_,rfl,λi hi m8 =>?_⟩
     by_cases he:i=j
     ·subst he; exact hp
     ·exact hn i hi (by omega)
  ·rintro st ⟨y3,rfl,hn⟩
   simp[Jj,HE (λi hi=>hn i hi hi)]
 have ha:(l.any λs=>decide (s.name=x.name))=l.any P:=by
  congr 1; funext s; exact(hP s).symm
 rw[ha]
 simp only[MO] at hi
 refine yB (hL 100 _ rfl) rfl ?_
 simp[Lw,hi,← JE]
theorem b5G (o:Bool) (k:Nat) (cs:List PV) (h:List PObj):ym L 127 [.list o [],.func k [] [.cptr cs]] h=some (.list false [],h):=by
 have hi:=Nw hL [] (by simp) (.list false []) h (.inl ⟨false,rfl⟩) k cs (λ_=>false) (by simp)
 refine yB (hL 127 _ rfl) rfl ?_
 simp[CQ] at hi
 simp[Hk,hi]
theorem c2g (l:List Str) (hl:l.length≤2000000000) (h:List PObj) (kr:Nat) (hk:h[kr]? = some (.cells (l.map PV.str))) (k:Nat) (cs:List PV) (P:Str→Bool) (dr:∀o,∀x∈l,ym L k [.str x,.cptr cs] (h.set kr o)=some (.bool (P x),h.set kr o)):ym L 127 [.rowp kr 1 false l.length,.func k [] [.cptr cs]] h=some (.rowp kr 1 false (l.filter λx => !P x).length,h.set kr (.cells ((l.filter λx => !P x).map PV.str))):=by
 have eU:h.set kr (.cells (l.map PV.str))=h:=Ch hk
 have ly:kr<h.length:=(ah.1 hk).1
 have hi:=Nw hL l hl (.rowp kr 1 false l.length) h (.inr ⟨kr,rfl,hk⟩) k cs P (λx hx=>by have:=dr (.cells (l.map PV.str)) x hx; rwa [eU] at this)
 refine yB (hL 127 _ rfl) rfl ?_
 cases hf:l.findIdx? P with
 | none =>
   have fY:l.filter (λx => !P x)=l:=by
    rw[List.findIdx?_eq_none_iff] at hf
    rw[List.filter_eq_self]
    intro x hx; simp[hf x hx]
   simp[CQ,hf] at hi
   simp[Hk,hi,fY,eU]
 | some i0 =>
   obtain⟨dM,wW,dQ⟩:=List.findIdx?_eq_some_iff_getElem.1 hf
   simp[CQ,hf] at hi
   have m7:=yz i0 (by omega)
   have qC:(l.take (i0+1)).filter (λx => !P x)=l.take i0:=by
    rw[a8,an dM]
    simp only[Option.toList,List.filter_append,cK,wW,Bool.not_true,aJ,if_false,List.filter_nil,aW]
    rw[List.filter_eq_self]
    intro x hx
    obtain⟨j,hj,rfl⟩:=bC.1 hx
    simp only[ba] at hj
    rw[cO]
    have:=dQ j (by omega)
    simpa using this
   have dh:¬(i0:Int) = -1:=by omega
   simp[Hk,hi,m7,dh]
   rw[PM]
   refine yU (l.length - (i0+1)) (λj st=>∃y5 mid,st=⟨[.rowp kr 1 false l.length,.func k [] [.cptr cs],.list true [],.int .i64 ((l.take (i0+1+j)).filter λx => !P x).length,.int .i64 (i0+1+j:Nat),y5],[],0,h.set kr (.cells (((l.take (i0+1+j)).filter (λx => !P x)++mid++l.drop (i0+1+j)).map PV.str))⟩∧((l.take (i0+1+j)).filter λx => !P x).length+mid.length=i0+1+j) ?_ ?_ ⟨.dead,[l[i0]],?_,?_⟩
   ·rintro j hj st ⟨y5,mid,rfl,hm⟩ ih
    obtain⟨J,hJ⟩:∃J,J=i0+1+j:=⟨_,rfl⟩
    have oz:J<l.length:=by omega
    rw[← hJ] at hm ⊢
    have wX:i0+1+(j+1)=J+1:=by omega
    rw[wX] at ih
    have hw:=yz J (by omega)
    obtain⟨F,hF⟩:∃F,F=(l.take J).filter λx => !P x:=⟨_,rfl⟩
    rw[← hF] at hm ⊢
    have wY:=yz F.length (by omega)
    have mI:(l.take (J+1)).filter (λx => !P x)=F++if P l[J] then[] else[l[J]]:=by
     rw[a8,an oz,List.filter_append,← hF]
     simp only[Option.toList,cK,List.filter_nil]
     cases P l[J]<;>simp
    rw[mI] at ih
    have yN:(F++mid++l.drop J)[J]? = some l[J]:=by
     rw[aq (by simp; omega)]
     simp[hm,bc,an oz]
    have hc:=dr (.cells ((F++mid++l.drop J).map PV.str)) l[J] (ak oz)
    have hcell:(h.set kr (.cells ((F++mid++l.drop J).map PV.str)))[kr]? = some (.cells ((F++mid++l.drop J).map PV.str)):=by rw[av ly]
    obtain⟨C,hC⟩:∃C,C=F++mid++l.drop J:=⟨_,rfl⟩
    rw[← hC] at yN hc hcell ⊢
    obtain⟨h1,e1⟩:∃h1,h.set kr (.cells (C.map PV.str))=h1:=⟨_,rfl⟩
    rw[e1] at hc hcell ⊢
    have u9:J<C.length:=(ah.1 yN).1
    have va:C[J]=l[J]:=(ah.1 yN).2
    have hFJ:F.length≤J:=by omega
    cases hp:P l[J] with
    | true =>
      rw[hp] at hc ih
      simp only[if_true,aW] at ih
      simp[oz,hcell,yN,hc,hw,u9,va]
      have o7:C=F++(mid++[l[J]])++l.drop (J+1):=by rw[hC,bg oz]; simp
      have:=ih ⟨[.rowp kr 1 false l.length,.func k [] [.cptr cs],.list true [],.int .i64 F.length,.int .i64 (J+1:Nat),.str l[J]],[],0,h1⟩ ⟨_,mid++[l[J]],by rw[← e1,o7],by simp; omega⟩
      simpa using this
    | false =>
      rw[hp] at hc ih
      simp only[aJ,if_false] at ih
      have mU:F.length<l.length:=by omega
      have wZ:F.length<C.length:=by omega
      have yH:∃mid',C.set F.length l[J]=F++[l[J]]++mid'++l.drop (J+1)∧(F++[l[J]]).length+mid'.length=J+1:=by
       rw[hC,bg oz]
       generalize l.drop (J+1)=R
       generalize l[J]=x
       cases mid with
       | nil=>exact⟨[],by simp,by simp at hm ⊢; omega⟩
       | cons m0 ms=>exact⟨ms++[x],by simp,by simp at hm ⊢; omega⟩
      obtain⟨mid',fo,kI⟩:=yH
      have fc:h1.set kr (.cells ((C.map PV.str).set F.length (.str l[J])))=h.set kr (.cells ((F++[l[J]]++mid'++l.drop (J+1)).map PV.str)):=by rw[← e1,List.set_set,← fo,List.map_set]
      simp[oz,hcell,yN,hc,hw,u9,va,wY,mU,wZ,Ai,fc]
      have:=ih ⟨[.rowp kr 1 false l.length,.func k [] [.cptr cs],.list true [],.int .i64 (F++[l[J]]).length,.int .i64 (J+1:Nat),.str l[J]],[],0,h.set kr (.cells ((F++[l[J]]++mid'++l.drop (J+1)).map PV.str))⟩ ⟨_,mid',rfl,kI⟩
      simpa using this
   ·rintro st ⟨y5,mid,rfl,hm⟩
    have hJ:i0+1+(l.length - (i0+1))=l.length:=by omega
    rw[hJ] at hm ⊢
    rw[aD] at hm ⊢
    rw[List.drop_length]
    obtain⟨F,hF⟩:∃F,F=l.filter λx => !P x:=⟨_,rfl⟩
    rw[← hF] at hm ⊢
    have mU:F.length≤l.length:=by omega
    have gZ:((F++mid).map PV.str).take F.length=F.map PV.str:=by rw[bm,cU (by simp),bW (by simp)]
    rw[bm] at gZ
    by_cases nb:F=[]
    ·subst nb
     simp[ly]
    ·have hF1:¬F.length=0:=λe=>nb (bD.1 e)
     have jE:cp (.rows kr 1 false F.length (l.length - F.length))=some (.rows kr 1 false F.length (l.length - F.length)):=rfl
     simp[ly,mU,nb,gZ,jE]
   ·rw[bx,qC]
    have:(l.take i0).length=i0:=by simp; omega
    have eJ:l.take i0++[l[i0]]++l.drop (i0+1)=l:=by
     rw[aI,List.singleton_append,List.getElem_cons_drop,bY]
    rw[this,eJ,eU]
    simp
   ·rw[bx,qC]
    simp; omega
end
theorem c2h (tags:List Str) (d:Decl) (l:List Decl) (v:List Str):zO tags (d::l) v=AB (zO tags [d] v) (zO tags l):=by
 simp only[zO]
 split
 ·rw[B0 (by decide)]
 ·rfl
theorem c2j (s:Place) {l:List Eqn} {d r:List Str} (h:A9 s l d=(0,r)):r.length=d.length+(zz l).length:=by
 rw[((Fh s l d r).1 h).1,ao]
section
variable {L:Nat→Option PFunc} (hL:∀k f,LS k=some f→L k=some f) (en:List Enum) (ns:List Node) (a b:Int) (ents:zV)
include hL
theorem b8H (tags:List Str) (ej:Do ents tags) (l:List Decl) (hl:l.length≤1100000) (h:List PObj) (h2:h[2]? = some (yF ents)) (h3:h[3]? = some (yA en ns a b)) (q' n o d:Nat) (i dv up:PV) (f:Fr) (fs:List Fr) (t:TopAt h h.length q' n o d i dv up f fs) (vis:List Str) (dI:∀x,zr (f::fs) x=true↔x∈vis)
  (V0 V1 V2 V3 V4 V5 V7 V8 V9 V10 V14 V15 V16 V17 V18 V19 V20 V21 V22:PV) (gi g:Nat) {Q:PExit→St→Prop} (kw:V0 = .ptr 3 0)
  (ok:(zO tags l vis).1=0→∀h' O y7 g',Kp q' h h'→h'.length=h.length→TopAt h' h'.length q' n o d i dv up { f with O:=O } fs→(∀x,zr ({ f with O:=O }::fs) x=true↔x∈(zO tags l vis).2)→(∀x,x∈O↔x∈f.O∨x∈yp l)→Q (.exit 0) ⟨[V0,V1,V2,V3,V4,V5,.loc gi [.ptr n 0],y7,V8,V9,V10,.list false (l.map yw),.int .i64 l.length,.int .i64 l.length,V14,V15,V16,V17,V18,V19,V20,V21,V22],[],g',h'⟩)
  (no:(zO tags l vis).1≠0→∀h' y7 y13 g',Kp q' h h'→Q (.boom (zK 1 a b (zO tags l vis).1)) ⟨[V0,V1,V2,V3,V4,V5,.loc gi [.ptr n 0],y7,V8,V9,V10,.list false (l.map yw),.int .i64 l.length,y13,V14,V15,V16,V17,V18,V19,V20,V21,V22],[],g',h'⟩):
  wpL L Ly ⟨[V0,V1,V2,V3,V4,V5,.loc gi [.ptr n 0],V7,V8,V9,V10,.list false (l.map yw),.int .i64 l.length,.int .i64 0,V14,V15,V16,V17,V18,V19,V20,V21,V22],[],g,h⟩ Q:=by
 subst kw
 rw[Ly]
 refine yU l.length (λj st=>∃y7 g' h' O vis',st=⟨[.ptr 3 0,V1,V2,V3,V4,V5,.loc gi [.ptr n 0],y7,V8,V9,V10,.list false (l.map yw),.int .i64 l.length,.int .i64 j,V14,V15,V16,V17,V18,V19,V20,V21,V22],[],g',h'⟩∧Kp q' h h'∧h'.length=h.length∧TopAt h' h'.length q' n o d i dv up { f with O:=O } fs∧zO tags l vis=zO tags (l.drop j) vis'∧(∀x,zr ({ f with O:=O }::fs) x=true↔x∈vis')∧∀x,x∈O↔x∈f.O∨x∈yp (l.take j)) ?_ ?_ ⟨_,_,h,f.O,vis,rfl,Kp.refl _ _,rfl,t,rfl,dI,λx=>by simp[yp]⟩
 ·rintro j hj st ⟨y7,g',h',O,vis',rfl,dq,cY,ht,dy,hv,hO⟩ ih
  have hw:=yz j (by omega)
  have eB:h'[2]? = some (yF ents):=(dq.2 2 (by have:=ht.four; omega)).trans h2
  have eX:h'[3]? = some (yA en ns a b):=(dq.2 3 (by have:=ht.four; omega)).trans h3
  obtain⟨h'',O'',hx,fO,p6,iA,ma⟩:=Pe hL en ns a b ents tags ej [l[j]] (by simp) false h' eB eX _ q' n o d i dv up _ fs ht vis' hv
  simp only[aA,bI] at hx
  have th:TopAt h'' h''.length q' n o d i dv up { f with O:=O'' } fs:=by rw[p6]; exact iA
  rw[bg hj,c2h] at dy
  have gT:yp (l.take (j+1))=yp (l.take j)++[l[j].name]:=by simp only[yp,a8,an hj,Option.toList,bm,aA,bI]
  by_cases hz:(zO tags [l[j]] vis').1=0
  ·obtain⟨eN,gS⟩:=ma hz
   have iS:zO tags l vis=zO tags (l.drop (j+1)) (zO tags [l[j]] vis').2:=by rw[dy]; exact af hz
   rw[hz] at hx
   simp[yx] at hx
   simp[hj,hx,hw]
   refine ih _ ⟨_,_,h'',O'',_,rfl,dq.trans fO,by rw[p6,cY],th,iS,eN,λx =>?_⟩
   rw[gS,hO,gT]
   simp[yp,or_assoc]
  ·rw[B0 hz] at dy
   simp[yx,hz] at hx
   simp[hj,hx]
   have:=no (by rw[dy]; exact hz) h'' (.loc g' (yw l[j]).cells) (.int .i64 j) (g'+1) (dq.trans fO)
   rw[dy] at this
   simpa using this
 ·rintro st ⟨y7,g',h',O,vis',rfl,dq,cY,ht,dy,hv,hO⟩
  rw[bl (am _)] at dy
  rw[aD] at hO
  simp
  exact ok (by rw[dy]; rfl) h' O y7 g' dq cY ht (by rw[dy]; exact hv) hO
theorem b8I (k:Nat) (dx:NodesIn ents ns k) (s:Place) (fp:s.before=ns.take k) (l:List Eqn) (hl:l.length≤1100000) (hq:∀x∈l,QW x) (h:List PObj) (h2:h[2]? = some (yF ents)) (h3:h[3]? = some (yA en ns a b)) (q' n o d:Nat) (i dv up:PV) (f:Fr) (fs:List Fr) (t:TopAt h h.length q' n o d i dv up f fs) (dI:∀x,zr (f::fs) x=true↔x∈s.vis)
  (d0:List Str) (hD:f.D=f.df) (dQ:∀x,(x∈f.I∨A5 fs x=true)↔(x∈s.inputs∨x∈d0)) (jT:f.df.length+(zz l).length≤4000000)
  (V0 V1 V2 V3 V4 V5 V7 V8 V9 V10 V11 V12 V13 V17 V18 V19 V20 V21 V22:PV) (gi g:Nat) {Q:PExit→St→Prop} (kw:V0 = .ptr 3 0) (oA:V1 = .int .i64 k)
  (ok:(A9 s l (d0++f.df)).1=0→∀h' dv' df' y8 g',Kp q' h h'→(A9 s l (d0++f.df)).2=d0++df'→TopAt h' h'.length q' n o d i dv' up { f with D:=df',df:=df' } fs→Q (.exit 2) ⟨[V0,V1,V2,V3,V4,V5,.loc gi [.ptr n 0],V7,y8,V9,V10,V11,V12,V13,.list false (l.map yZ),.int .i64 l.length,.int .i64 l.length,V17,V18,V19,V20,V21,V22],[],g',h'⟩)
  (no:(A9 s l (d0++f.df)).1≠0→∀h' y8 y16 g',Kp q' h h'→Q (.boom (zK 1 a b (A9 s l (d0++f.df)).1)) ⟨[V0,V1,V2,V3,V4,V5,.loc gi [.ptr n 0],V7,y8,V9,V10,V11,V12,V13,.list false (l.map yZ),.int .i64 l.length,y16,V17,V18,V19,V20,V21,V22],[],g',h'⟩):
  wpL L Lz ⟨[V0,V1,V2,V3,V4,V5,.loc gi [.ptr n 0],V7,V8,V9,V10,V11,V12,V13,.list false (l.map yZ),.int .i64 l.length,.int .i64 0,V17,V18,V19,V20,V21,V22],[],g,h⟩ Q:=by
 subst kw
 subst oA
 rw[Lz]
 refine yU l.length (λj st=>∃y8 g' h' dv' df',st=⟨[.ptr 3 0,.int .i64 k,V2,V3,V4,V5,.loc gi [.ptr n 0],V7,y8,V9,V10,V11,V12,V13,.list false (l.map yZ),.int .i64 l.length,.int .i64 j,V17,V18,V19,V20,V21,V22],[],g',h'⟩∧Kp q' h h'∧TopAt h' h'.length q' n o d i dv' up { f with D:=df',df:=df' } fs∧A9 s l (d0++f.df)=A9 s (l.drop j) (d0++df')∧df'.length+(zz (l.drop j)).length=f.df.length+(zz l).length) ?_ ?_ ⟨_,_,h,dv,f.df,rfl,Kp.refl _ _,by rw[Fr.same hD]; exact t,rfl,rfl⟩
 ·rintro j hj st ⟨y8,g',h',dv',df',rfl,dq,ht,dy,cY⟩ ih
  have hw:=yz j (by omega)
  have eB:h'[2]? = some (yF ents):=(dq.2 2 (by have:=ht.four; omega)).trans h2
  have eX:h'[3]? = some (yA en ns a b):=(dq.2 3 (by have:=ht.four; omega)).trans h3
  have se:(zz (l.drop j)).length=l[j].left.length+(zz (l.drop (j+1))).length:=by
   rw[bg hj]; simp only[zz,aM,ao]
  obtain⟨h'',hx,fO,ma⟩:=Pb hL en ns a b ents k dx s fp l[j] (hq _ (ak hj)) h' eB eX q' n o d i dv' up _ fs ht (by intro x; exact dI x) d0 rfl dQ (by simp only; omega)
  simp only at hx ma
  rw[bg hj] at dy
  simp only[A9] at dy
  by_cases hz:(AY s l[j] (d0++df')).1=0
  ·obtain⟨dv'',df'',eN,gS⟩:=ma hz
   have iS:A9 s l (d0++f.df)=A9 s (l.drop (j+1)) (d0++df''):=by
    rw[dy]
    unfold AB
    rw[af hz,eN]
   have ev:df''.length=df'.length+l[j].left.length:=by
    have h5:=(IY.1 (DZ hz)).1
    rw[eN] at h5
    have:=aL List.length h5
    simp at this
    omega
   rw[hz] at hx
   simp[yx] at hx
   simp[hj,hx,hw]
   exact ih _ ⟨_,_,h'',dv'',df'',rfl,dq.trans fO,gS,iS,by omega⟩
  ·rw[B0 hz] at dy
   simp[yx,hz] at hx
   simp[hj,hx]
   have:=no (by rw[dy]; exact hz) h'' (.loc g' (yZ l[j]).cells) (.int .i64 j) (g'+1) (dq.trans fO)
   rw[dy] at this
   simpa using this
 ·rintro st ⟨y8,g',h',dv',df',rfl,dq,ht,dy,cY⟩
  rw[bl (am _)] at dy
  simp
  exact ok (by rw[dy]; rfl) h' dv' df' y8 g' dq (by rw[dy]; rfl) ht
end
def G8 (L:Nat→Option PFunc) (en:List Enum) (ns:List Node) (a b:Int) (ents:zV) (x:List State):Prop:=
 ∀ (k : Nat), NodesIn ents ns k → ∀ (s : Place), s.before = ns.take k → Do ents s.tags → ∀ (h : List PObj), h[2]? = some (yF ents) → h[3]? = some (yA en ns a b) → ∀ (q' n o d : Nat) (i dv up : PV) (f : Fr) (fs : List Fr), TopAt h h.length q' n o d i dv up f fs → (∀ x, zr (f :: fs) x = true ↔ x ∈ s.vis) →
   ∀(d0:List Str),f.D=f.df→(∀x,(x∈f.I∨A5 fs x=true)↔(x∈s.inputs∨x∈d0))→f.df.length+(zp [x]).length≤4000000 →
   ∃h',yI L 62 [.ptr 3 0,.int .i64 k,.ptr n 0,zk x] h=some (yx 1 a b (AZ s (d0++f.df) x).1,h')∧Kp q' h h'∧((AZ s (d0++f.df) x).1=0→∃dv' df',(d0++f.df)++(AZ s (d0++f.df) x).2=d0++df'∧TopAt h' h'.length q' n o d i dv' up { f with D:=df',df:=df' } fs)
theorem Pc {s:Place} {d:List Str} {x:List State} (h:(AZ s d x).1=0):(AZ s d x).2=zp [x]:=by
 have h1:zt s d [x]=(0,d++(AZ s d x).2):=by
  rw[KX,DY]
  exact⟨h,by simp[zt]⟩
 have h2:=(Gh [x] s d _ h1).1
 exact List.append_cancel_left h2
section
variable {L:Nat→Option PFunc} (hL:∀k f,LS k=some f→L k=some f) (en:List Enum) (ns:List Node) (a b:Int) (ents:zV)
include hL
theorem b8J (k:Nat) (dx:NodesIn ents ns k) (s:Place) (fp:s.before=ns.take k) (ej:Do ents s.tags) (l:List (List State)) (hl:l.length≤1100000) (hq:∀x∈l,G8 L en ns a b ents x) (h:List PObj) (h2:h[2]? = some (yF ents)) (h3:h[3]? = some (yA en ns a b)) (q' n o d:Nat) (i dv up:PV) (f:Fr) (fs:List Fr) (t:TopAt h h.length q' n o d i dv up f fs) (dI:∀x,zr (f::fs) x=true↔x∈s.vis)
  (d0:List Str) (hD:f.D=f.df) (dQ:∀x,(x∈f.I∨A5 fs x=true)↔(x∈s.inputs∨x∈d0)) (jT:f.df.length+(zp l).length≤4000000)
  (V0 V1 V2 V3 V4 V5 V7 V8 V9 V10 V11 V12 V13 V14 V15 V16 V20 V21 V22:PV) (gi g:Nat) {Q:PExit→St→Prop} (kw:V0 = .ptr 3 0) (oA:V1 = .int .i64 k)
  (ok:(zt s (d0++f.df) l).1=0→∀h' dv' df' y9 g',Kp q' h h'→(zt s (d0++f.df) l).2=d0++df'→TopAt h' h'.length q' n o d i dv' up { f with D:=df',df:=df' } fs→Q (.exit 4) ⟨[V0,V1,V2,V3,V4,V5,.loc gi [.ptr n 0],V7,V8,y9,V10,V11,V12,V13,V14,V15,V16,.list false (l.map zk),.int .i64 l.length,.int .i64 l.length,V20,V21,V22],[],g',h'⟩)
  (no:(zt s (d0++f.df) l).1≠0→∀h' y9 y19 g',Kp q' h h'→Q (.boom (zK 1 a b (zt s (d0++f.df) l).1)) ⟨[V0,V1,V2,V3,V4,V5,.loc gi [.ptr n 0],V7,V8,y9,V10,V11,V12,V13,V14,V15,V16,.list false (l.map zk),.int .i64 l.length,y19,V20,V21,V22],[],g',h'⟩):
  wpL L LA ⟨[V0,V1,V2,V3,V4,V5,.loc gi [.ptr n 0],V7,V8,V9,V10,V11,V12,V13,V14,V15,V16,.list false (l.map zk),.int .i64 l.length,.int .i64 0,V20,V21,V22],[],g,h⟩ Q:=by
 have _:=hL
 subst kw
 subst oA
 rw[LA]
 refine yU l.length (λj st=>∃y9 g' h' dv' df',st=⟨[.ptr 3 0,.int .i64 k,V2,V3,V4,V5,.loc gi [.ptr n 0],V7,V8,y9,V10,V11,V12,V13,V14,V15,V16,.list false (l.map zk),.int .i64 l.length,.int .i64 j,V20,V21,V22],[],g',h'⟩∧Kp q' h h'∧TopAt h' h'.length q' n o d i dv' up { f with D:=df',df:=df' } fs∧zt s (d0++f.df) l=zt s (d0++df') (l.drop j)∧df'.length+(zp (l.drop j)).length=f.df.length+(zp l).length) ?_ ?_ ⟨_,_,h,dv,f.df,rfl,Kp.refl _ _,by rw[Fr.same hD]; exact t,rfl,rfl⟩
 ·rintro j hj st ⟨y9,g',h',dv',df',rfl,dq,ht,dy,cY⟩ ih
  have hw:=yz j (by omega)
  have eB:h'[2]? = some (yF ents):=(dq.2 2 (by have:=ht.four; omega)).trans h2
  have eX:h'[3]? = some (yA en ns a b):=(dq.2 3 (by have:=ht.four; omega)).trans h3
  have se:(zp (l.drop j)).length=(zp [l[j]]).length+(zp (l.drop (j+1))).length:=by
   rw[bg hj,Fg,Fg]; simp[zp]
  obtain⟨h'',hx,fO,ma⟩:=hq _ (ak hj) k dx s fp ej h' eB eX q' n o d i dv' up _ fs ht (by intro x; exact dI x) d0 rfl dQ (by simp only; omega)
  simp only at hx ma
  rw[bg hj,KX] at dy
  by_cases hz:(AZ s (d0++df') l[j]).1=0
  ·obtain⟨dv'',df'',eN,gS⟩:=ma hz
   have iS:zt s (d0++f.df) l=zt s (d0++df'') (l.drop (j+1)):=by
    rw[dy]
    unfold AB
    rw[af hz]
    exact aL (λz=>zt s z (l.drop (j+1))) eN
   have ev:df''.length=df'.length+(zp [l[j]]).length:=by
    rw[Pc hz] at eN
    have:=aL List.length eN
    simp at this
    omega
   rw[hz] at hx
   simp[yx] at hx
   simp[hj,hx,hw]
   exact ih _ ⟨_,_,h'',dv'',df'',rfl,dq.trans fO,gS,iS,by omega⟩
  ·rw[B0 hz] at dy
   simp[yx,hz] at hx
   simp[hj,hx]
   have:=no (by rw[dy]; exact hz) h'' (.loc g' (zk l[j]).cells) (.int .i64 j) (g'+1) (dq.trans fO)
   rw[dy] at this
   simpa using this
 ·rintro st ⟨y9,g',h',dv',df',rfl,dq,ht,dy,cY⟩
  rw[bl (am _)] at dy
  simp
  exact ok (by rw[dy]; simp[zt]) h' dv' df' y9 g' dq (by rw[dy]; simp[zt]) ht
theorem b8K (l:List Decl) (hl:l.length≤1100000) (h:List PObj) (h3:h[3]? = some (yA en ns a b)) (q' n o d:Nat) (i dv up:PV) (f:Fr) (fs:List Fr) (t:TopAt h h.length q' n o d i dv up f fs)
  (V0 V1 V2 V3 V4 V5 V7 V8 V9 V10 V11 V12 V13 V14 V15 V16 V17 V18 V19:PV) (gi g:Nat) {Q:PExit→St→Prop} (kw:V0 = .ptr 3 0)
  (ok:(∀x∈yp l,x∈f.D)→∀y10 g',Q (.exit 6) ⟨[V0,V1,V2,V3,V4,V5,.loc gi [.ptr n 0],V7,V8,V9,y10,V11,V12,V13,V14,V15,V16,V17,V18,V19,.list false (l.map yw),.int .i64 l.length,.int .i64 l.length],[],g',h⟩)
  (no:¬(∀x∈yp l,x∈f.D)→∀y10 y22 g',Q (.boom (zK 1 a b 8)) ⟨[V0,V1,V2,V3,V4,V5,.loc gi [.ptr n 0],V7,V8,V9,y10,V11,V12,V13,V14,V15,V16,V17,V18,V19,.list false (l.map yw),.int .i64 l.length,y22],[],g',h⟩):
  wpL L LB ⟨[V0,V1,V2,V3,V4,V5,.loc gi [.ptr n 0],V7,V8,V9,V10,V11,V12,V13,V14,V15,V16,V17,V18,V19,.list false (l.map yw),.int .i64 l.length,.int .i64 0],[],g,h⟩ Q:=by
 subst kw
 have hT:=DQ hL en ns a b h h3 8
 have hF:=DR hL en ns a b h h3 8
 have hn:=t.hn
 have hd:=t.hd
 rw[LB]
 refine yU l.length (λj st=>∃y10 g',st=⟨[.ptr 3 0,V1,V2,V3,V4,V5,.loc gi [.ptr n 0],V7,V8,V9,y10,V11,V12,V13,V14,V15,V16,V17,V18,V19,.list false (l.map yw),.int .i64 l.length,.int .i64 j],[],g',h⟩∧∀x∈yp (l.take j),x∈f.D) ?_ ?_ ⟨_,_,rfl,by simp[yp]⟩
 ·rintro j hj st ⟨y10,g',rfl,dS⟩ ih
  have hw:=yz j (by omega)
  obtain⟨r,hr,fG,_⟩:=Dn l[j].name f.D
  have gT:yp (l.take (j+1))=yp (l.take j)++[l[j].name]:=by simp only[yp,a8,an hj,Option.toList,bm,aA,bI]
  by_cases hx:l[j].name∈f.D
  ·simp[hx] at fG
   obtain⟨c,rfl⟩:=fG
   simp[hj,hn,hd,hr,zo,hT,hw]
   refine ih _ ⟨_,_,rfl,?_⟩
   rw[gT]
   intro x hm
   rcases aw.1 hm with h1|h1
   ·exact dS x h1
   ·rw[aQ.1 h1]; exact hx
  ·simp[hx] at fG
   subst fG
   simp[hj,hn,hd,hr,zo,hF]
   have:=no (λdT=>hx (dT _ (bh.2 ⟨_,ak hj,rfl⟩))) (.loc g' (yw l[j]).cells) (.int .i64 j) (g'+1)
   simpa using this
 ·rintro st ⟨y10,g',rfl,dS⟩
  rw[aD] at dS
  simp
  exact ok dS _ _
end
theorem c0M (l:List Str):Ao 1 false (l.map PV.str) l.length 0=some (l.map PV.str):=by
 suffices H:∀(n off:Nat),off+n=l.length→Ao 1 false (l.map PV.str) n off=some ((l.drop off).map PV.str) by simpa using H l.length 0 (by omega)
 intro n
 induction n with
 | zero=>intro off h; rw[bl (by omega)]; rfl
 | succ n ih =>
   intro off h
   have ho:off<l.length:=by omega
   simp only[Ao,ih (off+1) (by omega)]
   simp[yu,ho]
   rw[bg (i:=off) (l:=l.map PV.str) (by simpa using ho)]
   simp
theorem c2l (s:Place) (d:List Str) (x:State):BP s d x =
  AB (A6 s.vis s.tags x.locals) λvis=>AB (A9 (s.at vis) x.eqs d) λd1=>AB (zt (s.at vis) d1 x.autos) λd2=>
  AB (CZ s x.unl,[]) λ_=>AB (CZ (s.at vis) x.til,[]) λ_=>if zH (yp x.locals) (zH d2 d)=[] then(0,zH (zH d2 d) (yp x.locals)) else(8,[]):=by
 cases x; simp only[BP]; rfl
theorem c7c (x:State):CD x=zz x.eqs++zp x.autos:=by cases x; rfl
section
variable {L:Nat→Option PFunc} (hL:∀k f,LS k=some f→L k=some f) (en:List Enum) (ns:List Node) (a b:Int) (ents:zV)
include hL
theorem c2m (h:List PObj) (hb:4≤h.length) (n:Nat) (fs:List Fr) (hv:Holds h h.length (.ptr n 0) fs):∃h',yI L 58 [.ptr n 0] h=some (.val (.ptr (h.length+2) 0),h')∧ym L 58 [.ptr n 0] h=some (.ptr (h.length+2) 0,h')∧Kp h.length h h'∧TopAt h' h'.length h.length (h.length+2) h.length (h.length+1) (.map none) (.list true []) (.ptr n 0) ⟨[],[],[],[]⟩ fs:=by
 have hK:∀n',n'<h.length→(h++[PObj.map [],.map [],.cells [.ptr n 0,.map (some h.length),.map (some (h.length+1)),.map none,.list true []]])[n']? = h[n']? := λn hn=>by rw[al (by omega)]
 refine⟨h++[.map [],.map [],.cells [.ptr n 0,.map (some h.length),.map (some (h.length+1)),.map none,.list true []]],?_,?_,Kp.app (am _),?_⟩
 ·refine Bi (hL 58 _ rfl) rfl ?_
  simp[G7,PV.cells]
 ·refine yB (hL 58 _ rfl) rfl ?_
  simp[G7,PV.cells]
 ·exact⟨by omega,by omega,by omega,by simp,by simp,by simp,by omega,by omega,by omega,hb,by simp,by simp[bmE],by simp[bmE],.inl ⟨rfl,rfl⟩,.inl ⟨rfl,rfl⟩,λ_ _ _ _ e=>by simp at e,hv.keep hK⟩
def StOut (a b:Int) (e:EN) (r:Out):Prop:=if e.1=0 then ∃o,r = .val (.list o (e.2.map PV.str)) else r = .boom (zK 1 a b e.1)
omit hL in
theorem StOut.no {e:EN} {z:Int} (hz:z≠0) (he:e=(z,[])):StOut a b e (.boom (zK 1 a b z)):=by
 unfold StOut; rw[he,ae hz]
theorem c4r (x:State) (hx:SW x) (hA:∀y∈x.autos,G8 L en ns a b ents y) (hp:(CD x).length≤4000000) (k:Nat) (dx:NodesIn ents ns k) (s:Place) (fp:s.before=ns.take k) (ej:Do ents s.tags) (h:List PObj) (h2:h[2]? = some (yF ents)) (h3:h[3]? = some (yA en ns a b)) (q' n o d:Nat) (i dv up:PV) (f:Fr) (fs:List Fr) (t:TopAt h h.length q' n o d i dv up f fs) (dI:∀x,zr (f::fs) x=true↔x∈s.vis)
  (d0:List Str) (hD:f.D=f.df) (dQ:∀x,(x∈f.I∨A5 fs x=true)↔(x∈s.inputs∨x∈d0)):
  ∃h' r,yI L 102 [.ptr 3 0,.int .i64 k,.ptr n 0,yQ x] h=some (r,h')∧Kp h.length h h'∧StOut a b (BP s (d0++f.df) x) r:=by
 suffices H:∃res,yI L 102 [.ptr 3 0,.int .i64 k,.ptr n 0,yQ x] h=some res∧∃h' r,res=(r,h')∧Kp h.length h h'∧StOut a b (BP s (d0++f.df) x) r by
  obtain⟨res,e1,h',r,e2,e3⟩:=H
  exact⟨h',r,by rw[e1,e2],e3⟩
 have h4:4≤h.length:=by have:=t.four; have:=t.ln; have:=t.un; omega
 obtain⟨h1,e1,e1',k1,t1⟩:=c2m hL h h4 n (f::fs) t.holds
 have vb:h1[2]? = some (yF ents):=(k1.2 2 (by omega)).trans h2
 have vd:h1[3]? = some (yA en ns a b):=(k1.2 3 (by omega)).trans h3
 have ip:∀x,zr (⟨[],[],[],[]⟩::f::fs) x=true↔x∈s.vis:=λx=>by rw[← dI]; simp[zr]
 have hN:=c2l s (d0++f.df) x
 refine DP (hL 102 _ rfl) rfl ?_
 simp[LC,e1',e1]
 refine b8H hL en ns a b ents s.tags ej x.locals hx.locals h1 vb vd h.length _ _ _ _ _ _ _ _ t1 s.vis ip _ _ _ _ _ _ _ _ _ _ _ _ _ _ _ _ _ _ _ _ _ rfl ?_ ?_
 ·intro qj h5 O y7 g5 k5 iN t5 qD w5
  have ve:h5[2]? = some (yF ents):=(k5.2 2 (by omega)).trans vb
  have tj:h5[3]? = some (yA en ns a b):=(k5.2 3 (by omega)).trans vd
  obtain⟨vis,mh⟩:∃vis,vis=(zO s.tags x.locals s.vis).2:=⟨_,rfl⟩
  rw[← mh] at qD
  have hs:=Pf hL en ns a b x.locals (by have:=hx.locals; omega) hx.ls false h5 tj _ _ _ t5.holds vis qD
  have vf:A6 s.vis s.tags x.locals=(C6 vis x.locals,vis):=by
   unfold A6 AB
   rw[af qj,mh]
  by_cases fw:C6 vis x.locals=0
  ·rw[fw] at hs
   simp[yx] at hs
   simp[hs]
   obtain⟨D,qE⟩:∃D,D=d0++f.df:=⟨_,rfl⟩
   rw[← qE] at hN ⊢
   have qF:∀y,(y∈([]:List Str)∨A5 (f::fs) y=true)↔(y∈(s.at vis).inputs∨y∈D):=by
    intro y
    have:=dQ y
    rw[qE]
    simp only[A5,List.any_cons,bL,ay,aw,List.not_mem_nil,false_or,Place.at,hD] at this ⊢
    constructor
    ·rintro((h1|h1)|h1)
     ·exact .inr (.inr h1)
     ·rcases this.1 (.inl h1) with h|h
      ·exact .inl h
      ·exact .inr (.inl h)
     ·rcases this.1 (.inr h1) with h|h
      ·exact .inl h
      ·exact .inr (.inl h)
    ·rintro(h1|h1|h1)
     ·rcases this.2 (.inl h1) with h|h
      ·exact .inl (.inr h)
      ·exact .inr h
     ·rcases this.2 (.inr h1) with h|h
      ·exact .inl (.inr h)
      ·exact .inr h
     ·exact .inl (.inl h1)
   rw[c7c,ao] at hp
   have tn:A6 s.vis s.tags x.locals=(0,vis):=by rw[vf,fw]
   rw[tn,If] at hN
   refine b8I hL en ns a b ents k dx (s.at vis) fp x.eqs hx.eqs hx.es h5 ve tj h.length _ _ _ _ _ _ _ _ t5 qD D rfl qF (by simp only[bq]; omega) _ _ _ _ _ _ _ _ _ _ _ _ _ _ _ _ _ _ _ _ _ rfl rfl ?_ ?_
   ·intro eZ h6 dv6 df6 y8 g6 k6 vg t6
    simp only[aW] at eZ vg
    have vh:h6[2]? = some (yF ents):=(k6.2 2 (by omega)).trans ve
    have vi:h6[3]? = some (yA en ns a b):=(k6.2 3 (by omega)).trans tj
    have tp:A9 (s.at vis) x.eqs D=(0,D++df6):=by rw[← vg,← eZ]
    have w6:=c2j _ tp
    simp only[ao] at w6
    rw[tp,If] at hN
    simp
    refine b8J hL en ns a b ents k dx (s.at vis) fp ej x.autos hx.autos hA h6 vh vi h.length _ _ _ _ _ _ _ _ t6 qD D rfl qF (by simp only; omega) _ _ _ _ _ _ _ _ _ _ _ _ _ _ _ _ _ _ _ _ _ rfl rfl ?_ ?_
    ·intro mJ h7 dv7 df7 y9 g7 k7 vj t7
     simp only at mJ vj
     have h27:h7[2]? = some (yF ents):=(k7.2 2 (by omega)).trans vh
     have vk:h7[3]? = some (yA en ns a b):=(k7.2 3 (by omega)).trans vi
     have vl:zt (s.at vis) (D++df6) x.autos=(0,D++df7):=by rw[← vj,← mJ]
     rw[vl,If] at hN
     have k07:Kp h.length h h7:=((k1.trans k5).trans k6).trans k7
     obtain⟨h8,e8,k8⟩:=R0 hL en ns a b ents k dx s fp x.unl hx.unl hx.us false h7 h27 vk h.length k07.1 _ _ (t.holds.keep k07.2) dI
     by_cases qG:CZ s x.unl=0
     ·rw[qG] at e8
      simp[yx] at e8
      have w7:h8[2]? = some (yF ents):=(k8.2 2 (by have:=k07.1; omega)).trans h27
      have vm:h8[3]? = some (yA en ns a b):=(k8.2 3 (by have:=k07.1; omega)).trans vk
      have t8:=(t7.keep k8.2).upTo k8.1
      obtain⟨h9,e9,k9⟩:=R0 hL en ns a b ents k dx (s.at vis) fp x.til hx.til hx.ts false h8 w7 vm h8.length (am _) _ _ t8.holds qD
      rw[qG,If] at hN
      by_cases qH:CZ (s.at vis) x.til=0
      ·rw[qH] at e9
       simp[yx] at e9
       rw[qH,If] at hN
       have h39:h9[3]? = some (yA en ns a b):=(k9.2 3 (by have:=k07.1; have:=k8.1; omega)).trans vm
       have t9:=(t8.keep k9.2).upTo k9.1
       have k09:Kp h.length h h9:=(k07.trans (k8.le k07.1)).trans (k9.le (aH k07.1 k8.1))
       have vn:=(Fh (s.at vis) x.eqs D _).1 tp
       have pD:=Gh x.autos (s.at vis) (D++df6) _ vl
       have fF:df7=zz x.eqs++zp x.autos:=by
        have e1:=pD.1
        rw[vn.1,aI] at e1
        exact List.append_cancel_left e1
       have tq:∀y∈df7,y∉D:=by
        intro y hy
        rw[fF] at hy
        rcases aw.1 hy with h|h
        ·exact(vn.2.1.1 y h).2.2
        ·exact λhm=>(pD.2.1.1 y h).2.2 (b9 _ hm)
       rw[Rk tq] at hN
       simp[e8,e9]
       refine b8K hL en ns a b x.locals hx.locals h9 h39 h.length _ _ _ _ _ _ _ _ t9 _ _ _ _ _ _ _ _ _ _ _ _ _ _ _ _ _ _ _ _ _ rfl ?_ ?_
       ·intro dT y10 g9
        simp only at dT
        have fR:zH (yp x.locals) df7=[]:=FX.2 dT
        rw[af fR] at hN
        have n9:=t9.hn
        have o9:=t9.ho
        rcases t9.row with⟨rfl,hZ⟩|⟨kr,fm,eA,rfl,ir⟩
        ·simp only at hZ
         have hd:=b5G hL false 128 [.ptr (h.length+2) 0] h9
         simp[n9,hd]
         refine⟨h9,_,⟨rfl,rfl⟩,k09,?_⟩
         unfold StOut
         rw[hN,af rfl]
         exact⟨false,by simp[hZ,zH]⟩
        ·have pF:=t9.rne _ _ _ _ rfl
         have hd:=c2g hL df7 (by rw[fF,ao]; omega) h9 kr ir 128 [.ptr (h.length+2) 0] (λy=>decide (y∈yp x.locals)) (by
          intro w y _
          have n9':=(ai (l:=h9) (a:=w) pF.1).trans n9
          have o9':=(ai (l:=h9) (a:=w) pF.2.1).trans o9
          obtain⟨r,hr,fG,_⟩:=Dn y O
          have vp:y∈O↔y∈yp x.locals:=by rw[w5]; simp
          refine yB (hL 128 _ rfl) rfl ?_
          by_cases hy:y∈O
          ·simp[hy] at fG
           obtain⟨c,rfl⟩:=fG
           simp[Jl,n9',o9',hr,zo,vp.1 hy]
          ·simp[hy] at fG
           subst fG
           have gu:¬y∈yp x.locals:=λh=>hy (vp.2 h)
           simp[Jl,n9',o9',hr,zo,gu])
         have qq:df7.filter (λy => !decide (y∈yp x.locals))=zH df7 (yp x.locals):=rfl
         rw[qq] at hd
         obtain⟨R,hR⟩:∃R,R=zH df7 (yp x.locals):=⟨_,rfl⟩
         rw[← hR] at hd hN
         have ly:kr<h9.length:=(ah.1 ir).1
         have iO:(h9.set kr (.cells (R.map PV.str)))[kr]? = some (.cells (R.map PV.str)):=by rw[av ly]
         have w8:=c0M R
         simp[n9,hd,iO,w8,Ig]
         refine⟨_,_,⟨rfl,rfl⟩,k09.trans (Kp.set fm),?_⟩
         unfold StOut
         rw[hN,af rfl]
         exact⟨false,rfl⟩
       ·intro fY y10 y22 g9
        have fR:¬zH (yp x.locals) df7=[]:=λe=>fY (FX.1 e)
        rw[ae fR] at hN
        simp
        exact⟨h9,_,⟨rfl,rfl⟩,k09,StOut.no a b (by decide) hN⟩
      ·simp[yx,qH] at e9
       simp[e8,e9]
       exact⟨h9,_,⟨rfl,rfl⟩,(k07.trans (k8.le k07.1)).trans (k9.le (aH k07.1 k8.1)),StOut.no a b qH (by rw[hN]; exact B0 (a:=(_,[])) qH _)⟩
     ·simp[yx,qG] at e8
      simp[e8]
      exact⟨h8,_,⟨rfl,rfl⟩,k07.trans (k8.le k07.1),StOut.no a b qG (by rw[hN]; exact B0 (a:=(_,[])) qG _)⟩
    ·intro mJ h7 y9 y19 g7 k7
     simp only at mJ
     simp
     exact⟨h7,_,⟨rfl,rfl⟩,((k1.trans k5).trans k6).trans k7,StOut.no a b mJ (by rw[hN]; exact B0 mJ _)⟩
   ·intro eZ h6 y8 y16 g6 k6
    simp only[aW] at eZ ⊢
    simp
    exact⟨h6,_,⟨rfl,rfl⟩,(k1.trans k5).trans k6,StOut.no a b eZ (by rw[hN]; exact B0 eZ _)⟩
  ·simp[yx,fw] at hs
   simp[hs]
   exact⟨h5,_,⟨rfl,rfl⟩,k1.trans k5,StOut.no a b fw (by rw[hN,vf,B0 fw])⟩
 ·intro hz h5 y7 y13 g5 k5
  simp
  refine⟨h5,_,⟨rfl,rfl⟩,k1.trans k5,StOut.no a b hz ?_⟩
  have:A6 s.vis s.tags x.locals=((zO s.tags x.locals s.vis).1,[]):=by
   unfold A6; exact B0 hz _
  rw[hN,this]
  exact B0 (a:=(_,[])) hz _
end
section
variable {L:Nat→Option PFunc} (hL:∀k f,LS k=some f→L k=some f) (en:List Enum) (ns:List Node) (a b:Int) (ents:zV)
include hL
theorem c0N (l:List State) (hl:l.length≤1100000) (h:List PObj) (h3:h[3]? = some (yA en ns a b)) (V0 V1 V2 V3 V5 V6 V7 V8 V9 V10 V11 V12 V16 V17 V18 V19 V20 V21:PV) (gi g:Nat) {Q:PExit→St→Prop} (kw:V0 = .ptr 3 0)
  (ok:(l.map (·.name)).Nodup→∀y5 y6 g',Q (.exit 0) ⟨[V0,V1,V2,V3,.loc gi [.list false (l.map yQ)],y5,y6,V7,V8,V9,V10,V11,V12,.list false (l.map yQ),.int .i64 l.length,.int .i64 l.length,V16,V17,V18,V19,V20,V21],[],g',h⟩)
  (no:¬(l.map (·.name)).Nodup→∀y5 y6 y15 g',Q (.boom (zK 1 a b 7)) ⟨[V0,V1,V2,V3,.loc gi [.list false (l.map yQ)],y5,y6,V7,V8,V9,V10,V11,V12,.list false (l.map yQ),.int .i64 l.length,y15,V16,V17,V18,V19,V20,V21],[],g',h⟩):
  wpL L Lp ⟨[V0,V1,V2,V3,.loc gi [.list false (l.map yQ)],V5,V6,V7,V8,V9,V10,V11,V12,.list false (l.map yQ),.int .i64 l.length,.int .i64 0,V16,V17,V18,V19,V20,V21],[],g,h⟩ Q:=by
 subst kw
 have hT:=DQ hL en ns a b h h3 7
 have hF:=DR hL en ns a b h h3 7
 rw[Lp]
 refine yU l.length (λj st=>∃y5 y6 g',st=⟨[.ptr 3 0,V1,V2,V3,.loc gi [.list false (l.map yQ)],y5,y6,V7,V8,V9,V10,V11,V12,.list false (l.map yQ),.int .i64 l.length,.int .i64 j,V16,V17,V18,V19,V20,V21],[],g',h⟩∧((l.take j).map (·.name)).Nodup) ?_ ?_ ⟨_,_,_,rfl,by simp⟩
 ·rintro j hj st ⟨y5,y6,g',rfl,dx⟩ ih
  have hw:=yz j (by omega)
  have tr:j≤l.length:=by omega
  have hc:=c2f hL (l.take j) (by simp; omega) false [] l[j]
  simp only[MO] at hc
  have ee:(l.map yQ).take j=(l.take j).map yQ:=by rw[List.map_take]
  have gT:(l.take (j+1)).map (·.name)=(l.take j).map (·.name)++[l[j].name]:=by simp only[a8,an hj,Option.toList,bm,aA,bI]
  obtain⟨T,vq⟩:∃T,T=(l.take j).map yQ:=⟨_,rfl⟩
  have rK:yD T=true:=by rw[vq]; exact c0q _
  rw[← vq] at hc ee
  have nW:zj 6 (l.map yQ)=true:=by
   cases l with
   | nil=>rfl
   | cons z l=>simp[zj]
  cases mK:(l.take j).any λs=>decide (s.name=l[j].name) with
  | false =>
    rw[mK] at hc
    simp[hj,hw,hc,hT,ee,nW,tr,bound,rK]
    refine ih _ ⟨_,_,_,rfl,?_⟩
    rw[gT,cd]
    refine⟨dx,by simp,?_⟩
    intro x hx y hy e
    rw[aQ.1 hy] at e
    subst e
    obtain⟨z,hz,tw⟩:=bh.1 hx
    have:=List.any_eq_false.1 mK z hz
    simp[tw] at this
  | true =>
    rw[mK] at hc
    simp[hj,hw,hc,hF,ee,nW,tr,bound,rK]
    refine no ?_ _ _ _ _
    intro hn
    obtain⟨z,hz,tw⟩:=List.any_eq_true.1 mK
    have hs:l.map (·.name)=((l.take j).map (·.name)++[l[j].name])++(l.drop (j+1)).map (·.name):=by rw[← gT,← bm,bY]
    rw[hs,cd,cd] at hn
    exact hn.1.2.2 l[j].name (bh.2 ⟨z,hz,by simpa using tw⟩) _ (aQ.2 rfl) rfl
 ·rintro st ⟨y5,y6,g',rfl,dx⟩
  rw[aD] at dx
  simp
  exact ok dx _ _ _
theorem c0O (l:List Str) (hl:l.length≤4000000) (h:List PObj) (q' n o d:Nat) (i dv up:PV) (f:Fr) (fs:List Fr) (t:TopAt h h.length q' n o d i dv up f fs) (ec:∀x∈l,x∉f.D) (dx:l.Nodup)
  (V0 V1 V3 V4 V5 V6 V7 V8 V9 V10 V11 V12 V13 V14 V15 V16 V17 V18:PV) (g:Nat) {Q:PExit→St→Prop}
  (ok:∀h' y12,Kp q' h h'→h'.length=h.length→TopAt h' h'.length q' n o d i dv up { f with D:=f.D++l } fs→Q (.exit 4) ⟨[V0,V1,.ptr n 0,V3,V4,V5,V6,V7,V8,V9,V10,V11,y12,V13,V14,V15,V16,V17,V18,.list false (l.map PV.str),.int .i64 l.length,.int .i64 l.length],[],g,h'⟩):
  wpL L Lr ⟨[V0,V1,.ptr n 0,V3,V4,V5,V6,V7,V8,V9,V10,V11,V12,V13,V14,V15,V16,V17,V18,.list false (l.map PV.str),.int .i64 l.length,.int .i64 0],[],g,h⟩ Q:=by
 have _:=hL
 rw[Lr]
 refine yU l.length (λj st=>∃y12 h',st=⟨[V0,V1,.ptr n 0,V3,V4,V5,V6,V7,V8,V9,V10,V11,y12,V13,V14,V15,V16,V17,V18,.list false (l.map PV.str),.int .i64 l.length,.int .i64 j],[],g,h'⟩∧Kp q' h h'∧h'.length=h.length∧TopAt h' h'.length q' n o d i dv up { f with D:=f.D++l.take j } fs) ?_ ?_ ⟨_,h,rfl,Kp.refl _ _,rfl,by simpa using t⟩
 ·rintro j hj st ⟨y12,h',rfl,dq,cY,ht⟩ ih
  have hw:=yz j (by omega)
  have hn:=ht.hn
  have hd:=ht.hd
  obtain⟨r',hr,_,iG⟩:=Dn l[j] (f.D++l.take j)
  have gJ:CM (f.D++l.take j) l[j]=f.D++l.take (j+1):=by
   unfold CM
   rw[ae]
   ·rw[a8,an hj]; simp
   ·intro hm
    rcases aw.1 hm with h1|h1
    ·exact ec _ (ak hj) h1
    ·obtain⟨c,hc,kQ⟩:=bC.1 h1
     simp only[ba] at hc
     rw[cO] at kQ
     have:=(List.getElem_inj (h₀:=by omega) (h₁:=hj) dx).1 kQ
     omega
  rw[gJ] at iG
  simp[hj,hn,hd,hr,iG,hw]
  have mL:=ht.setD (f.D++l.take (j+1))
  refine ih _ ⟨_,_,rfl,dq.trans (Kp.set ht.ld),by simp[cY],by simpa using mL⟩
 ·rintro st ⟨y12,h',rfl,dq,cY,ht⟩
  rw[aD] at ht
  simp
  exact ok h' _ dq cY ht
end
def Nx (L:Nat→Option PFunc) (en:List Enum) (ns:List Node) (a b:Int) (ents:zV) (x:State):Prop:=
 ∀ (k : Nat), NodesIn ents ns k → ∀ (s : Place), s.before = ns.take k → Do ents s.tags → ∀ (h : List PObj), h[2]? = some (yF ents) → h[3]? = some (yA en ns a b) → ∀ (q' n o d : Nat) (i dv up : PV) (f : Fr) (fs : List Fr), TopAt h h.length q' n o d i dv up f fs → (∀ x, zr (f :: fs) x = true ↔ x ∈ s.vis) →
   ∀(d0:List Str),f.D=f.df→(∀x,(x∈f.I∨A5 fs x=true)↔(x∈s.inputs∨x∈d0)) →
   ∃h' r,yI L 102 [.ptr 3 0,.int .i64 k,.ptr n 0,yQ x] h=some (r,h')∧Kp h.length h h'∧StOut a b (BP s (d0++f.df) x) r
theorem R6 {l m:List Str} (hl:l.Nodup) (hm:m.Nodup):D0 l m=(decide (l.length=m.length)&&l.all λx=>decide (x∈m)):=by
 rw[aT]
 simp only[D0,ap,ay,aN,FX]
 constructor
 ·rintro⟨h1,h2⟩
  have p1:=List.Nodup.length_le_of_subset hl h1
  have p2:=List.Nodup.length_le_of_subset hm h2
  exact⟨by omega,h1⟩
 ·rintro⟨h1,h2⟩
  refine⟨h2,λx hx=>cw λhn =>?_⟩
  have hc:(x::l).Nodup:=cg.2 ⟨hn,hl⟩
  have:=List.Nodup.length_le_of_subset hc (by
   intro y hy
   rcases az.1 hy with rfl|hy
   ·exact hx
   ·exact h2 y hy)
  simp at this
  omega
section
variable {L:Nat→Option PFunc} (hL:∀k f,LS k=some f→L k=some f) (en:List Enum) (ns:List Node) (a b:Int) (ents:zV)
include hL
theorem c0P (l:List State) (hl:l.length≤1100000) (hS:∀y∈l,Nx L en ns a b ents y) (k:Nat) (dx:NodesIn ents ns k) (s:Place) (fp:s.before=ns.take k) (ej:Do ents s.tags) (h:List PObj) (h2:h[2]? = some (yF ents)) (h3:h[3]? = some (yA en ns a b)) (q' n o d:Nat) (i dv up:PV) (f:Fr) (fs:List Fr) (t:TopAt h h.length q' n o d i dv up f fs) (dI:∀x,zr (f::fs) x=true↔x∈s.vis)
  (d0:List Str) (hD:f.D=f.df) (dQ:∀x,(x∈f.I∨A5 fs x=true)↔(x∈s.inputs∨x∈d0)) (m9:∀y∈l,(Ag y).length≤4000000)
  (V0 V1 V2 V3 V4 V5 V6 V9 V10 V11 V12 V13 V14 V15 V19 V20 V21:PV) (g:Nat) {Q:PExit→St→Prop} (kw:V0 = .ptr 3 0) (oA:V1 = .int .i64 k) (w9:V2 = .ptr n 0)
  (ok:(Ah s (d0++f.df) l).1=0→∀h' y9 y10 y11 g' F,Kp h.length h h'→((l=[]∧F = .list true [])∨F = .list false (((l.map Ag).headD []).map PV.str))→Q (.exit 2) ⟨[V0,V1,V2,V3,V4,V5,V6,F,.bool (l.all λy=>D0 (Ag y) ((l.map Ag).headD [])),y9,y10,y11,V12,V13,V14,V15,.list false (l.map yQ),.int .i64 l.length,.int .i64 l.length,V19,V20,V21],[],g',h'⟩)
  (no:(Ah s (d0++f.df) l).1≠0→∀h' W g',Kp h.length h h'→Q (.boom (zK 1 a b (Ah s (d0++f.df) l).1)) ⟨W,[],g',h'⟩):
  wpL L Lq ⟨[V0,V1,V2,V3,V4,V5,V6,.list true [],.bool true,V9,V10,V11,V12,V13,V14,V15,.list false (l.map yQ),.int .i64 l.length,.int .i64 0,V19,V20,V21],[],g,h⟩ Q:=by
 subst kw
 subst oA
 subst w9
 have h4:4≤h.length:=by have:=t.four; have:=t.ln; have:=t.un; omega
 obtain⟨D,qE⟩:∃D,D=d0++f.df:=⟨_,rfl⟩
 obtain⟨T,hT⟩:∃T,T=(l.map Ag).headD []:=⟨_,rfl⟩
 rw[← qE] at ok no
 rw[← hT] at ok
 obtain⟨sm,kY⟩:∃sm:Nat→Bool,∀j,sm j=(l.take j).all (λx=>D0 (Ag x) T):=⟨_,λ_=>rfl⟩
 rw[Lq]
 refine yU l.length (λj st=>∃F y9 y10 y11 g' h',st=⟨[.ptr 3 0,.int .i64 k,.ptr n 0,V3,V4,V5,V6,F,.bool (sm j),y9,y10,y11,V12,V13,V14,V15,.list false (l.map yQ),.int .i64 l.length,.int .i64 j,V19,V20,V21],[],g',h'⟩∧Kp h.length h h'∧(∀c (hc:c<l.length),c<j→(BP s D l[c]).1=0)∧((j=0∧F = .list true [])∨F = .list false (T.map PV.str))) ?_ ?_ ⟨_,_,_,_,_,h,by rw[kY]; rfl,Kp.refl _ _,λc _ hc=>by omega,.inl ⟨rfl,rfl⟩⟩
 ·rintro j hj st ⟨F,y9,y10,y11,g',h',rfl,dq,hz,hF⟩ ih
  have hw:=yz j (by omega)
  have eB:h'[2]? = some (yF ents):=(dq.2 2 (by omega)).trans h2
  have eX:h'[3]? = some (yA en ns a b):=(dq.2 3 (by omega)).trans h3
  obtain⟨h'',r,hx,fO,hr⟩:=hS _ (ak hj) k dx s fp ej h' eB eX q' n o d i dv up f fs ((t.keep dq.2).upTo dq.1) dI d0 hD dQ
  rw[← qE] at hr
  have gq:Kp h.length h h'':=dq.trans (fO.le dq.1)
  unfold StOut at hr
  by_cases fw:(BP s D l[j]).1=0
  ·rw[af fw] at hr
   obtain⟨ow,rfl⟩:=hr
   have vt:=Ni l[j] s D _ (DZ fw)
   rw[vt.1] at hx
   obtain⟨R,hR⟩:∃R,R=Ag l[j]:=⟨_,rfl⟩
   have tz:R.Nodup:=by rw[hR]; exact vt.2.1.2
   have sT:R.length≤4000000:=by rw[hR]; exact m9 _ (ak hj)
   have jF:sm (j+1)=(sm j&&D0 R T):=by
    have e:l.take (j+1)=l.take j++[l[j]]:=by rw[a8,an hj]; rfl
    rw[kY,kY,e,cz,hR]
    simp only[List.all_cons,List.all_nil,bz]
   rw[← hR] at hx
   have i8:∀c (hc:c<l.length),c<j+1→(BP s D l[c]).1=0:=by
    intro c hc mj
    by_cases e:c=j
    ·subst e; exact fw
    ·exact hz c hc (by omega)
   by_cases pG:j=0
   ·subst pG
    have xa:R=T:=by
     rw[hR,hT]
     cases l with
     | nil=>simp at hj
     | cons y l=>rfl
    rw[← xa] at jF ih hF
    have dS:=R4 hL R R (by omega) (by omega) false false []
    rw[← R6 tz tz] at dS
    have fZ:sm 0=true:=by rw[kY]; rfl
    rw[fZ,cy] at jF
    simp[hj,hx,hw,fZ,dS]
    exact ih _ ⟨_,_,_,_,_,h'',by rw[jF]; rfl,gq,i8,.inr rfl⟩
   ·have xb:F = .list false (T.map PV.str):=by
     rcases hF with⟨e,_⟩|e
     ·exact absurd e pG
     ·exact e
    subst xb
    have pH:T=Ag (l[0]'(by omega)):=by
     rw[hT]
     cases l with
     | nil=>simp at hj
     | cons y l=>rfl
    have xc:T.Nodup:=by
     rw[pH]
     exact(Ni _ s D _ (DZ (hz 0 (by omega) (by omega)))).2.1.2
    have xd:T.length≤4000000:=by rw[pH]; exact m9 _ (ak _)
    have dS:=R4 hL R T (by omega) (by omega) false false []
    rw[← R6 tz xc] at dS
    have rR:¬(j:Int)=0:=by omega
    cases vu:sm j with
    | true =>
      rw[vu,cy] at jF
      simp[hj,hx,hw,pG,rR,dS]
      exact ih _ ⟨_,_,_,_,_,h'',by rw[jF]; rfl,gq,i8,.inr rfl⟩
    | false =>
      rw[vu,bP] at jF
      simp[hj,hx,hw,pG,rR,dS]
      exact ih _ ⟨_,_,_,_,_,h'',by rw[jF]; rfl,gq,i8,.inr rfl⟩
  ·rw[ae fw] at hr
   subst hr
   have hb:=RD hj fw (λc hc mj=>hz c hc mj)
   simp[hj,hx]
   have nI:(Ah s D l).1=(BP s D l[j]).1:=by rw[hb]
   rw[← nI]
   exact no (by rw[nI]; exact fw) h'' _ _ gq
 ·rintro st ⟨F,y9,y10,y11,g',h',rfl,dq,hz,hF⟩
  have dT:=RC (s:=s) (d:=D) (l:=l) (λy hy=>by
   obtain⟨c,hc,rfl⟩:=bC.1 hy
   exact hz c hc hc)
  have lg:sm l.length=l.all (λx=>D0 (Ag x) T):=by rw[kY,aD]
  rw[lg]
  simp
  refine ok (by rw[dT]) h' _ _ _ _ F dq ?_
  rcases hF with⟨e,e2⟩|e
  ·exact .inl ⟨bD.1 e,e2⟩
  ·exact .inr e
end
theorem cells_str:∀l:List Str,(l.map PV.str).flatMap PV.cells=l.map PV.str
 | []=>rfl
 | x::l=>by rw[aA,aM,cells_str l]; rfl
section
variable {L:Nat→Option PFunc} (hL:∀k f,LS k=some f→L k=some f) (en:List Enum) (ns:List Node) (a b:Int) (ents:zV)
include hL
theorem R7 (l:List State) (hl:l.length≤1100000) (hS:∀y∈l,Nx L en ns a b ents y) (m9:∀y∈l,(Ag y).length≤4000000):G8 L en ns a b ents l:=by
 intro k dx s fp ej h h2 h3 q' n o d i dv up f fs t dI d0 hD dQ jT
 suffices H:∃res,yI L 62 [.ptr 3 0,.int .i64 k,.ptr n 0,zk l] h=some res∧∃h',res=(yx 1 a b (AZ s (d0++f.df) l).1,h')∧Kp q' h h'∧((AZ s (d0++f.df) l).1=0→∃dv' df',(d0++f.df)++(AZ s (d0++f.df) l).2=d0++df'∧TopAt h' h'.length q' n o d i dv' up { f with D:=df',df:=df' } fs) by
  obtain⟨res,e1,h',e2,e3⟩:=H
  exact⟨h',by rw[e1,e2],e3⟩
 have nh:q'≤h.length:=aH t.ln (Nat.le_of_lt t.un)
 have h4:4≤h.length:=by have:=t.four; omega
 refine DP (hL 62 _ rfl) rfl ?_
 simp[Ls]
 refine c0N hL en ns a b l hl h h3 _ _ _ _ _ _ _ _ _ _ _ _ _ _ _ _ _ _ _ _ rfl ?_ ?_
 ·intro hn y5 y6 g1
  simp
  refine c0P hL en ns a b ents l hl hS k dx s fp ej h h2 h3 q' n o d i dv up f fs t dI d0 hD dQ m9 _ _ _ _ _ _ _ _ _ _ _ _ _ _ _ _ _ _ rfl rfl rfl ?_ ?_
  ·intro hz h' y9 y10 y11 g2 F dq hF
   obtain⟨T,hT⟩:∃T,T=(l.map Ag).headD []:=⟨_,rfl⟩
   rw[← hT] at hF ⊢
   obtain⟨b1,b2⟩:=Nj l s (d0++f.df) (Ah s (d0++f.df) l).2 (by rw[← hz])
   have dz:Ah s (d0++f.df) l=(0,l.map Ag):=by rw[← b1,← hz]
   have jo:AZ s (d0++f.df) l=if l.all (λy=>D0 (Ag y) T) then(0,T) else(8,[]):=by
    unfold AZ
    rw[ae (by simpa using hn),dz,ae (by simp),List.all_map,← hT]
    rfl
   have eX:h'[3]? = some (yA en ns a b):=(dq.2 3 (by omega)).trans h3
   have xe:=DQ hL en ns a b h' eX 8
   have xf:=DR hL en ns a b h' eX 8
   have t1:=(t.keep dq.2).upTo dq.1
   cases dS:l.all (λy=>D0 (Ag y) T) with
   | false =>
     rw[dS] at jo
     simp[xf]
     exact⟨h',by rw[jo]; exact⟨rfl,rfl⟩,dq.le nh,by rw[jo]; simp⟩
   | true =>
     rw[dS] at jo
     simp only[if_true] at jo
     have vv:Defs s (d0++f.df) T:=by
      rw[hT]
      cases l with
      | nil=>exact Defs.nil _ _
      | cons y l=>exact(b2 y (by simp)).1
     have xd:T.length≤4000000:=by
      rw[hT]
      cases l with
      | nil=>simp
      | cons y l=>exact m9 y (by simp)
     have hTs:T.length+f.df.length≤4000000:=by
      have:zp [l]=T:=by rw[Fg,← hT]; simp[zp]
      rw[this] at jT; omega
     have ec:∀x∈T,x∉f.D:=λx hx hm=>(vv.1 x hx).2.2 (cC _ (hD▸hm))
     have mU:∃ow,F = .list ow (T.map PV.str):=by
      rcases hF with⟨jV,e⟩|e
      ·subst jV; exact⟨true,by rw[e,hT]; rfl⟩
      ·exact⟨false,e⟩
     obtain⟨ow,rfl⟩:=mU
     simp[xe]
     refine c0O hL T (by omega) h' q' n o d i dv up f fs t1 ec vv.2 _ _ _ _ _ _ _ _ _ _ _ _ _ _ _ _ _ _ _ ?_
     intro iy y12 lx lw t4
     have n4:=t4.hn
     have ic:=t4.un
     have mW:=t4.ln
     have tB:Kp q' h iy:=(dq.le nh).trans lx
     have lz:f.D++T=f.df++T:=by rw[hD]
     have fin:∀(hh:List PObj) (dv':PV),Kp q' h hh→TopAt hh hh.length q' n o d i dv' up { f with D:=f.D++T,df:=f.df++T } fs→∃h'',((Out.val (PV.tuple [])=yx 1 a b (AZ s (d0++f.df) l).1∧hh=h''))∧Kp q' h h''∧((AZ s (d0++f.df) l).1=0→∃dv',TopAt h'' h''.length q' n o d i dv' up { O:=f.O,D:=f.df++(AZ s (d0++f.df) l).2,I:=f.I,df:=f.df++(AZ s (d0++f.df) l).2 } fs):=by
      intro hh dv' hk ht
      refine⟨hh,by rw[jo]; exact⟨rfl,rfl⟩,hk,λ_=>⟨dv',?_⟩⟩
      rw[lz] at ht
      rw[jo]
      exact ht
     have d9:(T.map PV.str).flatMap PV.cells=T.map PV.str:=cells_str T
     have jW:(dem∘PV.str)=PV.str:=rfl
     have nW:zj 1 (T.map PV.str)=true:=by cases T<;>rfl
     rcases t4.row with⟨rfl,hZ⟩|⟨kr,fm,eA,rfl,ir⟩
     ·simp only at hZ
      by_cases vz:T=[]
      ·subst vz
       have eU:iy.set n (.cells [up,.map (some o),.map (some d),i,.list true []])=iy:=Ch n4
       obtain⟨h5,e5⟩:∃h5,iy.set n (.cells [up,.map (some o),.map (some d),i,.list false []])=h5:=⟨_,rfl⟩
       have n5:h5[n]? = some (.cells [up,.map (some o),.map (some d),i,.list false []]):=by rw[← e5,av ic]
       have xg:h5.set n (.cells [up,.map (some o),.map (some d),i,.list true []])=iy:=by rw[← e5,List.set_set]; exact eU
       simp[n4,AI,Ai,e5,n5,xg]
       exact fin iy _ tB (by simpa using t4)
      ·obtain⟨h5,e5⟩:∃h5,iy.set n (.cells [up,.map (some o),.map (some d),i,.list false []])=h5:=⟨_,rfl⟩
       have iN:h5.length=iy.length:=by rw[← e5]; simp
       have n5:(h5++[PObj.cells (T.map PV.str)])[n]? = some (.cells [up,.map (some o),.map (some d),i,.list false []]):=by
        rw[al (by omega),← e5,av ic]
       have mi:=t4.push T h5 iN (λc hc=>by rw[← e5,ai (by omega)]) (λc _ _ mf=>by rw[← e5,ai (Ne.symm mf)])
       have eP:T.length≤2147483648:=by omega
       simp[n4,e5,n5,AI,d9,nW,vz,eP,jW,Ai]
       rw[iN]
       refine fin _ (.rowp iy.length 1 false T.length) ?_ ?_
       ·refine Kp.trans tB ⟨by simp[iN],λc hc =>?_⟩
        rw[ai (by omega),al (by omega),← e5,ai (by omega)]
       ·have:((h5++[PObj.cells (T.map PV.str)]).set n (.cells [up,.map (some o),.map (some d),i,.rowp iy.length 1 false T.length])).length=iy.length+1:=by simp[iN]
        rw[this,hZ,be]
        exact mi
     ·obtain⟨h5,e5⟩:∃h5,iy.set kr .gone=h5:=⟨_,rfl⟩
      have iN:h5.length=iy.length:=by rw[← e5]; simp
      have pF:=(t4.rne _ _ _ _ rfl).1
      simp only at ir
      have n5:(h5++[PObj.cells (f.df.map PV.str++T.map PV.str)])[n]? = some (.cells [up,.map (some o),.map (some d),i,.rowp kr 1 false f.df.length]):=by
       rw[al (by omega),← e5,ai pF]; exact n4
      have mi:=t4.push (f.df++T) h5 iN (λc hc=>by rw[← e5,ai (by omega)]) (λc hc fY mf=>by
       have:kr≠c:=by
        intro iu
        exact absurd rfl (fY 1 false f.df.length |> λh=>by subst iu; exact h)
       rw[← e5,ai this])
      simp only[bm,ao] at mi
      have eP:f.df.length+T.length≤2147483648:=by omega
      have dK:(f.df.map PV.str).take f.df.length=f.df.map PV.str:=bW (by simp)
      have tg:List.map PV.str (f.df.take f.df.length)=List.map PV.str f.df:=by rw[aD]
      simp[n4,AI,ir,d9,nW,eP,dK,jW,tg,e5,n5,Ai]
      refine fin _ (.rowp iy.length 1 false (f.df.length+T.length)) ?_ ?_
      ·refine Kp.trans tB ⟨by simp[iN],λc hc =>?_⟩
       rw[ai (by omega),al (by omega),← e5,ai (by omega)]
      ·have:((h5++[PObj.cells (f.df.map PV.str++T.map PV.str)]).set n (.cells [up,.map (some o),.map (some d),i,.rowp iy.length 1 false (f.df.length+T.length)])).length=iy.length+1:=by simp[iN]
       rw[this]
       exact mi
  ·intro hz h' W g2 dq
   simp
   have jo:AZ s (d0++f.df) l=((Ah s (d0++f.df) l).1,[]):=by
    unfold AZ
    rw[ae (by simpa using hn),af hz]
   exact⟨h',by rw[jo]; simp[yx,hz],dq.le nh,λh0=>absurd (by rw[jo] at h0; exact h0) hz⟩
 ·intro hn y5 y6 y15 g1
  simp
  have jo:AZ s (d0++f.df) l=(7,[]):=by unfold AZ; rw[af hn]
  exact⟨h,by rw[jo]; exact⟨rfl,rfl⟩,Kp.refl _ _,by rw[jo]; simp⟩
end
theorem K1:∀l:List Eqn,(zz l).length≤yE Eqn.parts l
 | []=>by simp[zz,yE]
 | q :: l => by
   have:=K1 l
   have e:zz (q::l)=q.left++zz l:=by simp[zz]
   rw[e]
   simp only[ao,yE,Eqn.parts]
   omega
theorem Ny (x:State):(Ag x).length≤(CD x).length:=by unfold Ag zH; exact List.length_filter_le _ _
theorem K2:∀l:List (List State),(∀a∈l,∀x∈a,(CD x).length≤x.parts)→(zp l).length≤B1 l
 | [],_=>by simp[zp,B1]
 | a :: l, h => by
   have:=K2 l (λb hb=>h b (by simp[hb]))
   rw[Fg]
   cases a with
   | nil=>simp[B1,DS]; omega
   | cons y a =>
     have h1:=h (y::a) (by simp) y (by simp)
     have h2:=Ny y
     simp only[aA,List.headD_cons,ao,B1,DS]
     omega
theorem I0 (x:State):(CD x).length≤x.parts:=by
 induction x using State.ind with
 | h s ih =>
   cases s with
   | mk n l e a u w =>
     have h1:=K1 e
     have h2:=K2 a ih
     simp only[CD,ao,State.parts]
     omega
section
variable {L:Nat→Option PFunc} (hL:∀k f,LS k=some f→L k=some f) (en:List Enum) (ns:List Node) (a b:Int) (ents:zV)
include hL
theorem c2o (x:State):SW x→x.parts≤4000000→Nx L en ns a b ents x:=by
 induction x using State.ind with
 | h x ih =>
   intro hx hp
   have dc:∀y∈x.autos,∀z∈y,z.parts≤x.parts:=by
    intro y hy z hz
    cases x with
    | mk n l e au u w =>
      have hy:y∈au:=hy
      have h1:DS y≤B1 au:=by
       rw[G9,FW]
       have:=Ei (λa=>1+yE State.parts a) hy
       omega
      have h2:z.parts≤DS y:=by rw[FW]; exact Ei _ hz
      simp only[State.parts]
      omega
   intro k dx s fp ej h h2 h3 q' n o d i dv up f fs t dI d0 hD dQ
   refine c4r hL en ns a b ents x hx ?_ (aH (I0 x) hp) k dx s fp ej h h2 h3 q' n o d i dv up f fs t dI d0 hD dQ
   intro y hy
   refine R7 hL en ns a b ents y (hx.as y hy) (λz hz=>ih y hy z hz (hx.ss y hy z hz) (aH (dc y hy z hz) hp)) (λz hz =>?_)
   exact aH (Ny z) (aH (I0 z) (aH (dc y hy z hz) hp))
theorem c4s (x:List State) (hl:x.length≤1100000) (hx:∀y∈x,SW y) (hp:∀y∈x,y.parts≤4000000):G8 L en ns a b ents x:=
 R7 hL en ns a b ents x hl (λz hz=>c2o hL en ns a b ents z (hx z hz) (hp z hz)) (λz hz=>aH (Ny z) (aH (I0 z) (hp z hz)))
end
section
variable {L:Nat→Option PFunc} (hL:∀k f,LS k=some f→L k=some f) (en:List Enum) (ns:List Node) (a b:Int) (ents:zV)
include hL
theorem b60 (k:Nat) (hn:NodesIn ents ns k) (s:Place) (fp:s.before=ns.take k) (l:List Expr) (hl:l.length≤1100000) (hw:∀x∈l,XW x) (h:List PObj) (h2:h[2]? = some (yF ents)) (h3:h[3]? = some (yA en ns a b)) (v:PV) (fs:List Fr) (hv:Holds h h.length v fs) (dI:∀x,zr fs x=true↔x∈s.vis)
  (V0 V1 V2 V3 V4 V5 V6 V7 V8 V9:PV) (g:Nat) {Q:PExit→St→Prop} (kw:V0 = .ptr 3 0) (oA:V1 = .int .i64 k) (sB:V4=v)
  (ok:yy (λe=>zx s e 1) l=0→∀h' y6 g',Kp h.length h h'→Q (.exit 2) ⟨[V0,V1,V2,V3,V4,V5,y6,V7,V8,V9,.list false (l.map yq),.int .i64 l.length,.int .i64 l.length],[],g',h'⟩)
  (no:yy (λe=>zx s e 1) l≠0→∀h' W g',Kp h.length h h'→Q (.boom (zK 1 a b (yy (λe=>zx s e 1) l))) ⟨W,[],g',h'⟩):
  wpL L IX ⟨[V0,V1,V2,V3,V4,V5,V6,V7,V8,V9,.list false (l.map yq),.int .i64 l.length,.int .i64 0],[],g,h⟩ Q:=by
 subst kw
 subst oA
 subst sB
 have iZ:=hv.cp
 have i7:=hv.tkv
 have mh:=hv.dem
 rw[IX]
 refine yU l.length (λj st=>∃y6 g' h',st=⟨[.ptr 3 0,.int .i64 k,V2,V3,V4,V5,y6,V7,V8,V9,.list false (l.map yq),.int .i64 l.length,.int .i64 j],[],g',h'⟩∧Kp h.length h h'∧yy (λe=>zx s e 1) l=yy (λe=>zx s e 1) (l.drop j)) ?_ ?_ ⟨_,_,h,rfl,Kp.refl _ _,rfl⟩
 ·rintro j hj st ⟨y6,g',h',rfl,dq,dy⟩ ih
  have kg:=yz j (by omega)
  have pg:3<h.length:=(ah.1 h3).1
  have eB:h'[2]? = some (yF ents):=(dq.2 2 (by omega)).trans h2
  have eX:h'[3]? = some (yA en ns a b):=(dq.2 3 pg).trans h3
  obtain⟨h'',hx,fO⟩:=Nv hL en ns a b ents k hn s fp l[j] (hw _ (ak hj)).ew 1 h' eB eX h.length dq.1 V4 fs (hv.keep dq.2) dI
  have gq:Kp h.length h h'':=dq.trans (fO.le dq.1)
  rw[bg hj] at dy
  have iS:yy (λe=>zx s e 1) (l[j]::l.drop (j+1))=if zx s l[j] 1=0 then yy (λe=>zx s e 1) (l.drop (j+1)) else zx s l[j] 1:=rfl
  rw[iS] at dy
  by_cases hz:zx s l[j] 1=0
  ·rw[af hz] at dy
   rw[hz] at hx
   simp[yx] at hx
   simp[hj,iZ,i7,hx,kg]
   exact ih _ ⟨_,_,_,rfl,gq,dy⟩
  ·rw[ae hz] at dy
   simp[yx,hz] at hx
   simp[hj,iZ,i7,hx]
   rw[← dy]
   exact no (by rw[dy]; exact hz) h'' _ _ gq
 ·rintro st ⟨y6,g',h',rfl,dq,dy⟩
  rw[bl (am _)] at dy
  simp
  exact ok dy h' _ _ dq
end
def Ha (sz by':Nat) (z:List PV):PFunc:=⟨2,3,(S (R [t 2 (.c (.list true []))]) (S (B [m v1,b .lss l0 (k 0)] l1 (R [m (.c .dead),r (.mov (.c .dead))]) Z) (S (S (R [m v1,m v0,p (.cap l1),m v0,n l3,b .sub l2 l4,b .sub l0 l5,t 1 l6]) (B [m v1,b .gtr l0 (k 0)] l1 (R [m v0,m v0,p (.cap l1),p (.slice false sz l0 none (some l2)),m v1,p (.h (.happz sz true by' z l3 l4)),m v0,n l6,p (.slice false sz l5 none (some l7)),t 0 l8]) Z)) (S (R [m v0,t 2 l0]) Y)))),[.keep 2],false,none,none⟩
def Lc:PC:=(.loop (S (B [b .lss v8 v7] l0 Z (X 0)) (S (K 1 (S (R [i 1 v6 v8,c l0,t 3 l1]) (S (R [m v2,m v3,n l1,b .add l0 l2,t 2 l3]) (B [m v2,b .lss l0 (k 0)] l1 (R [m (.c .dead),r (.mov (.c .dead))]) Z)))) (R [b .add v8 (k 1),q 8 (.mov l0)]))))
def Ld (sz by':Nat):PC:=(.loop (S (B [b .lss zg zB] l0 Z (X 2)) (S (K 3 (S (R [i 1 v9 zg,c l0,t 5 l1]) (R [p (.take v4),m v5,p (.h (.happ sz true by' l0 l1)),t 4 l2]))) (R [b .add zg (k 1),q 11 (.mov l0)]))))
def Pq (sz by' gr:Nat) (res:PRes):PFunc:=⟨1,12,(S (R [t 1 (.c .nils)]) (S (R [t 2 (k 0)]) (S (S (R [q 6 (.mov v0),q 7 (.len false v6),q 8 (.mov (k 0))]) (K 0 Lc)) (S (R [m v2,fh gr [(.c .nils),l0],t 4 l1]) (S (S (R [q 9 (.mov v0),q 10 (.len false v9),q 11 (.mov (k 0))]) (K 2 (Ld sz by'))) (S (R [m v4,t 1 l0]) Y)))))),[res],false,none,none⟩
structure Enc {α:Type} (e:α→PV) (sz:Nat):Prop where
 agg:∀x,e x = .agg (e x).cells
 len:∀x,(e x).cells.length=sz
 dem:∀x,(e x).cells.map dem=(e x).cells
 pos:0<sz
section
variable {α:Type} {e:α→PV} {sz:Nat} (he:Enc e sz)
def RowOf (e:α→PV) (sz:Nat) (h:List PObj) (b:Nat) (v:PV) (l:List α):Prop:=(v = .nils∧l=[])∨∃k cs,b≤k∧v = .rowp k sz true l.length∧h[k]? = some (.cells cs)∧l.length*sz≤cs.length∧cs.take (l.length*sz)=(l.map e).flatMap PV.cells
def AA (e:α→PV) (gs:List (List α)):List PV:=gs.map λg => .list false (g.map e)
def Ad (gs:List (List α)):Nat:=yE List.length gs
theorem Le:∀(a b:List (List α)),Ad (a++b)=Ad a+Ad b
 | [],b=>by simp[Ad,yE]
 | x :: a, b => by
   have:=Le a b
   simp only[Ad] at this
   simp only[Ad,aK,yE,this]; omega
theorem Pt (gs:List (List α)) (j:Nat) (hj:j<gs.length):Ad (gs.take (j+1))=Ad (gs.take j)+gs[j].length:=by
 rw[AH hj,Le]
 simp[Ad,yE]
theorem Pu (gs:List (List α)) (j:Nat):Ad (gs.take j)≤Ad gs:=by
 have:=Le (gs.take j) (gs.drop j)
 rw[bY] at this; omega
theorem Pa (gs:List (List α)):gs.flatten.length=Ad gs:=by
 induction gs with
 | nil=>rfl
 | cons x gs ih=>rw[List.flatten_cons,ao,ih]; simp[Ad,yE]
include he
theorem Enc.cellsDem:∀l:List α,((l.map e).flatMap PV.cells).map PI.dem=(l.map e).flatMap PV.cells
 | []=>rfl
 | x :: l => by
   rw[aA,aM,bm,Enc.cellsDem l,he.dem]
theorem Enc.cellsLen:∀l:List α,((l.map e).flatMap PV.cells).length=l.length*sz
 | []=>by simp
 | x :: l => by
   rw[aA,aM,ao,Enc.cellsLen l,he.len,aB,Nat.succ_mul]; omega
theorem Enc.head (l:List α):zj sz (l.map e)=true:=by
 cases l with
 | nil=>rfl
 | cons x l=>simp[zj,he.len]
theorem Enc.els (l:List α) (cs:List PV) (hc:cs.take (l.length*sz)=(l.map e).flatMap PV.cells):Ao sz true cs l.length 0=some (l.map e):=by
 have key:∀(l:List α) (pre post:List PV),Ao sz true (pre++((l.map e).flatMap PV.cells++post)) l.length pre.length=some (l.map e):=by
  intro l
  induction l with
  | nil=>intro pre post; rfl
  | cons x l ih =>
    intro pre post
    have h1:=ih (pre++(e x).cells) post
    rw[ao,he.len] at h1
    have h2:pre++(e x).cells++((l.map e).flatMap PV.cells++post)=pre++(((x::l).map e).flatMap PV.cells++post):=by simp
    rw[h2] at h1
    have h3:yu sz true (pre++(((x::l).map e).flatMap PV.cells++post)) pre.length=some (e x):=by
     have hl:=he.len x
     have h4:pre.length+sz≤(pre++(((x::l).map e).flatMap PV.cells++post)).length:=by
      rw[ao,ao,aA,aM,ao]; omega
     simp only[yu,if_true,h4,List.drop_left']
     rw[aA,aM,aI,List.take_left' hl,he.dem,← he.agg]
    rw[aB,Ao,h3,ar,h1]
    rfl
 have:=key l [] (cs.drop (l.length*sz))
 rw[← hc,bY] at this
 exact this
theorem Enc.happ {by':Nat} (ie:by'≤16384) (h:List PObj) (b:Nat) (hb:b≤h.length) (v:PV) (l m:List α) (hv:RowOf e sz h b v l) (hl:l.length+m.length≤3300000):∃v' h',(∀st:St,st.heap=h→AI h sz true by' (m.map e) v st=some (v',{ st with heap:=h' }))∧Kp b h h'∧RowOf e sz h' b v' (l++m):=by
 have m6:=he.head m
 rcases hv with⟨rfl,rfl⟩|⟨k,cs,hk,rfl,hc,dH,mV⟩
 ·by_cases hm:m=[]
  ·subst hm
   refine⟨.nils,h,?_,Kp.refl _ _,.inl ⟨rfl,rfl⟩⟩
   intro st dz
   simp[AI,← dz]
  ·refine⟨.rowp h.length sz true m.length,h++[.cells ((m.map e).flatMap PV.cells)],?_,Kp.app hb,.inr ⟨h.length,(m.map e).flatMap PV.cells,hb,by simp,by simp,?_,?_⟩⟩
   ·intro st dz
    have h1:m.length≤2147483648:=by simp at hl; omega
    have rD:¬m.map e=[]:=by simpa using hm
    simp only[AI,rD,if_false,m6,aG,h1,he.cellsDem,ie]
    simp[dz]
   ·rw[he.cellsLen]; simp
   ·rw[be,bW (by rw[he.cellsLen]; omega)]
 ·have fe:k<h.length:=(ah.1 hc).1
  refine⟨.rowp h.length sz true (l.length+m.length),h.set k .gone++[.cells ((l.map e).flatMap PV.cells++(m.map e).flatMap PV.cells)],?_,⟨by simp,λn hn =>?_⟩,.inr ⟨h.length,(l.map e).flatMap PV.cells++(m.map e).flatMap PV.cells,hb,by simp,?_,?_,?_⟩⟩
  ·intro st dz
   have h1:l.length+m.length≤2147483648:=by omega
   simp only[AI,hc,m6,aG,h1,dH,mV,he.cellsDem,ie]
   simp
  ·rw[al (by simp; omega),ai (by omega)]
  ·have:(h.set k .gone).length=h.length:=by simp
   rw[← this,aq (am _)]
   simp
  ·rw[ao,ao,he.cellsLen,he.cellsLen,aS]; omega
  ·rw[bm,bQ,bW (by rw[ao,ao,he.cellsLen,he.cellsLen,aS]; omega)]
end
theorem RowOf.cp {α:Type} {e:α→PV} {sz:Nat} {h:List PObj} {b:Nat} {v:PV} {l:List α} (hv:RowOf e sz h b v l):cp v=some v∧tkv v=some (v,false)∧dem v=v:=by
 rcases hv with⟨rfl,_⟩|⟨k,cs,_,rfl,_⟩<;>exact⟨rfl,rfl,rfl⟩
section
variable {L:Nat→Option PFunc} {α:Type} {e:α→PV} {sz by' gr:Nat} {z:List PV} (he:Enc e sz) (ie:by'≤16384)
theorem d32 {sz by':Nat} {z:List PV} (hf:L gr=some (Ha sz by' z)) (h:List PObj):ym L gr [.nils,.int .i64 0] h=some (.nils,h):=by
 refine yB hf rfl ?_
 have m7:IntKind.i64.wrap (-IntKind.i64.wrap 0)=0:=by decide
 simp[Ha,m7]
theorem d33 {sz by':Nat} {z:List PV} (ie:by'≤16384) (hf:L gr=some (Ha sz by' z)) (n:Nat) (h0:0<n) (hn:n≤3300000) (h:List PObj):∃cs,ym L gr [.nils,.int .i64 n] h=some (.rowp h.length sz true 0,h++[.cells cs]):=by
 have su:(0:Int)<n:=by omega
 have wk:(n:Int)≤2147483648:=by omega
 have sx:¬(n:Int)<0:=by omega
 have sy:IntKind.i64.wrap 0=0:=by decide
 have hw:IntKind.i64.wrap (n:Int)=n:=by
  have:=yz (n - 1) (by omega)
  have e:((n - 1:Nat):Int)+1=n:=by omega
  rw[e] at this
  rw[this]
  omega
 refine⟨(List.replicate n (z.map dem)).flatten,?_⟩
 refine yB hf rfl ?_
 simp[Ha,su,wk,sx,h0,hw,sy,ie]
theorem c99 (gs:List (List α)) (hg:gs.length≤1100000) (hn:Ad gs≤3300000) (h:List PObj) (V0 V1 V3 V4 V5 V9 V10 V11:PV) (g:Nat) {Q:PExit→St→Prop}
  (ok:∀y3,Q (.exit 0) ⟨[V0,V1,.int .i64 (Ad gs),y3,V4,V5,.list false (AA e gs),.int .i64 gs.length,.int .i64 gs.length,V9,V10,V11],[],g,h⟩):
  wpL L Lc ⟨[V0,V1,.int .i64 0,V3,V4,V5,.list false (AA e gs),.int .i64 gs.length,.int .i64 0,V9,V10,V11],[],g,h⟩ Q:=by
 rw[Lc]
 refine yU gs.length (λj st=>∃y3,st=⟨[V0,V1,.int .i64 (Ad (gs.take j)),y3,V4,V5,.list false (AA e gs),.int .i64 gs.length,.int .i64 j,V9,V10,V11],[],g,h⟩) ?_ ?_ ⟨_,by simp[Ad,yE]; rfl⟩
 ·rintro j hj st ⟨y3,rfl⟩ ih
  have hw:=yz j (by omega)
  have ht:=Pt gs j hj
  have eF:=Pu gs (j+1)
  obtain⟨A,hA⟩:∃A,A=Ad (gs.take j):=⟨_,rfl⟩
  obtain⟨B,hB⟩:∃B,B=Ad (gs.take (j+1)):=⟨_,rfl⟩
  rw[← hA,← hB] at ht
  rw[← hB] at eF
  have nL:IntKind.i64.wrap ((A:Int)+gs[j].length)=B:=by
   have:=BB (A+gs[j].length) (by omega)
   rw[show (A:Int)+gs[j].length=((A+gs[j].length:Nat):Int) by omega,this,ht]
  have pW:j<(AA e gs).length:=by simpa[AA] using hj
  have nM:(AA e gs)[j]? = some (.list false (gs[j].map e)):=by simp[AA,hj]
  rw[← hA]
  rw[← hB] at ih
  obtain⟨GS,sA⟩:∃GS,GS=AA e gs:=⟨_,rfl⟩
  rw[← sA] at ih pW nM ⊢
  have nN:GS[j] = .list false (gs[j].map e):=(ah.1 nM).2
  have dH:∀es,(PV.list false es).cells=[.list false es]:=λ_=>rfl
  have wm:¬(B:Int)<0:=by omega
  simp[hj,pW,nM,hw,nL,nN,dH,wm]
  exact ih _ ⟨_,rfl⟩
 ·rintro st ⟨y3,rfl⟩
  rw[aD]
  simp
  exact ok _
include he ie
theorem Pv (gs:List (List α)) (hg:gs.length≤1100000) (hn:Ad gs≤3300000) (h:List PObj) (b:Nat) (hb:b≤h.length) (V4:PV) (sB:RowOf e sz h b V4 []) (V0 V1 V2 V3 V5 V6 V7 V8:PV) (g:Nat) {Q:PExit→St→Prop}
  (ok:∀h' v y5,Kp b h h'→RowOf e sz h' b v gs.flatten→Q (.exit 2) ⟨[V0,V1,V2,V3,v,y5,V6,V7,V8,.list false (AA e gs),.int .i64 gs.length,.int .i64 gs.length],[],g,h'⟩):
  wpL L (Ld sz by') ⟨[V0,V1,V2,V3,V4,V5,V6,V7,V8,.list false (AA e gs),.int .i64 gs.length,.int .i64 0],[],g,h⟩ Q:=by
 rw[Ld]
 refine yU gs.length (λj st=>∃v y5 h',st=⟨[V0,V1,V2,V3,v,y5,V6,V7,V8,.list false (AA e gs),.int .i64 gs.length,.int .i64 j],[],g,h'⟩∧Kp b h h'∧RowOf e sz h' b v (gs.take j).flatten) ?_ ?_ ⟨_,_,h,rfl,Kp.refl _ _,sB⟩
 ·rintro j hj st ⟨v,y5,h',rfl,dq,hv⟩ ih
  have hw:=yz j (by omega)
  have ht:=Pt gs j hj
  have eF:=Pu gs (j+1)
  have fQ:(gs.take (j+1)).flatten=(gs.take j).flatten++gs[j]:=by
   rw[AH hj,List.flatten_append]; simp
  obtain⟨v',h'',gz,fO,ea⟩:=he.happ ie h' b (aH hb dq.1) v _ gs[j] hv (by rw[Pa]; omega)
  have nM:(AA e gs)[j]? = some (.list false (gs[j].map e)):=by simp[AA,hj]
  have pW:j<(AA e gs).length:=by simpa[AA] using hj
  obtain⟨GS,sA⟩:∃GS,GS=AA e gs:=⟨_,rfl⟩
  rw[← sA] at ih pW nM ⊢
  have nN:GS[j] = .list false (gs[j].map e):=(ah.1 nM).2
  have dH:∀es,(PV.list false es).cells=[.list false es]:=λ_=>rfl
  have hc:=hv.cp
  have gU:=ea.cp
  rw[← fQ] at ea
  simp[hj,pW,nM,hw,nN,dH,hc.1,hc.2.1,hc.2.2,gz,gU.1,gU.2.1,gU.2.2]
  exact ih _ ⟨v',_,h'',rfl,dq.trans fO,ea⟩
 ·rintro st ⟨v,y5,h',rfl,dq,hv⟩
  rw[aD] at hv
  simp
  exact ok h' v y5 dq hv
theorem c3L {k:Nat} (hf:L k=some (Pq sz by' gr (.keep 1))) (pd:L gr=some (Ha sz by' z)) (gs:List (List α)) (hg:gs.length≤1100000) (hn:Ad gs≤3300000) (o:Bool) (h:List PObj):∃v h',ym L k [.list o (AA e gs)] h=some (v,h')∧Kp h.length h h'∧RowOf e sz h' h.length v gs.flatten:=by
 suffices H:∃r,ym L k [.list o (AA e gs)] h=some r∧Kp h.length h r.2∧RowOf e sz r.2 h.length r.1 gs.flatten from by
  obtain⟨⟨v,h'⟩,h1,h2,h3⟩:=H
  exact⟨v,h',h1,h2,h3⟩
 refine AP hf rfl ?_
 have sC:(AA e gs).length=gs.length:=by simp[AA]
 simp[Pq,sC]
 refine c99 gs hg hn h _ _ _ _ _ _ _ _ _ ?_
 intro y3
 by_cases h0:Ad gs=0
 ·have pd:=d32 pd h
  have su:(Ad gs:Int)=0:=by omega
  simp[su,pd,sC]
  refine Pv he ie gs hg hn h h.length (am _) .nils (.inl ⟨rfl,rfl⟩) _ _ _ _ _ _ _ _ _ ?_
  intro h' v y5 hk hv
  have hc:=hv.cp
  simp[hc.1,hc.2.1,hc.2.2,yJ]
  exact⟨hk,hv⟩
 ·obtain⟨cs,pd⟩:=d33 ie pd (Ad gs) (by omega) hn h
  simp[pd,sC]
  refine Pv he ie gs hg hn _ h.length (by simp) (.rowp h.length sz true 0) (.inr ⟨h.length,cs,am _,rfl,by simp,by simp,by simp⟩) _ _ _ _ _ _ _ _ _ ?_
  intro h' v y5 hk hv
  have hc:=hv.cp
  simp[hc.1,hc.2.1,hc.2.2,yJ]
  exact⟨(Kp.app (am _)).trans hk,hv⟩
end
theorem Lf:Enc yw 3:=⟨λ_=>rfl,λ_=>rfl,λ_=>rfl,by decide⟩
section
variable {L:Nat→Option PFunc} (hL:∀k f,LS k=some f→L k=some f)
include hL
theorem c4t (l:List On) (hl:l.length≤1100000) (o:Bool) (h:List PObj):∃r,ym L 34 [.list o (l.map eOn)] h=some (.list r (l.map eOn),h):=by
 refine⟨true,?_⟩
 refine b88 (hL 34 _ rfl) rfl rfl ?_ ?_
 ·intro hv
  cases l with
  | nil=>simp at hv
  | cons x l =>
    rw[aB] at hl
    have h1:l.length+1≤9223372036854775807:=by omega
    have h2:(l.length+1)*32≤140737488355328:=by omega
    have h3:l.length+1≤2147483648:=by omega
    simp[I7,h1,h2,h3]
 ·intro hv
  cases l with
  | nil=>simp[I7]
  | cons x l=>simp at hv
end
section
variable {L:Nat→Option PFunc} (hL:∀k f,LS k=some f→L k=some f)
include hL
theorem O9 (gs:List (List Decl)) (hg:gs.length≤1100000) (hn:Ad gs≤3300000) (o:Bool) (h:List PObj):∃v h',ym L 33 [.list o (AA yw gs)] h=some (v,h')∧Kp h.length h h'∧RowOf yw 3 h' h.length v gs.flatten:=
 c3L Lf (by decide) (k:=33) (by':=48) (gr:=74) (hL 33 _ rfl) (hL 74 _ rfl) gs hg hn o h
theorem O7 (l:List Decl) (cs:List PV) (hc:cs.take (l.length*3)=(l.map yw).flatMap PV.cells) (hl:l.length*3≤cs.length) (j:Nat) (hj:j<l.length):
  j*3+3≤cs.length∧List.map dem (List.take 3 (List.drop (j*3) cs))=[.str l[j].name,.int .i64 l[j].type,.list false (l[j].clock.map eOn)]∧cs.set (j*3+2) (.list false (l[j].clock.map eOn))=cs:=by
 have _:=hL
 have he:=Lf.els l cs hc
 obtain⟨_,hg⟩:=JM he
 have h1:=hg j (yw l[j]) (by simp[hj])
 simp only[aU,yu,if_true] at h1
 have hb:j*3+3≤cs.length:=by omega
 rw[af hb,JD] at h1
 simp only[aa,PV.agg.injEq] at h1
 refine⟨hb,h1,?_⟩
 have dc:j*3+2<cs.length:=by omega
 have hx:cs[j*3+2]? = some (.list false (l[j].clock.map eOn)):=by
  have dg:∀(l:List Decl) (j:Nat) (hj:j<l.length),((l.map yw).flatMap PV.cells)[j*3+2]? = some (.list false (l[j].clock.map eOn)):=by
   intro l
   induction l with
   | nil=>intro j hj; simp at hj
   | cons x l ih =>
     intro j hj
     rw[aA,aM]
     cases j with
     | zero=>rfl
     | succ j =>
       have:=ih j (by simpa using hj)
       have e:(j+1)*3+2=(yw x).cells.length+(j*3+2):=by show _=3+_; omega
       rw[e,aq (by omega),Nat.add_sub_cancel_left]
       simpa using this
  have:=dg l j hj
  rw[← hc,cD (by omega)] at this
  exact this
 obtain⟨h2,h3⟩:=ah.1 hx
 rw[← h3]; exact List.set_getElem_self h2
theorem Pd (n:Node) (h1:n.ins.length≤1100000) (h2:n.outs.length≤1100000) (h3:n.locals.length≤1100000) (hd:∀d∈vars n,d.clock.length≤1100000):∃h',ym L 11 [yL n] []=some (.list false ((vars n).map yw),h'):=by
 suffices H:∃r,ym L 11 [yL n] []=some r∧r.1 = .list false ((vars n).map yw) by
  obtain⟨⟨v,h'⟩,h1,h2⟩:=H
  simp only at h2; subst h2
  exact⟨h',h1⟩
 obtain⟨v,h',hc,_,hr⟩:=O9 hL [n.ins,n.outs,n.locals] (by simp) (by simp[Ad,yE]; omega) false []
 have hf:[n.ins,n.outs,n.locals].flatten=vars n:=by simp[vars]
 rw[hf] at hr
 have hx:AA yw [n.ins,n.outs,n.locals]=[.list false (n.ins.map yw),.list false (n.outs.map yw),.list false (n.locals.map yw)]:=rfl
 rw[hx] at hc
 have nE:(vars n).length≤3300000:=by simp[vars]; omega
 obtain⟨D,hD⟩:∃D,D=vars n:=⟨_,rfl⟩
 rw[← hD] at hr hd nE ⊢
 refine AP (hL 11 _ rfl) rfl ?_
 rcases hr with⟨rfl,rfl⟩|⟨k,cs,_,rfl,hk,hl,ht⟩
 ·simp[I5,hc]
  rw[Li,Cy]
  simp[yJ]
 ·simp[I5,hc]
  rw[Li]
  refine yU D.length (λj st=>∃y4 y5 g,st=⟨[yL n,.loc 0 (yL n).cells,.list true [],.rowp k 3 true D.length,y4,y5,.rowp k 3 true D.length,.int .i64 D.length,.int .i64 j],[],g,h'⟩) ?_ ?_ ⟨_,_,_,rfl⟩
  ·rintro j hj st ⟨y4,y5,g,rfl⟩ ih
   have hw:=yz j (by omega)
   obtain⟨r1,r2,r3⟩:=O7 hL D cs ht hl j hj
   obtain⟨o,dH⟩:=c4t hL D[j].clock (hd _ (ak hj)) false []
   have yH:h'.set k (.cells cs)=h':=Ch hk
   have r4:j*3+2<cs.length:=by omega
   simp[hj,hw,hk,r1,r2,r3,r4,dH,yH]
   exact ih _ ⟨_,_,_,rfl⟩
  ·rintro st ⟨y4,y5,g,rfl⟩
   simp[yJ,hk,Lf.els _ _ ht]
end
section
variable {L:Nat→Option PFunc} (hL:∀k f,LS k=some f→L k=some f) (en:List Enum) (ns:List Node) (a b:Int) (ents:zV)
include hL
theorem O6 (h:List PObj) (hb:4≤h.length):∃h',ym L 58 [.nilptr] h=some (.ptr (h.length+2) 0,h')∧h'.length=h.length+3∧Kp h.length h h'∧TopAt h' h'.length h.length (h.length+2) h.length (h.length+1) (.map none) (.list true []) .nilptr ⟨[],[],[],[]⟩ []:=by
 refine⟨h++[.map [],.map [],.cells [.nilptr,.map (some h.length),.map (some (h.length+1)),.map none,.list true []]],?_,by simp,Kp.app (am _),?_⟩
 ·refine yB (hL 58 _ rfl) rfl ?_
  simp[G7,PV.cells]
 ·exact⟨by omega,by omega,by omega,by simp,by simp,by simp,by omega,by omega,by omega,hb,by simp,by simp[bmE],by simp[bmE],.inl ⟨rfl,rfl⟩,.inl ⟨rfl,rfl⟩,λ_ _ _ _ e=>by simp at e,rfl⟩
theorem IU (l m:List Decl):yp (l++m)=yp l++yp m:=by have _:=hL; simp[yp]
theorem b6p (F:List Decl) (hF:F.length≤3300000) (h:List PObj) (q q' n o d:Nat) (i dv up:PV) (fs:List Fr) (t:TopAt h q q' n o d i dv up ⟨[],[],[],[]⟩ fs) (kr:Nat) (lZ:q≤kr) (cs:List PV) (hk:h[kr]? = some (.cells cs)) (hl:F.length*3≤cs.length) (ht:cs.take (F.length*3)=(F.map yw).flatMap PV.cells)
  (V0 V1 V2 V3 V5 V6 V10 V11 V12:PV) (g:Nat) {Q:PExit→St→Prop}
  (ok:∀y5 g' h' O,h'.length=h.length→Kp q' h h'→TopAt h' q q' n o d i dv up ⟨O,[],[],[]⟩ fs→(∀x,x∈O↔x∈yp F)→Q (.exit 0) ⟨[V0,V1,V2,V3,.ptr n 0,y5,V6,.rowp kr 3 true F.length,.int .i64 F.length,.int .i64 F.length,V10,V11,V12],[],g',h'⟩):
  wpL L IV ⟨[V0,V1,V2,V3,.ptr n 0,V5,V6,.rowp kr 3 true F.length,.int .i64 F.length,.int .i64 0,V10,V11,V12],[],g,h⟩ Q:=by
 rw[IV]
 refine yU F.length (λj st=>∃y5 g' h' O,st=⟨[V0,V1,V2,V3,.ptr n 0,y5,V6,.rowp kr 3 true F.length,.int .i64 F.length,.int .i64 j,V10,V11,V12],[],g',h'⟩∧h'.length=h.length∧Kp q' h h'∧h'[kr]? = some (.cells cs)∧TopAt h' q q' n o d i dv up ⟨O,[],[],[]⟩ fs∧∀x,x∈O↔x∈yp (F.take j)) ?_ ?_ ⟨_,_,h,[],rfl,rfl,Kp.refl _ _,hk,t,by simp[yp]⟩
 ·rintro j hj st ⟨y5,g',h',O,rfl,cY,dq,hk,t,hO⟩ ih
  have hw:=yz j (by omega)
  obtain⟨r1,r2,r3⟩:=O7 hL F cs ht hl j hj
  obtain⟨r,hr,_,iG⟩:=Dn F[j].name O
  have e1:=t.hn
  have e2:=t.ho
  have dh:t.uo=t.uo:=rfl
  have uT:=t.uo
  simp only[] at e1 e2
  simp[hj,hw,hk,r1,r2,e1,e2,hr,zo]
  refine ih _ ⟨_,_,_,CM O F[j].name,rfl,by simpa using cY,dq.trans (Kp.set t.lo),by rw[ai (by omega)]; exact hk,?_,λx =>?_⟩
  ·rw[iG]
   exact t.setO _
  ·rw[IW,hO,AH hj,IU hL,aw]
   simp[yp]
 ·rintro st ⟨y5,g',h',O,rfl,cY,dq,hk,t,hO⟩
  rw[aD] at hO
  simp
  exact ok _ _ _ _ cY dq t hO
theorem O8 (k:Nat) (dx:NodesIn ents ns k) (s:Place) (fp:s.before=ns.take k) (l:List Expr) (hl:l.length≤1100000) (hw:∀x∈l,XW x) (gs:List (List Decl)) (hg:gs.length≤1100000) (hn:Ad gs≤3300000) (dI:∀x,x∈yp gs.flatten↔x∈s.vis) (o1 o2:Bool)
  (h:List PObj) (h4:4≤h.length) (h2:h[2]? = some (yF ents)) (h3:h[3]? = some (yA en ns a b)):
  ∃h',yI L 63 [.ptr 3 0,.int .i64 k,.list o1 (l.map yq),.list o2 (AA yw gs)] h=some (yx 1 a b (yy (λe=>zx s e 1) l),h')∧Kp h.length h h':=by
 suffices H:∃res,yI L 63 [.ptr 3 0,.int .i64 k,.list o1 (l.map yq),.list o2 (AA yw gs)] h=some res∧∃h',res=(yx 1 a b (yy (λe=>zx s e 1) l),h')∧Kp h.length h h' by
  obtain⟨res,e1,h',e2,e3⟩:=H
  exact⟨h',by rw[e1,e2],e3⟩
 obtain⟨h1,c1,ei,k1,t1⟩:=O6 hL h h4
 obtain⟨v,hx,c2,k2,hr⟩:=O9 hL gs hg hn false h1
 have fO:Kp h.length h hx:=k1.trans (k2.le k1.1)
 have tx:TopAt hx h1.length h.length (h.length+2) h.length (h.length+1) (.map none) (.list true []) .nilptr ⟨[],[],[],[]⟩ []:=t1.keep k2.2
 obtain⟨F,hF⟩:∃F,F=gs.flatten:=⟨_,rfl⟩
 have mU:F.length≤3300000:=by rw[hF,Pa]; exact hn
 rw[← hF] at hr dI
 have fc:∀(V3 V5 V6 V7 V8 V9:PV) (g:Nat) (h':List PObj) (O:List Str),h1.length≤h'.length→Kp h.length hx h'→TopAt h' h1.length h.length (h.length+2) h.length (h.length+1) (.map none) (.list true []) .nilptr ⟨O,[],[],[]⟩ []→(∀x,x∈O↔x∈yp F) →
   wpL L IX ⟨[.ptr 3 0,.int .i64 k,.list false (l.map yq),V3,.ptr (h.length+2) 0,V5,V6,V7,V8,V9,.list false (l.map yq),.int .i64 l.length,.int .i64 0],[],g,h'⟩ (DO 2 (Ff L FU λres=>∃h',res=(yx 1 a b (yy (λe=>zx s e 1) l),h')∧Kp h.length h h')):=by
  intro V3 V5 V6 V7 V8 V9 g h' O eF dq t hO
  have dt:=fO.trans dq
  refine b60 hL en ns a b ents k dx s fp l hl hw h' ((dt.2 2 (by omega)).trans h2) ((dt.2 3 (by omega)).trans h3) (.ptr (h.length+2) 0) [⟨O,[],[],[]⟩] (t.holds.up eF) (λx=>by simp[zr,hO,dI]) _ _ _ _ _ _ _ _ _ _ _ rfl rfl rfl ?_ ?_
  ·intro hz h'' y6 g' hk''
   rw[hz]
   simp[yx,FU]
   exact dt.trans (hk''.le dt.1)
  ·intro hz h'' W g' hk''
   simp[yx,hz]
   exact dt.trans (hk''.le dt.1)
 refine DP (hL 63 _ rfl) rfl ?_
 rcases hr with⟨rfl,rfl⟩|⟨kr,cs,lZ,rfl,hk,dH,mV⟩
 ·simp[FU,c1,c2]
  rw[IV,Cy]
  simp
  exact fc _ _ _ _ _ _ _ hx [] (by have:=k2.1; omega) (Kp.refl _ _) tx (by simp[yp])
 ·simp[FU,c1,c2]
  refine b6p hL F mU hx h1.length h.length _ _ _ _ _ _ [] tx kr lZ cs hk dH mV _ _ _ _ _ _ _ _ _ _ ?_
  intro y5 g' h' O cY dq t hO
  simp
  exact fc _ _ _ _ _ _ _ h' O (by have:=k2.1; omega) dq t hO
end
section
variable {h:List PObj} {b b' n o d:Nat} {dv up:PV} {f:Fr} {fs:List Fr}
theorem TopAt.newI (t:TopAt h h.length b' n o d (.map none) dv up f fs) (hd:dv = .list true []) (hI:f.I=[]):
  TopAt ((h++[PObj.map []]).set n (PObj.cells [up,.map (some o),.map (some d),.map (some h.length),dv])) (h.length+1) b' n o d (.map (some h.length)) dv up f fs:=by
 have ic:=t.un
 have uT:=t.uo
 have vV:=t.ud
 have mW:=t.ln
 have key:∀k,k<h.length→k≠n→((h++[PObj.map []]).set n (PObj.cells [up,.map (some o),.map (some d),.map (some h.length),dv]))[k]? = h[k]? := λk h1 h2=>by
  rw[ai (Ne.symm h2),al h1]
 refine⟨t.ln,t.lo,t.ld,by omega,by omega,by omega,t.no,t.nd,t.od,t.four,?_,?_,?_,.inr ⟨h.length,rfl,by omega,by omega,by omega,by omega,by omega,?_⟩,?_,?_,?_⟩
 ·rw[av (by simp; omega)]
 ·rw[key o uT (Ne.symm t.no)]; exact t.ho
 ·rw[key d vV (Ne.symm t.nd)]; exact t.hd
 ·rw[hI,ai (by omega)]; simp[bmE]
 ·rcases t.row with h1|⟨k,e1,e2,e3,e4⟩
  ·exact .inl h1
  ·rw[hd] at e3; simp at e3
 ·intro k s a len e; rw[hd] at e; simp at e
 ·exact t.hup.keep λk hk=>key k (by omega) (by omega)
theorem TopAt.setI {m:Nat} (t:TopAt h b b' n o d (.map (some m)) dv up f fs) (I:List Str):h[m]? = some (.map (bmE f.I))∧b'≤m∧TopAt (h.set m (.map (bmE I))) b b' n o d (.map (some m)) dv up { f with I:=I } fs:=by
 have hi:=t.hi
 rcases hi with⟨h1,_⟩|⟨m',e1,e2,e3,e4,e5,e6,e7⟩
 ·simp at h1
 ·simp only[PV.map.injEq,aa] at e1
  subst e1
  have hl:=(ah.1 e7).1
  refine⟨e7,e2,t.ln,t.lo,t.ld,t.un,t.uo,t.ud,t.no,t.nd,t.od,t.four,?_,?_,?_,.inr ⟨m,rfl,e2,e3,e4,e5,e6,by rw[av hl]⟩,?_,t.rne,t.hup.keep λk dt=>ai (by omega)⟩
  ·rw[ai e4]; exact t.hn
  ·rw[ai e5]; exact t.ho
  ·rw[ai e6]; exact t.hd
  ·rcases t.row with h1|⟨k,e1,e2,e3,e4⟩
   ·exact .inl h1
   ·exact .inr ⟨k,e1,e2,e3,by rw[ai (λe=>(t.rne _ _ _ _ e3).2.2.2 (by rw[e]))]; exact e4⟩
end
section
variable {L:Nat→Option PFunc} (hL:∀k f,LS k=some f→L k=some f)
include hL
theorem c0g (l:List Decl) (hl:l.length≤1100000) (h:List PObj) (q q' n o d m:Nat) (dv up:PV) (f:Fr) (fs:List Fr) (t:TopAt h q q' n o d (.map (some m)) dv up f fs) (hI:f.I=[])
  (V0 V1 V2 V4 V5 V6 V7 V8 V12 V13 V14 V15 V16 V17 V18 V19 V20:PV) (g:Nat) {Q:PExit→St→Prop}
  (ok:∀y4 g' h' I,h'.length=h.length→Kp q' h h'→TopAt h' q q' n o d (.map (some m)) dv up { f with I:=I } fs→(∀x,x∈I↔x∈yp l)→Q (.exit 0) ⟨[V0,V1,V2,.ptr n 0,y4,V5,V6,V7,V8,.list false (l.map yw),.int .i64 l.length,.int .i64 l.length,V12,V13,V14,V15,V16,V17,V18,V19,V20],[],g',h'⟩):
  wpL L KU ⟨[V0,V1,V2,.ptr n 0,V4,V5,V6,V7,V8,.list false (l.map yw),.int .i64 l.length,.int .i64 0,V12,V13,V14,V15,V16,V17,V18,V19,V20],[],g,h⟩ Q:=by
 rw[KU]
 refine yU l.length (λj st=>∃y4 g' h' I,st=⟨[V0,V1,V2,.ptr n 0,y4,V5,V6,V7,V8,.list false (l.map yw),.int .i64 l.length,.int .i64 j,V12,V13,V14,V15,V16,V17,V18,V19,V20],[],g',h'⟩∧h'.length=h.length∧Kp q' h h'∧TopAt h' q q' n o d (.map (some m)) dv up { f with I:=I } fs∧∀x,x∈I↔x∈yp (l.take j)) ?_ ?_ ⟨_,_,h,[],rfl,rfl,Kp.refl _ _,by rw[← hI]; exact t,by simp[yp]⟩
 ·rintro j hj st ⟨y4,g',h',I,rfl,cY,dq,t,hI⟩ ih
  have hw:=yz j (by omega)
  obtain⟨r,hr,_,iG⟩:=Dn l[j].name I
  have e1:=t.hn
  obtain⟨e2,e3,t2⟩:=t.setI (CM I l[j].name)
  simp only[] at e1 e2
  simp[hj,hw,e1,e2,hr,zo]
  refine ih _ ⟨_,_,_,CM I l[j].name,rfl,by simpa using cY,dq.trans (Kp.set e3),by rw[iG]; exact t2,λx =>?_⟩
  rw[IW,hI,AH hj,IU hL,aw]
  simp[yp]
 ·rintro st ⟨y4,g',h',I,rfl,cY,dq,t,hI⟩
  rw[aD] at hI
  simp
  exact ok _ _ _ _ cY dq t hI
theorem b8e (s:Place) (q:Eqn) (qs:List Eqn) (k:Nat) (d:List Str):Cf s (q::qs) k d=if (AY s q d).1=0 then Cf s qs (k+1) (AY s q d).2 else .inl (k,(AY s q d).1):=by have _:=hL; rfl
variable (en:List Enum) (ns:List Node) (ents:zV)
theorem c0h (i:Nat) (dx:NodesIn ents ns i) (s:Place) (fp:s.before=ns.take i) (l:List Eqn) (hl:l.length≤1100000) (hq:∀q∈l,QW q) (h:List PObj) (h2:h[2]? = some (yF ents)) (c:Int) (h3:h[3]? = some (yA en ns i c)) (q' n o d:Nat) (iv dv up:PV) (f:Fr) (t:TopAt h h.length q' n o d iv dv up f []) (dI:∀x,zr [f] x=true↔x∈s.vis)
  (hD:f.D=f.df) (dQ:∀x,x∈f.I↔x∈s.inputs) (jT:f.df.length+(zz l).length≤4000000) (h0:f.df=[])
  (V2 V4 V5 V6 V7 V8 V9 V10 V11 V15 V16 V17 V18 V19 V20:PV) (g:Nat) {Q:PExit→St→Prop}
  (ok:∀df,Cf s l 0 [] = .inr df→∀y5 y6 g' h' c' dv',Kp q' h (h'.set 3 (yA en ns i c))→h'[3]? = some (yA en ns i c')→TopAt h' h'.length q' n o d iv dv' up { f with D:=df,df:=df } []→Q (.exit 2) ⟨[.ptr 3 0,.int .i64 i,V2,.ptr n 0,V4,y5,y6,V7,V8,V9,V10,V11,.list false (l.map yZ),.int .i64 l.length,.int .i64 l.length,V15,V16,V17,V18,V19,V20],[],g',h'⟩)
  (no:∀k e,Cf s l 0 [] = .inl (k,e)→∀W g' h',Kp q' h (h'.set 3 (yA en ns i c))→Q (.boom (zK 1 i k e)) ⟨W,[],g',h'⟩):
  wpL L KV ⟨[.ptr 3 0,.int .i64 i,V2,.ptr n 0,V4,V5,V6,V7,V8,V9,V10,V11,.list false (l.map yZ),.int .i64 l.length,.int .i64 0,V15,V16,V17,V18,V19,V20],[],g,h⟩ Q:=by
 rw[KV]
 have vW:∀{h':List PObj},Kp q' h (h'.set 3 (yA en ns i c))→h'[2]? = some (yF ents):=λ{h'} hk=>by
  have:=hk.2 2 (by have:=t.four; omega)
  rw[ai (by decide)] at this
  exact this.trans h2
 have h4q:=t.four
 refine yU l.length (λj st=>∃y5 y6 g' h' c' dv' df,st=⟨[.ptr 3 0,.int .i64 i,V2,.ptr n 0,V4,y5,y6,V7,V8,V9,V10,V11,.list false (l.map yZ),.int .i64 l.length,.int .i64 j,V15,V16,V17,V18,V19,V20],[],g',h'⟩∧Kp q' h (h'.set 3 (yA en ns i c))∧h'[3]? = some (yA en ns i c')∧TopAt h' h'.length q' n o d iv dv' up { f with D:=df,df:=df } []∧Cf s l 0 []=Cf s (l.drop j) j df∧df.length+(zz (l.drop j)).length≤4000000) ?_ ?_ ⟨_,_,_,h,c,dv,[],rfl,⟨by simp,λk hk=>by
   by_cases ir:k=3
   ·subst ir; rw[av (ah.1 h3).1]; exact h3.symm
   ·rw[ai (Ne.symm ir)]⟩,h3,by
   have:({ f with D:=[],df:=[] }:Fr)=f:=by cases f; simp only at hD h0; subst h0; subst hD; rfl
   rw[this]; exact t,rfl,by rw[h0] at jT; simpa using jT⟩
 ·rintro j hj st ⟨y5,y6,g',h',c',dv',df,rfl,dq,eX,t,hd,eF⟩ ih
  have hw:=yz j (by omega)
  have sd:=(ah.1 eX).1
  rw[bg hj] at hd eF
  rw[b8e hL] at hd
  have mX:zz (l[j]::l.drop (j+1))=l[j].left++zz (l.drop (j+1)):=by unfold zz; rw[aM]
  rw[mX,ao] at eF
  have kW:(h'.set 3 (yA en ns i j))[3]? = some (yA en ns i j):=by rw[av sd]
  have fx:(h'.set 3 (yA en ns i j))[2]? = some (yF ents):=by rw[ai (by decide)]; exact vW dq
  have tH:TopAt (h'.set 3 (yA en ns i j)) (h'.set 3 (yA en ns i j)).length q' n o d iv dv' up { f with D:=df,df:=df } []:=by
   rw[aZ]
   have key:∀k,4≤k→(h'.set 3 (yA en ns i j))[k]? = h'[k]? := λk hk=>ai (by omega)
   exact⟨t.ln,t.lo,t.ld,t.un,t.uo,t.ud,t.no,t.nd,t.od,t.four,(key _ (by have:=t.ln; omega)).trans t.hn,(key _ (by have:=t.lo; omega)).trans t.ho,(key _ (by have:=t.ld; omega)).trans t.hd,t.hi.imp id (fun⟨m,e1,e2,e3,e4,e5,e6,e7⟩=>⟨m,e1,e2,e3,e4,e5,e6,(key _ (by omega)).trans e7⟩),t.row.imp id (fun⟨k,e1,e2,e3,e4⟩=>⟨k,e1,e2,e3,(key _ (by omega)).trans e4⟩),t.rne,t.hup⟩
  obtain⟨h'',hx,fO,dZ⟩:=Pb hL en ns i j ents i dx s fp l[j] (hq _ (ak hj)) _ fx kW q' n o d iv dv' up { f with D:=df,df:=df } [] tH (λx=>by have:=dI x; simpa[zr] using this) [] rfl (λx=>by simp[A5,dQ]) (by simp only; omega)
  simp only[be] at hx dZ
  have gq:Kp q' h (h''.set 3 (yA en ns i c)):=by
   refine⟨by have:=dq.1; have:=fO.1; simp at *; omega,λk hk =>?_⟩
   by_cases ir:k=3
   ·subst ir
    have:=fO.1
    rw[av (by simp at this; omega)]; exact h3.symm
   ·rw[ai (Ne.symm ir),fO.2 k hk,ai (Ne.symm ir)]
    have:=dq.2 k hk
    rwa [ai (Ne.symm ir)] at this
  have h3'':h''[3]? = some (yA en ns i j):=(fO.2 3 (by omega)).trans kW
  have dz:h'.set 3 (.cells [.list false (en.map yG),.list false (ns.map yL),.int .i64 i,.int .i64 j,.map (some 2)])=h'.set 3 (yA en ns i j):=rfl
  have mY:h'[3]? = some (.cells [.list false (en.map yG),.list false (ns.map yL),.int .i64 i,.int .i64 c',.map (some 2)]):=eX
  by_cases hz:(AY s l[j] df).1=0
  ·rw[af hz] at hd
   obtain⟨dv2,df2,e1,t2⟩:=dZ hz
   rw[hz] at hx
   simp[yx] at hx
   simp[hj,mY,dz,hx,hw]
   have vX:df2.length=df.length+l[j].left.length:=by
    have h1:=(IY.1 (Prod.ext hz e1:AY s l[j] df=(0,df2))).1
    rw[h1,ao]
   exact ih _ ⟨_,_,_,h'',j,dv2,df2,rfl,gq,h3'',t2,by rw[hd,e1],by omega⟩
  ·rw[ae hz] at hd
   simp[yx,hz] at hx
   simp[hj,mY,dz,hx]
   exact no _ _ hd _ _ _ gq
 ·rintro st ⟨y5,y6,g',h',c',dv',df,rfl,dq,eX,t,hd,eF⟩
  rw[bl (am _)] at hd
  simp
  exact ok df hd _ _ _ _ _ _ dq eX t
end
section
variable {L:Nat→Option PFunc} (hL:∀k f,LS k=some f→L k=some f) (en:List Enum) (ns:List Node) (a b:Int) (ents:zV)
include hL
theorem c0i (k:Nat) (dx:NodesIn ents ns k) (s:Place) (fp:s.before=ns.take k) (ej:Do ents s.tags) (l:List (List State)) (hl:l.length≤1100000) (hq:∀x∈l,G8 L en ns a b ents x) (h:List PObj) (h2:h[2]? = some (yF ents)) (h3:h[3]? = some (yA en ns a b)) (q' n o d:Nat) (i dv up:PV) (f:Fr) (fs:List Fr) (t:TopAt h h.length q' n o d i dv up f fs) (dI:∀x,zr (f::fs) x=true↔x∈s.vis)
  (d0:List Str) (hD:f.D=f.df) (dQ:∀x,(x∈f.I∨A5 fs x=true)↔(x∈s.inputs∨x∈d0)) (jT:f.df.length+(zp l).length≤4000000)
  (V2 V4 V5 V6 V7 V8 V9 V10 V11 V12 V13 V14 V18 V19 V20:PV) (g:Nat) {Q:PExit→St→Prop}
  (ok:(zt s (d0++f.df) l).1=0→∀h' dv' df' y7 g',Kp q' h h'→(zt s (d0++f.df) l).2=d0++df'→TopAt h' h'.length q' n o d i dv' up { f with D:=df',df:=df' } fs→Q (.exit 4) ⟨[.ptr 3 0,.int .i64 k,V2,.ptr n 0,V4,V5,V6,y7,V8,V9,V10,V11,V12,V13,V14,.list false (l.map zk),.int .i64 l.length,.int .i64 l.length,V18,V19,V20],[],g',h'⟩)
  (no:(zt s (d0++f.df) l).1≠0→∀h' W g',Kp q' h h'→Q (.boom (zK 1 a b (zt s (d0++f.df) l).1)) ⟨W,[],g',h'⟩):
  wpL L KW ⟨[.ptr 3 0,.int .i64 k,V2,.ptr n 0,V4,V5,V6,V7,V8,V9,V10,V11,V12,V13,V14,.list false (l.map zk),.int .i64 l.length,.int .i64 0,V18,V19,V20],[],g,h⟩ Q:=by
 have _:=hL
 rw[KW]
 refine yU l.length (λj st=>∃y7 g' h' dv' df',st=⟨[.ptr 3 0,.int .i64 k,V2,.ptr n 0,V4,V5,V6,y7,V8,V9,V10,V11,V12,V13,V14,.list false (l.map zk),.int .i64 l.length,.int .i64 j,V18,V19,V20],[],g',h'⟩∧Kp q' h h'∧TopAt h' h'.length q' n o d i dv' up { f with D:=df',df:=df' } fs∧zt s (d0++f.df) l=zt s (d0++df') (l.drop j)∧df'.length+(zp (l.drop j)).length=f.df.length+(zp l).length) ?_ ?_ ⟨_,_,h,dv,f.df,rfl,Kp.refl _ _,by rw[Fr.same hD]; exact t,rfl,rfl⟩
 ·rintro j hj st ⟨y7,g',h',dv',df',rfl,dq,ht,dy,cY⟩ ih
  have hw:=yz j (by omega)
  have eB:h'[2]? = some (yF ents):=(dq.2 2 (by have:=ht.four; omega)).trans h2
  have eX:h'[3]? = some (yA en ns a b):=(dq.2 3 (by have:=ht.four; omega)).trans h3
  have se:(zp (l.drop j)).length=(zp [l[j]]).length+(zp (l.drop (j+1))).length:=by
   rw[bg hj,Fg,Fg]; simp[zp]
  obtain⟨h'',hx,fO,ma⟩:=hq _ (ak hj) k dx s fp ej h' eB eX q' n o d i dv' up _ fs ht (by intro x; exact dI x) d0 rfl dQ (by simp only; omega)
  simp only at hx ma
  rw[bg hj,KX] at dy
  by_cases hz:(AZ s (d0++df') l[j]).1=0
  ·obtain⟨dv'',df'',eN,gS⟩:=ma hz
   have iS:zt s (d0++f.df) l=zt s (d0++df'') (l.drop (j+1)):=by
    rw[dy]
    unfold AB
    rw[af hz]
    exact aL (λz=>zt s z (l.drop (j+1))) eN
   have ev:df''.length=df'.length+(zp [l[j]]).length:=by
    rw[Pc hz] at eN
    have:=aL List.length eN
    simp at this
    omega
   rw[hz] at hx
   simp[yx] at hx
   simp[hj,hx,hw]
   exact ih _ ⟨_,_,h'',dv'',df'',rfl,dq.trans fO,gS,iS,by omega⟩
  ·rw[B0 hz] at dy
   simp[yx,hz] at hx
   simp[hj,hx]
   have:=no (by rw[dy]; exact hz) h''
   rw[dy] at this
   exact this _ _ (dq.trans fO)
 ·rintro st ⟨y7,g',h',dv',df',rfl,dq,ht,dy,cY⟩
  rw[bl (am _)] at dy
  simp
  exact ok (by rw[dy]; simp[zt]) h' dv' df' y7 g' dq (by rw[dy]; simp[zt]) ht
theorem c0j (l:List Decl) (hl:l.length≤3300000) (h:List PObj) (h3:h[3]? = some (yA en ns a b)) (q q' n o d:Nat) (i dv up:PV) (f:Fr) (fs:List Fr) (t:TopAt h q q' n o d i dv up f fs)
  (V1 V2 V4 V5 V6 V7 V8 V9 V10 V11 V12 V13 V14 V15 V16 V17:PV) (g:Nat) {Q:PExit→St→Prop}
  (ok:(∀x∈yp l,x∈f.D)→∀y8 g',Q (.exit 6) ⟨[.ptr 3 0,V1,V2,.ptr n 0,V4,V5,V6,V7,y8,V9,V10,V11,V12,V13,V14,V15,V16,V17,.list false (l.map yw),.int .i64 l.length,.int .i64 l.length],[],g',h⟩)
  (no:¬(∀x∈yp l,x∈f.D)→∀W g',Q (.boom (zK 1 a b 8)) ⟨W,[],g',h⟩):
  wpL L KY ⟨[.ptr 3 0,V1,V2,.ptr n 0,V4,V5,V6,V7,V8,V9,V10,V11,V12,V13,V14,V15,V16,V17,.list false (l.map yw),.int .i64 l.length,.int .i64 0],[],g,h⟩ Q:=by
 have hT:=DQ hL en ns a b h h3 8
 have hF:=DR hL en ns a b h h3 8
 have hn:=t.hn
 have hd:=t.hd
 rw[KY]
 refine yU l.length (λj st=>∃y8 g',st=⟨[.ptr 3 0,V1,V2,.ptr n 0,V4,V5,V6,V7,y8,V9,V10,V11,V12,V13,V14,V15,V16,V17,.list false (l.map yw),.int .i64 l.length,.int .i64 j],[],g',h⟩∧∀x∈yp (l.take j),x∈f.D) ?_ ?_ ⟨_,_,rfl,by simp[yp]⟩
 ·rintro j hj st ⟨y8,g',rfl,dS⟩ ih
  have hw:=yz j (by omega)
  obtain⟨r,hr,fG,_⟩:=Dn l[j].name f.D
  have gT:yp (l.take (j+1))=yp (l.take j)++[l[j].name]:=by rw[AH hj,IU hL]; rfl
  by_cases hx:l[j].name∈f.D
  ·simp[hx] at fG
   obtain⟨c,rfl⟩:=fG
   simp[hj,hn,hd,hr,zo,hT,hw]
   refine ih _ ⟨_,_,rfl,?_⟩
   rw[gT]
   intro x hm
   rcases aw.1 hm with h1|h1
   ·exact dS x h1
   ·rw[aQ.1 h1]; exact hx
  ·simp[hx] at fG
   subst fG
   simp[hj,hn,hd,hr,zo,hF]
   exact no (λdT=>hx (dT _ (by unfold yp; exact bh.2 ⟨_,ak hj,rfl⟩))) _ _
 ·rintro st ⟨y8,g',rfl,dS⟩
  rw[aD] at dS
  simp
  exact ok dS _ _
end
end PI.Sc
