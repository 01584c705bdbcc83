import Derived.Test.YtljbhgpanekomaaGreatDoorPiScSpec
import Derived.Lib.ItoaNum
set_option linter.unusedSimpArgs false
set_option linter.unusedVariables false
namespace PI.Sc
open Go (IntKind BinOp UnOp)
structure Place where
 before:List Node
 vis:List Str
 inputs:List Str
 tags:List Str
def Place.at (s:Place) (vis:List Str):Place:={ s with vis:=vis }
def vV (l:List Decl):List Str:=l.map (·.name)
def wM (l other:List Str):List Str:=l.filter λx => !decide (x∈other)
abbrev EN:=Int×List Str
def xY (a:EN) (f:List Str→EN):EN:=if a.1=0 then f a.2 else(a.1,[])
@[simp] theorem Fd (l:List Str) (f:List Str→EN):xY (0,l) f=f l:=rfl
theorem zF {a:EN} (h:a.1≠0) (f:List Str→EN):xY a f=(a.1,[]):=ae h
def callee (before:List Node) (name:Str):Option Node:=before.find? λn=>decide (n.name=name)
def EY (s:Place) (e:Expr) (outs:Nat):Int:=
 match callee s.before e.name with
 | none=>6
 | some n=>need (decide ((e.args.length:Int)=wrap (n.ins.length+e.v)∧n.outs.length=outs)) 9
def yV (s:Place) (outs:Nat) (e:Expr):Int:=
 if e.kind=2∨e.kind=8∨e.kind=9 then need (decide (e.name∈s.vis)) 6
 else if e.kind=10 then EY s e outs else 0
def wR (s:Place) (e:Expr) (outs:Nat):Int:=wd (yV s outs e) (wg (yV s 1) (e.args.flatMap Expr.list))
def Au (s:Place):List Str→List Str→EN
 | [],d=>(0,d)
 | x::xs,d=>if x∉s.vis then(6,[]) else if x∈s.inputs∨x∈d then(7,[]) else Au s xs (d++[x])
def ym (s:Place) (q:Eqn) (d:List Str):EN:=xY (Au s q.left d) λd=>(wR s q.right q.left.length,d)
def yy (s:Place):List Eqn→List Str→EN
 | [],d=>(0,d)
 | q::qs,d=>xY (ym s q d) (yy s qs)
def xq (tags:List Str):List Decl→List Str→EN
 | [],v=>(0,v)
 | d::ds,v=>if d.name∈v∨d.name∈tags then(7,[]) else xq tags ds (v++[d.name])
def AI (vis:List Str) (l:List Decl):Int:=wg (λd=>wg (λo=>need (decide (o.name∈vis)) 6) d.clock) l
def ye (vis tags:List Str) (l:List Decl):EN:=xY (xq tags l vis) λv=>(AI v l,v)
def Ah (s:Place) (l:List Trn):Int:=wg (λt=>wR s t.cond 1) l
def By (a b:List Str):Bool:=decide (wM a b=[]∧wM b a=[])
mutual
def yD (s:Place) (d:List Str):State→EN
 | .mk n l e a u w =>
   xY (ye s.vis s.tags l) λvis=>
   xY (yy (s.at vis) e d) λd1=>
   xY (wV (s.at vis) d1 a) λd2=>
   xY (Ah s u,[]) λ_=>
   xY (Ah (s.at vis) w,[]) λ_=>
   if wM (vV l) (wM d2 d)=[] then(0,wM (wM d2 d) (vV l)) else(8,[])
def xr (s:Place) (d:List Str):List State→Int×List (List Str)
 | []=>(0,[])
 | x :: xs =>
   let r:=yD s d x
   if r.1=0 then(let q:=xr s d xs; if q.1=0 then(0,r.2::q.2) else(q.1,[])) else(r.1,[])
def wV (s:Place) (d:List Str):List (List State)→EN
 | []=>(0,d)
 | x :: xs =>
   if ¬(x.map (·.name)).Nodup then(7,[])
   else
    let r:=xr s d x
    if r.1≠0 then(r.1,[])
    else if r.2.all (λl=>By l (r.2.headD [])) then wV s (d++r.2.headD []) xs
    else(8,[])
end
def vars (n:Node):List Decl:=n.ins++n.outs++n.locals
def zQ (s:Place):List Eqn→Nat→List Str→(Nat×Int) ⊕ List Str
 | [],_,d => .inr d
 | q::qs,k,d=>if (ym s q d).1=0 then zQ s qs (k+1) (ym s q d).2 else .inl (k,(ym s q d).1)
def zG (before:List Node) (tags:List Str) (n:Node):Option Bad:=
 let i:=before.length
 if n.name∈before.map (·.name) then some ⟨i,-1,7⟩
 else
  let r:=ye [] tags (vars n)
  if r.1≠0 then some ⟨i,-1,r.1⟩
  else
   let s:Place:=⟨before,r.2,vV n.ins,tags⟩
   match zQ s n.eqs 0 [] with
   | .inl (k,e)=>some ⟨i,k,e⟩
   | .inr d =>
     let c:=wV s d n.autos
     if c.1≠0 then some ⟨i,-1,c.1⟩
     else
      let a:=wg (λe=>wR (s.at (vV n.ins)) e 1) n.assume
      if a≠0 then some ⟨i,-1,a⟩
      else
       let g:=wg (λe=>wR (s.at (vV n.ins++vV n.outs)) e 1) n.ensure
       if g≠0 then some ⟨i,-1,g⟩
       else if wM (vV n.outs++vV n.locals) c.2=[] then none else some ⟨i,-1,8⟩
def Ad (tags:List Str):List Node→List Node→Option Bad
 | _,[]=>none
 | before, n :: r => match zG before tags n with
   | some b=>some b
   | none=>Ad tags (before++[n]) r
def yQ (en:List Enum):List Str:=en.flatMap (·.tags)
def Bt (en:List Enum):Bool:=decide ((en.map (·.name)).Nodup∧(yQ en).Nodup)
def BS (p:Prog):Option Bad:=
 match AJ p with
 | some b=>some b
 | none=>if Bt p.enums then Ad (yQ p.enums) [] p.nodes else some ⟨-1,-1,7⟩
def yx (l more:List Str):List Str:=more.foldl (λl x=>if x∈l then l else l++[x]) l
def zt (l:List Eqn):List Str:=yx [] (l.flatMap (·.left))
mutual
def yE (out:List Str):List (List State)→List Str
 | []=>out
 | []::xs=>yE out xs
 | (s::r)::xs=>yE (yx out (wM (zJ s) (vV s.locals))) xs
def zJ:State→List Str
 | .mk n l e a u w=>yE (zt e) a
end
def defined (n:Node):List Str:=yE (zt n.eqs) n.autos
mutual
def EX:State→List Expr
 | .mk n l e a u w=>e.map (·.right)++zu a++u.map (·.cond)++w.map (·.cond)
def Cm:List State→List Expr
 | []=>[]
 | s::r=>EX s++Cm r
def zu:List (List State)→List Expr
 | []=>[]
 | a::r=>Cm a++zu r
end
def zf (n:Node):List Expr:=n.eqs.map (·.right)++zu n.autos++n.assume++n.ensure
def Ai (ns:List Node) (name:Str):Option Nat:=ns.findIdx? λn=>decide (n.name=name)
def EZ (n:Node):List Str:=(((zf n).flatMap Expr.list).filter λe=>decide (e.kind=10)).map (·.name)
def zw (ns:List Node) (n:Node):List Nat:=(List.range ns.length).filter λi=>decide (Ai ns (ns.getD i default).name=some i∧(ns.getD i default).name∈EZ n)
def OB (l:List Decl):List Str:=vV l++l.flatMap λd=>d.clock.map (·.name)
mutual
def c5b:State→List Str
 | .mk n l e a u w=>n::OB l++(e.flatMap (·.left)++J7 a)
def OC:List State→List Str
 | []=>[]
 | s::r=>c5b s++OC r
def J7:List (List State)→List Str
 | []=>[]
 | a::r=>OC a++J7 r
end
def c8K (k:Int):Bool := !decide (k=1∨k=3∨k=4∨k=5∨k=6∨k=7∨k=11)
def c0G (e:Expr):List Str:=(e.list.filter λx=>c8K x.kind).map (·.name)
def c0H (n:Node):List Str:=n.name::OB (vars n)++(n.eqs.flatMap (·.left)++J7 n.autos)++(zf n).flatMap c0G
def OD (p:Prog):List Str:=p.enums.flatMap (λu=>u.name::u.tags)++p.nodes.flatMap c0H
def OE (base:Str) (n:Nat):Str:=base++95::Go.Lib.decDigits n
def OF (all:List Str) (base:Str):Nat→Nat→Nat
 | 0,n=>n
 | k+1,n=>if OE base n∈all then OF all base k (n+1) else n
def Kw (p:Prog) (base:Str):Str:=OE base (OF (OD p) base ((OD p).length+1) 1)
end PI.Sc
