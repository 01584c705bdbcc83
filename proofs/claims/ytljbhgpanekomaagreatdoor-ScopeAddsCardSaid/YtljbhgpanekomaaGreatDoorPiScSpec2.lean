import Derived.Test.YtljbhgpanekomaaGreatDoorPiScSpec
import Derived.Lib.ItoaNum
set_option linter.unusedSimpArgs false
set_option linter.unusedVariables false
namespace PI.Sc
open Go (IntKind BinOp UnOp)
structure Place where
 before:List Node
 vis:List Str
 inputs:List Str
 tags:List Str
def Place.at (s:Place) (vis:List Str):Place:={ s with vis:=vis }
def wm (l:List Decl):List Str:=l.map (·.name)
def xy (l other:List Str):List Str:=l.filter λx => !decide (x∈other)
abbrev EN:=Int×List Str
def yt (a:EN) (f:List Str→EN):EN:=if a.1=0 then f a.2 else(a.1,[])
@[simp] theorem Eg (l:List Str) (f:List Str→EN):yt (0,l) f=f l:=rfl
theorem zO {a:EN} (h:a.1≠0) (f:List Str→EN):yt a f=(a.1,[]):=af h
def callee (before:List Node) (name:Str):Option Node:=before.find? λn=>decide (n.name=name)
def Fx (s:Place) (e:Expr) (outs:Nat):Int:=
 match callee s.before e.name with
 | none=>6
 | some n=>need (decide ((e.args.length:Int)=wrap (n.ins.length+e.v)∧n.outs.length=outs)) 9
def yU (s:Place) (outs:Nat) (e:Expr):Int:=
 if e.kind=2∨e.kind=8∨e.kind=9 then need (decide (e.name∈s.vis)) 6
 else if e.kind=10 then Fx s e outs else 0
def xg (s:Place) (e:Expr) (outs:Nat):Int:=wx (yU s outs e) (ww (yU s 1) (e.args.flatMap Expr.list))
def Ao (s:Place):List Str→List Str→EN
 | [],d=>(0,d)
 | x::xs,d=>if x∉s.vis then(6,[]) else if x∈s.inputs∨x∈d then(7,[]) else Ao s xs (d++[x])
def yn (s:Place) (q:Eqn) (d:List Str):EN:=yt (Ao s q.left d) λd=>(xg s q.right q.left.length,d)
def yo (s:Place):List Eqn→List Str→EN
 | [],d=>(0,d)
 | q::qs,d=>yt (yn s q d) (yo s qs)
def xI (tags:List Str):List Decl→List Str→EN
 | [],v=>(0,v)
 | d::ds,v=>if d.name∈v∨d.name∈tags then(7,[]) else xI tags ds (v++[d.name])
def AZ (vis:List Str) (l:List Decl):Int:=ww (λd=>ww (λo=>need (decide (o.name∈vis)) 6) d.clock) l
def yE (vis tags:List Str) (l:List Decl):EN:=yt (xI tags l vis) λv=>(AZ v l,v)
def zZ (s:Place) (l:List Trn):Int:=ww (λt=>xg s t.cond 1) l
def B1 (a b:List Str):Bool:=decide (xy a b=[]∧xy b a=[])
mutual
def yM (s:Place) (d:List Str):State→EN
 | .mk n l e a u w =>
   yt (yE s.vis s.tags l) λvis=>
   yt (yo (s.at vis) e d) λd1=>
   yt (xj (s.at vis) d1 a) λd2=>
   yt (zZ s u,[]) λ_=>
   yt (zZ (s.at vis) w,[]) λ_=>
   if xy (wm l) (xy d2 d)=[] then(0,xy (xy d2 d) (wm l)) else(8,[])
def xA (s:Place) (d:List Str):List State→Int×List (List Str)
 | []=>(0,[])
 | x :: xs =>
   let r:=yM s d x
   if r.1=0 then(let q:=xA s d xs; if q.1=0 then(0,r.2::q.2) else(q.1,[])) else(r.1,[])
def xj (s:Place) (d:List Str):List (List State)→EN
 | []=>(0,d)
 | x :: xs =>
   if ¬(x.map (·.name)).Nodup then(7,[])
   else
    let r:=xA s d x
    if r.1≠0 then(r.1,[])
    else if r.2.all (λl=>B1 l (r.2.headD [])) then xj s (d++r.2.headD []) xs
    else(8,[])
end
def vars (n:Node):List Decl:=n.ins++n.outs++n.locals
def zI (s:Place):List Eqn→Nat→List Str→(Nat×Int) ⊕ List Str
 | [],_,d => .inr d
 | q::qs,k,d=>if (yn s q d).1=0 then zI s qs (k+1) (yn s q d).2 else .inl (k,(yn s q d).1)
def zc (before:List Node) (tags:List Str) (n:Node):Option Bad:=
 let i:=before.length
 if n.name∈before.map (·.name) then some ⟨i,-1,7⟩
 else
  let r:=yE [] tags (vars n)
  if r.1≠0 then some ⟨i,-1,r.1⟩
  else
   let s:Place:=⟨before,r.2,wm n.ins,tags⟩
   match zI s n.eqs 0 [] with
   | .inl (k,e)=>some ⟨i,k,e⟩
   | .inr d =>
     let c:=xj s d n.autos
     if c.1≠0 then some ⟨i,-1,c.1⟩
     else
      let a:=ww (λe=>xg (s.at (wm n.ins)) e 1) n.assume
      if a≠0 then some ⟨i,-1,a⟩
      else
       let g:=ww (λe=>xg (s.at (wm n.ins++wm n.outs)) e 1) n.ensure
       if g≠0 then some ⟨i,-1,g⟩
       else if xy (wm n.outs++wm n.locals) c.2=[] then none else some ⟨i,-1,8⟩
def zp (tags:List Str):List Node→List Node→Option Bad
 | _,[]=>none
 | before, n :: r => match zc before tags n with
   | some b=>some b
   | none=>zp tags (before++[n]) r
def xL (en:List Enum):List Str:=en.flatMap (·.tags)
def BU (en:List Enum):Bool:=decide ((en.map (·.name)).Nodup∧(xL en).Nodup)
def A1 (p:Prog):Option Bad:=
 match zV p with
 | some b=>some b
 | none=>if BU p.enums then zp (xL p.enums) [] p.nodes else some ⟨-1,-1,7⟩
def Ee (l more:List Str):List Str:=more.foldl (λl x=>if x∈l then l else l++[x]) l
def Kh (l:List Eqn):List Str:=Ee [] (l.flatMap (·.left))
mutual
def Dk (out:List Str):List (List State)→List Str
 | []=>out
 | []::xs=>Dk out xs
 | (s::r)::xs=>Dk (Ee out (xy (Fv s) (wm s.locals))) xs
def Fv:State→List Str
 | .mk n l e a u w=>Dk (Kh e) a
end
mutual
def Fz:State→List Expr
 | .mk n l e a u w=>e.map (·.right)++zL a++u.map (·.cond)++w.map (·.cond)
def CQ:List State→List Expr
 | []=>[]
 | s::r=>Fz s++CQ r
def zL:List (List State)→List Expr
 | []=>[]
 | a::r=>CQ a++zL r
end
def Dh (n:Node):List Expr:=n.eqs.map (·.right)++zL n.autos++n.assume++n.ensure
def Bu (l:List Decl):List Str:=wm l++l.flatMap λd=>d.clock.map (·.name)
mutual
def Cl:State→List Str
 | .mk n l e a u w=>n::Bu l++(e.flatMap (·.left)++yL a)
def A8:List State→List Str
 | []=>[]
 | s::r=>Cl s++A8 r
def yL:List (List State)→List Str
 | []=>[]
 | a::r=>A8 a++yL r
end
def G8 (k:Int):Bool := !decide (k=1∨k=3∨k=4∨k=5∨k=6∨k=7∨k=11)
def AM (e:Expr):List Str:=(e.list.filter λx=>G8 x.kind).map (·.name)
def Cm (n:Node):List Str:=n.name::Bu (vars n)++(n.eqs.flatMap (·.left)++yL n.autos)++(Dh n).flatMap AM
def Az (p:Prog):List Str:=p.enums.flatMap (λu=>u.name::u.tags)++p.nodes.flatMap Cm
def x8 (base:Str) (n:Nat):Str:=base++95::Go.Lib.decDigits n
def Hh (all:List Str) (base:Str):Nat→Nat→Nat
 | 0,n=>n
 | k+1,n=>if x8 base n∈all then Hh all base k (n+1) else n
def BH (p:Prog) (base:Str):Str:=x8 base (Hh (Az p) base ((Az p).length+1) 1)
end PI.Sc
