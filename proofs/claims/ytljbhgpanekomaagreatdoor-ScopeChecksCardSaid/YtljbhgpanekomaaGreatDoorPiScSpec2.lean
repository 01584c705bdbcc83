import Derived.Test.YtljbhgpanekomaaGreatDoorPiScSpec
import Derived.Lib.ItoaNum
set_option linter.unusedSimpArgs false
set_option linter.unusedVariables false
namespace PI.Sc
open Go (IntKind BinOp UnOp)
structure Place where
 before:List Node
 vis:List Str
 inputs:List Str
 tags:List Str
def Place.at (s:Place) (vis:List Str):Place:={ s with vis:=vis }
def wv (l:List Decl):List Str:=l.map (·.name)
def wX (l other:List Str):List Str:=l.filter λx => !decide (x∈other)
abbrev EN:=Int×List Str
def xS (a:EN) (f:List Str→EN):EN:=if a.1=0 then f a.2 else(a.1,[])
@[simp] theorem Aw (l:List Str) (f:List Str→EN):xS (0,l) f=f l:=rfl
theorem xZ {a:EN} (h:a.1≠0) (f:List Str→EN):xS a f=(a.1,[]):=af h
def callee (before:List Node) (name:Str):Option Node:=before.find? λn=>decide (n.name=name)
def EF (s:Place) (e:Expr) (outs:Nat):Int:=
 match callee s.before e.name with
 | none=>6
 | some n=>need (decide ((e.args.length:Int)=wrap (n.ins.length+e.v)∧n.outs.length=outs)) 9
def yf (s:Place) (outs:Nat) (e:Expr):Int:=
 if e.kind=2∨e.kind=8∨e.kind=9 then need (decide (e.name∈s.vis)) 6
 else if e.kind=10 then EF s e outs else 0
def xe (s:Place) (e:Expr) (outs:Nat):Int:=ww (yf s outs e) (wA (yf s 1) (e.args.flatMap Expr.list))
def Ad (s:Place):List Str→List Str→EN
 | [],d=>(0,d)
 | x::xs,d=>if x∉s.vis then(6,[]) else if x∈s.inputs∨x∈d then(7,[]) else Ad s xs (d++[x])
def xz (s:Place) (q:Eqn) (d:List Str):EN:=xS (Ad s q.left d) λd=>(xe s q.right q.left.length,d)
def yT (s:Place):List Eqn→List Str→EN
 | [],d=>(0,d)
 | q::qs,d=>xS (xz s q d) (yT s qs)
def w9 (tags:List Str):List Decl→List Str→EN
 | [],v=>(0,v)
 | d::ds,v=>if d.name∈v∨d.name∈tags then(7,[]) else w9 tags ds (v++[d.name])
def zg (vis:List Str) (l:List Decl):Int:=wA (λd=>wA (λo=>need (decide (o.name∈vis)) 6) d.clock) l
def xI (vis tags:List Str) (l:List Decl):EN:=xS (w9 tags l vis) λv=>(zg v l,v)
def zE (s:Place) (l:List Trn):Int:=wA (λt=>xe s t.cond 1) l
def A7 (a b:List Str):Bool:=decide (wX a b=[]∧wX b a=[])
mutual
def x8 (s:Place) (d:List Str):State→EN
 | .mk n l e a u w =>
   xS (xI s.vis s.tags l) λvis=>
   xS (yT (s.at vis) e d) λd1=>
   xS (xw (s.at vis) d1 a) λd2=>
   xS (zE s u,[]) λ_=>
   xS (zE (s.at vis) w,[]) λ_=>
   if wX (wv l) (wX d2 d)=[] then(0,wX (wX d2 d) (wv l)) else(8,[])
def yM (s:Place) (d:List Str):List State→Int×List (List Str)
 | []=>(0,[])
 | x :: xs =>
   let r:=x8 s d x
   if r.1=0 then(let q:=yM s d xs; if q.1=0 then(0,r.2::q.2) else(q.1,[])) else(r.1,[])
def xw (s:Place) (d:List Str):List (List State)→EN
 | []=>(0,d)
 | x :: xs =>
   if ¬(x.map (·.name)).Nodup then(7,[])
   else
    let r:=yM s d x
    if r.1≠0 then(r.1,[])
    else if r.2.all (λl=>A7 l (r.2.headD [])) then xw s (d++r.2.headD []) xs
    else(8,[])
end
def vars (n:Node):List Decl:=n.ins++n.outs++n.locals
def zT (s:Place):List Eqn→Nat→List Str→(Nat×Int) ⊕ List Str
 | [],_,d => .inr d
 | q::qs,k,d=>if (xz s q d).1=0 then zT s qs (k+1) (xz s q d).2 else .inl (k,(xz s q d).1)
def zU (before:List Node) (tags:List Str) (n:Node):Option Bad:=
 let i:=before.length
 if n.name∈before.map (·.name) then some ⟨i,-1,7⟩
 else
  let r:=xI [] tags (vars n)
  if r.1≠0 then some ⟨i,-1,r.1⟩
  else
   let s:Place:=⟨before,r.2,wv n.ins,tags⟩
   match zT s n.eqs 0 [] with
   | .inl (k,e)=>some ⟨i,k,e⟩
   | .inr d =>
     let c:=xw s d n.autos
     if c.1≠0 then some ⟨i,-1,c.1⟩
     else
      let a:=wA (λe=>xe (s.at (wv n.ins)) e 1) n.assume
      if a≠0 then some ⟨i,-1,a⟩
      else
       let g:=wA (λe=>xe (s.at (wv n.ins++wv n.outs)) e 1) n.ensure
       if g≠0 then some ⟨i,-1,g⟩
       else if wX (wv n.outs++wv n.locals) c.2=[] then none else some ⟨i,-1,8⟩
def AG (tags:List Str):List Node→List Node→Option Bad
 | _,[]=>none
 | before, n :: r => match zU before tags n with
   | some b=>some b
   | none=>AG tags (before++[n]) r
def yw (en:List Enum):List Str:=en.flatMap (·.tags)
def BO (en:List Enum):Bool:=decide ((en.map (·.name)).Nodup∧(yw en).Nodup)
def El (p:Prog):Option Bad:=
 match A4 p with
 | some b=>some b
 | none=>if BO p.enums then AG (yw p.enums) [] p.nodes else some ⟨-1,-1,7⟩
def EB (l more:List Str):List Str:=more.foldl (λl x=>if x∈l then l else l++[x]) l
def KW (l:List Eqn):List Str:=EB [] (l.flatMap (·.left))
mutual
def DI (out:List Str):List (List State)→List Str
 | []=>out
 | []::xs=>DI out xs
 | (s::r)::xs=>DI (EB out (wX (FT s) (wv s.locals))) xs
def FT:State→List Str
 | .mk n l e a u w=>DI (KW e) a
end
mutual
def c7c:State→List Expr
 | .mk n l e a u w=>e.map (·.right)++LB a++u.map (·.cond)++w.map (·.cond)
def Qk:List State→List Expr
 | []=>[]
 | s::r=>c7c s++Qk r
def LB:List (List State)→List Expr
 | []=>[]
 | a::r=>Qk a++LB r
end
def c2Z (n:Node):List Expr:=n.eqs.map (·.right)++LB n.autos++n.assume++n.ensure
def Ql (l:List Decl):List Str:=wv l++l.flatMap λd=>d.clock.map (·.name)
mutual
def c7d:State→List Str
 | .mk n l e a u w=>n::Ql l++(e.flatMap (·.left)++LC a)
def Qm:List State→List Str
 | []=>[]
 | s::r=>c7d s++Qm r
def LC:List (List State)→List Str
 | []=>[]
 | a::r=>Qm a++LC r
end
def d0B (k:Int):Bool := !decide (k=1∨k=3∨k=4∨k=5∨k=6∨k=7∨k=11)
def c21 (e:Expr):List Str:=(e.list.filter λx=>d0B x.kind).map (·.name)
def c22 (n:Node):List Str:=n.name::Ql (vars n)++(n.eqs.flatMap (·.left)++LC n.autos)++(c2Z n).flatMap c21
def Qn (p:Prog):List Str:=p.enums.flatMap (λu=>u.name::u.tags)++p.nodes.flatMap c22
def Qo (base:Str) (n:Nat):Str:=base++95::Go.Lib.decDigits n
def Qp (all:List Str) (base:Str):Nat→Nat→Nat
 | 0,n=>n
 | k+1,n=>if Qo base n∈all then Qp all base k (n+1) else n
def L3 (p:Prog) (base:Str):Str:=Qo base (Qp (Qn p) base ((Qn p).length+1) 1)
end PI.Sc
