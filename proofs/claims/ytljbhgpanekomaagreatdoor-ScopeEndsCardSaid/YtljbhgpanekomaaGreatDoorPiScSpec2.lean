import Derived.Test.YtljbhgpanekomaaGreatDoorPiScSpec
import Derived.Lib.ItoaNum
set_option linter.unusedSimpArgs false
set_option linter.unusedVariables false
namespace PI.Sc
open Go (IntKind BinOp UnOp)
structure Place where
 before:List Node
 vis:List Str
 inputs:List Str
 tags:List Str
def Place.at (s:Place) (vis:List Str):Place:={ s with vis:=vis }
def a0b (l:List Decl):List Str:=l.map (·.name)
def a0M (l other:List Str):List Str:=l.filter λx => !decide (x∈other)
abbrev EN:=Int×List Str
def a4L (a:EN) (f:List Str→EN):EN:=if a.1=0 then f a.2 else(a.1,[])
@[simp] theorem a9f (l:List Str) (f:List Str→EN):a4L (0,l) f=f l:=rfl
theorem a2i {a:EN} (h:a.1≠0) (f:List Str→EN):a4L a f=(a.1,[]):=if_neg h
def callee (before:List Node) (name:Str):Option Node:=before.find? λn=>decide (n.name=name)
def b3E (s:Place) (e:Expr) (outs:Nat):Int:=
 match callee s.before e.name with
 | none=>6
 | some n=>need (decide ((e.args.length:Int)=wrap (n.ins.length+e.v)∧n.outs.length=outs)) 9
def b30 (s:Place) (outs:Nat) (e:Expr):Int:=
 if e.kind=2∨e.kind=8∨e.kind=9 then need (decide (e.name∈s.vis)) 6
 else if e.kind=10 then b3E s e outs else 0
def a2r (s:Place) (e:Expr) (outs:Nat):Int:=a0x (b30 s outs e) (a0d (b30 s 1) (e.args.flatMap Expr.list))
def a9Z (s:Place):List Str→List Str→EN
 | [],d=>(0,d)
 | x::xs,d=>if x∉s.vis then(6,[]) else if x∈s.inputs∨x∈d then(7,[]) else a9Z s xs (d++[x])
def b11 (s:Place) (q:Eqn) (d:List Str):EN:=a4L (a9Z s q.left d) λd=>(a2r s q.right q.left.length,d)
def a5F (s:Place):List Eqn→List Str→EN
 | [],d=>(0,d)
 | q::qs,d=>a4L (b11 s q d) (a5F s qs)
def a27 (tags:List Str):List Decl→List Str→EN
 | [],v=>(0,v)
 | d::ds,v=>if d.name∈v∨d.name∈tags then(7,[]) else a27 tags ds (v++[d.name])
def a4W (vis:List Str) (l:List Decl):Int:=a0d (λd=>a0d (λo=>need (decide (o.name∈vis)) 6) d.clock) l
def a1n (vis tags:List Str) (l:List Decl):EN:=a4L (a27 tags l vis) λv=>(a4W v l,v)
def a6s (s:Place) (l:List Trn):Int:=a0d (λt=>a2r s t.cond 1) l
def b2q (a b:List Str):Bool:=decide (a0M a b=[]∧a0M b a=[])
mutual
def a4f (s:Place) (d:List Str):State→EN
 | .mk n l e a u w =>
   a4L (a1n s.vis s.tags l) λvis=>
   a4L (a5F (s.at vis) e d) λd1=>
   a4L (a1c (s.at vis) d1 a) λd2=>
   a4L (a6s s u,[]) λ_=>
   a4L (a6s (s.at vis) w,[]) λ_=>
   if a0M (a0b l) (a0M d2 d)=[] then(0,a0M (a0M d2 d) (a0b l)) else(8,[])
def a1l (s:Place) (d:List Str):List State→Int×List (List Str)
 | []=>(0,[])
 | x :: xs =>
   let r:=a4f s d x
   if r.1=0 then(let q:=a1l s d xs; if q.1=0 then(0,r.2::q.2) else(q.1,[])) else(r.1,[])
def a1c (s:Place) (d:List Str):List (List State)→EN
 | []=>(0,d)
 | x :: xs =>
   if ¬(x.map (·.name)).Nodup then(7,[])
   else
    let r:=a1l s d x
    if r.1≠0 then(r.1,[])
    else if r.2.all (λl=>b2q l (r.2.headD [])) then a1c s (d++r.2.headD []) xs
    else(8,[])
end
def vars (n:Node):List Decl:=n.ins++n.outs++n.locals
def a5C (s:Place):List Eqn→Nat→List Str→(Nat×Int) ⊕ List Str
 | [],_,d => .inr d
 | q::qs,k,d=>if (b11 s q d).1=0 then a5C s qs (k+1) (b11 s q d).2 else .inl (k,(b11 s q d).1)
def a79 (before:List Node) (tags:List Str) (n:Node):Option Bad:=
 let i:=before.length
 if n.name∈before.map (·.name) then some ⟨i,-1,7⟩
 else
  let r:=a1n [] tags (vars n)
  if r.1≠0 then some ⟨i,-1,r.1⟩
  else
   let s:Place:=⟨before,r.2,a0b n.ins,tags⟩
   match a5C s n.eqs 0 [] with
   | .inl (k,e)=>some ⟨i,k,e⟩
   | .inr d =>
     let c:=a1c s d n.autos
     if c.1≠0 then some ⟨i,-1,c.1⟩
     else
      let a:=a0d (λe=>a2r (s.at (a0b n.ins)) e 1) n.assume
      if a≠0 then some ⟨i,-1,a⟩
      else
       let g:=a0d (λe=>a2r (s.at (a0b n.ins++a0b n.outs)) e 1) n.ensure
       if g≠0 then some ⟨i,-1,g⟩
       else if a0M (a0b n.outs++a0b n.locals) c.2=[] then none else some ⟨i,-1,8⟩
def a4M (tags:List Str):List Node→List Node→Option Bad
 | _,[]=>none
 | before, n :: r => match a79 before tags n with
   | some b=>some b
   | none=>a4M tags (before++[n]) r
def a3p (en:List Enum):List Str:=en.flatMap (·.tags)
def a5Z (en:List Enum):Bool:=decide ((en.map (·.name)).Nodup∧(a3p en).Nodup)
def a36 (p:Prog):Option Bad:=
 match a26 p with
 | some b=>some b
 | none=>if a5Z p.enums then a4M (a3p p.enums) [] p.nodes else some ⟨-1,-1,7⟩
def b21 (l more:List Str):List Str:=more.foldl (λl x=>if x∈l then l else l++[x]) l
def c3X (l:List Eqn):List Str:=b21 [] (l.flatMap (·.left))
mutual
def a6O (out:List Str):List (List State)→List Str
 | []=>out
 | []::xs=>a6O out xs
 | (s::r)::xs=>a6O (b21 out (a0M (a9g s) (a0b s.locals))) xs
def a9g:State→List Str
 | .mk n l e a u w=>a6O (c3X e) a
end
mutual
def c3Y:State→List Expr
 | .mk n l e a u w=>e.map (·.right)++b6o a++u.map (·.cond)++w.map (·.cond)
def b9I:List State→List Expr
 | []=>[]
 | s::r=>c3Y s++b9I r
def b6o:List (List State)→List Expr
 | []=>[]
 | a::r=>b9I a++b6o r
end
def b9J (n:Node):List Expr:=n.eqs.map (·.right)++b6o n.autos++n.assume++n.ensure
def b5b (l:List Decl):List Str:=a0b l++l.flatMap λd=>d.clock.map (·.name)
mutual
def c3Z:State→List Str
 | .mk n l e a u w=>n::b5b l++(e.flatMap (·.left)++b6p a)
def b9K:List State→List Str
 | []=>[]
 | s::r=>c3Z s++b9K r
def b6p:List (List State)→List Str
 | []=>[]
 | a::r=>b9K a++b6p r
end
def c7x (k:Int):Bool := !decide (k=1∨k=3∨k=4∨k=5∨k=6∨k=7∨k=11)
def b9L (e:Expr):List Str:=(e.list.filter λx=>c7x x.kind).map (·.name)
def b9M (n:Node):List Str:=n.name::b5b (vars n)++(n.eqs.flatMap (·.left)++b6p n.autos)++(b9J n).flatMap b9L
def b7g (p:Prog):List Str:=p.enums.flatMap (λu=>u.name::u.tags)++p.nodes.flatMap b9M
def c2d (base:Str) (n:Nat):Str:=base++95::Go.Lib.decDigits n
def b9N (all:List Str) (base:Str):Nat→Nat→Nat
 | 0,n=>n
 | k+1,n=>if c2d base n∈all then b9N all base k (n+1) else n
def c7y (p:Prog) (base:Str):Str:=c2d base (b9N (b7g p) base ((b7g p).length+1) 1)
end PI.Sc
